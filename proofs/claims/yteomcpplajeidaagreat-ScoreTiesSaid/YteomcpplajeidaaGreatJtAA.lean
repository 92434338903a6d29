/-
  Lemmas of this claim (JtAA). Nothing is asked.
-/
import Derived.Test.YteomcpplajeidaaGreatJtY
import Derived.Test.YteomcpplajeidaaGreatJtZ
import Derived.Test.YteomcpplajeidaaGreatJtQ
namespace Go.Proofs.YteomcpplajeidaaGreat
set_option linter.unusedVariables false
set_option linter.unusedSimpArgs false
set_option maxRecDepth 100000
open Go.RowKit
abbrev put5at (w : World) (q o : Nat) (b0 b1 b2 b3 b4 : Value) : World := ((((w.setCell ⟨q, o, none⟩ b0).setCell ⟨q, o + 1, none⟩ b1).setCell ⟨q, o + 2, none⟩ b2).setCell ⟨q, o + 3, none⟩ b3).setCell ⟨q, o + 4, none⟩ b4
theorem PX.zero3 {T : TypeId} {w : World} {p k : Nat} {tv : Value} {l : List (ByteArray × Int)} {rest : List Value} (h : PX T w p tv l k rest) : PX T (w.setCell ⟨p, 3, none⟩ (.int .i64 0)) p tv l k rest :=
  ⟨(heap_put _ h.at_).trans (by simp), h.tok.kx ((KX.of_ext (Ext.refl _)).set _) h.ne, h.ne⟩
theorem PX.zero2 {T : TypeId} {w : World} {p k : Nat} {tv : Value} {l : List (ByteArray × Int)} {rest : List Value} (h : PX T w p tv l k rest) : PX T (w.setCell ⟨p, 2, none⟩ (.int .i64 0)) p tv l k rest :=
  ⟨(heap_put _ h.at_).trans (by simp), h.tok.kx ((KX.of_ext (Ext.refl _)).set _) h.ne, h.ne⟩
set_option maxHeartbeats 8000000 in
theorem line_formula (p : Nat) (tv : Value) (l : List (ByteArray × Int)) (S : ByteArray) (r : TnR) (sv : Value) (ed : Int) (w : World) (h : PX 166 w p tv l 1 (restOf S r sv)) (hl : 1 < l.length) (a fr : Nat) (ha : l[0].2 = (a : Int)) (hfr : fr = a + 7) (hab : a ≤ 100000) (t : Ex) (hz0 : l[l.length - 1].1 = ⟨#[]⟩)
    (hR : ∀ wz : World, Calls Tryz.prog 182 #[.string S, .int .i64 fr, .int .i64 ed] wz fun e w' => ∃ v, e = .returned (.tuple #[v, .int .i64 0, .int .i64 0]) ∧ Rd (fun b => wz.heap.size < b) w' t v ∧ Ext wz w') :
    Calls Tryz.prog 144 #[.pointer (some ⟨p, 0, none⟩), .string ⟨#[102, 111, 114, 109, 117, 108, 97]⟩, .int .i64 ed] w fun e w' => e = .returned (.tuple #[]) ∧ ∃ op n1 n2 nm fa fn fc, PX 166 w' p tv l (l.length - 1) (restOf S { r with fo := op, f1 := n1, f2 := n2, fn := nm, fa := (fa, fn, fc) } sv) ∧ Rd (fun b => w.heap.size < b) w' t (.agg #[.string op, .int .i64 n1, .int .i64 n2, .string nm, .slice fa fn fc]) ∧ KX p w w' := by
  have HW0 : Hid (∀ wz rest (hz : PX 166 wz p tv l (l.length - 1) rest), Calls Tryz.prog 140 #[.pointer (some ⟨p, 0, none⟩)] wz fun e w' => e = .returned (.string ⟨#[]⟩) ∧ Ext wz w') := Lib.hid (fun wz rest hz => by have := text_any p tv l (l.length - 1) wz hz.c.1 hz.c.2.1 hz.tok (by omega); rw [hz0] at this; exact this)
  have HR := Lib.hid hR
  have HP := Lib.hid h
  have hll : l.length ≤ 1000000 := h.tok.le
  obtain ⟨base, cap, rfl⟩ := h.tok.form
  obtain ⟨g, rfl, -, hg, -, d1⟩ := tok_at h.tok 0 (by omega)
  simp only [Nat.zero_mul, Nat.zero_add] at d1
  rw [ha] at d1
  have hpl := Rg.lt_of_heap h.at_
  obtain ⟨c0, c1, c2, c3⟩ := HP.out.c
  have hlen0 : (0 : Int) < (l.length : Int) := by omega
  have hw7 : IntKind.i64.wrap ((a : Int) + 7) = (fr : Int) := by rw [IntKind.wrap_i64]; omega
  have hwl : IntKind.i64.wrap ((l.length : Int) - 1) = ((l.length - 1 : Nat) : Int) := by rw [IntKind.wrap_i64]; omega
  clear h hz0 hR ha hfr
  go_enter Tryz.func144, Tryz.ntmps144
  go_upto_region 20 with (fail)
  go_quiet (fail)
  go_upto_region 22 with (fail)
  have hxq : Ext w (w.drewN nq) := (by with_reducible repeat (first | exact Ext.refl _ | assumption | apply Ext.drewN | apply Ext.drew | apply Ext.alloc | (refine Ext.setCell ?_ (by simp <;> omega) _) | (refine Ext.trans ?_ (by assumption))))
  generalize w.drewN nq = w1 at *
  have HP1 := Lib.hid (HP.out.ext hxq)
  have HX1 := Lib.hid hxq
  clear hxq c0 c1 c2 c3 d1 hpl hg
  have r0 : w1.cell? ⟨p, 4, none⟩ = some (.string S) := HP1.out.r 0
  have hpl := Rg.lt_of_heap HP1.out.at_
  go_upto_region 23 with (go_at_call 182; (with_reducible refine (HR.out _).mono ?_); rintro e w2 ⟨v, rfl, hr2, hx2⟩; obtain ⟨op, n1, n2, nm, fa, fn, fc, rfl⟩ := hr2.form; have HR2 := Lib.hid hr2; have HX2 := Lib.hid hx2; have HP2 := Lib.hid (HP1.out.ext hx2); clear hr2 hx2; have q0 : w2.cell? ⟨p, 11, none⟩ = some (.string r.fo) := HP2.out.r 7; have q1 : w2.cell? ⟨p, 12, none⟩ = some (.int .i64 r.f1) := HP2.out.r 8; have q2 : w2.cell? ⟨p, 13, none⟩ = some (.int .i64 r.f2) := HP2.out.r 9; have q3 : w2.cell? ⟨p, 14, none⟩ = some (.string r.fn) := HP2.out.r 10; have q4 : w2.cell? ⟨p, 15, none⟩ = some (slV r.fa) := HP2.out.r 11; obtain ⟨c0, c1, c2, c3⟩ := HP2.out.c; have hfz : ∀ o, w2.frozen? ⟨p, o, none⟩ = false := fun o => put_frozen HP2.out.at_; have g0 := hfz 11; have g1 := hfz 12; have g2 := hfz 13; have g3 := hfz 14; have g4 := hfz 15; have g5 := hfz 3; have hpl2 := Rg.lt_of_heap HP2.out.at_; clear hfz)
  have HP3 : Hid (PX 166 ((put5at w2 p 11 (.string op) (.int .i64 n1) (.int .i64 n2) (.string nm) (.slice fa fn fc)).setCell ⟨p, 3, none⟩ (.int .i64 0)) p _ l 1 (restOf S { r with fo := op, f1 := n1, f2 := n2, fn := nm, fa := (fa, fn, fc) } sv)) := Lib.hid (((((HP2.out.put 7 (.string op)).put 8 (.int .i64 n1)).put 9 (.int .i64 n2)).put 10 (.string nm)).put 11 (.slice fa fn fc)).zero3
  have hk3 : KX p w2 ((put5at w2 p 11 (.string op) (.int .i64 n1) (.int .i64 n2) (.string nm) (.slice fa fn fc)).setCell ⟨p, 3, none⟩ (.int .i64 0)) := ((((((KX.of_ext (Ext.refl w2)).set _).set _).set _).set _).set _).set _
  have hs1 := HX1.out.size
  have HR3 := Lib.hid (HR2.out.kx hk3 (fun b hb => by have := Rg.lt_of_heap HP.out.at_; omega))
  have HX3 := Lib.hid ((KX.of_ext (HX1.out.trans HX2.out)).trans hk3)
  clear hk3 q0 q1 q2 q3 q4 c0 c1 c2 c3 g0 g1 g2 g3 g4 g5 hpl2
  simp only [put5at] at HP3 HR3 HX3
  generalize (((((w2.setCell ⟨p, 11, none⟩ (.string op)).setCell ⟨p, 12, none⟩ (.int .i64 n1)).setCell ⟨p, 13, none⟩ (.int .i64 n2)).setCell ⟨p, 14, none⟩ (.string nm)).setCell ⟨p, 15, none⟩ (.slice fa fn fc)).setCell ⟨p, 3, none⟩ (.int .i64 0) = w3 at *
  obtain ⟨c0, c1, c2, c3⟩ := HP3.out.c
  have f2 : w3.frozen? ⟨p, 2, none⟩ = false := put_frozen HP3.out.at_
  have hpl3 := Rg.lt_of_heap HP3.out.at_
  go_upto_region 24 with (fail)
  have HP4 := Lib.hid HP3.out.zero2
  have HX4 := Lib.hid (HX3.out.set (j := 2) (.int .i64 0))
  have HR4 := Lib.hid (HR3.out.kx ((KX.of_ext (bn := p) (Ext.refl w3)).set (j := 2) (.int .i64 0)) (fun b hb => by have := Rg.lt_of_heap HP.out.at_; omega))
  clear c0 c1 c2 c3 f2 hpl3
  generalize w3.setCell ⟨p, 2, none⟩ (.int .i64 0) = w4 at *
  obtain ⟨c0, c1, c2, c3⟩ := HP4.out.c
  have f1 : w4.frozen? ⟨p, 1, none⟩ = false := put_frozen HP4.out.at_
  have hpl4 := Rg.lt_of_heap HP4.out.at_
  go_upto_region 39 with (fail)
  have HP5 := Lib.hid (HP4.out.step (l.length - 1))
  have HX5 := Lib.hid (HX4.out.set (j := 1) (.int .i64 (l.length - 1 : Nat)))
  have HR5 := Lib.hid (HR4.out.kx ((KX.of_ext (bn := p) (Ext.refl w4)).set (j := 1) (.int .i64 (l.length - 1 : Nat))) (fun b hb => by have := Rg.lt_of_heap HP.out.at_; omega))
  clear c0 c1 c2 c3 f1 hpl4
  generalize w4.setCell ⟨p, 1, none⟩ (.int .i64 (l.length - 1 : Nat)) = w5 at *
  obtain ⟨c0, c1, c2, c3⟩ := HP5.out.c
  have hpl5 := Rg.lt_of_heap HP5.out.at_
  go_wp2_with (go_at_call 140; (with_reducible refine (HW0.out _ _ HP5.out).mono ?_); rintro e w6 ⟨rfl, hx6⟩; have HX6 := Lib.hid hx6; clear hx6)
  go_end0
  exact ⟨rfl, op, n1, n2, nm, fa, fn, fc, HP5.out.ext HX6.out, (Rd.frame (fun _ _ _ _ => rfl) (fun b hb => by omega) _ _ HR5.out).ext HX6.out, HX5.out.ext HX6.out⟩
end Go.Proofs.YteomcpplajeidaaGreat
namespace Go.Proofs.YteomcpplajeidaaGreat
set_option linter.unusedVariables false
set_option linter.unusedSimpArgs false
set_option maxRecDepth 100000
open Go.RowKit
set_option maxHeartbeats 16000000 in
theorem full_any (p : Nat) (tv : Value) (l : List (ByteArray × Int)) (k : Nat) (S : ByteArray) (r : TnR) (sv : Value) (word : ByteArray) (w : World) (h : PX 166 w p tv l k (restOf S r sv)) (h1 : r.ls.2.1 < 12) (h2 : r.cs.2.1 < 12) (h3 : r.rs.2.1 < 24) (h4 : r.ks.2.1 < 12) :
    Calls Tryz.prog 142 #[.pointer (some ⟨p, 0, none⟩), .string word] w fun e w' => e = .returned (.bool false) ∧ w = w' := by
  obtain ⟨nm, ⟨l0, l1, l2⟩, ⟨a0, a1, a2⟩, ⟨b0, b1, b2⟩, low, high, fo, f1, f2, fn, fa, ts, most, ⟨k0, k1, k2⟩, budget, t0, t1, t2, t3, t4⟩ := r
  simp only at h1 h2 h3 h4
  have r2 : w.cell? ⟨p, 6, none⟩ = some (.slice l0 l1 l2) := h.r 2
  have r3 : w.cell? ⟨p, 7, none⟩ = some (.slice a0 a1 a2) := h.r 3
  have r4 : w.cell? ⟨p, 8, none⟩ = some (.slice b0 b1 b2) := h.r 4
  have r14 : w.cell? ⟨p, 18, none⟩ = some (.slice k0 k1 k2) := h.r 14
  have hpl := Rg.lt_of_heap h.at_
  have q1 : ((l1 : Int) == 12) = false := by rw [beq_eq_false_iff_ne]; omega
  have q2 : ((a1 : Int) == 12) = false := by rw [beq_eq_false_iff_ne]; omega
  have q3 : ((b1 : Int) == 24) = false := by rw [beq_eq_false_iff_ne]; omega
  have q4 : ((k1 : Int) == 12) = false := by rw [beq_eq_false_iff_ne]; omega
  clear h h1 h2 h3 h4
  cases e1 : (word.toList == [108, 111, 116]) <;> cases e2 : (word.toList == [99, 114, 105, 116, 101, 114, 105, 111, 110]) <;> cases e3 : (word.toList == [114, 101, 113, 117, 105, 114, 101]) <;> cases e4 : (word.toList == [99, 111, 109, 98, 111])
  all_goals
    go_enter Tryz.func142, Tryz.ntmps142
    go_wp2_with (fail)
    go_ret
    exact ⟨rfl, rfl⟩
end Go.Proofs.YteomcpplajeidaaGreat
namespace Go.Proofs.YteomcpplajeidaaGreat
set_option linter.unusedVariables false
set_option linter.unusedSimpArgs false
set_option maxRecDepth 100000
open Go.RowKit
theorem row_move {B E sz n : Nat} {w w' : World} {v : Value} {xs : List Value} (h : w.ownsRow B E sz v n xs) (k : ∀ b, v.ownBlock = some b → b < w.heap.size → w'.heap[b]? = w.heap[b]?) : w'.ownsRow B E sz v n xs := by
  refine ⟨h.1, h.2.imp id ?_⟩
  rintro ⟨g, cap, cur, rfl, hb, hg, rest⟩
  exact ⟨g, cap, cur, rfl, hb, (k g rfl (Rg.lt_of_heap hg)).trans hg, rest⟩
theorem row_base {B B' E sz n : Nat} {w : World} {v : Value} {xs : List Value} (h : w.ownsRow B E sz v n xs) (hB : B' ≤ B) : w.ownsRow B' E sz v n xs := by
  refine ⟨h.1, h.2.imp id ?_⟩
  rintro ⟨g, cap, cur, rfl, hb, rest⟩
  exact ⟨g, cap, cur, rfl, Nat.le_trans hB hb, rest⟩
theorem row_len {B E sz n : Nat} {w : World} {b : Option Addr} {m c : Nat} {xs : List Value} (h : w.ownsRow B E sz (.slice b m c) n xs) : m = n := by
  rcases h.2 with ⟨h1, h2⟩ | ⟨g, cap, cur, h1, -⟩
  · injection h1 with _ h1 _; omega
  · injection h1 with _ h1 _
end Go.Proofs.YteomcpplajeidaaGreat
namespace Go.Proofs.YteomcpplajeidaaGreat
set_option linter.unusedVariables false
set_option linter.unusedSimpArgs false
set_option maxRecDepth 100000
open Go.RowKit
structure TD where
  nm : ByteArray
  ls : List (Int × Int)
  cs : List Cr
  low : Int
  high : Int
  f : Ex
  ts : List ByteArray
  most : Int
  budget : Int
  t0 : Int
  t1 : Int
  t2 : Int
  t3 : Int
  t4 : Int
structure TF (A : Nat → Prop) (B : Nat) (w : World) (r : TnR) (d : TD) : Prop where
  nm_ : r.nm = d.nm
  low_ : r.low = d.low
  high_ : r.high = d.high
  most_ : r.most = d.most
  budget_ : r.budget = d.budget
  t0_ : r.t0 = d.t0
  t1_ : r.t1 = d.t1
  t2_ : r.t2 = d.t2
  t3_ : r.t3 = d.t3
  t4_ : r.t4 = d.t4
  rs_ : r.rs = (none, 0, 0)
  ks_ : r.ks = (none, 0, 0)
  ls_ : w.ownsRow B 72 2 (slV r.ls) d.ls.length (d.ls.flatMap cellsLot)
  la : ∀ b, (slV r.ls).ownBlock = some b → A b
  l0 : d.ls = [] → r.ls = (none, 0, 0)
  cs_ : w.ownsRow B 78 5 (slV r.cs) d.cs.length (d.cs.flatMap cellsCr)
  ca : ∀ b, (slV r.cs).ownBlock = some b → A b
  c0 : d.cs = [] → r.cs = (none, 0, 0)
  ts_ : w.ownsRow B 9 1 (slV r.ts) d.ts.length (d.ts.flatMap strC)
  ta : ∀ b, (slV r.ts).ownBlock = some b → A b
  s0 : d.ts = [] → r.ts = (none, 0, 0)
  fo : Rd A w d.f (.agg #[.string r.fo, .int .i64 r.f1, .int .i64 r.f2, .string r.fn, slV r.fa])
theorem TF.move {A A' : Nat → Prop} {B : Nat} {w w' : World} {r : TnR} {d : TD} (h : TF A B w r d) (hw : ∀ b, A b → b < w.heap.size → w'.heap[b]? = w.heap[b]?) (hA : ∀ b, A b → b < w.heap.size → A' b) : TF A' B w' r d :=
  { h with
    ls_ := row_move h.ls_ fun b hb hl => hw b (h.la b hb) hl
    la := fun b hb => hA b (h.la b hb) (h.ls_.lt b hb).2
    cs_ := row_move h.cs_ fun b hb hl => hw b (h.ca b hb) hl
    ca := fun b hb => hA b (h.ca b hb) (h.cs_.lt b hb).2
    ts_ := row_move h.ts_ fun b hb hl => hw b (h.ta b hb) hl
    ta := fun b hb => hA b (h.ta b hb) (h.ts_.lt b hb).2
    fo := Rd.frame (fun b o hb hl => World.cell?_of_block (hw b hb.1 hb.2)) (fun b hb => hA b hb.1 hb.2) _ _ (Rd.alive _ _ h.fo) }
theorem TF.ext {A : Nat → Prop} {B : Nat} {w w' : World} {r : TnR} {d : TD} (h : TF A B w r d) (x : Ext w w') : TF A B w' r d := h.move (fun b _ hl => x.block b hl) (fun _ h _ => h)
theorem TF.kx {A : Nat → Prop} {B p : Nat} {w w' : World} {r : TnR} {d : TD} (h : TF A B w r d) (x : KX p w w') (hA : ∀ b, A b → b ≠ p) : TF A B w' r d := h.move (fun b hb hl => x.block b hl (fun e => hA b hb (by injection e))) (fun _ h _ => h)
abbrev Apart (B p : Nat) (sv : Value) : Nat → Prop := fun b => b ≠ p ∧ sv.ownBlock ≠ some b ∧ B ≤ b
structure NX (w0 w : World) (p : Nat) (tv : Value) (l : List (ByteArray × Int)) (k : Nat) (S : ByteArray) (r : TnR) (sv : Value) (sn : List ByteArray) (d : TD) : Prop where
  px : PX 166 w p tv l k (restOf S r sv)
  low : Ext w0 w
  pl : w0.heap.size ≤ p
  seen : w.ownsRow w0.heap.size 9 1 sv sn.length (sn.flatMap strC)
  sp : ∀ b, sv.ownBlock = some b → b ≠ p
  tf : TF (Apart w0.heap.size p sv) w0.heap.size w r d
section
variable {w0 w w' : World} {p k k' : Nat} {tv tv' : Value} {l l' : List (ByteArray × Int)} {S : ByteArray} {r : TnR} {sv : Value} {sn : List ByteArray} {d : TD}
theorem NX.kx (h : NX w0 w p tv l k S r sv sn d) (hp : PX 166 w' p tv' l' k' (restOf S r sv)) (x : KX p w w') : NX w0 w' p tv' l' k' S r sv sn d :=
  ⟨hp, Ext.of_kx h.low x h.pl, h.pl, row_move h.seen (fun b hb hl => x.block b hl (fun e => h.sp b hb (by injection e))), h.sp, h.tf.kx x (fun _ hb => hb.1)⟩
theorem NX.ext (h : NX w0 w p tv l k S r sv sn d) (x : Ext w w') : NX w0 w' p tv l k S r sv sn d := h.kx (h.px.ext x) (KX.of_ext x)
theorem NX.step (h : NX w0 w p tv l k S r sv sn d) (j : Nat) : NX w0 (w.setCell ⟨p, 1, none⟩ (.int .i64 j)) p tv l j S r sv sn d := h.kx (h.px.step j) ((KX.of_ext (Ext.refl _)).set _)
theorem PX.newtok {T : TypeId} {rest : List Value} (h : PX T w p tv l k rest) (hl : SR tokC 2 w tv' l') (hne : ∀ b n c, tv' = .slice (some ⟨b, 0, none⟩) n c → b ≠ p) : PX T (w.setCell ⟨p, 0, none⟩ tv') p tv' l' k rest :=
  ⟨(heap_put _ h.at_).trans (by simp), hl.kx ((KX.of_ext (Ext.refl _)).set _) hne, hne⟩
end
theorem append_str {ops : Array Oper} {rest : List Oper} {o : Oper} {a : Act} {Q : Exit → Act → World → Prop} {w : World} (hgd : o.guard = none) (s x : Operand)
    (ho : o.op = .call { callee := .builtin .append, args := #[s, x], argTypes := #[34, 34] }) (B : Nat) (v : Value) (vs : List ByteArray) (hs : a.eval s = v) (hF : w.ownsRow B 9 1 v vs.length (vs.flatMap strC))
    (p : Nat) (u : ByteArray) (hx : a.eval x = .slice (some ⟨p, 0, none⟩) 1 1) (hp : w.heap[p]? = some (.cells #[.string u] 9)) (hn : vs.length < 1000000) (hB : B ≤ w.heap.size)
    (h : ∀ g cap w', w'.ownsRow B 9 1 (.slice (some ⟨g, 0, none⟩) (vs.length + 1) cap) (vs ++ [u]).length ((vs ++ [u]).flatMap strC) → w.grownBy w' v.ownBlock → (v.ownBlock = some g ∨ g = w.heap.size) → wpList Tryz.prog ops Q rest (a.put o.dst (.slice (some ⟨g, 0, none⟩) (vs.length + 1) cap)) w') : wpList Tryz.prog ops Q (o :: rest) a w := by
  obtain ⟨i0, hi, hz0, hz1, hz2⟩ := info_parts (show (Tryz.prog.info? 9).map (fun i => (i.zero, i.size, i.bytes)) = some (some (.string ⟨#[]⟩), 1, 16) by kernel_rfl)
  refine wpList_append_lies w hgd s x 34 ho B 9 i0 _ 1 16 Tryz.underlying34 hi hz0 hz1 hz2 (by rfl) (by decide) v vs.length _ hs hF ⟨p, 0, none⟩ 1 1 (strC u) hx (by rfl) ?_ (one_str u).2 (by decide) (by unfold maxLen; omega) ?_ hB w.heap.size rfl ?_
  · intro j c hc
    rw [addr_add, cell_of_row w p _ _ _ _ hp]
    simpa [strC] using hc
  · omega
  · intro g cap w' hw hg hat hlt
    refine h g cap w' ?_ hg hat
    rw [List.flatMap_append, List.length_append]
    simpa using hw
end Go.Proofs.YteomcpplajeidaaGreat
