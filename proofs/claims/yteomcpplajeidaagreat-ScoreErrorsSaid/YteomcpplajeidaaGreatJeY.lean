/-
  Lemmas of this claim (JeY). Nothing is asked.
-/
import Derived.Test.YteomcpplajeidaaGreatJeX
import Derived.Test.YteomcpplajeidaaGreatJeT
import Derived.Test.YteomcpplajeidaaGreatJeW
import Derived.Test.YteomcpplajeidaaGreatJeQ
namespace Go.Proofs.YteomcpplajeidaaGreat
set_option linter.unusedVariables false
set_option linter.unusedSimpArgs false
set_option maxRecDepth 100000
open Go.RowKit
theorem Ext.of_kx {w w1 w' : World} {p : Nat} (h : Ext w w1) (k : KX p w1 w') (hp : w.heap.size ≤ p) : Ext w w' :=
  ⟨k.os.trans h.os, k.tape.trans h.tape, k.output.trans h.output, Nat.le_trans h.size k.size, fun i hi => (k.block i (Nat.lt_of_lt_of_le hi h.size) (fun e => by injection e with e; omega)).trans (h.block i hi)⟩
def FormAt (L : List (ByteArray × Int)) (k : Nat) (t : Ex) : Prop :=
  ∀ (p : Nat) (tv : Value) (wz : World), PX 164 wz p tv L 0 [] → Calls Tryz.prog 206 #[.pointer (some ⟨p, 0, none⟩)] wz fun e w' => ∃ v, e = .returned v ∧ Rd (fun b => wz.heap.size < b) w' t v ∧ PX 164 w' p tv L k [] ∧ KX p wz w'
theorem results_cell3 {fn : Func} {p a b : Tmp} {ty : TypeId} (h : fn.results = #[.cell p ty, .tmp a, .tmp b]) (tmps : Array Value) (w : World) (g : Nat) (t : TypeId) (cs : Array Value) (fr : Nat × Nat) (fs : Array Field) (va vb : Value)
    (hp : tmps.getD p undef = .pointer (some ⟨g, 0, none⟩)) (ha : tmps.getD a undef = va) (hb : tmps.getD b undef = vb) (hg : w.heap[g]? = some (.cells cs t fr))
    (hu : Tryz.prog.underlying ty = some (.struct fs)) (hi : (Tryz.prog.info? ty).map (·.size) = some cs.size) :
    (results fn tmps).run Tryz.prog w = .ok (.tuple #[.agg cs, va, vb]) w := by
  have hp' : tmps[p]?.getD undef = .pointer (some ⟨g, 0, none⟩) := by simpa using hp
  have ha' : tmps[a]?.getD undef = va := by simpa using ha
  have hb' : tmps[b]?.getD undef = vb := by simpa using hb
  simp [results, h, hp', ha', hb', asAddr, run_loadVar_row w g t ty cs fr (.struct fs) hg hu rfl hi]
theorem put5_kx0 (w : World) (q : Nat) (b0 b1 b2 b3 b4 : Value) : KX q w (put5 w q b0 b1 b2 b3 b4) :=
  ((((((KX.of_ext (Ext.refl w)).set _).set _).set _).set _).set _)
structure RX (w0 w : World) (p q : Nat) (tv : Value) (l : List (ByteArray × Int)) (k : Nat) (t : Ex) (cs : Array Value) : Prop where
  px : PX 164 w p tv l k []
  low : Ext w0 w
  at_ : w.heap[q]? = some (.cells cs 33)
  rd : Rd (fun b => w0.heap.size < b) w t (.agg cs)
  res : w.heap[w0.heap.size]? = some (.cells zero5 33)
theorem RX.ext {w0 w w' : World} {p q k : Nat} {tv : Value} {l : List (ByteArray × Int)} {t : Ex} {cs : Array Value} (h : RX w0 w p q tv l k t cs) (x : Ext w w') : RX w0 w' p q tv l k t cs :=
  ⟨h.px.ext x, h.low.trans x, (x.block _ (Rg.lt_of_heap h.at_)).trans h.at_, h.rd.ext x, (x.block _ (Rg.lt_of_heap h.res)).trans h.res⟩
theorem Rd.all {S : Nat → Prop} {w : World} {t : Ex} {v : Value} (h : Rd S w t v) : Rd All w t v := Rd.frame (fun _ _ _ _ => rfl) (fun _ _ => trivial) t v h
set_option maxHeartbeats 8000000 in
theorem read_any (s : ByteArray) (fr ed : Nat) (hs : s.size ≤ 900000) (hft : fr ≤ ed) (hto : ed ≤ s.size) (L : List (ByteArray × Int)) (hL : parL s fr ed = L) (t : Ex) (k : Nat) (hk : k < L.length) (hz : (L[k].1.toList == []) = true) (hp : t.parts ≤ 60) (hd : t.depth ≤ 12) (hF : FormAt L k t) (hLl : L.length ≤ 1000000) (w : World) :
    Calls Tryz.prog 182 #[.string s, .int .i64 fr, .int .i64 ed] w fun e w' => ∃ v, e = .returned (.tuple #[v, .int .i64 0, .int .i64 0]) ∧ Rd (fun b => w.heap.size < b) w' t v ∧ Ext w w' := by
  have HPA := Lib.hid (fun wz => parts205_any s fr ed hs hft hto wz)
  rw [hL] at HPA
  have HF := Lib.hid (fun p tv (wz : World) (hz : PX 164 wz p tv L 0 []) => hF p tv wz hz)
  have HTX := Lib.hid (fun p tv wz (hz : PX 164 wz p tv L k []) => text_any p tv L k wz hz.c.1 hz.c.2.1 hz.tok hk)
  have HPT := Lib.hid (fun wz v (hv : Rd All wz t v) => pparts_any 12 t hd (by omega) wz v hv)
  have HDT := Lib.hid (fun wz v (hv : Rd All wz t v) => pdepth_any 12 t hd (by omega) wz v hv)
  have HLl := Lib.hid hLl
  generalize L[k].1 = z at *
  generalize hn1 : t.parts = n1 at *
  generalize hn2 : t.depth = n2 at *
  clear hL hF hLl hn1 hn2
  have p1 : ¬ (60 : Int) < (n1 : Int) := by omega
  have p2 : ¬ (12 : Int) < (n2 : Int) := by omega
  go_enter Tryz.func182, Tryz.ntmps182
  go_upto_region 2 with (go_at_call 205; (with_reducible refine (HPA.out _).mono ?_); rintro e w1 ⟨g, cap, rfl, hx1, hr1⟩; have HX1 := Lib.hid hx1; have HR1 := Lib.hid hr1; clear hx1 hr1)
  have hz0 : w1.heap[w.heap.size]? = some (.cells zero5 33) := (HX1.out.block _ (by simp)).trans (block_new rfl)
  have hx0 : Ext w w1 := Ext.trans (by with_reducible repeat (first | exact Ext.refl _ | assumption | apply Ext.drewN | apply Ext.drew | apply Ext.alloc | (refine Ext.setCell ?_ (by simp <;> omega) _) | (refine Ext.trans ?_ (by assumption)))) HX1.out
  have hpx : PX 164 (w1.alloc (.cells #[.slice (some ⟨g, 0, none⟩) L.length cap, .int .i64 0, .int .i64 0, .int .i64 0] 164)) w1.heap.size (.slice (some ⟨g, 0, none⟩) L.length cap) L 0 [] :=
    ⟨block_new rfl, (SR.of_row (cs := tokC) (fun _ => rfl) HR1.out HLl.out).ext (Ext.alloc (Ext.refl _) _), fun b n c e => by
      have h1 := HR1.out.form (by omega)
      obtain ⟨g', cap', e1, -, h2⟩ := h1
      injection e1 with e1
      injection e1 with e1
      injection e1 with e1
      injection e with e
      injection e with e
      injection e with e
      omega⟩
  have hz1 : (w1.alloc (.cells #[.slice (some ⟨g, 0, none⟩) L.length cap, .int .i64 0, .int .i64 0, .int .i64 0] 164)).heap[w.heap.size]? = some (.cells zero5 33) := ((Ext.alloc (Ext.refl w1) _).block _ (Rg.lt_of_heap hz0)).trans hz0
  have hx1 : Ext w (w1.alloc (.cells #[.slice (some ⟨g, 0, none⟩) L.length cap, .int .i64 0, .int .i64 0, .int .i64 0] 164)) := hx0.trans (Ext.alloc (Ext.refl w1) _)
  have HPX := Lib.hid hpx; have HZ1 := Lib.hid hz1; have HX2 := Lib.hid hx1
  have hlt : w.heap.size < w1.heap.size := Rg.lt_of_heap hz0
  clear hpx hz1 hx1 hz0 hx0
  obtain ⟨p, hpe⟩ : ∃ p, p = w1.heap.size := ⟨_, rfl⟩
  rw [← hpe] at HPX hlt ⊢
  clear hpe
  generalize w1.alloc (.cells #[.slice (some ⟨g, 0, none⟩) L.length cap, .int .i64 0, .int .i64 0, .int .i64 0] 164) = w2 at *
  generalize (Value.slice (some ⟨g, 0, none⟩) L.length cap) = tv at *
  have hw2 := Rg.lt_of_heap HPX.out.at_
  go_upto_region 3 with (go_at_call 206; (with_reducible refine (HF.out _ _ _ HPX.out).mono ?_); rintro e w3 ⟨v, rfl, hr3, hp3, hx3⟩; obtain ⟨op0, m1, m2, nm0, b0, n0, c0, rfl⟩ := hr3.form; have HR3 := Lib.hid hr3; have HP3 := Lib.hid hp3; have HZ3 := Lib.hid (hx3.at HZ1.out (show w.heap.size ≠ p by omega)); have HX3 := Lib.hid (Ext.of_kx HX2.out hx3 (Nat.le_of_lt hlt)); clear hr3 hp3 hx3)
  have hrx : RX w (w3.alloc (.cells #[.string op0, .int .i64 m1, .int .i64 m2, .string nm0, .slice b0 n0 c0] 33)) p w3.heap.size tv L k t #[.string op0, .int .i64 m1, .int .i64 m2, .string nm0, .slice b0 n0 c0] :=
    ⟨HP3.out.ext (Ext.alloc (Ext.refl _) _), HX3.out.trans (Ext.alloc (Ext.refl _) _), block_new rfl, (Rd.frame (fun _ _ _ _ => rfl) (fun b hb => by have := HX2.out.size; omega) _ _ HR3.out).ext (Ext.alloc (Ext.refl _) _), ((Ext.alloc (Ext.refl w3) _).block _ (Rg.lt_of_heap HZ3.out)).trans HZ3.out⟩
  have HT := Lib.hid hrx
  clear hrx
  obtain ⟨q, hqe⟩ : ∃ q, q = w3.heap.size := ⟨_, rfl⟩
  rw [← hqe] at HT ⊢
  clear hqe
  generalize w3.alloc (.cells #[.string op0, .int .i64 m1, .int .i64 m2, .string nm0, .slice b0 n0 c0] 33) = wr at *
  clear HP3 HX3 HR3 HZ3 HPX HZ1 HX2 hw2
  obtain ⟨c0', c1, c2, c3⟩ := HT.out.px.c; obtain ⟨e0, e1, e2, e3, e4, -⟩ := cells_five HT.out.at_; have hpl1 := Rg.lt_of_heap HT.out.px.at_; have hql1 := Rg.lt_of_heap HT.out.at_
  go_upto_region 10 with (first
    | (go_at_call 140; (with_reducible refine (HTX.out _ _ _ HT.out.px).mono ?_); rintro e wr ⟨rfl, hx5⟩; have HT := Lib.hid (HT.out.ext hx5); clear hx5; obtain ⟨c0', c1, c2, c3⟩ := HT.out.px.c; obtain ⟨e0, e1, e2, e3, e4, -⟩ := cells_five HT.out.at_; have hpl1 := Rg.lt_of_heap HT.out.px.at_; have hql1 := Rg.lt_of_heap HT.out.at_)
    | (go_at_call 148; (with_reducible refine (HPT.out _ _ HT.out.rd.all).mono ?_); rintro e wr ⟨rfl, hx5⟩; have HT := Lib.hid (HT.out.ext hx5); clear hx5; obtain ⟨c0', c1, c2, c3⟩ := HT.out.px.c; obtain ⟨e0, e1, e2, e3, e4, -⟩ := cells_five HT.out.at_; have hpl1 := Rg.lt_of_heap HT.out.px.at_; have hql1 := Rg.lt_of_heap HT.out.at_)
    | (go_at_call 149; (with_reducible refine (HDT.out _ _ HT.out.rd.all).mono ?_); rintro e wr ⟨rfl, hx5⟩; have HT := Lib.hid (HT.out.ext hx5); clear hx5; obtain ⟨c0', c1, c2, c3⟩ := HT.out.px.c; obtain ⟨e0, e1, e2, e3, e4, -⟩ := cells_five HT.out.at_; have hpl1 := Rg.lt_of_heap HT.out.px.at_; have hql1 := Rg.lt_of_heap HT.out.at_))
  obtain ⟨r0, r1, r2, r3, r4, s0, s1, s2, s3, s4⟩ := cells_five HT.out.res
  have hrl := Rg.lt_of_heap HT.out.res
  go_wp2_with (fail)
  have hfin := put5_at HT.out.res (.string op0) (.int .i64 m1) (.int .i64 m2) (.string nm0) (.slice b0 n0 c0)
  have hx5 := Ext.of_kx HT.out.low (put5_kx0 wr w.heap.size (.string op0) (.int .i64 m1) (.int .i64 m2) (.string nm0) (.slice b0 n0 c0)) (Nat.le_refl _)
  have hr5 := put5_rd (S := fun b => w.heap.size < b) (S' := fun b => w.heap.size < b) (q := w.heap.size) (b0 := .string op0) (b1 := .int .i64 m1) (b2 := .int .i64 m2) (b3 := .string nm0) (b4 := .slice b0 n0 c0) HT.out.rd (fun b hb => Nat.ne_of_gt hb) (fun b hb => hb)
  exact bodyPost_ret (v := .tuple #[.agg #[.string op0, .int .i64 m1, .int .i64 m2, .string nm0, .slice b0 n0 c0], .int .i64 0, .int .i64 0]) (results_cell3 Tryz.results182 _ _ w.heap.size 33 _ _ _ (.int .i64 0) (.int .i64 0) (by rfl) (by rfl) (by rfl) hfin Tryz.underlying33 (by kernel_rfl)) rfl ⟨_, rfl, hr5, hx5⟩
end Go.Proofs.YteomcpplajeidaaGreat
namespace Go.Proofs.YteomcpplajeidaaGreat
set_option linter.unusedVariables false
set_option linter.unusedSimpArgs false
set_option maxRecDepth 100000
open Go.RowKit
abbrev put5at (w : World) (q o : Nat) (b0 b1 b2 b3 b4 : Value) : World := ((((w.setCell ⟨q, o, none⟩ b0).setCell ⟨q, o + 1, none⟩ b1).setCell ⟨q, o + 2, none⟩ b2).setCell ⟨q, o + 3, none⟩ b3).setCell ⟨q, o + 4, none⟩ b4
theorem PX.zero3 {T : TypeId} {w : World} {p k : Nat} {tv : Value} {l : List (ByteArray × Int)} {rest : List Value} (h : PX T w p tv l k rest) : PX T (w.setCell ⟨p, 3, none⟩ (.int .i64 0)) p tv l k rest :=
  ⟨(heap_put _ h.at_).trans (by simp), h.tok.kx ((KX.of_ext (Ext.refl _)).set _) h.ne, h.ne⟩
theorem PX.zero2 {T : TypeId} {w : World} {p k : Nat} {tv : Value} {l : List (ByteArray × Int)} {rest : List Value} (h : PX T w p tv l k rest) : PX T (w.setCell ⟨p, 2, none⟩ (.int .i64 0)) p tv l k rest :=
  ⟨(heap_put _ h.at_).trans (by simp), h.tok.kx ((KX.of_ext (Ext.refl _)).set _) h.ne, h.ne⟩
set_option maxHeartbeats 8000000 in
theorem line_formula (p : Nat) (tv : Value) (l : List (ByteArray × Int)) (S : ByteArray) (r : TnR) (sv : Value) (ed : Int) (w : World) (h : PX 166 w p tv l 1 (restOf S r sv)) (hl : 1 < l.length) (a fr : Nat) (ha : l[0].2 = (a : Int)) (hfr : fr = a + 7) (hab : a ≤ 100000) (t : Ex) (hz0 : l[l.length - 1].1 = ⟨#[]⟩)
    (hR : ∀ wz : World, Calls Tryz.prog 182 #[.string S, .int .i64 fr, .int .i64 ed] wz fun e w' => ∃ v, e = .returned (.tuple #[v, .int .i64 0, .int .i64 0]) ∧ Rd (fun b => wz.heap.size < b) w' t v ∧ Ext wz w') :
    Calls Tryz.prog 144 #[.pointer (some ⟨p, 0, none⟩), .string ⟨#[102, 111, 114, 109, 117, 108, 97]⟩, .int .i64 ed] w fun e w' => e = .returned (.tuple #[]) ∧ ∃ op n1 n2 nm fa fn fc, PX 166 w' p tv l (l.length - 1) (restOf S { r with fo := op, f1 := n1, f2 := n2, fn := nm, fa := (fa, fn, fc) } sv) ∧ Rd (fun b => w.heap.size < b) w' t (.agg #[.string op, .int .i64 n1, .int .i64 n2, .string nm, .slice fa fn fc]) ∧ KX p w w' := by
  have HW0 : Hid (∀ wz rest (hz : PX 166 wz p tv l (l.length - 1) rest), Calls Tryz.prog 140 #[.pointer (some ⟨p, 0, none⟩)] wz fun e w' => e = .returned (.string ⟨#[]⟩) ∧ Ext wz w') := Lib.hid (fun wz rest hz => by have := text_any p tv l (l.length - 1) wz hz.c.1 hz.c.2.1 hz.tok (by omega); rw [hz0] at this; exact this)
  have HR := Lib.hid hR
  have HP := Lib.hid h
  have hll : l.length ≤ 1000000 := h.tok.le
  obtain ⟨base, cap, rfl⟩ := h.tok.form
  obtain ⟨g, rfl, -, hg, -, d1⟩ := tok_at h.tok 0 (by omega)
  simp only [Nat.zero_mul, Nat.zero_add] at d1
  rw [ha] at d1
  have hpl := Rg.lt_of_heap h.at_
  obtain ⟨c0, c1, c2, c3⟩ := HP.out.c
  have hlen0 : (0 : Int) < (l.length : Int) := by omega
  have hw7 : IntKind.i64.wrap ((a : Int) + 7) = (fr : Int) := by rw [IntKind.wrap_i64]; omega
  have hwl : IntKind.i64.wrap ((l.length : Int) - 1) = ((l.length - 1 : Nat) : Int) := by rw [IntKind.wrap_i64]; omega
  clear h hz0 hR ha hfr
  go_enter Tryz.func144, Tryz.ntmps144
  go_upto_region 20 with (fail)
  go_quiet (fail)
  go_upto_region 22 with (fail)
  have hxq : Ext w (w.drewN nq) := (by with_reducible repeat (first | exact Ext.refl _ | assumption | apply Ext.drewN | apply Ext.drew | apply Ext.alloc | (refine Ext.setCell ?_ (by simp <;> omega) _) | (refine Ext.trans ?_ (by assumption))))
  generalize w.drewN nq = w1 at *
  have HP1 := Lib.hid (HP.out.ext hxq)
  have HX1 := Lib.hid hxq
  clear hxq c0 c1 c2 c3 d1 hpl hg
  have r0 : w1.cell? ⟨p, 4, none⟩ = some (.string S) := HP1.out.r 0
  have hpl := Rg.lt_of_heap HP1.out.at_
  go_upto_region 23 with (go_at_call 182; (with_reducible refine (HR.out _).mono ?_); rintro e w2 ⟨v, rfl, hr2, hx2⟩; obtain ⟨op, n1, n2, nm, fa, fn, fc, rfl⟩ := hr2.form; have HR2 := Lib.hid hr2; have HX2 := Lib.hid hx2; have HP2 := Lib.hid (HP1.out.ext hx2); clear hr2 hx2; have q0 : w2.cell? ⟨p, 11, none⟩ = some (.string r.fo) := HP2.out.r 7; have q1 : w2.cell? ⟨p, 12, none⟩ = some (.int .i64 r.f1) := HP2.out.r 8; have q2 : w2.cell? ⟨p, 13, none⟩ = some (.int .i64 r.f2) := HP2.out.r 9; have q3 : w2.cell? ⟨p, 14, none⟩ = some (.string r.fn) := HP2.out.r 10; have q4 : w2.cell? ⟨p, 15, none⟩ = some (slV r.fa) := HP2.out.r 11; obtain ⟨c0, c1, c2, c3⟩ := HP2.out.c; have hfz : ∀ o, w2.frozen? ⟨p, o, none⟩ = false := fun o => put_frozen HP2.out.at_; have g0 := hfz 11; have g1 := hfz 12; have g2 := hfz 13; have g3 := hfz 14; have g4 := hfz 15; have g5 := hfz 3; have hpl2 := Rg.lt_of_heap HP2.out.at_; clear hfz)
  have HP3 : Hid (PX 166 ((put5at w2 p 11 (.string op) (.int .i64 n1) (.int .i64 n2) (.string nm) (.slice fa fn fc)).setCell ⟨p, 3, none⟩ (.int .i64 0)) p _ l 1 (restOf S { r with fo := op, f1 := n1, f2 := n2, fn := nm, fa := (fa, fn, fc) } sv)) := Lib.hid (((((HP2.out.put 7 (.string op)).put 8 (.int .i64 n1)).put 9 (.int .i64 n2)).put 10 (.string nm)).put 11 (.slice fa fn fc)).zero3
  have hk3 : KX p w2 ((put5at w2 p 11 (.string op) (.int .i64 n1) (.int .i64 n2) (.string nm) (.slice fa fn fc)).setCell ⟨p, 3, none⟩ (.int .i64 0)) := ((((((KX.of_ext (Ext.refl w2)).set _).set _).set _).set _).set _).set _
  have hs1 := HX1.out.size
  have HR3 := Lib.hid (HR2.out.kx hk3 (fun b hb => by have := Rg.lt_of_heap HP.out.at_; omega))
  have HX3 := Lib.hid ((KX.of_ext (HX1.out.trans HX2.out)).trans hk3)
  clear hk3 q0 q1 q2 q3 q4 c0 c1 c2 c3 g0 g1 g2 g3 g4 g5 hpl2
  simp only [put5at] at HP3 HR3 HX3
  generalize (((((w2.setCell ⟨p, 11, none⟩ (.string op)).setCell ⟨p, 12, none⟩ (.int .i64 n1)).setCell ⟨p, 13, none⟩ (.int .i64 n2)).setCell ⟨p, 14, none⟩ (.string nm)).setCell ⟨p, 15, none⟩ (.slice fa fn fc)).setCell ⟨p, 3, none⟩ (.int .i64 0) = w3 at *
  obtain ⟨c0, c1, c2, c3⟩ := HP3.out.c
  have f2 : w3.frozen? ⟨p, 2, none⟩ = false := put_frozen HP3.out.at_
  have hpl3 := Rg.lt_of_heap HP3.out.at_
  go_upto_region 24 with (fail)
  have HP4 := Lib.hid HP3.out.zero2
  have HX4 := Lib.hid (HX3.out.set (j := 2) (.int .i64 0))
  have HR4 := Lib.hid (HR3.out.kx ((KX.of_ext (bn := p) (Ext.refl w3)).set (j := 2) (.int .i64 0)) (fun b hb => by have := Rg.lt_of_heap HP.out.at_; omega))
  clear c0 c1 c2 c3 f2 hpl3
  generalize w3.setCell ⟨p, 2, none⟩ (.int .i64 0) = w4 at *
  obtain ⟨c0, c1, c2, c3⟩ := HP4.out.c
  have f1 : w4.frozen? ⟨p, 1, none⟩ = false := put_frozen HP4.out.at_
  have hpl4 := Rg.lt_of_heap HP4.out.at_
  go_upto_region 39 with (fail)
  have HP5 := Lib.hid (HP4.out.step (l.length - 1))
  have HX5 := Lib.hid (HX4.out.set (j := 1) (.int .i64 (l.length - 1 : Nat)))
  have HR5 := Lib.hid (HR4.out.kx ((KX.of_ext (bn := p) (Ext.refl w4)).set (j := 1) (.int .i64 (l.length - 1 : Nat))) (fun b hb => by have := Rg.lt_of_heap HP.out.at_; omega))
  clear c0 c1 c2 c3 f1 hpl4
  generalize w4.setCell ⟨p, 1, none⟩ (.int .i64 (l.length - 1 : Nat)) = w5 at *
  obtain ⟨c0, c1, c2, c3⟩ := HP5.out.c
  have hpl5 := Rg.lt_of_heap HP5.out.at_
  go_wp2_with (go_at_call 140; (with_reducible refine (HW0.out _ _ HP5.out).mono ?_); rintro e w6 ⟨rfl, hx6⟩; have HX6 := Lib.hid hx6; clear hx6)
  go_end0
  exact ⟨rfl, op, n1, n2, nm, fa, fn, fc, HP5.out.ext HX6.out, (Rd.frame (fun _ _ _ _ => rfl) (fun b hb => by omega) _ _ HR5.out).ext HX6.out, HX5.out.ext HX6.out⟩
end Go.Proofs.YteomcpplajeidaaGreat
namespace Go.Proofs.YteomcpplajeidaaGreat
set_option linter.unusedVariables false
set_option linter.unusedSimpArgs false
set_option maxRecDepth 100000
open Go.RowKit
set_option maxHeartbeats 16000000 in
theorem full_any (p : Nat) (tv : Value) (l : List (ByteArray × Int)) (k : Nat) (S : ByteArray) (r : TnR) (sv : Value) (word : ByteArray) (w : World) (h : PX 166 w p tv l k (restOf S r sv)) (h1 : r.ls.2.1 < 12) (h2 : r.cs.2.1 < 12) (h3 : r.rs.2.1 < 24) (h4 : r.ks.2.1 < 12) :
    Calls Tryz.prog 142 #[.pointer (some ⟨p, 0, none⟩), .string word] w fun e w' => e = .returned (.bool false) ∧ w = w' := by
  obtain ⟨nm, ⟨l0, l1, l2⟩, ⟨a0, a1, a2⟩, ⟨b0, b1, b2⟩, low, high, fo, f1, f2, fn, fa, ts, most, ⟨k0, k1, k2⟩, budget, t0, t1, t2, t3, t4⟩ := r
  simp only at h1 h2 h3 h4
  have r2 : w.cell? ⟨p, 6, none⟩ = some (.slice l0 l1 l2) := h.r 2
  have r3 : w.cell? ⟨p, 7, none⟩ = some (.slice a0 a1 a2) := h.r 3
  have r4 : w.cell? ⟨p, 8, none⟩ = some (.slice b0 b1 b2) := h.r 4
  have r14 : w.cell? ⟨p, 18, none⟩ = some (.slice k0 k1 k2) := h.r 14
  have hpl := Rg.lt_of_heap h.at_
  have q1 : ((l1 : Int) == 12) = false := by rw [beq_eq_false_iff_ne]; omega
  have q2 : ((a1 : Int) == 12) = false := by rw [beq_eq_false_iff_ne]; omega
  have q3 : ((b1 : Int) == 24) = false := by rw [beq_eq_false_iff_ne]; omega
  have q4 : ((k1 : Int) == 12) = false := by rw [beq_eq_false_iff_ne]; omega
  clear h h1 h2 h3 h4
  cases e1 : (word.toList == [108, 111, 116]) <;> cases e2 : (word.toList == [99, 114, 105, 116, 101, 114, 105, 111, 110]) <;> cases e3 : (word.toList == [114, 101, 113, 117, 105, 114, 101]) <;> cases e4 : (word.toList == [99, 111, 109, 98, 111])
  all_goals
    go_enter Tryz.func142, Tryz.ntmps142
    go_wp2_with (fail)
    go_ret
    exact ⟨rfl, rfl⟩
end Go.Proofs.YteomcpplajeidaaGreat
namespace Go.Proofs.YteomcpplajeidaaGreat
set_option linter.unusedVariables false
set_option linter.unusedSimpArgs false
set_option maxRecDepth 100000
open Go.RowKit
theorem row_move {B E sz n : Nat} {w w' : World} {v : Value} {xs : List Value} (h : w.ownsRow B E sz v n xs) (k : ∀ b, v.ownBlock = some b → b < w.heap.size → w'.heap[b]? = w.heap[b]?) : w'.ownsRow B E sz v n xs := by
  refine ⟨h.1, h.2.imp id ?_⟩
  rintro ⟨g, cap, cur, rfl, hb, hg, rest⟩
  exact ⟨g, cap, cur, rfl, hb, (k g rfl (Rg.lt_of_heap hg)).trans hg, rest⟩
theorem row_base {B B' E sz n : Nat} {w : World} {v : Value} {xs : List Value} (h : w.ownsRow B E sz v n xs) (hB : B' ≤ B) : w.ownsRow B' E sz v n xs := by
  refine ⟨h.1, h.2.imp id ?_⟩
  rintro ⟨g, cap, cur, rfl, hb, rest⟩
  exact ⟨g, cap, cur, rfl, Nat.le_trans hB hb, rest⟩
theorem row_len {B E sz n : Nat} {w : World} {b : Option Addr} {m c : Nat} {xs : List Value} (h : w.ownsRow B E sz (.slice b m c) n xs) : m = n := by
  rcases h.2 with ⟨h1, h2⟩ | ⟨g, cap, cur, h1, -⟩
  · injection h1 with _ h1 _; omega
  · injection h1 with _ h1 _
end Go.Proofs.YteomcpplajeidaaGreat
