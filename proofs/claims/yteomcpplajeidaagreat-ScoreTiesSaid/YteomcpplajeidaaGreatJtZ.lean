/-
  Lemmas of this claim (JtZ). Nothing is asked.
-/
import Derived.Test.YteomcpplajeidaaGreatJtY
import Derived.Test.YteomcpplajeidaaGreatJtT
namespace Go.Proofs.YteomcpplajeidaaGreat
set_option linter.unusedVariables false
set_option linter.unusedSimpArgs false
set_option maxRecDepth 100000
open Go.RowKit
set_option maxRecDepth 100000 in
set_option maxHeartbeats 2000000 in
theorem pparts_any : ∀ (d : Nat) (t : Ex) (_ : t.depth ≤ d) (_ : t.parts ≤ 100000) (w : World) (v : Value) (_ : Rd All w t v),
    Calls Tryz.prog 148 #[v] w fun e w' => e = .returned (.int .i64 (t.parts : Nat)) ∧ Ext w w'
  | 0, .mk op n nm ts, hd, _, _, _, _ => by rw [Ex.depth] at hd; omega
  | d + 1, .mk op n nm ts, hd, hp, w, v, hv => by
    obtain ⟨n1, n2⟩ := n
    unfold Rd at hv
    obtain ⟨base, cap, rfl, -, hlen, hr⟩ := hv
    have IH := Lib.hid (fun t ht hp w v hv => pparts_any d t ht hp w v hv)
    rw [Ex.depth] at hd
    rw [Ex.parts] at hp
    have hdp := Ex.depthL_le ts
    rw [Ex.parts]
    have HR := Lib.hid hr
    have hn0 : (0 : Int) ≤ (ts.length : Int) := by omega
    have hn2 : (ts.length : Int) ≤ 9223372036854775807 := by omega
    clear hr
    obtain ⟨W, hW⟩ : ∃ W, W = (w.alloc (.cells #[.string op, .int .i64 n1, .int .i64 n2, .string nm, .slice base ts.length cap] 33)) := ⟨_, rfl⟩
    have hxW : Ext w W := by rw [hW]; exact Ext.alloc (Ext.refl _) _
    have hw1 : W.heap[w.heap.size]? = some (.cells #[.string op, .int .i64 n1, .int .i64 n2, .string nm, .slice base ts.length cap] 33) := by rw [hW]; exact block_new rfl
    go_enter Tryz.func148, Tryz.ntmps148
    go_wp2_with (fail)
    rw [← hW]
    clear hW
    have s1 : w.heap.size < W.heap.size := Rg.lt_of_heap hw1
    have e4 : W.cell? ⟨w.heap.size, 4, none⟩ = some (.slice base ts.length cap) := by rw [cell_of_row W _ _ _ _ _ hw1]; rfl
    clear hw1
    obtain ⟨p, hpe⟩ : ∃ p, p = w.heap.size := ⟨_, rfl⟩
    rw [← hpe] at s1 e4 ⊢
    clear hpe
    go_loopw [3, 4] (fun z i wr => ∃ k : Nat, k ≤ ts.length ∧ z = .int .i64 ((1 + Ex.partsL (ts.take k)) : Nat) ∧ i = .int .i64 k ∧ Ext W wr) (fun _ i _ => ts.length - (intOf i).toNat)
    case atStart => exact ⟨0, Nat.zero_le _, by rfl, rfl, Ext.refl _⟩
    case round =>
      obtain ⟨k, hk, rfl, rfl, hx⟩ := hrel
      have x4 := (hx.cells.1 _ _ s1).trans e4
      have t1 : p < wr.heap.size := Nat.lt_of_lt_of_le s1 hx.size
      have kw : IntKind.i64.wrap ((k : Int) + 1) = (k : Int) + 1 := by rw [IntKind.wrap_i64]; omega
      rcases Nat.lt_or_ge k ts.length with hlt | hge
      · rcases HR.out with h | ⟨b, rfl, -, hl⟩
        · subst h; exact absurd hlt (Nat.not_lt_zero _)
        obtain ⟨c, hc, hra⟩ := hl.get k hlt
        obtain ⟨oa, a1, a2, na, ba, la, ca, c0, c1, c2, c3, c4, ea⟩ := hra.shape
        rw [Nat.zero_add] at hc
        have hbl : b < w.heap.size := World.block_lt_of_cell? w _ (hc 0 (by decide))
        have hwr : Ext w wr := hxW.trans hx
        have s5 : b < wr.heap.size := Nat.lt_of_lt_of_le hbl hwr.size
        have j0 := (hwr.cells.1 b _ hbl).trans ((hc 0 (by decide)).trans (congrArg some c0))
        have j1 := (hwr.cells.1 b _ hbl).trans ((hc 1 (by decide)).trans (congrArg some c1))
        have j2 := (hwr.cells.1 b _ hbl).trans ((hc 2 (by decide)).trans (congrArg some c2))
        have j3 := (hwr.cells.1 b _ hbl).trans ((hc 3 (by decide)).trans (congrArg some c3))
        have j4 := (hwr.cells.1 b _ hbl).trans ((hc 4 (by decide)).trans (congrArg some c4))
        simp only [Nat.add_zero] at j0
        have hdk : ts[k].depth ≤ d := by have := Ex.depth_get ts k hlt; omega
        obtain ⟨q1, q2, q3⟩ := Ex.parts_get ts k hlt
        have q4 := Ex.depth_take ts k hlt
        have q5 := Ex.depth_le ts[k]
        have q6 := Ex.depthL_le (ts.take k)
        have HI := Lib.hid (fun w' hw => IH.out ts[k] hdk (by omega) w' _ (Rd.ext hw (ea ▸ hra)))
        have hlt' : (k : Int) < (ts.length : Int) := by omega
        have hk0 : (0 : Int) ≤ (k : Int) := by omega
        have kw2 : IntKind.i64.wrap (1 + (Ex.partsL (ts.take k) : Int) + (ts[k].parts : Int)) = 1 + (Ex.partsL (ts.take k) : Int) + (ts[k].parts : Int) := by rw [IntKind.wrap_i64]; omega
        have HQ := Lib.hid (show _ ∧ _ from ⟨q1, q4⟩)
        clear hc hra hl c0 c1 c2 c3 c4 ea hdk q1 q2 q3 q4 q5 q6 hdp hp hd hlen
        go_wp2_with (go_at_call 148; (with_reducible refine (HI.out _ ?_).mono ?_); (exact hwr); rintro e w3 ⟨rfl, hx3⟩; have x4' := (hx3.cells.1 _ _ t1).trans x4; have t1' := Nat.lt_of_lt_of_le t1 hx3.size)
        go_roundw
        case rel => exact ⟨k + 1, by omega, by (rw [HQ.out.1]; congr 1; omega), by go_num, (by with_reducible repeat (first | exact Ext.refl _ | assumption | apply Ext.drewN | apply Ext.drew | apply Ext.alloc | (refine Ext.setCell ?_ (by simp <;> omega) _) | (refine Ext.trans ?_ (by assumption))))⟩
        case measure => simp [intOf]; omega
      · have hkn : k = ts.length := by omega
        subst hkn
        rw [List.take_length]
        skip
        go_wp2
        go_ret
        exact ⟨by rfl, hxW.trans hx⟩
set_option maxRecDepth 100000 in
set_option maxHeartbeats 2000000 in
theorem pdepth_any : ∀ (d : Nat) (t : Ex) (_ : t.depth ≤ d) (_ : t.parts ≤ 100000) (w : World) (v : Value) (_ : Rd All w t v),
    Calls Tryz.prog 149 #[v] w fun e w' => e = .returned (.int .i64 (t.depth : Nat)) ∧ Ext w w'
  | 0, .mk op n nm ts, hd, _, _, _, _ => by rw [Ex.depth] at hd; omega
  | d + 1, .mk op n nm ts, hd, hp, w, v, hv => by
    obtain ⟨n1, n2⟩ := n
    unfold Rd at hv
    obtain ⟨base, cap, rfl, -, hlen, hr⟩ := hv
    have IH := Lib.hid (fun t ht hp w v hv => pdepth_any d t ht hp w v hv)
    rw [Ex.depth] at hd
    rw [Ex.parts] at hp
    have hdp := Ex.depthL_le ts
    rw [Ex.depth]
    have HR := Lib.hid hr
    have hn0 : (0 : Int) ≤ (ts.length : Int) := by omega
    have hn2 : (ts.length : Int) ≤ 9223372036854775807 := by omega
    clear hr
    obtain ⟨W, hW⟩ : ∃ W, W = (w.alloc (.cells #[.string op, .int .i64 n1, .int .i64 n2, .string nm, .slice base ts.length cap] 33)) := ⟨_, rfl⟩
    have hxW : Ext w W := by rw [hW]; exact Ext.alloc (Ext.refl _) _
    have hw1 : W.heap[w.heap.size]? = some (.cells #[.string op, .int .i64 n1, .int .i64 n2, .string nm, .slice base ts.length cap] 33) := by rw [hW]; exact block_new rfl
    go_enter Tryz.func149, Tryz.ntmps149
    go_wp2_with (fail)
    rw [← hW]
    clear hW
    have s1 : w.heap.size < W.heap.size := Rg.lt_of_heap hw1
    have e4 : W.cell? ⟨w.heap.size, 4, none⟩ = some (.slice base ts.length cap) := by rw [cell_of_row W _ _ _ _ _ hw1]; rfl
    clear hw1
    obtain ⟨p, hpe⟩ : ∃ p, p = w.heap.size := ⟨_, rfl⟩
    rw [← hpe] at s1 e4 ⊢
    clear hpe
    go_loopw [3, 4] (fun z i wr => ∃ k : Nat, k ≤ ts.length ∧ z = .int .i64 ((Ex.depthL (ts.take k)) : Nat) ∧ i = .int .i64 k ∧ Ext W wr) (fun _ i _ => ts.length - (intOf i).toNat)
    case atStart => exact ⟨0, Nat.zero_le _, by rfl, rfl, Ext.refl _⟩
    case round =>
      obtain ⟨k, hk, rfl, rfl, hx⟩ := hrel
      have x4 := (hx.cells.1 _ _ s1).trans e4
      have t1 : p < wr.heap.size := Nat.lt_of_lt_of_le s1 hx.size
      have kw : IntKind.i64.wrap ((k : Int) + 1) = (k : Int) + 1 := by rw [IntKind.wrap_i64]; omega
      rcases Nat.lt_or_ge k ts.length with hlt | hge
      · rcases HR.out with h | ⟨b, rfl, -, hl⟩
        · subst h; exact absurd hlt (Nat.not_lt_zero _)
        obtain ⟨c, hc, hra⟩ := hl.get k hlt
        obtain ⟨oa, a1, a2, na, ba, la, ca, c0, c1, c2, c3, c4, ea⟩ := hra.shape
        rw [Nat.zero_add] at hc
        have hbl : b < w.heap.size := World.block_lt_of_cell? w _ (hc 0 (by decide))
        have hwr : Ext w wr := hxW.trans hx
        have s5 : b < wr.heap.size := Nat.lt_of_lt_of_le hbl hwr.size
        have j0 := (hwr.cells.1 b _ hbl).trans ((hc 0 (by decide)).trans (congrArg some c0))
        have j1 := (hwr.cells.1 b _ hbl).trans ((hc 1 (by decide)).trans (congrArg some c1))
        have j2 := (hwr.cells.1 b _ hbl).trans ((hc 2 (by decide)).trans (congrArg some c2))
        have j3 := (hwr.cells.1 b _ hbl).trans ((hc 3 (by decide)).trans (congrArg some c3))
        have j4 := (hwr.cells.1 b _ hbl).trans ((hc 4 (by decide)).trans (congrArg some c4))
        simp only [Nat.add_zero] at j0
        have hdk : ts[k].depth ≤ d := by have := Ex.depth_get ts k hlt; omega
        obtain ⟨q1, q2, q3⟩ := Ex.parts_get ts k hlt
        have q4 := Ex.depth_take ts k hlt
        have q5 := Ex.depth_le ts[k]
        have q6 := Ex.depthL_le (ts.take k)
        have HI := Lib.hid (fun w' hw => IH.out ts[k] hdk (by omega) w' _ (Rd.ext hw (ea ▸ hra)))
        have hlt' : (k : Int) < (ts.length : Int) := by omega
        have hk0 : (0 : Int) ≤ (k : Int) := by omega
        skip
        have HQ := Lib.hid (show _ ∧ _ from ⟨q1, q4⟩)
        clear hc hra hl c0 c1 c2 c3 c4 ea hdk q1 q2 q3 q4 q5 q6 hdp hp hd hlen
        go_wp2_with (go_at_call 149; (with_reducible refine (HI.out _ ?_).mono ?_); (exact hwr); rintro e w3 ⟨rfl, hx3⟩; have x4' := (hx3.cells.1 _ _ t1).trans x4; have t1' := Nat.lt_of_lt_of_le t1 hx3.size)
        go_roundw
        case rel => exact ⟨k + 1, by omega, by (rw [HQ.out.2]; congr 1; omega), by go_num, (by with_reducible repeat (first | exact Ext.refl _ | assumption | apply Ext.drewN | apply Ext.drew | apply Ext.alloc | (refine Ext.setCell ?_ (by simp <;> omega) _) | (refine Ext.trans ?_ (by assumption))))⟩
        case measure => simp [intOf]; omega
      · have hkn : k = ts.length := by omega
        subst hkn
        rw [List.take_length]
        have kw3 : IntKind.i64.wrap ((Ex.depthL ts : Nat) + 1) = ((Ex.depthL ts : Nat) : Int) + 1 := by rw [IntKind.wrap_i64]; omega
        go_wp2
        go_ret
        exact ⟨by rw [show ((1 + Ex.depthL ts : Nat) : Int) = (Ex.depthL ts : Int) + 1 by omega]; rfl, hxW.trans hx⟩
end Go.Proofs.YteomcpplajeidaaGreat
namespace Go.Proofs.YteomcpplajeidaaGreat
set_option linter.unusedVariables false
set_option linter.unusedSimpArgs false
set_option maxRecDepth 100000
open Go.RowKit
theorem Ext.of_kx {w w1 w' : World} {p : Nat} (h : Ext w w1) (k : KX p w1 w') (hp : w.heap.size ≤ p) : Ext w w' :=
  ⟨k.os.trans h.os, k.tape.trans h.tape, k.output.trans h.output, Nat.le_trans h.size k.size, fun i hi => (k.block i (Nat.lt_of_lt_of_le hi h.size) (fun e => by injection e with e; omega)).trans (h.block i hi)⟩
def FormAt (L : List (ByteArray × Int)) (k : Nat) (t : Ex) : Prop :=
  ∀ (p : Nat) (tv : Value) (wz : World), PX 164 wz p tv L 0 [] → Calls Tryz.prog 206 #[.pointer (some ⟨p, 0, none⟩)] wz fun e w' => ∃ v, e = .returned v ∧ Rd (fun b => wz.heap.size < b) w' t v ∧ PX 164 w' p tv L k [] ∧ KX p wz w'
theorem results_cell3 {fn : Func} {p a b : Tmp} {ty : TypeId} (h : fn.results = #[.cell p ty, .tmp a, .tmp b]) (tmps : Array Value) (w : World) (g : Nat) (t : TypeId) (cs : Array Value) (fr : Nat × Nat) (fs : Array Field) (va vb : Value)
    (hp : tmps.getD p undef = .pointer (some ⟨g, 0, none⟩)) (ha : tmps.getD a undef = va) (hb : tmps.getD b undef = vb) (hg : w.heap[g]? = some (.cells cs t fr))
    (hu : Tryz.prog.underlying ty = some (.struct fs)) (hi : (Tryz.prog.info? ty).map (·.size) = some cs.size) :
    (results fn tmps).run Tryz.prog w = .ok (.tuple #[.agg cs, va, vb]) w := by
  have hp' : tmps[p]?.getD undef = .pointer (some ⟨g, 0, none⟩) := by simpa using hp
  have ha' : tmps[a]?.getD undef = va := by simpa using ha
  have hb' : tmps[b]?.getD undef = vb := by simpa using hb
  simp [results, h, hp', ha', hb', asAddr, run_loadVar_row w g t ty cs fr (.struct fs) hg hu rfl hi]
theorem put5_kx0 (w : World) (q : Nat) (b0 b1 b2 b3 b4 : Value) : KX q w (put5 w q b0 b1 b2 b3 b4) :=
  ((((((KX.of_ext (Ext.refl w)).set _).set _).set _).set _).set _)
structure RX (w0 w : World) (p q : Nat) (tv : Value) (l : List (ByteArray × Int)) (k : Nat) (t : Ex) (cs : Array Value) : Prop where
  px : PX 164 w p tv l k []
  low : Ext w0 w
  at_ : w.heap[q]? = some (.cells cs 33)
  rd : Rd (fun b => w0.heap.size < b) w t (.agg cs)
  res : w.heap[w0.heap.size]? = some (.cells zero5 33)
theorem RX.ext {w0 w w' : World} {p q k : Nat} {tv : Value} {l : List (ByteArray × Int)} {t : Ex} {cs : Array Value} (h : RX w0 w p q tv l k t cs) (x : Ext w w') : RX w0 w' p q tv l k t cs :=
  ⟨h.px.ext x, h.low.trans x, (x.block _ (Rg.lt_of_heap h.at_)).trans h.at_, h.rd.ext x, (x.block _ (Rg.lt_of_heap h.res)).trans h.res⟩
theorem Rd.all {S : Nat → Prop} {w : World} {t : Ex} {v : Value} (h : Rd S w t v) : Rd All w t v := Rd.frame (fun _ _ _ _ => rfl) (fun _ _ => trivial) t v h
set_option maxHeartbeats 8000000 in
theorem read_any (s : ByteArray) (fr ed : Nat) (hs : s.size ≤ 900000) (hft : fr ≤ ed) (hto : ed ≤ s.size) (L : List (ByteArray × Int)) (hL : parL s fr ed = L) (t : Ex) (k : Nat) (hk : k < L.length) (hz : (L[k].1.toList == []) = true) (hp : t.parts ≤ 60) (hd : t.depth ≤ 12) (hF : FormAt L k t) (hLl : L.length ≤ 1000000) (w : World) :
    Calls Tryz.prog 182 #[.string s, .int .i64 fr, .int .i64 ed] w fun e w' => ∃ v, e = .returned (.tuple #[v, .int .i64 0, .int .i64 0]) ∧ Rd (fun b => w.heap.size < b) w' t v ∧ Ext w w' := by
  have HPA := Lib.hid (fun wz => parts205_any s fr ed hs hft hto wz)
  rw [hL] at HPA
  have HF := Lib.hid (fun p tv (wz : World) (hz : PX 164 wz p tv L 0 []) => hF p tv wz hz)
  have HTX := Lib.hid (fun p tv wz (hz : PX 164 wz p tv L k []) => text_any p tv L k wz hz.c.1 hz.c.2.1 hz.tok hk)
  have HPT := Lib.hid (fun wz v (hv : Rd All wz t v) => pparts_any 12 t hd (by omega) wz v hv)
  have HDT := Lib.hid (fun wz v (hv : Rd All wz t v) => pdepth_any 12 t hd (by omega) wz v hv)
  have HLl := Lib.hid hLl
  generalize L[k].1 = z at *
  generalize hn1 : t.parts = n1 at *
  generalize hn2 : t.depth = n2 at *
  clear hL hF hLl hn1 hn2
  have p1 : ¬ (60 : Int) < (n1 : Int) := by omega
  have p2 : ¬ (12 : Int) < (n2 : Int) := by omega
  go_enter Tryz.func182, Tryz.ntmps182
  go_upto_region 2 with (go_at_call 205; (with_reducible refine (HPA.out _).mono ?_); rintro e w1 ⟨g, cap, rfl, hx1, hr1⟩; have HX1 := Lib.hid hx1; have HR1 := Lib.hid hr1; clear hx1 hr1)
  have hz0 : w1.heap[w.heap.size]? = some (.cells zero5 33) := (HX1.out.block _ (by simp)).trans (block_new rfl)
  have hx0 : Ext w w1 := Ext.trans (by with_reducible repeat (first | exact Ext.refl _ | assumption | apply Ext.drewN | apply Ext.drew | apply Ext.alloc | (refine Ext.setCell ?_ (by simp <;> omega) _) | (refine Ext.trans ?_ (by assumption)))) HX1.out
  have hpx : PX 164 (w1.alloc (.cells #[.slice (some ⟨g, 0, none⟩) L.length cap, .int .i64 0, .int .i64 0, .int .i64 0] 164)) w1.heap.size (.slice (some ⟨g, 0, none⟩) L.length cap) L 0 [] :=
    ⟨block_new rfl, (SR.of_row (cs := tokC) (fun _ => rfl) HR1.out HLl.out).ext (Ext.alloc (Ext.refl _) _), fun b n c e => by
      have h1 := HR1.out.form (by omega)
      obtain ⟨g', cap', e1, -, h2⟩ := h1
      injection e1 with e1
      injection e1 with e1
      injection e1 with e1
      injection e with e
      injection e with e
      injection e with e
      omega⟩
  have hz1 : (w1.alloc (.cells #[.slice (some ⟨g, 0, none⟩) L.length cap, .int .i64 0, .int .i64 0, .int .i64 0] 164)).heap[w.heap.size]? = some (.cells zero5 33) := ((Ext.alloc (Ext.refl w1) _).block _ (Rg.lt_of_heap hz0)).trans hz0
  have hx1 : Ext w (w1.alloc (.cells #[.slice (some ⟨g, 0, none⟩) L.length cap, .int .i64 0, .int .i64 0, .int .i64 0] 164)) := hx0.trans (Ext.alloc (Ext.refl w1) _)
  have HPX := Lib.hid hpx; have HZ1 := Lib.hid hz1; have HX2 := Lib.hid hx1
  have hlt : w.heap.size < w1.heap.size := Rg.lt_of_heap hz0
  clear hpx hz1 hx1 hz0 hx0
  obtain ⟨p, hpe⟩ : ∃ p, p = w1.heap.size := ⟨_, rfl⟩
  rw [← hpe] at HPX hlt ⊢
  clear hpe
  generalize w1.alloc (.cells #[.slice (some ⟨g, 0, none⟩) L.length cap, .int .i64 0, .int .i64 0, .int .i64 0] 164) = w2 at *
  generalize (Value.slice (some ⟨g, 0, none⟩) L.length cap) = tv at *
  have hw2 := Rg.lt_of_heap HPX.out.at_
  go_upto_region 3 with (go_at_call 206; (with_reducible refine (HF.out _ _ _ HPX.out).mono ?_); rintro e w3 ⟨v, rfl, hr3, hp3, hx3⟩; obtain ⟨op0, m1, m2, nm0, b0, n0, c0, rfl⟩ := hr3.form; have HR3 := Lib.hid hr3; have HP3 := Lib.hid hp3; have HZ3 := Lib.hid (hx3.at HZ1.out (show w.heap.size ≠ p by omega)); have HX3 := Lib.hid (Ext.of_kx HX2.out hx3 (Nat.le_of_lt hlt)); clear hr3 hp3 hx3)
  have hrx : RX w (w3.alloc (.cells #[.string op0, .int .i64 m1, .int .i64 m2, .string nm0, .slice b0 n0 c0] 33)) p w3.heap.size tv L k t #[.string op0, .int .i64 m1, .int .i64 m2, .string nm0, .slice b0 n0 c0] :=
    ⟨HP3.out.ext (Ext.alloc (Ext.refl _) _), HX3.out.trans (Ext.alloc (Ext.refl _) _), block_new rfl, (Rd.frame (fun _ _ _ _ => rfl) (fun b hb => by have := HX2.out.size; omega) _ _ HR3.out).ext (Ext.alloc (Ext.refl _) _), ((Ext.alloc (Ext.refl w3) _).block _ (Rg.lt_of_heap HZ3.out)).trans HZ3.out⟩
  have HT := Lib.hid hrx
  clear hrx
  obtain ⟨q, hqe⟩ : ∃ q, q = w3.heap.size := ⟨_, rfl⟩
  rw [← hqe] at HT ⊢
  clear hqe
  generalize w3.alloc (.cells #[.string op0, .int .i64 m1, .int .i64 m2, .string nm0, .slice b0 n0 c0] 33) = wr at *
  clear HP3 HX3 HR3 HZ3 HPX HZ1 HX2 hw2
  obtain ⟨c0', c1, c2, c3⟩ := HT.out.px.c; obtain ⟨e0, e1, e2, e3, e4, -⟩ := cells_five HT.out.at_; have hpl1 := Rg.lt_of_heap HT.out.px.at_; have hql1 := Rg.lt_of_heap HT.out.at_
  go_upto_region 10 with (first
    | (go_at_call 140; (with_reducible refine (HTX.out _ _ _ HT.out.px).mono ?_); rintro e wr ⟨rfl, hx5⟩; have HT := Lib.hid (HT.out.ext hx5); clear hx5; obtain ⟨c0', c1, c2, c3⟩ := HT.out.px.c; obtain ⟨e0, e1, e2, e3, e4, -⟩ := cells_five HT.out.at_; have hpl1 := Rg.lt_of_heap HT.out.px.at_; have hql1 := Rg.lt_of_heap HT.out.at_)
    | (go_at_call 148; (with_reducible refine (HPT.out _ _ HT.out.rd.all).mono ?_); rintro e wr ⟨rfl, hx5⟩; have HT := Lib.hid (HT.out.ext hx5); clear hx5; obtain ⟨c0', c1, c2, c3⟩ := HT.out.px.c; obtain ⟨e0, e1, e2, e3, e4, -⟩ := cells_five HT.out.at_; have hpl1 := Rg.lt_of_heap HT.out.px.at_; have hql1 := Rg.lt_of_heap HT.out.at_)
    | (go_at_call 149; (with_reducible refine (HDT.out _ _ HT.out.rd.all).mono ?_); rintro e wr ⟨rfl, hx5⟩; have HT := Lib.hid (HT.out.ext hx5); clear hx5; obtain ⟨c0', c1, c2, c3⟩ := HT.out.px.c; obtain ⟨e0, e1, e2, e3, e4, -⟩ := cells_five HT.out.at_; have hpl1 := Rg.lt_of_heap HT.out.px.at_; have hql1 := Rg.lt_of_heap HT.out.at_))
  obtain ⟨r0, r1, r2, r3, r4, s0, s1, s2, s3, s4⟩ := cells_five HT.out.res
  have hrl := Rg.lt_of_heap HT.out.res
  go_wp2_with (fail)
  have hfin := put5_at HT.out.res (.string op0) (.int .i64 m1) (.int .i64 m2) (.string nm0) (.slice b0 n0 c0)
  have hx5 := Ext.of_kx HT.out.low (put5_kx0 wr w.heap.size (.string op0) (.int .i64 m1) (.int .i64 m2) (.string nm0) (.slice b0 n0 c0)) (Nat.le_refl _)
  have hr5 := put5_rd (S := fun b => w.heap.size < b) (S' := fun b => w.heap.size < b) (q := w.heap.size) (b0 := .string op0) (b1 := .int .i64 m1) (b2 := .int .i64 m2) (b3 := .string nm0) (b4 := .slice b0 n0 c0) HT.out.rd (fun b hb => Nat.ne_of_gt hb) (fun b hb => hb)
  exact bodyPost_ret (v := .tuple #[.agg #[.string op0, .int .i64 m1, .int .i64 m2, .string nm0, .slice b0 n0 c0], .int .i64 0, .int .i64 0]) (results_cell3 Tryz.results182 _ _ w.heap.size 33 _ _ _ (.int .i64 0) (.int .i64 0) (by rfl) (by rfl) (by rfl) hfin Tryz.underlying33 (by kernel_rfl)) rfl ⟨_, rfl, hr5, hx5⟩
end Go.Proofs.YteomcpplajeidaaGreat
