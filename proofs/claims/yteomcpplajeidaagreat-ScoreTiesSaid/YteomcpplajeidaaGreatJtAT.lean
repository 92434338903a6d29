/-
  Lemmas of this claim (JtAT). Nothing is asked.
-/
import Derived.Test.YteomcpplajeidaaGreatJtAR
import Derived.Test.YteomcpplajeidaaGreatJtAS
namespace Go.Proofs.YteomcpplajeidaaGreat
set_option linter.unusedVariables false
set_option linter.unusedSimpArgs false
set_option maxRecDepth 100000
open Go.RowKit
theorem SR.of_take {α : Type} {cs : α → List Value} {sz : Nat} (hl : ∀ x, (cs x).length = sz) {w : World} {g c : Nat} {t : TypeId} {cur : Array Value} {xs : List α} (h : w.heap[g]? = some (.cells cur t)) (ht : cur.toList.take (xs.length * sz) = xs.flatMap cs) (hn : xs.length ≤ 1000000) :
    SR cs sz w (.slice (some ⟨g, 0, none⟩) xs.length c) xs := by
  refine ⟨_, _, rfl, hn, .inr ⟨g, rfl, fun k hk j u hu => (cell_of_row w g _ _ _ _ h).trans ?_⟩⟩
  have h1 := flat_get xs (fun y _ => hl y) k hk j u hu
  have h2 : j < sz := by rw [← hl xs[k]]; exact (List.getElem?_eq_some_iff.1 hu).1
  have h3 : k * sz + j < xs.length * sz := by
    have h4 : (k + 1) * sz ≤ xs.length * sz := Nat.mul_le_mul_right sz hk
    have h5 : (k + 1) * sz = k * sz + sz := Nat.succ_mul k sz
    omega
  rw [← ht, List.getElem?_take_of_lt h3] at h1
  rw [← Array.getElem?_toList]
  exact h1
theorem ten_blocks {A : Nat → Prop} {B : Nat} {w : World} {r : TnR} (h : TF A B w r (dD 9)) : ∃ L lc curL C cc curC, r.ls = (some ⟨L, 0, none⟩, 1, lc) ∧ w.heap[L]? = some (.cells curL 72) ∧ curL.toList.take 2 = [.int .i64 1, .int .i64 500] ∧ B ≤ L ∧
    r.cs = (some ⟨C, 0, none⟩, 1, cc) ∧ w.heap[C]? = some (.cells curC 78) ∧ curC.toList.take 5 = [.string comfB, .int .i64 1, .int .i64 0, .int .i64 10, .bool false] ∧ B ≤ C := by
  obtain ⟨-, h1⟩ := h.ls_
  obtain ⟨-, h2⟩ := h.cs_
  rcases h1 with ⟨-, h1⟩ | ⟨L, lc, curL, e1, b1, g1, -, -, -, t1⟩
  · cases h1
  rcases h2 with ⟨-, h2⟩ | ⟨C, cc, curC, e2, b2, g2, -, -, -, t2⟩
  · cases h2
  have key : ∀ (s : Sl) (G n c : Nat), slV s = .slice (some ⟨G, 0, none⟩) n c → s = (some ⟨G, 0, none⟩, n, c) := by
    rintro ⟨a, b, c⟩ G n c' h
    injection h with h1 h2 h3
    subst h1 h2 h3
    rfl
  exact ⟨L, lc, curL, C, cc, curC, key _ _ _ _ e1, g1, t1, b1, key _ _ _ _ e2, g2, t2, b2⟩
theorem mod3 (x : Int) (h : 0 ≤ x ∧ x ≤ 255) : (0 ≤ x.tmod 3 ∧ x.tmod 3 < 3) ∧ IntKind.i64.wrap (x.tmod 3) = x.tmod 3 ∧ IntKind.i64.wrap (1 + x.tmod 3) = 1 + x.tmod 3 ∧ IntKind.i64.wrap (2 * x.tmod 3) = 2 * x.tmod 3 ∧ IntKind.i64.wrap (2 * x.tmod 3 + 1) = 2 * x.tmod 3 + 1 := by
  have e : x.tmod 3 = x % 3 := Int.tmod_eq_emod_of_nonneg h.1
  rw [e]
  have h1 : 0 ≤ x % 3 ∧ x % 3 < 3 := by omega
  generalize x % 3 = m at *
  rcases (show m = 0 ∨ m = 1 ∨ m = 2 by omega) with rfl | rfl | rfl <;> decide
theorem keep_set {w : World} {p q j : Nat} {ob : Obj} {v : Value} (h : w.heap[q]? = some ob) (hne : q ≠ p) : (w.setCell ⟨p, j, none⟩ v).heap[q]? = some ob := (RowKit.Below.heap_setCell _ _ _ _ hne).trans h
structure TIS (w0 w : World) (P C L g q1 q2 q3 B0 B1 : Nat) (X Y : Obj) (r : TnR) (curL curC : Array Value) : Prop where
  low : Ext w0 w
  hp : w.heap[P]? = some (.cells (tenC r) 39)
  hl : w.heap[L]? = some (.cells curL 72)
  hc : w.heap[C]? = some (.cells curC 78)
  hg : w.heap[g]? = some (.cells ((chE q1 q2 q3).flatMap cellsEn).toArray 57)
  p0 : w0.heap.size ≤ P
  l0 : L < P
  c0 : C < P
  g0 : g < P
  cl : w0.heap.size ≤ C
  hx : w.heap[B0]? = some X
  hy : w.heap[B1]? = some Y
  bx : B0 < C
  by_ : B1 < C
section
variable {w0 w w' : World} {P C L g q1 q2 q3 B0 B1 : Nat} {X Y : Obj} {r r' : TnR} {curL curC : Array Value}
theorem TIS.setP (h : TIS w0 w P C L g q1 q2 q3 B0 B1 X Y r curL curC) (j : Nat) (v : Value) (e : (tenC r).setIfInBounds j v = tenC r') : TIS w0 (w.setCell ⟨P, j, none⟩ v) P C L g q1 q2 q3 B0 B1 X Y r' curL curC :=
  ⟨Below.setCell h.low h.p0 _, by rw [← e]; exact heap_put v h.hp, keep_set h.hl (Nat.ne_of_lt h.l0), keep_set h.hc (Nat.ne_of_lt h.c0), keep_set h.hg (Nat.ne_of_lt h.g0), h.p0, h.l0, h.c0, h.g0, h.cl, keep_set h.hx (by have := h.bx; have := h.c0; omega), keep_set h.hy (by have := h.by_; have := h.c0; omega), h.bx, h.by_⟩
theorem TIS.cl_ne (h : TIS w0 w P C L g q1 q2 q3 B0 B1 X Y r curL curC) : L ≠ C ∧ g ≠ C := by
  refine ⟨fun e => ?_, fun e => ?_⟩
  · have := h.hl; rw [e, h.hc] at this; injection this with this; injection this with _ h2; exact absurd h2 (by decide)
  · have := h.hg; rw [e, h.hc] at this; injection this with this; injection this with _ h2; exact absurd h2 (by decide)
theorem TIS.setC (h : TIS w0 w P C L g q1 q2 q3 B0 B1 X Y r curL curC) (j : Nat) (v : Value) : TIS w0 (w.setCell ⟨C, j, none⟩ v) P C L g q1 q2 q3 B0 B1 X Y r curL (curC.setIfInBounds j v) :=
  ⟨Below.setCell h.low h.cl _, keep_set h.hp (Nat.ne_of_gt h.c0), keep_set h.hl h.cl_ne.1, heap_put v h.hc, keep_set h.hg h.cl_ne.2, h.p0, h.l0, h.c0, h.g0, h.cl, keep_set h.hx (Nat.ne_of_lt h.bx), keep_set h.hy (Nat.ne_of_lt h.by_), h.bx, h.by_⟩
theorem TIS.ext (h : TIS w0 w P C L g q1 q2 q3 B0 B1 X Y r curL curC) (x : Ext w w') : TIS w0 w' P C L g q1 q2 q3 B0 B1 X Y r curL curC :=
  ⟨h.low.trans x, (x.block _ (Rg.lt_of_heap h.hp)).trans h.hp, (x.block _ (Rg.lt_of_heap h.hl)).trans h.hl, (x.block _ (Rg.lt_of_heap h.hc)).trans h.hc, (x.block _ (Rg.lt_of_heap h.hg)).trans h.hg, h.p0, h.l0, h.c0, h.g0, h.cl, (x.block _ (Rg.lt_of_heap h.hx)).trans h.hx, (x.block _ (Rg.lt_of_heap h.hy)).trans h.hy, h.bx, h.by_⟩
theorem TIS.grown {o : Option Nat} (h : TIS w0 w P C L g q1 q2 q3 B0 B1 X Y r curL curC) (k : w.grownBy w' o) (ho : ∀ b, o = some b → P < b) : TIS w0 w' P C L g q1 q2 q3 B0 B1 X Y r curL curC := by
  have key : ∀ {q : Nat} {ob : Obj}, w.heap[q]? = some ob → q ≤ P → w'.heap[q]? = some ob := fun {q ob} hq hqp => (k.block q (Rg.lt_of_heap hq) (fun e => by have := ho q e.symm; omega)).trans hq
  exact ⟨ext_grown h.low k (fun b hb => by have := ho b hb; have := h.p0; omega), key h.hp (Nat.le_refl _), key h.hl (Nat.le_of_lt h.l0), key h.hc (Nat.le_of_lt h.c0), key h.hg (Nat.le_of_lt h.g0), h.p0, h.l0, h.c0, h.g0, h.cl, key h.hx (by have := h.bx; have := h.c0; omega), key h.hy (by have := h.by_; have := h.c0; omega), h.bx, h.by_⟩
def TsR (w : World) (P : Nat) (ts : Sl) (l : List ByteArray) : Prop := w.ownsRow (P + 1) 9 1 (slV ts) l.length (l.flatMap strC)
theorem TsR.set {ts : Sl} {l : List ByteArray} (h : TsR w P ts l) {p j : Nat} (hp : p ≤ P) (v : Value) : TsR (w.setCell ⟨p, j, none⟩ v) P ts l :=
  row_move h fun b hb _ => RowKit.Below.heap_setCell _ _ _ _ (by
    rcases h.2 with ⟨h1, -⟩ | ⟨g, cap, cur, h1, h2, -⟩
    · rw [h1] at hb; cases hb
    · rw [h1] at hb; injection hb with hb; subst hb; show g ≠ p; omega)
theorem TsR.put {ts : Sl} {l : List ByteArray} (h : TsR w P ts l) {p j : Nat} (hp : ∀ b, (slV ts).ownBlock = some b → b ≠ p) (v : Value) : TsR (w.setCell ⟨p, j, none⟩ v) P ts l :=
  row_move h fun b hb _ => RowKit.Below.heap_setCell _ _ _ _ (hp b hb)
theorem TsR.lt {ts : Sl} {l : List ByteArray} (h : TsR w P ts l) : ∀ b, (slV ts).ownBlock = some b → b < w.heap.size := fun b hb => by
  rcases h.2 with ⟨h1, -⟩ | ⟨g, cap, cur, h1, h2, hg, -⟩
  · rw [h1] at hb; cases hb
  · rw [h1] at hb; injection hb with hb; subst hb; exact Rg.lt_of_heap hg
theorem TsR.ext {ts : Sl} {l : List ByteArray} (h : TsR w P ts l) (x : Ext w w') : TsR w' P ts l := row_ext h x
theorem TsR.own {ts : Sl} {l : List ByteArray} (h : TsR w P ts l) : ∀ b, (slV ts).ownBlock = some b → P < b := fun b hb => by
  rcases h.2 with ⟨h1, -⟩ | ⟨g, cap, cur, h1, h2, -⟩
  · rw [h1] at hb; cases hb
  · rw [h1] at hb; injection hb with hb; subst hb; exact h2
end
theorem ti_xr {w : World} {G pX pY : Nat} (b p x k b' p' x' k' : Int) (hb : 0 ≤ b ∧ b ≤ 100) (hp : 0 ≤ p ∧ p ≤ 100) (hx : 0 ≤ x ∧ x ≤ 100) (hk : 0 ≤ k ∧ k ≤ 100) (hb' : 0 ≤ b' ∧ b' ≤ 100) (hp' : 0 ≤ p' ∧ p' ≤ 100) (hx' : 0 ≤ x' ∧ x' ≤ 100) (hk' : 0 ≤ k' ∧ k' ≤ 100)
    (hg : w.heap[G]? = some (.cells ([tiE b p x k (some ⟨pX, 0, none⟩, 1, 1), tiE b' p' x' k' (some ⟨pY, 0, none⟩, 1, 1)].flatMap cellsEn).toArray 57)) (h1 : w.heap[pX]? = some (.cells #[.string comfB, .int .i64 x] 80)) (h2 : w.heap[pY]? = some (.cells #[.string comfB, .int .i64 x'] 80)) :
    XR w (.slice (some ⟨G, 0, none⟩) 2 2) [tiE b p x k (some ⟨pX, 0, none⟩, 1, 1), tiE b' p' x' k' (some ⟨pY, 0, none⟩, 1, 1)] := by
  refine ⟨SR.of_block (xs := [tiE b p x k (some ⟨pX, 0, none⟩, 1, 1), tiE b' p' x' k' (some ⟨pY, 0, none⟩, 1, 1)]) (cs := cellsEn) (sz := 5) (fun _ => rfl) hg (by show (2 : Nat) ≤ 1000000; decide), ?_⟩
  have hv : ∀ (q : Nat) (n : Int), (0 ≤ n ∧ n ≤ 100) → w.heap[q]? = some (.cells #[.string comfB, .int .i64 n] 80) → VRd All w [(comfB, n)] (slV (some ⟨q, 0, none⟩, 1, 1)) := by
    intro q n hn h
    refine ⟨_, _, rfl, by show (1 : Nat) ≤ 1000000; decide, ?_, .inr ⟨q, rfl, trivial, ?_⟩⟩
    · intro x hx
      rw [List.mem_singleton.1 hx]
      show _ ≤ n ∧ n ≤ _
      omega
    · intro k hk
      have hk0 : k = 0 := by simp at hk; omega
      subst hk0
      exact ⟨(cell_of_row w q 0 _ _ _ h).trans rfl, (cell_of_row w q 1 _ _ _ h).trans rfl⟩
  have ok : ∀ b p x k : Int, (0 ≤ b ∧ b ≤ 100) → (0 ≤ p ∧ p ≤ 100) → (0 ≤ k ∧ k ≤ 100) → OkE ⟨b, 1, k, p, [(comfB, x)]⟩ := fun b p x k h1 h2 h3 =>
    ⟨by show _ ≤ b ∧ b ≤ _; omega, by show (_ : Int) ≤ 1 ∧ (1 : Int) ≤ _; omega, by show _ ≤ k ∧ k ≤ _; omega, by show _ ≤ p ∧ p ≤ _; omega, by show (1 : Nat) ≤ 999998; omega⟩
  intro y hy
  simp at hy
  rcases hy with rfl | rfl
  · exact ⟨ok _ _ _ _ hb hp hk, hv _ _ hx h1⟩
  · exact ⟨ok _ _ _ _ hb' hp' hk', hv _ _ hx' h2⟩
set_option maxHeartbeats 32000000 in
theorem ties_walk (x0 x1 x2 y0 y1 y2 z : Int) (hx0 : 0 ≤ x0 ∧ x0 ≤ 255) (hx1 : 0 ≤ x1 ∧ x1 ≤ 255) (hx2 : 0 ≤ x2 ∧ x2 ≤ 255) (hy0 : 0 ≤ y0 ∧ y0 ≤ 255) (hy1 : 0 ≤ y1 ∧ y1 ≤ 255) (hy2 : 0 ≤ y2 ∧ y2 ≤ 255) (hz : 0 ≤ z ∧ z ≤ 255) (w : World) :
    Calls Tryz.prog 9 #[.agg #[.int .u8 x0, .int .u8 x1, .int .u8 x2], .agg #[.int .u8 y0, .int .u8 y1, .int .u8 y2], .int .u8 z] w fun e w' => e = .returned (.bool true) ∧ Ext w w' := by
  have he0 : Ext w ((w.alloc (.cells #[.int .u8 x0, .int .u8 x1, .int .u8 x2] 73)).alloc (.cells #[.int .u8 y0, .int .u8 y1, .int .u8 y2] 73)) := Ext.alloc (Ext.alloc (Ext.refl w) _) _
  have hx0' : ((w.alloc (.cells #[.int .u8 x0, .int .u8 x1, .int .u8 x2] 73)).alloc (.cells #[.int .u8 y0, .int .u8 y1, .int .u8 y2] 73)).heap[w.heap.size]? = some (.cells #[.int .u8 x0, .int .u8 x1, .int .u8 x2] 73) := al (alloc_new w _)
  have hy0' : ((w.alloc (.cells #[.int .u8 x0, .int .u8 x1, .int .u8 x2] 73)).alloc (.cells #[.int .u8 y0, .int .u8 y1, .int .u8 y2] 73)).heap[w.heap.size + 1]? = some (.cells #[.int .u8 y0, .int .u8 y1, .int .u8 y2] 73) := by
    have h1 := alloc_new (w.alloc (.cells #[.int .u8 x0, .int .u8 x1, .int .u8 x2] 73)) (.cells #[.int .u8 y0, .int .u8 y1, .int .u8 y2] 73)
    rw [show (w.alloc (.cells #[.int .u8 x0, .int .u8 x1, .int .u8 x2] 73)).heap.size = w.heap.size + 1 by simp] at h1
    exact h1
  have HE0 := Lib.hid he0; have HX0 := Lib.hid hx0'; have HY0 := Lib.hid hy0'
  clear he0 hx0' hy0'
  go_enter Tryz.func9, Tryz.ntmps9
  go_upto_region 2 with (go_at_call 11; (with_reducible refine (sanity_any _).mono ?_); rintro e w1 ⟨rfl, hx1⟩; have HX1 := Lib.hid (HE0.out.trans hx1); have HBX := Lib.hid ((hx1.block _ (Rg.lt_of_heap HX0.out)).trans HX0.out); have HBY := Lib.hid ((hx1.block _ (Rg.lt_of_heap HY0.out)).trans HY0.out); clear hx1)
  go_upto_region 3 with (first
    | (go_at_call 27; (with_reducible refine (chairs_any _).mono ?_); rintro e w2 ⟨r, g, q1, q2, q3, rfl, hx2, htf, hgl, hg, hq1, hb1, hq2, hb2, hq3, hb3⟩
       obtain ⟨L, lc, curL, C, cc, curC, hls, hL, htL, hbL, hcs, hC, htC, hbC⟩ := ten_blocks htf
       obtain ⟨-, hlow, hhigh⟩ := tv_of htf
       have HLO := Lib.hid hlow; have HHI := Lib.hid hhigh; have HRS := Lib.hid htf.rs_
       have HLS := Lib.hid hls; have HCS := Lib.hid hcs; have HL := Lib.hid hL; have HC := Lib.hid hC; have HTL := Lib.hid htL; have HTC := Lib.hid htC; have HBL := Lib.hid hbL; have HBC := Lib.hid hbC
       clear hls hL htL hbL hcs hC htC hbC hlow hhigh
       have HX2 := Lib.hid hx2; have HTF := Lib.hid htf; have HG := Lib.hid hg
       clear hx2 htf hgl hg hq1 hb1 hq2 hb2 hq3 hb3
       obtain ⟨row, hrow⟩ : ∃ row, row = tenC r := ⟨_, rfl⟩
       rw [← hrow]
       have hrs : row.size = 20 := by rw [hrow]; rfl
       have hone : ∀ v ∈ row.toList, v.oneCell' = true := by rw [hrow]; exact ten_one r
       have HROW := Lib.hid hrow; clear hrow)
    | (refine wpList_store_row rfl 39 (.tmp 8) (.tmp 21) rfl w2.heap.size (by rfl) row (by rfl) _ 39 (block_new rfl) (by rw [hrs]; rfl) (by rw [hrs]; kernel_rfl) hone ?_))
  obtain ⟨P, hP⟩ : ∃ x, x = w2.heap.size := ⟨_, rfl⟩
  have hp3 : ((w2.alloc (.cells (tenC zeroT) 39)).setRow w2.heap.size row).heap[w2.heap.size]? = some (.cells row 39) := setRow_heap _ _ _ row _ _ (block_new rfl)
  have hx3 : Ext w2 ((w2.alloc (.cells (tenC zeroT) 39)).setRow w2.heap.size row) := below_setRow (Ext.alloc (Ext.refl _) _) (Nat.le_refl _) _
  generalize (w2.alloc (.cells (tenC zeroT) 39)).setRow w2.heap.size row = w3 at *
  obtain ⟨obX, hobX⟩ : ∃ x : Obj, x = .cells #[.int .u8 x0, .int .u8 x1, .int .u8 x2] 73 := ⟨_, rfl⟩
  obtain ⟨obY, hobY⟩ : ∃ x : Obj, x = .cells #[.int .u8 y0, .int .u8 y1, .int .u8 y2] 73 := ⟨_, rfl⟩
  have HT3 : Hid (TIS w w3 P C L g q1 q2 q3 w.heap.size (w.heap.size + 1) obX obY r curL curC) := by
    rw [HROW.out] at hp3
    have h2 := HX2.out.size
    have h4 := HX1.out.size
    have h5 := Rg.lt_of_heap HBX.out
    have h6 := Rg.lt_of_heap HBY.out
    have h7 := HBC.out
    have hx13 := HX2.out.trans hx3
    exact Lib.hid ⟨HX1.out.trans hx13, by rw [hP]; exact hp3, (hx3.block _ (Rg.lt_of_heap HL.out)).trans HL.out, (hx3.block _ (Rg.lt_of_heap HC.out)).trans HC.out, (hx3.block _ (Rg.lt_of_heap HG.out)).trans HG.out, by omega, by have := Rg.lt_of_heap HL.out; omega, by have := Rg.lt_of_heap HC.out; omega, by have := Rg.lt_of_heap HG.out; omega, by omega,
      by rw [hobX]; exact (hx13.block _ h5).trans HBX.out, by rw [hobY]; exact (hx13.block _ h6).trans HBY.out, by omega, by omega⟩
  have HOX := Lib.hid hobX; have HOY := Lib.hid hobY
  clear hobX hobY
  rw [← hP]
  clear hp3 hx3 hP HL HC HG HX2 hone HTF HBL HBC HX1 HBX HBY
  go_upto_region 4 with (go_at_call 28; (with_reducible refine (refOf_any _ _).mono ?_); rintro e w4 ⟨rfl, hx4⟩; have HT4 := Lib.hid (HT3.out.ext hx4); clear hx4; obtain ⟨hcc, hff, hpl⟩ := Rg.cells_of HT4.out.hp; have c6 : w4.cell? ⟨P, 6, none⟩ = some (.string r.fo) := hcc 6; have c7 : w4.cell? ⟨P, 7, none⟩ = some (.int .i64 r.f1) := hcc 7; have c8 : w4.cell? ⟨P, 8, none⟩ = some (.int .i64 r.f2) := hcc 8; have c9 : w4.cell? ⟨P, 9, none⟩ = some (.string r.fn) := hcc 9; have c10 : w4.cell? ⟨P, 10, none⟩ = some (slV r.fa) := hcc 10; have f6 := hff 6; have f7 := hff 7; have f8 := hff 8; have f9 := hff 9; have f10 := hff 10; clear hcc hff)
  have HT5 := Lib.hid (((((HT4.out.setP (r' := { r with fo := numB }) 6 (.string numB) rfl).setP (r' := { r with fo := numB, f1 := 1 }) 7 (.int .i64 1) rfl).setP (r' := { r with fo := numB, f1 := 1, f2 := 1 }) 8 (.int .i64 1) rfl).setP (r' := { r with fo := numB, f1 := 1, f2 := 1, fn := nilB }) 9 (.string nilB) rfl).setP (r' := { r with fo := numB, f1 := 1, f2 := 1, fn := nilB, fa := (none, 0, 0) }) 10 (.slice none 0 0) rfl)
  clear c6 c7 c8 c9 c10 f6 f7 f8 f9 f10 HT4 HT3 hpl
  generalize ((((w4.setCell ⟨P, 6, none⟩ (.string numB)).setCell ⟨P, 7, none⟩ (.int .i64 1)).setCell ⟨P, 8, none⟩ (.int .i64 1)).setCell ⟨P, 9, none⟩ (.string nilB)).setCell ⟨P, 10, none⟩ (.slice none 0 0) = w5 at *
  obtain ⟨hcc, hff, hpl⟩ := Rg.cells_of HT5.out.hp
  have c11 : w5.cell? ⟨P, 11, none⟩ = some (slV r.ts) := hcc 11
  have f11 := hff 11
  clear hcc hff
  go_upto_region 5 with (fail)
  have HT6 := Lib.hid (HT5.out.setP (r' := { r with fo := numB, f1 := 1, f2 := 1, fn := nilB, fa := (none, 0, 0), ts := (none, 0, 0) }) 11 (.slice none 0 0) rfl)
  clear c11 f11 HT5 hpl
  generalize w5.setCell ⟨P, 11, none⟩ (.slice none 0 0) = w6 at *
  obtain ⟨hcc, hff, hpl⟩ := Rg.cells_of HT6.out.hp
  have c2 : w6.cell? ⟨P, 2, none⟩ = some (.slice (some ⟨C, 0, none⟩) 1 cc) := (hcc 2).trans (by show some (slV r.cs) = _; rw [HCS.out])
  clear hcc hff
  obtain ⟨hcc, hff, -⟩ := Rg.cells_of HT6.out.hc
  have d4 : w6.cell? ⟨C, 4, none⟩ = some (.bool false) := (hcc 4).trans (by
    have h1 : (curC.toList.take 5)[4]? = some (.bool false) := by rw [HTC.out]; rfl
    rw [List.getElem?_take_of_lt (by decide)] at h1
    rw [← Array.getElem?_toList]; exact h1)
  have g4 := hff 4
  clear hcc hff
  go_upto_region 6 with (fail)
  obtain ⟨less, hless⟩ : ∃ b, b = (bits .and .u8 z 4 != 0) := ⟨_, rfl⟩
  obtain ⟨b1, hb1⟩ : ∃ b, b = (bits .and .u8 z 1 != 0) := ⟨_, rfl⟩
  obtain ⟨b2, hb2⟩ : ∃ b, b = (bits .and .u8 z 2 != 0) := ⟨_, rfl⟩
  rw [← hless]
  have HT7 := Lib.hid (HT6.out.setC 4 (.bool less))
  have HTC7 : Hid ((curC.setIfInBounds 4 (.bool less)).toList.take 5 = [.string comfB, .int .i64 1, .int .i64 0, .int .i64 10, .bool less]) := Lib.hid (by
    rw [Array.toList_setIfInBounds, List.take_set, HTC.out]; rfl)
  clear c2 d4 g4 HT6 hpl
  generalize w6.setCell ⟨C, 4, none⟩ (.bool less) = w7 at *
  generalize curC.setIfInBounds 4 (.bool less) = curC' at *
  clear HTC
  obtain ⟨rF, hrF⟩ : ∃ rF : TnR, rF = { r with fo := numB, f1 := 1, f2 := 1, fn := nilB, fa := (none, 0, 0), ts := (none, 0, 0) } := ⟨_, rfl⟩
  have hrF0 : rF.ts = (none, 0, 0) := by rw [hrF]
  rw [← hrF] at HT7
  have HRF := Lib.hid hrF; have HRF0 := Lib.hid hrF0; have HLESS := Lib.hid hless; have HB1 := Lib.hid hb1; have HB2 := Lib.hid hb2
  clear hrF hrF0 hless hb1 hb2
  go_upto_if 36 with (fail)
  go_cut [7] (fun s7 wx => s7 = .bool true ∧ ∃ ts, TIS w wx P C L g q1 q2 q3 w.heap.size (w.heap.size + 1) obX obY { rF with ts := ts } curL curC' ∧ TsR wx P ts (if b1 then [comfB] else []))
  case first => as_aux_lemma =>
    have HT8 := Lib.hid (show TIS w w7 P C L g q1 q2 q3 w.heap.size (w.heap.size + 1) obX obY { rF with ts := (none, 0, 0) } curL curC' from (by rw [← HRF0.out]; exact HT7.out))
    obtain ⟨hcc, hff, hpl⟩ := Rg.cells_of HT8.out.hp
    have c11 : w7.cell? ⟨P, 11, none⟩ = some (.slice none 0 0) := hcc 11
    have f11 := hff 11
    clear hcc hff
    have hb := HB1.out
    clear HB1
    cases b1 with
    | false =>
      have hbe : bits .and .u8 z 1 = 0 := by simpa using hb.symm
      clear hb
      go_wp2_with (fail)
      go_meet
      case rel => exact ⟨rfl, (none, 0, 0), HT8.out, show TsR w7 P (none, 0, 0) [] from ⟨rfl, .inl ⟨rfl, rfl⟩⟩⟩
    | true =>
      have hbe : (bits .and .u8 z 1 != 0) = true := hb.symm
      have hbn : bits .and .u8 z 1 ≠ 0 := by simpa using hbe
      clear hb
      have hsl : P + 1 ≤ (w7.alloc (.cells #[.string comfB] 9)).heap.size := by simp; omega
      have HXA : Hid (Ext w7 (w7.alloc (.cells #[.string comfB] 9))) := Lib.hid (Ext.alloc (Ext.refl _) _)
      go_wp2_with (at_builtin; refine append_str rfl (.tmp 38) (.tmp 39) rfl (P + 1) (.slice none 0 0) [] (by rfl) ⟨rfl, .inl ⟨rfl, rfl⟩⟩ w7.heap.size comfB (by rfl) (alloc_new w7 _) (by decide) hsl ?_; intro ga ca w8 hr8 hb8 _; have HT9 := Lib.hid ((HT8.out.ext HXA.out).grown hb8 (fun b hb => by cases hb)); have HR9 := Lib.hid hr8; clear hr8 hb8 c11 f11 hpl; obtain ⟨hcc, hff, hpl⟩ := Rg.cells_of HT9.out.hp; have c11 : w8.cell? ⟨P, 11, none⟩ = some (.slice none 0 0) := hcc 11; have f11 := hff 11; clear hcc hff)
      go_meet
      case rel => exact ⟨rfl, (some ⟨ga, 0, none⟩, 1, ca), HT9.out.setP (r' := { rF with ts := (some ⟨ga, 0, none⟩, 1, ca) }) 11 (.slice (some ⟨ga, 0, none⟩) 1 ca) rfl, TsR.set (ts := (some ⟨ga, 0, none⟩, 1, ca)) (l := [comfB]) HR9.out (Nat.le_refl _) _⟩
  case rest =>
    obtain ⟨w10, rfl⟩ : ∃ wd : World, wd = wc := ⟨_, rfl⟩
    obtain ⟨rfl, ⟨ta, tn, tc⟩, ht, hr⟩ := hcut
    have HT10 := Lib.hid ht; have HR10 := Lib.hid hr
    clear ht hr
    clear HT7
    obtain ⟨tsl, htsl⟩ : ∃ l, l = if b1 then [comfB] else [] := ⟨_, rfl⟩
    rw [← htsl] at HR10
    have HTSL := Lib.hid htsl
    have htl : tsl.length < 1000000 := by rw [htsl]; split <;> decide
    clear htsl
    go_upto_if 44 with (fail)
    go_cut [7] (fun s7 wx => s7 = .bool true ∧ ∃ ts, TIS w wx P C L g q1 q2 q3 w.heap.size (w.heap.size + 1) obX obY { rF with ts := ts } curL curC' ∧ TsR wx P ts (tsl ++ if b2 then [priceB] else []))
    case first => as_aux_lemma =>
      obtain ⟨hcc, hff, hpl⟩ := Rg.cells_of HT10.out.hp
      have c11 : w10.cell? ⟨P, 11, none⟩ = some (.slice ta tn tc) := hcc 11
      have f11 := hff 11
      clear hcc hff
      have hb := HB2.out
      clear HB2
      cases b2 with
      | false =>
        have hbe : bits .and .u8 z 2 = 0 := by simpa using hb.symm
        clear hb
        go_wp2_with (fail)
        go_meet
        case rel => exact ⟨rfl, (ta, tn, tc), HT10.out, by rw [if_neg (by decide), List.append_nil]; exact HR10.out⟩
      | true =>
        have hbe : (bits .and .u8 z 2 != 0) = true := hb.symm
        have hbn : bits .and .u8 z 2 ≠ 0 := by simpa using hbe
        clear hb
        have hsl : P + 1 ≤ (w10.alloc (.cells #[.string priceB] 9)).heap.size := by simp; omega
        have HXA : Hid (Ext w10 (w10.alloc (.cells #[.string priceB] 9))) := Lib.hid (Ext.alloc (Ext.refl _) _)
        go_wp2_with (at_builtin; refine append_str rfl (.tmp 46) (.tmp 47) rfl (P + 1) (.slice ta tn tc) tsl (by rfl) (HR10.out.ext HXA.out) w10.heap.size priceB (by rfl) (alloc_new w10 _) htl hsl ?_; intro ga ca w8 hr8 hb8 _; have HT9 := Lib.hid ((HT10.out.ext HXA.out).grown hb8 HR10.out.own); have HR9 := Lib.hid hr8; clear hr8 hb8 c11 f11 hpl; obtain ⟨hcc, hff, hpl⟩ := Rg.cells_of HT9.out.hp; have c11 : w8.cell? ⟨P, 11, none⟩ = some (.slice ta tn tc) := hcc 11; have f11 := hff 11; clear hcc hff)
        go_meet
        case rel => exact ⟨rfl, (some ⟨ga, 0, none⟩, tsl.length + 1, ca), HT9.out.setP (r' := { rF with ts := (some ⟨ga, 0, none⟩, tsl.length + 1, ca) }) 11 (.slice (some ⟨ga, 0, none⟩) (tsl.length + 1) ca) rfl, TsR.set (ts := (some ⟨ga, 0, none⟩, tsl.length + 1, ca)) (l := tsl ++ [priceB]) HR9.out (Nat.le_refl _) _⟩
    case rest =>
      obtain ⟨w11, rfl⟩ : ∃ wd : World, wd = wc := ⟨_, rfl⟩
      obtain ⟨rfl, tf, ht, hr⟩ := hcut
      have HT11 := Lib.hid ht; have HR11 := Lib.hid hr
      clear ht hr HT10 HR10
      obtain ⟨tss, htss⟩ : ∃ l, l = tsl ++ (if b2 then [priceB] else []) := ⟨_, rfl⟩
      rw [← htss] at HR11
      have HTSS := Lib.hid htss
      clear htss
      go_upto_region 10 with (fail)
      obtain ⟨hcc, -, hgl⟩ := Rg.cells_of HT11.out.hg
      have e0 : w11.cell? ⟨g, 0, none⟩ = some (.int .i64 7) := hcc 0
      have e1 : w11.cell? ⟨g, 1, none⟩ = some (.int .i64 1) := hcc 1
      have e2 : w11.cell? ⟨g, 2, none⟩ = some (.int .i64 1) := hcc 2
      have e3 : w11.cell? ⟨g, 3, none⟩ = some (.int .i64 100) := hcc 3
      have e4 : w11.cell? ⟨g, 4, none⟩ = some (.slice (some ⟨q1, 0, none⟩) 1 1) := hcc 4
      have e5 : w11.cell? ⟨g, 5, none⟩ = some (.int .i64 8) := hcc 5
      have e6 : w11.cell? ⟨g, 6, none⟩ = some (.int .i64 1) := hcc 6
      have e7 : w11.cell? ⟨g, 7, none⟩ = some (.int .i64 2) := hcc 7
      have e8 : w11.cell? ⟨g, 8, none⟩ = some (.int .i64 200) := hcc 8
      have e9 : w11.cell? ⟨g, 9, none⟩ = some (.slice (some ⟨q2, 0, none⟩) 1 1) := hcc 9
      clear hcc
      go_cut [10, 11] (fun s10 s11 wx => ∃ pA pB, s10 = .pointer (some ⟨pA, 0, none⟩) ∧ s11 = .pointer (some ⟨pB, 0, none⟩) ∧ pA ≠ pB ∧ w11.heap.size ≤ pA ∧ w11.heap.size ≤ pB ∧ Ext w11 wx ∧ wx.heap[pA]? = some (.cells #[.int .i64 7, .int .i64 1, .int .i64 1, .int .i64 100, .slice (some ⟨q1, 0, none⟩) 1 1] 57) ∧ wx.heap[pB]? = some (.cells #[.int .i64 8, .int .i64 1, .int .i64 2, .int .i64 200, .slice (some ⟨q2, 0, none⟩) 1 1] 57))
      case first => as_aux_lemma =>
        go_region_held3 (fun w' => w'.cell? ⟨g, 0, none⟩ = some (.int .i64 7) ∧ w'.cell? ⟨g, 1, none⟩ = some (.int .i64 1) ∧ w'.cell? ⟨g, 2, none⟩ = some (.int .i64 1) ∧ w'.cell? ⟨g, 3, none⟩ = some (.int .i64 100) ∧ w'.cell? ⟨g, 4, none⟩ = some (.slice (some ⟨q1, 0, none⟩) 1 1) ∧ w'.cell? ⟨g, 5, none⟩ = some (.int .i64 8) ∧ w'.cell? ⟨g, 6, none⟩ = some (.int .i64 1) ∧ w'.cell? ⟨g, 7, none⟩ = some (.int .i64 2) ∧ w'.cell? ⟨g, 8, none⟩ = some (.int .i64 200) ∧ w'.cell? ⟨g, 9, none⟩ = some (.slice (some ⟨q2, 0, none⟩) 1 1))
          (first | exact ⟨e0, e1, e2, e3, e4, e5, e6, e7, e8, e9⟩ | go_keep) (fail)
        · go_wp2_with (fail)
          go_meet
          case rel => exact ⟨_, _, rfl, rfl, by omega, Nat.le_refl _, by omega, Ext.drew (Ext.alloc (Ext.alloc (Ext.refl _) _) _), al (alloc_new w11 _), heap_alloc2_new w11 _ _⟩
        · go_wp2_with (fail)
          go_meet
          case rel => exact ⟨_, _, rfl, rfl, by omega, by omega, Nat.le_refl _, Ext.drew (Ext.alloc (Ext.alloc (Ext.refl _) _) _), heap_alloc2_new w11 _ _, al (alloc_new w11 _)⟩
      case rest =>
        obtain ⟨w12, rfl⟩ : ∃ wd : World, wd = wc := ⟨_, rfl⟩
        obtain ⟨pA, pB, rfl, rfl, hne, hpa, hpb, hx, ha, hb⟩ := hcut
        have HT12 := Lib.hid (HT11.out.ext hx); have HR12 := Lib.hid (HR11.out.ext hx); have HPA := Lib.hid ha; have HPB := Lib.hid hb
        have hPw := Rg.lt_of_heap HT11.out.hp
        have HTB : Hid ((∀ b, (slV tf).ownBlock = some b → b ≠ pA) ∧ ∀ b, (slV tf).ownBlock = some b → b ≠ pB) := Lib.hid ⟨fun b hb => by have := HR11.out.lt b hb; omega, fun b hb => by have := HR11.out.lt b hb; omega⟩
        have hPA : P < pA := by omega
        have hPB : P < pB := by omega
        clear e0 e1 e2 e3 e4 e5 e6 e7 e8 e9 hx ha hb HT11 HR11 hgl hpa hpb hPw
        go_upto_region 11 with (fail)
        obtain ⟨hcc, -, hxl⟩ := Rg.cells_of (HOX.out ▸ HT12.out.hx)
        have d0 : w12.cell? ⟨w.heap.size, 0, none⟩ = some (.int .u8 x0) := hcc 0
        have d1 : w12.cell? ⟨w.heap.size, 1, none⟩ = some (.int .u8 x1) := hcc 1
        have d2 : w12.cell? ⟨w.heap.size, 2, none⟩ = some (.int .u8 x2) := hcc 2
        clear hcc
        obtain ⟨hcc, hff, hal⟩ := Rg.cells_of HPA.out
        have a2 : w12.cell? ⟨pA, 2, none⟩ = some (.int .i64 1) := hcc 2
        have a3 : w12.cell? ⟨pA, 3, none⟩ = some (.int .i64 100) := hcc 3
        have a4 : w12.cell? ⟨pA, 4, none⟩ = some (.slice (some ⟨q1, 0, none⟩) 1 1) := hcc 4
        have f2 := hff 2
        have f3 := hff 3
        have f4 := hff 4
        clear hcc hff
        have hbx := HT12.out.bx
        have hc0 := HT12.out.c0
        have hnx : pA ≠ w.heap.size := by omega
        have hnx' : ¬ w.heap.size = pA := by omega
        have HX0b := Lib.hid hx0; have HX1b := Lib.hid hx1; have HX2b := Lib.hid hx2
        clear hx0 hx1 hx2
        go_cut [7] (fun s7 wx => s7 = .bool true ∧ ∃ (u0 u1 u2 : Int) (pV : Nat), (0 ≤ u0 ∧ u0 < 3) ∧ (0 ≤ u1 ∧ u1 < 3) ∧ (0 ≤ u2 ∧ u2 < 3) ∧ TIS w wx P C L g q1 q2 q3 w.heap.size (w.heap.size + 1) obX obY { rF with ts := tf } curL curC' ∧ TsR wx P tf tss ∧ w12.heap.size ≤ pV ∧
          wx.heap[pA]? = some (.cells #[.int .i64 7, .int .i64 1, .int .i64 (2 * u2), .int .i64 (1 + u0), .slice (some ⟨pV, 0, none⟩) 1 1] 57) ∧ wx.heap[pV]? = some (.cells #[.string comfB, .int .i64 u1] 80) ∧ wx.heap[pB]? = some (.cells #[.int .i64 8, .int .i64 1, .int .i64 2, .int .i64 200, .slice (some ⟨q2, 0, none⟩) 1 1] 57))
        case first => as_aux_lemma =>
          go_region_held3 (fun w' => w'.cell? ⟨w.heap.size, 0, none⟩ = some (.int .u8 x0) ∧ w'.cell? ⟨w.heap.size, 1, none⟩ = some (.int .u8 x1) ∧ w'.cell? ⟨w.heap.size, 2, none⟩ = some (.int .u8 x2)) (first | exact ⟨d0, d1, d2⟩ | go_keep) (fail)
          all_goals
            (go_wp2_with (fail)
             go_meet
             case rel =>
               obtain ⟨k1, k2, k3, k4, -⟩ := mod3 x0 HX0b.out
               obtain ⟨l1, l2, l3, l4, -⟩ := mod3 x1 HX1b.out
               obtain ⟨m1, m2, m3, m4, -⟩ := mod3 x2 HX2b.out
               rw [k2, k3, l2, m2, m4]
               have kk : KX pA w12 (((((w12.setCell ⟨pA, 3, none⟩ (.int .i64 (1 + x0.tmod 3))).setCell ⟨pA, 4, none⟩ (.slice (some ⟨w12.heap.size, 0, none⟩) 1 1)).setCell ⟨pA, 2, none⟩ (.int .i64 (2 * x2.tmod 3))).alloc (.cells #[.string comfB, .int .i64 (x1.tmod 3)] 80)).drew) := (((((KX.of_ext (Ext.refl w12)).set _).set _).set _).ext (Ext.drew (Ext.alloc (Ext.refl _) _)))
               refine ⟨rfl, _, _, _, w12.heap.size, k1, l1, m1, HT12.out.grown kk (fun b hb => by injection hb with hb; omega), ?_, Nat.le_refl _, ?_, ?_, ?_⟩
               · exact (((HR12.out.put HTB.out.1 _).put HTB.out.1 _).put HTB.out.1 _).ext (Ext.drew (Ext.alloc (Ext.refl _) _))
               · exact al (heap_put _ (heap_put _ (heap_put _ HPA.out)))
               · have := alloc_new (((w12.setCell ⟨pA, 3, none⟩ (.int .i64 (1 + x0.tmod 3))).setCell ⟨pA, 4, none⟩ (.slice (some ⟨w12.heap.size, 0, none⟩) 1 1)).setCell ⟨pA, 2, none⟩ (.int .i64 (2 * x2.tmod 3))) (.cells #[.string comfB, .int .i64 (x1.tmod 3)] 80)
                 simp only [World.size_setCell] at this
                 exact this
               · exact kk.at HPB.out (Ne.symm hne))
        case rest =>
          obtain ⟨w13, rfl⟩ : ∃ wd : World, wd = wc := ⟨_, rfl⟩
          obtain ⟨rfl, u0, u1, u2, pV, hu0, hu1, hu2, ht, hr, hv, ha, hv1, hb⟩ := hcut
          have HT13 := Lib.hid ht; have HR13 := Lib.hid hr; have HPA3 := Lib.hid ha; have HPV3 := Lib.hid hv1; have HPB3 := Lib.hid hb
          have hVB : pV ≠ pB := by have := Rg.lt_of_heap HPB.out; omega
          clear ht hr ha hv1 hb d0 d1 d2 a2 a3 a4 f2 f3 f4 hxl hal hbx hc0 hnx hnx' HT12 HR12 HPA HPB hv
          go_upto_region 12 with (fail)
          obtain ⟨hcc, -, hxl⟩ := Rg.cells_of (HOY.out ▸ HT13.out.hy)
          have d0 : w13.cell? ⟨w.heap.size + 1, 0, none⟩ = some (.int .u8 y0) := hcc 0
          have d1 : w13.cell? ⟨w.heap.size + 1, 1, none⟩ = some (.int .u8 y1) := hcc 1
          have d2 : w13.cell? ⟨w.heap.size + 1, 2, none⟩ = some (.int .u8 y2) := hcc 2
          clear hcc
          obtain ⟨hcc, hff, hal⟩ := Rg.cells_of HPB3.out
          have a2 : w13.cell? ⟨pB, 2, none⟩ = some (.int .i64 2) := hcc 2
          have a3 : w13.cell? ⟨pB, 3, none⟩ = some (.int .i64 200) := hcc 3
          have a4 : w13.cell? ⟨pB, 4, none⟩ = some (.slice (some ⟨q2, 0, none⟩) 1 1) := hcc 4
          have f2 := hff 2
          have f3 := hff 3
          have f4 := hff 4
          clear hcc hff
          have hbx := HT13.out.by_
          have hc0 := HT13.out.c0
          have hnx : pB ≠ w.heap.size + 1 := by omega
          have hnx' : ¬ w.heap.size + 1 = pB := by omega
          have HY0b := Lib.hid hy0; have HY1b := Lib.hid hy1; have HY2b := Lib.hid hy2
          clear hy0 hy1 hy2
          go_cut [7] (fun s7 wx => s7 = .bool true ∧ ∃ (v0 v1 v2 : Int) (pW : Nat), (0 ≤ v0 ∧ v0 < 3) ∧ (0 ≤ v1 ∧ v1 < 3) ∧ (0 ≤ v2 ∧ v2 < 3) ∧ TIS w wx P C L g q1 q2 q3 w.heap.size (w.heap.size + 1) obX obY { rF with ts := tf } curL curC' ∧ TsR wx P tf tss ∧
            wx.heap[pB]? = some (.cells #[.int .i64 8, .int .i64 1, .int .i64 (2 * v2 + 1), .int .i64 (1 + v0), .slice (some ⟨pW, 0, none⟩) 1 1] 57) ∧ wx.heap[pW]? = some (.cells #[.string comfB, .int .i64 v1] 80) ∧
            wx.heap[pA]? = some (.cells #[.int .i64 7, .int .i64 1, .int .i64 (2 * u2), .int .i64 (1 + u0), .slice (some ⟨pV, 0, none⟩) 1 1] 57) ∧ wx.heap[pV]? = some (.cells #[.string comfB, .int .i64 u1] 80))
          case first => as_aux_lemma =>
            go_region_held3 (fun w' => w'.cell? ⟨w.heap.size + 1, 0, none⟩ = some (.int .u8 y0) ∧ w'.cell? ⟨w.heap.size + 1, 1, none⟩ = some (.int .u8 y1) ∧ w'.cell? ⟨w.heap.size + 1, 2, none⟩ = some (.int .u8 y2)) (first | exact ⟨d0, d1, d2⟩ | go_keep) (fail)
            all_goals
              (go_wp2_with (fail)
               go_meet
               case rel =>
                 obtain ⟨k1, k2, k3, k4, k5⟩ := mod3 y0 HY0b.out
                 obtain ⟨l1, l2, l3, l4, l5⟩ := mod3 y1 HY1b.out
                 obtain ⟨m1, m2, m3, m4, m5⟩ := mod3 y2 HY2b.out
                 rw [k2, k3, l2, m2, m4, m5]
                 have kk : KX pB w13 (((((w13.setCell ⟨pB, 3, none⟩ (.int .i64 (1 + y0.tmod 3))).setCell ⟨pB, 4, none⟩ (.slice (some ⟨w13.heap.size, 0, none⟩) 1 1)).setCell ⟨pB, 2, none⟩ (.int .i64 (2 * y2.tmod 3 + 1))).alloc (.cells #[.string comfB, .int .i64 (y1.tmod 3)] 80)).drew) := (((((KX.of_ext (Ext.refl w13)).set _).set _).set _).ext (Ext.drew (Ext.alloc (Ext.refl _) _)))
                 refine ⟨rfl, _, _, _, w13.heap.size, k1, l1, m1, HT13.out.grown kk (fun b hb => by injection hb with hb; omega), ?_, ?_, ?_, kk.at HPA3.out hne, kk.at HPV3.out hVB⟩
                 · exact (((HR13.out.put HTB.out.2 _).put HTB.out.2 _).put HTB.out.2 _).ext (Ext.drew (Ext.alloc (Ext.refl _) _))
                 · exact al (heap_put _ (heap_put _ (heap_put _ HPB3.out)))
                 · have := alloc_new (((w13.setCell ⟨pB, 3, none⟩ (.int .i64 (1 + y0.tmod 3))).setCell ⟨pB, 4, none⟩ (.slice (some ⟨w13.heap.size, 0, none⟩) 1 1)).setCell ⟨pB, 2, none⟩ (.int .i64 (2 * y2.tmod 3 + 1))) (.cells #[.string comfB, .int .i64 (y1.tmod 3)] 80)
                   simp only [World.size_setCell] at this
                   exact this)
          case rest =>
            obtain ⟨w14, rfl⟩ : ∃ wd : World, wd = wc := ⟨_, rfl⟩
            obtain ⟨rfl, v0, v1, v2, pW, hv0, hv1, hv2, ht, hr, hb, hw1, ha, hva⟩ := hcut
            have HT14 := Lib.hid ht; have HR14 := Lib.hid hr; have HPA4 := Lib.hid ha; have HPV4 := Lib.hid hva; have HPB4 := Lib.hid hb; have HPW4 := Lib.hid hw1
            clear ht hr ha hva hb hw1 d0 d1 d2 a2 a3 a4 f2 f3 f4 hxl hal hbx hc0 hnx hnx' HT13 HR13 HPA3 HPB3 HPV3
            obtain ⟨pa, hpa⟩ : ∃ x, x = 1 + u0 := ⟨_, rfl⟩
            obtain ⟨ka, hka⟩ : ∃ x, x = 2 * u2 := ⟨_, rfl⟩
            obtain ⟨pb, hpb⟩ : ∃ x, x = 1 + v0 := ⟨_, rfl⟩
            obtain ⟨kb, hkb⟩ : ∃ x, x = 2 * v2 + 1 := ⟨_, rfl⟩
            rw [← hpa, ← hka] at HPA4
            rw [← hpb, ← hkb] at HPB4
            have HPAE := Lib.hid hpa; have HKAE := Lib.hid hka; have HPBE := Lib.hid hpb; have HKBE := Lib.hid hkb
            clear hpa hka hpb hkb
            obtain ⟨hcc, -, -⟩ := Rg.cells_of HPA4.out
            have A0 : w14.cell? ⟨pA, 0, none⟩ = some (.int .i64 7) := hcc 0
            have A2 : w14.cell? ⟨pA, 2, none⟩ = some (.int .i64 ka) := hcc 2
            have A3 : w14.cell? ⟨pA, 3, none⟩ = some (.int .i64 pa) := hcc 3
            have A4 : w14.cell? ⟨pA, 4, none⟩ = some (.slice (some ⟨pV, 0, none⟩) 1 1) := hcc 4
            clear hcc
            obtain ⟨hcc, -, -⟩ := Rg.cells_of HPB4.out
            have B0 : w14.cell? ⟨pB, 0, none⟩ = some (.int .i64 8) := hcc 0
            have B2 : w14.cell? ⟨pB, 2, none⟩ = some (.int .i64 kb) := hcc 2
            have B3 : w14.cell? ⟨pB, 3, none⟩ = some (.int .i64 pb) := hcc 3
            have B4 : w14.cell? ⟨pB, 4, none⟩ = some (.slice (some ⟨pW, 0, none⟩) 1 1) := hcc 4
            clear hcc
            have V1 : w14.cell? ⟨pV, 1, none⟩ = some (.int .i64 u1) := (Rg.cells_of HPV4.out).1 1
            have W1 : w14.cell? ⟨pW, 1, none⟩ = some (.int .i64 v1) := (Rg.cells_of HPW4.out).1 1
            have T2 : w14.cell? ⟨P, 2, none⟩ = some (.slice (some ⟨C, 0, none⟩) 1 cc) := ((Rg.cells_of HT14.out.hp).1 2).trans (by show some (slV rF.cs) = _; rw [HRF.out]; show some (slV r.cs) = _; rw [HCS.out])
            have C4 : w14.cell? ⟨C, 4, none⟩ = some (.bool less) := ((Rg.cells_of HT14.out.hc).1 4).trans (by
              have h1 : (curC'.toList.take 5)[4]? = some (.bool less) := by rw [HTC7.out]; rfl
              rw [List.getElem?_take_of_lt (by decide)] at h1
              rw [← Array.getElem?_toList]; exact h1)
            have hdw : IntKind.i64.wrap (u1 - v1) = u1 - v1 := by
              rcases (show u1 = 0 ∨ u1 = 1 ∨ u1 = 2 by omega) with rfl | rfl | rfl <;> rcases (show v1 = 0 ∨ v1 = 1 ∨ v1 = 2 by omega) with rfl | rfl | rfl <;> decide
            have hdn : IntKind.i64.wrap (-(u1 - v1)) = -(u1 - v1) := by
              rcases (show u1 = 0 ∨ u1 = 1 ∨ u1 = 2 by omega) with rfl | rfl | rfl <;> rcases (show v1 = 0 ∨ v1 = 1 ∨ v1 = 2 by omega) with rfl | rfl | rfl <;> decide
            have la := Rg.lt_of_heap HPA4.out
            have lb := Rg.lt_of_heap HPB4.out
            have lv := Rg.lt_of_heap HPV4.out
            have lw := Rg.lt_of_heap HPW4.out
            go_upto_region 14 with (fail)
            refine Rr.wp_region ((List.range 11).map (fun i => (i, .y))) (fun _ => (.cells #[] 29, Rg.ptr)) (by kernel_rfl) (by kernel_rfl) ?_
            simp only [List.range, List.range.loop, List.map_cons, List.map_nil]
            (refine Rr.wr_y (by simp only [List.getElem?_toArray, List.getElem?_cons_succ, List.getElem?_cons_zero]; rfl) (by rfl) ?_
             apply Exists.intro
             refine ⟨fun wz hw _ => ?_, ?_⟩
             · have hcz := hw.cells.1
               go_simp
               (with_reducible exact Rg.up_value)
             simp only [Act.put, List.setIfInBounds_toArray, List.set_cons_zero, List.set_cons_succ])
            (refine Rr.wr_y (by simp only [List.getElem?_toArray, List.getElem?_cons_succ, List.getElem?_cons_zero]; rfl) (by rfl) ?_
             apply Exists.intro
             refine ⟨fun wz hw _ => ?_, ?_⟩
             · have hcz := hw.cells.1
               go_simp
               (with_reducible exact Rg.up_value)
             simp only [Act.put, List.setIfInBounds_toArray, List.set_cons_zero, List.set_cons_succ])
            (refine Rr.wr_y (by simp only [List.getElem?_toArray, List.getElem?_cons_succ, List.getElem?_cons_zero]; rfl) (by rfl) ?_
             apply Exists.intro
             refine ⟨fun wz hw _ => ?_, ?_⟩
             · have hcz := hw.cells.1
               go_simp
               (with_reducible exact Rg.up_value)
             simp only [Act.put, List.setIfInBounds_toArray, List.set_cons_zero, List.set_cons_succ])
            (refine Rr.wr_y (by simp only [List.getElem?_toArray, List.getElem?_cons_succ, List.getElem?_cons_zero]; rfl) (by rfl) ?_
             apply Exists.intro
             refine ⟨fun wz hw _ => ?_, ?_⟩
             · have hcz := hw.cells.1
               go_simp
               (with_reducible exact Rg.up_value)
             simp only [Act.put, List.setIfInBounds_toArray, List.set_cons_zero, List.set_cons_succ])
            (refine Rr.wr_y (by simp only [List.getElem?_toArray, List.getElem?_cons_succ, List.getElem?_cons_zero]; rfl) (by rfl) ?_
             apply Exists.intro
             refine ⟨fun wz hw _ => ?_, ?_⟩
             · have hcz := hw.cells.1
               go_simp
               (with_reducible exact Rg.up_value)
             simp only [Act.put, List.setIfInBounds_toArray, List.set_cons_zero, List.set_cons_succ])
            (refine Rr.wr_y (by simp only [List.getElem?_toArray, List.getElem?_cons_succ, List.getElem?_cons_zero]; rfl) (by rfl) ?_
             apply Exists.intro
             refine ⟨fun wz hw _ => ?_, ?_⟩
             · have hcz := hw.cells.1
               go_simp
               (with_reducible exact Rg.up_value)
             simp only [Act.put, List.setIfInBounds_toArray, List.set_cons_zero, List.set_cons_succ])
            (refine Rr.wr_y (by simp only [List.getElem?_toArray, List.getElem?_cons_succ, List.getElem?_cons_zero]; rfl) (by rfl) ?_
             apply Exists.intro
             refine ⟨fun wz hw _ => ?_, ?_⟩
             · have hcz := hw.cells.1
               go_simp
               (with_reducible exact Rg.up_value)
             simp only [Act.put, List.setIfInBounds_toArray, List.set_cons_zero, List.set_cons_succ])
            (refine Rr.wr_y (by simp only [List.getElem?_toArray, List.getElem?_cons_succ, List.getElem?_cons_zero]; rfl) (by rfl) ?_
             apply Exists.intro
             refine ⟨fun wz hw _ => ?_, ?_⟩
             · have hcz := hw.cells.1
               go_simp
               (with_reducible exact Rg.up_value)
             simp only [Act.put, List.setIfInBounds_toArray, List.set_cons_zero, List.set_cons_succ])
            (refine Rr.wr_y (by simp only [List.getElem?_toArray, List.getElem?_cons_succ, List.getElem?_cons_zero]; rfl) (by rfl) ?_
             apply Exists.intro
             refine ⟨fun wz hw _ => ?_, ?_⟩
             · have hcz := hw.cells.1
               go_simp
               (with_reducible exact Rg.up_value)
             simp only [Act.put, List.setIfInBounds_toArray, List.set_cons_zero, List.set_cons_succ])
            (refine Rr.wr_y (by simp only [List.getElem?_toArray, List.getElem?_cons_succ, List.getElem?_cons_zero]; rfl) (by rfl) ?_
             apply Exists.intro
             refine ⟨fun wz hw _ => ?_, ?_⟩
             · have hcz := hw.cells.1
               go_simp
               (with_reducible exact Rg.up_value)
             simp only [Act.put, List.setIfInBounds_toArray, List.set_cons_zero, List.set_cons_succ])
            (refine Rr.wr_y (by simp only [List.getElem?_toArray, List.getElem?_cons_succ, List.getElem?_cons_zero]; rfl) (by rfl) ?_
             apply Exists.intro
             refine ⟨fun wz hw _ => ?_, ?_⟩
             · have hcz := hw.cells.1
               go_simp
               (with_reducible exact Rg.up_value)
             simp only [Act.put, List.setIfInBounds_toArray, List.set_cons_zero, List.set_cons_succ])
            refine Rr.wr_nil ?_
            intro wy hy hh
            simp only [List.length_cons, List.length_nil, List.drop_succ_cons, List.drop_zero, Nat.reduceAdd]
            clear hh
            have HY := Lib.hid hy
            have A0' : wy.cell? ⟨pA, 0, none⟩ = some (.int .i64 7) := (hy.cells.1 _ _ la).trans A0
            have A2' : wy.cell? ⟨pA, 2, none⟩ = some (.int .i64 ka) := (hy.cells.1 _ _ la).trans A2
            have A3' : wy.cell? ⟨pA, 3, none⟩ = some (.int .i64 pa) := (hy.cells.1 _ _ la).trans A3
            have B0' : wy.cell? ⟨pB, 0, none⟩ = some (.int .i64 8) := (hy.cells.1 _ _ lb).trans B0
            have B2' : wy.cell? ⟨pB, 2, none⟩ = some (.int .i64 kb) := (hy.cells.1 _ _ lb).trans B2
            have B3' : wy.cell? ⟨pB, 3, none⟩ = some (.int .i64 pb) := (hy.cells.1 _ _ lb).trans B3
            have T2' : wy.cell? ⟨P, 2, none⟩ = some (.slice (some ⟨C, 0, none⟩) 1 cc) := (hy.cells.1 _ _ (Rg.lt_of_heap HT14.out.hp)).trans T2
            have C4' : wy.cell? ⟨C, 4, none⟩ = some (.bool less) := (hy.cells.1 _ _ (Rg.lt_of_heap HT14.out.hc)).trans C4
            clear A0 A2 A3 A4 B0 B2 B3 B4 V1 W1 T2 C4 la lb lv lw hy
            go_upto_if 112 with (fail)
            go_cut [13] (fun s13 wx => s13 = .int .i64 (if less then -(u1 - v1) else u1 - v1) ∧ wy = wx)
            case first =>
              cases less with
              | false =>
                go_wp2_with (fail)
                go_meet
                case rel => exact ⟨rfl, rfl⟩
              | true =>
                go_wp2_with (fail)
                go_meet
                case rel => exact ⟨by simp, rfl⟩
            case rest =>
              obtain ⟨rfl, rfl⟩ := hcut
              obtain ⟨d, hd⟩ : ∃ d, d = if less then -(u1 - v1) else u1 - v1 := ⟨_, rfl⟩
              rw [← hd]
              have HD := Lib.hid hd
              clear hd hdw hdn
              go_upto_block 0 with (fail)
              go_cut [12] (fun s12 wx => s12 = .int .i64 (tiW less b1 b2 pa u1 ka pb v1 kb) ∧ wy = wx)
              case first => as_aux_lemma =>
                go_upto_region 17 with (fail)
                go_cut [115] (fun s115 wx => s115 = .bool (b1 && decide (d ≠ 0)) ∧ wy = wx)
                case first =>
                  have hb := HB1.out
                  cases b1 with
                  | false =>
                    have hbe : bits .and .u8 z 1 = 0 := by simpa using hb.symm
                    clear hb
                    go_wp2_with (fail)
                    go_meet
                    case rel => exact ⟨rfl, rfl⟩
                  | true =>
                    have hbe : (bits .and .u8 z 1 != 0) = true := hb.symm
                    have hbn : bits .and .u8 z 1 ≠ 0 := by simpa using hbe
                    clear hb
                    go_wp2_with (fail)
                    go_meet
                    case rel => exact ⟨by by_cases h0 : d = 0 <;> simp [h0, bne], rfl⟩
                case rest =>
                  obtain ⟨rfl, rfl⟩ := hcut
                  obtain ⟨g1, hg1⟩ : ∃ x : Bool, x = (b1 && decide (d ≠ 0)) := ⟨_, rfl⟩
                  rw [← hg1]
                  have HG1 := Lib.hid hg1
                  clear hg1
                  go_upto_if 115 with (fail)
                  have HTW : Hid (tiW less b1 b2 pa u1 ka pb v1 kb = if b1 = true ∧ d ≠ 0 then (if d < 0 then 8 else 7) else if b2 = true ∧ pa ≠ pb then (if pa > pb then 8 else 7) else if ka > kb then 8 else 7) := Lib.hid (by rw [HD.out]; rfl)
                  have HF3 : Hid (¬ (b2 = true ∧ pa ≠ pb) → ¬ (b1 = true ∧ d ≠ 0) → tiW less b1 b2 pa u1 ka pb v1 kb = if ka > kb then 8 else 7) := Lib.hid (fun h1 h2 => by rw [HTW.out, if_neg h2, if_neg h1])
                  cases g1 with
                  | true =>
                    have hg := HG1.out.symm
                    simp only [Bool.and_eq_true, decide_eq_true_eq] at hg
                    rw [if_pos hg] at HTW
                    generalize tiW less b1 b2 pa u1 ka pb v1 kb = tw at *
                    clear HF3 HG1 HD hg
                    by_cases hd : d < 0
                    · rw [if_pos hd] at HTW
                      go_wp2_with (fail)
                      go_meet
                      case rel => exact ⟨by rw [HTW.out], rfl⟩
                    · rw [if_neg hd] at HTW
                      go_wp2_with (fail)
                      go_meet
                      case rel => exact ⟨by rw [HTW.out], rfl⟩
                  | false =>
                    have hg : ¬ (b1 = true ∧ d ≠ 0) := fun h => by have := HG1.out; simp [h.1, h.2] at this
                    rw [if_neg hg] at HTW
                    have HGN := Lib.hid hg
                    clear hg HG1 HD
                    have hb := HB2.out
                    clear HB2
                    cases b2 with
                    | true =>
                      have hbe : (bits .and .u8 z 2 != 0) = true := hb.symm
                      have hbn : bits .and .u8 z 2 ≠ 0 := by simpa using hbe
                      clear hb
                      by_cases hp : pa = pb
                      · have hF := HF3.out (by simp [hp]) HGN.out
                        have HTW' := Lib.hid hF
                        clear hF HTW HF3 HGN
                        generalize tiW less b1 true pa u1 ka pb v1 kb = tw at *
                        by_cases hk : ka > kb
                        · rw [if_pos hk] at HTW'
                          go_wp2_with (fail)
                          go_meet
                          case rel => exact ⟨by rw [HTW'.out], rfl⟩
                        · rw [if_neg hk] at HTW'
                          go_wp2_with (fail)
                          go_meet
                          case rel => exact ⟨by rw [HTW'.out], rfl⟩
                      · rw [if_pos ⟨rfl, hp⟩] at HTW
                        clear HF3 HGN
                        generalize tiW less b1 true pa u1 ka pb v1 kb = tw at *
                        by_cases hk : pa > pb
                        · rw [if_pos hk] at HTW
                          go_wp2_with (fail)
                          go_meet
                          case rel => exact ⟨by rw [HTW.out], rfl⟩
                        · rw [if_neg hk] at HTW
                          go_wp2_with (fail)
                          go_meet
                          case rel => exact ⟨by rw [HTW.out], rfl⟩
                    | false =>
                      have hbe : bits .and .u8 z 2 = 0 := by simpa using hb.symm
                      clear hb
                      have hF := HF3.out (by simp) HGN.out
                      have HTW' := Lib.hid hF
                      clear hF HTW HF3 HGN
                      generalize tiW less b1 false pa u1 ka pb v1 kb = tw at *
                      by_cases hk : ka > kb
                      · rw [if_pos hk] at HTW'
                        go_wp2_with (fail)
                        go_meet
                        case rel => exact ⟨by rw [HTW'.out], rfl⟩
                      · rw [if_neg hk] at HTW'
                        go_wp2_with (fail)
                        go_meet
                        case rel => exact ⟨by rw [HTW'.out], rfl⟩
              case rest =>
                obtain ⟨rfl, rfl⟩ := hcut
                have HTY := Lib.hid (HT14.out.ext HY.out)
                obtain ⟨rG, hrG⟩ : ∃ rG : TnR, rG = { rF with ts := tf } := ⟨_, rfl⟩
                rw [← hrG] at HTY
                have HRGE := Lib.hid hrG
                clear hrG A0' A2' A3' B0' B2' B3' T2' C4'
                have HTV : Hid (TV wy rG (tiT less b1 b2)) := Lib.hid (by
                  have e1 : rG.ls = (some ⟨L, 0, none⟩, 1, lc) := by rw [HRGE.out, HRF.out]; exact HLS.out
                  have e2 : rG.cs = (some ⟨C, 0, none⟩, 1, cc) := by rw [HRGE.out, HRF.out]; exact HCS.out
                  have e3 : rG.rs = (none, 0, 0) := by rw [HRGE.out, HRF.out]; exact HRS.out
                  have e4 : rG.ts = tf := by rw [HRGE.out]
                  have e5 : (Value.agg #[.string rG.fo, .int .i64 rG.f1, .int .i64 rG.f2, .string rG.fn, slV rG.fa]) = .agg #[.string numB, .int .i64 1, .int .i64 1, .string nilB, .slice none 0 0] := by rw [HRGE.out, HRF.out]
                  refine ⟨?_, ?_, ?_, ?_, ?_, by show (numE (1, 1)).parts ≤ 100000; decide +kernel⟩
                  · rw [e1]; exact SR.of_take (cs := cellsLot) (sz := 2) (xs := [(1, 500)]) (fun _ => rfl) HTY.out.hl HTL.out (by show (1 : Nat) ≤ 1000000; decide)
                  · rw [e2]; exact SR.of_take (cs := cellsCr) (sz := 5) (xs := [⟨comfB, 1, 0, 10, less⟩]) (fun _ => rfl) HTY.out.hc HTC7.out (by show (1 : Nat) ≤ 1000000; decide)
                  · rw [e3]; exact ⟨none, 0, rfl, by show (0 : Nat) ≤ 1000000; decide, .inl rfl⟩
                  · rw [e4]
                    have h4 := SR.of_row (cs := strC) (sz := 1) (fun _ => rfl) (HR14.out.ext HY.out) (by rw [HTSS.out, HTSL.out]; cases b1 <;> cases b2 <;> decide)
                    rw [HTSS.out, HTSL.out] at h4
                    exact h4
                  · rw [e5]; exact Rd.leaf (by constructor <;> decide))
                have HLOW : Hid (rG.low = 1 ∧ rG.high = 500) := Lib.hid (by rw [HRGE.out, HRF.out]; exact ⟨HLO.out, HHI.out⟩)
                have hPVy := (HY.out.block _ (Rg.lt_of_heap HPV4.out)).trans HPV4.out
                have hPWy := (HY.out.block _ (Rg.lt_of_heap HPW4.out)).trans HPW4.out
                have hPAy := (HY.out.block _ (Rg.lt_of_heap HPA4.out)).trans HPA4.out
                have hPBy := (HY.out.block _ (Rg.lt_of_heap HPB4.out)).trans HPB4.out
                obtain ⟨law1, law2⟩ := ti_law rG HLOW.out.1 HLOW.out.2 (some ⟨pV, 0, none⟩, 1, 1) (some ⟨pW, 0, none⟩, 1, 1) less b1 b2 u0 u1 u2 v0 v1 v2 hu0 hu1 hu2 hv0 hv1 hv2
                rw [← HPAE.out, ← HKAE.out, ← HPBE.out, ← HKBE.out] at law1 law2
                have hpaR : 0 ≤ pa ∧ pa ≤ 100 := by have := HPAE.out; omega
                have hkaR : 0 ≤ ka ∧ ka ≤ 100 := by have := HKAE.out; omega
                have hpbR : 0 ≤ pb ∧ pb ≤ 100 := by have := HPBE.out; omega
                have hkbR : 0 ≤ kb ∧ kb ≤ 100 := by have := HKBE.out; omega
                have huR : 0 ≤ u1 ∧ u1 ≤ 100 := by omega
                have hvR : 0 ≤ v1 ∧ v1 ≤ 100 := by omega
                obtain ⟨rowL, hrowL⟩ : ∃ l, l = (tenC rG).toList := ⟨_, rfl⟩
                have hrl : rowL.length = 20 := by rw [hrowL]; rfl
                have hrt : tenC rG = rowL.toArray := by rw [hrowL]
                have HW1 : Hid (∀ wz G, Ext wy wz → wz.heap[G]? = some (.cells #[.int .i64 7, .int .i64 1, .int .i64 ka, .int .i64 pa, .slice (some ⟨pV, 0, none⟩) 1 1, .int .i64 8, .int .i64 1, .int .i64 kb, .int .i64 pb, .slice (some ⟨pW, 0, none⟩) 1 1] 57) → Calls Tryz.prog 17 #[.agg rowL.toArray, .int .i64 1, .slice (some ⟨G, 0, none⟩) 2 2] wz fun e w' => e = .returned (.tuple #[.int .i64 (tiW less b1 b2 pa u1 ka pb v1 kb), .int .i64 0]) ∧ Ext wz w') := Lib.hid (fun wz G hz hg => by
                  rw [← hrt]
                  refine (Winner_any rG (tiT less b1 b2) 1 _ [tiE 7 pa u1 ka (some ⟨pV, 0, none⟩, 1, 1), tiE 8 pb v1 kb (some ⟨pW, 0, none⟩, 1, 1)] wz (HTV.out.ext hz) (ti_xr 7 pa u1 ka 8 pb v1 kb (by decide) hpaR huR hkaR (by decide) hpbR hvR hkbR hg ((hz.block _ (Rg.lt_of_heap hPVy)).trans hPVy) ((hz.block _ (Rg.lt_of_heap hPWy)).trans hPWy)) (by show (2 : Nat) ≤ 100000; omega) (sorts_12 rG _ 1 _ (by show (2 : Nat) ≤ 12; omega))).mono ?_
                  rintro e w' ⟨rfl, h1⟩
                  exact ⟨by rw [law1], h1⟩)
                have HW2 : Hid (∀ wz G, Ext wy wz → wz.heap[G]? = some (.cells #[.int .i64 8, .int .i64 1, .int .i64 kb, .int .i64 pb, .slice (some ⟨pW, 0, none⟩) 1 1, .int .i64 7, .int .i64 1, .int .i64 ka, .int .i64 pa, .slice (some ⟨pV, 0, none⟩) 1 1] 57) → Calls Tryz.prog 17 #[.agg rowL.toArray, .int .i64 1, .slice (some ⟨G, 0, none⟩) 2 2] wz fun e w' => e = .returned (.tuple #[.int .i64 (tiW less b1 b2 pa u1 ka pb v1 kb), .int .i64 0]) ∧ Ext wz w') := Lib.hid (fun wz G hz hg => by
                  rw [← hrt]
                  refine (Winner_any rG (tiT less b1 b2) 1 _ [tiE 8 pb v1 kb (some ⟨pW, 0, none⟩, 1, 1), tiE 7 pa u1 ka (some ⟨pV, 0, none⟩, 1, 1)] wz (HTV.out.ext hz) (ti_xr 8 pb v1 kb 7 pa u1 ka (by decide) hpbR hvR hkbR (by decide) hpaR huR hkaR hg ((hz.block _ (Rg.lt_of_heap hPWy)).trans hPWy) ((hz.block _ (Rg.lt_of_heap hPVy)).trans hPVy)) (by show (2 : Nat) ≤ 100000; omega) (sorts_12 rG _ 1 _ (by show (2 : Nat) ≤ 12; omega))).mono ?_
                  rintro e w' ⟨rfl, h1⟩
                  exact ⟨by rw [law2], h1⟩)
                have HRG : Hid (∀ wz, Ext wy wz → wz.rangeAt P 0 rowL) := Lib.hid (fun wz hz => range_of ((hz.block _ (Rg.lt_of_heap HTY.out.hp)).trans HTY.out.hp) 0 rowL (fun j v hv => by rw [hrowL] at hv; simpa using hv))
                have HXW := Lib.hid HTY.out.low
                have HBA := Lib.hid hPAy
                have HBB := Lib.hid hPBy
                generalize tiW less b1 b2 pa u1 ka pb v1 kb = tw at *
                clear hrowL hrt law1 law2 HTV HLOW hPVy hPWy hPAy hPBy HTY HRGE HT14 HR14 HPA4 HPB4 HPV4 HPW4
                have HC1 : Hid (∀ wz, Ext wy wz → Calls Tryz.prog 17 #[.agg rowL.toArray, .int .i64 1, .slice (some ⟨wz.heap.size, 0, none⟩) 2 2] (wz.alloc (.cells #[.int .i64 7, .int .i64 1, .int .i64 ka, .int .i64 pa, .slice (some ⟨pV, 0, none⟩) 1 1, .int .i64 8, .int .i64 1, .int .i64 kb, .int .i64 pb, .slice (some ⟨pW, 0, none⟩) 1 1] 57)) fun e w' => e = .returned (.tuple #[.int .i64 tw, .int .i64 0]) ∧ Ext (wz.alloc (.cells #[.int .i64 7, .int .i64 1, .int .i64 ka, .int .i64 pa, .slice (some ⟨pV, 0, none⟩) 1 1, .int .i64 8, .int .i64 1, .int .i64 kb, .int .i64 pb, .slice (some ⟨pW, 0, none⟩) 1 1] 57)) w') := Lib.hid (fun wz hz => HW1.out _ _ (Ext.alloc hz _) (alloc_new wz _))
                have HC2 : Hid (∀ wz, Ext wy wz → Calls Tryz.prog 17 #[.agg rowL.toArray, .int .i64 1, .slice (some ⟨wz.heap.size, 0, none⟩) 2 2] (wz.alloc (.cells #[.int .i64 8, .int .i64 1, .int .i64 kb, .int .i64 pb, .slice (some ⟨pW, 0, none⟩) 1 1, .int .i64 7, .int .i64 1, .int .i64 ka, .int .i64 pa, .slice (some ⟨pV, 0, none⟩) 1 1] 57)) fun e w' => e = .returned (.tuple #[.int .i64 tw, .int .i64 0]) ∧ Ext (wz.alloc (.cells #[.int .i64 8, .int .i64 1, .int .i64 kb, .int .i64 pb, .slice (some ⟨pW, 0, none⟩) 1 1, .int .i64 7, .int .i64 1, .int .i64 ka, .int .i64 pa, .slice (some ⟨pV, 0, none⟩) 1 1] 57)) w') := Lib.hid (fun wz hz => HW2.out _ _ (Ext.alloc hz _) (alloc_new wz _))
                have five : ∀ (q : Nat) (c0 c1 c2 c3 c4 : Value) (wz : World), wz.heap[q]? = some (.cells #[c0, c1, c2, c3, c4] 57) → wz.rangeAt q 0 [c0, c1, c2, c3, c4] := fun q c0 c1 c2 c3 c4 wz h => range_of h 0 _ (fun j v hv => by
                  have hj : j < 5 := (List.getElem?_eq_some_iff.1 hv).1
                  rcases (show j = 0 ∨ j = 1 ∨ j = 2 ∨ j = 3 ∨ j = 4 by omega) with rfl | rfl | rfl | rfl | rfl <;> exact hv)
                have HRA : Hid (∀ wz, Ext wy wz → wz.rangeAt pA 0 [.int .i64 7, .int .i64 1, .int .i64 ka, .int .i64 pa, .slice (some ⟨pV, 0, none⟩) 1 1]) := Lib.hid (fun wz hz => five _ _ _ _ _ _ _ ((hz.block _ (Rg.lt_of_heap HBA.out)).trans HBA.out))
                have HRB : Hid (∀ wz, Ext wy wz → wz.rangeAt pB 0 [.int .i64 8, .int .i64 1, .int .i64 kb, .int .i64 pb, .slice (some ⟨pW, 0, none⟩) 1 1]) := Lib.hid (fun wz hz => five _ _ _ _ _ _ _ ((hz.block _ (Rg.lt_of_heap HBB.out)).trans HBB.out))
                have HXY := Lib.hid (Ext.refl wy)
                clear five HW1 HW2 HY
                go_upto_region 26 with (first
                  | (refine wpList_load_mid rfl 39 (.tmp 8) rfl P 0 (by rfl) rowL _ (HRG.out _ HXY.out) Tryz.underlying39 rfl (by rw [hrl]; kernel_rfl) ?_)
                  | (refine wpList_load_mid rfl 57 (.tmp 10) rfl pA 0 (by rfl) [.int .i64 7, .int .i64 1, .int .i64 ka, .int .i64 pa, .slice (some ⟨pV, 0, none⟩) 1 1] _ (HRA.out _ HXY.out) Tryz.underlying57 rfl (by kernel_rfl) ?_)
                  | (refine wpList_load_mid rfl 57 (.tmp 11) rfl pB 0 (by rfl) [.int .i64 8, .int .i64 1, .int .i64 kb, .int .i64 pb, .slice (some ⟨pW, 0, none⟩) 1 1] _ (HRB.out _ HXY.out) Tryz.underlying57 rfl (by kernel_rfl) ?_)
                  | (go_at_call 17; (with_reducible refine (HC1.out wy HXY.out).mono ?_); rintro e w20 ⟨rfl, hx20⟩; have HX20 := Lib.hid ((Ext.alloc (Ext.refl wy) _).trans hx20); clear hx20))
                go_upto_region 27 with (first
                  | (refine wpList_load_mid rfl 39 (.tmp 8) rfl P 0 (by rfl) rowL _ (HRG.out _ HX20.out) Tryz.underlying39 rfl (by rw [hrl]; kernel_rfl) ?_)
                  | (refine wpList_load_mid rfl 57 (.tmp 10) rfl pA 0 (by rfl) [.int .i64 7, .int .i64 1, .int .i64 ka, .int .i64 pa, .slice (some ⟨pV, 0, none⟩) 1 1] _ (HRA.out _ HX20.out) Tryz.underlying57 rfl (by kernel_rfl) ?_)
                  | (refine wpList_load_mid rfl 57 (.tmp 11) rfl pB 0 (by rfl) [.int .i64 8, .int .i64 1, .int .i64 kb, .int .i64 pb, .slice (some ⟨pW, 0, none⟩) 1 1] _ (HRB.out _ HX20.out) Tryz.underlying57 rfl (by kernel_rfl) ?_)
                  | (go_at_call 17; (with_reducible refine (HC2.out w20 HX20.out).mono ?_); rintro e w21 ⟨rfl, hx21⟩; have HX21 := Lib.hid ((Ext.alloc HX20.out _).trans hx21); clear hx21))
                go_wp2_with (fail)
                go_ret
                exact ⟨rfl, HXW.out.trans HX21.out⟩
end Go.Proofs.YteomcpplajeidaaGreat
