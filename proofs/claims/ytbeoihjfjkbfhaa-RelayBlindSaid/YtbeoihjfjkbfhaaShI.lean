/-
  digest.Sum. Condition: the string has at most 4000 bytes.
-/
import Derived.Test.YtbeoihjfjkbfhaaShH
namespace Go.Proofs.Ytbeoihjfjkbfhaa
set_option linter.unusedVariables false
set_option linter.unusedSimpArgs false
open Go.RowKit Go.Shelf
attribute [local go_sem] Oper.semAt_some
@[local simp, local go_sem] theorem wide_fnS (f : FuncId) : Fence.wide.fn f = True := rfl
@[local simp, local go_sem] theorem wide_depthS : Fence.wide.depth = none := rfl
theorem Ext.below_trans {a b c : World} (h : Ext a b) (k : Below a.heap.size b c) : Ext a c := Below.trans h k
theorem BY.len {B : Nat} {w : World} {v : Value} {l : List Int} (h : BY B w v l) (n : Nat) (hn : l.length = n) : ∀ w0, (Builtin.len_ #[51] 3 #[v]).run Try.prog w0 = .ok (.int .i64 n) w0 := by
  obtain ⟨g, cap, rfl⟩ := h.form
  subst hn
  intro w0
  simp [go_sem, run_underlying Try.underlying51]
/-- A row of 32 bytes of which the first are these. -/
def rowB (l : List Int) : Array Value := (l.map (Value.int .u8) ++ List.replicate (32 - l.length) (Value.int .u8 0)).toArray
theorem cells_bytes (w : World) (l : List Int) : ∀ j x, l[j]? = some x → (w.alloc (.cells (l.map (Value.int .u8)).toArray 5)).cell? ((⟨w.heap.size, 0, none⟩ : Addr).add j) = some (.int .u8 x) := by
  intro j x hj
  rw [show (⟨w.heap.size, 0, none⟩ : Addr).add j = ⟨w.heap.size, j, none⟩ from by unfold Addr.add; split <;> simp_all]
  refine (cell_of_row _ _ j _ _ _ (alloc_at w _)).trans ?_
  simp [hj]
theorem Bt.others {q : Nat} {w w' : World} {cs : Array Value} {t : TypeId} {fr : Nat × Nat} (h : Bt q w w') (hq : w.heap[q]? = some (.cells cs t fr)) : KeepsOthers w w' :=
  ⟨h.size, fun k o hk ho => by
    by_cases e : k = q
    · subst e
      rw [hq] at hk
      cases hk
      cases ho
    · exact (h.block k (Rg.lt_of_heap hk) e).trans hk⟩
def absP (m : List Int) (c : Nat) (pre : List Nat) : S8 := pre.foldl (fun s x => blockS s ((m.drop (64 * (x % c))).take 64)) S0
theorem absP_snoc (m : List Int) (c : Nat) (pre : List Nat) (x : Nat) : absP m c (pre ++ [x]) = blockS (absP m c pre) ((m.drop (64 * (x % c))).take 64) := by
  unfold absP; rw [List.foldl_append]; rfl
theorem absP_range (m : List Int) (c : Nat) : ∀ k, k ≤ c → absP m c (List.range k) = absorb m k
  | 0, _ => rfl
  | k + 1, h => by rw [List.range_succ, absP_snoc, absP_range m c k (by omega), Nat.mod_eq_of_lt (by omega)]; rfl
theorem chunk_at {m : List Int} {w : World} {g : Nat} (h : ∀ i (h : i < m.length), w.cell? ⟨g, i, none⟩ = some (.int .u8 m[i])) {o : Nat} (ho : o + 64 ≤ m.length) :
    ((m.drop o).take 64).length = 64 ∧ ∀ k (hk : k < ((m.drop o).take 64).length), w.cell? ⟨g, o + k, none⟩ = some (.int .u8 ((m.drop o).take 64)[k]) := by
  have hl : ((m.drop o).take 64).length = 64 := by simp; omega
  refine ⟨hl, fun k hk => ?_⟩
  rw [List.getElem_take, List.getElem_drop]
  exact h (o + k) (by omega)
theorem wpList_load_row {ops : Array Oper} {rest : List Oper} {o : Oper} {a : Act} {w : World} {Q : Exit → Act → World → Prop} (hgd : o.guard = none) (T : TypeId) (x : Operand) (ho : o.op = .load T x)
    (g : Nat) (hx : a.eval x = .pointer (some ⟨g, 0, none⟩)) (cs : Array Value) (t : TypeId) (fr : Nat × Nat) (hg : w.heap[g]? = some (.cells cs t fr)) (n : Nat) (el : TypeId) (hu : Try.prog.underlying T = some (.array n el))
    (hi : (Try.prog.info? T).map (·.size) = some cs.size) (h : wpList Try.prog ops Q rest (a.put o.dst (.agg cs)) w) : wpList Try.prog ops Q (o :: rest) a w := by
  refine wpList_plain hgd fun K hK => ?_
  have hr := run_loadVar_row (P := Try.prog) w g t T cs _ (.array n el) hg hu rfl hi
  unfold Oper.wp execOp
  simp only [ho, hx, Instr.loadAt, Instr.sureAddr, Sem.run_bind, Sem.run_pure, Result.andThen_ok, hr]
  exact hK _ _ h
theorem slice32 (r : Nat) {j : Nat} (hj : j < 8) (w : World) :
    (Instr.sliceAt 78 (.pointer (some ⟨r, 0, none⟩)) (some (.int .i64 (4 * (j : Int)))) none none).run Try.prog w = .ok (.slice (some ⟨r, 4 * j, none⟩) (32 - 4 * j) (32 - 4 * j)) w := by
  rcases lt8 hj with rfl | rfl | rfl | rfl | rfl | rfl | rfl | rfl <;> simp [Instr.sliceAt, go_sem, run_underlying Try.underlying78]
def B4 (n : Nat) (x : Int) (v : Value) (w : World) : Prop := ∃ u, v = .slice (some ⟨u, 0, none⟩) 4 4 ∧ n ≤ u ∧ w.heap[u]? = some (.cells ((byteS x).map (Value.int .u8)).toArray 5)
theorem B4.ext {n : Nat} {x : Int} {v : Value} {w w' : World} (h : B4 n x v w) (e : Ext w w') : B4 n x v w' := by
  obtain ⟨u, h1, h2, h3⟩ := h
  exact ⟨u, h1, h2, (e.block _ (Rg.lt_of_heap h3)).trans h3⟩
theorem bytes_z (n : Nat) (x : Int) (w : World) (h : n ≤ w.heap.size) : Calls Try.prog 48 #[.int .u32 x] w fun e w' => ∃ v, e = .returned v ∧ Ext w w' ∧ B4 n x v w' :=
  (bytes_any x w).mono fun _ _ ⟨he, hw⟩ => ⟨_, he, hw ▸ Ext.alloc (Ext.refl _) _, _, rfl, h, hw ▸ alloc_at w _⟩
theorem outV_step (S : S8) {j : Nat} (hj : j < 8) : ((rowB ((outV S).take (4 * j))).toList.take (4 * j) ++ ((byteS (S.l.getD j 0)).map (Value.int .u8) ++ (rowB ((outV S).take (4 * j))).toList.drop (4 * j + 4))).toArray = rowB ((outV S).take (4 * (j + 1))) := by
  rcases lt8 hj with rfl | rfl | rfl | rfl | rfl | rfl | rfl | rfl <;> rfl
theorem rowB_size {l : List Int} (h : l.length ≤ 32) : (rowB l).size = 32 := by
  unfold rowB
  simp
  omega
theorem hold0 {f : World → Prop} {fs : List (World → Prop)} {w : World} (h : Rr.Holds (f :: fs) w) : f w := h _ List.mem_cons_self
theorem Bt.setRow {q : Nat} {a b : World} (h : Bt q a b) (cs : Array Value) : Bt q a (b.setRow q cs) :=
  ⟨h.os, h.tape, h.output, by simpa [World.setRow] using h.size, fun i hi hq => (setRow_other _ _ _ _ hq).trans (h.block i hi hq)⟩
theorem rowB_one (l : List Int) : ∀ v ∈ (rowB l).toList, v.oneCell' = true := by
  intro v hv
  simp only [rowB, List.mem_append, List.mem_map, List.mem_replicate] at hv
  rcases hv with ⟨y, -, rfl⟩ | ⟨-, rfl⟩ <;> rfl
theorem padV_eq (s : ByteArray) (z : Nat) (hs : s.size ≤ 4000) (hz : z = (120 - (s.size + 1) % 64) % 64) :
    bytesI s ++ [128] ++ List.replicate z 0 ++ byteS ((s.size : Int) * 8 / 4294967296) ++ byteS ((s.size : Int) * 8) = padV (bytesI s) := by
  unfold padV
  have e1 : (s.size : Int) * 8 / 4294967296 = ((8 * s.size : Nat) : Int) / 4294967296 := by omega
  have e2 : (s.size : Int) * 8 = ((8 * s.size : Nat) : Int) % 4294967296 := by omega
  rw [bytesI_len, hz, e1, ← e2]
set_option maxRecDepth 100000 in
set_option maxHeartbeats 4000000 in
theorem sum_any (s : ByteArray) (w : World) (hs : s.size ≤ 4000) :
    Calls Try.prog 40 #[.string s] w fun e w' => e = .returned (.agg ((sumV (bytesI s)).map (Value.int .u8)).toArray) ∧ Ext w w' := by
  refine (callsIn_wide (n := 5)).1 (callsIn_of_wp_marks Try.func40 rfl trivial (wpIn_wide.2 ?_) rfl)
  simp only [Try.ntmps40, List.size_toArray, List.length_cons, List.length_nil, Nat.reduceAdd, Nat.reduceSub, Array.replicate_succ, Array.replicate_zero, List.push_toArray, List.append_toArray, List.nil_append, List.cons_append]
  go_upto_region 1 with (fail)
  change Code.wp _ _ _ _ (w.alloc (.cells (rowB []) 78))
  obtain ⟨p, hp⟩ : ∃ p, p = w.heap.size := ⟨_, rfl⟩
  have hx0 : Ext w (w.alloc (.cells (rowB []) 78)) := Ext.alloc (Ext.refl _) _
  have hq0 : (w.alloc (.cells (rowB []) 78)).heap[p]? = some (.cells (rowB []) 78) := by rw [hp, alloc_at]
  generalize w.alloc (.cells (rowB []) 78) = W0 at *
  rw [← hp]
  have HP := Lib.hid hp
  clear hp
  have hbl := bytesI_len s
  obtain ⟨v1, w1, hr1, hb1, hx1⟩ := run_conv_by s W0
  have hx1a : Ext w1 (w1.alloc (.cells #[.int .u8 128] 5)) := Ext.alloc (Ext.refl _) _
  obtain ⟨v2, w2, hr2, hb2, hx2⟩ := run_append_by W0.heap.size v1 (bytesI s) (w1.alloc (.cells #[.int .u8 128] 5)) (hb1.ext hx1a) (Nat.le_trans hx1.size hx1a.size) ⟨w1.heap.size, 0, none⟩ 1 1 [128] rfl (fun j x hj => by
    have hj0 : j = 0 := by have := (List.getElem?_eq_some_iff.1 hj).1; simpa using this
    subst hj0
    rw [show (⟨w1.heap.size, 0, none⟩ : Addr).add 0 = ⟨w1.heap.size, 0, none⟩ from by simp [Addr.add]]
    refine (cell_of_row _ _ 0 _ _ _ (alloc_at w1 _)).trans ?_
    simpa using hj) (by omega) 51
  go_upto_region 2 with (refine wpList_append_run2 _ rfl _ _ 51 51 rfl _ _ (by rfl) (by rfl) hr2 ?_)
  have hl2 : (bytesI s ++ [128]).length = s.size + 1 := by simp [hbl]
  have hxA : Ext W0 w2 := (hx1.trans hx1a).below_trans hx2
  have hlen2 := hb2.len (s.size + 1) hl2
  obtain ⟨z, hz, hz2⟩ : ∃ z : Nat, (120 - ((s.size : Int) + 1) % 64) % 64 = z ∧ z = (120 - (s.size + 1) % 64) % 64 := ⟨_, by omega, rfl⟩
  obtain ⟨v3, w3, hr3, hb3, hx3⟩ := run_append_zeros W0.heap.size _ _ w2 hb2 hxA.size z (by rw [hl2]; omega) 51
  have HZ := Lib.hid hz2
  clear hz2
  go_upto_region 3 with (refine wpList_append_run2 _ rfl _ _ 51 3 rfl _ _ (by rfl) (by first | rfl | exact congrArg (Value.int .i64) hz) hr3 ?_)
  clear hlen2 hz hr3 hr2 hr1
  have hxB : Ext W0 w3 := hxA.below_trans hx3
  have hl3 : (bytesI s ++ [128] ++ List.replicate z 0).length ≤ 5000 := by
    have := HZ.out
    simp [hbl]
    omega
  obtain ⟨v4, w4, hr4, hb4, hx4⟩ := run_append_by W0.heap.size v3 _ (w3.alloc (.cells ((byteS ((s.size : Int) * 8 / 4294967296)).map (Value.int .u8)).toArray 5)) (hb3.ext (Ext.alloc (Ext.refl _) _)) (Nat.le_trans hxB.size (by simp)) ⟨w3.heap.size, 0, none⟩ 4 4 (byteS ((s.size : Int) * 8 / 4294967296)) rfl (cells_bytes w3 _) (by omega) 51
  have hxC : Ext W0 w4 := (hxB.trans (Ext.alloc (Ext.refl _) _)).below_trans hx4
  obtain ⟨v5, w5, hr5, hb5, hx5⟩ := run_append_by W0.heap.size v4 _ (w4.alloc (.cells ((byteS ((s.size : Int) * 8)).map (Value.int .u8)).toArray 5)) (hb4.ext (Ext.alloc (Ext.refl _) _)) (Nat.le_trans hxC.size (by simp)) ⟨w4.heap.size, 0, none⟩ 4 4 (byteS ((s.size : Int) * 8)) rfl (cells_bytes w4 _) (by simp [byteS_len] at hl3 ⊢; omega) 51
  go_upto_region 5 with (first
    | (go_at_call 48; (with_reducible refine (bytes_any _ w3).mono ?_); rintro e wa ⟨rfl, rfl⟩)
    | (go_at_call 48; (with_reducible refine (bytes_any _ w4).mono ?_); rintro e wa ⟨rfl, rfl⟩)
    | (refine wpList_append_run2 _ rfl _ _ 51 51 rfl _ _ (by rfl) (by rfl) hr4 ?_)
    | (refine wpList_append_run2 _ rfl _ _ 51 51 rfl _ _ (by rfl) (by rfl) hr5 ?_))
  have hb6 := padV_eq s z hs HZ.out ▸ hb5
  have hxD : Ext W0 w5 := (hxC.trans (Ext.alloc (Ext.refl _) _)).below_trans hx5
  clear hr4 hr5 hb4 hb5 hb3 hb2 hb1 hx1 hx1a hx2 hx3 hx4 hx5 hxA hxB hxC hl3 hl2
  have hml := padV_len (bytesI s)
  have hmm := padV_mod (bytesI s)
  have hmi := padV_in (bytesI_in s)
  generalize hM : padV (bytesI s) = m at hb6 hml hmm hmi
  obtain ⟨c, hc⟩ : ∃ c, m.length = 64 * c := ⟨m.length / 64, by omega⟩
  have hc0 : c ≤ 100 := by rw [bytesI_len] at hml; omega
  clear hml hmm
  obtain ⟨g, cap, cur, fr, rfl, hg0, hg, -, hcs, hlc, htk⟩ := hb6
  rw [hc] at htk hlc ⊢
  have HC := Lib.hid hc; have HM := Lib.hid hM
  clear hc hM
  have hrow : ∀ i (h : i < m.length), w5.cell? ⟨g, i, none⟩ = some (.int .u8 m[i]) := fun i h => by
    rw [cell_of_row _ _ _ _ _ _ hg, show cur[i]? = cur.toList[i]? from by simp, ← List.getElem?_take_of_lt (l := cur.toList) (show i < 64 * c by rw [← HC.out]; exact h), htk]
    simp [h]
  have HR := Lib.hid hrow
  have hgl := Rg.lt_of_heap hg
  clear hrow htk hcs hg
  go_upto_region 6 with (first
    | (go_at_call 49; (with_reducible refine (start_any _).mono ?_); rintro e w6 ⟨rfl, hx6⟩)
    | (refine wpList_store_row (hgd := rfl) 90 (.tmp 5) (.tmp 35) rfl w6.heap.size (by rfl) (rowN H8) (by rfl) (rowN [0, 0, 0, 0, 0, 0, 0, 0]) 90 (alloc_at w6 _) (by rfl) (by kernel_rfl) (rowN_one _) ?_))
  change Code.wp _ _ _ _ ((w6.alloc (.cells (rowN [0, 0, 0, 0, 0, 0, 0, 0]) 90)).setRow w6.heap.size (rowN H8))
  have hX : Ext w5 ((w6.alloc (.cells (rowN [0, 0, 0, 0, 0, 0, 0, 0]) 90)).setRow w6.heap.size (rowN H8)) := below_setRow (Ext.alloc hx6 _) hx6.size _
  have hQ : ((w6.alloc (.cells (rowN [0, 0, 0, 0, 0, 0, 0, 0]) 90)).setRow w6.heap.size (rowN H8)).heap[w6.heap.size]? = some (.cells (rowN S0.l) 90) := setRow_heap _ _ _ _ _ _ (alloc_at w6 _)
  have hqs : w5.heap.size ≤ w6.heap.size := hx6.size
  obtain ⟨q, hq⟩ : ∃ q, q = w6.heap.size := ⟨_, rfl⟩
  rw [← hq] at hX hQ hqs ⊢
  generalize ((w6.alloc (.cells (rowN [0, 0, 0, 0, 0, 0, 0, 0]) 90)).setRow q (rowN H8)) = W at *
  clear hq hx6
  go_wp2_with (go_at_call 50; (with_reducible refine (chunk_any _ _ _ _).mono ?_); rintro e w7 ⟨rfl, rfl⟩)
  have cB := (two_blocks W (.cells #[.slice (some ⟨g, 0, none⟩) (64 * c) cap] 51) (.cells #[.int .i64 64] 3)).1
  have cN := (two_blocks W (.cells #[.slice (some ⟨g, 0, none⟩) (64 * c) cap] 51) (.cells #[.int .i64 64] 3)).2
  have hX2 : Ext W ((W.alloc (.cells #[.slice (some ⟨g, 0, none⟩) (64 * c) cap] 51)).alloc (.cells #[.int .i64 64] 3)) := Ext.alloc (Ext.alloc (Ext.refl _) _) _
  have hS2 : ((W.alloc (.cells #[.slice (some ⟨g, 0, none⟩) (64 * c) cap] 51)).alloc (.cells #[.int .i64 64] 3)).heap.size = W.heap.size + 2 := by simp
  generalize ((W.alloc (.cells #[.slice (some ⟨g, 0, none⟩) (64 * c) cap] 51)).alloc (.cells #[.int .i64 64] 3)) = V at *
  have hqW := Rg.lt_of_heap hQ
  have hQV := (hX2.block _ hqW).trans hQ
  have hgq : g ≠ q := by omega
  have HRV : Hid (∀ i (h : i < m.length), V.cell? ⟨g, i, none⟩ = some (.int .u8 m[i])) := Lib.hid fun i h => by
    have hgW : g < W.heap.size := Nat.lt_of_lt_of_le hgl hX.size
    exact (hX2.cells.1 _ _ hgW).trans ((hX.cells.1 _ _ hgl).trans (HR.out i h))
  clear HR
  refine (wpIn_wide (n := 5)).1 ?_
  refine wpIn_rangeFunc_ownF rfl (by omega) (gf := 66) (lb := #[.pointer (some ⟨W.heap.size, 0, none⟩), .pointer (some ⟨W.heap.size + 1, 0, none⟩)]) rfl trivial (enters_of Try.func66 (by kernel_rfl) rfl)
    (chunk_stops Fence.wide 4 trivial rfl (by omega) W.heap.size (W.heap.size + 1) q V.heap.size g 0 c cap (by omega) (by omega) (by omega) hlc V (by omega) (by omega) (Nat.le_refl _) (by rw [cell_of_row _ _ _ _ _ _ cB]; rfl) (by rw [cell_of_row _ _ _ _ _ _ cN]; rfl))
    (fun h k => Bel.trans h k) (fun W' l o o' hl _ _ _ => Bel.put _ _ _ hl) (Below.refl _ _) (fun _ => rfl)
    (fun pre W' => W'.heap[q]? = some (.cells (rowN (absP m c pre).l) 90) ∧ Bel q V.heap.size V W')
    (fun _ _ _ => False) ?hI (fun _ _ _ _ _ hs _ _ => hs) ⟨hQV, Bel.refl _ _ _⟩
    (fun x => { tmps := #[.string s, undef, .pointer (some ⟨p, 0, none⟩), .slice (some ⟨g, 0, none⟩) (64 * c) cap, .int .u64 (↑s.size * 8), .pointer (some ⟨q, 0, none⟩), .slice (some ⟨g, 64 * (x % c), none⟩) 64 64, undef, undef, undef, .string s, v1, .slice (some ⟨w1.heap.size, 0, none⟩) 1 1, v2, v2, v2, .int .i64 (↑s.size + 1), .int .i64 ((↑s.size + 1) % 64), .int .i64 (120 - (↑s.size + 1) % 64), .int .i64 ↑z, v3, .string s, .int .i64 ↑s.size, .int .u64 ↑s.size, .int .u64 (↑s.size * 8), v3, .int .u64 (↑s.size * 8), .int .u64 (↑s.size * 8 / 4294967296), .int .u32 (↑s.size * 8 / 4294967296), .slice (some ⟨w3.heap.size, 0, none⟩) 4 4, v4, .int .u64 (↑s.size * 8), .int .u32 (↑s.size * 8), .slice (some ⟨w4.heap.size, 0, none⟩) 4 4, .slice (some ⟨g, 0, none⟩) (64 * c) cap, .agg (rowN H8), .slice (some ⟨g, 0, none⟩) (64 * c) cap, .func (.func 66) #[] #[.pointer (some ⟨W.heap.size, 0, none⟩), .pointer (some ⟨W.heap.size + 1, 0, none⟩)], .slice (some ⟨g, 64 * (x % c), none⟩) 64 64, undef, undef, undef, undef, undef, undef, undef, undef, undef, undef, undef, undef, undef, undef, undef], defers := [] })
    ?assign ?body ?done ?stop
  case hI =>
    intro pre W1 W2 row hs hg hr
    exact ⟨(hg.block q (Rg.lt_of_heap hs.1) (fun e => by have := (hr q e.symm).1; omega)).trans hs.1, hs.2.grown hg (hs.2.size) (fun r e => (hr r e).1)⟩
  case assign =>
    intro l x W' K hK
    gi_wp2
    exact hK
  case body =>
    rintro l pre x W' ⟨h1, h2⟩ hN
    have hc1 : 0 < c := by omega
    have hxc := Nat.mod_lt x hc1
    have hrw : ∀ i (h : i < m.length), W'.cell? ⟨g, i, none⟩ = some (.int .u8 m[i]) := fun i h => (h2.cell (p := ⟨g, i, none⟩) (by show g < V.heap.size; have := hX2.size; have := hX.size; omega) hgq).trans (HRV.out i h)
    obtain ⟨hl6, hc6⟩ := chunk_at hrw (o := 64 * (x % c)) (by rw [HC.out]; omega)
    have hA := add_any g (64 * (x % c)) 64 64 ((m.drop (64 * (x % c))).take 64) (absP m c pre) q W' (Nat.le_refl _) (Nat.le_refl _) (by have := hX2.size; have := hX.size; have := h2.size; omega) hl6
      (fun k hk => hmi _ (List.mem_of_mem_drop (List.mem_of_mem_take (List.getElem_mem hk)))) hc6 h1
    have HA := Lib.hid hA
    clear hA hc6 hrw
    gi_wp2_with (gi_at_call 51; refine (CallsIn.inRound l ((callsIn_wide (n := 2)).2 HA.out)).mono ?_; rintro e w9 ⟨rfl, hb9, hq9⟩)
    exact ⟨hb9.others h1, Bel.of_bt hb9 h2.size, by rw [absP_snoc]; exact hq9, h2.trans (Bel.of_bt hb9 h2.size)⟩
  case stop =>
    rintro D c pre W' _ _ h _
    exact h.elim
  case done =>
    rintro D ys W1 hD rfl ⟨h1, h2⟩ hK
    rw [absP_range m c c (Nat.le_refl _)] at h1
    have hsum : sumV (bytesI s) = outV (absorb m c) := by
      unfold sumV
      rw [HM.out, HC.out, Nat.mul_div_cancel_left _ (by omega)]
    have hp2 : p < W0.heap.size := Rg.lt_of_heap hq0
    have hs1 := hxD.size; have hs2 := hX.size; have hs3 := hX2.size; have hs4 := h2.size; have hs5 := hx0.size
    have hDw : w.heap.size ≤ D := by omega
    have hEx : Ext w W1 := ⟨h2.os.trans (hX2.os.trans (hX.os.trans (hxD.os.trans hx0.os))), h2.tape.trans (hX2.tape.trans (hX.tape.trans (hxD.tape.trans hx0.tape))), h2.output.trans (hX2.output.trans (hX.output.trans (hxD.output.trans hx0.output))), by omega, fun k hk => (h2.block k (by omega) (by omega)).trans ((hX2.block k (by omega)).trans ((hX.block k (by omega)).trans ((hxD.block k (by omega)).trans (hx0.block k hk))))⟩
    have hpW : W1.heap[p]? = some (.cells (rowB []) 78) := (h2.block p (by omega) (by omega)).trans ((hX2.block p (by omega)).trans ((hX.block p (by omega)).trans ((hxD.block p hp2).trans hq0)))
    clear hxD hX hX2 hQ hQV HRV HC HM h2 cB cN hlc hgl hc0 hgq hqW hs1 hs2 hs3 hs4 hs5 hqs hx0 hq0 hS2 hg0 hp2 hmi
    generalize absorb m c = S at *
    have HA := Lib.hid h1; have HE := Lib.hid hEx; have HPW := Lib.hid hpW; have HK := Lib.hid hK; have HS := Lib.hid hsum
    clear h1 hEx hpW hK hsum
    dsimp only
    go_upto_region 10 with (fail)
    change Code.wp _ _ _ _ (W1.alloc (.cells (rowB []) 78))
    have hx1 : Ext W1 (W1.alloc (.cells (rowB []) 78)) := Ext.alloc (Ext.refl _) _
    have JA : Hid ((W1.alloc (.cells (rowB []) 78)).heap[q]? = some (.cells (rowN S.l) 90)) := Lib.hid ((hx1.block _ (Rg.lt_of_heap HA.out)).trans HA.out)
    have JP : Hid ((W1.alloc (.cells (rowB []) 78)).heap[p]? = some (.cells (rowB []) 78)) := Lib.hid ((hx1.block _ (Rg.lt_of_heap HPW.out)).trans HPW.out)
    have JK : Hid ((W1.alloc (.cells (rowB []) 78)).heap[D]? = some (.deferred (some []))) := Lib.hid ((hx1.block _ (Rg.lt_of_heap HK.out)).trans HK.out)
    have JE : Hid (Ext w (W1.alloc (.cells (rowB []) 78))) := Lib.hid (HE.out.trans hx1)
    have JR : Hid ((W1.alloc (.cells (rowB []) 78)).heap[W1.heap.size]? = some (.cells (rowB []) 78)) := Lib.hid (alloc_at W1 _)
    obtain ⟨r, hr⟩ : ∃ r, r = W1.heap.size := ⟨_, rfl⟩
    have hDr : D < r := by rw [hr]; exact Rg.lt_of_heap HK.out
    have hpr : p < r := by rw [hr]; exact Rg.lt_of_heap HPW.out
    rw [← hr] at JR ⊢
    generalize W1.alloc (.cells (rowB []) 78) = V1 at *
    clear HA HPW HK HE hx1 hr
    have hwr : w.heap.size ≤ r := by have := JE.out.size; have h9 := HP.out; omega
    go_upto_region 11 with (refine wpList_load_row rfl 90 (.tmp 5) rfl q (by rfl) (rowN S.l) 90 (0, 0) JA.out 8 89 Try.underlying90 (by kernel_rfl) ?_)
    go_wp2_with (fail)
    go_loopw [42] (fun k wr => ∃ j : Nat, k = .int .i64 j ∧ j ≤ 8 ∧ Hid (wr.heap[r]? = some (.cells (rowB ((outV S).take (4 * j))) 78)) ∧ Hid (Bt r V1 wr)) (fun k _ => 8 - (iof k).toNat)
    case atStart => exact ⟨0, rfl, by omega, JR, Lib.hid (Bt.of_ext (Ext.refl _))⟩
    case round =>
      obtain ⟨j, rfl, hj, KR, KB⟩ := hrel
      by_cases hj8 : j < 8
      · obtain ⟨x, hx⟩ : ∃ x, x = S.l.getD j 0 := ⟨_, rfl⟩
        have IX : ∀ w, (Instr.index 90 (.agg (rowN S.l)) (.int .i64 (j : Int))).run Try.prog w = .ok (.int .u32 x) w := fun w => by rw [hx]; exact index8 S.a S.b S.c S.d S.e S.f S.g S.h hj8 w
        have HX := Lib.hid hx
        clear hx
        go_upto_region 13 with (fail)
        clear IX
        have hwj : IntKind.i64.wrap (4 * (j : Int)) = 4 * (j : Int) := by rw [IntKind.wrap_i64]; omega
        have hsl := fun w => slice32 r hj8 w
        have hrl := Rg.lt_of_heap KR.out
        refine Rr.wp_region [(0, .y), (1, .y), (2, .y), (3, .y), (4, .z)] (fun _ => (.cells #[] 29, Rg.ptr)) (by kernel_rfl) (by kernel_rfl) ?_
        (refine Rr.wr_y (by simp only [List.getElem?_toArray, List.getElem?_cons_succ, List.getElem?_cons_zero]; rfl) (by rfl) ?_
         apply Exists.intro
         refine ⟨fun wz hw _ => ?_, ?_⟩
         · have hcz := hw.cells.1
           go_simp
           (with_reducible exact Rg.up_value)
         simp only [Act.put, List.setIfInBounds_toArray, List.set_cons_zero, List.set_cons_succ])
        (refine Rr.wr_y (by simp only [List.getElem?_toArray, List.getElem?_cons_succ, List.getElem?_cons_zero]; rfl) (by rfl) ?_
         apply Exists.intro
         refine ⟨fun wz hw _ => ?_, ?_⟩
         · have hcz := hw.cells.1
           go_simp
           (with_reducible exact Rg.up_value)
         simp only [Act.put, List.setIfInBounds_toArray, List.set_cons_zero, List.set_cons_succ])
        (refine Rr.wr_y (by simp only [List.getElem?_toArray, List.getElem?_cons_succ, List.getElem?_cons_zero]; rfl) (by rfl) ?_
         apply Exists.intro
         refine ⟨fun wz hw _ => ?_, ?_⟩
         · have hcz := hw.cells.1
           go_simp
           (with_reducible exact Rg.up_value)
         simp only [Act.put, List.setIfInBounds_toArray, List.set_cons_zero, List.set_cons_succ])
        (refine Rr.wr_y (by simp only [List.getElem?_toArray, List.getElem?_cons_succ, List.getElem?_cons_zero]; rfl) (by rfl) ?_
         apply Exists.intro
         refine ⟨fun wz hw _ => ?_, ?_⟩
         · have hcz := hw.cells.1
           go_simp
           (with_reducible exact Rg.up_value)
         simp only [Act.put, List.setIfInBounds_toArray, List.set_cons_zero, List.set_cons_succ])
        refine Rr.wr_z (fun v w' => B4 wr.heap.size x v w') (by simp only [List.getElem?_toArray, List.getElem?_cons_succ, List.getElem?_cons_zero]; rfl) (by rfl) (fun v w1 w2 h e => by first | exact Rd.ext e h | exact h.ext e) (fun wz hw hh => ?_) (fun u => ?_)
        · have hcz := hw.cells.1
          go_simp
          apply Rr.upR_enter
          (with_reducible refine (bytes_z wr.heap.size x wz hw.size).mono ?_)
          rintro e w3 ⟨v3, rfl, hx3, hr3⟩
          exact ⟨v3, rfl, hx3, hr3⟩
        simp only [Act.put, List.setIfInBounds_toArray, List.set_cons_zero, List.set_cons_succ]
        refine Rr.wr_nil ?_
        intro wy hy hh
        obtain ⟨u9, rfl, hu1, hu2⟩ := hold0 hh
        clear hh hsl hwj
        simp only [List.length_cons, List.length_nil, List.drop_succ_cons, List.drop_zero, Nat.reduceAdd]
        have hKy := (hy.block _ hrl).trans KR.out
        have hl4 : ((byteS x).map (Value.int .u8)).length = 4 := rfl
        have hls : ((outV S).take (4 * j)).length ≤ 32 := by rw [List.length_take]; exact Nat.le_trans (Nat.min_le_left _ _) (by omega)
        refine wpList_copy_own rfl (.tmp 48) (.tmp 50) 51 51 rfl 5 Try.underlying51 (by kernel_rfl) r (4 * j) (32 - 4 * j) (32 - 4 * j) ⟨u9, 0, none⟩ 4 4 (by rfl) (by rfl) _ 78 hKy ((byteS x).map (Value.int .u8)) (by rw [hl4]; exact (Nat.min_eq_left (by omega)).symm) (fun k v hv => by
          rw [show (⟨u9, 0, none⟩ : Addr).add k = ⟨u9, k, none⟩ from by unfold Addr.add; split <;> simp_all]
          refine (cell_of_row _ _ k _ _ _ hu2).trans ?_
          simpa using hv) (by rw [hl4, rowB_size hls]; omega) (fun v hv => by
            obtain ⟨y, -, rfl⟩ := List.mem_map.1 hv
            rfl) ?_
        rw [hl4, HX.out, outV_step S hj8]
        have KR2 : Hid ((wy.setRow r (rowB ((outV S).take (4 * (j + 1))))).heap[r]? = some (.cells (rowB ((outV S).take (4 * (j + 1)))) 78)) := Lib.hid (setRow_heap _ _ _ _ _ _ hKy)
        have KB2 : Hid (Bt r V1 (wy.setRow r (rowB ((outV S).take (4 * (j + 1)))))) := Lib.hid ((KB.out.trans (Bt.of_ext hy)).setRow _)
        generalize wy.setRow r (rowB ((outV S).take (4 * (j + 1)))) = w9 at *
        clear hKy hl4 hls hu1 hu2 hy hrl KR KB
        simp only [Act.put, List.setIfInBounds_toArray, List.set_cons_zero, List.set_cons_succ]
        go_wp2_with (fail)
        exact ⟨⟨j + 1, by simp, by omega, KR2, KB2⟩, by simp [iof]; omega⟩
      · obtain rfl : j = 8 := by omega
        have e32 : (outV S).take (4 * 8) = outV S := rfl
        have hR8 := KR.out
        rw [e32] at hR8
        have hP8 := (KB.out.block p (Rg.lt_of_heap JP.out) (by omega)).trans JP.out
        have HR8 := Lib.hid hR8; have HP8 := Lib.hid hP8
        clear hR8 hP8
        go_wp2_with (first
          | (refine wpList_load_row rfl 78 (.tmp 7) rfl r (by rfl) (rowB (outV S)) 78 (0, 0) HR8.out 32 5 Try.underlying78 (by kernel_rfl) ?_)
          | (refine wpList_store_row (hgd := rfl) 78 (.tmp 2) (.tmp 53) rfl p (by rfl) (rowB (outV S)) (by rfl) (rowB []) 78 HP8.out (by rfl) (by kernel_rfl) (rowB_one _) ?_))
        have hKf : (wr.setRow p (rowB (outV S))).heap[D]? = some (.deferred (some [])) := by
          have h1 := (KB.out.block D (Rg.lt_of_heap JK.out) (by omega)).trans JK.out
          rw [setRow_other _ _ _ _ (by rintro rfl; rw [HP8.out] at h1; cases h1)]
          exact h1
        have hpf : (wr.setRow p (rowB (outV S))).heap[p]? = some (.cells (rowB (outV S)) 78) := setRow_heap _ _ _ _ _ _ HP8.out
        have hDp : p ≠ D := by rintro rfl; rw [hpf] at hKf; cases hKf
        have hFx : Ext w (wr.setRow p (rowB (outV S))) := below_setRow (KB.out.ext JE.out hwr) (Nat.le_of_eq HP.out.symm) _
        have hpF : ((wr.setRow p (rowB (outV S))).putObj D (.deferred none)).heap[p]? = some (.cells (rowB (outV S)) 78) := (World.putObj_heap_other hDp).trans hpf
        have hFX : Ext w ((wr.setRow p (rowB (outV S))).putObj D (.deferred none)) := ⟨hFx.os, hFx.tape, hFx.output, by simpa [World.putObj] using hFx.size, fun k hk => (World.putObj_heap_other (by omega)).trans (hFx.block k hk)⟩
        have hload := run_loadVar_row (P := Try.prog) _ p 78 78 (rowB (outV S)) _ (.array 32 5) hpF Try.underlying78 rfl (by kernel_rfl)
        simp only [Act.put, List.setIfInBounds_toArray, List.set_cons_zero, List.set_cons_succ]
        refine ⟨by simp, .inl ⟨_, _, rfl, run_takeDeferred hKf, ?_⟩⟩
        clear hKf hFx hpf
        generalize ((wr.setRow p (rowB (outV S))).putObj D (.deferred none)) = WF at *
        have e33 : (Value.agg (rowB (outV S))) = .agg ((sumV (bytesI s)).map (Value.int .u8)).toArray := by rw [HS.out]; rfl
        rw [e33] at hload
        exact ⟨_, by simp [results, Try.results40, asAddr, hload], rfl, hFX⟩
end Go.Proofs.Ytbeoihjfjkbfhaa
