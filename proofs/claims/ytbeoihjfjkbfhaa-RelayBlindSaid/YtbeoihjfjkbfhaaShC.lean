/-
  The constants.
-/
import Derived.Test.YtbeoihjfjkbfhaaShB
namespace Go.Proofs.Ytbeoihjfjkbfhaa
set_option linter.unusedVariables false
set_option linter.unusedSimpArgs false
open Go.RowKit

def K64 : List Int := [1116352408, 1899447441, 3049323471, 3921009573, 961987163, 1508970993, 2453635748, 2870763221, 3624381080, 310598401, 607225278, 1426881987, 1925078388, 2162078206, 2614888103, 3248222580, 3835390401, 4022224774, 264347078, 604807628, 770255983, 1249150122, 1555081692, 1996064986, 2554220882, 2821834349, 2952996808, 3210313671, 3336571891, 3584528711, 113926993, 338241895, 666307205, 773529912, 1294757372, 1396182291, 1695183700, 1986661051, 2177026350, 2456956037, 2730485921, 2820302411, 3259730800, 3345764771, 3516065817, 3600352804, 4094571909, 275423344, 430227734, 506948616, 659060556, 883997877, 958139571, 1322822218, 1537002063, 1747873779, 1955562222, 2024104815, 2227730452, 2361852424, 2428436474, 2756734187, 3204031479, 3329325298]
def H8 : List Int := [1779033703, 3144134277, 1013904242, 2773480762, 1359893119, 2600822924, 528734635, 1541459225]
/-- A row of words. -/
def rowN (l : List Int) : Array Value := (l.map (Value.int .u32)).toArray
theorem rowN_one (l : List Int) : ∀ v ∈ (rowN l).toList, v.oneCell' = true := by
  intro v hv
  simp only [rowN, List.mem_map] at hv
  obtain ⟨x, -, rfl⟩ := hv
  rfl
theorem rowN_get {l : List Int} {k : Nat} (h : k < l.length) : (rowN l)[k]? = some (.int .u32 (l.getD k 0)) := by
  unfold rowN
  simp [h]
theorem rowN_set {l : List Int} {k : Nat} (x : Int) : (rowN l).setIfInBounds k (.int .u32 x) = rowN (l.set k x) := by
  unfold rowN
  simp
set_option maxRecDepth 100000 in
theorem start_any (w : World) : Calls Try.prog 49 #[] w fun e w' => e = .returned (.agg (rowN H8)) ∧ Ext w w' := by
  have e8 : rowN H8 = #[.int .u32 1779033703, .int .u32 3144134277, .int .u32 1013904242, .int .u32 2773480762, .int .u32 1359893119, .int .u32 2600822924, .int .u32 528734635, .int .u32 1541459225] := rfl
  rw [e8]
  go_enter Try.func49, Try.ntmps49
  go_wp2
  exact bodyPost_ret (v := .agg #[.int .u32 1779033703, .int .u32 3144134277, .int .u32 1013904242, .int .u32 2773480762, .int .u32 1359893119, .int .u32 2600822924, .int .u32 528734635, .int .u32 1541459225]) (by simp [results, Try.results49, go_sem]) rfl ⟨rfl, (by with_reducible repeat (first | exact Ext.refl _ | assumption | apply Ext.drewN | apply Ext.drew | apply Ext.alloc | (refine Ext.setCell ?_ (by simp <;> omega) _) | (refine Ext.trans ?_ (by assumption))))⟩
set_option maxRecDepth 100000 in
set_option maxHeartbeats 4000000 in
theorem rounds_any (w : World) : Calls Try.prog 68 #[] w fun e w' => e = .returned (.agg (rowN K64)) ∧ Ext w w' := by
  go_enter Try.func68, Try.ntmps68
  go_upto_region 1 with (fail)
  change Code.wp _ _ _ _ (w.alloc (.cells (rowW []) 109))
  obtain ⟨p, hp⟩ : ∃ p, p = w.heap.size := ⟨_, rfl⟩
  have hx1 : Ext w (w.alloc (.cells (rowW []) 109)) := Ext.alloc (Ext.refl _) _
  have hq : (w.alloc (.cells (rowW []) 109)).heap[p]? = some (.cells (rowW []) 109) := by rw [hp, alloc_at]
  generalize (w.alloc (.cells (rowW []) 109)) = W1 at *
  rw [← hp]
  have HP := Lib.hid hp
  clear hp
  have HQ := Lib.hid hq
  clear hq
  go_wp2_with (refine wpList_store_row (hgd := rfl) 109 (.tmp 0) (.tmp 1) rfl p (by rfl) (rowN K64) (by rfl) _ 109 HQ.out (by rfl) (by kernel_rfl) (rowN_one _) ?_)
  refine bodyPost_ret (v := .agg (rowN K64)) (results_cell_row Try.results68 _ _ p 109 _ _ _ (by rfl) (setRow_heap _ _ _ _ _ _ HQ.out) Try.underlying109 rfl (by kernel_rfl)) rfl ⟨rfl, below_setRow hx1 (by have := HP.out; omega) _⟩
end Go.Proofs.Ytbeoihjfjkbfhaa
