/-
  slices.Contains; what Check answers, as a plain function. Conditions: what the slices hold.
-/
import Derived.Test.YthdhlocoiipbaaaFlM
namespace Go.Proofs.Ythdhlocoiipbaaa
set_option linter.unusedVariables false
set_option linter.unusedSimpArgs false
open Go.RowKit

set_option maxRecDepth 100000 in
set_option maxHeartbeats 1000000 in
theorem index45 (v : Value) (l : List Int) (x : Int) (w : World) (hl : IRd w v l) :
    Calls Try.prog 45 #[v, .int .i64 x] w fun e w' => ∃ z : Int, e = .returned (.int .i64 z) ∧ (0 ≤ z ↔ l.contains x = true) ∧ Ext w w' := by
  obtain ⟨A, c, rfl, hlen, -, hcell⟩ := hl
  go_enter Try.func45, Try.ntmps45
  go_wp2_with (fail)
  go_loopw [8] (fun i wr => ∃ k : Nat, k ≤ l.length ∧ i = .int .i64 k ∧ Hid (l.contains x = (l.drop k).contains x) ∧ Ext w wr) (fun i _ => l.length - (iof i).toNat)
  case atStart => exact ⟨0, Nat.zero_le _, rfl, Lib.hid rfl, Ext.refl _⟩
  case round =>
    obtain ⟨k, hk, rfl, Hi, hx⟩ := hrel
    by_cases hlt : k < l.length
    · obtain ⟨b, off, rfl, hc⟩ := hcell.resolve_left (by intro e; rw [e] at hlt; simp at hlt)
      have c0 := (hx.cells.1 _ _ (World.block_lt_of_cell? w _ (hc k hlt))).trans (hc k hlt)
      have hs : (l.drop k).contains x = (decide (x = l[k]) || (l.drop (k + 1)).contains x) := by
        rw [List.drop_eq_getElem_cons hlt, List.contains_cons]
        rfl
      have Hs := Lib.hid hs; clear hs
      by_cases hp : x = l[k]
      · have Hp := Lib.hid hp
        go_wp2_with (fail)
        go_ret
        exact ⟨_, rfl, by omega, hx⟩
      · have Hp := Lib.hid hp
        go_wp2_with (fail)
        go_roundw
        case rel => exact ⟨k + 1, by omega, by go_num, Lib.hid (by rw [Hi.out, Hs.out, decide_eq_false Hp.out]; rfl), hx⟩
        case measure => simp [iof]; omega
    · have hkn : k = l.length := by omega
      subst hkn
      go_wp2_with (fail)
      go_ret
      exact ⟨-1, rfl, ⟨fun h => by omega, fun h => by rw [Hi.out, List.drop_length] at h; cases h⟩, hx⟩

set_option maxRecDepth 100000 in
theorem contains34 (v : Value) (l : List Int) (x : Int) (w : World) (hl : IRd w v l) :
    Calls Try.prog 34 #[v, .int .i64 x] w fun e w' => e = .returned (.bool (l.contains x)) ∧ Ext w w' := by
  go_enter Try.func34, Try.ntmps34
  go_wp2_with (go_at_call 45; (with_reducible refine (index45 v l x w hl).mono ?_); rintro e w1 ⟨z, rfl, hz, hx⟩; have Hz := Lib.hid hz; clear hz)
  go_ret
  have ht : decide (0 ≤ z) = l.contains x := by rw [Bool.eq_iff_iff, decide_eq_true_eq]; exact Hz.out
  exact ⟨by rw [← ht]; rfl, hx⟩

open Classical in
/-- The labels of an item, as an int. -/
noncomputable def labOf (xs : List It) (x : It) : Int := Classical.epsilon fun o => LabS xs x o
theorem LabS.of {xs : List It} {x : It} {o : Int} (h : LabS xs x o) : labOf xs x = o :=
  (Classical.epsilon_spec (p := fun o => LabS xs x o) ⟨o, h⟩).unique h
theorem LabA.map {xs : List It} {zs : List Int} (h : LabA xs zs) : zs = xs.map (labOf xs) := by
  refine List.ext_getElem (by rw [List.length_map]; exact h.1) fun k h1 h2 => ?_
  rw [List.getElem_map]
  exact ((h.2 k (by simpa using h2) h1).of).symm
theorem Labels_lab (xs : List It) (v : Value) (w : World) (h : RI w v xs) :
    Calls Try.prog 15 #[v] w fun e w' => ∃ r, e = .returned r ∧ IRd w' r (xs.map (labOf xs)) ∧ (∀ x ∈ xs, LabS xs x (labOf xs x)) ∧ Ext w w' := by
  refine (Labels_any xs v w h).mono ?_
  rintro e w' ⟨r, zs, rfl, h1, h2, h3⟩
  have h4 := h2.map
  refine ⟨r, rfl, h4 ▸ h1, fun x hx => ?_, h3⟩
  obtain ⟨k, hk, rfl⟩ := List.getElem_of_mem hx
  have h5 := h2.2 k hk (by rw [h2.1]; exact hk)
  rw [h5.of]
  exact h5

/-- Whether an item has the label of prices. -/
noncomputable def prI (xs : List It) (x : It) : Bool := band (labOf xs x) 2 != 0
/-- Whether an Id has it. -/
noncomputable def price (xs : List It) (id : Int) : Bool := match fnd xs id with | some y => prI xs y | none => false
/-- Whether a message is wrong. -/
noncomputable def bad (xs : List It) (ar : List Int) (op : Int) (m : Ms) : Bool := decide (m.tm < op) && ar.contains m.dst && m.its.any (price xs)
/-- Whether Ids are missing. -/
def miss (xs : List It) (ms : List Ms) : Bool := xs.any (fun x => x.frm.any (mis xs)) || ms.any (fun m => m.its.any (mis xs))
noncomputable def chk (xs : List It) (ms : List Ms) (ar : List Int) (op : Int) : List Ms × Int :=
  if ¬ (xs.map (·.id)).Nodup then ([], 33) else if miss xs ms = true then ([], 34) else if ms.filter (bad xs ar op) = [] then ([], 0) else (ms.filter (bad xs ar op), 40)

/-- The map of prices while it is made. -/
def PrM (xs : List It) (k : Nat) (m : List (Int × Value)) : Prop := ∀ id, m.lookup id = match fnd (xs.take k) id with | some y => some (.bool (prI xs y)) | none => none
theorem PrM.start (xs : List It) : PrM xs 0 [] := fun id => by simp [fnd]
theorem fnd_snoc (xs : List It) (x : It) (id : Int) : fnd (xs ++ [x]) id = (fnd xs id).or (if x.id = id then some x else none) := by
  unfold fnd
  rw [List.find?_append, List.find?_cons, List.find?_nil]
  by_cases h : x.id = id
  · simp [h]
  · have : (x.id == id) = false := by simpa using h
    simp [h, this]
theorem fnd_none {xs : List It} {id : Int} : fnd xs id = none ↔ id ∉ xs.map (·.id) := by
  unfold fnd
  rw [List.find?_eq_none]
  simp only [List.mem_map, beq_iff_eq, not_exists, not_and]
theorem PrM.step {xs : List It} {k : Nat} {m : List (Int × Value)} (h : PrM xs k m) (hk : k < xs.length) (hn : (xs.map (·.id)).Nodup) : PrM xs (k + 1) (putL m xs[k].id (.bool (prI xs xs[k]))) := by
  intro id
  rw [lookup_put, List.take_succ_eq_append_getElem hk, fnd_snoc, h id]
  by_cases e : id = xs[k].id
  · have h1 : fnd (xs.take k) id = none := by
      rw [fnd_none]
      intro hm
      rw [List.map_take, List.mem_take_iff_getElem] at hm
      obtain ⟨i, hi, hie⟩ := hm
      have h2 : (xs.map (·.id))[i]? = some id := by rw [List.getElem?_eq_getElem (by simp at hi ⊢; omega)]; exact congrArg some hie
      have h3 : (xs.map (·.id))[k]? = some id := by rw [List.getElem?_map, List.getElem?_eq_getElem hk]; simp [e]
      have h4 := (List.getElem?_inj (by simp at hi ⊢; omega) hn).1 (h2.trans h3.symm)
      simp at hi
      omega
    rw [if_pos e, h1, if_pos e.symm]
    rfl
  · rw [if_neg e, if_neg (fun h => e h.symm), Option.or_none]
theorem PrM.done {xs : List It} {m : List (Int × Value)} (h : PrM xs xs.length m) (id : Int) : (m.lookup id).getD (.bool false) = .bool (price xs id) := by
  rw [h id, List.take_length]
  unfold price
  cases fnd xs id <;> rfl

end Go.Proofs.Ythdhlocoiipbaaa
