/-
  The reference's wrong. Conditions: what the slices hold.
-/
import Derived.Test.YthdhlocoiipbaaaFlH
namespace Go.Proofs.Ythdhlocoiipbaaa
set_option linter.unusedVariables false
set_option linter.unusedSimpArgs false
open Go.RowKit

/-- What is wrong with items and messages. -/
def wrg (xs : List It) (ms : List Ms) : Int := if ¬ (xs.map (·.id)).Nodup then 33 else if miss xs ms = true then 34 else 0

theorem FI.first {xs : List It} {k : Nat} (hk : k < xs.length) {z : Int} (h : FI xs xs[k].id z) : z = k ↔ ∀ i (h : i < k), xs[i].id ≠ xs[k].id := by
  rcases h with ⟨rfl, h⟩ | ⟨m, hm, rfl, hf, hn⟩
  · exact absurd (List.mem_map.2 ⟨xs[k], List.getElem_mem _, rfl⟩) (fnd_none.1 h)
  · have hid : xs[m].id = xs[k].id := by
      have := List.find?_some (p := fun x : It => x.id == xs[k].id) (l := xs) hf
      simpa using this
    constructor
    · intro e
      obtain rfl : m = k := by omega
      exact hn
    · intro h
      rcases Nat.lt_trichotomy m k with h1 | rfl | h1
      · exact absurd hid (h m h1)
      · rfl
      · exact absurd rfl (hn k h1)
theorem FI.neg {xs : List It} {id z : Int} (h : FI xs id z) : z < 0 ↔ mis xs id = true := by
  unfold mis
  rcases h with ⟨rfl, h⟩ | ⟨m, hm, rfl, hf, -⟩
  · simp [h]
  · rw [hf]
    simp
theorem nodup_first {xs : List It} : (xs.map (·.id)).Nodup ↔ ∀ k (hk : k < xs.length), ∀ i (h : i < k), xs[i].id ≠ xs[k].id := by
  unfold List.Nodup
  rw [List.pairwise_iff_getElem]
  constructor
  · intro h k hk i hi e
    exact h i k (by simp; omega) (by simpa using hk) hi (by simpa using e)
  · intro h i k hi hk hik
    have hk' : k < xs.length := by simpa using hk
    simpa using h k hk' i hik
theorem wrg_dup {xs : List It} {ms : List Ms} (h : ¬ (xs.map (·.id)).Nodup) : wrg xs ms = 33 := if_pos h
theorem wrg_miss {xs : List It} {ms : List Ms} (h : (xs.map (·.id)).Nodup) (h2 : miss xs ms = true) : wrg xs ms = 34 := by unfold wrg; rw [if_neg (by simpa using h), if_pos h2]
theorem wrg_none {xs : List It} {ms : List Ms} (h : (xs.map (·.id)).Nodup) (h2 : ¬ miss xs ms = true) : wrg xs ms = 0 := by unfold wrg; rw [if_neg (by simpa using h), if_neg h2]
theorem miss_item {xs : List It} {ms : List Ms} {x : It} (hx : x ∈ xs) {id : Int} (hi : id ∈ x.frm) (h : mis xs id = true) : miss xs ms = true := by
  unfold miss
  rw [Bool.or_eq_true, List.any_eq_true]
  exact .inl ⟨x, hx, List.any_eq_true.2 ⟨id, hi, h⟩⟩
theorem miss_msg {xs : List It} {ms : List Ms} {x : Ms} (hx : x ∈ ms) {id : Int} (hi : id ∈ x.its) (h : mis xs id = true) : miss xs ms = true := by
  unfold miss
  rw [Bool.or_eq_true, List.any_eq_true, List.any_eq_true]
  exact .inr ⟨x, hx, List.any_eq_true.2 ⟨id, hi, h⟩⟩
theorem miss_not {xs : List It} {ms : List Ms} (h1 : ∀ x ∈ xs, ∀ id ∈ x.frm, ¬ mis xs id = true) (h2 : ∀ x ∈ ms, ∀ id ∈ x.its, ¬ mis xs id = true) : ¬ miss xs ms = true := by
  unfold miss
  rw [Bool.or_eq_true, List.any_eq_true, List.any_eq_true]
  rintro (⟨x, hx, h⟩ | ⟨x, hx, h⟩)
  · obtain ⟨id, hi, h⟩ := List.any_eq_true.1 h
    exact h1 x hx id hi h
  · obtain ⟨id, hi, h⟩ := List.any_eq_true.1 h
    exact h2 x hx id hi h

set_option maxRecDepth 100000 in
set_option maxHeartbeats 4000000 in
theorem wrong_any (xs : List It) (ms : List Ms) (vx vm : Value) (w : World) (hx : RI w vx xs) (hm : RM w vm ms) :
    Calls Try.prog 37 #[vx, vm] w fun e w' => e = .returned (.int .i64 (wrg xs ms)) ∧ w' = w := by
  obtain ⟨bx, cx, rfl⟩ := hx.1.form
  obtain ⟨bm, cm, rfl⟩ := hm.1.form
  have hxl := hx.1.le
  have hml := hm.1.le
  have HX := Lib.hid hx; have HM := Lib.hid hm; have HS := Lib.hid hx.1
  clear hx hm
  go_enter Try.func37, Try.ntmps37
  go_upto_region 2 with (fail)
  go_loopw [5] (fun i wr => ∃ k : Nat, i = .int .i64 k ∧ k ≤ xs.length ∧ Hid (∀ m (hm : m < xs.length), m < k → ∀ i (h : i < m), xs[i].id ≠ xs[m].id) ∧ wr = w) (fun i _ => xs.length - (iof i).toNat)
  case atStart => exact ⟨0, rfl, by omega, Lib.hid (fun m hm h => by omega), rfl⟩
  case round =>
    obtain ⟨k, rfl, hk, HN, rfl⟩ := hrel
    by_cases hlt : k < xs.length
    · obtain ⟨b, off, rfl, -, c0, -, -⟩ := it_at HX.out.1 k hlt
      go_wp2_with (go_at_call 28; go_loud (with_reducible refine (find_any _ xs _ _ HS.out).mono ?_); rintro e w9 ⟨z, rfl, hz, rfl⟩; have hzk := hz.first hlt; have HZ := Lib.hid hzk; clear hz hzk)
      · have hne : ¬ z = (k : Int) := by
          have h : (z != (k : Int)) = true := by assumption
          simpa using h
        go_ret
        refine ⟨by rw [wrg_dup (fun h => hne (HZ.out.2 (nodup_first.1 h k hlt)))]; rfl, rfl⟩
      · have hne : z = (k : Int) := by
          have h : (z != (k : Int)) = false := by assumption
          simpa using h
        refine ⟨⟨k + 1, by simp, by omega, Lib.hid fun m hm hmk => ?_, trivial⟩, by simp; omega⟩
        by_cases e : m = k
        · subst e
          exact HZ.out.1 hne
        · exact HN.out m hm (by omega)
    · obtain rfl : k = xs.length := by omega
      have HD := Lib.hid (nodup_first.2 fun m hm i hi => HN.out m hm hm i hi)
      clear HN
      go_upto_region 7 with (fail)
      go_loopw [6] (fun i wq => ∃ k : Nat, i = .int .i64 k ∧ k ≤ xs.length ∧ Hid (∀ m (hm : m < xs.length), m < k → ∀ id ∈ xs[m].frm, ¬ mis xs id = true) ∧ wq = wr) (fun i _ => xs.length - (iof i).toNat)
      case atStart => exact ⟨0, rfl, by omega, Lib.hid (fun m hm h => by omega), rfl⟩
      case round =>
        obtain ⟨k, rfl, hk, HN, rfl⟩ := hrel
        by_cases hlt : k < xs.length
        · obtain ⟨b, off, rfl, -, -, -, c2⟩ := it_at HS.out k hlt
          obtain ⟨A, c, hsh⟩ := (HX.out.2 xs[k] (List.getElem_mem _)).shape
          have hir := (HX.out.2 xs[k] (List.getElem_mem _)).2.2
          have HMS : Hid (∀ id ∈ xs[k].frm, mis xs id = true → miss xs ms = true) := Lib.hid fun id hi h => miss_item (List.getElem_mem _) hi h
          have HNX : Hid ((∀ id ∈ xs[k].frm, ¬ mis xs id = true) → ∀ m (hm : m < xs.length), m < k + 1 → ∀ id ∈ xs[m].frm, ¬ mis xs id = true) := Lib.hid fun h m hm hmk => by
            by_cases e : m = k
            · subst e; exact h
            · exact HN.out m hm (by omega)
          clear HN
          rw [hsh] at c2 hir
          have hlen : xs[k].frm.length ≤ 9223372036854775807 := by
            obtain ⟨_, _, _, h, -⟩ := hir
            exact h
          generalize xs[k].frm = frm at *
          clear hsh
          go_upto_region 10 with (fail)
          go_loopw [7] (fun i wq => ∃ a : Nat, i = .int .i64 a ∧ a ≤ frm.length ∧ Hid (∀ id ∈ frm.take a, ¬ mis xs id = true) ∧ wq = wr) (fun i _ => frm.length - (iof i).toNat)
          case atStart => exact ⟨0, rfl, by omega, Lib.hid (by simp), rfl⟩
          case round =>
            obtain ⟨a, rfl, ha, HA, rfl⟩ := hrel
            by_cases hal : a < frm.length
            · have htk : frm.take (a + 1) = frm.take a ++ [frm[a]] := List.take_succ_eq_append_getElem hal
              have HTK := Lib.hid htk; clear htk
              have hin : frm[a] ∈ frm := List.getElem_mem _
              obtain ⟨A', c', e1, -, -, hcell⟩ := hir
              injection e1 with e1 e2 e3
              subst e1 e3
              obtain ⟨qb, qo, rfl, hc⟩ := hcell.resolve_left (by intro e; rw [e] at hal; simp at hal)
              have cq := hc a hal
              have HIN := Lib.hid hin
              clear hc hcell e2 hin
              generalize frm[a] = id at *
              go_wp2_with (go_at_call 28; go_loud (with_reducible refine (find_any _ xs _ _ HS.out).mono ?_); rintro e w9 ⟨z, rfl, hz, rfl⟩; have hzk := hz.neg; have HZ := Lib.hid hzk; clear hz hzk)
              · have hne : z < 0 := by assumption
                go_ret
                exact ⟨by rw [wrg_miss HD.out (HMS.out _ HIN.out (HZ.out.1 hne))]; rfl, rfl⟩
              · have hne : ¬ z < 0 := by omega
                refine ⟨⟨a + 1, by simp, by omega, Lib.hid ?_, trivial⟩, by simp; omega⟩
                rw [HTK.out]
                intro id' h
                rcases List.mem_append.1 h with h | h
                · exact HA.out id' h
                · rw [List.mem_singleton] at h
                  subst h
                  exact fun h => hne (HZ.out.2 h)
            · obtain rfl : a = frm.length := by omega
              rw [List.take_length] at HA
              go_wp2_with (fail)
              exact ⟨⟨k + 1, by simp, by omega, Lib.hid (HNX.out HA.out), trivial⟩, by simp; omega⟩
        · obtain rfl : k = xs.length := by omega
          have HI := Lib.hid (fun (x : It) (hx : x ∈ xs) => by obtain ⟨m, hm, rfl⟩ := List.getElem_of_mem hx; exact HN.out m hm hm : ∀ x ∈ xs, ∀ id ∈ x.frm, ¬ mis xs id = true)
          clear HN
          go_upto_region 15 with (fail)
          go_loopw [8] (fun i wq => ∃ k : Nat, i = .int .i64 k ∧ k ≤ ms.length ∧ Hid (∀ m (hm : m < ms.length), m < k → ∀ id ∈ ms[m].its, ¬ mis xs id = true) ∧ wq = wr) (fun i _ => ms.length - (iof i).toNat)
          case atStart => exact ⟨0, rfl, by omega, Lib.hid (fun m hm h => by omega), rfl⟩
          case round =>
            obtain ⟨k, rfl, hk, HN, rfl⟩ := hrel
            by_cases hlt : k < ms.length
            · obtain ⟨b, off, rfl, -, -, -, -, c2⟩ := ms_at HM.out.1 k hlt
              obtain ⟨A, c, hsh⟩ := (HM.out.2 ms[k] (List.getElem_mem _)).shape
              have hir := (HM.out.2 ms[k] (List.getElem_mem _)).2.2.2
              have HMS : Hid (∀ id ∈ ms[k].its, mis xs id = true → miss xs ms = true) := Lib.hid fun id hi h => miss_msg (List.getElem_mem _) hi h
              have HNX : Hid ((∀ id ∈ ms[k].its, ¬ mis xs id = true) → ∀ m (hm : m < ms.length), m < k + 1 → ∀ id ∈ ms[m].its, ¬ mis xs id = true) := Lib.hid fun h m hm hmk => by
                by_cases e : m = k
                · subst e; exact h
                · exact HN.out m hm (by omega)
              clear HN
              rw [hsh] at c2 hir
              have hlen : ms[k].its.length ≤ 9223372036854775807 := by
                obtain ⟨_, _, _, h, -⟩ := hir
                exact h
              generalize ms[k].its = frm at *
              clear hsh
              go_upto_region 18 with (fail)
              go_loopw [9] (fun i wq => ∃ a : Nat, i = .int .i64 a ∧ a ≤ frm.length ∧ Hid (∀ id ∈ frm.take a, ¬ mis xs id = true) ∧ wq = wr) (fun i _ => frm.length - (iof i).toNat)
              case atStart => exact ⟨0, rfl, by omega, Lib.hid (by simp), rfl⟩
              case round =>
                obtain ⟨a, rfl, ha, HA, rfl⟩ := hrel
                by_cases hal : a < frm.length
                · have htk : frm.take (a + 1) = frm.take a ++ [frm[a]] := List.take_succ_eq_append_getElem hal
                  have HTK := Lib.hid htk; clear htk
                  have hin : frm[a] ∈ frm := List.getElem_mem _
                  obtain ⟨A', c', e1, -, -, hcell⟩ := hir
                  injection e1 with e1 e2 e3
                  subst e1 e3
                  obtain ⟨qb, qo, rfl, hc⟩ := hcell.resolve_left (by intro e; rw [e] at hal; simp at hal)
                  have cq := hc a hal
                  have HIN := Lib.hid hin
                  clear hc hcell e2 hin
                  generalize frm[a] = id at *
                  go_wp2_with (go_at_call 28; go_loud (with_reducible refine (find_any _ xs _ _ HS.out).mono ?_); rintro e w9 ⟨z, rfl, hz, rfl⟩; have hzk := hz.neg; have HZ := Lib.hid hzk; clear hz hzk)
                  · have hne : z < 0 := by assumption
                    go_ret
                    exact ⟨by rw [wrg_miss HD.out (HMS.out _ HIN.out (HZ.out.1 hne))]; rfl, rfl⟩
                  · have hne : ¬ z < 0 := by omega
                    refine ⟨⟨a + 1, by simp, by omega, Lib.hid ?_, trivial⟩, by simp; omega⟩
                    rw [HTK.out]
                    intro id' h
                    rcases List.mem_append.1 h with h | h
                    · exact HA.out id' h
                    · rw [List.mem_singleton] at h
                      subst h
                      exact fun h => hne (HZ.out.2 h)
                · obtain rfl : a = frm.length := by omega
                  rw [List.take_length] at HA
                  go_wp2_with (fail)
                  exact ⟨⟨k + 1, by simp, by omega, Lib.hid (HNX.out HA.out), trivial⟩, by simp; omega⟩
            · obtain rfl : k = ms.length := by omega
              have HJ := Lib.hid (fun (x : Ms) (hx : x ∈ ms) => by obtain ⟨m, hm, rfl⟩ := List.getElem_of_mem hx; exact HN.out m hm hm : ∀ x ∈ ms, ∀ id ∈ x.its, ¬ mis xs id = true)
              go_wp2_with (fail)
              go_ret
              exact ⟨by rw [wrg_none HD.out (miss_not HI.out HJ.out)]; rfl, rfl⟩

end Go.Proofs.Ythdhlocoiipbaaa
