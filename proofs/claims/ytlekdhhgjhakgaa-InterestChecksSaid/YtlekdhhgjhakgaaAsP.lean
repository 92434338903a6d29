/-
  What Assign and the reference's Assign return, said once for both. Conditions: a setup and the bidders lie in memory.
-/
import Derived.Test.YtlekdhhgjhakgaaRiN
import Derived.Test.YtlekdhhgjhakgaaJnE
namespace Go.Proofs.Ytlekdhhgjhakgaa
set_option linter.unusedVariables false
set_option linter.unusedSimpArgs false
open Go.RowKit
theorem ld_ex {s : Su} {bs : List Int} {each : Int} (h : openE s bs each = 0) : ∃ L, L ≤ bs.length ∧ Least (mayL s bs) (asrF s.ps).length each.toNat L := by
  have h1 := (right_facts (open_right h)).2.2.2.1
  obtain ⟨e, rfl⟩ := Int.eq_ofNat_of_zero_le (Int.le_of_lt h1)
  exact open_least h
open Classical in
/-- The least load. -/
noncomputable def ldF (s : Su) (bs : List Int) (each : Int) : Nat := if h : openE s bs each = 0 then (ld_ex h).choose else 0
theorem ldF_least {s : Su} {bs : List Int} {each : Int} (h : openE s bs each = 0) : Least (mayL s bs) (asrF s.ps).length each.toNat (ldF s bs each) := by
  unfold ldF
  rw [dif_pos h]
  exact (ld_ex h).choose_spec.2
theorem ldF_le {s : Su} {bs : List Int} {each : Int} (h : openE s bs each = 0) : ldF s bs each ≤ bs.length := by
  unfold ldF
  rw [dif_pos h]
  exact (ld_ex h).choose_spec.1
/-- The duties that Assign returns. -/
noncomputable def asgL (s : Su) (bs : List Int) (each : Int) : List (Int × Int) := if openE s bs each = 0 then asgF s bs each.toNat (ldF s bs each) else []
theorem asgL_len {s : Su} {bs : List Int} {each : Int} : (asgL s bs each).length ≤ 520 ∧ (openE s bs each = 0 → ((asgL s bs each).length : Int) = each * bs.length) := by
  unfold asgL
  by_cases h : openE s bs each = 0
  · rw [if_pos h, asg_len (ldF_least h)]
    obtain ⟨h1, h2, h3, h4, h5⟩ := right_facts (open_right h)
    have h6 : each.toNat * bs.length ≤ 13 * 40 := Nat.mul_le_mul (by omega) h2
    refine ⟨h6, fun _ => ?_⟩
    rw [Int.natCast_mul, Int.toNat_of_nonneg (by omega)]
  · rw [if_neg h]
    exact ⟨by simp, fun h2 => absurd h2 h⟩
theorem asgL_mem {s : Su} {bs : List Int} {each : Int} {d : Int × Int} (hd : d ∈ asgL s bs each) : openE s bs each = 0 ∧ d.1 ∈ asrF s.ps ∧ d.2 ∈ bs := by
  unfold asgL at hd
  by_cases h : openE s bs each = 0
  · rw [if_pos h] at hd
    have hL := ldF_least h
    unfold asgF at hd
    obtain ⟨o, h1, h2, k, hk, rfl⟩ := dutF_mem hd
    have h3 := ((picks_all hL).1.mem (mayL_ok s bs) (List.getElem_mem h2)).2.2 k hk
    exact ⟨h, by simp only; rw [getD_at h3]; exact List.getElem_mem _, List.getElem_mem _⟩
  · rw [if_neg h] at hd
    cases hd
theorem asr_ok {s : Su} (h : s.ok) : ∀ x ∈ asrF s.ps, OkI x := fun x hx => by
  obtain ⟨-, p, hp, rfl⟩ := asrF_mem.1 hx
  exact (h.ps p hp).1
theorem asgL_ok {s : Su} {bs : List Int} {each : Int} (h : s.ok) (hb : ∀ x ∈ bs, OkI x) : ∀ d ∈ asgL s bs each, OkD d := fun d hd => by
  obtain ⟨-, h1, h2⟩ := asgL_mem hd
  exact ⟨asr_ok h _ h1, hb _ h2⟩
theorem asgL_chk (s : Su) (bs : List Int) (each : Int) : chkF s bs each (ldF s bs each) (asgL s bs each) = decide (openE s bs each = 0) := by
  by_cases h : openE s bs each = 0
  · obtain ⟨e, rfl⟩ := Int.eq_ofNat_of_zero_le (Int.le_of_lt (right_facts (open_right h)).2.2.2.1)
    rw [decide_eq_true h]
    unfold asgL
    rw [if_pos h]
    exact chk_asg h (ldF_least h)
  · rw [decide_eq_false h]
    exact chk_open h
theorem assign_all (c0 c1 c2 c3 c4 c5 bv : Value) (s : Su) (bs : List Int) (each : Int) (w : World) (h : SuV w c0 c1 c2 c3 c4 c5 s) (hbs : IRd w bv bs) (hn : bs.length ≤ 1000000) :
    Calls Try.prog 19 #[.agg #[c0, c1, c2, c3, c4, c5], bv, .int .i64 each] w fun e w' => ∃ v, e = .returned (.tuple #[v, .int .i64 (openE s bs each)]) ∧ Ext w w' ∧ w'.ownsRow w.heap.size 56 2 v (asgL s bs each).length ((asgL s bs each).flatMap reC) :=
  (Assign_any c0 c1 c2 c3 c4 c5 bv s bs each w h hbs hn).mono fun e w' ⟨v, h1, h2, h3, h4⟩ => ⟨v, h1, h2, by
    unfold asgL
    by_cases h : openE s bs each = 0
    · obtain ⟨L, hL, hr⟩ := h3 h
      rw [if_pos h, (ldF_least h).uniq hL]
      exact hr
    · rw [if_neg h, h4 h]
      exact ⟨rfl, .inl ⟨rfl, rfl⟩⟩⟩
theorem rassign_all (c0 c1 c2 c3 c4 c5 : Value) (A : Option Addr) (cap : Nat) (s : Su) (bs : List Int) (each : Int) (w : World) (h : SuV w c0 c1 c2 c3 c4 c5 s) (hbs : IRd w (.slice A bs.length cap) bs) (hcap : bs.length ≤ cap) :
    Calls Try.prog 22 #[.agg #[c0, c1, c2, c3, c4, c5], .slice A bs.length cap, .int .i64 each] w fun e w' => ∃ v, e = .returned (.tuple #[v, .int .i64 (openE s bs each)]) ∧ Ext w w' ∧ w'.ownsRow w.heap.size 56 2 v (asgL s bs each).length ((asgL s bs each).flatMap reC) :=
  (rAssign_any c0 c1 c2 c3 c4 c5 A cap s bs each w h hbs hcap).mono fun e w' ⟨v, h1, h2, h3, h4⟩ => ⟨v, h1, h2, by
    unfold asgL
    by_cases h : openE s bs each = 0
    · obtain ⟨L, hL, hr⟩ := h3 h
      rw [if_pos h, (ldF_least h).uniq hL]
      exact hr
    · rw [if_neg h, h4 h]
      exact ⟨rfl, .inl ⟨rfl, rfl⟩⟩⟩
theorem check_all (c0 c1 c2 c3 c4 c5 bv dv : Value) (s : Su) (bs : List Int) (each : Int) (l : List (Int × Int)) (w : World) (h : SuV w c0 c1 c2 c3 c4 c5 s) (hbs : IRd w bv bs) (hn : bs.length ≤ 1000000) (hl : SR reC 2 w dv l) (hok : ∀ d ∈ l, OkD d) (hln : l.length ≤ 1000) :
    Calls Try.prog 24 #[.agg #[c0, c1, c2, c3, c4, c5], bv, .int .i64 each, dv] w fun e w' => e = .returned (.bool (chkF s bs each (ldF s bs each) l)) ∧ Ext w w' :=
  CheckDuties_any c0 c1 c2 c3 c4 c5 bv dv s bs each l _ w h hbs hn hl hok hln fun h => ldF_least h
theorem sr_row {B : Nat} {w : World} {v : Value} {l : List (Int × Int)} (h : w.ownsRow B 56 2 v l.length (l.flatMap reC)) (hl : l.length ≤ 1000000) : SR reC 2 w v l := SR.of_row (cs := reC) (fun _ => rfl) h hl
end Go.Proofs.Ytlekdhhgjhakgaa
