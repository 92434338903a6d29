/-
  The reference's search for one more assessor (find). Conditions: the plan lies in memory.
-/
import Derived.Test.YtlekdhhgjhakgaaRiG
import Derived.Deep.RegionHeld3
namespace Go.Proofs.Ytlekdhhgjhakgaa
set_option linter.unusedVariables false
set_option linter.unusedSimpArgs false
open Go.RowKit
theorem unsn_leR {A B : Nat → Bool} {m : Nat} (h : ∀ j, A j = true → B j = true) : unsn B m ≤ unsn A m := sm_le fun j _ => by
  cases hA : A j
  · exact Bool.toNat_le _
  · rw [h j hA]; exact Nat.le_refl _
set_option maxRecDepth 100000 in
set_option maxHeartbeats 8000000 in
theorem rfind_any (C : PC) (hC : C.ok) :
    ∀ (N : Nat) (S : Nat → Bool) (D : Nat → Nat → Bool) (sb b : Nat) (W : World), unsn S C.m < N → PT C W sb D S → (∀ k, k < C.m → cnt D C.n k ≤ C.L) → C.f ≤ b → b < C.n →
      Calls Try.prog 63 #[.pointer (some ⟨C.p, 0, none⟩), .int .i64 b, .int .i64 C.f, .slice (some ⟨sb, 0, none⟩) C.m C.m] W fun e W' =>
        ∃ res E T, e = .returned (.bool res) ∧ PT C W' sb E T ∧ Fnd C.B C.n C.m C.L C.f b D S E T res := by
  intro N
  induction N with
  | zero => intro S D sb b W hN; omega
  | succ N ih =>
  intro S D sb b W hN hS hc hf hb
  obtain ⟨mg, mc, mr, mrc, hmv, hmc, hrow, hmrc, hel⟩ := hC.may.at hb
  have HROW := Lib.hid hrow; have HEL := Lib.hid hel; have HS := Lib.hid hS; have HCN := Lib.hid hc; have HC := Lib.hid hC; have HN := Lib.hid hN
  have hm1 := hC.m
  have hn1 := hC.n
  have hL1 := hC.L
  have hfn := hC.f
  have HMV : Hid (∀ wz (D : Nat → Nat → Bool), PS C wz D → wz.cell? ⟨C.p, 0, none⟩ = some (.slice (some ⟨mg, 0, none⟩) C.n mc) ∧ wz.cell? ⟨mg, b, none⟩ = some (.slice (some ⟨mr, 0, none⟩) C.m mrc)) := Lib.hid fun wz D hz => ⟨by rw [hz.c.1, hmv], (hz.low.cells.1 _ _ (World.block_lt_of_cell? _ _ hrow)).trans hrow⟩
  clear hel hS hc hC hrow hmv hN
  go_enter Try.func63, Try.ntmps63
  go_upto_region 2 with (fail)
  go_loopw [9] (fun kv wr => ∃ (k : Nat) (U : Nat → Bool), kv = .int .i64 k ∧ k ≤ C.m ∧ Hid (PT C wr sb D U) ∧ Hid (Run C.B C.n C.m C.L C.f D S U none) ∧ Hid (∀ x, x < k → C.B b x = true → U x = true ∨ D b x = true)) (fun kv _ => C.m - (iof kv).toNat)
  case atStart => exact ⟨0, S, rfl, by omega, HS, Lib.hid (Run.start _ _ _ _ _ _ _), Lib.hid (fun x hx => by omega)⟩
  case round =>
    obtain ⟨k, U, rfl, hk, HF, HRN, HDN⟩ := hrel
    clear HS
    by_cases hkm : k < C.m
    · obtain ⟨p0, m0⟩ := HMV.out wr D HF.out.ps
      have m1 := (HF.out.ps.low.cells.1 _ _ (World.block_lt_of_cell? _ _ (HEL.out k hkm))).trans (HEL.out k hkm)
      obtain ⟨-, p1, p2⟩ := HF.out.ps.c
      have d1 := HF.out.ps.d hb
      obtain ⟨r1, -⟩ := HF.out.ps.r hb hkm
      have s1 := tab_cell HF.out.seen hkm
      have s1f := tab_frozen (o := k) HF.out.seen
      cases hB : C.B b k with
      | false =>
        rw [hB] at m1
        have HB0 := Lib.hid hB
        clear hB
        go_wp2_with (fail)
        exact ⟨⟨k + 1, U, by simp, by omega, HF, HRN, Lib.hid (fun x hx hB => by
          by_cases e : x = k
          · subst e; rw [HB0.out] at hB; cases hB
          · exact HDN.out x (by omega) hB)⟩, by simp [iof]; omega⟩
      | true =>
      rw [hB] at m1
      have HBT := Lib.hid hB
      clear hB
      cases hD : D b k with
      | true =>
        rw [hD] at r1
        have HDT := Lib.hid hD
        clear hD
        go_wp2_with (fail)
        exact ⟨⟨k + 1, U, by simp, by omega, HF, HRN, Lib.hid (fun x hx hB => by
          by_cases e : x = k
          · subst e; exact .inr HDT.out
          · exact HDN.out x (by omega) hB)⟩, by simp [iof]; omega⟩
      | false =>
      rw [hD] at r1
      have HDT := Lib.hid hD
      clear hD
      cases hU : U k with
      | true =>
        rw [hU] at s1
        have HUT := Lib.hid hU
        clear hU
        go_wp2_with (fail)
        exact ⟨⟨k + 1, U, by simp, by omega, HF, HRN, Lib.hid (fun x hx hB => by
          by_cases e : x = k
          · subst e; exact .inl HUT.out
          · exact HDN.out x (by omega) hB)⟩, by simp [iof]; omega⟩
      | false =>
      rw [hU] at s1
      have HF5 := Lib.hid (HF.out.look k)
      have HR5 := Lib.hid (HRN.out.look k)
      have HUS : Hid (unsn (seen U k) C.m < N) := Lib.hid (by have := unsn_lt HRN.out.mono hkm hU; have := HN.out; omega)
      go_upto_region 6 with (fail)
      clear HF p0 p1 p2 m0 m1 d1 r1 s1 s1f
      generalize wr.setCell ⟨sb, k, none⟩ (.bool true) = W5 at *
      have HDU := Lib.hid (fun wz (hz : Ext W5 wz) => duties_any62 C HC.out D wz (HF5.out.ps.ext hz) k hkm)
      have HP2 : Hid (∀ wz, Ext W5 wz → wz.cell? ⟨C.p, 2, none⟩ = some (.int .i64 C.L)) := Lib.hid fun wz hz => (HF5.out.ps.ext hz).c.2.2
      have q2 := HP2.out W5 (Ext.refl _)
      have HQK : Hid (cnt D C.n k ≤ C.L) := Lib.hid (HCN.out k hkm)
      obtain ⟨q, hq⟩ : ∃ q, q = cnt D C.n k := ⟨_, rfl⟩
      rw [← hq] at HDU HQK
      have HQ := Lib.hid hq
      clear hq
      go_region_held3 (fun w' => w'.cell? ⟨C.p, 2, none⟩ = some (.int .i64 C.L)) (first | exact HP2.out _ (by with_reducible repeat (first | exact Ext.refl _ | assumption | apply Ext.drewN | apply Ext.drew | apply Ext.alloc | (refine Ext.setCell ?_ (by simp <;> omega) _) | (refine Ext.trans ?_ (by assumption)))) | go_keep)
        (first | (go_at_call 62; (with_reducible refine (HDU.out _ (by with_reducible repeat (first | exact Ext.refl _ | assumption | apply Ext.drewN | apply Ext.drew | apply Ext.alloc | (refine Ext.setCell ?_ (by simp <;> omega) _) | (refine Ext.trans ?_ (by assumption))))).mono ?_); rintro e w6 ⟨rfl, hx6⟩))
      have HF6 := Lib.hid (HF5.out.ext (show Ext W5 w6 from (by with_reducible repeat (first | exact Ext.refl _ | assumption | apply Ext.drewN | apply Ext.drew | apply Ext.alloc | (refine Ext.setCell ?_ (by simp <;> omega) _) | (refine Ext.trans ?_ (by assumption))))))
      clear HF5 HDU HP2 q2 hx6
      obtain ⟨p0, m0⟩ := HMV.out w6 D HF6.out.ps
      obtain ⟨-, p1, p2⟩ := HF6.out.ps.c
      have d1 := HF6.out.ps.d hb
      obtain ⟨r1, r1f⟩ := HF6.out.ps.r hb hkm
      by_cases hroom : q < C.L
      · have HCL : Hid (cnt D C.n k < C.L) := Lib.hid (by rw [← HQ.out]; exact hroom)
        have HF9 := Lib.hid (HF6.out.put HC.out hb k true)
        have HUT := Lib.hid hU
        clear hU
        go_wp2_with (fail)
        go_ret
        exact ⟨true, putD D b k true, seen U k, rfl, HF9.out, fnd_take HRN.out.mono hkm HUT.out hb hf HDT.out HBT.out HCN.out HCL.out⟩
      · have HCL : Hid (C.L ≤ cnt D C.n k) := Lib.hid (by rw [← HQ.out]; omega)
        have HUk := Lib.hid (seen_at U k)
        have HUV : Hid (∀ j, U j = true → seen U k j = true) := Lib.hid fun j hj => seen_up hj
        have HUT := Lib.hid hU
        clear hU
        generalize seen U k = V at *
        clear p0 m0 p1 p2 d1 r1 r1f
        go_upto_region 10 with (fail)
        rw [show decide (q < C.L) = false from decide_eq_false hroom]
        go_loopw [10] (fun ov wq => ∃ (o : Nat) (T : Nat → Bool), ov = .int .i64 o ∧ C.f ≤ o ∧ o ≤ C.n ∧ Hid (PT C wq sb D T) ∧ Hid (Run C.B C.n C.m C.L C.f D S T (some k)) ∧ Hid (∀ j, V j = true → T j = true) ∧ Hid (∀ p, C.f ≤ p → p < o → D p k = true → Clo C.B C.m D p T)) (fun ov _ => C.n - (iof ov).toNat)
        case atStart => exact ⟨C.f, V, rfl, by omega, hfn, HF6, HR5, Lib.hid fun _ h => h, Lib.hid fun p h1 h2 => by omega⟩
        case round =>
          obtain ⟨o, T, rfl, hfo, hon, HF, HRT, HVT, HCO⟩ := hrel
          clear HF6 HR5
          obtain ⟨-, p1, p2⟩ := HF.out.ps.c
          by_cases hol : o < C.n
          · by_cases hob : o = b
            · subst hob
              go_wp2_with (fail)
              exact ⟨⟨o + 1, T, by simp, by omega, by omega, HF, HRT, HVT, Lib.hid fun p h1 h2 h3 => by
                by_cases e : p = o
                · subst e; rw [HDT.out] at h3; cases h3
                · exact HCO.out p h1 (by omega) h3⟩, by simp [iof]; omega⟩
            · have hob2 : ¬ (o : Int) = (b : Int) := by omega
              have d1 := HF.out.ps.d hol
              obtain ⟨r1, -⟩ := HF.out.ps.r hol hkm
              cases hDo : D o k with
              | false =>
                rw [hDo] at r1
                have HDo := Lib.hid hDo
                clear hDo
                go_wp2_with (fail)
                exact ⟨⟨o + 1, T, by simp, by omega, by omega, HF, HRT, HVT, Lib.hid fun p h1 h2 h3 => by
                  by_cases e : p = o
                  · subst e; rw [HDo.out] at h3; cases h3
                  · exact HCO.out p h1 (by omega) h3⟩, by simp [iof]; omega⟩
              | true =>
                rw [hDo] at r1
                have HDo := Lib.hid hDo
                clear hDo
                have HIH := Lib.hid (ih T D sb o wr (Nat.lt_of_le_of_lt (unsn_leR HVT.out) HUS.out) HF.out HCN.out hfo hol)
                go_upto_region 13 with (go_at_call 63; (with_reducible refine HIH.out.mono ?_); rintro e w7 ⟨res, E, T5, rfl, hF5, hFn⟩; cases res)
                · obtain ⟨rfl, -, -⟩ := hFn.no rfl
                  obtain ⟨r1, r2⟩ := HRT.out.fail hFn
                  go_wp2_with (fail)
                  exact ⟨⟨o + 1, T5, by simp, by omega, by omega, Lib.hid hF5, Lib.hid r1, Lib.hid fun j hj => hFn.mono j (HVT.out j hj), Lib.hid fun p h1 h2 h3 => by
                    by_cases e : p = o
                    · subst e; exact r2
                    · exact (HCO.out p h1 (by omega) h3).mono hFn.mono⟩, by simp [iof]; omega⟩
                · clear p1 p2 d1 r1
                  obtain ⟨-, p1, p2⟩ := hF5.ps.c
                  have d1 := hF5.ps.d hol
                  obtain ⟨r1, r1f⟩ := hF5.ps.r hol hkm
                  have HF6 := Lib.hid (hF5.put HC.out hol k false)
                  have HFN := Lib.hid hFn
                  clear hFn hF5
                  go_upto_region 14 with (fail)
                  clear p1 p2 d1 r1 r1f
                  generalize w7.setCell ⟨C.dr o, k, none⟩ (.bool false) = w8 at *
                  obtain ⟨-, p1, p2⟩ := HF6.out.ps.c
                  have d1 := HF6.out.ps.d hb
                  obtain ⟨r1, r1f⟩ := HF6.out.ps.r hb hkm
                  have HF9 := Lib.hid (HF6.out.put HC.out hb k true)
                  go_wp2_with (fail)
                  go_ret
                  have hSk : S k = false := by
                    cases h : S k
                    · rfl
                    · have := HUT.out; rw [HRN.out.mono k h] at this; cases this
                  exact ⟨true, _, _, rfl, HF9.out, fnd_move (b := b) (k := k) (o := o) HRT.out.mono hkm hSk (HVT.out k HUk.out) hb hf hfo hol hob HDT.out HDo.out HBT.out HFN.out⟩
          · obtain rfl : o = C.n := by omega
            go_wp2_with (fail)
            exact ⟨⟨k + 1, T, by simp, by omega, HF, Lib.hid (HRT.out.next HCL.out fun p h1 h2 h3 => HCO.out p h1 h2 h3), Lib.hid (fun x hx hB => by
              by_cases e : x = k
              · subst e; exact .inl (HVT.out x HUk.out)
              · exact (HDN.out x (by omega) hB).imp (fun h => HVT.out x (HUV.out x h)) id)⟩, by simp [iof]; omega⟩
    · obtain rfl : k = C.m := by omega
      have HX : Hid (Clo C.B C.m D b U) := Lib.hid fun k hk h1 h2 => by
        rcases HDN.out k hk h1 with h | h
        · exact h
        · rw [h2] at h; cases h
      go_wp2_with (fail)
      go_ret
      exact ⟨false, D, U, rfl, HF.out, HRN.out.done_ HX.out⟩
end Go.Proofs.Ytlekdhhgjhakgaa
