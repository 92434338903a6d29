/-
  InterestLoads walked. Conditions: the arguments are opened.
-/
import Derived.Test.YtlekdhhgjhakgaaLwC
import Derived.Test.YtlekdhhgjhakgaaLoW
import Derived.Test.YtlekdhhgjhakgaaMkF
import Derived.Test.YtlekdhhgjhakgaaMkD
namespace Go.Proofs.Ytlekdhhgjhakgaa
set_option linter.unusedVariables false
set_option linter.unusedSimpArgs false
open Go.RowKit
theorem nxV_bd (ns : List Int) (pos : Nat) {n : Int} (hn : 0 < n) : 0 ≤ nxV ns pos n ∧ nxV ns pos n < n := by
  unfold nxV
  split
  · exact modZ_bd _ hn
  · omega
theorem pIt_ids (ns : List Int) : ∀ (k : Nat) (st : List Pe × Nat), ∀ p ∈ (itF (pStep ns) st k).1, p ∈ st.1 ∨ (1 ≤ p.id ∧ p.id ≤ 6)
  | 0, _, _, h => .inl h
  | k + 1, st, p, h => by
    have IH := pIt_ids ns k st p
    have h : p ∈ (pStep ns (itF (pStep ns) st k)).1 := h
    generalize itF (pStep ns) st k = q at *
    unfold pStep at h
    rcases List.mem_append.1 h with h | h
    · exact IH h
    · rw [List.mem_singleton] at h
      subst h
      have := nxV_bd ns q.2 (show (0 : Int) < 6 by decide)
      exact .inr ⟨by simp only; omega, by simp only; omega⟩
theorem madS_ids (ns : List Int) : ∀ x ∈ asrF (madS ns).ps, 1 ≤ x ∧ x ≤ 6 := by
  intro x hx
  have h1 := role_asr.1 hx
  unfold roleF at h1
  split at h1
  · rename_i p hp
    have h2 := List.mem_of_find?_eq_some hp
    have h3 : p.id = x := by simpa using List.find?_some hp
    subst h3
    unfold madS at h2
    rcases List.mem_append.1 h2 with h2 | h2
    · rcases pIt_ids ns _ _ p h2 with h4 | h4
      · cases h4
      · exact h4
    · rcases List.mem_cons.1 h2 with rfl | h2
      · exact absurd h1 (by decide)
      · rw [List.mem_singleton] at h2
        subst h2
        exact absurd h1 (by decide)
  · exact absurd h1 (by decide)
theorem bStep_len : ∀ (L l : List Int), (L.foldl bStep l).length ≤ l.length + L.length
  | [], l => by simp
  | z :: L, l => by
    rw [List.foldl_cons]
    have h1 := bStep_len L (bStep l z)
    have h2 : (bStep l z).length ≤ l.length + 1 := by unfold bStep; split <;> simp
    rw [List.length_cons]
    omega
theorem bidL_len (ns : List Int) : (bidL ns).length ≤ ns.length := by
  unfold bidL
  have h1 := bStep_len (ns.take 5) []
  have h2 : (ns.take 5).length ≤ ns.length := by rw [List.length_take]; omega
  rw [List.length_nil] at h1
  omega
theorem asg_most {s : Su} {bs : List Int} {n : Nat} (h : openE s bs n = 0) : mostF ((asgL s bs n).map (·.1)) = ldF s bs n := by
  unfold asgL
  rw [if_pos h]
  exact most_asg (ldF_least h)
set_option maxRecDepth 100000 in
set_option maxHeartbeats 8000000 in
theorem loads_walk (A0 A1 : Option Addr) (n0 n1 : Nat) (xs ys : List Int) (x : Bool) (W : World) (h0 : IRd W (.slice A0 xs.length n0) xs) (h1 : IRd W (.slice A1 ys.length n1) ys) (k1 : ys.length ≤ n1) :
    Calls Try.prog 6 #[.slice A0 xs.length n0, .slice A1 ys.length n1, .bool x] W fun e W' => e = .returned (.bool true) ∧ Ext W W' := by
  obtain ⟨m, hm⟩ : ∃ m : Nat, m = min ys.length 3 := ⟨_, rfl⟩
  have hmi : min (ys.length : Int) 3 = (m : Int) := by omega
  have hm3 : m ≤ 3 := by omega
  have hml : m ≤ ys.length := by omega
  have hmn : m ≤ n1 := by omega
  have hmn2 : (m : Int) ≤ (n1 : Int) := by omega
  have hl1 : ys.length ≤ 9223372036854775807 := by obtain ⟨_, _, e, h, -⟩ := id h1; exact h
  have htl : (ys.take m).length = m := by rw [List.length_take]; omega
  have H0 := Lib.hid h0
  have H1 := Lib.hid (fun c' => ird_take h1 m hml c')
  have HTL := Lib.hid htl
  clear h0 h1 hm htl
  go_enter Try.func6, Try.ntmps6
  go_upto_region 2 with (go_at_call 11; (with_reducible refine (sanity_any _).mono ?_); rintro e w1 ⟨rfl, hx1⟩)
  have HX1 := Lib.hid hx1
  have HM1 := Lib.hid (MadeF_any _ xs w1 (H0.out.ext hx1))
  clear hx1
  have HID := Lib.hid (madS_ids xs)
  generalize madS xs = s at *
  go_upto_region 3 with (go_at_call 12; (with_reducible refine HM1.out.mono ?_); rintro e w2 ⟨c0, c1, c2, c3, c4, c5, rfl, hos, hx2, hms⟩; obtain ⟨a0, p0, z1, a2, p2, a3, p3, z4, z5, rfl, rfl, rfl, rfl, rfl, rfl⟩ := hos.form)
  have HX2 : Hid (Ext W w2) := Lib.hid (HX1.out.trans hx2)
  have HS := Lib.hid (hos.box hx2)
  clear hos hms hx2 HM1
  obtain ⟨D, hD⟩ : ∃ D, D = w2.heap.size := ⟨_, rfl⟩
  obtain ⟨va, hva⟩ : ∃ va, va = Value.slice a0 s.ps.length p0 := ⟨_, rfl⟩
  obtain ⟨vb, hvb⟩ : ∃ vb, vb = Value.slice a2 s.hs.length p2 := ⟨_, rfl⟩
  obtain ⟨vc, hvc⟩ : ∃ vc, vc = Value.slice a3 s.rs.length p3 := ⟨_, rfl⟩
  rw [← hD, ← hva, ← hvb, ← hvc] at HS ⊢
  clear hD hva hvb hvc
  generalize w2.alloc (.cells #[va, .int .i64 z1, vb, vc, .int .i64 z4, .int .i64 z5] 28) = w3 at *
  have HX3 : Hid (Ext W w3) := Lib.hid (HX1.out.trans HS.out.low)
  have HBD : Hid (∀ wz c', Ext w3 wz → Calls Try.prog 18 #[.slice A1 m c'] wz fun e w' => ∃ v', e = .returned v' ∧ w'.ownsRow wz.heap.size 3 1 v' (bidL (ys.take m)).length ((bidL (ys.take m)).flatMap celI) ∧ Ext wz w' ∧ BdL (bidL (ys.take m)) 5) := Lib.hid fun wz c' hz => BidF_any _ _ wz ((H1.out c').ext (HX3.out.trans hz))
  have HBL : Hid ((bidL (ys.take m)).length ≤ 3) := Lib.hid (by have := bidL_len (ys.take m); rw [HTL.out] at this; omega)
  generalize bidL (ys.take m) = bs at *
  clear HTL H1
  go_upto_region 4 with (go_at_call 18; (with_reducible refine (HBD.out _ _ (by with_reducible repeat (first | exact Ext.refl _ | assumption | apply Ext.drewN | apply Ext.drew | apply Ext.alloc | (refine Ext.setCell ?_ (by simp <;> omega) _) | (refine Ext.trans ?_ (by assumption))))).mono ?_); rintro e w4 ⟨bv, rfl, hrb, hx4, hbl⟩; obtain ⟨bA, bc, rfl, hbc, -, -⟩ := row_formI hrb)
  have hb3 := HBL.out
  have HBO := Lib.hid hbl.ok
  have HBN := Lib.hid hbl.nd
  have HIB := Lib.hid (ird_row hrb hbl.ok (by omega))
  have HXE : Hid (Ext w3 w4) := Lib.hid (by with_reducible repeat (first | exact Ext.refl _ | assumption | apply Ext.drewN | apply Ext.drew | apply Ext.alloc | (refine Ext.setCell ?_ (by simp <;> omega) _) | (refine Ext.trans ?_ (by assumption))))
  have HS4 := Lib.hid (HS.out.ext HXE.out)
  have HX4 : Hid (Ext W w4) := Lib.hid (HX3.out.trans HXE.out)
  clear hrb hx4 hbl HBD HS HX3 HX2 HX1 HXE HBL
  have HSS : Hid (∀ wz, Ext w4 wz → wz.cell? ⟨D, 0, none⟩ = some va ∧ wz.cell? ⟨D, 1, none⟩ = some (.int .i64 z1) ∧ wz.cell? ⟨D, 2, none⟩ = some vb ∧ wz.cell? ⟨D, 3, none⟩ = some vc ∧ wz.cell? ⟨D, 4, none⟩ = some (.int .i64 z4) ∧ wz.cell? ⟨D, 5, none⟩ = some (.int .i64 z5)) := Lib.hid fun wz hz => (HS4.out.ext hz).c
  have HSU := Lib.hid HS4.out.os.su
  clear HS4
  cases x with
  | false =>
    by_cases hb0 : bs.length = 0
    · have hbz : ((bs.length : Nat) : Int) = 0 := by omega
      go_wp2_with (fail)
      go_ret
      exact ⟨rfl, HX4.out⟩
    · have hbz : ¬ ((bs.length : Nat) : Int) = 0 := by omega
      have HR : Hid (rightF bs (1 : Nat) = true) := Lib.hid (by
        unfold rightF
        rw [decide_eq_true (show 0 < bs.length by omega), decide_eq_true (show bs.length ≤ 40 by omega), decide_eq_true HBN.out, decide_eq_true (show (0 : Int) < ((1 : Nat) : Int) by decide), decide_eq_true (show ((1 : Nat) : Int) ≤ 13 by decide)]
        rfl)
      have HLE := Lib.hid (leaF_eq HID.out HR.out hb3)
      have HA := Lib.hid (fun wz (hz : Ext w4 wz) => assign_all _ _ _ _ _ _ _ s bs (1 : Int) wz (HSU.out.ext hz) (HIB.out.ext hz) (by omega))
      have HLA := Lib.hid (fun wz (hz : Ext w4 wz) => least_any _ _ _ _ _ _ s (1 : Nat) (by decide) bs [] bA bc (.slice none 0 0) wz (HSU.out.ext hz) (HIB.out.ext hz) hbc ⟨none, 0, rfl, by decide, .inl rfl⟩ (by simp; omega))
      rw [show ((1 : Nat) : Int) = 1 from rfl] at HLE HLA
      obtain ⟨s0, s1, s2, s3, s4, s5⟩ := HSS.out w4 (Ext.refl _)
      go_upto_region 10 with (first | (go_at_call 19; (with_reducible refine (HA.out w4 (Ext.refl _)).mono ?_); rintro e w5 ⟨av, rfl, hx5, hra⟩))
      clear s0 s1 s2 s3 s4 s5
      obtain ⟨s0, s1, s2, s3, s4, s5⟩ := HSS.out w5 hx5
      have HX5 := Lib.hid hx5
      have HSA := Lib.hid (sr_row hra (by have := (asgL_len (s := s) (bs := bs) (each := (1 : Int))).1; omega))
      clear hra hx5
      go_upto_region 11 with (first | (go_at_call 20; (with_reducible refine (HLA.out w5 HX5.out).mono ?_); rintro e w6 ⟨rfl, hx6⟩))
      have HX6 := Lib.hid (HX5.out.trans hx6)
      have HLD := Lib.hid (loads_any _ _ w6 (HSA.out.ext hx6))
      clear hx6 HSA HA HLA s0 s1 s2 s3 s4 s5
      by_cases hop : openE s bs (1 : Int) = 0
      · obtain ⟨h51, h52⟩ := HLE.out.1 hop
        have HMO : mostF ((asgL s bs (1 : Int)).map (·.1)) = ldF s bs (1 : Int) := asg_most (n := 1) hop
        rw [HMO] at HLD
        rw [hop]
        rw [h51] at h52 ⊢
        have h6 : (ldF s bs (1 : Int) : Int) < 100 := by omega
        clear h51 h52 hop HLE HMO
        generalize ldF s bs (1 : Int) = lf at *
        go_wp2_with (first | (go_at_call 21; (with_reducible refine HLD.out.mono ?_); rintro e w7 ⟨rfl, hx7⟩))
        go_ret
        exact ⟨by simp, HX4.out.trans (HX6.out.trans hx7)⟩
      · rw [HLE.out.2 hop]
        clear HLE
        generalize openE s bs (1 : Int) = er at *
        go_wp2_with (fail)
        go_ret
        exact ⟨by simpa using hop, HX4.out.trans HX6.out⟩
  | true =>
    by_cases hb0 : bs.length = 0
    · have hbz : ((bs.length : Nat) : Int) = 0 := by omega
      go_wp2_with (fail)
      go_ret
      exact ⟨rfl, HX4.out⟩
    · have hbz : ¬ ((bs.length : Nat) : Int) = 0 := by omega
      have HR : Hid (rightF bs (2 : Nat) = true) := Lib.hid (by
        unfold rightF
        rw [decide_eq_true (show 0 < bs.length by omega), decide_eq_true (show bs.length ≤ 40 by omega), decide_eq_true HBN.out, decide_eq_true (show (0 : Int) < ((2 : Nat) : Int) by decide), decide_eq_true (show ((2 : Nat) : Int) ≤ 13 by decide)]
        rfl)
      have HLE := Lib.hid (leaF_eq HID.out HR.out hb3)
      have HA := Lib.hid (fun wz (hz : Ext w4 wz) => assign_all _ _ _ _ _ _ _ s bs (2 : Int) wz (HSU.out.ext hz) (HIB.out.ext hz) (by omega))
      have HLA := Lib.hid (fun wz (hz : Ext w4 wz) => least_any _ _ _ _ _ _ s (2 : Nat) (by decide) bs [] bA bc (.slice none 0 0) wz (HSU.out.ext hz) (HIB.out.ext hz) hbc ⟨none, 0, rfl, by decide, .inl rfl⟩ (by simp; omega))
      rw [show ((2 : Nat) : Int) = 2 from rfl] at HLE HLA
      obtain ⟨s0, s1, s2, s3, s4, s5⟩ := HSS.out w4 (Ext.refl _)
      go_upto_region 10 with (first | (go_at_call 19; (with_reducible refine (HA.out w4 (Ext.refl _)).mono ?_); rintro e w5 ⟨av, rfl, hx5, hra⟩))
      clear s0 s1 s2 s3 s4 s5
      obtain ⟨s0, s1, s2, s3, s4, s5⟩ := HSS.out w5 hx5
      have HX5 := Lib.hid hx5
      have HSA := Lib.hid (sr_row hra (by have := (asgL_len (s := s) (bs := bs) (each := (2 : Int))).1; omega))
      clear hra hx5
      go_upto_region 11 with (first | (go_at_call 20; (with_reducible refine (HLA.out w5 HX5.out).mono ?_); rintro e w6 ⟨rfl, hx6⟩))
      have HX6 := Lib.hid (HX5.out.trans hx6)
      have HLD := Lib.hid (loads_any _ _ w6 (HSA.out.ext hx6))
      clear hx6 HSA HA HLA s0 s1 s2 s3 s4 s5
      by_cases hop : openE s bs (2 : Int) = 0
      · obtain ⟨h51, h52⟩ := HLE.out.1 hop
        have HMO : mostF ((asgL s bs (2 : Int)).map (·.1)) = ldF s bs (2 : Int) := asg_most (n := 2) hop
        rw [HMO] at HLD
        rw [hop]
        rw [h51] at h52 ⊢
        have h6 : (ldF s bs (2 : Int) : Int) < 100 := by omega
        clear h51 h52 hop HLE HMO
        generalize ldF s bs (2 : Int) = lf at *
        go_wp2_with (first | (go_at_call 21; (with_reducible refine HLD.out.mono ?_); rintro e w7 ⟨rfl, hx7⟩))
        go_ret
        exact ⟨by simp, HX4.out.trans (HX6.out.trans hx7)⟩
      · rw [HLE.out.2 hop]
        clear HLE
        generalize openE s bs (2 : Int) = er at *
        go_wp2_with (fail)
        go_ret
        exact ⟨by simpa using hop, HX4.out.trans HX6.out⟩
end Go.Proofs.Ytlekdhhgjhakgaa
