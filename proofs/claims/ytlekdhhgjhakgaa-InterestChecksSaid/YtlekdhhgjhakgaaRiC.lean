/-
  The reference's Circle. Conditions: a setup lies in memory.
-/
import Derived.Test.YtlekdhhgjhakgaaRiB
import Derived.Deep.RegionHeld3
namespace Go.Proofs.Ytlekdhhgjhakgaa
set_option linter.unusedVariables false
set_option linter.unusedSimpArgs false
open Go.RowKit
theorem relF_ok {rs : List (Int × Int)} {l : List Int} (h1 : ∀ x ∈ l, OkI x) (h2 : ∀ r ∈ rs, OkI r.1 ∧ OkI r.2) : ∀ x ∈ relF rs l, OkI x := relfold_ok l rs l h1 h2
set_option maxRecDepth 100000 in
set_option maxHeartbeats 8000000 in
theorem Circle_any (c0 c1 c2 c3 c4 c5 : Value) (s : Su) (p : Int) (w : World) (h : SuV w c0 c1 c2 c3 c4 c5 s) (hp : OkI p) :
    Calls Try.prog 30 #[.agg #[c0, c1, c2, c3, c4, c5], .int .i64 p] w fun e w' => ∃ v', e = .returned v' ∧ w'.ownsRow w.heap.size 3 1 v' (cirL s.rs p).length ((cirL s.rs p).flatMap celI) ∧ Ext w w' := by
  have HSU := Lib.hid h
  have hnr := h.ok.nr
  have HRS := Lib.hid h.ok.rs
  have HL1 : Hid ((relF s.rs [p]).length ≤ 2001) := Lib.hid (by have := relF_len s.rs [p]; simp at this; omega)
  have HO1 : Hid (∀ x ∈ relF s.rs [p], OkI x) := Lib.hid (relF_ok (fun x hx => by rw [List.mem_singleton] at hx; subst hx; exact hp) h.ok.rs)
  obtain ⟨hps, hhs, hrs, ⟨q1, rfl⟩, ⟨q4, rfl⟩, ⟨q5, rfl⟩, hok⟩ := h
  obtain ⟨b0, n0, rfl⟩ := hps.form
  obtain ⟨b2, n2, rfl⟩ := hhs.form
  obtain ⟨b3, n3, rfl⟩ := hrs.form
  clear hps hhs hrs hok
  go_enter Try.func30, Try.ntmps30
  go_upto_region 1 with (fail)
  obtain ⟨v0, hv0⟩ : ∃ v0, v0 = Value.slice b0 s.ps.length n0 := ⟨_, rfl⟩
  obtain ⟨v2, hv2⟩ : ∃ v2, v2 = Value.slice b2 s.hs.length n2 := ⟨_, rfl⟩
  obtain ⟨v3, hv3⟩ : ∃ v3, v3 = Value.slice b3 s.rs.length n3 := ⟨_, rfl⟩
  rw [← hv0, ← hv2, ← hv3] at HSU ⊢
  have hx1 : Ext w (w.alloc (.cells #[v0, .int .i64 q1, v2, v3, .int .i64 q4, .int .i64 q5] 28)) := Ext.alloc (Ext.refl _) _
  have hb1 := alloc_at w (.cells #[v0, .int .i64 q1, v2, v3, .int .i64 q4, .int .i64 q5] 28)
  obtain ⟨D, hD⟩ : ∃ D, D = w.heap.size := ⟨_, rfl⟩
  rw [← hD] at hb1 ⊢
  clear hD
  generalize w.alloc (.cells #[v0, .int .i64 q1, v2, v3, .int .i64 q4, .int .i64 q5] 28) = W1 at *
  have HS := Lib.hid (HSU.out.ext hx1)
  have HB := Lib.hid hb1; have HX1 := Lib.hid hx1
  have HC : Hid (∀ wz, Ext W1 wz → wz.cell? ⟨D, 0, none⟩ = some v0 ∧ wz.cell? ⟨D, 1, none⟩ = some (.int .i64 q1) ∧ wz.cell? ⟨D, 2, none⟩ = some v2 ∧ wz.cell? ⟨D, 3, none⟩ = some v3 ∧ wz.cell? ⟨D, 4, none⟩ = some (.int .i64 q4) ∧ wz.cell? ⟨D, 5, none⟩ = some (.int .i64 q5)) := Lib.hid fun wz hz => by
    have h1 := (hz.block _ (Rg.lt_of_heap HB.out)).trans HB.out
    exact ⟨cell_of_row wz D 0 _ _ _ h1, cell_of_row wz D 1 _ _ _ h1, cell_of_row wz D 2 _ _ _ h1, cell_of_row wz D 3 _ _ _ h1, cell_of_row wz D 4 _ _ _ h1, cell_of_row wz D 5 _ _ _ h1⟩
  obtain ⟨e0, e1, e2, e3, e4, e5⟩ := HC.out W1 (Ext.refl _)
  have HR1 : Hid (∀ wz, Ext W1 wz → wz.heap[W1.heap.size]? = some (.cells #[.int .i64 p] 3) → Calls Try.prog 48 #[.agg #[v0, .int .i64 q1, v2, v3, .int .i64 q4, .int .i64 q5], .slice (some ⟨W1.heap.size, 0, none⟩) 1 1] wz fun e w' => ∃ A c, e = .returned (.slice A (relF s.rs [p]).length c) ∧ w'.ownsRow wz.heap.size 3 1 (.slice A (relF s.rs [p]).length c) (relF s.rs [p]).length ((relF s.rs [p]).flatMap celI) ∧ Ext wz w') := Lib.hid fun wz hz hb => by
    have ho := own_lit (B := 0) (n := 1) (sz := 1) (xs := [Value.int .i64 p]) (Nat.zero_le _) hb rfl (by decide)
    refine Calls.mono (related_any _ _ _ _ _ _ _ s [p] wz (HS.out.ext hz) (ird_row (zs := [p]) ho (fun x hx => by rw [List.mem_singleton] at hx; subst hx; exact hp) (by simp)) (by simp)) fun e w' ⟨v, h1, h2, h3⟩ => ?_
    obtain ⟨A, c, rfl⟩ := row_formG h2
    exact ⟨A, c, h1, h2, h3⟩
  have HR2 : Hid (∀ wz A c B, Ext W1 wz → wz.ownsRow B 3 1 (.slice A (relF s.rs [p]).length c) (relF s.rs [p]).length ((relF s.rs [p]).flatMap celI) → Calls Try.prog 48 #[.agg #[v0, .int .i64 q1, v2, v3, .int .i64 q4, .int .i64 q5], .slice A (relF s.rs [p]).length c] wz fun e w' => ∃ v', e = .returned v' ∧ w'.ownsRow wz.heap.size 3 1 v' (cirL s.rs p).length ((cirL s.rs p).flatMap celI) ∧ Ext wz w') := Lib.hid fun wz A c B hz hr =>
    related_any _ _ _ _ _ _ _ s _ wz (HS.out.ext hz) (ird_row hr HO1.out (by have := HL1.out; omega)) (by have := HL1.out; omega)
  clear hb1 hx1 hv0 hv2 hv3
  go_region_held3 (fun w' => w'.cell? ⟨D, 0, none⟩ = some v0 ∧ w'.cell? ⟨D, 1, none⟩ = some (.int .i64 q1) ∧ w'.cell? ⟨D, 2, none⟩ = some v2 ∧ w'.cell? ⟨D, 3, none⟩ = some v3 ∧ w'.cell? ⟨D, 4, none⟩ = some (.int .i64 q4) ∧ w'.cell? ⟨D, 5, none⟩ = some (.int .i64 q5))
    (first | exact HC.out _ (by with_reducible repeat (first | exact Ext.refl _ | assumption | apply Ext.drewN | apply Ext.drew | apply Ext.alloc | (refine Ext.setCell ?_ (by simp <;> omega) _) | (refine Ext.trans ?_ (by assumption)))) | go_keep)
    (first
      | (go_at_call 48; (with_reducible refine (HR1.out _ (by with_reducible repeat (first | exact Ext.refl _ | assumption | apply Ext.drewN | apply Ext.drew | apply Ext.alloc | (refine Ext.setCell ?_ (by simp <;> omega) _) | (refine Ext.trans ?_ (by assumption)))) (alloc_at W1.drew _)).mono ?_); rintro e wa ⟨A, c, rfl, hra, hxa⟩)
      | (go_at_call 48; (with_reducible refine (HR2.out _ A c _ (by with_reducible repeat (first | exact Ext.refl _ | assumption | apply Ext.drewN | apply Ext.drew | apply Ext.alloc | (refine Ext.setCell ?_ (by simp <;> omega) _) | (refine Ext.trans ?_ (by assumption)))) hra).mono ?_); rintro e wb ⟨v', rfl, hrb, hxb⟩))
  have hx1b : Ext W1 wb := (by with_reducible repeat (first | exact Ext.refl _ | assumption | apply Ext.drewN | apply Ext.drew | apply Ext.alloc | (refine Ext.setCell ?_ (by simp <;> omega) _) | (refine Ext.trans ?_ (by assumption))))
  have hlo : w.heap.size ≤ wa.heap.size := (HX1.out.trans (show Ext W1 wa from (by with_reducible repeat (first | exact Ext.refl _ | assumption | apply Ext.drewN | apply Ext.drew | apply Ext.alloc | (refine Ext.setCell ?_ (by simp <;> omega) _) | (refine Ext.trans ?_ (by assumption)))))).size
  have HRB := Lib.hid (row_mono hrb hlo); have HXB := Lib.hid (HX1.out.trans hx1b)
  clear hra hxa hrb hxb hx1b hlo e0 e1 e2 e3 e4 e5
  go_wp2_with (fail)
  go_ret
  exact ⟨_, rfl, HRB.out, HXB.out⟩
end Go.Proofs.Ytlekdhhgjhakgaa
