/-
  Lemmas of this claim (JtAF). Nothing is asked.
-/
import Derived.Test.YteomcpplajeidaaGreatBase
import Derived.Test.YteomcpplajeidaaGreatJtQ
import Derived.Test.YteomcpplajeidaaGreatJtO
import Derived.BigQuiet
import Derived.Deep.QuietTactic
import Derived.Deep.Upon
import Derived.ArgAppend
import Derived.Test.YteomcpplajeidaaGreatJtK
import Derived.Test.YteomcpplajeidaaGreatJtAC
import Derived.Laws.CopyOwn
import Derived.Laws.AppendOwnNone
import Derived.Test.YteomcpplajeidaaGreatJtN
import Derived.Test.YteomcpplajeidaaGreatJtY
namespace Go.Proofs.YteomcpplajeidaaGreat
set_option linter.unusedVariables false
set_option linter.unusedSimpArgs false
set_option maxRecDepth 100000
open Go.RowKit
theorem hold0 {f : World → Prop} {fs : List (World → Prop)} {w : World} (h : Rr.Holds (f :: fs) w) : f w := h _ List.mem_cons_self
end Go.Proofs.YteomcpplajeidaaGreat
namespace Go.Proofs.YteomcpplajeidaaGreat
set_option linter.unusedVariables false
set_option linter.unusedSimpArgs false
set_option maxRecDepth 100000
open Go.RowKit
theorem eval_ok0 {vs : Vals} {t : Ex} {x : Int × Int} (h : evalI vs t = (x, 0)) (hne : ∀ f, valueE vs t = .error f → f ≠ 0) : valueE vs t = .ok x := by
  unfold evalI at h
  split at h
  · cases hv : valueE vs t with
    | ok y => rw [hv] at h; injection h with h _; rw [h]
    | error f => rw [hv] at h; injection h with _ h; exact absurd h (hne f hv)
  · rename_i hw; injection h with _ h; exact absurd h hw
theorem appE_err {p : (Int × Int) × Int} {f : Int} (h : appE p = .error f) : f ≠ 0 := by
  unfold appE at h
  split at h
  · cases h
  · injection h with h; subst h; assumption
mutual
theorem value_err (vs : Vals) : ∀ (t : Ex) (f : Int), formedB t = true → valueE vs t = .error f → f ≠ 0
  | .mk op n nm ts, f, hf, hv => by
    rw [formedB] at hf
    rw [valueE] at hv
    by_cases h1 : (op.toList == [110, 117, 109]) = true
    · rw [if_pos h1] at hv; cases hv
    · rw [if_neg h1] at hf hv
      by_cases h2 : (op.toList == [110, 97, 109, 101]) = true
      · rw [if_pos h2] at hv
        split at hv
        · cases hv
        · injection hv with hv; subst hv; decide
      · rw [if_neg h2] at hf hv
        simp only [Bool.and_eq_true, beq_iff_eq] at hf
        obtain ⟨-, hl, -, -, hl2⟩ := hf
        have hV := valueL_err vs ts hl2
        have hn : (valueL vs ts).length = 2 := by rw [← hl]; clear hV hv hl hl2; induction ts with
          | nil => rfl
          | cons t ts ih => rw [valueL, List.length_cons, ih, List.length_cons]
        generalize valueL vs ts = vl at *
        match vl, hn, hv with
        | [a, b], _, hv =>
          cases a with
          | error g => injection hv with hv; subst hv; exact hV _ List.mem_cons_self g rfl
          | ok xa =>
            cases b with
            | error g => injection hv with hv; subst hv; exact hV _ (List.mem_cons_of_mem _ List.mem_cons_self) g rfl
            | ok xb => exact appE_err hv
theorem valueL_err (vs : Vals) : ∀ (ts : List Ex), formedL ts = true → ∀ e ∈ valueL vs ts, ∀ f, e = .error f → f ≠ 0
  | [], _, e, he, _, _ => by rw [valueL] at he; cases he
  | t :: ts, hf, e, he, f, hx => by
    rw [formedL, Bool.and_eq_true] at hf
    rw [valueL] at he
    rcases List.mem_cons.1 he with rfl | he
    · exact value_err vs t f hf.1 hx
    · exact valueL_err vs ts hf.2 e he f hx
end
mutual
theorem value_I2 {S : Nat → Prop} {w : World} {vs : Vals} (hr : VR vs) : ∀ (t : Ex) (v : Value) (x : Int × Int), Rd S w t v → valueE vs t = .ok x → I2 x
  | .mk op n nm ts, v, x, h, hv => by
    unfold Rd at h
    obtain ⟨base, cap, -, hn, -, hts⟩ := h
    rw [valueE] at hv
    by_cases h1 : (op.toList == [110, 117, 109]) = true
    · rw [if_pos h1] at hv
      injection hv with hv
      subst hv
      exact hn
    · rw [if_neg h1] at hv
      by_cases h2 : (op.toList == [110, 97, 109, 101]) = true
      · rw [if_pos h2] at hv
        split at hv
        · rename_i k hk
          injection hv with hv
          subst hv
          have := look_range hr hk
          exact I2.int this.1 this.2
        · cases hv
      · rw [if_neg h2] at hv
        have hV : ∀ e ∈ valueL vs ts, ∀ x, e = .ok x → I2 x := by
          rcases hts with rfl | ⟨b, -, -, hl⟩
          · intro e he; rw [valueL] at he; cases he
          · exact valueL_I2 hr ts b 0 hl
        generalize valueL vs ts = vl at *
        match vl, hv with
        | [a, b], hv =>
          cases a with
          | error f => cases hv
          | ok xa =>
            cases b with
            | error f => cases hv
            | ok xb =>
              have h3 := applyI_I2 (opIx op).toNat xa xb (hV _ List.mem_cons_self xa rfl) (hV _ (List.mem_cons_of_mem _ List.mem_cons_self) xb rfl)
              simp only at hv
              unfold appE at hv
              split at hv
              · injection hv with hv; rw [← hv]; exact h3
              · cases hv
        | [], hv => cases hv
        | [_], hv => cases hv
        | _ :: _ :: _ :: _, hv => cases hv
theorem valueL_I2 {S : Nat → Prop} {w : World} {vs : Vals} (hr : VR vs) : ∀ (ts : List Ex) (b k : Nat), RdL S w b k ts → ∀ e ∈ valueL vs ts, ∀ x, e = .ok x → I2 x
  | [], _, _, _, e, he, _, _ => by rw [valueL] at he; cases he
  | t :: ts, b, k, h, e, he, x, hx => by
    unfold RdL at h
    obtain ⟨⟨c, -, hc⟩, hl⟩ := h
    rw [valueL] at he
    rcases List.mem_cons.1 he with rfl | he
    · exact value_I2 hr t _ x hc hx
    · exact valueL_I2 hr ts b (k + 1) hl e he x hx
end
theorem evalI_I2 {S : Nat → Prop} {w : World} {vs : Vals} {t : Ex} {v : Value} {x : Int × Int} (hr : VR vs) (h : Rd S w t v) (hf : formedB t = true) (he : evalI vs t = (x, 0)) : I2 x :=
  value_I2 hr t v x h (eval_ok0 he (fun f h => value_err vs t f hf h))
end Go.Proofs.YteomcpplajeidaaGreat
namespace Go.Proofs.YteomcpplajeidaaGreat
set_option linter.unusedVariables false
set_option linter.unusedSimpArgs false
set_option maxRecDepth 100000
open Go.RowKit
theorem VR.app {a b : Vals} (h : VR a) (h' : VR b) : VR (a ++ b) := fun x hx => (List.mem_append.1 hx).elim (h x) (h' x)
theorem flatP_len (l : Vals) : (l.flatMap cellsP).length = l.length * 2 := by
  induction l with
  | nil => rfl
  | cons p l ih => rw [List.flatMap_cons, List.length_append, ih, List.length_cons]; show 2 + _ = _; omega
theorem append_vals_run (w : World) (ty : TypeId) (b n : Nat) (vs us : Vals) (x : Value) (hn : vs.length = n) (h : VRd All w vs (.slice (some ⟨b, 0, none⟩) n n)) (h0 : 0 < n) (hu : VRd All w us x) (hl : vs.length + us.length ≤ 1000000) :
    ∃ v' w', (Builtin.append_ #[55, 55] ty #[.slice (some ⟨b, 0, none⟩) n n, x]).run Tryz.prog w = .ok v' w' ∧ Ext w w' ∧ VRd All w' (vs ++ us) v' := by
  obtain ⟨i0, hi, hz0, hz1, hz2⟩ := info_parts (show (Tryz.prog.info? 80).map (fun i => (i.zero, i.size, i.bytes)) = some (some (.agg #[.string ⟨#[]⟩, .int .i64 0]), 2, 24) by kernel_rfl)
  subst hn
  obtain ⟨_, _, e, -, hr, hc⟩ := h
  injection e with e1 _ _
  subst e1
  obtain ⟨b', e, -, hc⟩ := hc.resolve_left (by intro e; rw [e] at h0; exact Nat.lt_irrefl _ h0)
  injection e with e
  injection e with e _ _
  subst e
  obtain ⟨A, c, rfl, -, hru, hcu⟩ := hu
  by_cases hus : us = []
  · subst hus
    have hsrc : Src Tryz.prog i0.size 55 (.slice A 0 c) 0 [] w := by
      cases A with
      | none => exact Src.ofNil w Tryz.underlying55 c
      | some a => exact Src.ofSlice w Tryz.underlying55 a 0 c _ (by simp) (by simp) (by simp)
    have hrun := run_append_nothing (P := Tryz.prog) w 55 55 ty 80 i0 Tryz.underlying55 hi (some ⟨b, 0, none⟩) vs.length vs.length (Nat.le_refl _) (.slice A 0 c) hsrc
    refine ⟨_, _, hrun, Ext.refl _, ?_⟩
    rw [List.append_nil]
    exact ⟨_, _, rfl, by omega, hr, .inr ⟨b, rfl, trivial, hc⟩⟩
  · obtain ⟨d, rfl, -, hcu⟩ := hcu.resolve_left hus
    have hpos : 0 < us.length := List.length_pos_iff.2 hus
    have flat : ∀ (l : Vals) (g : Nat) (hg : ∀ k (h : k < l.length), w.cell? ⟨g, k * 2, none⟩ = some (.string l[k].1) ∧ w.cell? ⟨g, k * 2 + 1, none⟩ = some (.int .i64 l[k].2)) (j : Nat) (u : Value), (l.flatMap cellsP)[j]? = some u → w.cell? ⟨g, j, none⟩ = some u := by
      intro l g hg j u hj
      have hjl : j < l.length * 2 := by rw [← flatP_len]; exact (List.getElem?_eq_some_iff.1 hj).1
      obtain ⟨q, hq, e⟩ : ∃ q, q < l.length ∧ (j = q * 2 ∨ j = q * 2 + 1) := ⟨j / 2, by omega, by omega⟩
      obtain ⟨f0, f1⟩ := flat2 l q hq
      obtain ⟨g0, g1⟩ := hg q hq
      rcases e with rfl | rfl
      · rw [f0] at hj; rw [g0]; exact hj
      · rw [f1] at hj; rw [g1]; exact hj
    have hone : ∀ u ∈ us.flatMap cellsP, u.oneCell' = true := by
      intro u hu
      obtain ⟨p, -, hp⟩ := List.mem_flatMap.1 hu
      simp [cellsP] at hp
      rcases hp with rfl | rfl <;> rfl
    obtain ⟨v', w', hrun, ho, hg⟩ := run_append_arg_grows (P := Tryz.prog) w 55 ty 80 i0 _ 2 24 Tryz.underlying55 hi hz0 hz1 hz2 rfl (by decide) ⟨b, 0, none⟩ vs.length vs.length (vs.flatMap cellsP) (flatP_len vs)
      (fun j u hj => by rw [Addr.add_lit, Nat.zero_add]; exact flat vs b hc j u hj) ⟨d, 0, none⟩ us.length c (us.flatMap cellsP) (flatP_len us) (fun j u hj => by rw [Addr.add_lit, Nat.zero_add]; exact flat us d hcu j u hj) (by omega) (by unfold maxLen; omega) (by omega)
    refine ⟨v', w', hrun, ⟨hg.os, hg.tape, hg.output, hg.size, fun k hk => hg.block k hk (by simp)⟩, ?_⟩
    have ho' : PR w.heap.size w' v' (vs ++ us) := by
      show w'.ownsRow w.heap.size 80 2 v' (vs ++ us).length ((vs ++ us).flatMap cellsP)
      rw [List.flatMap_append, List.length_append]; exact ho
    exact ho'.vrd (hr.app hru) (by rw [List.length_append]; exact hl)
def ptVals (p l : Int) (us : Vals) : Vals := (priceB, p) :: (lowB, l) :: us
set_option maxRecDepth 100000 in
set_option maxHeartbeats 2000000 in
theorem points_any (us : Vals) (t : Ex)   (p l : Int) (hpr : -9223372036854775808 ≤ p ∧ p ≤ 9223372036854775807) (hlr : -9223372036854775808 ≤ l ∧ l ≤ 9223372036854775807) (w : World) (c0 c1 c2 c3 c4 c5 f0 f1 f2 f3 f4 k1 k2 k3 k4 k5 k6 k7 k8 k9 e0 e1 e2 sl : Value)
    (hv : Rd All w t (.agg #[f0, f1, f2, f3, f4])) (hs : VRd All w us sl) (hu : us.length ≤ 999998) :
    Calls Tryz.prog 23 #[.agg #[c0, c1, c2, c3, c4, c5, f0, f1, f2, f3, f4, k1, k2, k3, k4, k5, k6, k7, k8, k9], .agg #[e0, e1, e2, .int .i64 p, sl], .int .i64 l] w fun e w' => e = .returned (rev (evalI (ptVals p l us) t)) ∧ Ext w w' := by
  have HV := Lib.hid hv; have HS := Lib.hid hs
  have HEV := Lib.hid (fun w' (hw : Ext w w') sl' (h' : VRd All w' (ptVals p l us) sl') => (eval_any All (ptVals p l us) t w' _ sl' (hv.ext hw) h'))
  have hvr : VR [(priceB, p), (lowB, l)] := fun x hx => by
    simp only [List.mem_cons, List.not_mem_nil, or_false] at hx
    rcases hx with rfl | rfl
    · exact hpr
    · exact hlr
  have HVR := Lib.hid hvr
  clear hv hs hvr hpr hlr
  generalize evalI (ptVals p l us) t = r at *
  obtain ⟨⟨r1, r2⟩, rf⟩ := r
  obtain ⟨W1, hW1⟩ : ∃ W1, W1 = (((w.alloc (.cells #[c0, c1, c2, c3, c4, c5, f0, f1, f2, f3, f4, k1, k2, k3, k4, k5, k6, k7, k8, k9] 39)).alloc (.cells #[e0, e1, e2, .int .i64 p, sl] 57)).alloc (.cells #[.int .i64 0, .int .i64 0] 30)) := ⟨_, rfl⟩
  have hx1 : Ext w W1 := by rw [hW1]; exact Ext.alloc (Ext.alloc (Ext.alloc (Ext.refl _) _) _) _
  have hp2 : W1.heap[w.heap.size]? = some (.cells #[c0, c1, c2, c3, c4, c5, f0, f1, f2, f3, f4, k1, k2, k3, k4, k5, k6, k7, k8, k9] 39) := by rw [hW1, Below.heap_alloc _ _ _ (by simp; omega), Below.heap_alloc _ _ _ (by simp)]; exact heap_alloc_new _ _
  have hp3 : W1.heap[w.heap.size + 1]? = some (.cells #[e0, e1, e2, .int .i64 p, sl] 57) := by rw [hW1, Below.heap_alloc _ _ _ (by simp)]; exact block_new (by simp)
  have hp4 : W1.heap[w.heap.size + 1 + 1]? = some (.cells #[.int .i64 0, .int .i64 0] 30) := by rw [hW1]; exact block_new (by simp)
  go_enter Tryz.func23, Tryz.ntmps23
  go_upto_region 1 with (fail)
  rw [← hW1]
  clear hW1
  obtain ⟨p2, hp2e⟩ : ∃ p2, p2 = w.heap.size := ⟨_, rfl⟩
  obtain ⟨p3, hp3e⟩ : ∃ p3, p3 = w.heap.size + 1 := ⟨_, rfl⟩
  obtain ⟨p4, hp4e⟩ : ∃ p4, p4 = w.heap.size + 1 + 1 := ⟨_, rfl⟩
  rw [← hp4e] at hp4 ⊢
  rw [← hp3e] at hp3 ⊢
  rw [← hp2e] at hp2 ⊢
  have HX1 := Lib.hid hx1
  have HC : Hid (∀ W, Ext W1 W → (W.cell? ⟨p2, 6, none⟩ = some f0 ∧ W.cell? ⟨p2, 7, none⟩ = some f1 ∧ W.cell? ⟨p2, 8, none⟩ = some f2 ∧ W.cell? ⟨p2, 9, none⟩ = some f3 ∧ W.cell? ⟨p2, 10, none⟩ = some f4 ∧ p2 < W.heap.size) ∧ (W.cell? ⟨p3, 3, none⟩ = some (.int .i64 p) ∧ W.cell? ⟨p3, 4, none⟩ = some sl ∧ p3 < W.heap.size) ∧ W.heap[p4]? = some (.cells #[.int .i64 0, .int .i64 0] 30)) := Lib.hid fun W hW => by
    have h2 := (hW.block _ (Rg.lt_of_heap hp2)).trans hp2
    have h3 := (hW.block _ (Rg.lt_of_heap hp3)).trans hp3
    have h4 := (hW.block _ (Rg.lt_of_heap hp4)).trans hp4
    exact ⟨⟨(Rg.cells_of h2).1 6, (Rg.cells_of h2).1 7, (Rg.cells_of h2).1 8, (Rg.cells_of h2).1 9, (Rg.cells_of h2).1 10, Rg.lt_of_heap h2⟩, ⟨(Rg.cells_of h3).1 3, (Rg.cells_of h3).1 4, Rg.lt_of_heap h3⟩, h4⟩
  have HP4 := Lib.hid (show w.heap.size ≤ p4 by omega)
  clear hx1 hp2 hp3 hp4 hp2e hp3e hp4e
  obtain ⟨-, ⟨a3, a4, al⟩, -⟩ := HC.out W1 (Ext.refl _)
  go_upto_region 2 with (fail)
  have hb8 : (W1.alloc (.cells #[.string priceB, .int .i64 p, .string lowB, .int .i64 l] 80)).heap[W1.heap.size]? = some (.cells #[.string priceB, .int .i64 p, .string lowB, .int .i64 l] 80) := block_new rfl
  have HV8 := Lib.hid (vrd2 hb8 HVR.out)
  have HX2 := Lib.hid (Ext.alloc (Ext.refl W1) (.cells #[.string priceB, .int .i64 p, .string lowB, .int .i64 l] 80))
  clear hb8 a3 a4 al
  try change Code.wp _ _ _ _ (W1.alloc (.cells #[.string priceB, .int .i64 p, .string lowB, .int .i64 l] 80))
  generalize W1.alloc (.cells #[.string priceB, .int .i64 p, .string lowB, .int .i64 l] 80) = W2 at *
  generalize W1.heap.size = p8 at *
  obtain ⟨⟨a6, a7, a8, a9, a10, al⟩, ⟨b3, b4, bl⟩, -⟩ := HC.out W2 HX2.out
  refine Rr.wp_regionE [8] [(0, .y), (1, .y), (2, .y), (3, .y), (4, .y), (5, .z), (6, .y), (7, .y), (8, .y)] (fun _ => (.cells #[] 33, Rg.ptr)) (fun c a d v w h => by have h' : _ ∧ _ := h; exact ⟨(Rr.put_defers a d v).symm.trans h'.1, h'.2⟩) (by kernel_rfl) (by kernel_rfl) ?_
  (refine Rr.wr_y (by simp only [List.getElem?_toArray, List.getElem?_cons_succ, List.getElem?_cons_zero]; rfl) (by rfl) ?_
   apply Exists.intro
   refine ⟨fun wz hw _ => ?_, ?_⟩
   · have hcz := hw.cells.1
     go_simp
     (with_reducible exact Rg.up_value)
   simp only [Act.put, List.setIfInBounds_toArray, List.set_cons_zero, List.set_cons_succ])
  (refine Rr.wr_y (by simp only [List.getElem?_toArray, List.getElem?_cons_succ, List.getElem?_cons_zero]; rfl) (by rfl) ?_
   apply Exists.intro
   refine ⟨fun wz hw _ => ?_, ?_⟩
   · have hcz := hw.cells.1
     exact up_load29 (by rfl) ((hcz _ _ al).trans a6) ((hcz _ _ al).trans a7) ((hcz _ _ al).trans a8) ((hcz _ _ al).trans a9) ((hcz _ _ al).trans a10)
   simp only [Act.put, List.setIfInBounds_toArray, List.set_cons_zero, List.set_cons_succ])
  (refine Rr.wr_y (by simp only [List.getElem?_toArray, List.getElem?_cons_succ, List.getElem?_cons_zero]; rfl) (by rfl) ?_
   apply Exists.intro
   refine ⟨fun wz hw _ => ?_, ?_⟩
   · have hcz := hw.cells.1
     go_simp
     (with_reducible exact Rg.up_value)
   simp only [Act.put, List.setIfInBounds_toArray, List.set_cons_zero, List.set_cons_succ])
  (refine Rr.wr_y (by simp only [List.getElem?_toArray, List.getElem?_cons_succ, List.getElem?_cons_zero]; rfl) (by rfl) ?_
   apply Exists.intro
   refine ⟨fun wz hw _ => ?_, ?_⟩
   · have hcz := hw.cells.1
     go_simp
     (with_reducible exact Rg.up_value)
   simp only [Act.put, List.setIfInBounds_toArray, List.set_cons_zero, List.set_cons_succ])
  (refine Rr.wr_y (by simp only [List.getElem?_toArray, List.getElem?_cons_succ, List.getElem?_cons_zero]; rfl) (by rfl) ?_
   apply Exists.intro
   refine ⟨fun wz hw _ => ?_, ?_⟩
   · have hcz := hw.cells.1
     go_simp
     (with_reducible exact Rg.up_value)
   simp only [Act.put, List.setIfInBounds_toArray, List.set_cons_zero, List.set_cons_succ])
  refine Rr.wr_z (fun v w' => VRd All w' (ptVals p l us) v) (by simp only [List.getElem?_toArray, List.getElem?_cons_succ, List.getElem?_cons_zero]; rfl) (by rfl) (fun v w1 w2 h e => VRd.ext e h) (fun wz hw hh => ?_) (fun u3 => ?_)
  · obtain ⟨v', w', hrun, hx, hr⟩ := append_vals_run wz 55 p8 2 [(priceB, p), (lowB, l)] us sl rfl (HV8.out.ext hw) (by decide) (HS.out.ext (HX1.out.trans (HX2.out.trans hw))) (by simp; omega)
    unfold execOp
    simp only [resolve, invoke, builtin, Sem.run_bind, Sem.run_pure, Result.andThen_ok, List.map_toArray, List.map_cons, List.map_nil]
    show Rr.upR _ _ _ _ (((Builtin.append_ #[55, 55] 55 #[.slice (some ⟨p8, 0, none⟩) 2 2, sl]).run Tryz.prog wz).andThen _)
    rw [hrun]
    exact ⟨hx, hr⟩
  simp only [Act.put, List.setIfInBounds_toArray, List.set_cons_zero, List.set_cons_succ]
  refine Rr.wr_y (by simp only [List.getElem?_toArray, List.getElem?_cons_succ, List.getElem?_cons_zero]; rfl) (by rfl) ⟨rev ((r1, r2), rf), fun wz hw hh => ?_, ?_⟩
  · go_simp
    apply Rg.up_enter
    (with_reducible refine (HEV.out _ (HX1.out.trans (HX2.out.trans hw)) _ (hold0 hh)).mono ?_)
    rintro e w3 ⟨rfl, hb3⟩
    exact ⟨rfl, hb3⟩
  simp only [Act.put, List.setIfInBounds_toArray, List.set_cons_zero, List.set_cons_succ]
  (refine Rr.wr_y (by simp only [List.getElem?_toArray, List.getElem?_cons_succ, List.getElem?_cons_zero]; rfl) (by rfl) ?_
   apply Exists.intro
   refine ⟨fun wz hw _ => ?_, ?_⟩
   · have hcz := hw.cells.1
     go_simp
     (with_reducible exact Rg.up_value)
   simp only [Act.put, List.setIfInBounds_toArray, List.set_cons_zero, List.set_cons_succ])
  (refine Rr.wr_y (by simp only [List.getElem?_toArray, List.getElem?_cons_succ, List.getElem?_cons_zero]; rfl) (by rfl) ?_
   apply Exists.intro
   refine ⟨fun wz hw _ => ?_, ?_⟩
   · have hcz := hw.cells.1
     go_simp
     (with_reducible exact Rg.up_value)
   simp only [Act.put, List.setIfInBounds_toArray, List.set_cons_zero, List.set_cons_succ])
  refine Rr.wr_nil ?_
  intro wy hy hh
  simp only [List.length_cons, List.length_nil, List.drop_succ_cons, List.drop_zero, Nat.reduceAdd]
  have h40 := (HC.out wy (HX2.out.trans hy)).2.2
  refine wpList_store_row (hgd := rfl) 30 (.tmp 6) (.tmp 22) rfl p4 (by rfl) #[.int .i64 r1, .int .i64 r2] (by rfl) #[.int .i64 0, .int .i64 0] 30 h40 (by rfl) (by kernel_rfl) (by simp [Value.oneCell']) ?_
  have hbc := setRow_heap wy p4 _ #[.int .i64 r1, .int .i64 r2] 30 _ h40
  have hxc : Ext w (wy.setRow p4 #[.int .i64 r1, .int .i64 r2]) := below_setRow (HX1.out.trans (HX2.out.trans hy)) HP4.out #[.int .i64 r1, .int .i64 r2]
  generalize wy.setRow p4 #[.int .i64 r1, .int .i64 r2] = W9 at *
  obtain ⟨hc9, hf9, hl9⟩ := Rg.cells_of hbc
  clear hh h40 hbc hy a6 a7 a8 a9 a10 al b3 b4 bl
  go_wp2_with (fail)
  exact bodyPost_ret (v := rev ((r1, r2), rf)) (by simp [results, Tryz.results23, go_sem, hc9, hf9]) rfl ⟨rfl, hxc⟩
end Go.Proofs.YteomcpplajeidaaGreat
