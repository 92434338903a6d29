/-
  The reference's table. Conditions: a setup and the bidders lie in memory.
-/
import Derived.Test.YtlekdhhgjhakgaaRiJ
import Derived.Test.YtlekdhhgjhakgaaRiI
import Derived.Test.YtlekdhhgjhakgaaRiD
import Derived.Deep.RegionHeld3
namespace Go.Proofs.Ytlekdhhgjhakgaa
set_option linter.unusedVariables false
set_option linter.unusedSimpArgs false
open Go.RowKit
/-- A row of bools. -/
def RB (w : World) (u : Value) (m : Nat) (g : Nat → Bool) : Prop :=
  ∃ r rc cs, u = .slice (some ⟨r, 0, none⟩) m rc ∧ m ≤ rc ∧ w.heap[r]? = some (.cells cs 4) ∧ ∀ k, k < m → cs[k]? = some (.bool (g k))
theorem RB.ext {w w' : World} {u : Value} {m : Nat} {g : Nat → Bool} (h : RB w u m g) (x : Ext w w') : RB w' u m g := by
  obtain ⟨r, rc, cs, h1, h2, h3, h4⟩ := h
  exact ⟨r, rc, cs, h1, h2, (x.block _ (Rg.lt_of_heap h3)).trans h3, h4⟩
theorem RB.other {w w' : World} {u v : Value} {m B E sz n : Nat} {xs : List Value} {g : Nat → Bool} (h : RB w u m g) (hr : w.ownsRow B E sz v n xs) (hE : 4 ≠ E) (hg : w.grownBy w' v.ownBlock) : RB w' u m g := by
  obtain ⟨r, rc, cs, h1, h2, h3, h4⟩ := h
  exact ⟨r, rc, cs, h1, h2, row_other hr hE hg h3, h4⟩
theorem RB.congr {w : World} {u : Value} {m : Nat} {g g' : Nat → Bool} (h : RB w u m g) (e : ∀ k, k < m → g k = g' k) : RB w u m g' := by
  obtain ⟨r, rc, cs, h1, h2, h3, h4⟩ := h
  exact ⟨r, rc, cs, h1, h2, h3, fun k hk => by rw [← e k hk]; exact h4 k hk⟩
theorem RB.cells {w : World} {u : Value} {m : Nat} {g : Nat → Bool} (h : RB w u m g) : ∃ r rc, u = .slice (some ⟨r, 0, none⟩) m rc ∧ m ≤ rc ∧ r < w.heap.size ∧ ∀ k, k < m → w.cell? ⟨r, k, none⟩ = some (.bool (g k)) := by
  obtain ⟨r, rc, cs, h1, h2, h3, h4⟩ := h
  exact ⟨r, rc, h1, h2, Rg.lt_of_heap h3, fun k hk => by rw [cell_of_row w r k _ _ _ h3, h4 k hk]⟩
/-- Rows of bools of one's own. -/
structure TO (B m : Nat) (F : Nat → Nat → Bool) (W : World) (v : Value) (us : List Value) : Prop where
  row : W.ownsRow B 87 1 v us.length (us.flatMap cel1)
  el : ∀ o (h : o < us.length), RB W us[o] m (F o)
theorem TO.ext {B m : Nat} {F : Nat → Nat → Bool} {W W' : World} {v : Value} {us : List Value} (h : TO B m F W v us) (x : Ext W W') : TO B m F W' v us := ⟨row_ext h.row x, fun o ho => (h.el o ho).ext x⟩
theorem TO.nil (B m : Nat) (F : Nat → Nat → Bool) (W : World) : TO B m F W (.slice none 0 0) [] := ⟨⟨rfl, .inl ⟨rfl, rfl⟩⟩, fun o ho => absurd ho (Nat.not_lt_zero _)⟩
theorem TO.push {B m : Nat} {F : Nat → Nat → Bool} {W W' : World} {v v' u : Value} {us : List Value} (h : TO B m F W v us) (hu : RB W u m (F us.length)) (hg : W.grownBy W' v.ownBlock) (hr : W'.ownsRow B 87 1 v' (us ++ [u]).length ((us ++ [u]).flatMap cel1)) : TO B m F W' v' (us ++ [u]) := by
  refine ⟨hr, fun o ho => ?_⟩
  by_cases e : o < us.length
  · rw [List.getElem_append_left e]
    exact (h.el o e).other h.row (by decide) hg
  · have e2 : o = us.length := by simp at ho; omega
    subst e2
    rw [List.getElem_append_right (by omega)]
    simpa using hu.other h.row (by decide) hg
theorem TO.mono {B B' m : Nat} {F : Nat → Nat → Bool} {W : World} {v : Value} {us : List Value} (h : TO B m F W v us) (hB : B' ≤ B) : TO B' m F W v us := ⟨row_mono h.row hB, h.el⟩
theorem TO.tb {B m : Nat} {F : Nat → Nat → Bool} {W : World} {v : Value} {us : List Value} (h : TO B m F W v us) : TB W v us.length m F := by
  rcases h.row.2 with ⟨h1, h0⟩ | ⟨g, cap, cur, rfl, hb, hg, h1, h2, h3, h4⟩
  · rw [h0, h1]
    exact ⟨none, 0, rfl, Nat.le_refl _, .inl rfl⟩
  · refine ⟨_, cap, rfl, h1, .inr ⟨g, rfl, fun o ho => ?_⟩⟩
    obtain ⟨r, rc, e1, e2, e3, e4⟩ := (h.el o ho).cells
    refine ⟨r, rc, ?_, e2, e4⟩
    have := World.ownsRow.cellAt h.row o (by omega)
    rw [cel1_map] at this
    rw [this, List.getElem?_eq_getElem ho, e1]
theorem mayF_eq (s : Su) (bs : List Int) {o k : Nat} (ho : o < bs.length) (hk : k < (asrF s.ps).length) : mayF (mayL s bs) o k = !confF s (asrF s.ps)[k] bs[o] := by
  unfold mayF rowF
  rw [getD_at (by rw [mayL_len]; exact ho), mayL_at s bs (by rw [mayL_len]; exact ho) ho]
  unfold mayR
  rw [Bool.eq_iff_iff, decide_eq_true_iff, List.mem_filter, List.mem_range, getD_at hk]
  exact ⟨fun h => h.2, fun h => ⟨hk, h⟩⟩
set_option maxRecDepth 100000 in
set_option maxHeartbeats 8000000 in
theorem table_any (c0 c1 c2 c3 c4 c5 bv : Value) (s : Su) (bs : List Int) (w : World) (h : SuV w c0 c1 c2 c3 c4 c5 s) (hbs : IRd w bv bs) (hn : bs.length ≤ 1000) :
    Calls Try.prog 40 #[.agg #[c0, c1, c2, c3, c4, c5], bv] w fun e w' => ∃ v us, e = .returned v ∧ Ext w w' ∧ TO w.heap.size (asrF s.ps).length (mayF (mayL s bs)) w' v us ∧ us.length = bs.length := by
  have hS := h
  obtain ⟨hps, hhs, hrs, ⟨q1, rfl⟩, ⟨q4, rfl⟩, ⟨q5, rfl⟩, hok⟩ := h
  obtain ⟨b0, n0, rfl⟩ := hps.form
  obtain ⟨b2, n2, rfl⟩ := hhs.form
  obtain ⟨b3, n3, rfl⟩ := hrs.form
  obtain ⟨A, cap, rfl, hbl, hbo, hbc⟩ := id hbs
  have hal : (asrF s.ps).length ≤ 1000 := by
    have h1 := asrR_len s.ps []
    have h2 : (asrF s.ps).length = (asrR s.ps []).length := (srtZ_perm _).length_eq
    have h3 := hok.np
    omega
  have HAO : Hid (∀ x ∈ asrF s.ps, OkI x) := Lib.hid fun x hx => by
    obtain ⟨-, p, hp, rfl⟩ := asrF_mem.1 hx
    exact (hok.ps p hp).1
  have HBO := Lib.hid hbo; have HBC := Lib.hid hbc
  clear hps hhs hrs hok hbo hbc
  go_enter Try.func40, Try.ntmps40
  go_upto_region 1 with (fail)
  obtain ⟨v0, hv0⟩ : ∃ v0, v0 = Value.slice b0 s.ps.length n0 := ⟨_, rfl⟩
  obtain ⟨v2, hv2⟩ : ∃ v2, v2 = Value.slice b2 s.hs.length n2 := ⟨_, rfl⟩
  obtain ⟨v3, hv3⟩ : ∃ v3, v3 = Value.slice b3 s.rs.length n3 := ⟨_, rfl⟩
  rw [← hv0, ← hv2, ← hv3] at hS ⊢
  have hx1 : Ext w (w.alloc (.cells #[v0, .int .i64 q1, v2, v3, .int .i64 q4, .int .i64 q5] 28)) := Ext.alloc (Ext.refl _) _
  have hb1 := alloc_at w (.cells #[v0, .int .i64 q1, v2, v3, .int .i64 q4, .int .i64 q5] 28)
  obtain ⟨D, hD⟩ : ∃ D, D = w.heap.size := ⟨_, rfl⟩
  rw [← hD] at hb1 ⊢
  clear hD
  generalize w.alloc (.cells #[v0, .int .i64 q1, v2, v3, .int .i64 q4, .int .i64 q5] 28) = W1 at *
  have HS := Lib.hid (hS.ext hx1)
  have HB := Lib.hid hb1; have HX1 := Lib.hid hx1
  have HC : Hid (∀ wz, Ext W1 wz → wz.cell? ⟨D, 0, none⟩ = some v0 ∧ wz.cell? ⟨D, 1, none⟩ = some (.int .i64 q1) ∧ wz.cell? ⟨D, 2, none⟩ = some v2 ∧ wz.cell? ⟨D, 3, none⟩ = some v3 ∧ wz.cell? ⟨D, 4, none⟩ = some (.int .i64 q4) ∧ wz.cell? ⟨D, 5, none⟩ = some (.int .i64 q5)) := Lib.hid fun wz hz => by
    have h1 := (hz.block _ (Rg.lt_of_heap HB.out)).trans HB.out
    exact ⟨cell_of_row wz D 0 _ _ _ h1, cell_of_row wz D 1 _ _ _ h1, cell_of_row wz D 2 _ _ _ h1, cell_of_row wz D 3 _ _ _ h1, cell_of_row wz D 4 _ _ _ h1, cell_of_row wz D 5 _ _ _ h1⟩
  have HAS := Lib.hid (Assessors_any _ _ _ _ _ _ s W1 HS.out)
  obtain ⟨g0, g1, g2, g3, g4, g5⟩ := HC.out W1 (Ext.refl _)
  clear hb1 hx1 hS hv0 hv2 hv3
  go_upto_region 2 with (go_at_call 41; (with_reducible refine HAS.out.mono ?_); rintro e wa ⟨av, rfl, hxa, hra⟩)
  obtain ⟨aA, ac, rfl, -, -, haA⟩ := row_formI hra
  have HXA := Lib.hid hxa; have HAA := Lib.hid haA
  clear hxa hra haA g0 g1 g2 g3 g4 g5 HAS
  go_upto_region 4 with (fail)
  obtain ⟨ids, hids⟩ : ∃ ids, ids = asrF s.ps := ⟨_, rfl⟩
  obtain ⟨F, hF⟩ : ∃ F, F = mayF (mayL s bs) := ⟨_, rfl⟩
  have HME : Hid (∀ (o k : Nat) (ho : o < bs.length) (hk : k < ids.length), F o k = !confF s ids[k] bs[o]) := Lib.hid (by subst hids hF; exact fun o k ho hk => mayF_eq s bs ho hk)
  have HAA : Hid (ids = [] ∧ aA = none ∧ ac = 0 ∨ ∃ g, aA = some ⟨g, 0, none⟩ ∧ W1.heap.size ≤ g ∧ ∀ k (h : k < ids.length), wa.cell? ⟨g, k, none⟩ = some (.int .i64 ids[k])) := Lib.hid (by subst hids; exact HAA.out)
  have HAO : Hid (∀ x ∈ ids, OkI x) := Lib.hid (by rw [hids]; exact HAO.out)
  rw [← hids] at hal ⊢
  have HIDS := Lib.hid hids; have HF := Lib.hid hF
  clear hids hF
  go_loopw [6, 7] (fun ov iv wr => ∃ (i : Nat) (us : List Value), iv = .int .i64 i ∧ i ≤ bs.length ∧ us.length = i ∧ Hid (TO wa.heap.size ids.length F wr ov us) ∧ Hid (Ext wa wr)) (fun _ iv _ => bs.length - (iof iv).toNat)
  case atStart => exact ⟨0, [], rfl, by omega, rfl, Lib.hid (TO.nil _ _ _ _), Lib.hid (Ext.refl _)⟩
  case round =>
    rename World => wo
    obtain ⟨i, us, rfl, hi, hl, HT, HX⟩ := hrel
    obtain ⟨oA, oc, rfl⟩ := row_formG HT.out.row
    subst hl
    by_cases hil : us.length < bs.length
    · obtain ⟨bb, boff, rfl, hbcell⟩ := HBC.out.resolve_left (fun h0 => by rw [h0] at hil; simp at hil)
      have HBV : Hid (∀ wz, Ext wa wz → wz.cell? ⟨bb, boff + us.length, none⟩ = some (.int .i64 bs[us.length])) := Lib.hid fun wz hz => ((HX1.out.trans (HXA.out.trans hz)).cells.1 _ _ (World.block_lt_of_cell? _ _ (hbcell _ hil))).trans (hbcell _ hil)
      have HBI := Lib.hid (HBO.out _ (List.getElem_mem hil))
      have HMI := Lib.hid (fun k hk => HME.out us.length k hil hk)
      generalize bs[us.length] = b at *
      have hmk := make_87 wo ids.length (by omega)
      have hx2 : Ext wo (wo.alloc (.cells (tabV (fun _ => .bool false) ids.length) 4)) := Ext.alloc (Ext.refl _) _
      have hb2 := alloc_at wo (.cells (tabV (fun _ => .bool false) ids.length) 4)
      go_upto_region 8 with (fail)
      obtain ⟨rb, hrb⟩ : ∃ rb, rb = wo.heap.size := ⟨_, rfl⟩
      rw [← hrb] at hb2 ⊢
      have HRB := Lib.hid hrb; have HX2 := Lib.hid hx2; have HB2 := Lib.hid hb2
      clear hrb hx2 hb2 hmk hbcell
      generalize wo.alloc (.cells (tabV (fun _ => .bool false) ids.length) 4) = W2 at *
      go_loopw [9] (fun kv wq => ∃ k : Nat, kv = .int .i64 k ∧ k ≤ ids.length ∧ Hid (wq.heap[rb]? = some (.cells (tabV (fun j => .bool (if j < k then F us.length j else false)) ids.length) 4)) ∧ Hid (Ext wo wq)) (fun kv _ => ids.length - (iof kv).toNat)
      case atStart => exact ⟨0, rfl, by omega, Lib.hid (by rw [HB2.out, tabV_congr fun j _ => ?_]; rw [if_neg (Nat.not_lt_zero _)]), HX2⟩
      case round =>
        obtain ⟨k, rfl, hk, HR, HXQ⟩ := hrel
        clear HX2 HB2
        by_cases hkl : k < ids.length
        · obtain ⟨ag, rfl, hag, hacell⟩ := HAA.out.resolve_left (fun h0 => by rw [h0.1] at hkl; simp at hkl)
          have HEX : Hid (∀ wz, Ext wr wz → Ext wa wz) := Lib.hid fun wz hz => HX.out.trans (HXQ.out.trans hz)
          have HMK := Lib.hid (HMI.out k hkl)
          have HSS : Hid (∀ wz, Ext wr wz → wz.cell? ⟨D, 0, none⟩ = some v0 ∧ wz.cell? ⟨D, 1, none⟩ = some (.int .i64 q1) ∧ wz.cell? ⟨D, 2, none⟩ = some v2 ∧ wz.cell? ⟨D, 3, none⟩ = some v3 ∧ wz.cell? ⟨D, 4, none⟩ = some (.int .i64 q4) ∧ wz.cell? ⟨D, 5, none⟩ = some (.int .i64 q5) ∧ wz.cell? ⟨ag, k, none⟩ = some (.int .i64 ids[k]) ∧ wz.cell? ⟨bb, boff + us.length, none⟩ = some (.int .i64 b)) := Lib.hid fun wz hz => by
            obtain ⟨a0, a1, a2, a3, a4, a5⟩ := HC.out wz (HXA.out.trans (HEX.out wz hz))
            exact ⟨a0, a1, a2, a3, a4, a5, ((HEX.out wz hz).cells.1 _ _ (World.block_lt_of_cell? _ _ (hacell k hkl))).trans (hacell k hkl), HBV.out wz (HEX.out wz hz)⟩
          have HSB : Hid (∀ wz v, Ext wr wz → (wz.setCell ⟨rb, k, none⟩ v).cell? ⟨D, 0, none⟩ = some v0 ∧ (wz.setCell ⟨rb, k, none⟩ v).cell? ⟨D, 1, none⟩ = some (.int .i64 q1) ∧ (wz.setCell ⟨rb, k, none⟩ v).cell? ⟨D, 2, none⟩ = some v2 ∧ (wz.setCell ⟨rb, k, none⟩ v).cell? ⟨D, 3, none⟩ = some v3 ∧ (wz.setCell ⟨rb, k, none⟩ v).cell? ⟨D, 4, none⟩ = some (.int .i64 q4) ∧ (wz.setCell ⟨rb, k, none⟩ v).cell? ⟨D, 5, none⟩ = some (.int .i64 q5) ∧ (wz.setCell ⟨rb, k, none⟩ v).cell? ⟨ag, k, none⟩ = some (.int .i64 ids[k]) ∧ (wz.setCell ⟨rb, k, none⟩ v).cell? ⟨bb, boff + us.length, none⟩ = some (.int .i64 b)) := Lib.hid fun wz v hz => by
            obtain ⟨a0, a1, a2, a3, a4, a5, a6, a7⟩ := HSS.out wz hz
            have n1 : rb ≠ D := by have := Rg.lt_of_heap HB.out; have := (HXA.out.trans HX.out).size; have := HRB.out; omega
            have n2 : rb ≠ ag := by have := World.block_lt_of_cell? wa _ (hacell k hkl); have := HX.out.size; have := HRB.out; simp only at *; omega
            have n3 : rb ≠ bb := by have := World.block_lt_of_cell? wa _ (HBV.out wa (Ext.refl _)); have := HX.out.size; have := HRB.out; simp only at *; omega
            exact ⟨(World.cell?_setCell_far _ _ _ _ n1).trans a0, (World.cell?_setCell_far _ _ _ _ n1).trans a1, (World.cell?_setCell_far _ _ _ _ n1).trans a2, (World.cell?_setCell_far _ _ _ _ n1).trans a3, (World.cell?_setCell_far _ _ _ _ n1).trans a4, (World.cell?_setCell_far _ _ _ _ n1).trans a5, (World.cell?_setCell_far _ _ _ _ n2).trans a6, (World.cell?_setCell_far _ _ _ _ n3).trans a7⟩
          have HCF : Hid (∀ wz, Ext wr wz → Calls Try.prog 16 #[.agg #[v0, .int .i64 q1, v2, v3, .int .i64 q4, .int .i64 q5], .int .i64 ids[k], .int .i64 b] wz fun e w' => e = .returned (.bool (confF s ids[k] b)) ∧ Ext wz w') := Lib.hid fun wz hz => refConflict_any _ _ _ _ _ _ s ids[k] b wz (HS.out.ext (HXA.out.trans (HEX.out wz hz))) (HAO.out _ (List.getElem_mem hkl))
          have HST : Hid (∀ wz, Ext wr wz → wz.cell? ⟨rb, k, none⟩ = some (.bool false) ∧ wz.frozen? ⟨rb, k, none⟩ = false) := Lib.hid fun wz hz => by
            have h1 := (hz.block _ (Rg.lt_of_heap HR.out)).trans HR.out
            exact ⟨by rw [tab_cell h1 hkl, if_neg (Nat.lt_irrefl _)], tab_frozen h1⟩
          generalize ids[k] = id at *
          generalize confF s id b = c at *
          obtain ⟨s0, s1, s2, s3, s4, s5, s6, s7⟩ := HSS.out wr (Ext.refl _)
          obtain ⟨t0, t0f⟩ := HST.out wr (Ext.refl _)
          clear hacell hag
          go_upto_region 10 with (fail)
          go_region_held3 (fun w' => w'.cell? ⟨D, 0, none⟩ = some v0 ∧ w'.cell? ⟨D, 1, none⟩ = some (.int .i64 q1) ∧ w'.cell? ⟨D, 2, none⟩ = some v2 ∧ w'.cell? ⟨D, 3, none⟩ = some v3 ∧ w'.cell? ⟨D, 4, none⟩ = some (.int .i64 q4) ∧ w'.cell? ⟨D, 5, none⟩ = some (.int .i64 q5) ∧ w'.cell? ⟨ag, k, none⟩ = some (.int .i64 id) ∧ w'.cell? ⟨bb, boff + us.length, none⟩ = some (.int .i64 b))
            (first | exact HSB.out _ _ hx6' | exact HSS.out _ (by with_reducible repeat (first | exact Ext.refl _ | assumption | apply Ext.drewN | apply Ext.drew | apply Ext.alloc | (refine Ext.setCell ?_ (by simp <;> omega) _) | (refine Ext.trans ?_ (by assumption)))) | go_keep)
            (first
              | (go_at_call 16; (with_reducible refine (HCF.out _ (by with_reducible repeat (first | exact Ext.refl _ | assumption | apply Ext.drewN | apply Ext.drew | apply Ext.alloc | (refine Ext.setCell ?_ (by simp <;> omega) _) | (refine Ext.trans ?_ (by assumption))))).mono ?_); rintro e w6 ⟨rfl, hx6⟩; have hx6' : Ext wr w6 := (by with_reducible repeat (first | exact Ext.refl _ | assumption | apply Ext.drewN | apply Ext.drew | apply Ext.alloc | (refine Ext.setCell ?_ (by simp <;> omega) _) | (refine Ext.trans ?_ (by assumption)))); obtain ⟨t1, t1f⟩ := HST.out w6 hx6'))
          have HXF : Hid (Ext wo w6) := Lib.hid (HXQ.out.trans hx6')
          have HR6 := Lib.hid ((hx6'.block _ (Rg.lt_of_heap HR.out)).trans HR.out)
          have hset := tab_put HR6.out k (.bool !c)
          have HSE := Lib.hid hset
          have HXG : Hid (Ext wo (w6.setCell ⟨rb, k, none⟩ (.bool !c))) := Lib.hid (Ext.setCell HXF.out (by have hqq := HRB.out; show wo.heap.size ≤ rb; omega) _)
          clear hx6 hx6' hset s0 s1 s2 s3 s4 s5 s6 s7 t0 t0f t1 t1f HCF HSS HST HEX HSB
          go_wp2_with (fail)
          exact ⟨⟨k + 1, by simp, by omega, Lib.hid (by
            rw [HSE.out, tabV_congr fun j hj => ?_]
            by_cases e : j = k
            · subst e; rw [if_pos rfl, if_pos (by omega), HMK.out]
            · rw [if_neg e]
              by_cases e2 : j < k
              · rw [if_pos e2, if_pos (by omega)]
              · rw [if_neg e2, if_neg (by omega)]), HXG⟩, by simp [iof]; omega⟩
        · obtain rfl : k = ids.length := by omega
          have HROW : Hid (RB wr (.slice (some ⟨rb, 0, none⟩) ids.length ids.length) ids.length (F us.length)) := Lib.hid ⟨rb, _, _, rfl, Nat.le_refl _, HR.out, fun j hj => by rw [tabV_get _ hj, if_pos hj]⟩
          have HT2 := Lib.hid (HT.out.ext HXQ.out)
          have hxa : Ext wr (wr.alloc (.cells #[.slice (some ⟨rb, 0, none⟩) ids.length ids.length] 87)) := Ext.alloc (Ext.refl _) _
          have HT3 := Lib.hid (HT2.out.ext hxa); have HRW := Lib.hid (HROW.out.ext hxa)
          have HXX : Hid (Ext wa (wr.alloc (.cells #[.slice (some ⟨rb, 0, none⟩) ids.length ids.length] 87))) := Lib.hid (HX.out.trans (HXQ.out.trans hxa))
          have hsz : wa.heap.size ≤ (wr.alloc (.cells #[.slice (some ⟨rb, 0, none⟩) ids.length ids.length] 87)).heap.size := HXX.out.size
          have hus : us.length < 1000000 := by omega
          clear hxa HT2 HROW
          go_wp2_with (at_builtin; (refine append_g (cs := cel1) (z := .slice none 0 0) 84 87 24 Try.underlying84 (by kernel_rfl) (by rfl) (by decide) (by decide) rfl (.tmp 41) (.tmp 43) rfl wa.heap.size (.slice oA us.length oc) us (by rfl) HT3.out.row wr.heap.size (.slice (some ⟨rb, 0, none⟩) ids.length ids.length) ⟨rfl, by simp [cel1, Value.oneCell']⟩ (by rfl) (alloc_at wr _) hus hsz ?_; intro g7 cap7 w7 hr7 hg7 hat7; have HT7 := Lib.hid (HT3.out.push HRW.out hg7 hr7); have HX7 : Hid (Ext wa w7) := Lib.hid (row_grown HXX.out HT3.out.row (Nat.le_refl _) hg7); clear hr7 hg7 hat7))
          exact ⟨⟨us.length + 1, _, by simp, by omega, by simp, HT7, HX7⟩, by simp [iof]; omega⟩
    · have HLE : Hid (us.length = bs.length) := Lib.hid (by omega)
      go_wp2_with (fail)
      go_ret
      exact ⟨_, us, rfl, HX1.out.trans (HXA.out.trans HX.out), by rw [← HIDS.out, ← HF.out]; exact HT.out.mono (HX1.out.trans HXA.out).size, HLE.out⟩
end Go.Proofs.Ytlekdhhgjhakgaa
