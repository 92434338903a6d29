/-
  Joined: the lemmas of this claim that other texts of it use, part 5. Nothing is asked.
-/
import Derived.Test.YtlekdhhgjhakgaaJnD
import Derived.Deep.RegionHeld3
import Derived.BigQuiet
import Derived.ProofKit
import Derived.OpenShut
import Derived.Below
import Derived.ChangeSame
import Derived.ReadAgain
import Derived.ChangeSlices
import Derived.ChangeReads
import Derived.ChangeOld
import Derived.ChangeStays
namespace Go.Proofs.Ytlekdhhgjhakgaa
set_option linter.unusedVariables false
set_option linter.unusedSimpArgs false
open Go.RowKit
theorem picks_succ (M : List (List Nat)) (m each L i : Nat) : picks M m each L (i + 1) = picks M m each L i ++ [pick M m each L (picks M m each L i)] := rfl
theorem dut_take (ids bs : List Int) (M : List (List Nat)) (m each L i : Nat) (h : i < bs.length) : dutF ids (bs.take (i + 1)) (picks M m each L (i + 1)) = dutF ids (bs.take i) (picks M m each L i) ++ (pick M m each L (picks M m each L i)).map fun k => (ids.getD k 0, bs[i]) := by
  rw [List.take_succ_eq_append_getElem h, picks_succ]
  exact dutF_snoc ids _ _ _ _ (by rw [picks_len, List.length_take]; omega)
/-- The last row that was chosen. -/
theorem AS.last {w0 : World} {p bd bx bl L : Nat} {W : World} {fv lv : Value} {us : List Value} {R : List (List Nat)} {r : List Nat} (h : AS w0 p bd bx bl L W fv (us ++ [lv]) (R ++ [r])) : W.ownsRow w0.heap.size 3 1 lv (natI r).length ((natI r).flatMap celI) := by
  have hl : us.length = R.length := by have := h.rows.len; simpa using this
  have h1 := h.rows.el R.length (by simp) (by simp; omega)
  have e1 : (us ++ [lv])[R.length]'(by simp; omega) = lv := by
    rw [List.getElem_append_right (by omega)]
    simp [hl]
  have e2 : (R ++ [r])[R.length]'(by simp) = r := by
    rw [List.getElem_append_right (by omega)]
    simp
  rw [e1, e2] at h1
  exact h1
theorem AS.form {w0 : World} {p bd bx bl L : Nat} {W : World} {fv lv : Value} {us : List Value} {R : List (List Nat)} {r : List Nat} (h : AS w0 p bd bx bl L W fv (us ++ [lv]) (R ++ [r])) : ∃ g cap, fv = .slice (some ⟨g, 0, none⟩) (R.length + 1) cap ∧ W.cell? ⟨g, R.length, none⟩ = some lv := by
  have hl : us.length = R.length := by have := h.rows.len; simpa using this
  rcases h.rows.row.2 with ⟨-, h0⟩ | ⟨g, cap, cur, rfl, hB, hg, h1, h2, h3, h4⟩
  · simp at h0
  · refine ⟨g, cap, by simp [hl], ?_⟩
    rw [World.ownsRow.cellAt h.rows.row R.length (by simp; omega), cel1_map, List.getElem?_append_right (by omega)]
    simp [hl]
theorem AS.row56 {w0 : World} {p bd bx bl L B n : Nat} {W W' : World} {fv ov : Value} {us xs : List Value} {R : List (List Nat)} (h : AS w0 p bd bx bl L W fv us R) (hr : W.ownsRow B 56 2 ov n xs) (hB : w0.heap.size ≤ B) (hg : W.grownBy W' ov.ownBlock) : AS w0 p bd bx bl L W' fv us R := by
  have k : ∀ b c t, 56 ≠ t → W.heap[b]? = some (Obj.cells c t) → W'.heap[b]? = some (Obj.cells c t) := fun b c t ht hk => row_other hr (fun e => ht e.symm) hg hk
  have kr : ∀ {v : Value} {xs : List Value} {n B E sz : Nat}, E ≠ 56 → W.ownsRow B E sz v n xs → W'.ownsRow B E sz v n xs := fun {v xs n B E sz} hE hv => row_keepK hv fun g e => by
    obtain ⟨cs, hc⟩ := row_block hv e
    exact (row_other hr hE hg hc).trans hc.symm
  exact ⟨row_grown h.low hr hB hg, k _ _ _ (by decide) h.atd, k _ _ _ (by decide) h.atx, k _ _ _ (by decide) h.atl, ⟨kr (by decide) h.rows.row, h.rows.len, fun i a b => kr (by decide) (h.rows.el i a b)⟩, h.ge⟩
set_option maxRecDepth 100000 in
set_option maxHeartbeats 8000000 in
theorem Assign_any (c0 c1 c2 c3 c4 c5 bv : Value) (s : Su) (bs : List Int) (each : Int) (w : World) (h : SuV w c0 c1 c2 c3 c4 c5 s) (hbs : IRd w bv bs) (hn : bs.length ≤ 1000000) :
    Calls Try.prog 19 #[.agg #[c0, c1, c2, c3, c4, c5], bv, .int .i64 each] w fun e w' => ∃ v, e = .returned (.tuple #[v, .int .i64 (openE s bs each)]) ∧ Ext w w' ∧
      (openE s bs each = 0 → ∃ L, Least (mayL s bs) (asrF s.ps).length each.toNat L ∧ w'.ownsRow w.heap.size 56 2 v (asgF s bs each.toNat L).length ((asgF s bs each.toNat L).flatMap reC)) ∧ (openE s bs each ≠ 0 → v = .slice none 0 0) := by
  have hS := h
  obtain ⟨hps, hhs, hrs, ⟨q1, rfl⟩, ⟨q4, rfl⟩, ⟨q5, rfl⟩, hok⟩ := h
  obtain ⟨b0, n0, rfl⟩ := hps.form
  obtain ⟨b2, n2, rfl⟩ := hhs.form
  obtain ⟨b3, n3, rfl⟩ := hrs.form
  obtain ⟨A, cap, rfl⟩ : ∃ A cap, bv = .slice A bs.length cap := by obtain ⟨A, cap, h1, -⟩ := hbs; exact ⟨A, cap, h1⟩
  have hal : (asrF s.ps).length ≤ 1000 := by
    have h1 := asrR_len s.ps []
    have h2 : (asrF s.ps).length = (asrR s.ps []).length := (srtZ_perm _).length_eq
    have h3 := hok.np
    omega
  clear hps hhs hrs hok
  go_enter Try.func19, Try.ntmps19
  go_upto_region 1 with (fail)
  obtain ⟨v0, hv0⟩ : ∃ v0, v0 = Value.slice b0 s.ps.length n0 := ⟨_, rfl⟩
  obtain ⟨v2, hv2⟩ : ∃ v2, v2 = Value.slice b2 s.hs.length n2 := ⟨_, rfl⟩
  obtain ⟨v3, hv3⟩ : ∃ v3, v3 = Value.slice b3 s.rs.length n3 := ⟨_, rfl⟩
  rw [← hv0, ← hv2, ← hv3] at hS ⊢
  have hx1 : Ext w (w.alloc (.cells #[v0, .int .i64 q1, v2, v3, .int .i64 q4, .int .i64 q5] 28)) := Ext.alloc (Ext.refl _) _
  have hb1 := alloc_at w (.cells #[v0, .int .i64 q1, v2, v3, .int .i64 q4, .int .i64 q5] 28)
  obtain ⟨D, hD⟩ : ∃ D, D = w.heap.size := ⟨_, rfl⟩
  rw [← hD] at hb1 ⊢
  generalize w.alloc (.cells #[v0, .int .i64 q1, v2, v3, .int .i64 q4, .int .i64 q5] 28) = W1 at *
  have HX1 := Lib.hid hx1; have HBS := Lib.hid (hbs.ext hx1); have HDD := Lib.hid hD
  have e0 := cell_of_row W1 D 0 _ _ _ hb1
  have e1 := cell_of_row W1 D 1 _ _ _ hb1
  have e2 := cell_of_row W1 D 2 _ _ _ hb1
  have e3 := cell_of_row W1 D 3 _ _ _ hb1
  have e4 := cell_of_row W1 D 4 _ _ _ hb1
  have e5 := cell_of_row W1 D 5 _ _ _ hb1
  change W1.cell? _ = some v0 at e0
  change W1.cell? _ = some (.int .i64 q1) at e1
  change W1.cell? _ = some v2 at e2
  change W1.cell? _ = some v3 at e3
  change W1.cell? _ = some (.int .i64 q4) at e4
  change W1.cell? _ = some (.int .i64 q5) at e5
  have HOP := Lib.hid (open_any _ _ _ _ _ _ _ s bs each W1 (hS.ext hx1) HBS.out hn)
  clear hb1 hx1 hS hv0 hv2 hv3 hbs hD
  obtain ⟨er, her⟩ : ∃ er, er = openE s bs each := ⟨_, rfl⟩
  rw [← her] at HOP
  have HER := Lib.hid her
  clear her
  by_cases hz : er = 0
  · subst hz
    have HOP2 : Hid (Calls Try.prog 32 #[.agg #[v0, .int .i64 q1, v2, v3, .int .i64 q4, .int .i64 q5], .slice A bs.length cap, .int .i64 each] W1 fun e w' => ∃ p iv mv us, e = .returned (.tuple #[.pointer (some ⟨p, 0, none⟩), .int .i64 0]) ∧ Ext W1 w' ∧ W1.heap.size ≤ p ∧ Dk W1.heap.size w' p (asrF s.ps) (mayL s bs) each iv mv us) := Lib.hid (Calls.mono HOP.out fun e w' ⟨pv, h1, h2, h3, _⟩ => by
      obtain ⟨p, iv, mv, us, rfl, h4, h5⟩ := h3 rfl
      exact ⟨p, iv, mv, us, h1, h2, h4, h5⟩)
    clear HOP
    go_upto_region 4 with (go_at_call 32; (with_reducible refine HOP2.out.mono ?_); rintro e w2 ⟨p, iv, mv, us, rfl, hx2, hpge, hdk⟩)
    have hrf := right_facts (open_right HER.out.symm)
    obtain ⟨-, hoz2, hoz3⟩ := open_zero HER.out.symm
    obtain ⟨en, rfl⟩ := Int.eq_ofNat_of_zero_le (Int.le_of_lt hrf.2.2.2.1)
    have hbn : bs.length ≤ 40 := hrf.2.1
    have he13 : en ≤ 13 := by have := hrf.2.2.2.2; omega
    have he0 : 0 < en := by have := hrf.2.2.2.1; omega
    have hids : en ≤ (asrF s.ps).length := by omega
    have hml := mayL_len s bs
    have hx3 : Ext w2 (w2.alloc (.cells #[.pointer (some ⟨p, 0, none⟩)] 70)) := Ext.alloc (Ext.refl _) _
    have hbd := alloc_at w2 (.cells #[.pointer (some ⟨p, 0, none⟩)] 70)
    obtain ⟨bd, hbd1⟩ : ∃ bd, bd = w2.heap.size := ⟨_, rfl⟩
    rw [← hbd1] at hbd ⊢
    have HDK := Lib.hid (hdk.ext hx3); have HX3 := Lib.hid (HX1.out.trans (hx2.trans hx3)); have HBD := Lib.hid hbd; have HB3 := Lib.hid (HBS.out.ext (hx2.trans hx3))
    clear hx2 hx3 hbd hbd1 hdk HOP2 e0 e1 e2 e3 e4 e5 HBS hpge
    generalize w2.alloc (.cells #[.pointer (some ⟨p, 0, none⟩)] 70) = W2 at *
    have HM := Lib.hid (mayL_ok s bs)
    have HRF := Lib.hid hrf
    obtain ⟨ms, hms⟩ : ∃ ms, ms = mayL s bs := ⟨_, rfl⟩
    obtain ⟨ids, hidq⟩ : ∃ ids, ids = asrF s.ps := ⟨_, rfl⟩
    rw [← hms, ← hidq] at HDK HM
    rw [← hms] at hml hoz3
    rw [← hidq] at hal hids
    have HMS := Lib.hid hms; have HIQ := Lib.hid hidq; have HML := Lib.hid hml
    have hm2 : 0 < ids.length ∧ ids.length ≤ 1000 := ⟨by omega, hal⟩
    have hmn : ms.length ≤ 40 := by omega
    have HLD := Lib.hid (load_any p ids ms en iv mv us W2 (HDK.out.mono (Nat.zero_le _)) HM.out hm2 (by omega) he13 hids fun l hl => by have := hoz3 l hl; omega)
    clear hms hidq hml hoz2 hoz3 hrf hal
    have c0 : W2.cell? ⟨bd, 0, none⟩ = some (.pointer (some ⟨p, 0, none⟩)) := cell_of_row W2 bd 0 _ _ _ HBD.out
    go_upto_region 7 with (go_at_call 33; (with_reducible refine HLD.out.mono ?_); rintro e w3 ⟨L, rfl, hL, hLn, hx3⟩)
    have hx4 : Ext w3 ((w3.alloc (.cells #[.int .i64 L] 3)).alloc (.cells #[.slice none 0 0] 74)) := Ext.alloc (Ext.alloc (Ext.refl _) _) _
    obtain ⟨q1', q2'⟩ := two_blocks w3 (.cells #[.int .i64 L] 3) (.cells #[.slice none 0 0] 74)
    obtain ⟨bl, hbl⟩ : ∃ bl, bl = w3.heap.size := ⟨_, rfl⟩
    obtain ⟨bx, hbx⟩ : ∃ bx, bx = w3.heap.size + 1 := ⟨_, rfl⟩
    rw [← hbx] at q2' ⊢
    rw [← hbl] at q1' ⊢
    generalize (w3.alloc (.cells #[.int .i64 L] 3)).alloc (.cells #[.slice none 0 0] 74) = W4 at *
    have HA4 : Hid (AS w3 p bd bx bl L W4 (.slice none 0 0) [] (picks ms ids.length en L 0)) := Lib.hid ⟨hx4, ((hx3.trans hx4).block _ (Rg.lt_of_heap HBD.out)).trans HBD.out, q2', q1', ⟨⟨rfl, .inl ⟨rfl, rfl⟩⟩, rfl, fun i h1 h2 => absurd h2 (Nat.not_lt_zero _)⟩, by omega⟩
    have HDK3 := Lib.hid ((HDK.out.ext hx3).mono (Nat.zero_le _)); have HX4 := Lib.hid (HX3.out.trans hx3); have HB4 := Lib.hid (HB3.out.ext hx3); have HLL := Lib.hid hL
    have hL2 : L ≤ 1000 := by omega
    clear hx3 hx4 q1' q2' hbl hbx HDK HX3 HB3 hL c0 HBD HLD
    go_wp2_with (fail)
    go_loopw [12, 31] (fun ov kv wr => ∃ (i : Nat) (fv : Value) (us' : List Value), kv = .int .i64 i ∧ i ≤ bs.length ∧ Hid (AS w3 p bd bx bl L wr fv us' (picks ms ids.length en L i)) ∧ Hid (wr.ownsRow w3.heap.size 56 2 ov (dutF ids (bs.take i) (picks ms ids.length en L i)).length ((dutF ids (bs.take i) (picks ms ids.length en L i)).flatMap reC))) (fun _ kv _ => bs.length - (iof kv).toNat)
    case atStart => exact ⟨0, _, _, rfl, by omega, HA4, Lib.hid ⟨by simp [dutF], .inl ⟨rfl, by simp [dutF]⟩⟩⟩
    case round =>
      rename World => wo
      obtain ⟨i, fv, us', rfl, hi, HA, HO⟩ := hrel
      clear HA4
      have hsz := HA.out.low.size
      by_cases hil : i < bs.length
      · have him : i < ms.length := by rw [HML.out]; exact hil
        obtain ⟨gb, off, rfl, hgl, hcc⟩ := (HB4.out.rowI).resolve_left (fun h0 => by rw [h0] at hil; simp at hil)
        have c5 := (HA.out.low.cells.1 gb (off + i) hgl).trans (hcc i hil)
        have HDT := Lib.hid (dut_take ids bs ms ids.length en L i hil)
        have OB := Lib.hid (ird_ok HB4.out _ (List.getElem_mem hil))
        generalize bs[i] = b at *
        have HPL : Hid ((picks ms ids.length en L i).length = i) := Lib.hid (picks_len _ _ _ _ _)
        have hpo := picks_ok HM.out HLL.out.can i (by omega)
        have hpk := pick_ok HM.out hpo.1 hpo.2 (by rw [HPL.out]; exact him)
        have HPS := Lib.hid (picks_succ ms ids.length en L i)
        obtain ⟨g, gc, hmv, hg, ra, rc, hrow, hel⟩ := mayR_at HDK3.out.may him
        have hSUB := subsets_any w3 p bd bx bl ids ms en L iv mv us HDK3.out HM.out hm2 (by omega) he13 hL2 fv us' (picks ms ids.length en L i) hpo.1 (by rw [HPL.out]; exact him) ra rc hpo.2 wo HA.out (by
          rw [HPL.out, getD_at him]
          exact hel)
        rw [HPL.out, getD_at him] at hSUB
        have HSUB := Lib.hid hSUB
        have HPM : Hid (∀ k ∈ pick ms ids.length en L (picks ms ids.length en L i), k < ids.length) := Lib.hid fun k hk => by
          have h1 := (mem_enum.1 hpk.1).1
          rw [HPL.out, getD_at him] at h1
          exact HM.out.lt _ (List.getElem_mem him) k (h1.subset hk)
        have HPC : Hid ((pick ms ids.length en L (picks ms ids.length en L i)).length = en) := Lib.hid (mem_enum.1 hpk.1).2
        clear hSUB hpk hpo hel
        have c0 : wo.cell? ⟨bd, 0, none⟩ = some (.pointer (some ⟨p, 0, none⟩)) := cell_of_row wo bd 0 _ _ _ HA.out.atd
        have hplt := Rg.lt_of_heap HDK3.out.at_
        have c1 : wo.cell? ⟨p, 1, none⟩ = some (.slice (some ⟨g, 0, none⟩) ms.length gc) := by
          rw [HA.out.low.cells.1 _ _ hplt, cell_of_row w3 p 1 _ _ _ HDK3.out.at_]
          exact congrArg some hmv
        have c2 := (HA.out.low.cells.1 _ _ hg).trans hrow
        clear hcc hrow hmv
        go_upto_region 11 with (go_at_call 34; (with_reducible refine HSUB.out.mono ?_); rintro e w5 ⟨r5, rfl, hk5, fv5, lv5, ha5⟩)
        have HO5 : Hid (w5.ownsRow w3.heap.size 56 2 u12 (dutF ids (bs.take i) (picks ms ids.length en L i)).length ((dutF ids (bs.take i) (picks ms ids.length en L i)).flatMap reC)) := Lib.hid (row_keepK HO.out fun g e => by
          obtain ⟨cs, hc⟩ := row_block HO.out e
          refine hk5.block g (Rg.lt_of_heap hc) (cells_ne hc HA.out.atx (by decide)) fun e2 => ?_
          obtain ⟨cs2, hc2⟩ := row_block HA.out.rows.row e2.symm
          exact cells_ne hc hc2 (by decide) rfl)
        obtain ⟨g5, gc5, rfl, r0⟩ := ha5.form
        rw [HPL.out] at r0
        obtain ⟨lA5, lc5, rfl⟩ := row_formG ha5.last
        rw [HPL.out] at ha5
        have HA5 := Lib.hid ha5
        generalize pick ms ids.length en L (picks ms ids.length en L i) = r at *
        rw [natI_len] at HA5 r0
        have r1 : w5.cell? ⟨bx, 0, none⟩ = some (.slice (some ⟨g5, 0, none⟩) (i + 1) gc5) := cell_of_row w5 bx 0 _ _ _ HA5.out.atx
        clear hk5 ha5 HA HO HSUB c0 c1 c2 c5
        have hrl : r.length ≤ 13 := by rw [HPC.out]; exact he13
        obtain ⟨iA, ic, hiv, hi2, hi3, hi4⟩ := HDK3.out.ids
        subst hiv
        have HI4 := Lib.hid hi4; have HI3 := Lib.hid hi3
        have hdl : (dutF ids (bs.take i) (picks ms ids.length en L i)).length ≤ 600 := by
          have h1 := dutF_len ids (e := en) (bs.take i) (picks ms ids.length en L i) (by rw [HPL.out, List.length_take]; omega) fun q hq => ((picks_ok HM.out HLL.out.can i (by omega)).1.mem HM.out hq).1
          have h2 : (bs.take i).length ≤ 40 := by rw [List.length_take]; omega
          have h3 : en * (bs.take i).length ≤ 13 * 40 := Nat.mul_le_mul he13 h2
          omega
        generalize dutF ids (bs.take i) (picks ms ids.length en L i) = dl at *
        clear hi2 hi3 hi4
        go_wp2_with (fail)
        clear r0 r1
        go_loopw [12, 53] (fun ov tv wq => ∃ t : Nat, tv = .int .i64 t ∧ t ≤ r.length ∧ Hid (AS w3 p bd bx bl L wq (.slice (some ⟨g5, 0, none⟩) (i + 1) gc5) (us' ++ [.slice lA5 r.length lc5]) (picks ms ids.length en L i ++ [r])) ∧ Hid (wq.ownsRow w3.heap.size 56 2 ov (dl ++ (r.take t).map fun k => (ids.getD k 0, b)).length ((dl ++ (r.take t).map fun k => (ids.getD k 0, b)).flatMap reC))) (fun _ tv _ => r.length - (iof tv).toNat)
        case atStart => exact ⟨0, rfl, by omega, HA5, Lib.hid (by simpa using HO5.out)⟩
        case round =>
          obtain ⟨t, rfl, ht, HA, HO⟩ := hrel
          clear HA5 HO5
          by_cases htl : t < r.length
          · obtain ⟨A', c', hAe, -, -, hcells⟩ := row_formI HA.out.last
            injection hAe with hAe1 hAe2 hAe3
            subst hAe1
            clear hAe2 hAe3
            obtain ⟨g6, rfl, -, hc6⟩ := (hcells.resolve_left fun h => by
              have h9 : r.length = 0 := by
                have := congrArg List.length h.1
                rw [natI_len] at this
                exact this
              omega)
            have x0 := hc6 t (by rw [natI_len]; exact htl)
            have hx : (natI r)[t]'(by rw [natI_len]; exact htl) = ((r[t] : Nat) : Int) := by simp [natI]
            rw [hx] at x0
            have hkm := HPM.out r[t] (List.getElem_mem htl)
            have HTK : Hid (r.take (t + 1) = r.take t ++ [r[t]]) := Lib.hid (List.take_succ_eq_append_getElem htl)
            have hlen : (dl ++ (r.take t).map fun k => (ids.getD k 0, b)).length < 1000000 := by rw [List.length_append, List.length_map, List.length_take]; omega
            generalize r[t] = k at *
            obtain ⟨ib, io, rfl, hic⟩ := HI4.out.resolve_left (by intro e; rw [e] at hkm; simp at hkm)
            have x1 := (HA.out.low.cells.1 _ _ (World.block_lt_of_cell? w3 _ (hic k hkm))).trans (hic k hkm)
            have HGD : Hid (ids.getD k 0 = ids[k]) := Lib.hid (getD_at hkm)
            generalize ids[k] = ik at *
            have HNX : Hid (dl ++ (r.take (t + 1)).map (fun k => (ids.getD k 0, b)) = (dl ++ (r.take t).map fun k => (ids.getD k 0, b)) ++ [(ik, b)]) := Lib.hid (by rw [HTK.out, List.map_append, ← List.append_assoc, ← HGD.out]; rfl)
            generalize (dl ++ (r.take t).map fun k => (ids.getD k 0, b)) = cur at *
            have c0 : wr.cell? ⟨bd, 0, none⟩ = some (.pointer (some ⟨p, 0, none⟩)) := cell_of_row wr bd 0 _ _ _ HA.out.atd
            have c1 : wr.cell? ⟨p, 0, none⟩ = some (.slice (some ⟨ib, io, none⟩) ids.length ic) := (HA.out.low.cells.1 _ _ (Rg.lt_of_heap HDK3.out.at_)).trans (cell_of_row w3 p 0 _ _ _ HDK3.out.at_)
            have hxa : Ext wr (wr.alloc (.cells #[.int .i64 ik, .int .i64 b] 56)) := Ext.alloc (Ext.refl _) _
            have HO1 := Lib.hid (row_ext HO.out hxa); have HA1 := Lib.hid (HA.out.ext hxa)
            have hsz : w3.heap.size ≤ (wr.alloc (.cells #[.int .i64 ik, .int .i64 b] 56)).heap.size := HA1.out.low.size
            clear hic hc6 hcells hxa HO
            go_upto_region 15 with (at_builtin; (refine append_g (cs := reC) (z := .agg #[.int .i64 0, .int .i64 0]) 42 56 16 Try.underlying42 (by kernel_rfl) (by rfl) (by decide) (by decide) rfl (.tmp 57) (.tmp 67) rfl w3.heap.size _ cur (by rfl) HO1.out wr.heap.size (ik, b) ⟨rfl, by simp [reC, Value.oneCell']⟩ (by rfl) (alloc_at wr _) hlen hsz ?_; intro g7 cap7 w7 hr7 hg7 hat7))
            have HA7 := Lib.hid (HA1.out.row56 HO1.out (Nat.le_refl _) hg7)
            have HR7 := Lib.hid hr7
            clear hr7 hg7 hat7 HA1 HO1 c0 c1 x0 x1
            go_wp2_with (fail)
            exact ⟨⟨t + 1, by simp, by omega, HA7, Lib.hid (by rw [HNX.out]; exact HR7.out)⟩, by simp [iof]; omega⟩
          · obtain rfl : t = r.length := by omega
            go_wp2_with (fail)
            exact ⟨⟨i + 1, _, _, by simp, by omega, Lib.hid (by rw [HPS.out]; exact HA.out), Lib.hid (by
              have h1 := HO.out
              rw [List.take_length] at h1
              rw [HDT.out]
              exact h1)⟩, by simp [iof]; omega⟩
      · obtain rfl : i = bs.length := by omega
        have HF : Hid (asgF s bs en L = dutF ids (bs.take bs.length) (picks ms ids.length en L bs.length)) := Lib.hid (by rw [List.take_length, HMS.out, HIQ.out]; rfl)
        have HLX : Hid (Ext w wo) := Lib.hid (HX4.out.trans HA.out.low)
        have HSZ : Hid (w.heap.size ≤ w3.heap.size) := Lib.hid HX4.out.size
        go_wp2_with (fail)
        go_ret2
        refine ⟨_, by rw [← HER.out]; rfl, HLX.out, fun _ => ⟨L, ?_, ?_⟩, fun h => absurd HER.out.symm h⟩
        · rw [← HMS.out, ← HIQ.out]
          exact HLL.out
        · have h1 := row_mono HO.out HSZ.out
          rw [show ((en : Int)).toNat = en from rfl, HF.out]
          exact h1
  · have HZ := Lib.hid hz
    go_wp2_with (go_at_call 32; (with_reducible refine HOP.out.mono ?_); rintro e w2 ⟨pv, rfl, hx2, -, hpv⟩; obtain rfl := hpv HZ.out)
    go_ret2
    exact ⟨_, by rw [← HER.out]; rfl, HX1.out.trans (hx2.trans (Ext.alloc (Ext.refl _) _)), fun h => absurd (HER.out.trans h) HZ.out, fun _ => rfl⟩
end Go.Proofs.Ytlekdhhgjhakgaa

namespace Go.Proofs.Ytlekdhhgjhakgaa
set_option linter.unusedVariables false
set_option linter.unusedSimpArgs false
open Go.RowKit
set_option maxRecDepth 100000
/-- A map of ints, at b, that answers as g. -/
def IM (w : World) (b : Nat) (g : Int → Int) : Prop := ∃ l, MP encI OkI w b l ∧ (∀ p ∈ l, ∃ c, p.2 = .int .i64 c) ∧ ∀ x, (l.lookup x).getD (.int .i64 0) = .int .i64 (g x)
theorem IM.of_block {w w' : World} {b : Nat} {f : Int → Int} (h : IM w b f) (hb : w'.heap[b]? = w.heap[b]?) : IM w' b f := by
  obtain ⟨l, h1, h2⟩ := h
  exact ⟨l, h1.of_block hb, h2⟩
theorem IM.lt {w : World} {b : Nat} {f : Int → Int} (h : IM w b f) : b < w.heap.size := by
  obtain ⟨l, h1, -⟩ := h
  exact h1.lt
theorem IM.ext {w w' : World} {b : Nat} {f : Int → Int} (h : IM w b f) (x : Ext w w') : IM w' b f := h.of_block (x.block _ h.lt)
theorem IM.made (w : World) : IM (w.alloc (.map #[] 0)) w.heap.size fun _ => 0 := ⟨[], MP.made w, by simp, fun _ => rfl⟩
theorem IM.congr {w : World} {b : Nat} {f g : Int → Int} (h : IM w b f) (hfg : ∀ x, f x = g x) : IM w b g := by
  obtain ⟨l, h1, h2, h3⟩ := h
  exact ⟨l, h1, h2, fun x => by rw [h3, hfg]⟩
theorem IM.look {w : World} {b : Nat} {f : Int → Int} (h : IM w b f) {x : Int} (hx : OkI x) (wz : World) (hz : wz.heap[b]? = w.heap[b]?) : (Instr.lookup 100 (.map (some b)) (.int .i64 x) false).run Try.prog wz = .ok (.int .i64 (f x)) wz := by
  obtain ⟨l, h1, h2, h3⟩ := h
  have := MP.look keI Try.underlying100 (z := .int .i64 0) (by rfl) (h1.of_block hz) hx false
  rw [if_neg (by decide), h3] at this
  exact this
theorem putL_int {l : List (Int × Value)} {x : Int} {c : Int} (h : ∀ p ∈ l, ∃ c, p.2 = .int .i64 c) : ∀ p ∈ putL l x (.int .i64 c), ∃ c, p.2 = .int .i64 c := by
  intro p hp
  unfold putL at hp
  split at hp
  · obtain ⟨q, hq, rfl⟩ := List.mem_map.1 hp
    split
    · exact ⟨c, rfl⟩
    · exact h q hq
  · rcases List.mem_append.1 hp with hp | hp
    · exact h p hp
    · rw [List.mem_singleton] at hp
      subst hp
      exact ⟨c, rfl⟩
theorem IM.put {w : World} {b : Nat} {f : Int → Int} (h : IM w b f) {x : Int} (hx : OkI x) (c : Int) :
    ∃ w', (Instr.mapUpdate 100 (.map (some b)) (.int .i64 x) (.int .i64 c)).run Try.prog w = .ok () w' ∧ IM w' b (fun y => if y = x then c else f y) ∧ w.grownBy w' (some b) := by
  obtain ⟨l, h1, h2, h3⟩ := h
  obtain ⟨w', hr, hm, hg⟩ := MP.update keI Try.underlying100 h1 hx (.int .i64 c)
  refine ⟨w', hr, ⟨_, hm, putL_int h2, fun y => ?_⟩, hg⟩
  rw [lookup_put]
  show _ = Value.int .i64 (if y = x then c else f y)
  split
  · rfl
  · exact h3 y
theorem wpList_putI {ops : Array Oper} {rest : List Oper} {o : Oper} {a : Act} {Q : Exit → Act → World → Prop} {w : World} (hg : o.guard = none) (m x v : Operand) (hop : o.op = Op.mapUpdate 100 m x v) (b : Nat) (f : Int → Int) (hm : a.eval m = .map (some b)) (h : IM w b f) (k : Int) (hx : a.eval x = .int .i64 k) (hk : OkI k) (c : Int) (hv : a.eval v = .int .i64 c)
    (hK : ∀ w', IM w' b (fun y => if y = k then c else f y) → w.grownBy w' (some b) → wpList Try.prog ops Q rest (a.put o.dst undef) w') : wpList Try.prog ops Q (o :: rest) a w := by
  refine wpList_plain hg fun K' hK' => ?_
  obtain ⟨w', hrun, r1, r2⟩ := h.put hk c
  unfold Oper.wp
  simp [execOp, hop, hm, hx, hv, hrun, Result.andThen]
  exact hK' _ _ (hK w' r1 r2)
abbrev encD (d : Int × Int) : Value := .agg #[.int .i64 d.1, .int .i64 d.2]
def OkD (d : Int × Int) : Prop := OkI d.1 ∧ OkI d.2
theorem laid18 : laidOutB Try.prog = true := by kernel_rfl
theorem c3 : Try.prog.cellsOf 3 = 1 := by kernel_rfl
theorem c56 : Try.prog.cellsOf 56 = 2 := by kernel_rfl
theorem lits3 (d : Nat) {a : Int} (h : OkI a) : Try.prog.keyLits (d + 1) 3 [.int .i64 a] = some [.int .i64 a] := by
  simp [Program.keyLits, Try.underlying3, h.wf]
theorem lits56 (d : Nat) {a b : Int} (ha : OkI a) (hb : OkI b) : Try.prog.keyLits (d + 2) 56 [.int .i64 a, .int .i64 b] = some [.int .i64 a, .int .i64 b] := by
  unfold Program.keyLits
  rw [Try.underlying56]
  simp [c56, c3, lits3 d ha, lits3 d hb]
theorem keD : KE Try.prog 56 encD OkD := ⟨Go.Maps.Keyed.of_law (deep_law_laid laid18 (m := 9) (by omega) (of_decide_eq_true (by kernel_rfl)) (by kernel_rfl) (by kernel_rfl)), fun a b h => by
    obtain ⟨a1, a2⟩ := a
    obtain ⟨b1, b2⟩ := b
    simpa using h, fun a h => by
    have h1 : Try.prog.keyType 56 = true := by kernel_rfl
    have h2 : Try.prog.types.size + 1 = 156 + 2 := by kernel_rfl
    refine ⟨.string (keyBytes [.int .i64 a.1, .int .i64 a.2]), ?_⟩
    unfold keyOf
    rw [h2]
    simp [Try.underlying56, h1, Value.formed, c56, Value.cells, lits56 156 h.1 h.2]⟩
/-- What a list of pairs says, by the equality that is decided. -/
def lkp {κ : Type} [DecidableEq κ] (l : List (κ × Value)) (x : κ) : Option Value := l.lookup x
/-- A map that says which duties are there. -/
def DM (w : World) (b : Nat) (S : List (Int × Int)) : Prop := ∃ l : List ((Int × Int) × Value), MP encD OkD w b l ∧ ∀ x, (lkp l x).getD (.bool false) = .bool (decide (x ∈ S))
theorem DM.made (w : World) : DM (w.alloc (.map #[] 0)) w.heap.size [] := ⟨[], MP.made w, fun _ => rfl⟩
theorem DM.of_block {w w' : World} {b : Nat} {S : List (Int × Int)} (h : DM w b S) (hb : w'.heap[b]? = w.heap[b]?) : DM w' b S := by
  obtain ⟨l, h1, h2⟩ := h
  exact ⟨l, h1.of_block hb, h2⟩
theorem DM.lt {w : World} {b : Nat} {S : List (Int × Int)} (h : DM w b S) : b < w.heap.size := by
  obtain ⟨l, h1, -⟩ := h
  exact h1.lt
theorem DM.ext {w w' : World} {b : Nat} {S : List (Int × Int)} (h : DM w b S) (x : Ext w w') : DM w' b S := h.of_block (x.block _ h.lt)
theorem DM.look {w : World} {b : Nat} {S : List (Int × Int)} (h : DM w b S) {x : Int × Int} (hx : OkD x) (wz : World) (hz : wz.heap[b]? = w.heap[b]?) : (Instr.lookup 90 (.map (some b)) (.agg #[.int .i64 x.1, .int .i64 x.2]) false).run Try.prog wz = .ok (.bool (decide (x ∈ S))) wz := by
  obtain ⟨l, h1, h3⟩ := h
  have := MP.look keD Try.underlying90 (z := .bool false) (by rfl) (h1.of_block hz) hx false
  have h4 := h3 x
  unfold lkp at h4
  rw [if_neg (by decide), h4] at this
  exact this
theorem wpList_putD {ops : Array Oper} {rest : List Oper} {o : Oper} {a : Act} {Q : Exit → Act → World → Prop} {w : World} (hg : o.guard = none) (m x v : Operand) (hop : o.op = Op.mapUpdate 90 m x v) (b : Nat) (S : List (Int × Int)) (hm : a.eval m = .map (some b)) (h : DM w b S) (k : Int × Int) (hx : a.eval x = encD k) (hk : OkD k) (hv : a.eval v = .bool true)
    (hK : ∀ w', DM w' b (S ++ [k]) → w.grownBy w' (some b) → wpList Try.prog ops Q rest (a.put o.dst undef) w') : wpList Try.prog ops Q (o :: rest) a w := by
  refine wpList_plain hg fun K' hK' => ?_
  obtain ⟨l, h1, h3⟩ := h
  obtain ⟨w', hrun, hm2, hg2⟩ := MP.update keD Try.underlying90 h1 hk (.bool true)
  unfold Oper.wp
  simp [execOp, hop, hm, hx, hv, hrun, Result.andThen]
  refine hK' _ _ (hK w' ⟨_, hm2, fun y => ?_⟩ hg2)
  have h5 : lkp (putL l k (.bool true)) y = if y = k then some (.bool true) else lkp l y := lookup_put l k _ y
  rw [h5]
  by_cases e : y = k
  · subst e; simp
  · rw [if_neg e, h3]
    congr 1
    rw [Bool.eq_iff_iff, decide_eq_true_iff, decide_eq_true_iff, List.mem_append, List.mem_singleton]
    exact ⟨.inl, fun h => h.resolve_right e⟩
theorem key45 (a b : Int) (w : World) : Calls Try.prog 45 #[.agg #[.int .i64 a, .int .i64 b]] w fun e w' => e = .returned (.int .i64 b) ∧ Ext w w' := by
  go_enter Try.func45, Try.ntmps45
  go_wp2_with (fail)
  go_ret
  exact ⟨rfl, (by with_reducible repeat (first | exact Ext.refl _ | assumption | apply Ext.drewN | apply Ext.drew | apply Ext.alloc | (refine Ext.setCell ?_ (by simp <;> omega) _) | (refine Ext.trans ?_ (by assumption))))⟩
theorem key46 (a b : Int) (w : World) : Calls Try.prog 46 #[.agg #[.int .i64 a, .int .i64 b]] w fun e w' => e = .returned (.int .i64 a) ∧ Ext w w' := by
  go_enter Try.func46, Try.ntmps46
  go_wp2_with (fail)
  go_ret
  exact ⟨rfl, (by with_reducible repeat (first | exact Ext.refl _ | assumption | apply Ext.drewN | apply Ext.drew | apply Ext.alloc | (refine Ext.setCell ?_ (by simp <;> omega) _) | (refine Ext.trans ?_ (by assumption))))⟩
theorem index_any (v : Value) (zs : List Int) (x : Int) (w : World) (h : IRd w v zs) (hn : zs.length ≤ 1000000) : Calls Try.prog 43 #[v, .int .i64 x] w fun e w' => e = .returned (.int .i64 (Lib.idxOf zs x)) ∧ Ext w w' := by
  obtain ⟨A, cap, rfl, h2, h3, h4⟩ := h
  by_cases h0 : zs = []
  · subst h0
    refine (sh_slices_Index_int_empty A cap x w).mono ?_
    rintro e w1 ⟨rfl, rfl⟩
    exact ⟨rfl, Ext.refl _⟩
  · obtain ⟨b, off, rfl, hc⟩ := h4.resolve_left h0
    refine (sh_slices_Index_int b off zs.length cap zs x w (Nat.le_refl _) (by omega) fun j hj => ?_).mono ?_
    · rw [hc j hj]
      simp [List.getD, hj]
    · rintro e w1 ⟨rfl, rfl⟩
      exact ⟨by rw [List.take_length], Ext.refl _⟩
theorem contains44_any (v : Value) (zs : List Int) (x : Int) (w : World) (h : IRd w v zs) (hn : zs.length ≤ 1000000) : Calls Try.prog 44 #[v, .int .i64 x] w fun e w' => e = .returned (.bool (decide (x ∈ zs))) ∧ Ext w w' := by
  obtain ⟨A, cap, rfl, h2, h3, h4⟩ := h
  by_cases h0 : zs = []
  · subst h0
    refine (sh_slices_Contains_int_empty A cap x w).mono ?_
    rintro e w1 ⟨rfl, rfl⟩
    exact ⟨rfl, Ext.refl _⟩
  · obtain ⟨b, off, rfl, hc⟩ := h4.resolve_left h0
    refine (sh_slices_Contains_int b off zs.length cap zs x w (Nat.le_refl _) (by omega) fun j hj => ?_).mono ?_
    · rw [hc j hj]
      simp [List.getD, hj]
    · rintro e w1 ⟨rfl, rfl⟩
      exact ⟨by rw [List.take_length]; congr 2; rw [Bool.eq_iff_iff, List.contains_iff_mem, decide_eq_true_iff], Ext.refl _⟩
end Go.Proofs.Ytlekdhhgjhakgaa

namespace Go.Proofs.Ytlekdhhgjhakgaa
set_option linter.unusedVariables false
set_option linter.unusedSimpArgs false
open Go.RowKit
set_option maxRecDepth 100000 in
set_option maxHeartbeats 8000000 in
theorem most45 (v : Value) (l : List (Int × Int)) (w : World) (h : SR reC 2 w v l) (hok : ∀ d ∈ l, OkD d) (hn : l.length ≤ 1000) :
    Calls Try.prog 47 #[v, .func (.func 45) #[] #[]] w fun e w' => e = .returned (.int .i64 (mostF (l.map (·.2)))) ∧ Ext w w' := by
  obtain ⟨b0, n0, rfl⟩ := h.form
  have HL := Lib.hid h; have HOK := Lib.hid hok
  have hmm := @run_makeMap Try.prog
  have hm0 := IM.made w
  have hx0 : Ext w (w.alloc (.map #[] 0)) := Ext.alloc (Ext.refl _) _
  obtain ⟨D, hD⟩ : ∃ D, D = w.heap.size := ⟨_, rfl⟩
  have HD := Lib.hid hD
  rw [← hD] at hm0
  go_enter Try.func47, Try.ntmps47
  go_upto_region 2 with (fail)
  rw [← hD]
  clear h hok hD
  generalize w.alloc (.map #[] 0) = W1 at *
  have HM0 : Hid (IM W1 D fun x => (((l.map (·.2)).take 0).count x : Nat)) := Lib.hid (hm0.congr fun x => by simp)
  have HX0 := Lib.hid hx0
  clear hm0 hx0 hmm
  go_wp2_with (fail)
  go_loopw [6, 12] (fun nv iv wr => ∃ i : Nat, iv = .int .i64 i ∧ i ≤ l.length ∧ nv = .int .i64 (mostF ((l.map (·.2)).take i) : Nat) ∧ Hid (IM wr D fun x => (((l.map (·.2)).take i).count x : Nat)) ∧ Hid (Ext w wr)) (fun _ iv _ => l.length - (iof iv).toNat)
  case atStart => exact ⟨0, rfl, by omega, rfl, HM0, HX0⟩
  case round =>
    obtain ⟨i, rfl, hi, rfl, HM, HX⟩ := hrel
    clear HM0 HX0
    by_cases hil : i < l.length
    · obtain ⟨g, rfl, hgl, d0, d1⟩ := re_at HL.out i hil
      have o := HOK.out l[i] (List.getElem_mem _)
      have HT : Hid ((l.map (·.2)).take (i + 1) = (l.map (·.2)).take i ++ [l[i].2]) := Lib.hid (by rw [List.take_succ_eq_append_getElem (by simpa using hil), List.getElem_map])
      have hmb : mostF ((l.map (·.2)).take i) ≤ 1000 := mostF_le.2 fun x _ => Nat.le_trans List.count_le_length (by rw [List.length_take, List.length_map]; omega)
      have hcb : ∀ x, ((l.map (·.2)).take i).count x ≤ 1000 := fun x => Nat.le_trans List.count_le_length (by rw [List.length_take, List.length_map]; omega)
      replace d0 := (HX.out.cells.1 _ _ hgl).trans d0
      replace d1 := (HX.out.cells.1 _ _ hgl).trans d1
      replace hgl := Nat.lt_of_lt_of_le hgl HX.out.size
      generalize l[i] = r at *
      obtain ⟨ra, rb⟩ := r
      simp only at d0 d1 o HT
      obtain ⟨oa, ob⟩ := o
      simp only at oa ob
      have hMS := mostF_snoc ((l.map (·.2)).take i) rb
      rw [← HT.out] at hMS
      have HMS := Lib.hid hMS
      generalize mostF ((l.map (·.2)).take i) = n1 at *
      clear hMS
      have HK := Lib.hid (key45 ra rb)
      go_upto_region 5 with (fail)
      have hx4 : Ext wr (wr.alloc (.cells #[.int .i64 ra, .int .i64 rb] 56)) := Ext.alloc (Ext.refl _) _
      have hb4 := alloc_at wr (.cells #[.int .i64 ra, .int .i64 rb] 56)
      obtain ⟨gb, hgb⟩ : ∃ gb, gb = wr.heap.size := ⟨_, rfl⟩
      rw [← hgb] at hb4 ⊢
      have HB4 := Lib.hid hb4; have HX4 := Lib.hid (HX.out.trans hx4); have HM4 := Lib.hid (HM.out.ext hx4)
      clear hgb hx4 hb4 d0 d1 hgl HX HM
      generalize wr.alloc (.cells #[.int .i64 ra, .int .i64 rb] 56) = W4 at *
      have e0 := cell_of_row W4 gb 0 _ _ _ HB4.out
      have e1 := cell_of_row W4 gb 1 _ _ _ HB4.out
      change W4.cell? _ = some (.int .i64 ra) at e0
      change W4.cell? _ = some (.int .i64 rb) at e1
      have hc1 := hcb rb
      have HCE := Lib.hid (fun x => congrArg (fun q => List.count x q) HT.out)
      go_upto_region 6 with (first
        | (go_at_call 45; (with_reducible refine (HK.out _).mono ?_); rintro e w5 ⟨rfl, hx5⟩; have hm5 := HM4.out.ext hx5; have l5 := hm5.look ob w5 rfl)
        | (refine wpList_putI rfl (.tmp 16) (.tmp 19) (.tmp 21) rfl D _ (by rfl) hm5 rb (by rfl) ob ((((l.map (·.2)).take i).count rb : Nat) + 1 : Int) (by rfl) ?_; intro w6 hm6 hg6))
      have HX5 := Lib.hid (HX4.out.trans hx5)
      have hb6 := (hg6.block gb (Nat.lt_of_lt_of_le (Rg.lt_of_heap HB4.out) hx5.size) (fun e => by
        injection e with e
        subst e
        obtain ⟨lq, hq, -⟩ := HM4.out
        obtain ⟨es, ck, hbq, -⟩ := hq.2.2
        rw [HB4.out] at hbq
        cases hbq)).trans ((hx5.block _ (Rg.lt_of_heap HB4.out)).trans HB4.out)
      have hmN : IM w6 D fun x => (((l.map (·.2)).take (i + 1)).count x : Nat) := hm6.congr fun y => by
        rw [HCE.out y, List.count_append]
        by_cases e : y = rb
        · subst e; simp
        · have h0 : [rb].count y = 0 := List.count_eq_zero.2 (by simpa using e)
          rw [if_neg e, h0, Nat.add_zero]
      have HX6 := Lib.hid (grown_low HX5.out (by rw [HD.out]; exact Nat.le_refl _) hg6)
      have HMN := Lib.hid hmN; have HB6 := Lib.hid hb6
      have hcx : (((l.map (·.2)).take (i + 1)).count rb : Nat) = ((l.map (·.2)).take i).count rb + 1 := by rw [HCE.out, List.count_append]; simp
      have HCX := Lib.hid hcx
      clear hx5 hm5 l5 hm6 hg6 hb6 hmN e0 e1 HM4 HX4 HB4 HX5 hcx
      have e0 := cell_of_row w6 gb 0 _ _ _ HB6.out
      have e1 := cell_of_row w6 gb 1 _ _ _ HB6.out
      change w6.cell? _ = some (.int .i64 ra) at e0
      change w6.cell? _ = some (.int .i64 rb) at e1
      generalize ((l.map (·.2)).take i).count rb = c0 at *
      go_wp2_with (go_at_call 45; (with_reducible refine (HK.out _).mono ?_); rintro e w7 ⟨rfl, hx7⟩; have hm7 := HMN.out.ext hx7; have l7 := hm7.look ob w7 rfl; rw [HCX.out] at l7)
      exact ⟨⟨i + 1, by simp, by omega, by rw [HMS.out]; congr 1; omega, Lib.hid hm7, Lib.hid (HX6.out.trans hx7)⟩, by simp [iof]; omega⟩
    · obtain rfl : i = l.length := by omega
      have HTL : Hid ((l.map (·.2)).take l.length = l.map (·.2)) := Lib.hid (List.take_of_length_le (by simp))
      go_wp2_with (fail)
      go_ret
      exact ⟨by show Ending.returned (Value.int .i64 (mostF ((l.map (·.2)).take l.length) : Nat)) = _; rw [HTL.out], HX.out⟩
set_option maxRecDepth 100000 in
set_option maxHeartbeats 8000000 in
theorem most46 (v : Value) (l : List (Int × Int)) (w : World) (h : SR reC 2 w v l) (hok : ∀ d ∈ l, OkD d) (hn : l.length ≤ 1000) :
    Calls Try.prog 47 #[v, .func (.func 46) #[] #[]] w fun e w' => e = .returned (.int .i64 (mostF (l.map (·.1)))) ∧ Ext w w' := by
  obtain ⟨b0, n0, rfl⟩ := h.form
  have HL := Lib.hid h; have HOK := Lib.hid hok
  have hmm := @run_makeMap Try.prog
  have hm0 := IM.made w
  have hx0 : Ext w (w.alloc (.map #[] 0)) := Ext.alloc (Ext.refl _) _
  obtain ⟨D, hD⟩ : ∃ D, D = w.heap.size := ⟨_, rfl⟩
  have HD := Lib.hid hD
  rw [← hD] at hm0
  go_enter Try.func47, Try.ntmps47
  go_upto_region 2 with (fail)
  rw [← hD]
  clear h hok hD
  generalize w.alloc (.map #[] 0) = W1 at *
  have HM0 : Hid (IM W1 D fun x => (((l.map (·.1)).take 0).count x : Nat)) := Lib.hid (hm0.congr fun x => by simp)
  have HX0 := Lib.hid hx0
  clear hm0 hx0 hmm
  go_wp2_with (fail)
  go_loopw [6, 12] (fun nv iv wr => ∃ i : Nat, iv = .int .i64 i ∧ i ≤ l.length ∧ nv = .int .i64 (mostF ((l.map (·.1)).take i) : Nat) ∧ Hid (IM wr D fun x => (((l.map (·.1)).take i).count x : Nat)) ∧ Hid (Ext w wr)) (fun _ iv _ => l.length - (iof iv).toNat)
  case atStart => exact ⟨0, rfl, by omega, rfl, HM0, HX0⟩
  case round =>
    obtain ⟨i, rfl, hi, rfl, HM, HX⟩ := hrel
    clear HM0 HX0
    by_cases hil : i < l.length
    · obtain ⟨g, rfl, hgl, d0, d1⟩ := re_at HL.out i hil
      have o := HOK.out l[i] (List.getElem_mem _)
      have HT : Hid ((l.map (·.1)).take (i + 1) = (l.map (·.1)).take i ++ [l[i].1]) := Lib.hid (by rw [List.take_succ_eq_append_getElem (by simpa using hil), List.getElem_map])
      have hmb : mostF ((l.map (·.1)).take i) ≤ 1000 := mostF_le.2 fun x _ => Nat.le_trans List.count_le_length (by rw [List.length_take, List.length_map]; omega)
      have hcb : ∀ x, ((l.map (·.1)).take i).count x ≤ 1000 := fun x => Nat.le_trans List.count_le_length (by rw [List.length_take, List.length_map]; omega)
      replace d0 := (HX.out.cells.1 _ _ hgl).trans d0
      replace d1 := (HX.out.cells.1 _ _ hgl).trans d1
      replace hgl := Nat.lt_of_lt_of_le hgl HX.out.size
      generalize l[i] = r at *
      obtain ⟨ra, rb⟩ := r
      simp only at d0 d1 o HT
      obtain ⟨oa, ob⟩ := o
      simp only at oa ob
      have hMS := mostF_snoc ((l.map (·.1)).take i) ra
      rw [← HT.out] at hMS
      have HMS := Lib.hid hMS
      generalize mostF ((l.map (·.1)).take i) = n1 at *
      clear hMS
      have HK := Lib.hid (key46 ra rb)
      go_upto_region 5 with (fail)
      have hx4 : Ext wr (wr.alloc (.cells #[.int .i64 ra, .int .i64 rb] 56)) := Ext.alloc (Ext.refl _) _
      have hb4 := alloc_at wr (.cells #[.int .i64 ra, .int .i64 rb] 56)
      obtain ⟨gb, hgb⟩ : ∃ gb, gb = wr.heap.size := ⟨_, rfl⟩
      rw [← hgb] at hb4 ⊢
      have HB4 := Lib.hid hb4; have HX4 := Lib.hid (HX.out.trans hx4); have HM4 := Lib.hid (HM.out.ext hx4)
      clear hgb hx4 hb4 d0 d1 hgl HX HM
      generalize wr.alloc (.cells #[.int .i64 ra, .int .i64 rb] 56) = W4 at *
      have e0 := cell_of_row W4 gb 0 _ _ _ HB4.out
      have e1 := cell_of_row W4 gb 1 _ _ _ HB4.out
      change W4.cell? _ = some (.int .i64 ra) at e0
      change W4.cell? _ = some (.int .i64 rb) at e1
      have hc1 := hcb ra
      have HCE := Lib.hid (fun x => congrArg (fun q => List.count x q) HT.out)
      go_upto_region 6 with (first
        | (go_at_call 46; (with_reducible refine (HK.out _).mono ?_); rintro e w5 ⟨rfl, hx5⟩; have hm5 := HM4.out.ext hx5; have l5 := hm5.look oa w5 rfl)
        | (refine wpList_putI rfl (.tmp 16) (.tmp 19) (.tmp 21) rfl D _ (by rfl) hm5 ra (by rfl) oa ((((l.map (·.1)).take i).count ra : Nat) + 1 : Int) (by rfl) ?_; intro w6 hm6 hg6))
      have HX5 := Lib.hid (HX4.out.trans hx5)
      have hb6 := (hg6.block gb (Nat.lt_of_lt_of_le (Rg.lt_of_heap HB4.out) hx5.size) (fun e => by
        injection e with e
        subst e
        obtain ⟨lq, hq, -⟩ := HM4.out
        obtain ⟨es, ck, hbq, -⟩ := hq.2.2
        rw [HB4.out] at hbq
        cases hbq)).trans ((hx5.block _ (Rg.lt_of_heap HB4.out)).trans HB4.out)
      have hmN : IM w6 D fun x => (((l.map (·.1)).take (i + 1)).count x : Nat) := hm6.congr fun y => by
        rw [HCE.out y, List.count_append]
        by_cases e : y = ra
        · subst e; simp
        · have h0 : [ra].count y = 0 := List.count_eq_zero.2 (by simpa using e)
          rw [if_neg e, h0, Nat.add_zero]
      have HX6 := Lib.hid (grown_low HX5.out (by rw [HD.out]; exact Nat.le_refl _) hg6)
      have HMN := Lib.hid hmN; have HB6 := Lib.hid hb6
      have hcx : (((l.map (·.1)).take (i + 1)).count ra : Nat) = ((l.map (·.1)).take i).count ra + 1 := by rw [HCE.out, List.count_append]; simp
      have HCX := Lib.hid hcx
      clear hx5 hm5 l5 hm6 hg6 hb6 hmN e0 e1 HM4 HX4 HB4 HX5 hcx
      have e0 := cell_of_row w6 gb 0 _ _ _ HB6.out
      have e1 := cell_of_row w6 gb 1 _ _ _ HB6.out
      change w6.cell? _ = some (.int .i64 ra) at e0
      change w6.cell? _ = some (.int .i64 rb) at e1
      generalize ((l.map (·.1)).take i).count ra = c0 at *
      go_wp2_with (go_at_call 46; (with_reducible refine (HK.out _).mono ?_); rintro e w7 ⟨rfl, hx7⟩; have hm7 := HMN.out.ext hx7; have l7 := hm7.look oa w7 rfl; rw [HCX.out] at l7)
      exact ⟨⟨i + 1, by simp, by omega, by rw [HMS.out]; congr 1; omega, Lib.hid hm7, Lib.hid (HX6.out.trans hx7)⟩, by simp [iof]; omega⟩
    · obtain rfl : i = l.length := by omega
      have HTL : Hid ((l.map (·.1)).take l.length = l.map (·.1)) := Lib.hid (List.take_of_length_le (by simp))
      go_wp2_with (fail)
      go_ret
      exact ⟨by show Ending.returned (Value.int .i64 (mostF ((l.map (·.1)).take l.length) : Nat)) = _; rw [HTL.out], HX.out⟩
end Go.Proofs.Ytlekdhhgjhakgaa

namespace Go.Proofs.Ytlekdhhgjhakgaa
set_option linter.unusedVariables false
set_option linter.unusedSimpArgs false
open Go.RowKit
theorem idx_in {zs : List Int} {x : Int} (h : x ∈ zs) : ∃ k, ∃ hk : k < zs.length, zs[k] = x ∧ Lib.idxOf zs x = (k : Int) := by
  have hk := List.idxOf_lt_length_of_mem h
  refine ⟨zs.idxOf x, hk, List.getElem_idxOf hk, ?_⟩
  have h1 := Lib.idxOf_hit zs zs.length (zs.idxOf x) x hk (Nat.le_refl _) (by rw [getD_at hk]; exact List.getElem_idxOf hk) fun j hj e => by
    have hj' : j < zs.length := by omega
    rw [getD_at hj'] at e
    have h9 := List.not_of_lt_findIdx (p := (· == x)) hj
    simp [e] at h9
  rwa [List.take_length] at h1
theorem idx_out {zs : List Int} {x : Int} (h : x ∉ zs) : Lib.idxOf zs x = -1 := by
  have h1 := Lib.idxOf_miss zs zs.length x fun j hj e => h (by rw [getD_at hj] at e; rw [← e]; exact List.getElem_mem hj)
  rwa [List.take_length] at h1
theorem mem_mayL {s : Su} {bs : List Int} {o k : Nat} (h1 : o < (mayL s bs).length) (h2 : o < bs.length) (hk : k < (asrF s.ps).length) : decide ((k : Int) ∈ natI (mayL s bs)[o]) = !confF s (asrF s.ps)[k] bs[o] := by
  rw [mayL_at s bs h1 h2, Bool.eq_iff_iff, decide_eq_true_iff]
  unfold natI mayR
  rw [List.mem_map]
  constructor
  · rintro ⟨j, hj, e⟩
    have : j = k := Int.ofNat.inj e
    subst this
    have := (List.mem_filter.1 hj).2
    rwa [getD_at hk] at this
  · intro h
    exact ⟨k, List.mem_filter.2 ⟨List.mem_range.2 hk, by rw [getD_at hk]; exact h⟩, rfl⟩
theorem chk_open {s : Su} {bs : List Int} {each : Int} {L : Nat} {l : List (Int × Int)} (h : openE s bs each ≠ 0) : chkF s bs each L l = false := by
  have : (openE s bs each == 0) = false := by simpa using h
  unfold chkF
  rw [this]
  rfl
theorem chk_len {s : Su} {bs : List Int} {each : Int} {L : Nat} {l : List (Int × Int)} (h : ¬ (l.length : Int) = each * bs.length) : chkF s bs each L l = false := by
  unfold chkF
  rw [decide_eq_false h]
  simp
theorem chk_bad {s : Su} {bs : List Int} {each : Int} {L : Nat} {l : List (Int × Int)} {x : Int × Int} (hx : x ∈ l) (h : okD s bs x = false) : chkF s bs each L l = false := by
  have : l.all (okD s bs) = false := by
    rw [List.all_eq_false]
    exact ⟨x, hx, by rw [h]; decide⟩
  unfold chkF
  rw [this]
  simp
theorem chk_twice {s : Su} {bs : List Int} {each : Int} {L : Nat} {l : List (Int × Int)} (h : ¬ l.Nodup) : chkF s bs each L l = false := by
  unfold chkF
  rw [decide_eq_false h]
  simp
theorem not_nodup {l : List (Int × Int)} {i : Nat} (hi : i < l.length) (h : l[i] ∈ l.take i) : ¬ l.Nodup := by
  intro hn
  obtain ⟨j, hj, e⟩ := List.mem_take_iff_getElem.1 h
  have : j = i := (List.getElem_inj hn).1 e
  omega
theorem nodup_snoc {α : Type} {l : List α} {x : α} (h : l.Nodup) (hx : x ∉ l) : (l ++ [x]).Nodup := by
  rw [List.nodup_append]
  exact ⟨h, by simp, fun a ha b hb e => by rw [List.mem_singleton] at hb; subst hb; subst e; exact hx ha⟩
theorem row_ird {w : World} {a : Option Addr} {r : List Nat} {c : Nat} (hl : r.length ≤ 1000000) (hs : ∀ x ∈ r, x ≤ 1000000) (h : r = [] ∨ ∃ b, a = some ⟨b, 0, none⟩ ∧ b < w.heap.size ∧ ∀ k (hk : k < r.length), w.cell? ⟨b, k, none⟩ = some (.int .i64 (r[k] : Nat))) : IRd w (.slice a r.length c) (natI r) := by
  refine ⟨a, c, by rw [natI_len], by rw [natI_len]; omega, fun z hz => ?_, ?_⟩
  · obtain ⟨x, hx, rfl⟩ := List.mem_map.1 hz
    have := hs x hx
    exact okI_small ⟨by show (-1000000 : Int) ≤ (x : Int); omega, by show (x : Int) ≤ 1000000; omega⟩
  · rcases h with rfl | ⟨b, rfl, -, h⟩
    · exact .inl rfl
    · exact .inr ⟨b, 0, rfl, fun k hk => by
        rw [natI_len] at hk
        rw [Nat.zero_add, h k hk]
        simp [natI]⟩
set_option maxRecDepth 100000 in
set_option maxHeartbeats 8000000 in
theorem CheckDuties_any (c0 c1 c2 c3 c4 c5 bv dv : Value) (s : Su) (bs : List Int) (each : Int) (l : List (Int × Int)) (L : Nat) (w : World) (h : SuV w c0 c1 c2 c3 c4 c5 s) (hbs : IRd w bv bs) (hn : bs.length ≤ 1000000) (hl : SR reC 2 w dv l) (hok : ∀ d ∈ l, OkD d) (hln : l.length ≤ 1000)
    (hL : openE s bs each = 0 → Least (mayL s bs) (asrF s.ps).length each.toNat L) :
    Calls Try.prog 24 #[.agg #[c0, c1, c2, c3, c4, c5], bv, .int .i64 each, dv] w fun e w' => e = .returned (.bool (chkF s bs each L l)) ∧ Ext w w' := by
  have hS := h
  obtain ⟨hps, hhs, hrs, ⟨q1, rfl⟩, ⟨q4, rfl⟩, ⟨q5, rfl⟩, hok2⟩ := h
  obtain ⟨b0, n0, rfl⟩ := hps.form
  obtain ⟨b2, n2, rfl⟩ := hhs.form
  obtain ⟨b3, n3, rfl⟩ := hrs.form
  obtain ⟨A, cap, rfl⟩ : ∃ A cap, bv = .slice A bs.length cap := by obtain ⟨A, cap, h1, -⟩ := hbs; exact ⟨A, cap, h1⟩
  obtain ⟨dA, dn, rfl⟩ := hl.form
  have hal : (asrF s.ps).length ≤ 1000 := by
    have h1 := asrR_len s.ps []
    have h2 : (asrF s.ps).length = (asrR s.ps []).length := (srtZ_perm _).length_eq
    have h3 := hok2.np
    omega
  clear hps hhs hrs hok2
  go_enter Try.func24, Try.ntmps24
  go_upto_region 1 with (fail)
  obtain ⟨v0, hv0⟩ : ∃ v0, v0 = Value.slice b0 s.ps.length n0 := ⟨_, rfl⟩
  obtain ⟨v2, hv2⟩ : ∃ v2, v2 = Value.slice b2 s.hs.length n2 := ⟨_, rfl⟩
  obtain ⟨v3, hv3⟩ : ∃ v3, v3 = Value.slice b3 s.rs.length n3 := ⟨_, rfl⟩
  rw [← hv0, ← hv2, ← hv3] at hS ⊢
  have hx1 : Ext w (w.alloc (.cells #[v0, .int .i64 q1, v2, v3, .int .i64 q4, .int .i64 q5] 28)) := Ext.alloc (Ext.refl _) _
  have hb1 := alloc_at w (.cells #[v0, .int .i64 q1, v2, v3, .int .i64 q4, .int .i64 q5] 28)
  obtain ⟨D, hD⟩ : ∃ D, D = w.heap.size := ⟨_, rfl⟩
  rw [← hD] at hb1 ⊢
  generalize w.alloc (.cells #[v0, .int .i64 q1, v2, v3, .int .i64 q4, .int .i64 q5] 28) = W1 at *
  have HX1 := Lib.hid hx1; have HBS := Lib.hid (hbs.ext hx1); have HLS := Lib.hid (hl.ext hx1); have HOK := Lib.hid hok; have HLE := Lib.hid hL
  have e0 := cell_of_row W1 D 0 _ _ _ hb1
  have e1 := cell_of_row W1 D 1 _ _ _ hb1
  have e2 := cell_of_row W1 D 2 _ _ _ hb1
  have e3 := cell_of_row W1 D 3 _ _ _ hb1
  have e4 := cell_of_row W1 D 4 _ _ _ hb1
  have e5 := cell_of_row W1 D 5 _ _ _ hb1
  change W1.cell? _ = some v0 at e0
  change W1.cell? _ = some (.int .i64 q1) at e1
  change W1.cell? _ = some v2 at e2
  change W1.cell? _ = some v3 at e3
  change W1.cell? _ = some (.int .i64 q4) at e4
  change W1.cell? _ = some (.int .i64 q5) at e5
  have HOP := Lib.hid (open_any _ _ _ _ _ _ _ s bs each W1 (hS.ext hx1) HBS.out hn)
  clear hb1 hx1 hS hv0 hv2 hv3 hbs hD hl hok hL
  obtain ⟨er, her⟩ : ∃ er, er = openE s bs each := ⟨_, rfl⟩
  rw [← her] at HOP
  have HER := Lib.hid her
  clear her
  by_cases hz : er = 0
  · subst hz
    have HOP2 : Hid (Calls Try.prog 32 #[.agg #[v0, .int .i64 q1, v2, v3, .int .i64 q4, .int .i64 q5], .slice A bs.length cap, .int .i64 each] W1 fun e w' => ∃ p iv mv us, e = .returned (.tuple #[.pointer (some ⟨p, 0, none⟩), .int .i64 0]) ∧ Ext W1 w' ∧ W1.heap.size ≤ p ∧ Dk W1.heap.size w' p (asrF s.ps) (mayL s bs) each iv mv us) := Lib.hid (Calls.mono HOP.out fun e w' ⟨pv, h1, h2, h3, _⟩ => by
      obtain ⟨p, iv, mv, us, rfl, h4, h5⟩ := h3 rfl
      exact ⟨p, iv, mv, us, h1, h2, h4, h5⟩)
    clear HOP
    have hrf := right_facts (open_right HER.out.symm)
    obtain ⟨-, hoz2, hoz3⟩ := open_zero HER.out.symm
    obtain ⟨en, rfl⟩ := Int.eq_ofNat_of_zero_le (Int.le_of_lt hrf.2.2.2.1)
    have hbn : bs.length ≤ 40 := hrf.2.1
    have he13 : en ≤ 13 := by have := hrf.2.2.2.2; omega
    have he0 : 0 < en := by have := hrf.2.2.2.1; omega
    have hids : en ≤ (asrF s.ps).length := by omega
    have hml := mayL_len s bs
    have hmul : en * bs.length ≤ 13 * 40 := Nat.mul_le_mul he13 hbn
    obtain ⟨q, hq⟩ : ∃ q, q = en * bs.length := ⟨_, rfl⟩
    have hqi : (en : Int) * (bs.length : Int) = (q : Int) := by rw [hq]; push_cast; rfl
    have HQ := Lib.hid hq
    rw [← hq] at hmul
    clear hq
    by_cases hlq : l.length = q
    · have hlz : ((l.length : Int) == (q : Int)) = true := by simp [hlq]
      have HLQ := Lib.hid hlq
      clear hlq
      have hmm := @run_makeMap Try.prog
      go_upto_region 5 with (go_at_call 32; (with_reducible refine HOP2.out.mono ?_); rintro e w2 ⟨p, iv, mv, us, rfl, hx2, hpge, hdk⟩)
      have hm0 := DM.made w2
      have hx3 : Ext w2 (w2.alloc (.map #[] 0)) := Ext.alloc (Ext.refl _) _
      obtain ⟨M, hM⟩ : ∃ M, M = w2.heap.size := ⟨_, rfl⟩
      rw [← hM] at hm0 ⊢
      have HMW := Lib.hid hM
      clear hM hmm hlz
      generalize w2.alloc (.map #[] 0) = W3 at *
      obtain ⟨ms, hms⟩ : ∃ ms, ms = mayL s bs := ⟨_, rfl⟩
      obtain ⟨ids, hidq⟩ : ∃ ids, ids = asrF s.ps := ⟨_, rfl⟩
      have hmok := mayL_ok s bs
      rw [← hms, ← hidq] at hdk hmok
      rw [← hms] at hml hoz3
      rw [← hidq] at hal hids
      obtain ⟨iA, ic, hiv, hi2, hi3, hi4⟩ := hdk.ids
      subst hiv
      have HMS := Lib.hid hms; have HIQ := Lib.hid hidq; have HML := Lib.hid hml; have HMK := Lib.hid hmok
      have HDK := Lib.hid hdk; have HX2 := Lib.hid (HX1.out.trans hx2); have HX3 := Lib.hid hx3; have HB2 := Lib.hid (HBS.out.ext hx2); have HL2 := Lib.hid (HLS.out.ext hx2); have HDM := Lib.hid hm0
      have HI2 : Hid (IRd w2 (.slice iA ids.length ic) ids) := Lib.hid hdk.ids
      have HALL : Hid (∀ r ∈ ms, en ≤ r.length) := Lib.hid fun r hr => by have := hoz3 r hr; omega
      clear hx2 hx3 hm0 hdk hms hidq hml hmok hi2 hi3 hi4 hoz2 hoz3 e0 e1 e2 e3 e4 e5 HOP2 HBS HLS hrf
      rw [show ((l.length : Int) != (q : Int)) = false from by simp [HLQ.out]]
      go_wp2_with (fail)
      go_loopw [39] (fun iv wr => ∃ i : Nat, iv = .int .i64 i ∧ i ≤ l.length ∧ Hid (DM wr M (l.take i)) ∧ Hid ((l.take i).all (okD s bs) = true) ∧ Hid ((l.take i).Nodup) ∧ Hid (Ext w2 wr)) (fun iv _ => l.length - (iof iv).toNat)
      case atStart => exact ⟨0, rfl, by omega, HDM, Lib.hid (by simp), Lib.hid (by simp), HX3⟩
      case round =>
        obtain ⟨i, rfl, hi, HDM, HALK, HND, HXB⟩ := hrel
        by_cases hil : i < l.length
        · obtain ⟨g, rfl, hgl, d0, d1⟩ := re_at HL2.out i hil
          have o := HOK.out l[i] (List.getElem_mem _)
          have HTK : Hid (l.take (i + 1) = l.take i ++ [l[i]]) := Lib.hid (List.take_succ_eq_append_getElem hil)
          have HIN : Hid (l[i] ∈ l) := Lib.hid (List.getElem_mem hil)
          have HTW := Lib.hid (not_nodup hil)
          replace d0 := (HXB.out.cells.1 _ _ hgl).trans d0
          replace d1 := (HXB.out.cells.1 _ _ hgl).trans d1
          replace hgl := Nat.lt_of_lt_of_le hgl HXB.out.size
          generalize l[i] = r at *
          obtain ⟨ra, rb⟩ := r
          simp only at d0 d1
          obtain ⟨oa, ob⟩ := o
          simp only at oa ob
          go_upto_region 8 with (fail)
          have hx4 : Ext wr (wr.alloc (.cells #[.int .i64 ra, .int .i64 rb] 56)) := Ext.alloc (Ext.refl _) _
          have hb4 := alloc_at wr (.cells #[.int .i64 ra, .int .i64 rb] 56)
          obtain ⟨gb, hgb⟩ : ∃ gb, gb = wr.heap.size := ⟨_, rfl⟩
          rw [← hgb] at hb4 ⊢
          have HB4 := Lib.hid hb4; have HX4 := Lib.hid (HXB.out.trans hx4); have HM4 := Lib.hid (HDM.out.ext hx4)
          clear hgb hx4 hb4 d0 d1 hgl HXB HDM
          generalize wr.alloc (.cells #[.int .i64 ra, .int .i64 rb] 56) = W4 at *
          have HS4 : Hid (∀ wz, Ext W4 wz → wz.cell? ⟨gb, 0, none⟩ = some (.int .i64 ra) ∧ wz.cell? ⟨gb, 1, none⟩ = some (.int .i64 rb) ∧ wz.cell? ⟨p, 0, none⟩ = some (.slice iA ids.length ic)) := Lib.hid fun wz hz => by
            have h1 := (hz.block _ (Rg.lt_of_heap HB4.out)).trans HB4.out
            exact ⟨cell_of_row wz gb 0 _ _ _ h1, cell_of_row wz gb 1 _ _ _ h1, ((HX4.out.trans hz).cells.1 _ _ (Rg.lt_of_heap HDK.out.at_)).trans (cell_of_row w2 p 0 _ _ _ HDK.out.at_)⟩
          have HI1 := Lib.hid (fun wz (hz : Ext W4 wz) => index_any (.slice A bs.length cap) bs rb wz (HB2.out.ext (HX4.out.trans hz)) hn)
          have HI5 := Lib.hid (fun wz (hz : Ext W4 wz) => index_any (.slice iA ids.length ic) ids ra wz (HI2.out.ext (HX4.out.trans hz)) (by omega))
          obtain ⟨s0, s1, s2⟩ := HS4.out W4 (Ext.refl _)
          obtain ⟨x1, hx1⟩ : ∃ x1, x1 = Lib.idxOf bs rb := ⟨_, rfl⟩
          obtain ⟨x2, hx2⟩ : ∃ x2, x2 = Lib.idxOf ids ra := ⟨_, rfl⟩
          rw [← hx1] at HI1
          rw [← hx2] at HI5
          have HXX1 := Lib.hid hx1; have HXX2 := Lib.hid hx2
          clear hx1 hx2
          go_region_held3 (fun w' => w'.cell? ⟨gb, 0, none⟩ = some (.int .i64 ra) ∧ w'.cell? ⟨gb, 1, none⟩ = some (.int .i64 rb) ∧ w'.cell? ⟨p, 0, none⟩ = some (.slice iA ids.length ic)) (first | exact HS4.out _ (by with_reducible repeat (first | exact Ext.refl _ | assumption | apply Ext.drewN | apply Ext.drew | apply Ext.alloc | (refine Ext.setCell ?_ (by simp <;> omega) _) | (refine Ext.trans ?_ (by assumption)))) | go_keep)
            (first
              | (go_at_call 43; (with_reducible refine (HI1.out _ (by with_reducible repeat (first | exact Ext.refl _ | assumption | apply Ext.drewN | apply Ext.drew | apply Ext.alloc | (refine Ext.setCell ?_ (by simp <;> omega) _) | (refine Ext.trans ?_ (by assumption))))).mono ?_); rintro e wa ⟨rfl, hxa⟩)
              | (go_at_call 43; (with_reducible refine (HI5.out _ (by with_reducible repeat (first | exact Ext.refl _ | assumption | apply Ext.drewN | apply Ext.drew | apply Ext.alloc | (refine Ext.setCell ?_ (by simp <;> omega) _) | (refine Ext.trans ?_ (by assumption))))).mono ?_); rintro e wb ⟨rfl, hxb⟩))
          have hx4b : Ext W4 wb := (by with_reducible repeat (first | exact Ext.refl _ | assumption | apply Ext.drewN | apply Ext.drew | apply Ext.alloc | (refine Ext.setCell ?_ (by simp <;> omega) _) | (refine Ext.trans ?_ (by assumption))))
          have hb5 := (hx4b.block _ (Rg.lt_of_heap HB4.out)).trans HB4.out
          have HB5 := Lib.hid hb5; have HX5 := Lib.hid (HX4.out.trans hx4b); have HM5 := Lib.hid (HM4.out.ext hx4b)
          clear hxa hxb hx4b hb5 s0 s1 s2 HB4 HX4 HM4 HI1 HI5 HS4
          have e0 := cell_of_row wb gb 0 _ _ _ HB5.out
          have e1 := cell_of_row wb gb 1 _ _ _ HB5.out
          change wb.cell? _ = some (.int .i64 ra) at e0
          change wb.cell? _ = some (.int .i64 rb) at e1
          have l1 := HM5.out.look (x := (ra, rb)) ⟨oa, ob⟩ wb rfl
          simp only at l1
          by_cases h1 : rb ∈ bs
          · obtain ⟨o1, ho1, he1, hi1⟩ := idx_in h1
            obtain rfl : x1 = (o1 : Int) := HXX1.out.trans hi1
            by_cases h2 : ra ∈ ids
            · obtain ⟨k2, hk2, he2, hi2⟩ := idx_in h2
              obtain rfl : x2 = (k2 : Int) := HXX2.out.trans hi2
              by_cases h3 : (ra, rb) ∈ l.take i
              · have h3d : decide ((ra, rb) ∈ l.take i) = true := decide_eq_true h3
                rw [h3d] at l1
                have HH3 := Lib.hid h3
                clear h3 h3d h1 h2 he1 he2 hi1 hi2
                have HF : Hid (chkF s bs en L l = false) := Lib.hid (chk_twice (HTW.out HH3.out))
                have HXF := Lib.hid (HX2.out.trans HX5.out)
                go_wp2_with (fail)
                go_ret
                exact ⟨by rw [HF.out]; rfl, HXF.out⟩
              · have h3d : decide ((ra, rb) ∈ l.take i) = false := decide_eq_false h3
                rw [h3d] at l1
                have HH3 := Lib.hid h3
                have hom : o1 < ms.length := by rw [HML.out]; exact ho1
                obtain ⟨g', gc, hmv, hg', a', cA', hrow, hel⟩ := mayR_at HDK.out.may hom
                have hrl : (ms[o1]).length ≤ 1000 := by
                  have h6 := HMK.out.nodup (List.getElem_mem hom) (List.Sublist.refl _)
                  have h7 := sm_mem h6.1 h6.2
                  have h8 : sm (fun k => (decide (k ∈ ms[o1])).toNat) ids.length ≤ sm (fun _ => 1) ids.length := sm_le fun _ _ => Bool.toNat_le _
                  rw [sm_const, h7] at h8
                  omega
                have hird := row_ird (c := cA') (by omega) (fun x hx => by have := HMK.out.lt _ (List.getElem_mem hom) x hx; omega) hel
                have HCN := Lib.hid (contains44_any _ (natI ms[o1]) (k2 : Int) wb (hird.ext HX5.out) (by rw [natI_len]; omega))
                have hcf : decide ((k2 : Int) ∈ natI ms[o1]) = !confF s ra rb := by
                  have h9 := HMS.out; have h10 := HIQ.out
                  subst h9 h10
                  rw [mem_mayL hom ho1 hk2, he1, he2]
                rw [hcf] at HCN
                have c1 : wb.cell? ⟨p, 1, none⟩ = some (.slice (some ⟨g', 0, none⟩) ms.length gc) := by
                  rw [HX5.out.cells.1 _ _ (Rg.lt_of_heap HDK.out.at_), cell_of_row w2 p 1 _ _ _ HDK.out.at_]
                  exact congrArg some hmv
                have c2 := (HX5.out.cells.1 _ _ hg').trans hrow
                have HOKD : Hid (okD s bs (ra, rb) = !confF s ra rb) := Lib.hid (by
                  unfold okD
                  rw [← HIQ.out, decide_eq_true h1, decide_eq_true h2]
                  simp)
                clear h3 h3d h1 h2 he1 he2 hi1 hi2 hcf hird hel hrow hmv
                cases hcf : confF s ra rb with
                | true =>
                  rw [hcf] at HCN HOKD
                  have HF : Hid (chkF s bs en L l = false) := Lib.hid (chk_bad HIN.out (by rw [HOKD.out]; rfl))
                  go_wp2_with (go_at_call 44; (with_reducible refine HCN.out.mono ?_); rintro e w7 ⟨rfl, hx7⟩)
                  go_ret
                  exact ⟨by rw [HF.out]; rfl, HX2.out.trans (HX5.out.trans hx7)⟩
                | false =>
                  rw [hcf] at HCN HOKD
                  go_upto_region 11 with (go_at_call 44; (with_reducible refine HCN.out.mono ?_); rintro e w7 ⟨rfl, hx7⟩)
                  have HX7 := Lib.hid (HX5.out.trans hx7); have HM7 := Lib.hid (HM5.out.ext hx7); have HB7 := Lib.hid ((hx7.block _ (Rg.lt_of_heap HB5.out)).trans HB5.out)
                  clear hx7 e0 e1 l1 c1 c2 HX5 HM5 HB5 HCN
                  have e0 := cell_of_row w7 gb 0 _ _ _ HB7.out
                  have e1 := cell_of_row w7 gb 1 _ _ _ HB7.out
                  change w7.cell? _ = some (.int .i64 ra) at e0
                  change w7.cell? _ = some (.int .i64 rb) at e1
                  go_wp2_with (refine wpList_putD rfl (.tmp 77) (.tmp 78) (.const (.bool true)) rfl M _ (by rfl) HM7.out (ra, rb) (by rfl) ⟨oa, ob⟩ (by rfl) ?_; intro w8 hm8 hg8)
                  go_roundw
                  case rel => exact ⟨i + 1, by simp, by omega, Lib.hid (by rw [HTK.out]; exact hm8), Lib.hid (by rw [HTK.out, List.all_append, HALK.out]; simp [HOKD.out]), Lib.hid (by rw [HTK.out]; exact nodup_snoc HND.out HH3.out), Lib.hid (grown_low HX7.out (by rw [HMW.out]; exact Nat.le_refl _) hg8)⟩
                  case measure => simp [iof]; omega
            · obtain rfl : x2 = -1 := HXX2.out.trans (idx_out h2)
              have HH2 := Lib.hid h2
              clear h1 h2 he1 hi1
              have HF : Hid (chkF s bs en L l = false) := Lib.hid (chk_bad HIN.out (by unfold okD; rw [← HIQ.out, decide_eq_false HH2.out]; simp))
              have HXF := Lib.hid (HX2.out.trans HX5.out)
              go_wp2_with (fail)
              go_ret
              exact ⟨by rw [HF.out]; rfl, HXF.out⟩
          · obtain rfl : x1 = -1 := HXX1.out.trans (idx_out h1)
            have HH1 := Lib.hid h1
            clear h1
            have HF : Hid (chkF s bs en L l = false) := Lib.hid (chk_bad HIN.out (by unfold okD; rw [decide_eq_false HH1.out]; simp))
            have HXF := Lib.hid (HX2.out.trans HX5.out)
            go_wp2_with (fail)
            go_ret
            exact ⟨by rw [HF.out]; rfl, HXF.out⟩
        · obtain rfl : i = l.length := by omega
          have HALL2 := HALK.out
          have HND2 := HND.out
          rw [List.take_length] at HALL2 HND2
          have HF : Hid (chkF s bs en L l = (decide ((mostF (l.map (·.2)) : Int) = en) && decide (mostF (l.map (·.1)) ≤ L))) := Lib.hid (by
            unfold chkF
            rw [HALL2, decide_eq_true HND2, hqi, decide_eq_true (show (l.length : Int) = (q : Int) by rw [HLQ.out]), ← HER.out]
            simp)
          have HLA : Hid (Least ms ids.length en L) := Lib.hid (by
            have h9 := HLE.out HER.out.symm
            rw [← HMS.out, ← HIQ.out] at h9
            exact h9)
          have HM1 := Lib.hid (fun wz (hz : Ext wr wz) => most45 _ l wz (HL2.out.ext (HXB.out.trans hz)) HOK.out hln)
          have HM2 := Lib.hid (fun wz (hz : Ext wr wz) => most46 _ l wz (HL2.out.ext (HXB.out.trans hz)) HOK.out hln)
          have hmn : ms.length ≤ 1000 := by rw [HML.out]; omega
          have HLO := Lib.hid (fun wz (hz : Ext wr wz) => load_any p ids ms en _ mv us wz ((HDK.out.mono (Nat.zero_le _)).ext (HXB.out.trans hz)) HMK.out ⟨by omega, hal⟩ hmn he13 hids HALL.out)
          clear HALL2 HND2 HDM HALK HND hal
          by_cases hme : mostF (l.map (·.2)) = en
          · have hq1 : ((mostF (l.map (·.2)) : Int) == (en : Int)) = true := by rw [hme]; simp
            have HQ1 := Lib.hid hq1
            rw [decide_eq_true (show (mostF (l.map (·.2)) : Int) = en by rw [hme]), Bool.true_and] at HF
            generalize mostF (l.map (·.2)) = k1 at *
            generalize mostF (l.map (·.1)) = k2 at *
            clear hme
            go_wp2_with (first
              | (go_at_call 47; (with_reducible refine (HM1.out wr (Ext.refl _)).mono ?_); rintro e wa ⟨rfl, hxa⟩)
              | (go_at_call 47; (with_reducible refine (HM2.out wa hxa).mono ?_); rintro e wb ⟨rfl, hxb⟩)
              | (go_at_call 33; (with_reducible refine (HLO.out wb (hxa.trans hxb)).mono ?_); rintro e wc ⟨L2, rfl, hL2, -, hxc⟩; have hle : L2 = L := hL2.uniq HLA.out; subst hle))
            go_ret
            refine ⟨?_, HX2.out.trans (HXB.out.trans (hxa.trans (hxb.trans hxc)))⟩
            rw [HF.out]
            rfl
          · have hq1 : ((mostF (l.map (·.2)) : Int) == (en : Int)) = false := by simp; omega
            rw [decide_eq_false (show ¬ (mostF (l.map (·.2)) : Int) = en by omega), Bool.false_and] at HF
            generalize mostF (l.map (·.2)) = k1 at *
            have hq2 : ¬ (k1 : Int) = (en : Int) := by omega
            clear hme
            go_wp2_with (go_at_call 47; (with_reducible refine (HM1.out wr (Ext.refl _)).mono ?_); rintro e wa ⟨rfl, hxa⟩)
            go_ret
            exact ⟨by rw [HF.out]; rfl, HX2.out.trans (HXB.out.trans hxa)⟩
    · have hlz : ¬ (l.length : Int) = (q : Int) := by omega
      have HF : Hid (chkF s bs en L l = false) := Lib.hid (chk_len (by rw [hqi]; exact hlz))
      go_wp2_with (go_at_call 32; (with_reducible refine HOP2.out.mono ?_); rintro e w2 ⟨p, iv, mv, us, rfl, hx2, hpge, hdk⟩)
      go_ret
      exact ⟨by rw [HF.out]; rfl, HX1.out.trans hx2⟩
  · have HZ := Lib.hid hz
    have HF : Hid (chkF s bs each L l = false) := Lib.hid (chk_open (by rw [← HER.out]; exact hz))
    go_wp2_with (go_at_call 32; (with_reducible refine HOP.out.mono ?_); rintro e w2 ⟨pv, rfl, hx2, -, hpv⟩; obtain rfl := hpv HZ.out)
    go_ret
    exact ⟨by rw [HF.out]; rfl, HX1.out.trans hx2⟩
end Go.Proofs.Ytlekdhhgjhakgaa

namespace Go.Proofs.Ytlekdhhgjhakgaa
set_option linter.unusedVariables false
set_option linter.unusedSimpArgs false
open Go.RowKit
/-- A setup whose lists are one's own. -/
structure OS (B : Nat) (w : World) (c0 c1 c2 c3 c4 c5 : Value) (s : Su) : Prop where
  ps : w.ownsRow B 50 3 c0 s.ps.length (s.ps.flatMap Pe.cs)
  hs : w.ownsRow B 33 3 c2 s.hs.length (s.hs.flatMap Ho.cs)
  rs : w.ownsRow B 36 2 c3 s.rs.length (s.rs.flatMap reC)
  q : ∃ q, c1 = .int .i64 q
  se : ∃ q, c4 = .int .i64 q
  lb : ∃ q, c5 = .int .i64 q
  ok : s.ok
theorem OS.ext {B : Nat} {w w' : World} {c0 c1 c2 c3 c4 c5 : Value} {s : Su} (h : OS B w c0 c1 c2 c3 c4 c5 s) (x : Ext w w') : OS B w' c0 c1 c2 c3 c4 c5 s := ⟨row_ext h.ps x, row_ext h.hs x, row_ext h.rs x, h.q, h.se, h.lb, h.ok⟩
theorem OS.su {B : Nat} {w : World} {c0 c1 c2 c3 c4 c5 : Value} {s : Su} (h : OS B w c0 c1 c2 c3 c4 c5 s) : SuV w c0 c1 c2 c3 c4 c5 s :=
  ⟨SR.of_row (cs := Pe.cs) (fun _ => rfl) h.ps (by have := h.ok.np; omega), SR.of_row (cs := Ho.cs) (fun _ => rfl) h.hs (by have := h.ok.nh; omega), SR.of_row (cs := reC) (fun _ => rfl) h.rs (by have := h.ok.nr; omega), h.q, h.se, h.lb, h.ok⟩
theorem own_lit {w : World} {g E sz n : Nat} {B : Nat} {xs : List Value} (hB : B ≤ g) (hg : w.heap[g]? = some (.cells xs.toArray E)) (hl : xs.length = n * sz) (hn : n ≤ 1000000) : w.ownsRow B E sz (.slice (some ⟨g, 0, none⟩) n n) n xs :=
  ⟨hl, .inr ⟨g, n, xs.toArray, rfl, hB, hg, Nat.le_refl _, by unfold maxLen; omega, by simpa using hl, by simp [← hl]⟩⟩
def exS : Su := ⟨[⟨1, 3, 0⟩, ⟨2, 3, 0⟩, ⟨3, 3, 0⟩], [⟨5, 12, 6⟩, ⟨2, 11, 3⟩, ⟨3, 11, 4⟩], [(1, 4), (4, 5), (5, 6)]⟩
theorem exS_ok : exS.ok := by
  refine ⟨fun p hp => ?_, fun h hh => ?_, fun r hr => ?_, by decide, by decide, by decide⟩
  · simp only [exS, List.mem_cons, List.not_mem_nil, or_false] at hp
    rcases hp with rfl | rfl | rfl <;> exact ⟨okI_small (by decide), okI_small (by decide), okI_small (by decide)⟩
  · simp only [exS, List.mem_cons, List.not_mem_nil, or_false] at hh
    rcases hh with rfl | rfl | rfl <;> exact ⟨okI_small (by decide), okI_small (by decide), okI_small (by decide)⟩
  · simp only [exS, List.mem_cons, List.not_mem_nil, or_false] at hr
    rcases hr with rfl | rfl | rfl <;> exact ⟨okI_small (by decide), okI_small (by decide)⟩
def exP (i : Nat) : List Pe := (List.range i).map fun (k : Nat) => (⟨(k : Int) + 1, 3, 0⟩ : Pe)
theorem exP_succ (i : Nat) : exP (i + 1) = exP i ++ [⟨(i : Int) + 1, 3, 0⟩] := by
  unfold exP
  rw [List.range_succ, List.map_append]
  rfl
theorem exP_len (i : Nat) : (exP i).length = i := by simp [exP]
theorem OS.form {B : Nat} {w : World} {c0 c1 c2 c3 c4 c5 : Value} {s : Su} (h : OS B w c0 c1 c2 c3 c4 c5 s) : ∃ A0 p0 z1 A2 p2 A3 p3 z4 z5, c0 = .slice A0 s.ps.length p0 ∧ c1 = .int .i64 z1 ∧ c2 = .slice A2 s.hs.length p2 ∧ c3 = .slice A3 s.rs.length p3 ∧ c4 = .int .i64 z4 ∧ c5 = .int .i64 z5 := by
  obtain ⟨A0, p0, h0⟩ := row_formG h.ps
  obtain ⟨A2, p2, h2⟩ := row_formG h.hs
  obtain ⟨A3, p3, h3⟩ := row_formG h.rs
  obtain ⟨z1, h1⟩ := h.q
  obtain ⟨z4, h4⟩ := h.se
  obtain ⟨z5, h5⟩ := h.lb
  exact ⟨A0, p0, z1, A2, p2, A3, p3, z4, z5, h0, h1, h2, h3, h4, h5⟩
theorem OS.mono {B B' : Nat} {w : World} {c0 c1 c2 c3 c4 c5 : Value} {s : Su} (h : OS B w c0 c1 c2 c3 c4 c5 s) (hB : B' ≤ B) : OS B' w c0 c1 c2 c3 c4 c5 s := ⟨row_mono h.ps hB, row_mono h.hs hB, row_mono h.rs hB, h.q, h.se, h.lb, h.ok⟩
/-- A setup in a box, its lists one's own. -/
structure BS (w0 : World) (D : Nat) (W : World) (c0 c1 c2 c3 c4 c5 : Value) (s : Su) : Prop where
  low : Ext w0 W
  at_ : W.heap[D]? = some (.cells #[c0, c1, c2, c3, c4, c5] 28)
  os : OS w0.heap.size W c0 c1 c2 c3 c4 c5 s
  ge : w0.heap.size ≤ D
section
variable {w0 W W' : World} {D : Nat} {c0 c1 c2 c3 c4 c5 : Value} {s : Su}
theorem BS.ext (h : BS w0 D W c0 c1 c2 c3 c4 c5 s) (x : Ext W W') : BS w0 D W' c0 c1 c2 c3 c4 c5 s := ⟨h.low.trans x, (x.block _ (Rg.lt_of_heap h.at_)).trans h.at_, h.os.ext x, h.ge⟩
theorem BS.c (h : BS w0 D W c0 c1 c2 c3 c4 c5 s) : W.cell? ⟨D, 0, none⟩ = some c0 ∧ W.cell? ⟨D, 1, none⟩ = some c1 ∧ W.cell? ⟨D, 2, none⟩ = some c2 ∧ W.cell? ⟨D, 3, none⟩ = some c3 ∧ W.cell? ⟨D, 4, none⟩ = some c4 ∧ W.cell? ⟨D, 5, none⟩ = some c5 :=
  ⟨cell_of_row W D 0 _ _ _ h.at_, cell_of_row W D 1 _ _ _ h.at_, cell_of_row W D 2 _ _ _ h.at_, cell_of_row W D 3 _ _ _ h.at_, cell_of_row W D 4 _ _ _ h.at_, cell_of_row W D 5 _ _ _ h.at_⟩
/-- What is behind an append and a store into the box. -/
theorem keep2 {B E sz n D o : Nat} {V W W' : World} {v u : Value} {xs : List Value} (hr : W.ownsRow B E sz v n xs) (hg : W.grownBy W' v.ownBlock) {ds : Array Value} (hD : W.heap[D]? = some (.cells ds 28)) (hE : E ≠ 28) {v2 : Value} {B2 E2 sz2 n2 : Nat} {xs2 : List Value} (hE2 : E2 ≠ E) (hE3 : E2 ≠ 28) (h2 : W.ownsRow B2 E2 sz2 v2 n2 xs2) : (W'.setCell ⟨D, o, none⟩ u).ownsRow B2 E2 sz2 v2 n2 xs2 :=
  own_cell (row_keepK h2 fun g e => by
    obtain ⟨cs, hc⟩ := row_block h2 e
    exact (row_other hr hE2 hg hc).trans hc.symm) (row_other hr (fun e => hE e.symm) hg hD) (fun e => hE3 e.symm) u
theorem BS.pushP (h : BS w0 D W c0 c1 c2 c3 c4 c5 s) {v : Value} {p : Pe} (hg : W.grownBy W' c0.ownBlock) (hr : W'.ownsRow w0.heap.size 50 3 v (s.ps ++ [p]).length ((s.ps ++ [p]).flatMap Pe.cs)) (hok : (⟨s.ps ++ [p], s.hs, s.rs⟩ : Su).ok) :
    BS w0 D (W'.setCell ⟨D, 0, none⟩ v) v c1 c2 c3 c4 c5 ⟨s.ps ++ [p], s.hs, s.rs⟩ := by
  have hD := row_other h.os.ps (by decide) hg h.at_
  exact ⟨Ext.setCell (row_grown h.low h.os.ps (Nat.le_refl _) hg) h.ge _, (heap_setCell_row _ hD).trans rfl, ⟨own_cell hr hD (by decide) _, keep2 (V := W) h.os.ps hg h.at_ (by decide) (by decide) (by decide) h.os.hs, keep2 (V := W) h.os.ps hg h.at_ (by decide) (by decide) (by decide) h.os.rs, h.os.q, h.os.se, h.os.lb, hok⟩, h.ge⟩
theorem BS.pushH (h : BS w0 D W c0 c1 c2 c3 c4 c5 s) {v : Value} {p : List Ho} (hg : W.grownBy W' c2.ownBlock) (hr : W'.ownsRow w0.heap.size 33 3 v (s.hs ++ p).length ((s.hs ++ p).flatMap Ho.cs)) (hok : (⟨s.ps, s.hs ++ p, s.rs⟩ : Su).ok) :
    BS w0 D (W'.setCell ⟨D, 2, none⟩ v) c0 c1 v c3 c4 c5 ⟨s.ps, s.hs ++ p, s.rs⟩ := by
  have hD := row_other h.os.hs (by decide) hg h.at_
  exact ⟨Ext.setCell (row_grown h.low h.os.hs (Nat.le_refl _) hg) h.ge _, (heap_setCell_row _ hD).trans rfl, ⟨keep2 (V := W) h.os.hs hg h.at_ (by decide) (by decide) (by decide) h.os.ps, own_cell hr hD (by decide) _, keep2 (V := W) h.os.hs hg h.at_ (by decide) (by decide) (by decide) h.os.rs, h.os.q, h.os.se, h.os.lb, hok⟩, h.ge⟩
theorem BS.pushR (h : BS w0 D W c0 c1 c2 c3 c4 c5 s) {v : Value} {p : List (Int × Int)} (hg : W.grownBy W' c3.ownBlock) (hr : W'.ownsRow w0.heap.size 36 2 v (s.rs ++ p).length ((s.rs ++ p).flatMap reC)) (hok : (⟨s.ps, s.hs, s.rs ++ p⟩ : Su).ok) :
    BS w0 D (W'.setCell ⟨D, 3, none⟩ v) c0 c1 c2 v c4 c5 ⟨s.ps, s.hs, s.rs ++ p⟩ := by
  have hD := row_other h.os.rs (by decide) hg h.at_
  exact ⟨Ext.setCell (row_grown h.low h.os.rs (Nat.le_refl _) hg) h.ge _, (heap_setCell_row _ hD).trans rfl, ⟨keep2 (V := W) h.os.rs hg h.at_ (by decide) (by decide) (by decide) h.os.ps, keep2 (V := W) h.os.rs hg h.at_ (by decide) (by decide) (by decide) h.os.hs, own_cell hr hD (by decide) _, h.os.q, h.os.se, h.os.lb, hok⟩, h.ge⟩
theorem BS.putH (h : BS w0 D W c0 c1 c2 c3 c4 c5 s) {v : Value} {p : List Ho} (hr : W.ownsRow w0.heap.size 33 3 v p.length (p.flatMap Ho.cs)) (hok : (⟨s.ps, p, s.rs⟩ : Su).ok) :
    BS w0 D (W.setCell ⟨D, 2, none⟩ v) c0 c1 v c3 c4 c5 ⟨s.ps, p, s.rs⟩ :=
  ⟨Ext.setCell h.low h.ge _, (heap_setCell_row _ h.at_).trans rfl, ⟨own_cell h.os.ps h.at_ (by decide) _, own_cell hr h.at_ (by decide) _, own_cell h.os.rs h.at_ (by decide) _, h.os.q, h.os.se, h.os.lb, hok⟩, h.ge⟩
theorem BS.putR (h : BS w0 D W c0 c1 c2 c3 c4 c5 s) {v : Value} {p : List (Int × Int)} (hr : W.ownsRow w0.heap.size 36 2 v p.length (p.flatMap reC)) (hok : (⟨s.ps, s.hs, p⟩ : Su).ok) :
    BS w0 D (W.setCell ⟨D, 3, none⟩ v) c0 c1 c2 v c4 c5 ⟨s.ps, s.hs, p⟩ :=
  ⟨Ext.setCell h.low h.ge _, (heap_setCell_row _ h.at_).trans rfl, ⟨own_cell h.os.ps h.at_ (by decide) _, own_cell h.os.hs h.at_ (by decide) _, own_cell hr h.at_ (by decide) _, h.os.q, h.os.se, h.os.lb, hok⟩, h.ge⟩
theorem BS.zero (w : World) {w0 : World} (h : Ext w0 w) : BS w0 w.heap.size (w.alloc (.cells #[.slice none 0 0, .int .i64 0, .slice none 0 0, .slice none 0 0, .int .i64 0, .int .i64 0] 28)) (.slice none 0 0) (.int .i64 0) (.slice none 0 0) (.slice none 0 0) (.int .i64 0) (.int .i64 0) ⟨[], [], []⟩ :=
  ⟨Ext.alloc h _, alloc_at w _, ⟨⟨rfl, .inl ⟨rfl, rfl⟩⟩, ⟨rfl, .inl ⟨rfl, rfl⟩⟩, ⟨rfl, .inl ⟨rfl, rfl⟩⟩, ⟨_, rfl⟩, ⟨_, rfl⟩, ⟨_, rfl⟩, ⟨fun p hp => (by cases hp), fun p hp => (by cases hp), fun p hp => (by cases hp), by decide, by decide, by decide⟩⟩, h.size⟩
end
def zS : Su := ⟨[], [], []⟩
theorem zS_ok : zS.ok := ⟨fun p hp => (by cases hp), fun p hp => (by cases hp), fun p hp => (by cases hp), by decide, by decide, by decide⟩
theorem Su.ok.of {ps : List Pe} {hs : List Ho} {rs : List (Int × Int)} (h1 : ∀ p ∈ ps, OkI p.id ∧ OkI p.role ∧ OkI p.pub) (h2 : ∀ h ∈ hs, OkI h.per ∧ OkI h.bid ∧ OkI h.pct) (h3 : ∀ r ∈ rs, OkI r.1 ∧ OkI r.2) (h4 : ps.length ≤ 1000) (h5 : hs.length ≤ 1000) (h6 : rs.length ≤ 1000) : (⟨ps, hs, rs⟩ : Su).ok := ⟨h1, h2, h3, h4, h5, h6⟩
end Go.Proofs.Ytlekdhhgjhakgaa

namespace Go.Proofs.Ytlekdhhgjhakgaa
set_option linter.unusedVariables false
set_option linter.unusedSimpArgs false
open Go.RowKit
theorem exP_ok (i : Nat) (h : i ≤ 3) : (⟨exP i, [], []⟩ : Su).ok := by
  refine ⟨fun p hp => ?_, fun p hp => (by cases hp), fun p hp => (by cases hp), by rw [exP_len]; omega, by simp, by simp⟩
  obtain ⟨k, hk, rfl⟩ := List.mem_map.1 hp
  have := List.mem_range.1 hk
  exact ⟨okI_small ⟨by simp only; omega, by simp only; omega⟩, okI_small (by simp), okI_small (by simp)⟩
set_option maxRecDepth 100000 in
set_option maxHeartbeats 8000000 in
theorem example_any (w : World) : Calls Try.prog 26 #[] w fun e w' => ∃ c0 c1 c2 c3 c4 c5, e = .returned (.agg #[c0, c1, c2, c3, c4, c5]) ∧ OS w.heap.size w' c0 c1 c2 c3 c4 c5 exS ∧ Ext w w' := by
  go_enter Try.func26, Try.ntmps26
  go_upto_region 1 with (fail)
  have hx0 : Ext w (w.alloc (.cells #[.slice none 0 0, .int .i64 0, .slice none 0 0, .slice none 0 0, .int .i64 0, .int .i64 0] 28)) := Ext.alloc (Ext.refl _) _
  have hb0 := alloc_at w (.cells #[.slice none 0 0, .int .i64 0, .slice none 0 0, .slice none 0 0, .int .i64 0, .int .i64 0] 28)
  obtain ⟨D0, hD0⟩ : ∃ D0, D0 = w.heap.size := ⟨_, rfl⟩
  rw [← hD0] at hb0 ⊢
  have HD0 := Lib.hid hD0
  clear hD0
  generalize w.alloc (.cells #[.slice none 0 0, .int .i64 0, .slice none 0 0, .slice none 0 0, .int .i64 0, .int .i64 0] 28) = W0 at *
  have hz := BS.zero W0 hx0
  have hb1 := (((Ext.alloc (Ext.refl W0) (.cells #[.slice none 0 0, .int .i64 0, .slice none 0 0, .slice none 0 0, .int .i64 0, .int .i64 0] 28))).block _ (Rg.lt_of_heap hb0)).trans hb0
  obtain ⟨D, hD⟩ : ∃ D, D = W0.heap.size := ⟨_, rfl⟩
  have HNE : Hid (D0 ≠ D) := Lib.hid (by have := Rg.lt_of_heap hb0; omega)
  go_upto_region 2 with (fail)
  rw [← hD] at hz ⊢
  clear hD hb0 hx0
  generalize W0.alloc (.cells #[.slice none 0 0, .int .i64 0, .slice none 0 0, .slice none 0 0, .int .i64 0, .int .i64 0] 28) = W1 at *
  have HZ := Lib.hid hz; have HB1 := Lib.hid hb1
  clear hz hb1
  go_wp2_with (fail)
  go_loopw [2] (fun iv wr => ∃ (i : Nat) (ov : Value), iv = .int .i64 ((i : Int) + 1) ∧ i ≤ 3 ∧ Hid (BS w D wr ov (.int .i64 0) (.slice none 0 0) (.slice none 0 0) (.int .i64 0) (.int .i64 0) ⟨exP i, [], []⟩) ∧ Hid (wr.heap[D0]? = some (.cells #[.slice none 0 0, .int .i64 0, .slice none 0 0, .slice none 0 0, .int .i64 0, .int .i64 0] 28))) (fun iv _ => 4 - (iof iv).toNat)
  case atStart => exact ⟨0, _, rfl, by omega, HZ, HB1⟩
  case round =>
    obtain ⟨i, ov, rfl, hi, HZ, HB0⟩ := hrel
    clear HB1
    obtain ⟨c0, -⟩ := HZ.out.c
    have l0 := Rg.lt_of_heap HZ.out.at_
    by_cases hil : i < 3
    · have hi4 : (i : Int) + 1 < 4 := by omega
      obtain ⟨oA, oc, rfl⟩ := row_formG HZ.out.os.ps
      have hvl : Value.slice oA (exP i).length oc = Value.slice oA i oc := by rw [exP_len]
      simp only [hvl] at HZ c0
      clear hvl
      have hxa : Ext wr (wr.alloc (.cells #[.int .i64 ((i : Int) + 1), .int .i64 3, .int .i64 0] 50)) := Ext.alloc (Ext.refl _) _
      have HZ1 := Lib.hid (HZ.out.ext hxa); have HB0a := Lib.hid ((hxa.block _ (Rg.lt_of_heap HB0.out)).trans HB0.out)
      have hsz : w.heap.size ≤ (wr.alloc (.cells #[.int .i64 ((i : Int) + 1), .int .i64 3, .int .i64 0] 50)).heap.size := HZ1.out.low.size
      have hel : (exP i).length < 1000000 := by rw [exP_len]; omega
      clear hxa
      go_upto_region 4 with (at_builtin; (refine append_g (cs := Pe.cs) (z := .agg #[.int .i64 0, .int .i64 0, .int .i64 0]) 26 50 24 Try.underlying26 (by kernel_rfl) (by rfl) (by decide) (by decide) rfl (.tmp 8) (.tmp 11) rfl w.heap.size (.slice oA i oc) (exP i) (by rfl) HZ1.out.os.ps wr.heap.size ⟨(i : Int) + 1, 3, 0⟩ ⟨rfl, by simp [Pe.cs, Value.oneCell']⟩ (by rfl) (alloc_at wr _) hel hsz ?_; intro g7 cap7 w7 hr7 hg7 hat7; have hp7 := row_other HZ1.out.os.ps (by decide) hg7 HZ1.out.at_; have f7 : w7.frozen? ⟨D, 0, none⟩ = false := tab_frozen hp7; have c7 := cell_of_row w7 D 0 _ _ _ hp7; change w7.cell? _ = some (.slice oA i oc) at c7))
      have HN := Lib.hid (HZ1.out.pushP (p := ⟨(i : Int) + 1, 3, 0⟩) hg7 hr7 (by
        have := exP_ok (i + 1) (by omega)
        rw [exP_succ] at this
        exact this))
      have HBN := Lib.hid ((heap_setCell_other (o := 0) (.slice (some ⟨g7, 0, none⟩) ((exP i).length + 1) cap7) HNE.out).trans (row_other HZ1.out.os.ps (by decide) hg7 HB0a.out))
      clear hr7 hg7 hat7 hp7 f7 c7 HZ1 HB0a
      go_wp2_with (fail)
      exact ⟨⟨i + 1, _, by simp, by omega, Lib.hid (by rw [exP_succ]; exact HN.out), HBN⟩, by simp [iof]; omega⟩
    · obtain rfl : i = 3 := by omega
      have HP3 : Hid (exP 3 = exS.ps) := Lib.hid rfl
      have hf0 := tab_frozen (o := 3) HZ.out.at_
      obtain ⟨-, -, c2, c3, -, -⟩ := HZ.out.c
      have f3 : (wr.alloc (.cells #[.int .i64 1, .int .i64 4, .int .i64 4, .int .i64 5, .int .i64 5, .int .i64 6] 36)).frozen? ⟨D, 3, none⟩ = false := tab_frozen ((HZ.out.ext (Ext.alloc (Ext.refl _) _)).at_)
      go_upto_region 7 with (fail)
      have hx4 : Ext wr (wr.alloc (.cells #[.int .i64 1, .int .i64 4, .int .i64 4, .int .i64 5, .int .i64 5, .int .i64 6] 36)) := Ext.alloc (Ext.refl _) _
      have h4 := (HZ.out.ext hx4).putR (p := [(1, 4), (4, 5), (5, 6)]) (own_lit (sz := 2) (n := 3) HZ.out.low.size (alloc_at wr (.cells #[.int .i64 1, .int .i64 4, .int .i64 4, .int .i64 5, .int .i64 5, .int .i64 6] 36)) rfl (by decide)) ⟨(exP_ok 3 (by decide)).ps, fun p hp => (by cases hp), exS_ok.rs, (exP_ok 3 (by decide)).np, by simp, by simp⟩
      have hb4 := (heap_setCell_other (o := 3) (.slice (some ⟨wr.heap.size, 0, none⟩) 3 3) HNE.out).trans ((hx4.block _ (Rg.lt_of_heap HB0.out)).trans HB0.out)
      rw [← alloc_setCell wr _ _ _ _ l0] at h4 hb4
      have HZ4 := Lib.hid h4; have HB4 := Lib.hid hb4
      clear h4 hb4 hx4 HZ HB0 c0 c2 c3 hf0 f3 l0
      generalize (wr.setCell ⟨D, 3, none⟩ (.slice (some ⟨wr.heap.size, 0, none⟩) 3 3)).alloc _ = W4 at *
      obtain ⟨-, -, c2, -, -, -⟩ := HZ4.out.c
      have l0 := Rg.lt_of_heap HZ4.out.at_
      have f2 : (W4.alloc (.cells #[.int .i64 5, .int .i64 12, .int .i64 6, .int .i64 2, .int .i64 11, .int .i64 3, .int .i64 3, .int .i64 11, .int .i64 4] 33)).frozen? ⟨D, 2, none⟩ = false := tab_frozen ((HZ4.out.ext (Ext.alloc (Ext.refl _) _)).at_)
      go_upto_region 8 with (fail)
      have hx5 : Ext W4 (W4.alloc (.cells #[.int .i64 5, .int .i64 12, .int .i64 6, .int .i64 2, .int .i64 11, .int .i64 3, .int .i64 3, .int .i64 11, .int .i64 4] 33)) := Ext.alloc (Ext.refl _) _
      have h5 := (HZ4.out.ext hx5).putH (p := [⟨5, 12, 6⟩, ⟨2, 11, 3⟩, ⟨3, 11, 4⟩]) (own_lit (sz := 3) (n := 3) HZ4.out.low.size (alloc_at W4 (.cells #[.int .i64 5, .int .i64 12, .int .i64 6, .int .i64 2, .int .i64 11, .int .i64 3, .int .i64 3, .int .i64 11, .int .i64 4] 33)) rfl (by decide)) ⟨(exP_ok 3 (by decide)).ps, exS_ok.hs, exS_ok.rs, (exP_ok 3 (by decide)).np, by simp, by simp⟩
      have hb5 := (heap_setCell_other (o := 2) (.slice (some ⟨W4.heap.size, 0, none⟩) 3 3) HNE.out).trans ((hx5.block _ (Rg.lt_of_heap HB4.out)).trans HB4.out)
      rw [← alloc_setCell W4 _ _ _ _ l0] at h5 hb5
      have HZ5 := Lib.hid h5; have HB5 := Lib.hid hb5
      clear h5 hb5 hx5 HZ4 HB4 c2 f2 l0
      generalize (W4.setCell ⟨D, 2, none⟩ (.slice (some ⟨W4.heap.size, 0, none⟩) 3 3)).alloc _ = W5 at *
      obtain ⟨c0, c1, c2, c3, c4, c5⟩ := HZ5.out.c
      obtain ⟨oA, oc, rfl⟩ := row_formG HZ5.out.os.ps
      rw [HP3.out] at HZ5 c0
      obtain ⟨row, hrow⟩ : ∃ row : Array Value, row = #[.slice oA exS.ps.length oc, .int .i64 0, .slice (some ⟨W4.heap.size, 0, none⟩) 3 3, .slice (some ⟨wr.heap.size, 0, none⟩) 3 3, .int .i64 0, .int .i64 0] := ⟨_, rfl⟩
      have hone : ∀ v ∈ row.toList, v.oneCell' = true := by rw [hrow]; simp [Value.oneCell']
      have hrs : row.size = 6 := by rw [hrow]; rfl
      go_wp2_with (refine wpList_store_row (hgd := rfl) 28 (.tmp 0) (.tmp 24) rfl D0 (by rfl) row (by rw [hrow]; rfl) _ 28 HB5.out (by rw [hrs]; rfl) (by rw [hrs]; kernel_rfl) hone ?_)
      have hfin := setRow_heap W5 D0 _ row _ _ HB5.out
      have hx6 : Below w.heap.size w (W5.setRow D0 row) := below_setRow HZ5.out.low (by have := HD0.out; omega) _
      have hkeep : ∀ g, g ≠ D0 → (W5.setRow D0 row).heap[g]? = W5.heap[g]? := fun g hg => setRow_other W5 D0 g _ hg
      have kr : ∀ {v : Value} {xs : List Value} {n B E sz : Nat}, E ≠ 28 → W5.ownsRow B E sz v n xs → (W5.setRow D0 row).ownsRow B E sz v n xs := fun {v xs n B E sz} hE hv => row_keepK hv fun g e => hkeep g (by
        obtain ⟨cs, hc⟩ := row_block hv e
        exact cells_ne hc HB5.out hE)
      subst hrow
      refine bodyPost_ret (v := .agg _) (results_cell_row Try.results26 _ _ D0 28 _ _ _ (by rfl) hfin Try.underlying28 rfl (by kernel_rfl)) rfl ⟨_, _, _, _, _, _, rfl, ⟨kr (by decide) HZ5.out.os.ps, kr (by decide) HZ5.out.os.hs, kr (by decide) HZ5.out.os.rs, ⟨_, rfl⟩, ⟨_, rfl⟩, ⟨_, rfl⟩, exS_ok⟩, hx6⟩
end Go.Proofs.Ytlekdhhgjhakgaa

namespace Go.Proofs.Ytlekdhhgjhakgaa
set_option linter.unusedVariables false
set_option linter.unusedSimpArgs false
open Go.RowKit
theorem neq56 (a b c d : Int) (w : World) : (binOp .neq 56 (.agg #[.int .i64 a, .int .i64 b]) (.agg #[.int .i64 c, .int .i64 d])).run Try.prog w = .ok (.bool (!(a == c && b == d))) w := by
  by_cases h1 : a = c <;> by_cases h2 : b = d <;> simp [go_sem, h1, h2]
theorem eql56 (a b c d : Int) (w : World) : (binOp .eql 56 (.agg #[.int .i64 a, .int .i64 b]) (.agg #[.int .i64 c, .int .i64 d])).run Try.prog w = .ok (.bool (a == c && b == d)) w := by
  by_cases h1 : a = c <;> by_cases h2 : b = d <;> simp [go_sem, h1, h2]
set_option maxRecDepth 100000 in
set_option maxHeartbeats 8000000 in
theorem duties_any (v u : Value) (l m : List (Int × Int)) (w : World) (hl : SR reC 2 w v l) (hm : SR reC 2 w u m) :
    Calls Try.prog 23 #[v, u] w fun e w' => e = .returned (.bool (decide (l = m))) ∧ Ext w w' := by
  obtain ⟨b0, n0, rfl⟩ := hl.form
  obtain ⟨b1, n1, rfl⟩ := hm.form
  have hll := hl.le
  have hml := hm.le
  have HL := Lib.hid hl; have HM := Lib.hid hm
  clear hl hm
  go_enter Try.func23, Try.ntmps23
  by_cases hlen : l.length = m.length
  · have h1 : ((l.length : Int) != (m.length : Int)) = false := by simp [hlen]
    have HLE := Lib.hid hlen
    clear hlen
    go_upto_region 4 with (fail)
    go_loopw [5] (fun iv wr => ∃ i : Nat, iv = .int .i64 i ∧ i ≤ l.length ∧ Hid (l.take i = m.take i) ∧ Hid (Ext w wr)) (fun iv _ => l.length - (iof iv).toNat)
    case atStart => exact ⟨0, rfl, by omega, Lib.hid rfl, Lib.hid (Ext.refl _)⟩
    case round =>
      obtain ⟨i, rfl, hi, HT, HX⟩ := hrel
      by_cases hil : i < l.length
      · have him : i < m.length := by rw [← HLE.out]; exact hil
        obtain ⟨g, rfl, hgl, d0, d1⟩ := re_at HL.out i hil
        obtain ⟨g', rfl, hgl', d2, d3⟩ := re_at HM.out i him
        replace d0 := (HX.out.cells.1 _ _ hgl).trans d0
        replace d1 := (HX.out.cells.1 _ _ hgl).trans d1
        replace d2 := (HX.out.cells.1 _ _ hgl').trans d2
        replace d3 := (HX.out.cells.1 _ _ hgl').trans d3
        replace hgl := Nat.lt_of_lt_of_le hgl HX.out.size
        replace hgl' := Nat.lt_of_lt_of_le hgl' HX.out.size
        have HT1 : Hid (l.take (i + 1) = l.take i ++ [l[i]]) := Lib.hid (List.take_succ_eq_append_getElem hil)
        have HT2 : Hid (m.take (i + 1) = m.take i ++ [m[i]]) := Lib.hid (List.take_succ_eq_append_getElem him)
        have HNE : Hid (l[i] ≠ m[i] → l ≠ m) := Lib.hid fun h e => h (by subst e; rfl)
        generalize l[i] = x at *
        generalize m[i] = y at *
        obtain ⟨xa, xb⟩ := x
        obtain ⟨ya, yb⟩ := y
        simp only at d0 d1 d2 d3
        have hq := neq56 xa xb ya yb
        by_cases he : (xa == ya && xb == yb) = true
        · rw [he] at hq
          have HEQ : Hid ((xa, xb) = (ya, yb)) := Lib.hid (by simp only [Bool.and_eq_true, beq_iff_eq] at he; rw [he.1, he.2])
          clear he
          go_upto_region 6 with (fail)
          go_quiet (fail)
          go_wp2_with (fail)
          go_roundw
          case rel => exact ⟨i + 1, by simp, by omega, Lib.hid (by rw [HT1.out, HT2.out, HT.out, HEQ.out]), Lib.hid (HX.out.trans (by with_reducible repeat (first | exact Ext.refl _ | assumption | apply Ext.drewN | apply Ext.drew | apply Ext.alloc | (refine Ext.setCell ?_ (by simp <;> omega) _) | (refine Ext.trans ?_ (by assumption)))))⟩
          case measure => simp [iof]; omega
        · rw [Bool.not_eq_true] at he
          rw [he] at hq
          have HEQ : Hid (l ≠ m) := Lib.hid (HNE.out fun e => by injection e with e1 e2; subst e1 e2; simp at he)
          clear he
          go_upto_region 6 with (fail)
          go_quiet (fail)
          go_wp2_with (fail)
          go_ret
          exact ⟨by rw [decide_eq_false HEQ.out]; rfl, HX.out.trans (by with_reducible repeat (first | exact Ext.refl _ | assumption | apply Ext.drewN | apply Ext.drew | apply Ext.alloc | (refine Ext.setCell ?_ (by simp <;> omega) _) | (refine Ext.trans ?_ (by assumption))))⟩
      · obtain rfl : i = l.length := by omega
        have HEQ : Hid (l = m) := Lib.hid (by
          have h1 := HT.out
          rw [List.take_length] at h1
          rw [h1, HLE.out, List.take_length])
        go_wp2_with (fail)
        go_ret
        exact ⟨by rw [decide_eq_true HEQ.out]; rfl, HX.out⟩
  · have h1 : ¬ (l.length : Int) = (m.length : Int) := by omega
    have HNE : Hid (l ≠ m) := Lib.hid fun e => hlen (by rw [e])
    clear hlen
    go_wp2_with (fail)
    go_ret
    exact ⟨by rw [decide_eq_false HNE.out]; rfl, Ext.refl _⟩
end Go.Proofs.Ytlekdhhgjhakgaa

namespace Go.Proofs.Ytlekdhhgjhakgaa
set_option linter.unusedVariables false
set_option linter.unusedSimpArgs false
theorem ex_asr : asrF exS.ps = [1, 2, 3] := by
  unfold asrF
  rw [show asrR exS.ps [] = [1, 2, 3] from by decide]
  exact (srtZ_eq (List.Perm.refl _) (by decide)).symm
def exM : List (List Nat) := [[0, 1, 2], [1, 2]]
theorem ex_may : mayL exS [11, 12] = exM := by
  unfold mayL
  rw [ex_asr]
  decide
theorem ex_may1 : mayL exS [12] = [[1, 2]] := by
  unfold mayL
  rw [ex_asr]
  decide
theorem ex_open1 : openE exS [11, 12] 1 = 0 := by
  unfold openE
  rw [ex_may, ex_asr]
  decide
theorem ex_open2 : openE exS [11, 12] 2 = 0 := by
  unfold openE
  rw [ex_may, ex_asr]
  decide
theorem ex_open3 : openE exS [12] 3 = 36 := by
  unfold openE
  rw [ex_may1, ex_asr]
  decide
theorem exM_ok : May exM 3 := by
  have := mayL_ok exS [11, 12]
  rwa [ex_may, ex_asr] at this
theorem rows_nil (M : List (List Nat)) (each : Nat) : Rows_ M each [] := ⟨Nat.zero_le _, fun o h => absurd h (Nat.not_lt_zero _)⟩
theorem can_ex (each load : Nat) : canB 3 2 each load exM [] = true ↔ CanR exM 3 each load [] := canB_iff exM_ok exM [] (rows_nil _ _) rfl
theorem ex_least1 : Least exM 3 1 1 := ⟨(can_ex 1 1).1 (by decide), fun l hl h => by
  obtain rfl : l = 0 := by omega
  have := (can_ex 1 0).2 h
  revert this
  decide⟩
theorem ex_least2 : Least exM 3 2 2 := ⟨(can_ex 2 2).1 (by decide), fun l hl h => by
  have h2 : CanR exM 3 2 1 [] := Can.more h (by omega)
  have := (can_ex 2 1).2 h2
  revert this
  decide⟩
theorem ex_pick (each L : Nat) : pick exM 3 each L [] = ((enum [0, 1, 2] each).find? fun s => canB 3 2 each L [[1, 2]] [s]).getD [] :=
  pick_eq (rest := [[1, 2]]) exM_ok (rows_nil _ _) rfl
theorem ex_p1 : pick exM 3 1 1 [] = [0] := by rw [ex_pick]; decide
theorem ex_p2 : pick exM 3 2 2 [] = [0, 1] := by rw [ex_pick]; decide
theorem ex_row (each : Nat) {s : List Nat} (hs : s ∈ enum [0, 1, 2] each) : Rows_ exM each [s] := (rows_nil exM each).snoc (by decide) hs
theorem ex_q1 : pick exM 3 1 1 [[0]] = [1] := by
  rw [pick_eq (rest := []) (l := [1, 2]) exM_ok (ex_row 1 (by decide)) rfl]
  decide
theorem ex_q2 : pick exM 3 2 2 [[0, 1]] = [1, 2] := by
  rw [pick_eq (rest := []) (l := [1, 2]) exM_ok (ex_row 2 (by decide)) rfl]
  decide
theorem ex_asg1 {L : Nat} (h : Least (mayL exS [11, 12]) (asrF exS.ps).length 1 L) : asgF exS [11, 12] 1 L = [(1, 11), (2, 12)] := by
  rw [ex_may, ex_asr] at h
  obtain rfl := h.uniq ex_least1
  unfold asgF
  rw [ex_may, ex_asr]
  show dutF [1, 2, 3] [11, 12] [pick exM 3 1 1 [], pick exM 3 1 1 [pick exM 3 1 1 []]] = _
  rw [ex_p1, ex_q1]
  decide
theorem ex_asg2 {L : Nat} (h : Least (mayL exS [11, 12]) (asrF exS.ps).length 2 L) : asgF exS [11, 12] 2 L = [(1, 11), (2, 11), (2, 12), (3, 12)] := by
  rw [ex_may, ex_asr] at h
  obtain rfl := h.uniq ex_least2
  unfold asgF
  rw [ex_may, ex_asr]
  show dutF [1, 2, 3] [11, 12] [pick exM 3 2 2 [], pick exM 3 2 2 [pick exM 3 2 2 []]] = _
  rw [ex_p2, ex_q2]
  decide
def exT : Su := ⟨exS.ps, exS.hs, exS.rs ++ [(2, 3)]⟩
theorem exT_ok : exT.ok := ⟨exS_ok.ps, exS_ok.hs, fun r hr => by
  rcases List.mem_append.1 hr with hr | hr
  · exact exS_ok.rs r hr
  · rw [List.mem_singleton] at hr
    subst hr
    exact ⟨okI_small (by decide), okI_small (by decide)⟩, by decide, by decide, by decide⟩
theorem ex_c1 : confF exS 1 12 = true := by decide
theorem ex_c2 : confF exS 2 11 = false := by decide
theorem ex_c3 : confF exS 3 11 = false := by decide
theorem ex_c4 : confF exT 2 11 = true := by decide
theorem ex_c5 : partsF exT.hs 11 (cirF exT.rs 3) = 7 := by decide
end Go.Proofs.Ytlekdhhgjhakgaa

namespace Go.Proofs.Ytlekdhhgjhakgaa
set_option linter.unusedVariables false
set_option linter.unusedSimpArgs false
open Go.RowKit
theorem ird_lit {w : World} {g n : Nat} {zs : List Int} (hg : w.heap[g]? = some (.cells (zs.map (Value.int .i64)).toArray 3)) (hn : n = zs.length) (hl : zs.length ≤ 1000000) (hz : ∀ z ∈ zs, OkI z) : IRd w (.slice (some ⟨g, 0, none⟩) n n) zs := by
  subst hn
  exact ⟨_, _, rfl, by omega, hz, .inr ⟨g, 0, rfl, fun k hk => by
    rw [Nat.zero_add, cell_of_row w g k _ _ _ hg]
    simp [hk]⟩⟩
theorem sr_lit {w : World} {g n : Nat} {ds : List (Int × Int)} (hg : w.heap[g]? = some (.cells (ds.flatMap reC).toArray 56)) (hn : n = ds.length) (hl : ds.length ≤ 1000000) : SR reC 2 w (.slice (some ⟨g, 0, none⟩) n n) ds := by
  subst hn
  exact SR.of_row (cs := reC) (fun _ => rfl) (own_lit (B := 0) (E := 56) (sz := 2) (Nat.zero_le _) hg (by
    have : ∀ l : List (Int × Int), (l.flatMap reC).length = l.length * 2 := fun l => by
      induction l with
      | nil => rfl
      | cons x l ih => rw [List.flatMap_cons, List.length_append, ih, List.length_cons]; simp [reC]; omega
    exact this ds) hl) hl
theorem ex_as (each : Nat) (ei : Int) (hei : ei = each) (ds : List (Int × Int)) (ho : openE exS [11, 12] each = 0) (hds : ∀ L, Least (mayL exS [11, 12]) (asrF exS.ps).length each L → asgF exS [11, 12] each L = ds) (W : World) (c0 c1 c2 c3 c4 c5 : Value) (h : SuV W c0 c1 c2 c3 c4 c5 exS) (g : Nat) (hg : W.heap[g]? = some (.cells #[.int .i64 11, .int .i64 12] 3)) (hl : ds.length ≤ 1000) :
    Calls Try.prog 19 #[.agg #[c0, c1, c2, c3, c4, c5], .slice (some ⟨g, 0, none⟩) 2 2, .int .i64 ei] W fun e w' => ∃ A c, e = .returned (.tuple #[.slice A ds.length c, .int .i64 0]) ∧ Ext W w' ∧ SR reC 2 w' (.slice A ds.length c) ds := by
  subst hei
  refine (Assign_any c0 c1 c2 c3 c4 c5 _ exS [11, 12] each W h (ird_lit (zs := [11, 12]) hg rfl (by decide) (fun z hz => by
    simp only [List.mem_cons, List.not_mem_nil, or_false] at hz
    rcases hz with rfl | rfl <;> exact okI_small (by decide))) (by decide)).mono ?_
  rintro e w' ⟨v, rfl, hx, h1, -⟩
  obtain ⟨L, hL, hrow⟩ := h1 ho
  rw [show ((each : Int)).toNat = each from rfl] at hL hrow
  rw [hds L hL] at hrow
  have hsr := SR.of_row (cs := reC) (fun _ => rfl) hrow (by omega)
  obtain ⟨A, c, rfl⟩ := hsr.form
  exact ⟨A, c, by rw [ho], hx, hsr⟩
theorem ex_as3 (W : World) (c0 c1 c2 c3 c4 c5 : Value) (h : SuV W c0 c1 c2 c3 c4 c5 exS) (g : Nat) (hg : W.heap[g]? = some (.cells #[.int .i64 12] 3)) :
    Calls Try.prog 19 #[.agg #[c0, c1, c2, c3, c4, c5], .slice (some ⟨g, 0, none⟩) 1 1, .int .i64 3] W fun e w' => e = .returned (.tuple #[.slice none 0 0, .int .i64 36]) ∧ Ext W w' := by
  refine (Assign_any c0 c1 c2 c3 c4 c5 _ exS [12] 3 W h (ird_lit (zs := [12]) hg rfl (by decide) (fun z hz => by
    simp only [List.mem_cons, List.not_mem_nil, or_false] at hz
    subst hz
    exact okI_small (by decide))) (by decide)).mono ?_
  rintro e w' ⟨v, rfl, hx, -, h1⟩
  rw [ex_open3] at h1 ⊢
  rw [h1 (by decide)]
  exact ⟨rfl, hx⟩
set_option maxRecDepth 100000 in
set_option maxHeartbeats 8000000 in
theorem sanity_any (w : World) : Calls Try.prog 11 #[] w fun e w' => e = .returned (.bool true) ∧ Ext w w' := by
  go_enter Try.func11, Try.ntmps11
  go_upto_region 2 with (go_at_call 26; (with_reducible refine (example_any _).mono ?_); rintro e w1 ⟨c0, c1, c2, c3, c4, c5, rfl, hs1, hx1⟩; obtain ⟨A0, p0, z1, A2, p2, A3, p3, z4, z5, rfl, rfl, rfl, rfl, rfl, rfl⟩ := hs1.form)
  have hx1a : Ext w1 (w1.alloc (.cells #[.slice A0 exS.ps.length p0, .int .i64 z1, .slice A2 exS.hs.length p2, .slice A3 exS.rs.length p3, .int .i64 z4, .int .i64 z5] 28)) := Ext.alloc (Ext.refl _) _
  have hB1 : BS w w1.heap.size (w1.alloc (.cells #[.slice A0 exS.ps.length p0, .int .i64 z1, .slice A2 exS.hs.length p2, .slice A3 exS.rs.length p3, .int .i64 z4, .int .i64 z5] 28)) _ _ _ _ _ _ exS := ⟨hx1.trans hx1a, alloc_at w1 _, hs1.ext hx1a, hx1.size⟩
  obtain ⟨D1, hD1⟩ : ∃ D1, D1 = w1.heap.size := ⟨_, rfl⟩
  rw [← hD1] at hB1 ⊢
  have HB1 := Lib.hid hB1
  clear hD1 hx1a hs1 hx1 hB1
  generalize w1.alloc (.cells #[.slice A0 exS.ps.length p0, .int .i64 z1, .slice A2 exS.hs.length p2, .slice A3 exS.rs.length p3, .int .i64 z4, .int .i64 z5] 28) = W1 at *
  go_upto_region 3 with (go_at_call 26; (with_reducible refine (example_any _).mono ?_); rintro e w2 ⟨c0, c1, c2, c3, c4, c5, rfl, hs2, hx2⟩; obtain ⟨E0, r0, y1, E2, r2, E3, r3, y4, y5, rfl, rfl, rfl, rfl, rfl, rfl⟩ := hs2.form)
  have hx2a : Ext w2 (w2.alloc (.cells #[.slice E0 exS.ps.length r0, .int .i64 y1, .slice E2 exS.hs.length r2, .slice E3 exS.rs.length r3, .int .i64 y4, .int .i64 y5] 28)) := Ext.alloc (Ext.refl _) _
  have hB2 : BS W1 w2.heap.size (w2.alloc (.cells #[.slice E0 exS.ps.length r0, .int .i64 y1, .slice E2 exS.hs.length r2, .slice E3 exS.rs.length r3, .int .i64 y4, .int .i64 y5] 28)) _ _ _ _ _ _ exS := ⟨hx2.trans hx2a, alloc_at w2 _, hs2.ext hx2a, hx2.size⟩
  obtain ⟨D2, hD2⟩ : ∃ D2, D2 = w2.heap.size := ⟨_, rfl⟩
  rw [← hD2] at hB2 ⊢
  have HB2 := Lib.hid hB2
  clear hD2 hx2a hs2 hx2 hB2
  generalize w2.alloc (.cells #[.slice E0 exS.ps.length r0, .int .i64 y1, .slice E2 exS.hs.length r2, .slice E3 exS.rs.length r3, .int .i64 y4, .int .i64 y5] 28) = W2 at *
  have c3 := HB2.out.c.2.2.2.1
  have l0 := Rg.lt_of_heap HB2.out.at_
  have hxa : Ext W2 (W2.alloc (.cells #[.int .i64 2, .int .i64 3] 36)) := Ext.alloc (Ext.refl _) _
  have HB2a := Lib.hid (HB2.out.ext hxa)
  have hsz : W1.heap.size ≤ (W2.alloc (.cells #[.int .i64 2, .int .i64 3] 36)).heap.size := HB2a.out.low.size
  have hrl : exS.rs.length < 1000000 := by decide
  clear hxa
  go_upto_region 4 with (at_builtin; (refine append_g (cs := reC) (z := .agg #[.int .i64 0, .int .i64 0]) 24 36 16 Try.underlying24 (by kernel_rfl) (by rfl) (by decide) (by decide) rfl (.tmp 15) (.tmp 17) rfl W1.heap.size (.slice E3 exS.rs.length r3) exS.rs (by rfl) HB2a.out.os.rs W2.heap.size (2, 3) ⟨rfl, by simp [reC, Value.oneCell']⟩ (by rfl) (alloc_at W2 _) hrl hsz ?_; intro g7 cap7 w7 hr7 hg7 hat7; have hp7 := row_other HB2a.out.os.rs (by decide) hg7 HB2a.out.at_; have f7 : w7.frozen? ⟨D2, 3, none⟩ = false := tab_frozen hp7; have c7 := cell_of_row w7 D2 3 _ _ _ hp7; change w7.cell? _ = some (.slice E3 exS.rs.length r3) at c7))
  have hBT : BS W1 D2 (w7.setCell ⟨D2, 3, none⟩ (.slice (some ⟨g7, 0, none⟩) (exS.rs.length + 1) cap7)) _ _ _ _ _ _ exT := HB2a.out.pushR (p := [(2, 3)]) hg7 hr7 exT_ok
  clear hr7 hg7 hat7 hp7 f7 c7 HB2a hsz hrl c3 l0 HB2
  generalize w7.setCell ⟨D2, 3, none⟩ (.slice (some ⟨g7, 0, none⟩) (exS.rs.length + 1) cap7) = W3 at *
  have HBT := Lib.hid hBT
  have HB3 := Lib.hid (HB1.out.ext hBT.low)
  clear hBT HB1
  have H1 := Lib.hid (fun wz (hz : Ext W3 wz) => Conflict_any _ _ _ _ _ _ exS 1 12 wz ((HB3.out.os.su).ext hz) (okI_small (by decide)) (okI_small (by decide)))
  have H2 := Lib.hid (fun wz (hz : Ext W3 wz) => Conflict_any _ _ _ _ _ _ exS 2 11 wz ((HB3.out.os.su).ext hz) (okI_small (by decide)) (okI_small (by decide)))
  have H3 := Lib.hid (fun wz (hz : Ext W3 wz) => Conflict_any _ _ _ _ _ _ exS 3 11 wz ((HB3.out.os.su).ext hz) (okI_small (by decide)) (okI_small (by decide)))
  have H4 := Lib.hid (fun wz (hz : Ext W3 wz) => Conflict_any _ _ _ _ _ _ exT 2 11 wz ((HBT.out.os.su).ext hz) (okI_small (by decide)) (okI_small (by decide)))
  have H5 := Lib.hid (fun wz (hz : Ext W3 wz) => Parts_any _ _ _ _ _ _ exT 3 11 wz ((HBT.out.os.su).ext hz) (okI_small (by decide)))
  rw [ex_c1] at H1
  rw [ex_c2] at H2
  rw [ex_c3] at H3
  rw [ex_c4] at H4
  rw [ex_c5] at H5
  obtain ⟨k0, k1, k2, k3, k4, k5⟩ := HB3.out.c
  go_upto_region 5 with (first
    | (go_at_call 15; (with_reducible refine (H1.out W3 (Ext.refl _)).mono ?_); rintro e wa ⟨rfl, hxa⟩; obtain ⟨l0, l1, l2, l3, l4, l5⟩ := (HB3.out.ext hxa).c)
    | (go_at_call 15; (with_reducible refine (H2.out wa hxa).mono ?_); rintro e wb ⟨rfl, hxb⟩; have hxB := hxa.trans hxb; obtain ⟨m0, m1, m2, m3, m4, m5⟩ := (HB3.out.ext hxB).c)
    | (go_at_call 15; (with_reducible refine (H3.out wb hxB).mono ?_); rintro e wc ⟨rfl, hxc⟩; have hxC := hxB.trans hxc; obtain ⟨n0, n1, n2, n3, n4, n5⟩ := (HBT.out.ext hxC).c)
    | (go_at_call 15; (with_reducible refine (H4.out wc hxC).mono ?_); rintro e wd ⟨rfl, hxd⟩; have hxD := hxC.trans hxd; obtain ⟨o0, o1, o2, o3, o4, o5⟩ := (HBT.out.ext hxD).c)
    | (go_at_call 13; (with_reducible refine (H5.out wd hxD).mono ?_); rintro e we ⟨rfl, hxe⟩))
  have hxE := hxD.trans hxe
  have HXE := Lib.hid ((HB3.out.low).trans hxE)
  have HB5 := Lib.hid (HB3.out.ext hxE)
  clear k0 k1 k2 k3 k4 k5 l0 l1 l2 l3 l4 l5 m0 m1 m2 m3 m4 m5 n0 n1 n2 n3 n4 n5 o0 o1 o2 o3 o4 o5 hxa hxb hxc hxd hxe hxB hxC hxD hxE H1 H2 H3 H4 H5 HBT HB3
  obtain ⟨k0, k1, k2, k3, k4, k5⟩ := HB5.out.c
  have l0 := Rg.lt_of_heap HB5.out.at_
  have hxa : Ext we (we.alloc (.cells #[.int .i64 11, .int .i64 12] 3)) := Ext.alloc (Ext.refl _) _
  have HA := Lib.hid (ex_as 1 1 rfl [(1, 11), (2, 12)] ex_open1 (fun L hL => ex_asg1 hL) _ _ _ _ _ _ _ ((HB5.out.ext hxa).os.su) we.heap.size (alloc_at we _) (by decide))
  go_upto_region 6 with (go_at_call 19; (with_reducible refine HA.out.mono ?_); rintro e w6 ⟨A6, p6, rfl, hx6, hr6⟩)
  have hx6b : Ext we w6 := hxa.trans hx6
  have HR6 := Lib.hid hr6; have HB6 := Lib.hid (HB5.out.ext hx6b); have HX6 := Lib.hid (HXE.out.trans hx6b)
  clear k0 k1 k2 k3 k4 k5 l0 hxa HA hx6 hr6 hx6b HB5 HXE
  obtain ⟨k0, k1, k2, k3, k4, k5⟩ := HB6.out.c
  have l0 := Rg.lt_of_heap HB6.out.at_
  have hxa : Ext w6 (w6.alloc (.cells #[.int .i64 11, .int .i64 12] 3)) := Ext.alloc (Ext.refl _) _
  have HA := Lib.hid (ex_as 2 2 rfl [(1, 11), (2, 11), (2, 12), (3, 12)] ex_open2 (fun L hL => ex_asg2 hL) _ _ _ _ _ _ _ ((HB6.out.ext hxa).os.su) w6.heap.size (alloc_at w6 _) (by decide))
  go_upto_region 7 with (go_at_call 19; (with_reducible refine HA.out.mono ?_); rintro e w7 ⟨A7, p7, rfl, hx7, hr7⟩)
  have hx7b : Ext w6 w7 := hxa.trans hx7
  have HR7 := Lib.hid hr7; have HB7 := Lib.hid (HB6.out.ext hx7b); have HX7 := Lib.hid (HX6.out.trans hx7b); have HR67 := Lib.hid (HR6.out.ext hx7b)
  clear k0 k1 k2 k3 k4 k5 l0 hxa HA hx7 hr7 hx7b HB6 HX6 HR6
  obtain ⟨k0, k1, k2, k3, k4, k5⟩ := HB7.out.c
  have l0 := Rg.lt_of_heap HB7.out.at_
  have hxa : Ext w7 (w7.alloc (.cells #[.int .i64 12] 3)) := Ext.alloc (Ext.refl _) _
  have HA := Lib.hid (ex_as3 _ _ _ _ _ _ _ ((HB7.out.ext hxa).os.su) w7.heap.size (alloc_at w7 _)  )
  go_upto_region 8 with (go_at_call 19; (with_reducible refine HA.out.mono ?_); rintro e w8 ⟨rfl, hx8⟩)
  have hx8b : Ext w7 w8 := hxa.trans hx8
  have HR8 := Lib.hid (HR67.out.ext hx8b); have HR8b := Lib.hid (HR7.out.ext hx8b); have HX8 := Lib.hid (HX7.out.trans hx8b)
  clear k0 k1 k2 k3 k4 k5 l0 hxa HA hx8 hx8b HB7 HX7 HR7 HR67
  have hxq : Ext w8 (w8.alloc (.cells #[.int .i64 1, .int .i64 11, .int .i64 2, .int .i64 12] 56)) := Ext.alloc (Ext.refl _) _
  have HD := Lib.hid (duties_any _ _ [(1, 11), (2, 12)] [(1, 11), (2, 12)] _ (HR8.out.ext hxq) (sr_lit (n := 2) (alloc_at w8 (.cells #[.int .i64 1, .int .i64 11, .int .i64 2, .int .i64 12] 56)) rfl (by decide)))
  rw [decide_eq_true rfl] at HD
  go_upto_region 9 with (go_at_call 23; (refine HD.out.mono ?_); rintro e w9 ⟨rfl, hx9⟩)
  have hx9b : Ext w8 w9 := hxq.trans hx9
  have HR9 := Lib.hid (HR8b.out.ext hx9b); have HX9 := Lib.hid (HX8.out.trans hx9b)
  clear hxq hx9 hx9b HD HR8 HR8b HX8
  have hxq : Ext w9 (w9.alloc (.cells #[.int .i64 1, .int .i64 11, .int .i64 2, .int .i64 11, .int .i64 2, .int .i64 12, .int .i64 3, .int .i64 12] 56)) := Ext.alloc (Ext.refl _) _
  have HD := Lib.hid (duties_any _ _ [(1, 11), (2, 11), (2, 12), (3, 12)] [(1, 11), (2, 11), (2, 12), (3, 12)] _ (HR9.out.ext hxq) (sr_lit (n := 4) (alloc_at w9 (.cells #[.int .i64 1, .int .i64 11, .int .i64 2, .int .i64 11, .int .i64 2, .int .i64 12, .int .i64 3, .int .i64 12] 56)) rfl (by decide)))
  rw [decide_eq_true rfl] at HD
  go_wp2_with (go_at_call 23; (refine HD.out.mono ?_); rintro e w10 ⟨rfl, hx10⟩)
  go_ret
  exact ⟨rfl, HX9.out.trans (hxq.trans hx10)⟩
end Go.Proofs.Ytlekdhhgjhakgaa

namespace Go.Proofs.Ytlekdhhgjhakgaa
set_option linter.unusedVariables false
set_option linter.unusedSimpArgs false
open Go.RowKit Go.WideShapes Go.ChangeShapes

section
variable {H : Type} {enc : TypeId × Value → H} {P : Program}
theorem post_of_below {f : Func} {s : ChangeSpec} {apart fresh handsOn again : Bool} {W W' : World} {args : Array Value} {v : Value} {ds gs : List (DataW H)} {before pa pv : List MemPlace}
    (hW : DataW.Whole enc P f.params.toList s.vars apart W args.toList ds gs before)
    (hres : ∀ (b : Nat) (sp : Nat → Bool) (hd : Bool), DataW.TrodAll enc P W' b sp hd f.resultTypes.toList (v.resultList f.resultTypes.size) (s.fn H (ds ++ gs)).results [])
    (hargs : ∀ sp : Nat → Bool, (∀ p ∈ before, sp p.block = true) → DataW.TrodAll enc P W' 0 sp true f.params.toList args.toList (s.fn H (ds ++ gs)).args pa)
    (hvars : ∀ sp : Nat → Bool, (∀ p ∈ before, sp p.block = true) → DataW.TrodVars enc P W' sp s.vars (s.fn H (ds ++ gs)).vars pv)
    (hps : before = pa ++ pv) (hb : Below W.heap.size W W')
    (hok : ∀ (j : Nat) (t : TypeId) (r : Value), f.resultTypes[j]? = some t → (v.resultList f.resultTypes.size)[j]? = some r → Value.okWide P W' .any 0 t r) :
    s.post enc P f apart fresh handsOn again W args v W' := by
  have hlt : ∀ p ∈ before, p.block < W.heap.size := fun p hp => hW.lt p hp
  have hold : ∀ p ∈ before, (fun b => decide (b < W.heap.size)) p.block = true := fun p hp => by simpa using hlt p hp
  refine ⟨ds, gs, before, [], pa, pv, hW, hres _ _ _, hargs _ hold, hvars _ hold, World.keptBut_mono (fun p hp => ⟨hp, ?_⟩) (hb.frame (· ∈ before)), fun _ => ?_⟩
  · rw [hps, List.mem_append] at hp
    exact Or.inr hp
  · obtain ⟨_, _, _, _, _, hz, hn⟩ := hW
    refine ⟨hok, _, _, ([] ++ pa) ++ pv, ⟨[] ++ pa, pv, trodAll_append (hargs _ (fun _ _ => rfl)) (hres _ _ _), hvars _ (fun _ _ => rfl), rfl, ?_, ?_⟩, ?_⟩
    · intro b off hp
      have hin : MemPlace.cell b off ∈ before := by rw [hps]; simpa using hp
      rw [hb.frozen (hlt _ hin)]
      exact hz b off hin
    · intro ha
      have := hn ha
      rw [hps] at this
      simpa using this
    · intro p hp _
      rw [hps]
      simpa using hp
end

end Go.Proofs.Ytlekdhhgjhakgaa

namespace Go.Proofs.Ytlekdhhgjhakgaa
set_option linter.unusedVariables false
set_option linter.unusedSimpArgs false
open Go.RowKit Go.WideShapes Go.ChangeShapes

theorem sameAt_below {w w' : World} (hb : Below w.heap.size w w') (p : MemPlace) (hp : p.block < w.heap.size) : w.sameAt w' p := by
  cases p with
  | cell b off => exact Below.cell (p := ⟨b, off, none⟩) hb hp
  | map b => exact hb.block b hp
section
variable {H : Type} {enc : TypeId × Value → H} {P : Program} {w w' : World} {base : Nat} {sp : Nat → Bool} {held : Bool}
theorem trodAll_below (hb : Below w.heap.size w w') : ∀ {ts : List TypeId} {vs : List Value} {ds : List (DataW H)} {ps : List MemPlace}, DataW.TrodAll enc P w base sp held ts vs ds ps → DataW.TrodAll enc P w' base sp held ts vs ds ps
  | [], [], [], _, h => h
  | t :: ts, v :: vs, d :: ds, ps, h => by
    obtain ⟨p, q, ⟨fuel, hp⟩, hq, e⟩ := h
    exact ⟨p, q, ⟨fuel, DataW.trod_carry fuel t _ _ hp fun x hx => sameAt_below hb x (DataW.trod_lt fuel t _ _ hp x hx)⟩, trodAll_below hb hq, e⟩
  | [], _ :: _, _, _, h => h.elim
  | [], [], _ :: _, _, h => h.elim
  | _ :: _, [], _, _, h => h.elim
  | _ :: _, _ :: _, [], _, h => h.elim
end

theorem kids : Kids Try.prog (· < Try.prog.types.size) := kids_rows (by kernel_rfl) (by kernel_rfl)
theorem full : ∀ t e, t < Try.prog.types.size → Try.prog.underlying t = some (.slice e) → 0 < Try.prog.cellsOf e := slices_full_of Try.prog (by kernel_rfl)
theorem own : ownKnob Try.prog.godebug = none := by kernel_rfl
theorem cells3 : Try.prog.cellsOf 3 = 1 := by kernel_rfl

end Go.Proofs.Ytlekdhhgjhakgaa

namespace Go.Proofs.Ytlekdhhgjhakgaa
set_option linter.unusedVariables false
set_option linter.unusedSimpArgs false
open Go.RowKit Go.WideShapes Go.ChangeShapes
set_option maxRecDepth 100000

section
variable {H : Type} {enc : TypeId × Value → H} {W W' : World} {sp : Nat → Bool}
theorem trodAll_stay (hb : Below W.heap.size W W') : ∀ {ts : List TypeId} {vs : List Value} {ds : List (DataW H)} {ps : List MemPlace}, (∀ t ∈ ts, t < Try.prog.types.size) →
    DataW.TrodAll enc Try.prog W 0 (fun _ => true) true ts vs ds ps → (∀ p ∈ ps, sp p.block = true) → DataW.TrodAll enc Try.prog W' 0 sp true ts vs ds ps
  | [], [], [], _, _, h, _ => h
  | t :: ts, v :: vs, d :: ds, ps, ht, h, hs => by
    obtain ⟨p, q, ⟨fuel, hp⟩, hq, e⟩ := h
    subst e
    refine ⟨p, q, ⟨fuel, ?_⟩, trodAll_stay hb (fun t h => ht t (List.mem_cons_of_mem _ h)) hq (fun x hx => hs x (List.mem_append_right _ hx)), rfl⟩
    exact DataW.trod_stays kids (fun {t e} ht hu => full t e ht hu) (fun h => by cases h) (ht t List.mem_cons_self) hp
      (fun x hx => sameAt_below hb x (DataW.trod_lt fuel t _ _ hp x hx)) (fun x hx => hs x (List.mem_append_left _ hx))
  | [], _ :: _, _, _, _, h, _ => h.elim
  | [], [], _ :: _, _, _, h, _ => h.elim
  | _ :: _, [], _, _, _, h, _ => h.elim
  | _ :: _, _ :: _, [], _, _, h, _ => h.elim

theorem i64_of_wf {n : Int} (h : (Lit.int .i64 n).wf = true) : -9223372036854775808 ≤ n ∧ n ≤ 9223372036854775807 := by
  simpa [Lit.wf, IntKind.min, IntKind.max, IntKind.signed, IntKind.bits] using h
end
end Go.Proofs.Ytlekdhhgjhakgaa

namespace Go.Proofs.Ytlekdhhgjhakgaa
set_option linter.unusedVariables false
set_option linter.unusedSimpArgs false
open Go.RowKit Go.WideShapes Go.ChangeShapes
set_option maxRecDepth 100000

def RN (n : Nat) (w : World) (v : Value) (ls : List (List Int)) : Prop :=
  ∃ A cap, v = .slice A ls.length cap ∧ ls.length ≤ 9223372036854775807 ∧ (∀ z ∈ ls, z.length = n ∧ ∀ i ∈ z, OkI i) ∧
    (ls = [] ∨ ∃ b off, A = some ⟨b, off, none⟩ ∧ ∀ k (h : k < ls.length) j, j < n → w.cell? ⟨b, off + k * n + j, none⟩ = some (.int .i64 (ls[k].getD j 0)))
theorem RN.ext {n : Nat} {w w' : World} {v : Value} {ls : List (List Int)} (h : RN n w v ls) (e : Ext w w') : RN n w' v ls := by
  obtain ⟨A, cap, h1, h2, h3, h4⟩ := h
  exact ⟨A, cap, h1, h2, h3, h4.imp id fun ⟨b, off, ha, hc⟩ => ⟨b, off, ha, fun k hk j hj => (e.cells.1 _ _ (World.block_lt_of_cell? w _ (hc k hk j hj))).trans (hc k hk j hj)⟩⟩
theorem RN.form {n : Nat} {w : World} {v : Value} {ls : List (List Int)} (h : RN n w v ls) : ∃ A cap, v = .slice A ls.length cap ∧ ls.length ≤ 9223372036854775807 := by
  obtain ⟨A, cap, h1, h2, -⟩ := h
  exact ⟨A, cap, h1, h2⟩
theorem RN.at {n : Nat} {w : World} {A : Option Addr} {l c : Nat} {ls : List (List Int)} (h : RN n w (.slice A l c) ls) (k : Nat) (hk : k < ls.length) :
    ∃ b off, A = some ⟨b, off, none⟩ ∧ (∀ j, j < n → w.cell? ⟨b, off + k * n + j, none⟩ = some (.int .i64 (ls[k].getD j 0))) ∧ ∀ j, OkI (ls[k].getD j 0) := by
  obtain ⟨A', cap, h1, h2, h3, h4⟩ := h
  injection h1 with e1 e2 e3
  subst e1
  obtain ⟨b, off, ha, hc⟩ := h4.resolve_left (by intro e; rw [e] at hk; simp at hk)
  refine ⟨b, off, ha, hc k hk, fun j => ?_⟩
  rw [List.getD_eq_getElem?_getD]
  rcases Nat.lt_or_ge j ls[k].length with hj | hj
  · rw [List.getElem?_eq_getElem hj]
    exact (h3 _ (List.getElem_mem _)).2 _ (List.getElem_mem _)
  · rw [List.getElem?_eq_none hj]
    exact okI_small (by decide)

section
variable {H : Type} {enc : TypeId × Value → H} {W : World}
theorem kk3 : Try.prog.cellsOf 3 = 1 := by kernel_rfl
theorem kk33 : Try.prog.cellsOf 33 = 3 := by kernel_rfl
theorem kk36 : Try.prog.cellsOf 36 = 2 := by kernel_rfl
theorem kk38 : Try.prog.cellsOf 38 = 4 := by kernel_rfl
theorem u8_of_wf {n : Int} (h : (Lit.int .u8 n).wf = true) : 0 ≤ n ∧ n ≤ 255 := by
  simpa [Lit.wf, IntKind.min, IntKind.max, IntKind.signed, IntKind.bits] using h
theorem okWide_array {t e : TypeId} {m : Nat} {r : Reach} {b0 : Nat} {v : Value} (ht : Try.prog.underlying t = some (.array m e)) (h : Value.okWide Try.prog W r b0 t v) : ∃ cs, v = .agg cs ∧ cs.size = Try.prog.cellsOf t := by
  unfold Value.okWide at h
  rw [ht] at h
  obtain ⟨cs, h1, h2, -⟩ := h
  exact ⟨cs, h1, h2⟩
/-- An array of m ints. -/
theorem arr_ints {t e : TypeId} {m : Nat} {k : IntKind} {fuel : Nat} {cs : List Value} {x : DataW H × List MemPlace} (ht : Try.prog.underlying t = some (.array m e)) (he : Try.prog.underlying e = some (.int k)) (hc : Try.prog.cellsOf e = 1) (hct : Try.prog.cellsOf t = m)
    (h : DataW.trod enc Try.prog W 0 (fun _ => true) true fuel t cs = some x) : cs.length = m ∧ ∀ i, i < m → ∃ n, cs[i]? = some (.int k n) ∧ (Lit.int k n).wf = true := by
  cases fuel with
  | zero => simp [DataW.trod] at h
  | succ n =>
    have key : ∃ xs, cs.length = Try.prog.cellsOf t ∧ ((List.range m).mapM fun i => DataW.trod enc Try.prog W 0 (fun _ => true) true n e ((cs.drop (i * Try.prog.cellsOf e)).take (Try.prog.cellsOf e))) = some xs := by
      clear hc hct he
      unfold DataW.trod at h
      rw [ht] at h
      have fin : ∀ (cs : List Value) (x : DataW H × List MemPlace), (if cs.length = Try.prog.cellsOf t then Option.map (fun xs => (DataW.agg (List.map (fun x => x.fst) xs), List.flatMap (fun x => x.snd) xs)) (List.mapM (fun i => DataW.trod enc Try.prog W 0 (fun _ => true) true n e (List.take (Try.prog.cellsOf e) (List.drop (i * Try.prog.cellsOf e) cs))) (List.range m)) else none) = some x →
          ∃ xs, cs.length = Try.prog.cellsOf t ∧ ((List.range m).mapM fun i => DataW.trod enc Try.prog W 0 (fun _ => true) true n e ((cs.drop (i * Try.prog.cellsOf e)).take (Try.prog.cellsOf e))) = some xs := by
        intro cs x h
        split at h
        · rename_i hl
          obtain ⟨xs, hx, -⟩ := Option.map_eq_some_iff.1 h
          exact ⟨xs, hl, hx⟩
        · cases h
      split at h <;> first | (rename_i heq; cases heq; done) | (rename_i heq; injection heq with heq; injection heq with e1 e2; subst e1 e2; exact fin _ _ h) | exact fin _ _ h | (rename_i heq; injection heq with heq; cases heq; done)
    obtain ⟨xs, hl, hp⟩ := key
    rw [hct] at hl
    rw [hc] at hp
    simp only [Nat.mul_one] at hp
    refine ⟨hl, ?_⟩
    intro i hi
    have hg := mapM_some_get hp i i (by simp [hi])
    have hlen := mapM_some_length hp
    have hx : i < xs.length := by rw [hlen]; simpa using hi
    rw [List.getElem?_eq_getElem hx] at hg
    obtain ⟨n', h1, _, h3⟩ := DataW.trod_int he hg
    refine ⟨n', ?_, h3⟩
    have hi' : i < cs.length := by omega
    rw [List.drop_eq_getElem_cons hi', List.take_succ_cons, List.take_zero] at h1
    simp only [List.cons.injEq, and_true] at h1
    rw [List.getElem?_eq_getElem hi', h1]
/-- Rows of ints, as lists. -/
theorem rows_RN {m : Nat} {A : Option Addr} {len cap : Nat} (hl : len ≤ maxLen)
    (h : len = 0 ∨ ∃ b off, A = some ⟨b, off, none⟩ ∧ ∀ i, i < len → ∀ j, j < m → ∃ n, W.cell? ⟨b, off + i * m + j, none⟩ = some (.int .i64 n) ∧ (Lit.int .i64 n).wf = true) : ∃ ls, RN m W (.slice A len cap) ls := by
  unfold maxLen at hl
  rcases h with rfl | ⟨b, off, rfl, h⟩
  · exact ⟨[], A, cap, rfl, by simp, by simp, .inl rfl⟩
  · let F : Nat → Nat → Int := fun i j => iof ((W.cell? ⟨b, off + i * m + j, none⟩).getD undef)
    have hF : ∀ i, i < len → ∀ j, j < m → W.cell? ⟨b, off + i * m + j, none⟩ = some (.int .i64 (F i j)) ∧ OkI (F i j) := fun i hi j hj => by
      obtain ⟨n, h1, h2⟩ := h i hi j hj
      have : F i j = n := by show iof ((W.cell? ⟨b, off + i * m + j, none⟩).getD undef) = n; rw [h1]; rfl
      rw [this]
      exact ⟨h1, i64_of_wf h2⟩
    refine ⟨(List.range len).map fun i => (List.range m).map (F i), some ⟨b, off, none⟩, cap, by simp, by simp; omega, fun z hz => ?_, .inr ⟨b, off, rfl, fun k hk j hj => ?_⟩⟩
    · obtain ⟨i, hi, rfl⟩ := List.mem_map.1 hz
      refine ⟨by simp, fun x hx => ?_⟩
      obtain ⟨j, hj, rfl⟩ := List.mem_map.1 hx
      exact (hF i (List.mem_range.1 hi) j (List.mem_range.1 hj)).2
    · have hk' : k < len := by simpa using hk
      rw [(hF k hk' j hj).1]
      simp [List.getD_eq_getElem?_getD, List.getElem?_map, List.getElem?_range hj]
/-- A struct of ints. -/
theorem struct_ints {t : TypeId} {fs : Array Field} {m : Nat} {fuel : Nat} {cs : List Value} {x : DataW H × List MemPlace} (ht : Try.prog.underlying t = some (.struct fs)) (hct : Try.prog.cellsOf t = m) (hm : fs.size = m)
    (hf : ∀ j, j < m → ∃ f, fs[j]? = some f ∧ f.type = 3 ∧ f.offset = j)
    (h : DataW.trod enc Try.prog W 0 (fun _ => true) true fuel t cs = some x) : cs.length = m ∧ ∀ i, i < m → ∃ n, cs[i]? = some (.int .i64 n) ∧ (Lit.int .i64 n).wf = true := by
  obtain ⟨xs, n, -, -, hl, hx, hg⟩ := DataW.trod_struct ht h
  rw [hct] at hl
  refine ⟨hl, fun i hi => ?_⟩
  obtain ⟨f, hfi, h1, h2⟩ := hf i hi
  have h3 := hg i f hfi
  have hxi : i < xs.length := by rw [hx, hm]; exact hi
  rw [List.getElem?_eq_getElem hxi, h1, h2, kk3] at h3
  obtain ⟨z, e1, -, e2⟩ := DataW.trod_int Try.underlying3 h3
  have hic : i < cs.length := by omega
  rw [List.drop_eq_getElem_cons hic, List.take_succ_cons, List.take_zero] at e1
  simp only [List.cons.injEq, and_true] at e1
  exact ⟨z, by rw [List.getElem?_eq_getElem hic, e1], e2⟩
theorem slice_srows {t e : TypeId} {fs : Array Field} {m : Nat} {fuel : Nat} {cs : List Value} {x : DataW H × List MemPlace} (ht : Try.prog.underlying t = some (.slice e)) (hte : Try.prog.underlying e = some (.struct fs)) (hct : Try.prog.cellsOf e = m) (hfs : fs.size = m)
    (hf : ∀ j, j < m → ∃ f, fs[j]? = some f ∧ f.type = 3 ∧ f.offset = j) (hm : 0 < m)
    (h : DataW.trod enc Try.prog W 0 (fun _ => true) true fuel t cs = some x) :
    ∃ A len cap, cs = [.slice A len cap] ∧ len ≤ maxLen ∧ (len = 0 ∨ ∃ b off, A = some ⟨b, off, none⟩ ∧ ∀ i, i < len → ∀ j, j < m → ∃ n, W.cell? ⟨b, off + i * m + j, none⟩ = some (.int .i64 n) ∧ (Lit.int .i64 n).wf = true) := by
  rcases DataW.trod_slice ht h with ⟨rfl, -⟩ | ⟨a, len, cap, elems, rest, n, -, rfl, -, -, hl, hmx, hlen, hel, -, -⟩
  · exact ⟨none, 0, 0, rfl, Nat.zero_le _, .inl rfl⟩
  · refine ⟨some a, len, cap, rfl, by omega, ?_⟩
    rcases Nat.eq_zero_or_pos len with h0 | h0
    · exact .inl h0
    · have key : ∀ i, i < len → ∀ j, j < m → ∃ z, W.cell? ((a.add (i * m)).add j) = some (.int .i64 z) ∧ (Lit.int .i64 z).wf = true := by
        intro i hi j hj
        have h1 := hel i hi
        rw [List.getElem?_eq_getElem (by omega)] at h1
        obtain ⟨ecs, h2, h3⟩ := Option.bind_eq_some_iff.1 h1
        obtain ⟨h4, h5⟩ := struct_ints hte hct hfs hf h3
        obtain ⟨z, h6, h7⟩ := h5 j hj
        have := (World.cells?_some h2).2.2 j (by rw [hct]; exact hj)
        rw [hct] at this
        exact ⟨z, by rw [this, h6], h7⟩
      obtain ⟨b, off, spot⟩ := a
      obtain ⟨z0, hz0, -⟩ := key 0 h0 0 hm
      have hspot : spot = none := by simpa [Addr.add] using World.cell?_spot hz0
      subst hspot
      refine .inr ⟨b, off, rfl, fun i hi j hj => ?_⟩
      obtain ⟨z, h1, h2⟩ := key i hi j hj
      exact ⟨z, by simpa [Go.WideShapes.add_plain] using h1, h2⟩
theorem ird_of_trod {t : TypeId} (ht : Try.prog.underlying t = some (.slice 3)) {fuel : Nat} {cs : List Value} {x : DataW H × List MemPlace} (h : DataW.trod enc Try.prog W 0 (fun _ => true) true fuel t cs = some x) : ∃ v ls, cs = [v] ∧ IRd W v ls := by
  rcases open_ints ht Try.underlying3 kk3 h with ⟨rfl, -⟩ | ⟨a, len, cap, zs, rfl, -, hl, hm, hz, -, hc, hw⟩
  · exact ⟨_, [], rfl, none, 0, rfl, by simp, by simp, .inl rfl⟩
  · have hlen : (zs.take len).length = len := by rw [List.length_take, hz]; simp; omega
    unfold maxLen at hm
    refine ⟨_, zs.take len, rfl, some a, cap, by rw [hlen], by rw [hlen]; omega, fun z hz => i64_of_wf (hw z (List.mem_of_mem_take hz)), ?_⟩
    rcases Nat.eq_zero_or_pos len with rfl | hpos
    · exact .inl rfl
    · have hzl : len ≤ zs.length := by rw [hz]; simp; omega
      obtain ⟨b, off, rfl, hcell⟩ := ints_at hc (by omega)
      refine .inr ⟨b, off, rfl, fun k hk => ?_⟩
      rw [hlen] at hk
      rw [hcell k (by omega), List.getElem_take, List.getD_eq_getElem?_getD, List.getElem?_eq_getElem (by omega)]
      rfl
theorem open_IRd {r : Go.Reach} {b0 : Nat} {v : Value} {d : DataW H} {ps : List MemPlace} (hval : Value.okWide Try.prog W r b0 22 v) (hd : DataW.Trod enc Try.prog W 0 (fun _ => true) true 22 v d ps) : ∃ ls, IRd W v ls := by
  obtain ⟨fuel, hf⟩ := hd
  obtain ⟨a, l, c, rfl⟩ := okWide_slice Try.underlying22 hval
  obtain ⟨v, ls, hcs, hr⟩ := ird_of_trod Try.underlying22 hf
  simp [Value.cells] at hcs
  subst hcs
  exact ⟨ls, hr⟩
/-- Holdings. -/
theorem open_holds {r : Go.Reach} {b0 : Nat} {v : Value} {d : DataW H} {ps : List MemPlace} (hval : Value.okWide Try.prog W r b0 23 v) (hd : DataW.Trod enc Try.prog W 0 (fun _ => true) true 23 v d ps) : ∃ ls, RN 3 W v ls := by
  obtain ⟨fuel, hf⟩ := hd
  obtain ⟨a, l, c, rfl⟩ := okWide_slice Try.underlying23 hval
  obtain ⟨A, len, cap, e, h1, h2⟩ := slice_srows (m := 3) Try.underlying23 Try.underlying33 kk33 rfl (fun j hj => by
    match j, hj with
    | 0, _ => exact ⟨_, rfl, rfl, rfl⟩
    | 1, _ => exact ⟨_, rfl, rfl, rfl⟩
    | 2, _ => exact ⟨_, rfl, rfl, rfl⟩) (by decide) hf
  simp [Value.cells] at e
  obtain ⟨rfl, rfl, rfl⟩ := e
  exact rows_RN h1 h2
/-- Relations. -/
theorem open_rels {r : Go.Reach} {b0 : Nat} {v : Value} {d : DataW H} {ps : List MemPlace} (hval : Value.okWide Try.prog W r b0 24 v) (hd : DataW.Trod enc Try.prog W 0 (fun _ => true) true 24 v d ps) : ∃ ls, RN 2 W v ls := by
  obtain ⟨fuel, hf⟩ := hd
  obtain ⟨a, l, c, rfl⟩ := okWide_slice Try.underlying24 hval
  obtain ⟨A, len, cap, e, h1, h2⟩ := slice_srows (m := 2) Try.underlying24 Try.underlying36 kk36 rfl (fun j hj => by
    match j, hj with
    | 0, _ => exact ⟨_, rfl, rfl, rfl⟩
    | 1, _ => exact ⟨_, rfl, rfl, rfl⟩) (by decide) hf
  simp [Value.cells] at e
  obtain ⟨rfl, rfl, rfl⟩ := e
  exact rows_RN h1 h2
end
end Go.Proofs.Ytlekdhhgjhakgaa
