/-
  The reference's Assign. Conditions: a setup and the bidders lie in memory.
-/
import Derived.Test.YtlekdhhgjhakgaaRiM
import Derived.Test.YtlekdhhgjhakgaaJnE
namespace Go.Proofs.Ytlekdhhgjhakgaa
set_option linter.unusedVariables false
set_option linter.unusedSimpArgs false
open Go.RowKit
theorem TO.congr {B m : Nat} {F G : Nat → Nat → Bool} {W : World} {v : Value} {us : List Value} (h : TO B m F W v us) (e : ∀ o, o < us.length → ∀ k, k < m → F o k = G o k) : TO B m G W v us := ⟨h.row, fun o ho => (h.el o ho).congr (e o ho)⟩
theorem TO.row56 {B m D n : Nat} {F : Nat → Nat → Bool} {W W' : World} {v ov : Value} {us xs : List Value} (h : TO B m F W v us) (hr : W.ownsRow D 56 2 ov n xs) (hg : W.grownBy W' ov.ownBlock) : TO B m F W' v us :=
  ⟨row_keepK h.row fun g e => by
    obtain ⟨cs, hc⟩ := row_block h.row e
    exact (row_other hr (by decide) hg hc).trans hc.symm, fun o ho => (h.el o ho).other hr (by decide) hg⟩
theorem row56_87 {B D n m : Nat} {W W' : World} {v ov : Value} {xs ys : List Value} (hr : W.ownsRow D 56 2 ov n xs) (h : W.ownsRow B 87 1 v m ys) (hg : W.grownBy W' v.ownBlock) : W'.ownsRow D 56 2 ov n xs := row_keepK hr fun g e => by
  obtain ⟨cs, hc⟩ := row_block hr e
  exact (row_other h (by decide) hg hc).trans hc.symm
theorem filt_succ {r : List Nat} (hp : r.Pairwise (· < ·)) (k : Nat) : (r.filter fun x => decide (x < k + 1)) = (r.filter fun x => decide (x < k)) ++ if k ∈ r then [k] else [] := by
  induction r with
  | nil => simp
  | cons x r ih =>
    obtain ⟨h1, h2⟩ := List.pairwise_cons.1 hp
    rcases Nat.lt_trichotomy x k with e | e | e
    · rw [List.filter_cons, if_pos (by simp; omega), List.filter_cons, if_pos (by simp; omega), ih h2]
      have : (k ∈ x :: r) = (k ∈ r) := by
        rw [List.mem_cons]
        exact propext ⟨fun h => h.resolve_left (by omega), .inr⟩
      simp [this]
    · subst e
      have e1 : (r.filter fun y => decide (y < x + 1)) = [] := List.filter_eq_nil_iff.2 fun y hy => by have := h1 y hy; simp; omega
      have e2 : (r.filter fun y => decide (y < x)) = [] := List.filter_eq_nil_iff.2 fun y hy => by have := h1 y hy; simp; omega
      rw [List.filter_cons, if_pos (by simp), List.filter_cons, if_neg (by simp), e1, e2]
      simp
    · have e1 : (r.filter fun y => decide (y < k + 1)) = [] := List.filter_eq_nil_iff.2 fun y hy => by have := h1 y hy; simp; omega
      have e2 : (r.filter fun y => decide (y < k)) = [] := List.filter_eq_nil_iff.2 fun y hy => by have := h1 y hy; simp; omega
      have hk : k ∉ x :: r := fun h => by
        rcases List.mem_cons.1 h with h | h
        · omega
        · have := h1 k h; omega
      rw [List.filter_cons, if_neg (by simp; omega), List.filter_cons, if_neg (by simp; omega), e1, e2, if_neg hk]
      rfl
theorem filt_all {r : List Nat} {m : Nat} (h : ∀ x ∈ r, x < m) : (r.filter fun x => decide (x < m)) = r := List.filter_eq_self.2 fun x hx => decide_eq_true (h x hx)
set_option maxRecDepth 100000 in
set_option maxHeartbeats 8000000 in
theorem rAssign_any (c0 c1 c2 c3 c4 c5 : Value) (A : Option Addr) (cap : Nat) (s : Su) (bs : List Int) (each : Int) (w : World) (h : SuV w c0 c1 c2 c3 c4 c5 s) (hbs : IRd w (.slice A bs.length cap) bs) (hcap : bs.length ≤ cap) :
    Calls Try.prog 22 #[.agg #[c0, c1, c2, c3, c4, c5], .slice A bs.length cap, .int .i64 each] w fun e w' => ∃ v, e = .returned (.tuple #[v, .int .i64 (openE s bs each)]) ∧ Ext w w' ∧
      (openE s bs each = 0 → ∃ L, Least (mayL s bs) (asrF s.ps).length each.toNat L ∧ w'.ownsRow w.heap.size 56 2 v (asgF s bs each.toNat L).length ((asgF s bs each.toNat L).flatMap reC)) ∧ (openE s bs each ≠ 0 → v = .slice none 0 0) := by
  classical
  have hS := h
  have hal := asr_le s h.ok
  obtain ⟨hps, hhs, hrs, ⟨q1, rfl⟩, ⟨q4, rfl⟩, ⟨q5, rfl⟩, hok⟩ := h
  obtain ⟨b0, n0, rfl⟩ := hps.form
  obtain ⟨b2, n2, rfl⟩ := hhs.form
  obtain ⟨b3, n3, rfl⟩ := hrs.form
  have HBS := Lib.hid hbs
  clear hps hhs hrs hok hbs
  go_enter Try.func22, Try.ntmps22
  go_upto_region 1 with (fail)
  obtain ⟨v0, hv0⟩ : ∃ v0, v0 = Value.slice b0 s.ps.length n0 := ⟨_, rfl⟩
  obtain ⟨v2, hv2⟩ : ∃ v2, v2 = Value.slice b2 s.hs.length n2 := ⟨_, rfl⟩
  obtain ⟨v3, hv3⟩ : ∃ v3, v3 = Value.slice b3 s.rs.length n3 := ⟨_, rfl⟩
  rw [← hv0, ← hv2, ← hv3] at hS ⊢
  have hx1 : Ext w (w.alloc (.cells #[v0, .int .i64 q1, v2, v3, .int .i64 q4, .int .i64 q5] 28)) := Ext.alloc (Ext.refl _) _
  have hb1 := alloc_at w (.cells #[v0, .int .i64 q1, v2, v3, .int .i64 q4, .int .i64 q5] 28)
  obtain ⟨D, hD⟩ : ∃ D, D = w.heap.size := ⟨_, rfl⟩
  rw [← hD] at hb1 ⊢
  clear hD
  generalize w.alloc (.cells #[v0, .int .i64 q1, v2, v3, .int .i64 q4, .int .i64 q5] 28) = W1 at *
  have HS := Lib.hid (hS.ext hx1)
  have HB := Lib.hid hb1; have HX1 := Lib.hid hx1
  have HC : Hid (∀ wz, Ext W1 wz → wz.cell? ⟨D, 0, none⟩ = some v0 ∧ wz.cell? ⟨D, 1, none⟩ = some (.int .i64 q1) ∧ wz.cell? ⟨D, 2, none⟩ = some v2 ∧ wz.cell? ⟨D, 3, none⟩ = some v3 ∧ wz.cell? ⟨D, 4, none⟩ = some (.int .i64 q4) ∧ wz.cell? ⟨D, 5, none⟩ = some (.int .i64 q5)) := Lib.hid fun wz hz => by
    have h1 := (hz.block _ (Rg.lt_of_heap HB.out)).trans HB.out
    exact ⟨cell_of_row wz D 0 _ _ _ h1, cell_of_row wz D 1 _ _ _ h1, cell_of_row wz D 2 _ _ _ h1, cell_of_row wz D 3 _ _ _ h1, cell_of_row wz D 4 _ _ _ h1, cell_of_row wz D 5 _ _ _ h1⟩
  have HLS := Lib.hid (rLeast_any _ _ _ _ _ _ A cap s bs each W1 (hS.ext hx1) (HBS.out.ext hx1) hcap)
  obtain ⟨g0, g1, g2, g3, g4, g5⟩ := HC.out W1 (Ext.refl _)
  clear hb1 hx1 hS hv0 hv2 hv3 HB
  obtain ⟨er, her⟩ : ∃ er, er = openE s bs each := ⟨_, rfl⟩
  rw [← her] at HLS
  have HER := Lib.hid her
  clear her
  by_cases hz : er = 0
  · subst hz
    have hrf := right_facts (open_right HER.out.symm)
    obtain ⟨-, hoz2, hoz3⟩ := open_zero HER.out.symm
    obtain ⟨e, rfl⟩ := Int.eq_ofNat_of_zero_le (Int.le_of_lt hrf.2.2.2.1)
    have hbn : bs.length ≤ 40 := hrf.2.1
    have hb0 : 0 < bs.length := hrf.1
    have he13 : e ≤ 13 := by have := hrf.2.2.2.2; omega
    have he0 : 0 < e := by have := hrf.2.2.2.1; omega
    have hids : e ≤ (asrF s.ps).length := by omega
    clear hrf hoz2 hoz3
    have hez : (0 : Int) = 0 := rfl
    go_upto_region 4 with (first | (go_at_call 39; (with_reducible refine HLS.out.mono ?_); rintro e' wa ⟨L, rfl, hxa, hL, -⟩))
    have HL : Hid (Least (mayL s bs) (asrF s.ps).length e L) := Lib.hid (hL (by trivial)).1
    have hL1000 := (hL (by trivial)).2
    have HXA := Lib.hid hxa
    clear hL g0 g1 g2 g3 g4 g5 HLS
    obtain ⟨g0, g1, g2, g3, g4, g5⟩ := HC.out wa hxa
    have HTA := Lib.hid (table_any _ _ _ _ _ _ _ s bs wa (HS.out.ext hxa) (HBS.out.ext (HX1.out.trans hxa)) (by omega))
    clear hxa
    go_upto_region 5 with (first | (go_at_call 40; (with_reducible refine HTA.out.mono ?_); rintro e' wt ⟨tv, us, rfl, hxt, hto, hul⟩))
    have HXT := Lib.hid (HXA.out.trans hxt)
    have htb := hto.tb
    rw [hul] at htb
    clear hto hul g0 g1 g2 g3 g4 g5 HTA hxt
    obtain ⟨tg, tc, tr, trc, rfl, htc, -, -, -⟩ := htb.at hb0
    have HTB := Lib.hid htb
    obtain ⟨g0, g1, g2, g3, g4, g5⟩ := HC.out wt HXT.out
    have HAS := Lib.hid (Assessors_any _ _ _ _ _ _ s wt (HS.out.ext HXT.out))
    clear htb
    go_upto_region 9 with (first | (go_at_call 41; (with_reducible refine HAS.out.mono ?_); rintro e' wb ⟨av, rfl, hxb, hra⟩; obtain ⟨aA, ac, rfl, -, -, haA⟩ := row_formI hra))
    have HXB := Lib.hid (HXT.out.trans hxb)
    have HBW := Lib.hid (HBS.out.ext (HX1.out.trans HXB.out))
    have HTW := Lib.hid (HTB.out.ext hxb)
    have HAA := Lib.hid haA
    have HMY := Lib.hid (mayL_ok s bs)
    have HLN : Hid ((mayL s bs).length = bs.length) := Lib.hid (mayL_len s bs)
    have HFI : Hid (∀ L, asgF s bs e L = dutF (asrF s.ps) bs (picks (mayL s bs) (asrF s.ps).length e L bs.length)) := Lib.hid fun L => rfl
    clear hra haA hxb g0 g1 g2 g3 g4 g5 HAS HTB HC HS
    obtain ⟨ids, hidq⟩ : ∃ ids, ids = asrF s.ps := ⟨_, rfl⟩
    obtain ⟨ms, hms⟩ : ∃ ms, ms = mayL s bs := ⟨_, rfl⟩
    simp only [← hms, ← hidq] at HL HTW HMY HLN HFI hal hids
    have HAA : Hid (ids = [] ∧ aA = none ∧ ac = 0 ∨ ∃ g, aA = some ⟨g, 0, none⟩ ∧ wt.heap.size ≤ g ∧ ∀ k (h : k < ids.length), wb.cell? ⟨g, k, none⟩ = some (.int .i64 ids[k])) := Lib.hid (by subst hidq; exact HAA.out)
    rw [← hidq] at ⊢
    have HIDQ := Lib.hid hidq; have HMS := Lib.hid hms
    clear hidq hms
    have hm0 : 0 < ids.length ∧ ids.length ≤ 1000 := ⟨by omega, hal⟩
    go_loopw [12, 13, 14] (fun fv ov iv wr => ∃ (i : Nat) (us : List Value), iv = .int .i64 i ∧ i ≤ bs.length ∧ us.length = i ∧ Hid (Ext wb wr) ∧ Hid (TO wb.heap.size ids.length (rowF (picks ms ids.length e L i)) wr fv us) ∧ Hid (wr.ownsRow wb.heap.size 56 2 ov (dutF ids (bs.take i) (picks ms ids.length e L i)).length ((dutF ids (bs.take i) (picks ms ids.length e L i)).flatMap reC))) (fun _ _ iv _ => bs.length - (iof iv).toNat)
    case atStart => exact ⟨0, [], rfl, by omega, rfl, Lib.hid (Ext.refl _), Lib.hid (TO.nil _ _ _ _), Lib.hid ⟨by simp [dutF], .inl ⟨rfl, by simp [dutF]⟩⟩⟩
    case round =>
      rename World => wo
      obtain ⟨i, us, rfl, hi, hul, HX, HT, HO⟩ := hrel
      by_cases hil : i < bs.length
      · obtain ⟨bb, boff, rfl, hgl, hcc⟩ := (HBW.out.rowI).resolve_left (fun h0 => by rw [h0] at hil; simp at hil)
        have HBV : Hid (∀ wz, Ext wb wz → wz.cell? ⟨bb, boff + i, none⟩ = some (.int .i64 bs[i])) := Lib.hid fun wz hz => (hz.cells.1 _ _ (World.block_lt_of_cell? _ _ (hcc i hil))).trans (hcc i hil)
        have HDT := Lib.hid (dut_take ids bs ms ids.length e L i hil)
        generalize bs[i] = b at *
        clear hcc
        have HPL : Hid ((picks ms ids.length e L i).length = i) := Lib.hid (picks_len _ _ _ _ _)
        have him : i < ms.length := by rw [HLN.out]; exact hil
        have hmsn : ms.length ≤ 1000 := by rw [HLN.out]; omega
        have hpo := picks_ok HMY.out HL.out.can i (by omega)
        have hpk := pick_ok HMY.out hpo.1 hpo.2 (by rw [HPL.out]; exact him)
        have HPS := Lib.hid (picks_succ ms ids.length e L i)
        have hfr := rfirst_any (.slice (some ⟨tg, 0, none⟩) bs.length tc) u12 ms (picks ms ids.length e L i) ids.length e L HMY.out hpo.1 (by rw [HPL.out]; exact him) hmsn hm0 he13 hL1000 e [] 0 (.slice (some ⟨wo.heap.size, 0, none⟩) ids.length ids.length) (wo.alloc (.cells (tabV (fun _ => .bool false) ids.length) 4)) (by rw [HLN.out]; exact HTW.out.ext (HX.out.trans (Ext.alloc (Ext.refl _) _))) (by
            have h1 := (HT.out.ext (Ext.alloc (Ext.refl _) (.cells (tabV (fun _ => .bool false) ids.length) 4))).tb
            rw [hul] at h1
            rw [HPL.out]
            exact h1) ⟨_, _, _, rfl, Nat.le_refl _, alloc_at wo _, fun k hk => by rw [tabV_get _ hk]; simp⟩ (List.nil_sublist _) (by simp) (Nat.zero_le _)
        rw [rstF_zero, show ((0 : Nat) : Int) = 0 from rfl] at hfr
        have hpi := fO_pick (M := ms) (m := ids.length) (each := e) (L := L) (R := picks ms ids.length e L i)
        have hso : ∃ r, fO ms ids.length e L (picks ms ids.length e L i) [] (ms.getD (picks ms ids.length e L i).length []) e = some r ∧ r = pick ms ids.length e L (picks ms ids.length e L i) := by
          cases ho : fO ms ids.length e L (picks ms ids.length e L i) [] (ms.getD (picks ms ids.length e L i).length []) e with
          | some r => rw [ho] at hpi; exact ⟨r, rfl, hpi⟩
          | none =>
            exfalso
            unfold fO at ho
            have h1 := List.find?_eq_none.1 ho (pick ms ids.length e L (picks ms ids.length e L i)) (List.mem_map.2 ⟨_, hpk.1, rfl⟩)
            exact h1 (decide_eq_true hpk.2)
        obtain ⟨r, hor, hrp⟩ := hso
        rw [hor] at hfr
        rw [← hrp] at hpk HPS HDT
        have HFR := Lib.hid hfr
        have hpk1 := mem_enum.1 hpk.1
        rw [HPL.out, getD_at him] at hpk1
        have HPM : Hid (∀ k ∈ r, k < ids.length) := Lib.hid fun k hk => HMY.out.lt _ (List.getElem_mem him) k (hpk1.1.subset hk)
        have HPP : Hid (r.Pairwise (· < ·)) := Lib.hid ((HMY.out.up _ (List.getElem_mem him)).sublist hpk1.1)
        have HPC : Hid (r.length = e) := Lib.hid hpk1.2
        have HDL : Hid ((dutF ids (bs.take i) (picks ms ids.length e L i)).length ≤ 600) := Lib.hid (by
          have h1 := dutF_len ids (e := e) (bs.take i) (picks ms ids.length e L i) (by rw [HPL.out, List.length_take]; omega) fun q hq => (hpo.1.mem HMY.out hq).1
          have h2 : (bs.take i).length ≤ 40 := by rw [List.length_take]; omega
          have h3 : e * (bs.take i).length ≤ 13 * 40 := Nat.mul_le_mul he13 h2
          omega)
        clear hfr hpi hor hrp hpk hpk1 hpo him
        have hmk := make_87 wo ids.length (by omega)
        obtain ⟨fA, fc, rfl⟩ := row_formG HT.out.row
        have HUL := Lib.hid hul
        clear HIDQ HMS hul
        go_upto_region 12 with (first | (go_at_call 42; (with_reducible refine HFR.out.mono ?_); rintro e' wf ⟨rv, ok, rfl, hxf, hok, hrv⟩; subst hok))
        have hx0 : Ext wo wf := (Ext.alloc (Ext.refl _) _).trans hxf
        obtain ⟨rg, rcp, rcs, hrve, -, -, -⟩ := id hrv
        subst hrve
        have hxa : Ext wf (wf.alloc (.cells #[.slice (some ⟨rg, 0, none⟩) ids.length rcp] 87)) := Ext.alloc (Ext.refl _) _
        have HTN : Hid (TO wb.heap.size ids.length (rowF (picks ms ids.length e L (i + 1))) (wf.alloc (.cells #[.slice (some ⟨rg, 0, none⟩) ids.length rcp] 87)) (.slice fA us.length fc) us) := Lib.hid ((HT.out.ext (hx0.trans hxa)).congr fun o ho k _ => by rw [HPS.out, rowF_snoc, if_pos (by have := HUL.out; rw [HPL.out]; omega)])
        have HRN : Hid (RB (wf.alloc (.cells #[.slice (some ⟨rg, 0, none⟩) ids.length rcp] 87)) (.slice (some ⟨rg, 0, none⟩) ids.length rcp) ids.length (rowF (picks ms ids.length e L (i + 1)) us.length)) := Lib.hid ((hrv.ext hxa).congr fun k _ => by rw [HPS.out, rowF_snoc, if_neg (by have := HUL.out; rw [HPL.out]; omega), if_pos (by rw [HPL.out]; exact HUL.out)])
        have HRV := Lib.hid (hrv.ext hxa)
        have HON := Lib.hid (row_ext HO.out (hx0.trans hxa))
        have HXN := Lib.hid (HX.out.trans (hx0.trans hxa))
        have hsz : wb.heap.size ≤ (wf.alloc (.cells #[.slice (some ⟨rg, 0, none⟩) ids.length rcp] 87)).heap.size := HXN.out.size
        have husl : us.length < 1000000 := by have := HUL.out; omega
        clear hx0 hxf hrv hxa hmk HFR HT HO HX
        go_upto_region 14 with (at_builtin; (refine append_g (cs := cel1) (z := .slice none 0 0) 84 87 24 Try.underlying84 (by kernel_rfl) (by rfl) (by decide) (by decide) rfl (.tmp 51) (.tmp 53) rfl wb.heap.size (.slice fA us.length fc) us (by rfl) HTN.out.row wf.heap.size (.slice (some ⟨rg, 0, none⟩) ids.length rcp) ⟨rfl, by simp [cel1, Value.oneCell']⟩ (by rfl) (alloc_at wf _) husl hsz ?_; intro g7 cap7 w7 hr7 hg7 hat7))
        have HT7 := Lib.hid (HTN.out.push HRN.out hg7 hr7)
        have HR7 := Lib.hid (HRV.out.other HTN.out.row (by decide) hg7)
        have HO7 := Lib.hid (row56_87 HON.out HTN.out.row hg7)
        have HX7 : Hid (Ext wb w7) := Lib.hid (row_grown HXN.out HTN.out.row (Nat.le_refl _) hg7)
        clear hr7 hg7 hat7 HTN HRN HRV HON HXN hsz
        have HDL2 : Hid (∀ k, k ≤ ids.length → (dutF ids (bs.take i) (picks ms ids.length e L i) ++ (r.filter fun x => decide (x < k)).map fun k => (ids.getD k 0, b)).length < 1000000) := Lib.hid fun k hk => by
          have h1 := HDL.out
          have h2 : (r.filter fun x => decide (x < k)).length ≤ r.length := List.length_filter_le _ _
          have h3 := HPC.out
          rw [List.length_append, List.length_map]
          omega
        generalize dutF ids (bs.take i) (picks ms ids.length e L i) = dl at *
        go_loopw [13, 17] (fun ov kv wq => ∃ k : Nat, kv = .int .i64 k ∧ k ≤ ids.length ∧ Hid (Ext wb wq) ∧ Hid (TO wb.heap.size ids.length (rowF (picks ms ids.length e L (i + 1))) wq (.slice (some ⟨g7, 0, none⟩) (us.length + 1) cap7) (us ++ [.slice (some ⟨rg, 0, none⟩) ids.length rcp])) ∧ Hid (RB wq (.slice (some ⟨rg, 0, none⟩) ids.length rcp) ids.length fun k => decide (k ∈ r)) ∧ Hid (wq.ownsRow wb.heap.size 56 2 ov (dl ++ (r.filter fun x => decide (x < k)).map fun k => (ids.getD k 0, b)).length ((dl ++ (r.filter fun x => decide (x < k)).map fun k => (ids.getD k 0, b)).flatMap reC))) (fun _ kv _ => ids.length - (iof kv).toNat)
        case atStart => exact ⟨0, rfl, by omega, HX7, HT7, HR7, Lib.hid (by
          have e0 : (r.filter fun x => decide (x < 0)) = [] := List.filter_eq_nil_iff.2 fun x _ => by simp
          rw [e0]
          simpa using HO7.out)⟩
        case round =>
          obtain ⟨k, rfl, hk, HX, HT, HR, HO⟩ := hrel
          clear HX7 HT7 HR7 HO7
          by_cases hkm : k < ids.length
          · obtain ⟨r', rc', e1, -, -, hrc⟩ := HR.out.cells
            injection e1 with e1 _ e3
            injection e1 with e1
            injection e1 with e1
            subst e1 e3
            have r0 := hrc k hkm
            have HFS := Lib.hid (filt_succ HPP.out k)
            have HLN2 := Lib.hid (HDL2.out k hk)
            by_cases hkr : k ∈ r
            · rw [decide_eq_true hkr] at r0
              rw [if_pos hkr] at HFS
              clear hkr hrc
              obtain ⟨ag, rfl, hag, hacell⟩ := HAA.out.resolve_left (fun h0 => by rw [h0.1] at hkm; simp at hkm)
              have HSS : Hid (∀ wz, Ext wb wz → wz.cell? ⟨ag, k, none⟩ = some (.int .i64 ids[k]) ∧ wz.cell? ⟨bb, boff + i, none⟩ = some (.int .i64 b)) := Lib.hid fun wz hz => ⟨(hz.cells.1 _ _ (World.block_lt_of_cell? _ _ (hacell k hkm))).trans (hacell k hkm), HBV.out wz hz⟩
              have HNX : Hid (dl ++ (r.filter fun x => decide (x < k + 1)).map (fun k => (ids.getD k 0, b)) = (dl ++ (r.filter fun x => decide (x < k)).map fun k => (ids.getD k 0, b)) ++ [(ids[k], b)]) := Lib.hid (by rw [HFS.out, List.map_append, ← List.append_assoc, ← getD_at (d := 0) hkm]; rfl)
              generalize ids[k] = ik at *
              generalize (dl ++ (r.filter fun x => decide (x < k)).map fun k => (ids.getD k 0, b)) = cur at *
              obtain ⟨oA, oc, rfl⟩ := row_formG HO.out
              have hlen := HLN2.out
              have HEX : Hid (∀ wz, Ext wr wz → Ext wb wz) := Lib.hid fun wz hz => HX.out.trans hz
              have HRO := Lib.hid (fun wz (hz : Ext wr wz) => row_ext HO.out hz)
              obtain ⟨s0, s1⟩ := HSS.out wr HX.out
              clear hacell hag HFS HLN2
              go_upto_region 17 with (fail)
              go_region_held3 (fun w' => w'.cell? ⟨ag, k, none⟩ = some (.int .i64 ik) ∧ w'.cell? ⟨bb, boff + i, none⟩ = some (.int .i64 b))
                (first | exact HSS.out _ hx7 | exact HSS.out _ (HEX.out _ (by with_reducible repeat (first | exact Ext.refl _ | assumption | apply Ext.drewN | apply Ext.drew | apply Ext.alloc | (refine Ext.setCell ?_ (by simp <;> omega) _) | (refine Ext.trans ?_ (by assumption))))) | go_keep)
                (first
                  | (refine step_append_g (cs := reC) (z := .agg #[.int .i64 0, .int .i64 0]) 42 56 16 Try.underlying42 (by kernel_rfl) (by rfl) (by decide) (by decide) rfl (.tmp 65) (.tmp 75) rfl wb.heap.size (.slice oA cur.length oc) cur (by simp [Act.eval, Act.put]) (HRO.out _ (by with_reducible repeat (first | exact Ext.refl _ | assumption | apply Ext.drewN | apply Ext.drew | apply Ext.alloc | (refine Ext.setCell ?_ (by simp <;> omega) _) | (refine Ext.trans ?_ (by assumption))))) wr.heap.size (ik, b) ⟨rfl, by simp [reC, Value.oneCell']⟩ (by simp [Act.eval, Act.put]) (alloc_at _ _) hlen (HEX.out _ (by with_reducible repeat (first | exact Ext.refl _ | assumption | apply Ext.drewN | apply Ext.drew | apply Ext.alloc | (refine Ext.setCell ?_ (by simp <;> omega) _) | (refine Ext.trans ?_ (by assumption))))).size ?_; intro g9 cap9 w9 hr9 hg9 hat9; have hx7 : Ext wb w9 := row_grown (HEX.out _ (by with_reducible repeat (first | exact Ext.refl _ | assumption | apply Ext.drewN | apply Ext.drew | apply Ext.alloc | (refine Ext.setCell ?_ (by simp <;> omega) _) | (refine Ext.trans ?_ (by assumption))))) (HRO.out _ (by with_reducible repeat (first | exact Ext.refl _ | assumption | apply Ext.drewN | apply Ext.drew | apply Ext.alloc | (refine Ext.setCell ?_ (by simp <;> omega) _) | (refine Ext.trans ?_ (by assumption))))) (Nat.le_refl _) hg9; have HT9 := Lib.hid (TO.row56 (HT.out.ext (by with_reducible repeat (first | exact Ext.refl _ | assumption | apply Ext.drewN | apply Ext.drew | apply Ext.alloc | (refine Ext.setCell ?_ (by simp <;> omega) _) | (refine Ext.trans ?_ (by assumption))))) (HRO.out _ (by with_reducible repeat (first | exact Ext.refl _ | assumption | apply Ext.drewN | apply Ext.drew | apply Ext.alloc | (refine Ext.setCell ?_ (by simp <;> omega) _) | (refine Ext.trans ?_ (by assumption))))) hg9); have HR9 := Lib.hid (RB.other (HR.out.ext (by with_reducible repeat (first | exact Ext.refl _ | assumption | apply Ext.drewN | apply Ext.drew | apply Ext.alloc | (refine Ext.setCell ?_ (by simp <;> omega) _) | (refine Ext.trans ?_ (by assumption))))) (HRO.out _ (by with_reducible repeat (first | exact Ext.refl _ | assumption | apply Ext.drewN | apply Ext.drew | apply Ext.alloc | (refine Ext.setCell ?_ (by simp <;> omega) _) | (refine Ext.trans ?_ (by assumption))))) (by decide) hg9)))
              have HO9 := Lib.hid hr9; have HX9 := Lib.hid hx7
              clear hr9 hg9 hat9 hx7 HRO HEX HSS s0 s1 HO HT HR
              go_wp2_with (fail)
              exact ⟨⟨k + 1, by simp, by omega, HX9, HT9, HR9, Lib.hid (by rw [HNX.out]; exact HO9.out)⟩, by simp [iof]; omega⟩
            · rw [decide_eq_false hkr] at r0
              rw [if_neg hkr, List.append_nil] at HFS
              clear hkr hrc
              go_wp2_with (fail)
              exact ⟨⟨k + 1, by simp, by omega, HX, HT, HR, Lib.hid (by rw [HFS.out]; exact HO.out)⟩, by simp [iof]; omega⟩
          · obtain rfl : k = ids.length := by omega
            go_wp2_with (fail)
            exact ⟨⟨i + 1, _, by simp, by omega, by have := HUL.out; simp; omega, HX, HT, Lib.hid (by
              have h1 := HO.out
              rw [filt_all HPM.out] at h1
              rw [HDT.out]
              exact h1)⟩, by simp [iof]; omega⟩
      · obtain rfl : i = bs.length := by omega
        have HF : Hid (asgF s bs e L = dutF ids (bs.take bs.length) (picks ms ids.length e L bs.length)) := Lib.hid (by rw [List.take_length]; exact HFI.out L)
        have HLX : Hid (Ext w wo) := Lib.hid (HX1.out.trans (HXB.out.trans HX.out))
        have HSZ : Hid (w.heap.size ≤ wb.heap.size) := Lib.hid (HX1.out.trans HXB.out).size
        go_wp2_with (fail)
        go_ret2
        refine ⟨_, by rw [← HER.out]; rfl, HLX.out, fun _ => ⟨L, ?_, ?_⟩, fun h => absurd HER.out.symm h⟩
        · rw [← HMS.out, ← HIDQ.out]
          exact HL.out
        · have h1 := row_mono HO.out HSZ.out
          rw [show ((e : Int)).toNat = e from rfl, HF.out]
          exact h1
  · have HZ := Lib.hid hz
    go_wp2_with (first | (go_at_call 39; (with_reducible refine HLS.out.mono ?_); rintro e' wa ⟨L, rfl, hxa, -, -⟩))
    go_ret2
    exact ⟨_, by rw [← HER.out]; rfl, HX1.out.trans hxa, fun h => absurd (HER.out.trans h) HZ.out, fun _ => rfl⟩
end Go.Proofs.Ytlekdhhgjhakgaa
