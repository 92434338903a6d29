/-
  Lemmas of this claim (JtAR). Nothing is asked.
-/
import Derived.Test.YteomcpplajeidaaGreatJtAQ
import Derived.BigQuiet
import Derived.Deep.QuietTactic
import Derived.Test.YteomcpplajeidaaGreatJtAP
import Derived.Test.YteomcpplajeidaaGreatJtAO
namespace Go.Proofs.YteomcpplajeidaaGreat
set_option linter.unusedVariables false
set_option linter.unusedSimpArgs false
set_option maxRecDepth 100000
open Go.RowKit
def winF (rk : List Rk) (e : Int) : Int × Int :=
  if e = 0 then (match rk with
    | [] => (0, 34)
    | x :: _ => if x.place = 1 then (x.bid, 0) else (0, 34))
  else (0, e)
def SortsOk (r : TnR) (T : TP) (lot : Int) (xs : List ER) : Prop :=
  errE T.ls lot (ownE lot xs) = 0 → ∀ w0 recv, CmpAt w0 recv (cmpS T.cs T.ts) (goodF r T (lowF r T (ownE lot xs)) (ownE lot xs)) → SortAt w0 recv (cmpS T.cs T.ts) (goodF r T (lowF r T (ownE lot xs)) (ownE lot xs))
set_option maxHeartbeats 8000000 in
theorem Winner_any (r : TnR) (T : TP) (lot : Int) (v : Value) (xs : List ER) (w : World) (h : TV w r T) (hv : XR w v xs) (hxl : xs.length ≤ 100000) (hS : SortsOk r T lot xs) :
    Calls Tryz.prog 17 #[.agg (tenC r), .int .i64 lot, v] w fun e w' => e = .returned (.tuple #[.int .i64 (winF (rankL r T lot xs) (errE T.ls lot (ownE lot xs))).1, .int .i64 (winF (rankL r T lot xs) (errE T.ls lot (ownE lot xs))).2]) ∧ Ext w w' := by
  have hx1 : Ext w (w.alloc (.cells (tenC r) 39)) := Ext.alloc (Ext.refl _) _
  have g3 : (w.alloc (.cells (tenC r) 39)).heap[w.heap.size]? = some (.cells (tenC r) 39) := block_new rfl
  obtain ⟨row, hrow⟩ : ∃ row, row = (tenC r).toList := ⟨_, rfl⟩
  have hrs : row.length = 20 := by rw [hrow]; rfl
  have hrt : row.toArray = tenC r := by rw [hrow]
  have HRK := Lib.hid (fun wz (hw : Ext w wz) => Rank_any r T lot v xs wz (h.ext hw) (hv.ext hw) hxl hS)
  rw [← hrt] at HRK
  have hrl : (rankL r T lot xs).length ≤ 1000000 := by
    unfold rankL
    split
    · rw [List.length_append, inF_len, sortF, isort_len]
      have h1 := List.length_filter_le (fun x : ER => x.1.lot == lot) xs
      have h2 := List.length_filter_le (fun x : ER => badF r T (lowF r T (ownE lot xs)) x.1 == 0) (ownE lot xs)
      have h3 := List.length_filter_le (fun x : ER => !(badF r T (lowF r T (ownE lot xs)) x.1 == 0)) (ownE lot xs)
      have h4 : (ownE lot xs).length ≤ xs.length := h1
      unfold goodF outF
      rw [List.length_map, List.length_map]
      omega
    · simp
  have HRL := Lib.hid hrl
  generalize rankL r T lot xs = rk at *
  generalize errE T.ls lot (ownE lot xs) = er at *
  obtain ⟨W1, hW1⟩ : ∃ W1, W1 = w.alloc (.cells (tenC r) 39) := ⟨_, rfl⟩
  rw [← hW1] at hx1 g3
  obtain ⟨G3, hG3⟩ : ∃ x, x = w.heap.size := ⟨_, rfl⟩
  rw [← hG3] at g3
  have HRG : Hid (W1.rangeAt G3 0 row) := Lib.hid (range_of g3 0 row (fun j v hv => by rw [hrow] at hv; simpa using hv))
  have HX1 := Lib.hid hx1
  have l3 := Rg.lt_of_heap g3
  clear h hv hxl hS hrow hrt hx1 g3 hrl
  go_enter Tryz.func17, Tryz.ntmps17
  go_upto_region 1 with (fail)
  rw [← hW1]
  rw [← hG3]
  clear hW1 hG3
  go_upto_region 2 with (first
    | (refine wpList_load_mid rfl 39 (.tmp 3) rfl G3 0 (by rfl) row _ HRG.out Tryz.underlying39 rfl (by rw [hrs]; kernel_rfl) ?_)
    | (go_at_call 15; (with_reducible refine (HRK.out _ HX1.out).mono ?_); rintro e w2 ⟨v', rfl, hx2, ho2⟩; have HX2 := Lib.hid (HX1.out.trans hx2); have HO2 := Lib.hid ho2; clear hx2 ho2))
  obtain ⟨ob, oc, hof⟩ := row_form HO2.out
  subst hof
  by_cases he : er = 0
  · subst he
    cases rk with
    | nil =>
      go_wp2_with (fail)
      go_ret2
      exact ⟨rfl, HX2.out⟩
    | cons x l =>
      obtain ⟨g, cap, hf, -, hgl⟩ := HO2.out.form (by simp)
      injection hf with hf1 _ _
      subst hf1
      have hsr := SR.of_row (cs := Rk.cs) (fun y => (one_rk y).1) HO2.out (by have := HRL.out; omega)
      obtain ⟨b, hb, -, hc⟩ := hsr.block 0 (by simp)
      injection hb with hb
      injection hb with hb
      subst hb
      have c0 : w2.cell? ⟨g, 0, none⟩ = some (.int .i64 x.bid) := hc 0 (by simp) 0 _ rfl
      have c3 : w2.cell? ⟨g, 3, none⟩ = some (.int .i64 x.place) := hc 0 (by simp) 3 _ rfl
      have hlp : (0 : Int) < ((x :: l).length : Int) := by simp <;> omega
      have hlz : (((x :: l).length : Int) == 0) = false := by rw [beq_eq_false_iff_ne]; simp <;> omega
      obtain ⟨x0, xp, x3, x4⟩ := x
      simp only at c0 c3
      have HWF : Hid (winF (⟨x0, xp, x3, x4⟩ :: l) 0 = if x3 = 1 then (x0, 0) else (0, 34)) := Lib.hid rfl
      clear hc hsr HO2 HRK HRL
      generalize hnn : (Rk.mk x0 xp x3 x4 :: l).length = n at hlp hlz ⊢
      clear hnn
      by_cases hp : x3 = 1
      · subst hp
        rw [if_pos rfl] at HWF
        go_wp2_with (fail)
        go_ret2
        exact ⟨by rw [HWF.out]; rfl, HX2.out⟩
      · have hpq : (x3 == 1) = false := by rw [beq_eq_false_iff_ne]; exact hp
        have hpn : (x3 != 1) = true := by rw [bne, hpq]; rfl
        rw [if_neg hp] at HWF
        go_wp2_with (fail)
        go_ret2
        exact ⟨by rw [HWF.out]; rfl, HX2.out⟩
  · have heb : (er == 0) = false := by rw [beq_eq_false_iff_ne]; exact he
    have HWF : Hid (winF rk er = (0, er)) := Lib.hid (if_neg he)
    go_wp2_with (fail)
    go_ret2
    exact ⟨by rw [HWF.out]; rfl, HX2.out⟩
end Go.Proofs.YteomcpplajeidaaGreat
namespace Go.Proofs.YteomcpplajeidaaGreat
set_option linter.unusedVariables false
set_option linter.unusedSimpArgs false
set_option maxRecDepth 100000
open Go.RowKit
abbrev Rk.tup (x : Rk) : Int × Int × Int × Int × Int := (x.bid, x.p.1, x.p.2, x.place, x.out)
theorem Rk.tup_inj {x y : Rk} (h : x.tup = y.tup) : x = y := by
  obtain ⟨x0, ⟨x1, x2⟩, x3, x4⟩ := x
  obtain ⟨y0, ⟨y1, y2⟩, y3, y4⟩ := y
  simp only [Rk.tup, Prod.mk.injEq] at h
  obtain ⟨rfl, rfl, rfl, rfl, rfl⟩ := h
  rfl
def sameL (a b : List Rk) : Bool := decide (a.map Rk.tup = b.map Rk.tup)
theorem sameL_eq {a b : List Rk} : sameL a b = true ↔ a = b := by
  unfold sameL
  rw [decide_eq_true_eq]
  constructor
  · intro h
    induction a generalizing b with
    | nil => cases b with
      | nil => rfl
      | cons y l => cases h
    | cons x l ih => cases b with
      | nil => cases h
      | cons y m =>
        rw [List.map_cons, List.map_cons] at h
        injection h with h1 h2
        rw [Rk.tup_inj h1, ih h2]
  · rintro rfl; rfl
theorem sameL_no {a b : List Rk} (h : a ≠ b) : sameL a b = false := by
  cases hs : sameL a b with
  | false => rfl
  | true => exact absurd (sameL_eq.1 hs) h
set_option maxHeartbeats 8000000 in
theorem same19_any (va vb : Value) (a b : List Rk) (w : World) (ha : SR Rk.cs 5 w va a) (hb : SR Rk.cs 5 w vb b) :
    Calls Tryz.prog 19 #[va, vb] w fun e w' => e = .returned (.bool (sameL a b)) ∧ Ext w w' := by
  obtain ⟨ba, ca, rfl⟩ := ha.form
  obtain ⟨bb, cb, rfl⟩ := hb.form
  have hla := ha.le; have hlb := hb.le
  have HA := Lib.hid ha; have HB := Lib.hid hb
  clear ha hb
  go_enter Tryz.func19, Tryz.ntmps19
  by_cases hl : a.length = b.length
  · have hbq : ((a.length : Int) != (b.length : Int)) = false := by simp [hl]
    have HL := Lib.hid hl
    have hle : ¬ (a.length : Int) ≠ (b.length : Int) := by simp [hl]
    obtain ⟨n, hn⟩ : ∃ n, n = a.length := ⟨_, rfl⟩
    obtain ⟨m, hm⟩ : ∃ m, m = b.length := ⟨_, rfl⟩
    rw [← hn] at hla HL hbq ⊢
    rw [← hm] at hlb HL hbq ⊢
    have HN := Lib.hid hn; have HM := Lib.hid hm
    clear hn hm hl hle
    go_upto_region 4 with (fail)
    go_loopw [5] (fun iv wr => ∃ k : Nat, iv = .int .i64 k ∧ k ≤ n ∧ Hid (a.take k = b.take k) ∧ Hid (Ext w wr)) (fun iv _ => n - (iof iv).toNat)
    case atStart => exact ⟨0, rfl, Nat.zero_le _, Lib.hid rfl, Lib.hid (Ext.refl _)⟩
    case round =>
      obtain ⟨k, rfl, hk, HT, HX⟩ := hrel
      by_cases hkl : k < n
      · have hka : k < a.length := by have := HN.out; omega
        have hkb : k < b.length := by have := HN.out; have := HM.out; have := HL.out; omega
        have hki : (k : Int) < (n : Int) := by omega
        have hkm : (k : Int) < (m : Int) := by have := HL.out; omega
        obtain ⟨g, hg, hca⟩ := (HN.out ▸ HA.out).at HX.out k hka
        obtain ⟨g', hg', hcb⟩ := (HM.out ▸ HB.out).at HX.out k hkb
        subst hg hg'
        have HTA : Hid (a.take (k + 1) = a.take k ++ [a[k]]) := Lib.hid (List.take_succ_eq_append_getElem hka)
        have HTB : Hid (b.take (k + 1) = b.take k ++ [b[k]]) := Lib.hid (List.take_succ_eq_append_getElem hkb)
        have HNE : Hid (a[k] ≠ b[k] → a ≠ b) := Lib.hid (fun h e => h (by subst e; rfl))
        have a0 := hca 0 _ rfl; have a1 := hca 1 _ rfl; have a2 := hca 2 _ rfl; have a3 := hca 3 _ rfl; have a4 := hca 4 _ rfl
        have b0 := hcb 0 _ rfl; have b1 := hcb 1 _ rfl; have b2 := hcb 2 _ rfl; have b3 := hcb 3 _ rfl; have b4 := hcb 4 _ rfl
        clear hca hcb
        generalize a[k] = x at *
        generalize b[k] = y at *
        obtain ⟨x0, ⟨x1, x2⟩, x3, x4⟩ := x
        obtain ⟨y0, ⟨y1, y2⟩, y3, y4⟩ := y
        simp only [Nat.add_zero] at a0 a1 a2 a3 a4 b0 b1 b2 b3 b4
        have la := World.block_lt_of_cell? wr _ a1
        have lb := World.block_lt_of_cell? wr _ b1
        by_cases h0 : x0 = y0
        · by_cases h1 : x1 = y1
          · by_cases h2 : x2 = y2
            · by_cases h3 : x3 = y3
              · by_cases h4 : x4 = y4
                · subst h0 h1 h2 h3 h4
                  go_upto_region 6 with (fail)
                  go_quiet (fail)
                  go_wp2_with (fail)
                  exact ⟨⟨k + 1, by rfl, by omega, Lib.hid (by rw [HTA.out, HTB.out, HT.out]), Lib.hid (HX.out.trans (by with_reducible repeat (first | exact Ext.refl _ | assumption | apply Ext.drewN | apply Ext.drew | apply Ext.alloc | (refine Ext.setCell ?_ (by simp <;> omega) _) | (refine Ext.trans ?_ (by assumption)))))⟩, by simp [iof]; omega⟩
                · subst h0 h1 h2 h3
                  have hq : (x4 == y4) = false := by rw [beq_eq_false_iff_ne]; exact h4
                  have HF : Hid (sameL a b = false) := Lib.hid (sameL_no (HNE.out (fun e => by injection e with e0 e1 e2 e3; injection e1 with e1 e5; exact h4 (by assumption))))
                  go_upto_region 6 with (fail)
                  go_quiet (fail)
                  go_wp2_with (fail)
                  go_ret
                  exact ⟨by rw [HF.out]; rfl, HX.out.trans (by with_reducible repeat (first | exact Ext.refl _ | assumption | apply Ext.drewN | apply Ext.drew | apply Ext.alloc | (refine Ext.setCell ?_ (by simp <;> omega) _) | (refine Ext.trans ?_ (by assumption))))⟩
              · subst h0 h1 h2
                have hq : (x3 == y3) = false := by rw [beq_eq_false_iff_ne]; exact h3
                have HF : Hid (sameL a b = false) := Lib.hid (sameL_no (HNE.out (fun e => by injection e with e0 e1 e2 e3; injection e1 with e1 e5; exact h3 (by assumption))))
                go_upto_region 6 with (fail)
                go_quiet (fail)
                go_wp2_with (fail)
                go_ret
                exact ⟨by rw [HF.out]; rfl, HX.out.trans (by with_reducible repeat (first | exact Ext.refl _ | assumption | apply Ext.drewN | apply Ext.drew | apply Ext.alloc | (refine Ext.setCell ?_ (by simp <;> omega) _) | (refine Ext.trans ?_ (by assumption))))⟩
            · subst h0 h1
              have hq : (x2 == y2) = false := by rw [beq_eq_false_iff_ne]; exact h2
              have HF : Hid (sameL a b = false) := Lib.hid (sameL_no (HNE.out (fun e => by injection e with e0 e1 e2 e3; injection e1 with e1 e5; exact h2 (by assumption))))
              go_upto_region 6 with (fail)
              go_quiet (fail)
              go_wp2_with (fail)
              go_ret
              exact ⟨by rw [HF.out]; rfl, HX.out.trans (by with_reducible repeat (first | exact Ext.refl _ | assumption | apply Ext.drewN | apply Ext.drew | apply Ext.alloc | (refine Ext.setCell ?_ (by simp <;> omega) _) | (refine Ext.trans ?_ (by assumption))))⟩
          · subst h0
            have hq : (x1 == y1) = false := by rw [beq_eq_false_iff_ne]; exact h1
            have HF : Hid (sameL a b = false) := Lib.hid (sameL_no (HNE.out (fun e => by injection e with e0 e1 e2 e3; injection e1 with e1 e5; exact h1 (by assumption))))
            go_upto_region 6 with (fail)
            go_quiet (fail)
            go_wp2_with (fail)
            go_ret
            exact ⟨by rw [HF.out]; rfl, HX.out.trans (by with_reducible repeat (first | exact Ext.refl _ | assumption | apply Ext.drewN | apply Ext.drew | apply Ext.alloc | (refine Ext.setCell ?_ (by simp <;> omega) _) | (refine Ext.trans ?_ (by assumption))))⟩
        · have hq : (x0 == y0) = false := by rw [beq_eq_false_iff_ne]; exact h0
          have HF : Hid (sameL a b = false) := Lib.hid (sameL_no (HNE.out (fun e => by injection e with e0 e1 e2 e3; injection e1 with e1 e5; exact h0 (by assumption))))
          go_upto_region 6 with (fail)
          go_quiet (fail)
          go_wp2_with (fail)
          go_ret
          exact ⟨by rw [HF.out]; rfl, HX.out.trans (by with_reducible repeat (first | exact Ext.refl _ | assumption | apply Ext.drewN | apply Ext.drew | apply Ext.alloc | (refine Ext.setCell ?_ (by simp <;> omega) _) | (refine Ext.trans ?_ (by assumption))))⟩
      · obtain rfl : k = n := by omega
        have HF : Hid (sameL a b = true) := Lib.hid (sameL_eq.2 (by
          have h1 := HT.out
          rw [List.take_of_length_le (by have := HN.out; omega), List.take_of_length_le (by have := HN.out; have := HM.out; have := HL.out; omega)] at h1
          exact h1))
        go_wp2_with (fail)
        go_ret
        exact ⟨by rw [HF.out]; rfl, HX.out⟩
  · have HF : Hid (sameL a b = false) := Lib.hid (sameL_no (fun e => hl (by rw [e])))
    have hli : ¬ (a.length : Int) = (b.length : Int) := by omega
    go_wp2_with (fail)
    go_ret
    exact ⟨by rw [HF.out]; rfl, (by with_reducible repeat (first | exact Ext.refl _ | assumption | apply Ext.drewN | apply Ext.drew | apply Ext.alloc | (refine Ext.setCell ?_ (by simp <;> omega) _) | (refine Ext.trans ?_ (by assumption))))⟩
end Go.Proofs.YteomcpplajeidaaGreat
namespace Go.Proofs.YteomcpplajeidaaGreat
set_option linter.unusedVariables false
set_option linter.unusedSimpArgs false
set_option maxRecDepth 100000
open Go.RowKit
def tpC : TP := ⟨[(1, 500)], [⟨comfB, 1, 0, 10, false⟩], [], [comfB], fT⟩
theorem SR.of_block {α : Type} {cs : α → List Value} {sz : Nat} (hl : ∀ x, (cs x).length = sz) {w : World} {g c : Nat} {t : TypeId} {xs : List α} (h : w.heap[g]? = some (.cells (xs.flatMap cs).toArray t)) (hn : xs.length ≤ 1000000) :
    SR cs sz w (.slice (some ⟨g, 0, none⟩) xs.length c) xs :=
  ⟨_, _, rfl, hn, .inr ⟨g, rfl, fun k hk j u hu => (cell_of_row w g _ _ _ _ h).trans (by rw [List.getElem?_toArray]; exact flat_get xs (fun y _ => hl y) k hk j u hu)⟩⟩
theorem tv_of {A : Nat → Prop} {B : Nat} {w : World} {r : TnR} (h : TF A B w r (dD 9)) : TV w r tpC ∧ r.low = 1 ∧ r.high = 500 := by
  refine ⟨⟨SR.of_row (xs := (dD 9).ls) (cs := cellsLot) (sz := 2) (fun _ => rfl) h.ls_ (by decide), SR.of_row (xs := (dD 9).cs) (cs := cellsCr) (sz := 5) (fun _ => rfl) h.cs_ (by decide), ?_, SR.of_row (xs := (dD 9).ts) (cs := strC) (sz := 1) (fun _ => rfl) h.ts_ (by decide), Rd.all h.fo, by decide +kernel⟩, h.low_, h.high_⟩
  rw [h.rs_]
  exact ⟨none, 0, rfl, by decide, .inl rfl⟩
theorem chE_xr {w : World} {g q1 q2 q3 : Nat} (hg : w.heap[g]? = some (.cells ((chE q1 q2 q3).flatMap cellsEn).toArray 57)) (h1 : w.heap[q1]? = some (.cells #[.string comfB, .int .i64 5] 80)) (h2 : w.heap[q2]? = some (.cells #[.string comfB, .int .i64 10] 80)) (h3 : w.heap[q3]? = some (.cells #[.string comfB, .int .i64 10] 80)) :
    XR w (.slice (some ⟨g, 0, none⟩) 3 3) (chE q1 q2 q3) := by
  refine ⟨SR.of_block (xs := chE q1 q2 q3) (cs := cellsEn) (sz := 5) (fun _ => rfl) hg (by show (3 : Nat) ≤ 1000000; decide), ?_⟩
  have hv : ∀ (q : Nat) (n : Int), (n = 5 ∨ n = 10) → w.heap[q]? = some (.cells #[.string comfB, .int .i64 n] 80) → VRd All w [(comfB, n)] (slV (some ⟨q, 0, none⟩, 1, 1)) := by
    intro q n hn h
    refine ⟨_, _, rfl, by show (1 : Nat) ≤ 1000000; decide, ?_, .inr ⟨q, rfl, trivial, ?_⟩⟩
    · intro x hx
      rw [List.mem_singleton.1 hx]
      show _ ≤ n ∧ n ≤ _
      omega
    · intro k hk
      have hk0 : k = 0 := by simp at hk; omega
      subst hk0
      exact ⟨(cell_of_row w q 0 _ _ _ h).trans rfl, (cell_of_row w q 1 _ _ _ h).trans rfl⟩
  have ok : ∀ b k p c : Int, (0 ≤ b ∧ b ≤ 1000 ∧ 0 ≤ k ∧ k ≤ 1000 ∧ 0 ≤ p ∧ p ≤ 1000) → OkE ⟨b, 1, k, p, [(comfB, c)]⟩ := fun b k p c h =>
    ⟨by show _ ≤ b ∧ b ≤ _; omega, by show (_ : Int) ≤ 1 ∧ (1 : Int) ≤ _; omega, by show _ ≤ k ∧ k ≤ _; omega, by show _ ≤ p ∧ p ≤ _; omega, by show (1 : Nat) ≤ 999998; omega⟩
  intro x hx
  simp at hx
  rcases hx with rfl | rfl | rfl
  · exact ⟨ok 7 1 100 5 (by decide), hv q1 5 (.inl rfl) h1⟩
  · exact ⟨ok 8 2 200 10 (by decide), hv q2 10 (.inr rfl) h2⟩
  · exact ⟨ok 9 3 600 10 (by decide), hv q3 10 (.inr rfl) h3⟩
theorem rank_1 (q1 q2 q3 : Nat) (r : TnR) (hl : r.low = 1) (hh : r.high = 500) : errE tpC.ls 1 (ownE 1 (chE q1 q2 q3)) = 0 ∧ rankL r tpC 1 (chE q1 q2 q3) = [⟨7, (4, 5), 1, 0⟩, ⟨8, (7, 10), 2, 0⟩, ⟨9, (0, 0), 0, 16⟩] := by
  obtain ⟨a1, a2, a3, a4, low, high, a7, a8, a9, a10, a11, a12, a13, a14, a15, a16, a17, a18, a19, a20⟩ := r
  simp only at hl hh
  subst hl
  subst hh
  constructor
  · kernel_rfl
  · kernel_rfl
theorem rank_2 (q1 q2 q3 : Nat) (r : TnR) : errE tpC.ls 2 (ownE 2 (chE q1 q2 q3)) = 34 ∧ rankL r tpC 2 (chE q1 q2 q3) = [] := ⟨by kernel_rfl, by kernel_rfl⟩
theorem sorts_12 (r : TnR) (T : TP) (lot : Int) (xs : List ER) (h : xs.length ≤ 12) : SortsOk r T lot xs := fun _ w0 recv hC g n c w hn hso => by
  refine sort_small w0 recv _ g n c _ hC hn ?_ w hso
  have h1 : (ownE lot xs).length ≤ xs.length := List.length_filter_le _ _
  have h2 := List.length_filter_le (fun x : ER => badF r T (lowF r T (ownE lot xs)) x.1 == 0) (ownE lot xs)
  rw [goodF, List.length_map] at hn
  omega
abbrev rkC : List Rk := [⟨7, (4, 5), 1, 0⟩, ⟨8, (7, 10), 2, 0⟩, ⟨9, (0, 0), 0, 16⟩]
theorem en_better (r : TnR) (q1 q2 q3 : Nat) (w : World) {g : Nat} (ht : TV w r tpC) (hx : XR w (.slice (some ⟨g, 0, none⟩) 3 3) (chE q1 q2 q3)) :
    Calls Tryz.prog 20 #[.agg (tenC r), .agg #[.int .i64 7, .int .i64 1, .int .i64 1, .int .i64 100, .slice (some ⟨q1, 0, none⟩) 1 1], .agg #[.int .i64 8, .int .i64 1, .int .i64 2, .int .i64 200, .slice (some ⟨q2, 0, none⟩) 1 1], .agg #[.int .i64 1, .int .i64 1], .agg #[.int .i64 1, .int .i64 1]] w (fun e w' => e = .returned (.bool false) ∧ Ext w w') ∧
    Calls Tryz.prog 20 #[.agg (tenC r), .agg #[.int .i64 8, .int .i64 1, .int .i64 2, .int .i64 200, .slice (some ⟨q2, 0, none⟩) 1 1], .agg #[.int .i64 7, .int .i64 1, .int .i64 1, .int .i64 100, .slice (some ⟨q1, 0, none⟩) 1 1], .agg #[.int .i64 1, .int .i64 1], .agg #[.int .i64 1, .int .i64 1]] w (fun e w' => e = .returned (.bool true) ∧ Ext w w') := by
  have hi : I2 (1, 1) := by constructor <;> decide
  have v1 := (hx.ok _ (List.mem_cons_self)).2
  have v2 := (hx.ok _ (List.mem_cons_of_mem _ List.mem_cons_self)).2
  constructor
  · refine (Better_any r tpC.cs tpC.ts ⟨7, 1, 1, 100, [(comfB, 5)]⟩ ⟨8, 1, 2, 200, [(comfB, 10)]⟩ (some ⟨q1, 0, none⟩, 1, 1) (some ⟨q2, 0, none⟩, 1, 1) (1, 1) (1, 1) hi hi w ht.h2 ht.h4 v1 v2).mono ?_
    rintro e w' ⟨rfl, h⟩
    exact ⟨by rw [show betF tpC.cs tpC.ts ⟨7, 1, 1, 100, [(comfB, 5)]⟩ ⟨8, 1, 2, 200, [(comfB, 10)]⟩ (1, 1) (1, 1) = false by decide +kernel], h⟩
  · refine (Better_any r tpC.cs tpC.ts ⟨8, 1, 2, 200, [(comfB, 10)]⟩ ⟨7, 1, 1, 100, [(comfB, 5)]⟩ (some ⟨q2, 0, none⟩, 1, 1) (some ⟨q1, 0, none⟩, 1, 1) (1, 1) (1, 1) hi hi w ht.h2 ht.h4 v2 v1).mono ?_
    rintro e w' ⟨rfl, h⟩
    exact ⟨by rw [show betF tpC.cs tpC.ts ⟨8, 1, 2, 200, [(comfB, 10)]⟩ ⟨7, 1, 1, 100, [(comfB, 5)]⟩ (1, 1) (1, 1) = true by decide +kernel], h⟩
end Go.Proofs.YteomcpplajeidaaGreat
namespace Go.Proofs.YteomcpplajeidaaGreat
set_option linter.unusedVariables false
set_option linter.unusedSimpArgs false
set_option maxRecDepth 100000
open Go.RowKit
def tiT (less b1 b2 : Bool) : TP := ⟨[(1, 500)], [⟨comfB, 1, 0, 10, less⟩], [], (if b1 then [comfB] else []) ++ (if b2 then [priceB] else []), numE (1, 1)⟩
abbrev tiE (bid p x k : Int) (q : Sl) : ER := (⟨bid, 1, k, p, [(comfB, x)]⟩, q)
def tiW (less b1 b2 : Bool) (pa xa ka pb xb kb : Int) : Int :=
  let d := if less then -(xa - xb) else xa - xb
  if b1 = true ∧ d ≠ 0 then (if d < 0 then 8 else 7)
  else if b2 = true ∧ pa ≠ pb then (if pa > pb then 8 else 7)
  else if ka > kb then 8 else 7
def tiOne (r : TnR) (q1 q2 : Sl) (less b1 b2 : Bool) (pa xa ka pb xb kb : Int) : Bool :=
  let A := tiE 7 pa xa ka q1
  let B := tiE 8 pb xb kb q2
  let t := tiW less b1 b2 pa xa ka pb xb kb
  let T := tiT less b1 b2
  decide (winF (rankL r T 1 [A, B]) (errE T.ls 1 (ownE 1 [A, B])) = (t, 0)) && decide (winF (rankL r T 1 [B, A]) (errE T.ls 1 (ownE 1 [B, A])) = (t, 0))
abbrev tiR (q : TnR) : TnR := { q with low := 1, high := 500 }
def tiAll (q : TnR) (q1 q2 : Sl) (less b1 b2 : Bool) : Bool :=
  [0, 1, 2].all fun (xa : Int) => [0, 1, 2].all fun (xb : Int) => [1, 2, 3].all fun (pa : Int) => [1, 2, 3].all fun (pb : Int) => [0, 2, 4].all fun (ka : Int) => [1, 3, 5].all fun (kb : Int) => tiOne (tiR q) q1 q2 less b1 b2 pa xa ka pb xb kb
theorem ti_000 (q : TnR) (q1 q2 : Sl) : tiAll q q1 q2 false false false = true := by kernel_rfl
theorem ti_001 (q : TnR) (q1 q2 : Sl) : tiAll q q1 q2 false false true = true := by kernel_rfl
theorem ti_010 (q : TnR) (q1 q2 : Sl) : tiAll q q1 q2 false true false = true := by kernel_rfl
theorem ti_011 (q : TnR) (q1 q2 : Sl) : tiAll q q1 q2 false true true = true := by kernel_rfl
theorem ti_100 (q : TnR) (q1 q2 : Sl) : tiAll q q1 q2 true false false = true := by kernel_rfl
theorem ti_101 (q : TnR) (q1 q2 : Sl) : tiAll q q1 q2 true false true = true := by kernel_rfl
theorem ti_110 (q : TnR) (q1 q2 : Sl) : tiAll q q1 q2 true true false = true := by kernel_rfl
theorem ti_111 (q : TnR) (q1 q2 : Sl) : tiAll q q1 q2 true true true = true := by kernel_rfl
theorem ti_all (q : TnR) (q1 q2 : Sl) (less b1 b2 : Bool) : tiAll q q1 q2 less b1 b2 = true := by
  cases less <;> cases b1 <;> cases b2
  · exact ti_000 q q1 q2
  · exact ti_001 q q1 q2
  · exact ti_010 q q1 q2
  · exact ti_011 q q1 q2
  · exact ti_100 q q1 q2
  · exact ti_101 q q1 q2
  · exact ti_110 q q1 q2
  · exact ti_111 q q1 q2
theorem ti_law (r : TnR) (hl : r.low = 1) (hh : r.high = 500) (q1 q2 : Sl) (less b1 b2 : Bool) (x0 x1 x2 y0 y1 y2 : Int) (h0 : 0 ≤ x0 ∧ x0 < 3) (h1 : 0 ≤ x1 ∧ x1 < 3) (h2 : 0 ≤ x2 ∧ x2 < 3) (k0 : 0 ≤ y0 ∧ y0 < 3) (k1 : 0 ≤ y1 ∧ y1 < 3) (k2 : 0 ≤ y2 ∧ y2 < 3) :
    let A := tiE 7 (1 + x0) x1 (2 * x2) q1
    let B := tiE 8 (1 + y0) y1 (2 * y2 + 1) q2
    let t := tiW less b1 b2 (1 + x0) x1 (2 * x2) (1 + y0) y1 (2 * y2 + 1)
    let T := tiT less b1 b2
    winF (rankL r T 1 [A, B]) (errE T.ls 1 (ownE 1 [A, B])) = (t, 0) ∧ winF (rankL r T 1 [B, A]) (errE T.ls 1 (ownE 1 [B, A])) = (t, 0) := by
  have hr : r = tiR r := by
    obtain ⟨a1, a2, a3, a4, low, high, a7, a8, a9, a10, a11, a12, a13, a14, a15, a16, a17, a18, a19, a20⟩ := r
    simp only at hl hh
    subst hl
    subst hh
    rfl
  have h := ti_all r q1 q2 less b1 b2
  unfold tiAll at h
  simp only [List.all_eq_true] at h
  have h' := h x1 (by simp; omega) y1 (by simp; omega) (1 + x0) (by simp; omega) (1 + y0) (by simp; omega) (2 * x2) (by simp; omega) (2 * y2 + 1) (by simp; omega)
  rw [← hr] at h'
  unfold tiOne at h'
  simp only [Bool.and_eq_true, decide_eq_true_eq] at h'
  exact h'
end Go.Proofs.YteomcpplajeidaaGreat
