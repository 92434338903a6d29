/-
  Lemmas of this claim (JtAD). Nothing is asked.
-/
import Derived.Test.YteomcpplajeidaaGreatJtAC
import Derived.Deep.MidRow
import Derived.Laws.CopyOwn
namespace Go.Proofs.YteomcpplajeidaaGreat
set_option linter.unusedVariables false
set_option linter.unusedSimpArgs false
set_option maxRecDepth 100000
open Go.RowKit
theorem known6 : amoS (snL 9) (wordL 0) = true ∧ amoS (snL 9) (wordL 1) = true ∧ amoS (snL 9) (wordL 3) = true ∧ amoS (snL 9) (wordL 4) = true ∧ amoS (snL 9) (wordL 6) = true ∧ amoS (snL 9) (wordL 7) = true := ⟨by kernel_rfl, by kernel_rfl, by kernel_rfl, by kernel_rfl, by kernel_rfl, by kernel_rfl⟩
abbrev needL : List ByteArray := [⟨#[116, 101, 110, 100, 101, 114]⟩, ⟨#[108, 111, 116]⟩, ⟨#[112, 114, 105, 99, 101]⟩, ⟨#[102, 111, 114, 109, 117, 108, 97]⟩, ⟨#[98, 117, 100, 103, 101, 116]⟩, ⟨#[116, 105, 109, 101, 115]⟩]
theorem need_known : ∀ j (h : j < needL.length), amoS (snL 9) needL[j] = true := by
  intro j h
  have h6 : j < 6 := h
  have : j = 0 ∨ j = 1 ∨ j = 2 ∨ j = 3 ∨ j = 4 ∨ j = 5 := by omega
  rcases this with rfl | rfl | rfl | rfl | rfl | rfl
  · exact known6.1
  · exact known6.2.1
  · exact known6.2.2.1
  · exact known6.2.2.2.1
  · exact known6.2.2.2.2.1
  · exact known6.2.2.2.2.2
theorem ten_rest (S : ByteArray) (r : TnR) (sv : Value) (j : Nat) (h : j < 20) : (restOf S r sv)[j + 1]? = (tenC r).toList[j]? := by
  have h : j = 0 ∨ j = 1 ∨ j = 2 ∨ j = 3 ∨ j = 4 ∨ j = 5 ∨ j = 6 ∨ j = 7 ∨ j = 8 ∨ j = 9 ∨ j = 10 ∨ j = 11 ∨ j = 12 ∨ j = 13 ∨ j = 14 ∨ j = 15 ∨ j = 16 ∨ j = 17 ∨ j = 18 ∨ j = 19 := by omega
  rcases h with rfl | rfl | rfl | rfl | rfl | rfl | rfl | rfl | rfl | rfl | rfl | rfl | rfl | rfl | rfl | rfl | rfl | rfl | rfl | rfl <;> rfl
theorem edL_lt : ∀ i, i < 8 → edL i ≤ 155 := by decide
theorem ed_nine {i k : Nat} (h : i + 1 = 9) (hk : k = edL i) : k + 1 = 157 := by
  have h8 : i = 8 := by omega
  subst h8
  rw [hk]
  rfl
abbrev zeroT : TnR := ⟨nilB, (none, 0, 0), (none, 0, 0), (none, 0, 0), 0, 0, nilB, 0, 0, nilB, (none, 0, 0), (none, 0, 0), 0, (none, 0, 0), 0, 0, 0, 0, 0, 0⟩
theorem nx_zero (w : World) : NXe w (w.alloc (.cells ((.slice none 0 0) :: .int .i64 0 :: .int .i64 0 :: .int .i64 0 :: restOf litS zeroT (.slice none 0 0)).toArray 166)) w.heap.size 0 :=
  ⟨.slice none 0 0, [], 0, zeroT, .slice none 0 0,
   ⟨block_new rfl, ⟨none, 0, rfl, by decide, .inl rfl⟩, fun b n c e => by injection e with e; cases e⟩, Ext.alloc (Ext.refl _) _, Nat.le_refl _, World.ownsRow_nil _ _ _ _, fun b e => (by cases e),
   { nm_ := rfl, low_ := rfl, high_ := rfl, most_ := rfl, budget_ := rfl, t0_ := rfl, t1_ := rfl, t2_ := rfl, t3_ := rfl, t4_ := rfl, rs_ := rfl, ks_ := rfl, ls_ := World.ownsRow_nil _ _ _ _, la := fun b e => (by cases e), l0 := fun _ => rfl, cs_ := World.ownsRow_nil _ _ _ _, ca := fun b e => (by cases e), c0 := fun _ => rfl, ts_ := World.ownsRow_nil _ _ _ _, ta := fun b e => (by cases e), s0 := fun _ => rfl, fo := Rd.leaf I2.zero }⟩
theorem TF.base {A : Nat → Prop} {B B' : Nat} {w : World} {r : TnR} {d : TD} (h : TF A B w r d) (hB : B' ≤ B) : TF A B' w r d :=
  { h with ls_ := row_base h.ls_ hB, cs_ := row_base h.cs_ hB, ts_ := row_base h.ts_ hB }
set_option maxHeartbeats 16000000 in
theorem parse_any (w : World) : Calls Tryz.prog 54 #[.string litS] w fun e w' => ∃ r, e = .returned (.tuple #[.agg (tenC r), .int .i64 0, .int .i64 0]) ∧ Ext w w' ∧ TF (fun b => w.heap.size < b) w.heap.size w' r (dD 9) := by
  have HSZ := Lib.hid litS_size
  have hs4 : ¬ (4000 : Int) < (litS.size : Int) := by have := HSZ.out; omega
  go_enter Tryz.func54, Tryz.ntmps54
  go_upto_region 6 with (fail)
  have hD : (w.alloc (.cells (tenC zeroT) 39)).heap[w.heap.size]? = some (.cells (tenC zeroT) 39) := block_new rfl
  have hw0 : Ext w (w.alloc (.cells (tenC zeroT) 39)) := Ext.alloc (Ext.refl _) _
  have hN0 := nx_zero (w.alloc (.cells (tenC zeroT) 39))
  have hsz0 : (w.alloc (.cells (tenC zeroT) 39)).heap.size = w.heap.size + 1 := World.size_alloc ..
  rw [hsz0] at hN0
  have HN0 := Lib.hid hN0
  clear hN0
  generalize hpe : w.heap.size + 1 = p at *
  obtain ⟨w0, hw⟩ : ∃ w0, w0 = w.alloc (.cells (tenC zeroT) 39) := ⟨_, rfl⟩
  rw [← hw] at hD hw0 hsz0
  have HW := Lib.hid hw
  have HD := Lib.hid hD
  have HW0 := Lib.hid hw0
  have HS0 := Lib.hid hsz0
  have HPE := Lib.hid hpe
  clear hw hD hw0 hsz0 hpe
  go_loopw [6, 7] (fun fv kv wr => ∃ i k : Nat, fv = .int .i64 (frL i) ∧ kv = .int .i64 k ∧ i ≤ 9 ∧ Hid (i = 9 → k = 157) ∧ Hid (i < 9 → frL i ≤ k ∧ k ≤ edL i) ∧ Hid (NXe w0 wr p i)) (fun _ kv _ => 200 - (iof kv).toNat)
  case atStart => exact ⟨0, 0, rfl, rfl, by decide, Lib.hid (fun h => absurd h (by decide)), Lib.hid (fun _ => by decide), Lib.hid (by rw [HW.out]; exact HN0.out)⟩
  case round =>
    obtain ⟨i, k, rfl, rfl, hi, HK9, HK, HN⟩ := hrel
    obtain ⟨tv, l, kk, r, sv, hN⟩ := HN.out
    obtain ⟨c0, c1, c2, c3⟩ := hN.px.c
    have hpl := Rg.lt_of_heap hN.px.at_
    have HNN := Lib.hid hN
    clear hN
    by_cases hi9 : i < 9
    · have hk : frL i ≤ k ∧ k ≤ edL i := HK.out hi9
      have hnx := line_next i hi9
      have hkb : k ≤ 156 := by omega
      have hkl : (k : Int) ≤ (litS.size : Int) := by have := HSZ.out; omega
      have HCA := Lib.hid (nextL (w0 := w0) (p := p) i hi9 wr HN.out)
      have hw1 : IntKind.i64.wrap ((k : Int) + 1) = (k : Int) + 1 := by rw [IntKind.wrap_i64]; omega
      by_cases hke : k = edL i
      · rw [← hke] at HCA
        have HKE := Lib.hid hke
        have HNX := Lib.hid hnx
        clear hke hnx hk
        by_cases hi8 : i < 8
        · have hks : k < litS.size := by have := HSZ.out; have := edL_lt i hi8; have := HKE.out; omega
          have hby : ((litS[k].toNat : Nat) : Int) = 10 := by rw [← byZ_at hks]; exact (line_bytes i hi8 k hkb (HK.out hi9).1 (HK.out hi9).2).2 HKE.out
          have hkn : ¬ (k : Int) = (litS.size : Int) := by omega
          have hkq : ((k : Int) == (litS.size : Int)) = false := by simp [hkn]
          have hbq : (((litS[k].toNat : Nat) : Int) == 10) = true := by simp [hby]
          go_wp2_with (go_at_call 91; (with_reducible refine HCA.out.mono ?_); rintro e w2 ⟨rfl, hn2⟩; have HN2 := Lib.hid hn2; clear hn2)
          exact ⟨⟨i + 1, k + 1, by rw [HNX.out.1, ← HKE.out]; rfl, by rfl, by omega, Lib.hid (fun h => (ed_nine (by omega) HKE.out)), Lib.hid (fun h => by have := line_next (i + 1) h; have := HNX.out.1; have := HKE.out; omega), HN2⟩, by simp [iof]; omega⟩
        · have hkn : (k : Int) = (litS.size : Int) := by
            have h8 : i = 8 := by omega
            subst h8
            have := HKE.out
            have e8 : edL 8 = 156 := rfl
            have := HSZ.out
            omega
          have hkq : ((k : Int) == (litS.size : Int)) = true := by rw [beq_iff_eq]; exact hkn
          have HKN := Lib.hid hkn
          clear hkn
          go_wp2_with (go_at_call 91; (with_reducible refine HCA.out.mono ?_); rintro e w2 ⟨rfl, hn2⟩; have HN2 := Lib.hid hn2; clear hn2)
          exact ⟨⟨i + 1, k + 1, by rw [HNX.out.1, ← HKE.out]; rfl, by rfl, by omega, Lib.hid (fun h => (ed_nine (by omega) HKE.out)), Lib.hid (fun h => by have := line_next (i + 1) h; have := HNX.out.1; have := HKE.out; omega), HN2⟩, by simp [iof]; omega⟩
      · have hi8 : i < 8 := by
          rcases Nat.lt_or_ge i 8 with h | h
          · exact h
          · have h8 : i = 8 := by omega
            subst h8
            have e8 : edL 8 = 156 := rfl
            have f8 : frL 8 = 156 := rfl
            omega
        have hks : k < litS.size := by have := HSZ.out; have := edL_lt i hi8; omega
        have hby : ¬ ((litS[k].toNat : Nat) : Int) = 10 := by rw [← byZ_at hks]; exact fun h => hke ((line_bytes i hi8 k hkb (HK.out hi9).1 (HK.out hi9).2).1 h)
        have hkn : ¬ (k : Int) = (litS.size : Int) := by omega
        have hkq : ((k : Int) == (litS.size : Int)) = false := by simp [hkn]
        have hbq : (((litS[k].toNat : Nat) : Int) == 10) = false := by simp [hby]
        have HKK : Hid (i < 9 → frL i ≤ k + 1 ∧ k + 1 ≤ edL i) := Lib.hid (fun _ => by omega)
        clear hke hnx hk
        go_wp2_with (fail)
        exact ⟨⟨i, k + 1, by rfl, by rfl, by omega, Lib.hid (fun h => by omega), HKK, HN⟩, by simp [iof]; omega⟩
    · obtain rfl : i = 9 := by omega
      obtain rfl : k = 157 := HK9.out rfl
      have hkl : ¬ (157 : Int) ≤ (litS.size : Int) := by have := HSZ.out; omega
      clear HN HK HK9
      go_upto_region 13 with (fail)
      have hxa : Ext wr (wr.alloc (.cells #[.string ⟨#[116, 101, 110, 100, 101, 114]⟩, .string ⟨#[108, 111, 116]⟩, .string ⟨#[112, 114, 105, 99, 101]⟩, .string ⟨#[102, 111, 114, 109, 117, 108, 97]⟩, .string ⟨#[98, 117, 100, 103, 101, 116]⟩, .string ⟨#[116, 105, 109, 101, 115]⟩] 9)) := Ext.alloc (Ext.refl _) _
      have hs1 : SR strC 1 (wr.alloc (.cells #[.string ⟨#[116, 101, 110, 100, 101, 114]⟩, .string ⟨#[108, 111, 116]⟩, .string ⟨#[112, 114, 105, 99, 101]⟩, .string ⟨#[102, 111, 114, 109, 117, 108, 97]⟩, .string ⟨#[98, 117, 100, 103, 101, 116]⟩, .string ⟨#[116, 105, 109, 101, 115]⟩] 9)) (.slice (some ⟨wr.heap.size, 0, none⟩) 6 6) needL := sr_strs needL rfl (block_new rfl) (by decide)
      have HN1 := Lib.hid (HNN.out.ext hxa)
      have HS1 := Lib.hid hs1
      clear hxa hs1 c0 c1 c2 c3 hpl HNN
      generalize wr.alloc (.cells #[.string ⟨#[116, 101, 110, 100, 101, 114]⟩, .string ⟨#[108, 111, 116]⟩, .string ⟨#[112, 114, 105, 99, 101]⟩, .string ⟨#[102, 111, 114, 109, 117, 108, 97]⟩, .string ⟨#[98, 117, 100, 103, 101, 116]⟩, .string ⟨#[116, 105, 109, 101, 115]⟩] 9) = w1 at *
      obtain ⟨bn, hbn⟩ : ∃ bn, bn = wr.heap.size := ⟨_, rfl⟩
      rw [← hbn] at HS1 ⊢
      clear hbn
      have HSR := Lib.hid (fun wz tv l k r sv (hz : NX w0 wz p tv l k litS r sv (snL 9) (dD 9)) => SR.of_row (cs := strC) (fun _ => rfl) hz.seen (by decide))
      go_loopw [9, 10] (fun kv _ wq => ∃ j : Nat, kv = .int .i64 j ∧ j ≤ 6 ∧ Hid (NX w0 wq p tv l kk litS r sv (snL 9) (dD 9) ∧ Ext w1 wq)) (fun kv _ _ => 6 - (iof kv).toNat)
      case atStart => exact ⟨0, rfl, by decide, Lib.hid ⟨HN1.out, Ext.refl _⟩⟩
      case round =>
        obtain ⟨j, rfl, hj, HQ⟩ := hrel
        obtain ⟨c0, c1, c2, c3⟩ := HQ.out.1.px.c
        have hpl := Rg.lt_of_heap HQ.out.1.px.at_
        by_cases hj6 : j < 6
        · have hj6i : (j : Int) < 6 := by omega
          obtain ⟨g, hg, -, hgl, hcell⟩ := str_at (HS1.out.ext HQ.out.2) j hj6
          injection hg with hg
          injection hg with hg
          subst hg
          have hkn := need_known j hj6
          obtain ⟨x, hx⟩ : ∃ x, needL[j] = x := ⟨_, rfl⟩
          rw [hx] at hcell hkn
          have HC := Lib.hid (seenW_any p sv (snL 9) x wr (HQ.out.1.px.r 21) (HSR.out _ _ _ _ _ _ HQ.out.1))
          rw [hkn] at HC
          clear hx hkn
          go_wp2_with (go_at_call 92; (with_reducible refine HC.out.mono ?_); rintro e w3 ⟨rfl, hx3⟩; have HX3 := Lib.hid hx3; clear hx3)
          exact ⟨⟨j + 1, by rfl, by omega, Lib.hid ⟨HQ.out.1.ext HX3.out, HQ.out.2.trans HX3.out⟩⟩, by simp [iof]; omega⟩
        · obtain rfl : j = 6 := by omega
          go_upto_region 20 with (fail)
          have HT := Lib.hid HQ.out.1.tf
          have hDD : wr.heap[w.heap.size]? = some (.cells (tenC zeroT) 39) := (HQ.out.1.low.block _ (by have := HS0.out; have := HPE.out; omega)).trans HD.out
          have hrange : wr.rangeAt p 5 (tenC r).toList := fun j v hv => by
            have := HQ.out.1.px.r (j + 1)
            rw [show j + 1 + 4 = 5 + j by omega] at this
            rw [this]
            have hj20 : j < 20 := (List.getElem?_eq_some_iff.1 hv).1
            exact (ten_rest litS r sv j hj20).trans hv
          have HDD := Lib.hid hDD
          have HRA := Lib.hid hrange
          clear hDD hrange
          obtain ⟨row, hrow⟩ : ∃ row, row = (tenC r).toList := ⟨_, rfl⟩
          rw [← hrow] at HRA
          have hrs : row.length = 20 := by rw [hrow]; rfl
          have hone : ∀ v ∈ row.toArray.toList, v.oneCell' = true := by
            rw [hrow]
            intro v hv
            simp at hv
            rcases hv with rfl | rfl | rfl | rfl | rfl | rfl | rfl | rfl | rfl | rfl | rfl | rfl | rfl | rfl | rfl | rfl | rfl | rfl | rfl | rfl <;> rfl
          have HROW := Lib.hid hrow
          clear hrow
          go_wp2_with (first
            | (refine wpList_load_mid rfl 39 (.tmp 93) rfl p 5 (by rfl) row _ HRA.out Tryz.underlying39 rfl (by rw [hrs]; kernel_rfl) ?_)
            | (refine wpList_store_row rfl 39 (.tmp 2) (.tmp 94) rfl w.heap.size (by rfl) row.toArray (by rfl) _ 39 HDD.out (by simp [hrs]) (by rw [List.size_toArray, hrs]; kernel_rfl) hone ?_))
          have hfin := setRow_heap wr w.heap.size _ row.toArray _ _ HDD.out
          have hx6 : Below w.heap.size w (wr.setRow w.heap.size row.toArray) := below_setRow (HW0.out.trans HQ.out.1.low) (Nat.le_refl _) _
          have ht6 : TF (fun b => w.heap.size < b) w.heap.size (wr.setRow w.heap.size row.toArray) r (dD 9) := (HT.out.move (A' := fun b => w.heap.size < b) (fun b hb _ => setRow_other wr _ _ _ (by have := hb.2.2; have := HS0.out; have := HPE.out; omega)) (fun b hb _ => by have := hb.2.2; have := HS0.out; have := HPE.out; omega)).base (by have := HS0.out; have := HPE.out; omega)
          exact bodyPost_ret (v := .tuple #[.agg row.toArray, .int .i64 0, .int .i64 0]) (results_cell3 Tryz.results54 _ _ w.heap.size 39 _ _ _ (.int .i64 0) (.int .i64 0) (by rfl) (by rfl) (by rfl) hfin Tryz.underlying39 (by rw [List.size_toArray, hrs]; kernel_rfl)) rfl ⟨r, by rw [HROW.out], hx6, ht6⟩
end Go.Proofs.YteomcpplajeidaaGreat
