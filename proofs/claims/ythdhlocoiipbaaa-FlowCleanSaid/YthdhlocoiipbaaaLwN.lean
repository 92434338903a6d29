/-
  FlowClean, walked. Conditions: the arguments read as rows of ints and a byte.
-/
import Derived.Test.YthdhlocoiipbaaaFlF
namespace Go.Proofs.Ythdhlocoiipbaaa
set_option linter.unusedVariables false
set_option linter.unusedSimpArgs false
open Go.RowKit

set_option maxRecDepth 100000 in
set_option maxHeartbeats 4000000 in
theorem clean_walk (v u : Value) (f g : Nat → Nat → Int) (n m : Nat) (q : Int) (hq : 0 ≤ q ∧ q ≤ 255) (w : World) (h : RA 3 w v f n) (h5 : RA 5 w u g m) :
    Calls Try.prog 7 #[v, u, .int .u8 q] w fun e w' => e = .returned (.bool true) ∧ Ext w w' := by
  have H0 := Lib.hid h; clear h
  have H5 := Lib.hid h5; clear h5
  go_enter Try.func7, Try.ntmps7
  go_upto_region 3 with (first
    | (go_at_call 11; (with_reducible refine (sanity_any _).mono ?_); rintro e w1 ⟨rfl, hx1⟩)
    | (go_at_call 12; go_loud ((with_reducible refine (Made_any v f n _ (H0.out.ext hx1)).mono ?_); rintro e w2 ⟨r, xs, rfl, hM, hN, hx2⟩; obtain ⟨bx, cx, rfl⟩ := (hM.ri (by omega)).1.form; have hX := Lib.hid (hM.x hN); have hR := Lib.hid (hM.ri (by omega)); have hxl : xs.length ≤ 20 := (by omega); clear hM hN)))
  go_upto_region 4 with (go_at_call 17; (with_reducible refine (Messages_any u g m xs.length _ ((H5.out.ext hx1).ext hx2) (by omega)).mono ?_); rintro e w3 ⟨r3, ms, rfl, hS, -, hx3⟩; obtain ⟨bm, cm, rfl⟩ := (hS.rm (by omega) (by omega)).1.form)
  have hY := Lib.hid (hS.x (by omega))
  have hRM := Lib.hid (hS.rm (by omega) (by omega))
  clear hS
  go_upto_region 5 with (fail)
  have ht := modZ_bd q (m := 14) (by decide)
  generalize q % 14 = t at *
  have hR3 := Lib.hid (hR.out.ext hx3)
  have hx03 : Ext w w3 := (hx1.trans hx2).trans hx3
  clear hx1 hx2 hx3 hR
  go_upto_region 6 with (go_at_call 15; (with_reducible refine (Labels_lab xs _ _ hR3.out).mono ?_); rintro e w4 ⟨r4, rfl, hr4, -, hx4⟩; obtain ⟨lb, lc, rfl⟩ := hr4.formN (n := xs.length) (by simp))
  have hR4 := Lib.hid (hR3.out.ext hx4)
  have hM4 := Lib.hid (hRM.out.ext hx4)
  have hx04 : Ext w w4 := hx03.trans hx4
  clear hx03 hx4 hR3 hRM
  have hlb : ∀ j (hj : j < xs.length), ∃ b off, lb = some ⟨b, off, none⟩ ∧ w4.cell? ⟨b, off + j, none⟩ = some (.int .i64 (labOf xs xs[j])) := by
    intro j hj
    obtain ⟨A', c', e1, -, -, hcell⟩ := hr4
    injection e1 with e1 e2 e3
    subst e1 e3
    obtain ⟨b, off, rfl, hc⟩ := hcell.resolve_left (by intro e; rw [List.map_eq_nil_iff] at e; rw [e] at hj; simp at hj)
    have := hc j (by simpa using hj)
    rw [List.getElem_map] at this
    exact ⟨b, off, rfl, this⟩
  have HLB := Lib.hid hlb
  clear hlb hr4
  have hsm := hY.out.small
  have hwt : IntKind.i64.wrap (t - 1) = t - 1 := by rw [IntKind.wrap_i64]; omega
  go_upto_region 10 with (fail)
  go_loopw [12, 13] (fun c k wr => ∃ z : Int, k = .int .i64 z ∧ ((z = 2 ∧ c = .bool true) ∨ (z = 3 ∧ c = .bool (cleanW xs ms t 2)) ∨ (z = 4 ∧ c = .bool (cleanW xs ms t 2 && cleanW xs ms t 3))) ∧ Ext w4 wr) (fun _ k _ => (4 - iof k).toNat)
  case atStart => exact ⟨2, rfl, .inl ⟨rfl, rfl⟩, Ext.refl _⟩
  case round =>
    obtain ⟨z, rfl, hz, hx⟩ := hrel
    by_cases hz4 : z < 4
    · obtain ⟨c0, rfl, hz1, hnext⟩ : ∃ c0 : Bool, u12 = .bool c0 ∧ (z = 2 ∨ z = 3) ∧ ((z + 1 = 2 ∧ Value.bool (c0 && cleanW xs ms t z) = .bool true) ∨ (z + 1 = 3 ∧ Value.bool (c0 && cleanW xs ms t z) = .bool (cleanW xs ms t 2)) ∨ (z + 1 = 4 ∧ Value.bool (c0 && cleanW xs ms t z) = .bool (cleanW xs ms t 2 && cleanW xs ms t 3))) := by
        rcases hz with ⟨rfl, rfl⟩ | ⟨rfl, rfl⟩ | ⟨rfl, rfl⟩
        · exact ⟨true, rfl, .inl rfl, .inr (.inl ⟨rfl, by rw [Bool.true_and]⟩)⟩
        · exact ⟨_, rfl, .inr rfl, .inr (.inr ⟨rfl, rfl⟩)⟩
        · omega
      have HN := Lib.hid hnext; clear hnext hz
      have hcw : cleanW xs ms t z = (srt (knowL xs z (t - 1) ms)).all (fun id => !price xs id) := rfl
      rw [hcw] at HN
      clear hcw
      have hkid : ∀ id ∈ srt (knowL xs z (t - 1) ms), _ := fun id h => know_id hX.out (((srt_spec _).2 id).1 h)
      go_upto_region 14 with (go_at_call 21; (with_reducible refine (Knows_any xs ms z (t - 1) _ _ _ (hR4.out.ext hx) (hM4.out.ext hx) hsm).mono ?_); rintro e w5 ⟨r5, rfl, hr5, hx5⟩; obtain ⟨kb, kc, rfl⟩ := hr5.formN rfl)
      have HK := Lib.hid hkid; clear hkid
      have hkl : (srt (knowL xs z (t - 1) ms)).length ≤ 9223372036854775807 := by
        obtain ⟨_, _, -, h, -⟩ := hr5
        exact h
      generalize srt (knowL xs z (t - 1) ms) = K at *
      go_loopw [12, 15] (fun c k wr => ∃ i : Nat, k = .int .i64 i ∧ i ≤ K.length ∧ c = .bool (c0 && (K.take i).all (fun id => !price xs id)) ∧ wr = w5) (fun _ k _ => K.length - (iof k).toNat)
      case atStart => exact ⟨0, rfl, by omega, by simp, rfl⟩
      case round =>
        obtain ⟨i, rfl, hi, rfl, rfl⟩ := hrel
        by_cases hil : i < K.length
        · obtain ⟨j, hj, hid, hfd⟩ := HK.out K[i] (List.getElem_mem _)
          obtain ⟨A', c', e1, -, -, hcell⟩ := hr5
          injection e1 with e1 e2 e3
          subst e1 e3
          obtain ⟨qb, qo, rfl, hc⟩ := hcell.resolve_left (by intro e; rw [e] at hil; simp at hil)
          have cq := hc i hil
          have hpj : price xs K[i] = (band (labOf xs xs[j]) 2 != 0) := by unfold price; rw [hfd]; rfl
          have hnx : (c0 && (K.take (i + 1)).all (fun id => !price xs id)) = ((c0 && (K.take i).all (fun id => !price xs id)) && (band (labOf xs xs[j]) 2 == 0)) := by
            rw [List.take_succ_eq_append_getElem hil, List.all_append, List.all_cons, List.all_nil, hpj, Bool.and_true, Bool.and_assoc, bne, Bool.not_not]
          rw [hid] at cq
          obtain ⟨lbb, lbo, rfl, cl0⟩ := HLB.out j hj
          have cl := ((hx.trans hx5).cells.1 _ _ (World.block_lt_of_cell? w4 ⟨lbb, lbo + j, none⟩ cl0)).trans cl0
          have Hnx := Lib.hid hnx
          clear hc hcell e2 hid hfd hnx hpj cl0
          generalize (c0 && (K.take i).all (fun id => !price xs id)) = acc at *
          generalize labOf xs xs[j] = lm at *
          cases acc <;> (go_wp2_with (fail); refine ⟨⟨i + 1, by simp, by omega, by rw [Hnx.out]; rfl, trivial⟩, by simp; omega⟩)
        · obtain rfl : i = K.length := by omega
          rw [List.take_length]
          go_wp2_with (fail)
          exact ⟨⟨z + 1, rfl, HN.out, hx.trans hx5⟩, by simp; omega⟩
    · obtain ⟨rfl, rfl⟩ : z = 4 ∧ u12 = .bool (cleanW xs ms t 2 && cleanW xs ms t 3) := by
        rcases hz with ⟨rfl, -⟩ | ⟨rfl, -⟩ | h
        · omega
        · omega
        · exact h
      have hck := ms_chk hX.out (ms := ms) (fun m hm id hid => hY.out.its hm hid) [2, 3] t
      have hci := clean_iff xs ms t
      generalize hout : ms.filter (bad xs [2, 3] t) = out at *
      have hC := Check_any xs ms [2, 3] t (.slice bx xs.length cx) (.slice bm ms.length cm) (.slice (some ⟨wr.heap.size, 0, none⟩) 2 2) (wr.alloc (.cells #[.int .i64 2, .int .i64 3] 3)) ((hR4.out.ext hx).ext (Ext.alloc (Ext.refl _) _)) ((hM4.out.ext hx).ext (Ext.alloc (Ext.refl _) _)) (ird_lit (zs := [2, 3]) (World.alloc_heap_new wr _) (by intro z hz; exact okI_small (by simp at hz; omega)) rfl (by decide)) (okI_small (by omega))
      rw [hck] at hC
      generalize hcl : (cleanW xs ms t 2 && cleanW xs ms t 3) = cl at *
      clear hz hck hout hcl
      have hxw : Ext w wr := hx04.trans hx
      cases cl with
      | true =>
        rw [if_pos (hci.2 rfl)] at hC
        clear hci
        go_wp2_with (go_at_call 18; (with_reducible refine hC.mono ?_); clear hC; rintro e w7 ⟨r7, rfl, hr7, hx7⟩; obtain ⟨b7, c7, rfl⟩ := hr7.1.form)
        go_ret
        exact ⟨rfl, hxw.trans (Ext.trans (Ext.alloc (Ext.refl _) _) hx7)⟩
      | false =>
        have hne : out ≠ [] := fun e => by have := hci.1 e; cases this
        rw [if_neg hne] at hC
        have hpos : 0 < out.length := List.length_pos_iff.2 hne
        obtain ⟨no, hno⟩ : ∃ no, out.length = no := ⟨_, rfl⟩
        rw [hno] at hpos
        clear hci hne
        go_wp2_with (go_at_call 18; (with_reducible refine hC.mono ?_); clear hC; rintro e w7 ⟨r7, rfl, hr7, hx7⟩; obtain ⟨b7, c7, h7⟩ := hr7.1.form; rw [hno] at h7; subst h7)
        go_ret
        refine ⟨?_, hxw.trans (Ext.trans (Ext.alloc (Ext.refl _) _) hx7)⟩
        have hz : ((no : Int) == 0) = false := by
          rw [beq_eq_false_iff_ne]
          omega
        show Ending.returned (Value.bool (!((no : Int) == 0))) = _
        rw [hz]
        rfl

end Go.Proofs.Ythdhlocoiipbaaa
