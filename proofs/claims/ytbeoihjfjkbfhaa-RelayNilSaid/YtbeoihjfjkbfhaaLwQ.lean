/-
  RelayNil: nil and zero relays. Nothing is asked.
-/
import Derived.Test.YtbeoihjfjkbfhaaLwP
namespace Go.Proofs.Ytbeoihjfjkbfhaa
set_option linter.unusedVariables false
set_option linter.unusedSimpArgs false
open Go.RowKit
set_option maxRecDepth 100000 in
set_option maxHeartbeats 16000000 in
theorem nil_walk (v : Value) (ls : List (List Int)) (w : World) (hl : RN 4 w v ls) :
    Calls Try.prog 9 #[v] w fun e w' => e = .returned (.bool true) ∧ Ext w w' := by
  obtain ⟨base, cp, rfl, hlen⟩ := hl.form
  have HL := Lib.hid hl
  clear hl
  go_enter Try.func9, Try.ntmps9
  go_upto_region 2 with (go_at_call 11; (with_reducible refine (sanity_any _).mono ?_); rintro e w1 ⟨rfl, hx1⟩)
  have HX1 := Lib.hid hx1
  clear hx1
  go_upto_region 4 with (fail)
  have hx2 : Ext w1 (w1.alloc (.cells #[.int .i64 0, .int .i64 0, .map none, .int .i64 0, .bool false, .bool false] 56)) := Ext.alloc (Ext.refl _) _
  have hr2 : RX w1.heap.size (w1.alloc (.cells #[.int .i64 0, .int .i64 0, .map none, .int .i64 0, .bool false, .bool false] 56)) w1.heap.size ⟨0, 0, [], 0, false, false⟩ :=
    ⟨hx2.size, none, Nat.le_refl _, alloc_at w1 _, rfl, ⟨⟨by decide, by decide⟩, ⟨by decide, by decide⟩, ⟨by decide, by decide⟩, by simp, by simp⟩⟩
  obtain ⟨p1, hp⟩ : ∃ p, p = w1.heap.size := ⟨_, rfl⟩
  rw [← hp]
  have HP := Lib.hid hp
  clear hp
  generalize w1.alloc (.cells #[.int .i64 0, .int .i64 0, .map none, .int .i64 0, .bool false, .bool false] 56) = w2 at *
  have HX2 := Lib.hid hx2; have HR2 := Lib.hid hr2
  clear hx2 hr2
  go_upto_region 5 with (go_at_call 13; (with_reducible refine (rnew_any 1 1 _ (okI_small (by decide)) (okI_small (by decide))).mono ?_); rintro e w3 ⟨rfl, hr3, hx3⟩)
  have hr4 : RM w2.heap.size w3 w2.heap.size (.slice none 0 0) ⟨0, 0, [], 0, false, false⟩ :=
    ⟨hr3.at_, hr3.row, hr3.list, ⟨⟨by decide, by decide⟩, ⟨by decide, by decide⟩, ⟨by decide, by decide⟩, by simp, by simp⟩⟩
  have hC := C2.made HR2.out rfl hr4 hx3
  replace hC : C2 w1.heap.size w3 p1 w2.heap.size ⟨0, 0, [], 0, false, false⟩ ⟨0, 0, [], 0, false, false⟩ := by rw [HP.out]; exact hC
  obtain ⟨p2, hp2⟩ : ∃ p, p = w2.heap.size := ⟨_, rfl⟩
  rw [← hp2] at hC ⊢
  have HPLAY := Lib.hid (play_any _ ls w1 w3 (HL.out.ext HX1.out) p1 p2 _ hC (HX2.out.trans hx3))
  clear hp2 hr3 hr4 hx3 HR2 HX2 hC
  go_upto_region 6 with (go_at_call 14; (with_reducible refine HPLAY.out.mono ?_); rintro e w4 ⟨t, r, rfl, t0, t1, hc4, hx4⟩)
  have HX4 := Lib.hid (HX1.out.trans hx4)
  clear hc4 hx4 HPLAY HX1
  go_wp2_with (first
    | (go_at_call 20; (with_reducible refine (ask_nil _ _ _ _).mono ?_); rintro e wa ⟨rfl, hxa⟩)
    | (go_at_call 16; (with_reducible refine (tick_nil _ _).mono ?_); rintro e wb ⟨rfl, hw5⟩; have h9 := hw5.symm; clear hw5; subst h9)
    | (go_at_call 18; (with_reducible refine (close_nil _).mono ?_); rintro e wb ⟨rfl, hw5⟩; have h9 := hw5.symm; clear hw5; subst h9)
    | (go_at_call 22; (with_reducible refine (waiting_nil _).mono ?_); rintro e wb ⟨rfl, hw5⟩; have h9 := hw5.symm; clear hw5; subst h9))
  go_ret
  exact ⟨rfl, HX4.out.trans hxa⟩
end Go.Proofs.Ytbeoihjfjkbfhaa
