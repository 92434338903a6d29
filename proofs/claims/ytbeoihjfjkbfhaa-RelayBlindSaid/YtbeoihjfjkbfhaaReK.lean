/-
  The chapter's examples hold. Nothing is asked.
-/
import Derived.Test.YtbeoihjfjkbfhaaReJ
namespace Go.Proofs.Ytbeoihjfjkbfhaa
set_option linter.unusedVariables false
set_option linter.unusedSimpArgs false
open Go.RowKit
theorem row_slice {B E sz n : Nat} {w : World} {v : Value} {xs : List Value} (h : w.ownsRow B E sz v n xs) : ∃ a c, v = .slice a n c := by
  rcases h.2 with ⟨rfl, rfl⟩ | ⟨g, cap, cur, rfl, -⟩
  · exact ⟨_, _, rfl⟩
  · exact ⟨_, _, rfl⟩
theorem okI_small {z : Int} (h : -1000000 ≤ z ∧ z ≤ 1000000) : OkI z := ⟨by omega, by omega⟩
set_option maxRecDepth 100000 in
set_option maxHeartbeats 4000000 in
theorem sanity_any (w : World) : Calls Try.prog 11 #[] w fun e w' => e = .returned (.bool true) ∧ Ext w w' := by
  obtain ⟨p, hp⟩ : ∃ p, p = w.heap.size := ⟨_, rfl⟩
  have hN := new_x 2 10 w (okI_small (by omega)) (okI_small (by omega))
  rw [← hp] at hN
  have HP := Lib.hid hp
  clear hp
  go_enter Try.func11, Try.ntmps11
  go_upto_region 7 with (first
    | (go_at_call 12; refine hN.mono ?_; rintro e w1 ⟨rfl, hr0, hx0⟩)
    | (go_at_call 20; refine (ask_x hr0 ⟨1, tA⟩ 3 (okI_small (by decide)) (okI_small (by decide)) 0 s1 e1 r1).mono ?_; rintro e w2 ⟨rfl, hr1, hb1⟩; clear hr0)
    | (go_at_call 20; refine (ask_x hr1 ⟨1, tB⟩ 4 (okI_small (by decide)) (okI_small (by decide)) 0 s2 e2 r2).mono ?_; rintro e w3 ⟨rfl, hr2, hb2⟩; clear hr1)
    | (go_at_call 16; refine (tick_x hr2 12 (okI_small (by decide)) none s3 (by rw [k3]) (by rw [k3])).mono ?_; rintro e w4 ⟨v4, rfl, hv4, hr3, hb3⟩; have h9 : v4 = .slice none 0 0 := hv4; clear hv4; subst h9; clear hr2)
    | (go_at_call 20; refine (ask_x hr3 ⟨2, tC⟩ 13 (okI_small (by decide)) (okI_small (by decide)) 0 s4 e4 r4).mono ?_; rintro e w5 ⟨rfl, hr4, hb4⟩; clear hr3)
    | (go_at_call 16; refine (tick_x hr4 19 (okI_small (by decide)) none s5 (by rw [k5]) (by rw [k5])).mono ?_; rintro e w6 ⟨v6, rfl, hv6, hr5, hb5⟩; have h9 : v6 = .slice none 0 0 := hv6; clear hv6; subst h9; clear hr4)
    | (go_at_call 22; refine (waiting_x hr5 3 rfl).mono ?_; rintro e w7 ⟨rfl, hw7⟩; have h9 := hw7.symm; clear hw7; subst h9)
    | (go_at_call 16; refine (tick_x hr5 20 (okI_small (by decide)) _ s6 (by rw [k6]) (by rw [k6])).mono ?_; rintro e w8 ⟨v8, rfl, ⟨g8, u8, rfl, hg8, hc8, hu8⟩, hr6, hb6⟩; clear hr5))
  obtain ⟨ua, uc, rfl⟩ : ∃ a c, u8 = .slice a 3 c := by
    obtain ⟨a, c, h⟩ := row_slice hu8
    rw [srtT_len] at h
    exact ⟨a, c, h⟩
  have c8 : World.cell? _ ⟨g8, 0, none⟩ = some (Value.slice ua 3 uc) := cell_of_row _ _ 0 _ _ _ hc8
  have hl8 := Rg.lt_of_heap hc8
  clear hu8 hc8
  go_wp2_with (first
    | (go_at_call 22; refine (waiting_x hr6 0 rfl).mono ?_; rintro e w9 ⟨rfl, hw9⟩; have h9 := hw9.symm; clear hw9; subst h9)
    | (go_at_call 20; refine (ask_x hr6 ⟨3, tD⟩ 19 (okI_small (by decide)) (okI_small (by decide)) 32 s6 e6 r6).mono ?_; rintro e w10 ⟨rfl, hr7, hb7⟩; clear hr6)
    | (go_at_call 20; refine (ask_x hr7 ⟨3, ⟨#[]⟩⟩ 21 (okI_small (by decide)) (okI_small (by decide)) 1 s6 e7 r7).mono ?_; rintro e w11 ⟨rfl, hr8, hb8⟩; clear hr7)
    | (go_at_call 20; refine (ask_x hr8 ⟨3, tD⟩ 21 (okI_small (by decide)) (okI_small (by decide)) 0 s7 e8 r8).mono ?_; rintro e w12 ⟨rfl, hr9, hb9⟩; clear hr8)
    | (go_at_call 18; refine (close_x hr9 none s8 (by rw [k8]) (by rw [k8])).mono ?_; rintro e w13 ⟨v13, rfl, hv13, hr10, hb10⟩; have h9 : v13 = .slice none 0 0 := hv13; clear hv13; subst h9; clear hr9)
    | (go_at_call 20; refine (ask_x hr10 ⟨4, tE⟩ 30 (okI_small (by decide)) (okI_small (by decide)) 31 s8 e9 r9).mono ?_; rintro e w14 ⟨rfl, hr11, hb11⟩; clear hr10))
  go_ret
  refine ⟨rfl, ?_⟩
  have hall := Below.trans hb1 (Below.trans hb2 (Below.trans hb3 (Below.trans hb4 (Below.trans hb5 (Below.trans hb6 (Below.trans hb7 (Below.trans hb8 (Below.trans hb9 (Below.trans hb10 hb11)))))))))
  exact hx0.below_trans (HP.out ▸ hall)
end Go.Proofs.Ytbeoihjfjkbfhaa
