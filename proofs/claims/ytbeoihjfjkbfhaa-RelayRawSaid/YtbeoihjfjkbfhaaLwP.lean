/-
  RelayPlays and RelayNil: both relays have the same results. Nothing is asked.
-/
import Derived.Test.YtbeoihjfjkbfhaaJnG
namespace Go.Proofs.Ytbeoihjfjkbfhaa
set_option linter.unusedVariables false
set_option linter.unusedSimpArgs false
open Go.RowKit
theorem C2.made {B : Nat} {w w' : World} {p1 : Nat} {r : Rl} (hr : RX B w p1 r) (hl : r.l = []) (h2 : RM w.heap.size w' w.heap.size (.slice none 0 0) r) (x : Ext w w') : C2 B w' p1 w.heap.size r r := by
  obtain ⟨hB, m, h1⟩ := hr
  refine ⟨Nat.le_trans hB x.size, ⟨m, h1.ext x⟩, .slice none 0 0, ⟨⟨hB, h2.row, ?_, h2.ok⟩, by rw [hl]; simp⟩⟩
  rw [hl]
  exact World.ownsRow_nil _ _ _ _
theorem u8_small {x : Int} (h : 0 ≤ x ∧ x ≤ 255) (m : Int) (hm : 0 < m) (hm2 : m ≤ 12) : 0 ≤ x % m ∧ x % m < m := ⟨Int.emod_nonneg _ (by omega), Int.emod_lt_of_pos _ hm⟩
set_option maxRecDepth 100000 in
set_option maxHeartbeats 16000000 in
theorem plays_walk (v : Value) (ls : List (List Int)) (a b : Int) (ha : 0 ≤ a ∧ a ≤ 255) (hb : 0 ≤ b ∧ b ≤ 255) (w : World) (hl : RN 4 w v ls) :
    Calls Try.prog 3 #[v, .agg #[.int .u8 a, .int .u8 b]] w fun e w' => e = .returned (.bool true) ∧ Ext w w' := by
  obtain ⟨base, cp, rfl, hlen⟩ := hl.form
  obtain ⟨le, hle⟩ : ∃ le, le = a % 5 - 1 := ⟨_, rfl⟩
  obtain ⟨ev, hev⟩ : ∃ ev, ev = b % 12 - 1 := ⟨_, rfl⟩
  have hle0 : -1 ≤ le ∧ le ≤ 3 := by omega
  have hev0 : -1 ≤ ev ∧ ev ≤ 10 := by omega
  have HL := Lib.hid hl
  clear hl
  go_enter Try.func3, Try.ntmps3
  go_upto_region 1 with (fail)
  have hx0 : Ext w (w.alloc (.cells #[.int .u8 a, .int .u8 b] 23)) := Ext.alloc (Ext.refl _) _
  have hrow := alloc_at w (.cells #[.int .u8 a, .int .u8 b] 23)
  obtain ⟨n0, hn0⟩ : ∃ n0, n0 = w.heap.size := ⟨_, rfl⟩
  rw [← hn0] at hrow ⊢
  clear hn0
  generalize w.alloc (.cells #[.int .u8 a, .int .u8 b] 23) = W0 at *
  have HROW := Lib.hid hrow; have HX0 := Lib.hid hx0
  clear hrow hx0
  go_upto_region 2 with (go_at_call 11; (with_reducible refine (sanity_any _).mono ?_); rintro e w1 ⟨rfl, hx1⟩)
  have hrow1 := (hx1.block _ (Rg.lt_of_heap HROW.out)).trans HROW.out
  have c0 := cell_of_row w1 n0 0 _ _ _ hrow1; have c1 := cell_of_row w1 n0 1 _ _ _ hrow1
  change w1.cell? _ = some (.int .u8 a) at c0
  change w1.cell? _ = some (.int .u8 b) at c1
  have HX1 := Lib.hid (HX0.out.trans hx1)
  clear hrow1 hx1 HROW HX0
  go_upto_region 5 with (go_at_call 12; rw [← hle, ← hev]; (with_reducible refine (new_x le ev _ (okI_small (by omega)) (okI_small (by omega))).mono ?_); rintro e w2 ⟨rfl, hr2, hx2⟩)
  have HX2 := Lib.hid hx2; have HR2 := Lib.hid hr2
  obtain ⟨p1, hp⟩ : ∃ p, p = w1.heap.size := ⟨_, rfl⟩
  rw [← hp]
  have HP := Lib.hid hp
  clear hp hx2 hr2
  go_upto_region 8 with (go_at_call 13; rw [← hle, ← hev]; (with_reducible refine (rnew_any le ev _ (okI_small (by omega)) (okI_small (by omega))).mono ?_); rintro e w3 ⟨rfl, hr3, hx3⟩)
  have hC := C2.made HR2.out rfl hr3 hx3
  replace hC : C2 w1.heap.size w3 p1 w2.heap.size ⟨le, ev, [], 0, false, false⟩ ⟨le, ev, [], 0, false, false⟩ := by rw [HP.out]; exact hC
  obtain ⟨p2, hp2⟩ : ∃ p, p = w2.heap.size := ⟨_, rfl⟩
  rw [← hp2] at hC ⊢
  have HPLAY := Lib.hid (play_any _ ls w1 w3 (HL.out.ext HX1.out) p1 p2 _ hC (HX2.out.trans hx3))
  clear hp2 hr3 hx3 HR2 HX2 c0 c1 hC
  go_upto_region 9 with (go_at_call 14; (with_reducible refine HPLAY.out.mono ?_); rintro e w4 ⟨t, r, rfl, t0, t1, hc4, hx4⟩)
  have HC4 := Lib.hid hc4; have HX4 := Lib.hid hx4
  have HLE := Lib.hid (fun ts (h : (tickF r (t + 40)).1 = some ts) => tick_len h hc4.lt.2.2.2.2.2.1)
  have HP2 := Lib.hid (fun n (h : w4.heap.size ≤ n) => Nat.lt_of_lt_of_le hc4.lt.2.2.2.1 h)
  have HA1 := Lib.hid (hc4.tick1 (t + 40) (okI_small (by omega)))
  have HA2 := Lib.hid (fun V (h : C2 w1.heap.size V p1 p2 (tickF r (t + 40)).2 r) => h.tick2 (t + 40) (okI_small (by omega)))
  clear hc4 hx4 HPLAY
  have HA3 := Lib.hid (fun V r (h : C2 w1.heap.size V p1 p2 r r) => h.close1)
  have HA4 := Lib.hid (fun V r (h : C2 w1.heap.size V p1 p2 (closeF r).2 r) => h.close2)
  generalize (tickF r (t + 40)).1 = o1 at *
  generalize (tickF r (t + 40)).2 = r1 at *
  have HLC := Lib.hid (fun ts (V : World) (h : (closeF r1).1 = some ts) (hc : C2 w1.heap.size V p1 p2 r1 r1) => close_len h hc.lt.2.2.2.2.2.1)
  go_wp2_with (first
    | (go_at_call 16; (with_reducible refine HA1.out.mono ?_); rintro e wa ⟨ua, rfl, hba, hca, hla, hka⟩)
    | (go_at_call 17; (with_reducible refine (HA2.out _ hca).mono ?_); rintro e wb ⟨ub, rfl, hbb, hcb, hlb, hkb⟩; have HSM := Lib.hid (same_true ua ub o1 wb (hba.kc hkb (HP2.out _ (Nat.le_refl _))) hbb HLE.out))
    | (go_at_call 15; (with_reducible refine HSM.out.mono ?_); rintro e wc ⟨rfl, hxc⟩; have HCC := Lib.hid (hcb.ext hxc))
    | (go_at_call 18; (with_reducible refine (HA3.out _ _ HCC.out).mono ?_); rintro e wd ⟨ud, rfl, hbd, hcd, hld, hkd⟩)
    | (go_at_call 19; (with_reducible refine (HA4.out _ _ hcd).mono ?_); rintro e we ⟨ue, rfl, hbe, hce, hle2, hke⟩; have HSN := Lib.hid (same_true ud ue _ we (hbd.kc hke HCC.out.lt.2.2.2.1) hbe (fun ts h => HLC.out ts _ h HCC.out)))
    | (go_at_call 15; (with_reducible refine HSN.out.mono ?_); rintro e wf ⟨rfl, hxf⟩))
  go_ret
  exact ⟨rfl, HX1.out.trans (Ext.trans (Below.trans (Below.trans (Ext.trans (Below.trans (Below.trans HX4.out hla) hlb) hxc) hld) hle2) hxf)⟩
end Go.Proofs.Ytbeoihjfjkbfhaa
