/-
  InterestAssigns walked. Conditions: the arguments are opened.
-/
import Derived.Test.YtlekdhhgjhakgaaLwC
import Derived.Test.YtlekdhhgjhakgaaAsP
import Derived.Test.YtlekdhhgjhakgaaMkC
import Derived.Test.YtlekdhhgjhakgaaJnE
namespace Go.Proofs.Ytlekdhhgjhakgaa
set_option linter.unusedVariables false
set_option linter.unusedSimpArgs false
open Go.RowKit
set_option maxRecDepth 100000 in
set_option maxHeartbeats 8000000 in
theorem assigns_walk (A0 A1 : Option Addr) (n0 n1 : Nat) (xs ys : List Int) (x : Int) (W : World) (h0 : IRd W (.slice A0 xs.length n0) xs) (h1 : IRd W (.slice A1 ys.length n1) ys) (hx : 0 ≤ x ∧ x ≤ 255) :
    Calls Try.prog 8 #[.slice A0 xs.length n0, .slice A1 ys.length n1, .int .u8 x] W fun e W' => e = .returned (.bool true) ∧ Ext W W' := by
  obtain ⟨n, hn⟩ : ∃ n : Nat, x % 5 = (n : Int) := ⟨(x % 5).toNat, by omega⟩
  have hn5 : n < 5 := by omega
  have m1 : x.tmod 5 = (n : Int) := by rw [Int.tmod_eq_emod_of_nonneg hx.1]; exact hn
  have m2 : IntKind.i64.wrap ((n : Int) - 1) = (n : Int) - 1 := by rw [IntKind.wrap_i64]; omega
  clear hn
  have H0 := Lib.hid h0; have H1 := Lib.hid h1
  clear h0 h1
  go_enter Try.func8, Try.ntmps8
  go_upto_region 2 with (go_at_call 11; (with_reducible refine (sanity_any _).mono ?_); rintro e w1 ⟨rfl, hx1⟩)
  have HX1 := Lib.hid hx1
  have HM1 := Lib.hid (Made_any _ xs w1 (H0.out.ext hx1))
  clear hx1
  go_upto_region 3 with (go_at_call 12; (with_reducible refine HM1.out.mono ?_); rintro e w2 ⟨c0, c1, c2, c3, c4, c5, s, rfl, hos, hx2, hms⟩; obtain ⟨a0, p0, z1, a2, p2, a3, p3, z4, z5, rfl, rfl, rfl, rfl, rfl, rfl⟩ := hos.form)
  have HX2 : Hid (Ext W w2) := Lib.hid (HX1.out.trans hx2)
  have HS := Lib.hid (hos.box hx2)
  clear hos hms hx2 HM1
  obtain ⟨D, hD⟩ : ∃ D, D = w2.heap.size := ⟨_, rfl⟩
  obtain ⟨va, hva⟩ : ∃ va, va = Value.slice a0 s.ps.length p0 := ⟨_, rfl⟩
  obtain ⟨vb, hvb⟩ : ∃ vb, vb = Value.slice a2 s.hs.length p2 := ⟨_, rfl⟩
  obtain ⟨vc, hvc⟩ : ∃ vc, vc = Value.slice a3 s.rs.length p3 := ⟨_, rfl⟩
  rw [← hD, ← hva, ← hvb, ← hvc] at HS ⊢
  clear hD hva hvb hvc
  generalize w2.alloc (.cells #[va, .int .i64 z1, vb, vc, .int .i64 z4, .int .i64 z5] 28) = w3 at *
  have HX3 : Hid (Ext W w3) := Lib.hid (HX1.out.trans HS.out.low)
  have HBD := Lib.hid (Bidders_any _ ys w3 (H1.out.ext HX3.out))
  go_upto_region 4 with (go_at_call 18; (with_reducible refine HBD.out.mono ?_); rintro e w4 ⟨bv, bs, rfl, hrb, hx4, hbl⟩; obtain ⟨bA, bc, rfl, hbc, -, -⟩ := row_formI hrb)
  have hbl5 := hbl.len
  have HBO := Lib.hid hbl.ok
  have HIB := Lib.hid (ird_row hrb hbl.ok (by omega))
  have HS4 := Lib.hid (HS.out.ext hx4)
  have HX4 : Hid (Ext W w4) := Lib.hid (HX3.out.trans hx4)
  clear hrb hx4 hbl HBD HS HX3 HX2 HX1
  have HSS : Hid (∀ wz, Ext w4 wz → wz.cell? ⟨D, 0, none⟩ = some va ∧ wz.cell? ⟨D, 1, none⟩ = some (.int .i64 z1) ∧ wz.cell? ⟨D, 2, none⟩ = some vb ∧ wz.cell? ⟨D, 3, none⟩ = some vc ∧ wz.cell? ⟨D, 4, none⟩ = some (.int .i64 z4) ∧ wz.cell? ⟨D, 5, none⟩ = some (.int .i64 z5)) := Lib.hid fun wz hz => (HS4.out.ext hz).c
  have HSU := Lib.hid HS4.out.os.su
  clear HS4
  go_upto_region 5 with (fail)
  obtain ⟨y, hy⟩ : ∃ y : Int, y = (n : Int) - 1 := ⟨_, rfl⟩
  rw [← hy]
  clear hy m1 m2 hn5
  have HA := Lib.hid (fun wz (hz : Ext w4 wz) => assign_all _ _ _ _ _ _ _ s bs y wz (HSU.out.ext hz) (HIB.out.ext hz) (by omega))
  have HRA := Lib.hid (fun wz (hz : Ext w4 wz) => rassign_all _ _ _ _ _ _ bA bc s bs y wz (HSU.out.ext hz) (HIB.out.ext hz) hbc)
  obtain ⟨s0, s1, s2, s3, s4, s5⟩ := HSS.out w4 (Ext.refl _)
  go_upto_region 6 with (first | (go_at_call 19; (with_reducible refine (HA.out w4 (Ext.refl _)).mono ?_); rintro e w5 ⟨av, rfl, hx5, hra⟩))
  clear s0 s1 s2 s3 s4 s5
  obtain ⟨s0, s1, s2, s3, s4, s5⟩ := HSS.out w5 hx5
  have HX5 := Lib.hid hx5
  have hsa := sr_row hra (by have := (asgL_len (s := s) (bs := bs) (each := y)).1; omega)
  have HSA := Lib.hid hsa
  clear hra hx5
  go_upto_region 7 with (first | (go_at_call 22; (with_reducible refine (HRA.out w5 HX5.out).mono ?_); rintro e w6 ⟨cv, rfl, hx6, hrc⟩))
  have HX6 := Lib.hid (HX5.out.trans hx6)
  have HSC := Lib.hid (sr_row hrc (by have := (asgL_len (s := s) (bs := bs) (each := y)).1; omega))
  have HSA6 := Lib.hid (HSA.out.ext hx6)
  clear hrc hx6 hsa HSA HA HRA s0 s1 s2 s3 s4 s5
  have HDU := Lib.hid (duties_any _ _ _ _ w6 HSA6.out HSC.out)
  rw [decide_eq_true (rfl : asgL s bs y = asgL s bs y)] at HDU
  have HCK := Lib.hid (fun wz (hz : Ext w6 wz) => check_all _ _ _ _ _ _ _ av s bs y (asgL s bs y) wz (HSU.out.ext (HX6.out.trans hz)) (HIB.out.ext (HX6.out.trans hz)) (by omega) (HSA6.out.ext hz) (asgL_ok HSU.out.ok HBO.out) (by have := (asgL_len (s := s) (bs := bs) (each := y)).1; omega))
  rw [asgL_chk] at HCK
  obtain ⟨er, her⟩ : ∃ er, er = openE s bs y := ⟨_, rfl⟩
  rw [← her] at HCK ⊢
  clear her

  go_wp2_with (first
    | (go_at_call 23; (with_reducible refine HDU.out.mono ?_); rintro e w7 ⟨rfl, hx7⟩; obtain ⟨s0, s1, s2, s3, s4, s5⟩ := HSS.out w7 (HX6.out.trans hx7))
    | (go_at_call 24; (with_reducible refine (HCK.out _ hx7).mono ?_); rintro e w8 ⟨rfl, hx8⟩))
  go_ret
  exact ⟨by simp; rw [Bool.eq_iff_iff]; simp, HX4.out.trans (HX6.out.trans (hx7.trans hx8))⟩
end Go.Proofs.Ytlekdhhgjhakgaa
