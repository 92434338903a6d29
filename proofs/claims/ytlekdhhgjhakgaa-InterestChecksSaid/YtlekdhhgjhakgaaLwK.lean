/-
  InterestChecks walked. Conditions: the arguments are opened.
-/
import Derived.Test.YtlekdhhgjhakgaaKeA
import Derived.Test.YtlekdhhgjhakgaaLwA
import Derived.Test.YtlekdhhgjhakgaaLwM
import Derived.Test.YtlekdhhgjhakgaaJnE
namespace Go.Proofs.Ytlekdhhgjhakgaa
set_option linter.unusedVariables false
set_option linter.unusedSimpArgs false
open Go.RowKit
theorem Mod_nat (n m : Int) (hm : 0 < m) (hm2 : m ≤ 1000000) (hn : OkI n) : ∃ k : Nat, (k : Int) < m ∧ ∀ w, Calls Try.prog 17 #[.int .i64 n, .int .i64 m] w fun e w' => e = .returned (.int .i64 (k : Nat)) ∧ w = w' := by
  have h := modZ_bd n hm
  refine ⟨(modZ n m).toNat, by omega, fun w => ?_⟩
  rw [show (((modZ n m).toNat : Nat) : Int) = modZ n m by omega]
  exact Mod_any n m hm hm2 hn w
set_option maxRecDepth 100000 in
set_option maxHeartbeats 8000000 in
theorem checks_walk (A0 A1 A2 : Option Addr) (n0 n1 n2 : Nat) (xs ys : List Int) (qs : List (List Int)) (W : World) (h0 : IRd W (.slice A0 xs.length n0) xs) (h1 : IRd W (.slice A1 ys.length n1) ys) (h2 : RN 3 W (.slice A2 qs.length n2) qs) :
    Calls Try.prog 9 #[.slice A0 xs.length n0, .slice A1 ys.length n1, .slice A2 qs.length n2] W fun e W' => e = .returned (.bool true) ∧ Ext W W' := by
  obtain ⟨m, hm⟩ : ∃ m : Nat, m = ys.length % 3 := ⟨_, rfl⟩
  have m1 : (ys.length : Int).tmod 3 = (m : Int) := by rw [Int.tmod_eq_emod_of_nonneg (by omega)]; omega
  have hm3 : m < 3 := by omega
  have m2 : IntKind.i64.wrap (1 + (m : Int)) = 1 + (m : Int) := by rw [IntKind.wrap_i64]; omega
  have hl1 : ys.length ≤ 9223372036854775807 := by obtain ⟨_, _, e, h, -⟩ := id h1; exact h
  have hl2 : qs.length ≤ 9223372036854775807 := by obtain ⟨_, _, e, h, -⟩ := id h2; exact h
  have H0 := Lib.hid h0; have H1 := Lib.hid h1; have H2 := Lib.hid h2
  clear h0 h1 h2 hm
  go_enter Try.func9, Try.ntmps9
  go_upto_region 2 with (go_at_call 11; (with_reducible refine (sanity_any _).mono ?_); rintro e w1 ⟨rfl, hx1⟩)
  have HX1 := Lib.hid hx1
  have HM1 := Lib.hid (Made_any _ xs w1 (H0.out.ext hx1))
  clear hx1
  go_upto_region 3 with (go_at_call 12; (with_reducible refine HM1.out.mono ?_); rintro e w2 ⟨c0, c1, c2, c3, c4, c5, s, rfl, hos, hx2, hms⟩; obtain ⟨a0, p0, z1, a2, p2, a3, p3, z4, z5, rfl, rfl, rfl, rfl, rfl, rfl⟩ := hos.form)
  have HS := Lib.hid (hos.box hx2)
  clear hos hms hx2 HM1
  obtain ⟨D, hD⟩ : ∃ D, D = w2.heap.size := ⟨_, rfl⟩
  obtain ⟨va, hva⟩ : ∃ va, va = Value.slice a0 s.ps.length p0 := ⟨_, rfl⟩
  obtain ⟨vb, hvb⟩ : ∃ vb, vb = Value.slice a2 s.hs.length p2 := ⟨_, rfl⟩
  obtain ⟨vc, hvc⟩ : ∃ vc, vc = Value.slice a3 s.rs.length p3 := ⟨_, rfl⟩
  rw [← hD, ← hva, ← hvb, ← hvc] at HS ⊢
  clear hD hva hvb hvc
  generalize w2.alloc (.cells #[va, .int .i64 z1, vb, vc, .int .i64 z4, .int .i64 z5] 28) = w3 at *
  have HX3 : Hid (Ext W w3) := Lib.hid (HX1.out.trans HS.out.low)
  have HBD := Lib.hid (Bidders_any _ ys w3 (H1.out.ext HX3.out))
  go_upto_region 4 with (fail)
  obtain ⟨y, hy⟩ : ∃ y : Int, y = 1 + (m : Int) := ⟨_, rfl⟩
  rw [← hy]
  have m3 : IntKind.i64.wrap (y + 1) = y + 1 := by rw [IntKind.wrap_i64]; omega
  clear hy m1 m2 hm3
  go_upto_region 5 with (go_at_call 18; (with_reducible refine HBD.out.mono ?_); rintro e w4 ⟨bv, bs, rfl, hrb, hx4, hbl⟩; obtain ⟨bA, bc, rfl, hbc, -, -⟩ := row_formI hrb)
  have hbl5 := hbl.len
  have HBO := Lib.hid hbl.ok
  have HIB := Lib.hid (ird_row hrb hbl.ok (by omega))
  have HS4 := Lib.hid (HS.out.ext hx4)
  have HX4 : Hid (Ext W w4) := Lib.hid (HX3.out.trans hx4)
  clear hrb hx4 hbl HBD HS HX3 HX1
  have HSS : Hid (∀ wz, Ext w4 wz → wz.cell? ⟨D, 0, none⟩ = some va ∧ wz.cell? ⟨D, 1, none⟩ = some (.int .i64 z1) ∧ wz.cell? ⟨D, 2, none⟩ = some vb ∧ wz.cell? ⟨D, 3, none⟩ = some vc ∧ wz.cell? ⟨D, 4, none⟩ = some (.int .i64 z4) ∧ wz.cell? ⟨D, 5, none⟩ = some (.int .i64 z5)) := Lib.hid fun wz hz => (HS4.out.ext hz).c
  have HSU := Lib.hid HS4.out.os.su
  clear HS4
  have HRA := Lib.hid (rassign_all _ _ _ _ _ _ bA bc s bs y w4 HSU.out HIB.out hbc)
  obtain ⟨s0, s1, s2, s3, s4, s5⟩ := HSS.out w4 (Ext.refl _)
  go_upto_region 6 with (first | (go_at_call 22; (with_reducible refine HRA.out.mono ?_); rintro e w5 ⟨av, rfl, hx5, hra⟩))
  obtain ⟨al, hal⟩ : ∃ al, al = asgL s bs y := ⟨_, rfl⟩
  rw [← hal] at hra
  have hal5 : al.length ≤ 520 := by rw [hal]; exact (asgL_len (s := s) (bs := bs) (each := y)).1
  have HALO : Hid (∀ d ∈ al, OkD d) := Lib.hid (by rw [hal]; exact asgL_ok HSU.out.ok HBO.out)
  have HX5 := Lib.hid hx5; have HRO := Lib.hid hra; have HAL := Lib.hid hal
  have HSA := Lib.hid (sr_row hra (by omega))
  obtain ⟨aA, ac, rfl⟩ := row_formG hra
  clear hra hx5 HRA hal s0 s1 s2 s3 s4 s5
  obtain ⟨er, her⟩ : ∃ er, er = openE s bs y := ⟨_, rfl⟩
  rw [← her]
  have HER := Lib.hid her
  clear her
  have m4 : IntKind.i64.wrap ((al.length : Int) - 1) = (al.length : Int) - 1 := by rw [IntKind.wrap_i64]; omega
  go_upto_region 8 with (fail)
  clear m4
  go_loopw [13, 14] (fun tv iv wr => ∃ (i : Nat) (ls : List (Int × Int)), iv = .int .i64 ((i : Int) - 1) ∧ i ≤ al.length ∧ Hid (ls = (al.drop i).reverse) ∧ ls.length ≤ 520 ∧ Hid (Ext w5 wr) ∧ Hid (wr.ownsRow w5.heap.size 56 2 tv ls.length (ls.flatMap reC))) (fun _ iv _ => (iof iv + 1).toNat)
  case atStart => exact ⟨al.length, [], rfl, Nat.le_refl _, Lib.hid (by simp), by simp, Lib.hid (Ext.refl _), Lib.hid ⟨rfl, .inl ⟨rfl, rfl⟩⟩⟩
  case round =>
    obtain ⟨i0, ls, rfl, hi, HLS, hl5, HX, HT⟩ := hrel
    obtain ⟨cA, cc, rfl⟩ := row_formG HT.out
    cases i0 with
    | succ i =>
      have hil : i < al.length := by omega
      rw [show ((i + 1 : Nat) : Int) - 1 = (i : Int) by omega]
      obtain ⟨ab, rfl, hab, r0, r1⟩ := re_at (HSA.out.ext HX.out) i hil
      have HNX : Hid (ls ++ [al[i]] = (al.drop i).reverse) := Lib.hid (by rw [HLS.out, List.drop_eq_getElem_cons hil, List.reverse_cons])
      have HLN : Hid (ls.length + 1 ≤ 520) := Lib.hid (by have h := congrArg List.length HNX.out; simp at h; omega)
      generalize al[i] = r at *
      obtain ⟨ra, rv⟩ := r
      simp only at r0 r1
      have hxa : Ext wr (wr.alloc (.cells #[.int .i64 ra, .int .i64 rv] 56)) := Ext.alloc (Ext.refl _) _
      have HR1 := Lib.hid (row_ext HT.out hxa)
      have HX1 := Lib.hid (HX.out.trans hxa)
      have hsz : w5.heap.size ≤ (wr.alloc (.cells #[.int .i64 ra, .int .i64 rv] 56)).heap.size := HX1.out.size
      have hlen : ls.length < 1000000 := by omega
      have m9 : IntKind.i64.wrap ((i : Int) - 1) = (i : Int) - 1 := by rw [IntKind.wrap_i64]; omega
      clear hxa
      go_wp2_with (at_builtin; (refine append_g (cs := reC) (z := .agg #[.int .i64 0, .int .i64 0]) 42 56 16 Try.underlying42 (by kernel_rfl) (by rfl) (by decide) (by decide) rfl (.tmp 42) (.tmp 47) rfl w5.heap.size (.slice cA ls.length cc) ls (by rfl) HR1.out wr.heap.size (ra, rv) ⟨rfl, by simp [reC, Value.oneCell']⟩ (by rfl) (alloc_at wr _) hlen hsz ?_; intro g9 cap9 w9 hr9 hg9 hat9; have HX9 : Hid (Ext w5 w9) := Lib.hid (row_grown HX1.out HR1.out (Nat.le_refl _) hg9); have HR9 := Lib.hid hr9; clear hr9 hg9 hat9))
      exact ⟨⟨i, _, rfl, by omega, HNX, by simp; have := HLN.out; omega, HX9, HR9⟩, by simp [iof]⟩
    | zero =>
      rw [show ((0 : Nat) : Int) - 1 = -1 from rfl]
      have HCK := Lib.hid (fun wz (hz : Ext wr wz) => check_all _ _ _ _ _ _ _ (.slice cA ls.length cc) s bs y ls wz (HSU.out.ext (HX5.out.trans (HX.out.trans hz))) (HIB.out.ext (HX5.out.trans (HX.out.trans hz))) (by omega) ((sr_row HT.out (by omega)).ext hz) (fun d hd => HALO.out d (by rw [HLS.out, List.drop_zero] at hd; exact List.mem_reverse.1 hd)) (by omega))
      have hck : chkF s bs y (ldF s bs y) ls = decide (er = 0) := by rw [HER.out]; exact chk_turned s bs y ls (by rw [HLS.out, List.drop_zero, HAL.out])
      rw [hck] at HCK
      clear hck
      have hne : (!decide (er = 0) == (er == 0)) = false := by by_cases e : er = 0 <;> simp [e]
      generalize decide (er = 0) = ck at *
      have HXR : Hid (Ext w4 wr) := Lib.hid (HX5.out.trans HX.out)
      obtain ⟨s0, s1, s2, s3, s4, s5⟩ := HSS.out wr HXR.out
      go_upto_region 14 with (first | (go_at_call 24; (with_reducible refine (HCK.out _ (Ext.refl _)).mono ?_); rintro e w6 ⟨rfl, hx6⟩))
      have HX6 := Lib.hid (HXR.out.trans hx6)
      have HRO6 := Lib.hid (row_ext HRO.out (HX.out.trans hx6))
      clear hx6 hne HCK HER HAL HLS HT HSA HX HXR HRO s0 s1 s2 s3 s4 s5 hi
      go_loopw [11, 15] (fun v iv wr => ∃ (i : Nat) (l : List (Int × Int)), iv = .int .i64 i ∧ i ≤ 3 ∧ l.length ≤ 520 + i ∧ Hid (∀ d ∈ l, OkD d) ∧ Hid (Ext w4 wr) ∧ Hid (wr.ownsRow w4.heap.size 56 2 v l.length (l.flatMap reC))) (fun _ iv _ => 3 - (iof iv).toNat)
      case atStart => exact ⟨0, al, rfl, by omega, by omega, HALO, HX6, HRO6⟩
      case round =>
        clear HX6 HRO6 HALO HX5 hl5
        obtain ⟨i, l, rfl, hi, hln, HOK, HX, HR⟩ := hrel
        obtain ⟨oA, oc, rfl⟩ := row_formG HR.out
        by_cases hiq : i < qs.length
        · by_cases hi3 : i < 3
          · obtain ⟨qb, qo, rfl, hqc, hqk⟩ := H2.out.at i hiq
            have HQC : Hid (∀ wz, Ext w4 wz → wz.cell? ⟨qb, qo + i * 3, none⟩ = some (.int .i64 (qs[i].getD 0 0)) ∧ wz.cell? ⟨qb, qo + i * 3 + 1, none⟩ = some (.int .i64 (qs[i].getD 1 0)) ∧ wz.cell? ⟨qb, qo + i * 3 + 2, none⟩ = some (.int .i64 (qs[i].getD 2 0))) := Lib.hid fun wz hz => by
              have h := fun j hj => ((HX4.out.trans hz).cells.1 _ _ (World.block_lt_of_cell? _ _ (hqc j hj))).trans (hqc j hj)
              exact ⟨h 0 (by decide), h 1 (by decide), h 2 (by decide)⟩
            have hk0 := hqk 0; have hk1 := hqk 1; have hk2 := hqk 2
            generalize qs[i].getD 0 0 = q0 at *
            generalize qs[i].getD 1 0 = q1 at *
            generalize qs[i].getD 2 0 = q2 at *
            clear hqc hqk
            have HB4 : Hid (w4.heap.size ≤ w4.heap.size) := Lib.hid (Nat.le_refl _)
            by_cases hl0 : l.length = 0
            · have hlz : ((l.length : Int) == 0) = true := by simp [hl0]
              have HL0 := Lib.hid hl0
              clear hl0
              have hxa : Ext wr (wr.alloc (.cells #[.int .i64 1, .int .i64 11] 56)) := Ext.alloc (Ext.refl _) _
              have HR1 := Lib.hid (row_ext HR.out hxa)
              have HX1 := Lib.hid (HX.out.trans hxa)
              have hsz : w4.heap.size ≤ (wr.alloc (.cells #[.int .i64 1, .int .i64 11] 56)).heap.size := HX1.out.size
              have hlen : l.length < 1000000 := by omega
              clear hxa
              go_upto_region 18 with (at_builtin; (refine append_g (cs := reC) (z := .agg #[.int .i64 0, .int .i64 0]) 42 56 16 Try.underlying42 (by kernel_rfl) (by rfl) (by decide) (by decide) rfl (.tmp 70) (.tmp 72) rfl w4.heap.size (.slice oA l.length oc) l (by rfl) HR1.out wr.heap.size (1, 11) ⟨rfl, by simp [reC, Value.oneCell']⟩ (by rfl) (alloc_at wr _) hlen hsz ?_; intro g9 cap9 w9 hr9 hg9 hat9; have HX9 : Hid (Ext w4 w9) := Lib.hid (row_grown HX1.out HR1.out (Nat.le_refl _) hg9); have HR9 := Lib.hid hr9; clear hr9 hg9 hat9))
              obtain ⟨cl, hcl⟩ : ∃ cl, cl = l ++ [((1 : Int), (11 : Int))] := ⟨_, rfl⟩
              have hcn : l.length + 1 = cl.length := by rw [hcl]; simp
              have HOKC : Hid (∀ z ∈ cl, OkD z) := Lib.hid (by
                rw [hcl]
                exact fun e he => (List.mem_append.1 he).elim (HOK.out e) (fun h => by rw [List.mem_singleton] at h; subst h; exact ⟨okI_small (by decide), okI_small (by decide)⟩))
              rw [← hcl] at HR9
              rw [hcn] at HR9 ⊢
              have hc1 : cl.length = 1 := by have := HL0.out; omega
              have hc0 : 0 < cl.length := by omega
              have HCN : Hid (cl.length ≤ 520 + i) := Lib.hid (by omega)
              clear hcl hcn hlz HL0 HR1 HX1 hsz hlen HR HX HOK hln
              have hln := HCN.out
              clear hc1
              generalize (some ⟨g9, 0, none⟩ : Option Addr) = oA at *
              have HR := HR9; have HX := HX9; have HOK := HOKC
              clear HR9 HX9 HOKC
              generalize cap9 = oc at *
              have hcp : (0 : Int) < (cl.length : Int) := by omega
              obtain ⟨g, rfl, hBg, hlc, hgl, hfr, hcell⟩ := own_at HR.out (by omega) hc0
              obtain ⟨k, hkl, hmk⟩ := Mod_nat q1 cl.length hcp (by omega) hk1
              obtain ⟨c, hc5, hmc⟩ := Mod_nat q0 5 (by decide) (by decide) hk0
              have HMK := Lib.hid hmk; have HMC := Lib.hid hmc
              clear hmk hmc
              have hkl2 : k < cl.length := by omega
              obtain ⟨t0, t1, t2⟩ := HQC.out w9 HX.out
              have HCL := Lib.hid hcell; have HFR := Lib.hid hfr
              obtain ⟨u0, u1⟩ := hcell k hkl2
              have f0 := hfr (k * 2); have f1 := hfr (k * 2 + 1)
              have HOD := Lib.hid (HOK.out cl[k] (List.getElem_mem _))
              have HSA := Lib.hid (fun x => flat_setA cl k x hkl2); have HSB := Lib.hid (fun x => flat_setB cl k x hkl2)
              clear hcell hfr
              go_upto_region 19 with (first | (go_at_call 17; (with_reducible refine (HMK.out _).mono ?_); rintro e' wq ⟨rfl, rfl⟩))
              go_upto_region 20 with (first | (go_at_call 17; (with_reducible refine (HMC.out _).mono ?_); rintro e' wq ⟨rfl, rfl⟩))
              clear HMK HMC
              have hcc : c = 0 ∨ c = 1 ∨ c = 2 ∨ c = 3 ∨ c = 4 := by omega
              generalize cl[k] = d at *
              obtain ⟨d1, d2⟩ := d
              simp only at u0 u1 HSA HSB
              rcases hcc with rfl | rfl | rfl | rfl | rfl
              · obtain ⟨x, hx7, hm3⟩ := Mod_nat q2 7 (by decide) (by decide) hk2
                have mx : IntKind.i64.wrap (1 + (x : Int)) = 1 + (x : Int) := by rw [IntKind.wrap_i64]; omega
                have HM3 := Lib.hid hm3
                clear hm3
                go_wp2_with (first | (go_at_call 17; (with_reducible refine (HM3.out _).mono ?_); rintro e' wq ⟨rfl, rfl⟩))
                have h9 := own_put HR.out hc0 (k * 2) (.int .i64 (1 + (x : Int))) (by omega) (l' := cl.set k (1 + (x : Int), d2)) (by rw [List.length_set]) (HSA.out _)
                exact ⟨⟨i + 1, cl.set k (1 + (x : Int), d2), by simp, by omega, by rw [List.length_set]; omega, Lib.hid (okD_set HOK.out ⟨okI_small (by simp only; omega), HOD.out.2⟩), Lib.hid (HX.out.setCell hBg _), Lib.hid (by simpa only [List.length_set] using h9)⟩, by simp [iof]; omega⟩
              · obtain ⟨x, hx7, hm3⟩ := Mod_nat q2 6 (by decide) (by decide) hk2
                have mx : IntKind.i64.wrap (11 + (x : Int)) = 11 + (x : Int) := by rw [IntKind.wrap_i64]; omega
                have HM3 := Lib.hid hm3
                clear hm3
                go_wp2_with (first | (go_at_call 17; (with_reducible refine (HM3.out _).mono ?_); rintro e' wq ⟨rfl, rfl⟩))
                have h9 := own_put HR.out hc0 (k * 2 + 1) (.int .i64 (11 + (x : Int))) (by omega) (l' := cl.set k (d1, 11 + (x : Int))) (by rw [List.length_set]) (HSB.out _)
                exact ⟨⟨i + 1, cl.set k (d1, 11 + (x : Int)), by simp, by omega, by rw [List.length_set]; omega, Lib.hid (okD_set HOK.out ⟨HOD.out.1, okI_small (by simp only; omega)⟩), Lib.hid (HX.out.setCell hBg _), Lib.hid (by simpa only [List.length_set] using h9)⟩, by simp [iof]; omega⟩
              · have mk : IntKind.i64.wrap ((k : Int) + 1) = (k : Int) + 1 := by rw [IntKind.wrap_i64]; omega
                have b1 : (k : Int) ≤ (oc : Int) := by omega
                have b2 : (0 : Int) ≤ (k : Int) := by omega
                have b3 : (k : Int) + 1 ≤ (cl.length : Int) := by omega
                have b4 : (cl.length : Int) ≤ (oc : Int) := by omega
                have b5 : k + 1 ≤ cl.length := by omega
                have b6 : (0 : Int) ≤ (k : Int) + 1 := by omega
                have b7 : (k : Int) ≤ (k : Int) + 1 := by omega
                go_upto_region 25 with (fail)
                by_cases hoc : oc = k + 1
                · have hdr : cl.drop (k + 1) = [] := List.drop_eq_nil_of_le (by omega)
                  subst hoc
                  refine Rp.wp_regionTE [] [(0, .y), (1, .y), (2, .y), (3, .y), (4, .y), (5, .y), (6, .y)] [7, 8] (fun _ => (.cells #[] 3, fun p => .slice (some ⟨p, 0, none⟩) 1 1)) (fun c a d v w h => by have h' : _ ∧ _ := h; exact ⟨(Rr.put_defers a d v).symm.trans h'.1, h'.2⟩) (by kernel_rfl) (by kernel_rfl) ?_
                  (refine Rr.wr_y (by simp only [List.getElem?_toArray, List.getElem?_cons_succ, List.getElem?_cons_zero]; rfl) (by rfl) ?_
                   apply Exists.intro
                   refine ⟨fun wz hw hh => ?_, ?_⟩
                   · go_simp
                     (with_reducible exact Rg.up_value)
                   simp only [Act.put, List.setIfInBounds_toArray, List.set_cons_zero, List.set_cons_succ])
                  (refine Rr.wr_y (by simp only [List.getElem?_toArray, List.getElem?_cons_succ, List.getElem?_cons_zero]; rfl) (by rfl) ?_
                   apply Exists.intro
                   refine ⟨fun wz hw hh => ?_, ?_⟩
                   · go_simp
                     (with_reducible exact Rg.up_value)
                   simp only [Act.put, List.setIfInBounds_toArray, List.set_cons_zero, List.set_cons_succ])
                  (refine Rr.wr_y (by simp only [List.getElem?_toArray, List.getElem?_cons_succ, List.getElem?_cons_zero]; rfl) (by rfl) ?_
                   apply Exists.intro
                   refine ⟨fun wz hw hh => ?_, ?_⟩
                   · go_simp
                     (with_reducible exact Rg.up_value)
                   simp only [Act.put, List.setIfInBounds_toArray, List.set_cons_zero, List.set_cons_succ])
                  (refine Rr.wr_y (by simp only [List.getElem?_toArray, List.getElem?_cons_succ, List.getElem?_cons_zero]; rfl) (by rfl) ?_
                   apply Exists.intro
                   refine ⟨fun wz hw hh => ?_, ?_⟩
                   · go_simp
                     (with_reducible exact Rg.up_value)
                   simp only [Act.put, List.setIfInBounds_toArray, List.set_cons_zero, List.set_cons_succ])
                  (refine Rr.wr_y (by simp only [List.getElem?_toArray, List.getElem?_cons_succ, List.getElem?_cons_zero]; rfl) (by rfl) ?_
                   apply Exists.intro
                   refine ⟨fun wz hw hh => ?_, ?_⟩
                   · go_simp
                     (with_reducible exact Rg.up_value)
                   simp only [Act.put, List.setIfInBounds_toArray, List.set_cons_zero, List.set_cons_succ])
                  (refine Rr.wr_y (by simp only [List.getElem?_toArray, List.getElem?_cons_succ, List.getElem?_cons_zero]; rfl) (by rfl) ?_
                   apply Exists.intro
                   refine ⟨fun wz hw hh => ?_, ?_⟩
                   · go_simp
                     (with_reducible exact Rg.up_value)
                   simp only [Act.put, List.setIfInBounds_toArray, List.set_cons_zero, List.set_cons_succ])
                  (refine Rr.wr_y (by simp only [List.getElem?_toArray, List.getElem?_cons_succ, List.getElem?_cons_zero]; rfl) (by rfl) ?_
                   apply Exists.intro
                   refine ⟨fun wz hw hh => ?_, ?_⟩
                   · go_simp
                     (with_reducible exact Rg.up_value)
                   simp only [Act.put, List.setIfInBounds_toArray, List.set_cons_zero, List.set_cons_succ])
                  refine Rr.wr_nil ?_
                  intro wy hy hh
                  clear hh
                  simp only [List.filterMap_cons, List.filterMap_nil, List.getElem?_cons_succ, List.getElem?_cons_zero]
                  have hro := row_ext HR.out hy
                  have htk := own_take hro hc0 k (by omega)
                  have hsrc : cl.drop (k + 1) = [] ∨ ∃ b off, ((some ⟨g, 0, none⟩) : Option Addr) = some ⟨b, off, none⟩ ∧ ∀ j u, ((cl.drop (k + 1)).flatMap reC)[j]? = some u → wy.cell? ⟨b, off + j, none⟩ = some u := (.inl hdr)
                  have hll : (cl.take k).length + (cl.drop (k + 1)).length ≤ 1000000 := by rw [List.length_take, List.length_drop]; omega
                  have hsz : w4.heap.size ≤ wy.heap.size := (HX.out.trans hy).size
                  have HXY := Lib.hid (HX.out.trans hy)
                  clear hy hro
                  refine append_rows (cs := reC) (z := .agg #[.int .i64 0, .int .i64 0]) 42 56 16 Try.underlying42 (by kernel_rfl) (by rfl) (by decide) (by decide) rfl (.tmp 118) (.tmp 122) rfl w4.heap.size (.slice (some ⟨g, 0, none⟩) (cl.take k).length (k + 1)) (cl.take k) (by rw [List.length_take, Nat.min_eq_left (by omega)]; rfl) htk (fun _ => ⟨rfl, by simp [reC, Value.oneCell']⟩) (some ⟨g, 0, none⟩) 0 (cl.drop (k + 1)) (by rw [hdr]; rfl) hsrc hll hsz ?_
                  intro v7 w7 hr7 hg7
                  have HX7 : Hid (Ext w4 w7) := Lib.hid (row_grown HXY.out htk (Nat.le_refl _) hg7)
                  have HR7 := Lib.hid hr7
                  clear hr7 hg7 htk hsrc hll hsz
                  simp only [Act.put, List.setIfInBounds_toArray, List.set_cons_zero, List.set_cons_succ]
                  go_wp2_with (fail)
                  exact ⟨⟨i + 1, _, by simp, by omega, by rw [List.length_append, List.length_take, List.length_drop]; omega, Lib.hid (fun d hd => (List.mem_append.1 hd).elim (fun h => HOK.out d (List.mem_of_mem_take h)) (fun h => HOK.out d (List.mem_of_mem_drop h))), HX7, HR7⟩, by simp [iof]; omega⟩
                · have HDP := Lib.hid (fun wz (hz : Ext w9 wz) => own_drop (row_ext HR.out hz) (by omega) (k + 1))
                  refine Rp.wp_regionTE [] [(0, .y), (1, .y), (2, .y), (3, .y), (4, .y), (5, .y), (6, .y)] [7, 8] (fun _ => (.cells #[] 3, fun p => .slice (some ⟨p, 0, none⟩) 1 1)) (fun c a d v w h => by have h' : _ ∧ _ := h; exact ⟨(Rr.put_defers a d v).symm.trans h'.1, h'.2⟩) (by kernel_rfl) (by kernel_rfl) ?_
                  (refine Rr.wr_y (by simp only [List.getElem?_toArray, List.getElem?_cons_succ, List.getElem?_cons_zero]; rfl) (by rfl) ?_
                   apply Exists.intro
                   refine ⟨fun wz hw hh => ?_, ?_⟩
                   · go_simp
                     (with_reducible exact Rg.up_value)
                   simp only [Act.put, List.setIfInBounds_toArray, List.set_cons_zero, List.set_cons_succ])
                  (refine Rr.wr_y (by simp only [List.getElem?_toArray, List.getElem?_cons_succ, List.getElem?_cons_zero]; rfl) (by rfl) ?_
                   apply Exists.intro
                   refine ⟨fun wz hw hh => ?_, ?_⟩
                   · go_simp
                     (with_reducible exact Rg.up_value)
                   simp only [Act.put, List.setIfInBounds_toArray, List.set_cons_zero, List.set_cons_succ])
                  (refine Rr.wr_y (by simp only [List.getElem?_toArray, List.getElem?_cons_succ, List.getElem?_cons_zero]; rfl) (by rfl) ?_
                   apply Exists.intro
                   refine ⟨fun wz hw hh => ?_, ?_⟩
                   · go_simp
                     (with_reducible exact Rg.up_value)
                   simp only [Act.put, List.setIfInBounds_toArray, List.set_cons_zero, List.set_cons_succ])
                  (refine Rr.wr_y (by simp only [List.getElem?_toArray, List.getElem?_cons_succ, List.getElem?_cons_zero]; rfl) (by rfl) ?_
                   apply Exists.intro
                   refine ⟨fun wz hw hh => ?_, ?_⟩
                   · go_simp
                     (with_reducible exact Rg.up_value)
                   simp only [Act.put, List.setIfInBounds_toArray, List.set_cons_zero, List.set_cons_succ])
                  (refine Rr.wr_y (by simp only [List.getElem?_toArray, List.getElem?_cons_succ, List.getElem?_cons_zero]; rfl) (by rfl) ?_
                   apply Exists.intro
                   refine ⟨fun wz hw hh => ?_, ?_⟩
                   · go_simp
                     (with_reducible exact Rg.up_value)
                   simp only [Act.put, List.setIfInBounds_toArray, List.set_cons_zero, List.set_cons_succ])
                  (refine Rr.wr_y (by simp only [List.getElem?_toArray, List.getElem?_cons_succ, List.getElem?_cons_zero]; rfl) (by rfl) ?_
                   apply Exists.intro
                   refine ⟨fun wz hw hh => ?_, ?_⟩
                   · go_simp
                     (with_reducible exact Rg.up_value)
                   simp only [Act.put, List.setIfInBounds_toArray, List.set_cons_zero, List.set_cons_succ])
                  (refine Rr.wr_y (by simp only [List.getElem?_toArray, List.getElem?_cons_succ, List.getElem?_cons_zero]; rfl) (by rfl) ?_
                   apply Exists.intro
                   refine ⟨fun wz hw hh => ?_, ?_⟩
                   · go_simp
                     (with_reducible exact Rg.up_value)
                   simp only [Act.put, List.setIfInBounds_toArray, List.set_cons_zero, List.set_cons_succ])
                  refine Rr.wr_nil ?_
                  intro wy hy hh
                  clear hh
                  simp only [List.filterMap_cons, List.filterMap_nil, List.getElem?_cons_succ, List.getElem?_cons_zero]
                  have hro := row_ext HR.out hy
                  have htk := own_take hro hc0 k (by omega)
                  have hsrc : cl.drop (k + 1) = [] ∨ ∃ b off, ((some ⟨g, (k + 1) * 2, none⟩) : Option Addr) = some ⟨b, off, none⟩ ∧ ∀ j u, ((cl.drop (k + 1)).flatMap reC)[j]? = some u → wy.cell? ⟨b, off + j, none⟩ = some u := (.inr ⟨g, _, rfl, HDP.out _ hy⟩)
                  have hll : (cl.take k).length + (cl.drop (k + 1)).length ≤ 1000000 := by rw [List.length_take, List.length_drop]; omega
                  have hsz : w4.heap.size ≤ wy.heap.size := (HX.out.trans hy).size
                  have HXY := Lib.hid (HX.out.trans hy)
                  clear hy hro
                  refine append_rows (cs := reC) (z := .agg #[.int .i64 0, .int .i64 0]) 42 56 16 Try.underlying42 (by kernel_rfl) (by rfl) (by decide) (by decide) rfl (.tmp 118) (.tmp 122) rfl w4.heap.size (.slice (some ⟨g, 0, none⟩) (cl.take k).length oc) (cl.take k) (by rw [List.length_take, Nat.min_eq_left (by omega)]; rfl) htk (fun _ => ⟨rfl, by simp [reC, Value.oneCell']⟩) (some ⟨g, (k + 1) * 2, none⟩) (oc - (k + 1)) (cl.drop (k + 1)) (by rw [List.length_drop]; rfl) hsrc hll hsz ?_
                  intro v7 w7 hr7 hg7
                  have HX7 : Hid (Ext w4 w7) := Lib.hid (row_grown HXY.out htk (Nat.le_refl _) hg7)
                  have HR7 := Lib.hid hr7
                  clear hr7 hg7 htk hsrc hll hsz
                  simp only [Act.put, List.setIfInBounds_toArray, List.set_cons_zero, List.set_cons_succ]
                  go_wp2_with (fail)
                  exact ⟨⟨i + 1, _, by simp, by omega, by rw [List.length_append, List.length_take, List.length_drop]; omega, Lib.hid (fun d hd => (List.mem_append.1 hd).elim (fun h => HOK.out d (List.mem_of_mem_take h)) (fun h => HOK.out d (List.mem_of_mem_drop h))), HX7, HR7⟩, by simp [iof]; omega⟩
              · have hxa : Ext w9 (w9.alloc (.cells #[.int .i64 d1, .int .i64 d2] 56)) := Ext.alloc (Ext.refl _) _
                have HR1 := Lib.hid (row_ext HR.out hxa)
                have HX1 := Lib.hid (HX.out.trans hxa)
                have hsz : w4.heap.size ≤ (w9.alloc (.cells #[.int .i64 d1, .int .i64 d2] 56)).heap.size := HX1.out.size
                have hlen : cl.length < 1000000 := by omega
                clear hxa
                go_wp2_with (at_builtin; (refine append_g (cs := reC) (z := .agg #[.int .i64 0, .int .i64 0]) 42 56 16 Try.underlying42 (by kernel_rfl) (by rfl) (by decide) (by decide) rfl (.tmp 126) (.tmp 131) rfl w4.heap.size (.slice (some ⟨g, 0, none⟩) cl.length oc) cl (by rfl) HR1.out w9.heap.size (d1, d2) ⟨rfl, by simp [reC, Value.oneCell']⟩ (by rfl) (alloc_at w9 _) hlen hsz ?_; intro g9 cap9 w9 hr9 hg9 hat9; have HX9 : Hid (Ext w4 w9) := Lib.hid (row_grown HX1.out HR1.out (Nat.le_refl _) hg9); have HR9 := Lib.hid hr9; clear hr9 hg9 hat9))
                exact ⟨⟨i + 1, _, by simp, by omega, by rw [List.length_append]; simp; omega, Lib.hid (fun e he => (List.mem_append.1 he).elim (HOK.out e) (fun h => by rw [List.mem_singleton] at h; subst h; exact HOD.out)), HX9, HR9⟩, by simp [iof]; omega⟩
              · obtain ⟨j, hjl, hm5⟩ := Mod_nat q2 cl.length hcp (by omega) hk2
                have HM5 := Lib.hid hm5
                clear hm5
                have hjl2 : j < cl.length := by omega
                have HOJ := Lib.hid (HOK.out cl[j] (List.getElem_mem _))
                obtain ⟨j0, -⟩ := HCL.out j hjl2
                generalize cl[j] = f at *
                obtain ⟨e1, e2⟩ := f
                simp only at j0
                go_upto_region 32 with (first | (go_at_call 17; (with_reducible refine (HM5.out _).mono ?_); rintro e' wq ⟨rfl, rfl⟩))
                have h9 := own_put HR.out hc0 (k * 2) (.int .i64 e1) (by omega) (l' := cl.set k (e1, d2)) (by rw [List.length_set]) (HSA.out _)
                have hcs : (cl.set k (e1, d2)).length = cl.length := List.length_set
                have HX9 := Lib.hid (HX.out.setCell (p := ⟨g, k * 2, none⟩) hBg (.int .i64 e1))
                have HOS : Hid (∀ z ∈ cl.set k (e1, d2), OkD z) := Lib.hid (okD_set HOK.out ⟨HOJ.out.1, HOD.out.2⟩)
                generalize w9.setCell ⟨g, k * 2, none⟩ (.int .i64 e1) = w9 at *
                generalize cl.set k (e1, d2) = cm at *
                rw [← hcs]
                clear t0 t1 t2 u0 u1 f0 f1 j0 hlc hgl HSA HSB HCL HFR
                obtain ⟨g2, hge, -, hlc, hgl, hfr, hcell⟩ := own_at h9 (by omega) (by omega)
                have hgg : g2 = g := by injection hge with hge; injection hge with hge; exact hge.symm
                subst hgg
                have hjm : j < cm.length := by omega
                obtain ⟨j0, j1⟩ := hcell j hjm
                have f0 := hfr (j * 2)
                have HOE := Lib.hid (HOS.out cm[j] (List.getElem_mem _))
                have HSA := Lib.hid (fun x => flat_setA cm j x hjm)
                have HR9 := Lib.hid h9
                clear hcell hfr hge h9
                generalize cm[j] = f at *
                obtain ⟨i1, i2⟩ := f
                simp only at j0 j1 HSA
                go_wp2_with (fail)
                have h9 := own_put HR9.out (by omega) (j * 2) (.int .i64 d1) (by omega) (l' := cm.set j (d1, i2)) (by rw [List.length_set]) (HSA.out _)
                exact ⟨⟨i + 1, cm.set j (d1, i2), by simp, by omega, by rw [List.length_set]; omega, Lib.hid (okD_set HOS.out ⟨HOD.out.1, HOE.out.2⟩), Lib.hid (HX9.out.setCell hBg _), Lib.hid (by simpa only [List.length_set] using h9)⟩, by simp [iof]; omega⟩
            · have hlz : ((l.length : Int) == 0) = false := by simp [hl0]
              have hc0 : 0 < l.length := by omega
              clear hl0
              go_upto_region 18 with (fail)
              clear hlz
              have hcp : (0 : Int) < (l.length : Int) := by omega
              obtain ⟨g, rfl, hBg, hlc, hgl, hfr, hcell⟩ := own_at HR.out (by omega) hc0
              obtain ⟨k, hkl, hmk⟩ := Mod_nat q1 l.length hcp (by omega) hk1
              obtain ⟨c, hc5, hmc⟩ := Mod_nat q0 5 (by decide) (by decide) hk0
              have HMK := Lib.hid hmk; have HMC := Lib.hid hmc
              clear hmk hmc
              have hkl2 : k < l.length := by omega
              obtain ⟨t0, t1, t2⟩ := HQC.out wr HX.out
              have HCL := Lib.hid hcell; have HFR := Lib.hid hfr
              obtain ⟨u0, u1⟩ := hcell k hkl2
              have f0 := hfr (k * 2); have f1 := hfr (k * 2 + 1)
              have HOD := Lib.hid (HOK.out l[k] (List.getElem_mem _))
              have HSA := Lib.hid (fun x => flat_setA l k x hkl2); have HSB := Lib.hid (fun x => flat_setB l k x hkl2)
              clear hcell hfr
              go_upto_region 19 with (first | (go_at_call 17; (with_reducible refine (HMK.out _).mono ?_); rintro e' wq ⟨rfl, rfl⟩))
              go_upto_region 20 with (first | (go_at_call 17; (with_reducible refine (HMC.out _).mono ?_); rintro e' wq ⟨rfl, rfl⟩))
              clear HMK HMC
              have hcc : c = 0 ∨ c = 1 ∨ c = 2 ∨ c = 3 ∨ c = 4 := by omega
              generalize l[k] = d at *
              obtain ⟨d1, d2⟩ := d
              simp only at u0 u1 HSA HSB
              rcases hcc with rfl | rfl | rfl | rfl | rfl
              · obtain ⟨x, hx7, hm3⟩ := Mod_nat q2 7 (by decide) (by decide) hk2
                have mx : IntKind.i64.wrap (1 + (x : Int)) = 1 + (x : Int) := by rw [IntKind.wrap_i64]; omega
                have HM3 := Lib.hid hm3
                clear hm3
                go_wp2_with (first | (go_at_call 17; (with_reducible refine (HM3.out _).mono ?_); rintro e' wq ⟨rfl, rfl⟩))
                have h9 := own_put HR.out hc0 (k * 2) (.int .i64 (1 + (x : Int))) (by omega) (l' := l.set k (1 + (x : Int), d2)) (by rw [List.length_set]) (HSA.out _)
                exact ⟨⟨i + 1, l.set k (1 + (x : Int), d2), by simp, by omega, by rw [List.length_set]; omega, Lib.hid (okD_set HOK.out ⟨okI_small (by simp only; omega), HOD.out.2⟩), Lib.hid (HX.out.setCell hBg _), Lib.hid (by simpa only [List.length_set] using h9)⟩, by simp [iof]; omega⟩
              · obtain ⟨x, hx7, hm3⟩ := Mod_nat q2 6 (by decide) (by decide) hk2
                have mx : IntKind.i64.wrap (11 + (x : Int)) = 11 + (x : Int) := by rw [IntKind.wrap_i64]; omega
                have HM3 := Lib.hid hm3
                clear hm3
                go_wp2_with (first | (go_at_call 17; (with_reducible refine (HM3.out _).mono ?_); rintro e' wq ⟨rfl, rfl⟩))
                have h9 := own_put HR.out hc0 (k * 2 + 1) (.int .i64 (11 + (x : Int))) (by omega) (l' := l.set k (d1, 11 + (x : Int))) (by rw [List.length_set]) (HSB.out _)
                exact ⟨⟨i + 1, l.set k (d1, 11 + (x : Int)), by simp, by omega, by rw [List.length_set]; omega, Lib.hid (okD_set HOK.out ⟨HOD.out.1, okI_small (by simp only; omega)⟩), Lib.hid (HX.out.setCell hBg _), Lib.hid (by simpa only [List.length_set] using h9)⟩, by simp [iof]; omega⟩
              · have mk : IntKind.i64.wrap ((k : Int) + 1) = (k : Int) + 1 := by rw [IntKind.wrap_i64]; omega
                have b1 : (k : Int) ≤ (oc : Int) := by omega
                have b2 : (0 : Int) ≤ (k : Int) := by omega
                have b3 : (k : Int) + 1 ≤ (l.length : Int) := by omega
                have b4 : (l.length : Int) ≤ (oc : Int) := by omega
                have b5 : k + 1 ≤ l.length := by omega
                have b6 : (0 : Int) ≤ (k : Int) + 1 := by omega
                have b7 : (k : Int) ≤ (k : Int) + 1 := by omega
                go_upto_region 25 with (fail)
                by_cases hoc : oc = k + 1
                · have hdr : l.drop (k + 1) = [] := List.drop_eq_nil_of_le (by omega)
                  subst hoc
                  refine Rp.wp_regionTE [] [(0, .y), (1, .y), (2, .y), (3, .y), (4, .y), (5, .y), (6, .y)] [7, 8] (fun _ => (.cells #[] 3, fun p => .slice (some ⟨p, 0, none⟩) 1 1)) (fun c a d v w h => by have h' : _ ∧ _ := h; exact ⟨(Rr.put_defers a d v).symm.trans h'.1, h'.2⟩) (by kernel_rfl) (by kernel_rfl) ?_
                  (refine Rr.wr_y (by simp only [List.getElem?_toArray, List.getElem?_cons_succ, List.getElem?_cons_zero]; rfl) (by rfl) ?_
                   apply Exists.intro
                   refine ⟨fun wz hw hh => ?_, ?_⟩
                   · go_simp
                     (with_reducible exact Rg.up_value)
                   simp only [Act.put, List.setIfInBounds_toArray, List.set_cons_zero, List.set_cons_succ])
                  (refine Rr.wr_y (by simp only [List.getElem?_toArray, List.getElem?_cons_succ, List.getElem?_cons_zero]; rfl) (by rfl) ?_
                   apply Exists.intro
                   refine ⟨fun wz hw hh => ?_, ?_⟩
                   · go_simp
                     (with_reducible exact Rg.up_value)
                   simp only [Act.put, List.setIfInBounds_toArray, List.set_cons_zero, List.set_cons_succ])
                  (refine Rr.wr_y (by simp only [List.getElem?_toArray, List.getElem?_cons_succ, List.getElem?_cons_zero]; rfl) (by rfl) ?_
                   apply Exists.intro
                   refine ⟨fun wz hw hh => ?_, ?_⟩
                   · go_simp
                     (with_reducible exact Rg.up_value)
                   simp only [Act.put, List.setIfInBounds_toArray, List.set_cons_zero, List.set_cons_succ])
                  (refine Rr.wr_y (by simp only [List.getElem?_toArray, List.getElem?_cons_succ, List.getElem?_cons_zero]; rfl) (by rfl) ?_
                   apply Exists.intro
                   refine ⟨fun wz hw hh => ?_, ?_⟩
                   · go_simp
                     (with_reducible exact Rg.up_value)
                   simp only [Act.put, List.setIfInBounds_toArray, List.set_cons_zero, List.set_cons_succ])
                  (refine Rr.wr_y (by simp only [List.getElem?_toArray, List.getElem?_cons_succ, List.getElem?_cons_zero]; rfl) (by rfl) ?_
                   apply Exists.intro
                   refine ⟨fun wz hw hh => ?_, ?_⟩
                   · go_simp
                     (with_reducible exact Rg.up_value)
                   simp only [Act.put, List.setIfInBounds_toArray, List.set_cons_zero, List.set_cons_succ])
                  (refine Rr.wr_y (by simp only [List.getElem?_toArray, List.getElem?_cons_succ, List.getElem?_cons_zero]; rfl) (by rfl) ?_
                   apply Exists.intro
                   refine ⟨fun wz hw hh => ?_, ?_⟩
                   · go_simp
                     (with_reducible exact Rg.up_value)
                   simp only [Act.put, List.setIfInBounds_toArray, List.set_cons_zero, List.set_cons_succ])
                  (refine Rr.wr_y (by simp only [List.getElem?_toArray, List.getElem?_cons_succ, List.getElem?_cons_zero]; rfl) (by rfl) ?_
                   apply Exists.intro
                   refine ⟨fun wz hw hh => ?_, ?_⟩
                   · go_simp
                     (with_reducible exact Rg.up_value)
                   simp only [Act.put, List.setIfInBounds_toArray, List.set_cons_zero, List.set_cons_succ])
                  refine Rr.wr_nil ?_
                  intro wy hy hh
                  clear hh
                  simp only [List.filterMap_cons, List.filterMap_nil, List.getElem?_cons_succ, List.getElem?_cons_zero]
                  have hro := row_ext HR.out hy
                  have htk := own_take hro hc0 k (by omega)
                  have hsrc : l.drop (k + 1) = [] ∨ ∃ b off, ((some ⟨g, 0, none⟩) : Option Addr) = some ⟨b, off, none⟩ ∧ ∀ j u, ((l.drop (k + 1)).flatMap reC)[j]? = some u → wy.cell? ⟨b, off + j, none⟩ = some u := (.inl hdr)
                  have hll : (l.take k).length + (l.drop (k + 1)).length ≤ 1000000 := by rw [List.length_take, List.length_drop]; omega
                  have hsz : w4.heap.size ≤ wy.heap.size := (HX.out.trans hy).size
                  have HXY := Lib.hid (HX.out.trans hy)
                  clear hy hro
                  refine append_rows (cs := reC) (z := .agg #[.int .i64 0, .int .i64 0]) 42 56 16 Try.underlying42 (by kernel_rfl) (by rfl) (by decide) (by decide) rfl (.tmp 118) (.tmp 122) rfl w4.heap.size (.slice (some ⟨g, 0, none⟩) (l.take k).length (k + 1)) (l.take k) (by rw [List.length_take, Nat.min_eq_left (by omega)]; rfl) htk (fun _ => ⟨rfl, by simp [reC, Value.oneCell']⟩) (some ⟨g, 0, none⟩) 0 (l.drop (k + 1)) (by rw [hdr]; rfl) hsrc hll hsz ?_
                  intro v7 w7 hr7 hg7
                  have HX7 : Hid (Ext w4 w7) := Lib.hid (row_grown HXY.out htk (Nat.le_refl _) hg7)
                  have HR7 := Lib.hid hr7
                  clear hr7 hg7 htk hsrc hll hsz
                  simp only [Act.put, List.setIfInBounds_toArray, List.set_cons_zero, List.set_cons_succ]
                  go_wp2_with (fail)
                  exact ⟨⟨i + 1, _, by simp, by omega, by rw [List.length_append, List.length_take, List.length_drop]; omega, Lib.hid (fun d hd => (List.mem_append.1 hd).elim (fun h => HOK.out d (List.mem_of_mem_take h)) (fun h => HOK.out d (List.mem_of_mem_drop h))), HX7, HR7⟩, by simp [iof]; omega⟩
                · have HDP := Lib.hid (fun wz (hz : Ext wr wz) => own_drop (row_ext HR.out hz) (by omega) (k + 1))
                  refine Rp.wp_regionTE [] [(0, .y), (1, .y), (2, .y), (3, .y), (4, .y), (5, .y), (6, .y)] [7, 8] (fun _ => (.cells #[] 3, fun p => .slice (some ⟨p, 0, none⟩) 1 1)) (fun c a d v w h => by have h' : _ ∧ _ := h; exact ⟨(Rr.put_defers a d v).symm.trans h'.1, h'.2⟩) (by kernel_rfl) (by kernel_rfl) ?_
                  (refine Rr.wr_y (by simp only [List.getElem?_toArray, List.getElem?_cons_succ, List.getElem?_cons_zero]; rfl) (by rfl) ?_
                   apply Exists.intro
                   refine ⟨fun wz hw hh => ?_, ?_⟩
                   · go_simp
                     (with_reducible exact Rg.up_value)
                   simp only [Act.put, List.setIfInBounds_toArray, List.set_cons_zero, List.set_cons_succ])
                  (refine Rr.wr_y (by simp only [List.getElem?_toArray, List.getElem?_cons_succ, List.getElem?_cons_zero]; rfl) (by rfl) ?_
                   apply Exists.intro
                   refine ⟨fun wz hw hh => ?_, ?_⟩
                   · go_simp
                     (with_reducible exact Rg.up_value)
                   simp only [Act.put, List.setIfInBounds_toArray, List.set_cons_zero, List.set_cons_succ])
                  (refine Rr.wr_y (by simp only [List.getElem?_toArray, List.getElem?_cons_succ, List.getElem?_cons_zero]; rfl) (by rfl) ?_
                   apply Exists.intro
                   refine ⟨fun wz hw hh => ?_, ?_⟩
                   · go_simp
                     (with_reducible exact Rg.up_value)
                   simp only [Act.put, List.setIfInBounds_toArray, List.set_cons_zero, List.set_cons_succ])
                  (refine Rr.wr_y (by simp only [List.getElem?_toArray, List.getElem?_cons_succ, List.getElem?_cons_zero]; rfl) (by rfl) ?_
                   apply Exists.intro
                   refine ⟨fun wz hw hh => ?_, ?_⟩
                   · go_simp
                     (with_reducible exact Rg.up_value)
                   simp only [Act.put, List.setIfInBounds_toArray, List.set_cons_zero, List.set_cons_succ])
                  (refine Rr.wr_y (by simp only [List.getElem?_toArray, List.getElem?_cons_succ, List.getElem?_cons_zero]; rfl) (by rfl) ?_
                   apply Exists.intro
                   refine ⟨fun wz hw hh => ?_, ?_⟩
                   · go_simp
                     (with_reducible exact Rg.up_value)
                   simp only [Act.put, List.setIfInBounds_toArray, List.set_cons_zero, List.set_cons_succ])
                  (refine Rr.wr_y (by simp only [List.getElem?_toArray, List.getElem?_cons_succ, List.getElem?_cons_zero]; rfl) (by rfl) ?_
                   apply Exists.intro
                   refine ⟨fun wz hw hh => ?_, ?_⟩
                   · go_simp
                     (with_reducible exact Rg.up_value)
                   simp only [Act.put, List.setIfInBounds_toArray, List.set_cons_zero, List.set_cons_succ])
                  (refine Rr.wr_y (by simp only [List.getElem?_toArray, List.getElem?_cons_succ, List.getElem?_cons_zero]; rfl) (by rfl) ?_
                   apply Exists.intro
                   refine ⟨fun wz hw hh => ?_, ?_⟩
                   · go_simp
                     (with_reducible exact Rg.up_value)
                   simp only [Act.put, List.setIfInBounds_toArray, List.set_cons_zero, List.set_cons_succ])
                  refine Rr.wr_nil ?_
                  intro wy hy hh
                  clear hh
                  simp only [List.filterMap_cons, List.filterMap_nil, List.getElem?_cons_succ, List.getElem?_cons_zero]
                  have hro := row_ext HR.out hy
                  have htk := own_take hro hc0 k (by omega)
                  have hsrc : l.drop (k + 1) = [] ∨ ∃ b off, ((some ⟨g, (k + 1) * 2, none⟩) : Option Addr) = some ⟨b, off, none⟩ ∧ ∀ j u, ((l.drop (k + 1)).flatMap reC)[j]? = some u → wy.cell? ⟨b, off + j, none⟩ = some u := (.inr ⟨g, _, rfl, HDP.out _ hy⟩)
                  have hll : (l.take k).length + (l.drop (k + 1)).length ≤ 1000000 := by rw [List.length_take, List.length_drop]; omega
                  have hsz : w4.heap.size ≤ wy.heap.size := (HX.out.trans hy).size
                  have HXY := Lib.hid (HX.out.trans hy)
                  clear hy hro
                  refine append_rows (cs := reC) (z := .agg #[.int .i64 0, .int .i64 0]) 42 56 16 Try.underlying42 (by kernel_rfl) (by rfl) (by decide) (by decide) rfl (.tmp 118) (.tmp 122) rfl w4.heap.size (.slice (some ⟨g, 0, none⟩) (l.take k).length oc) (l.take k) (by rw [List.length_take, Nat.min_eq_left (by omega)]; rfl) htk (fun _ => ⟨rfl, by simp [reC, Value.oneCell']⟩) (some ⟨g, (k + 1) * 2, none⟩) (oc - (k + 1)) (l.drop (k + 1)) (by rw [List.length_drop]; rfl) hsrc hll hsz ?_
                  intro v7 w7 hr7 hg7
                  have HX7 : Hid (Ext w4 w7) := Lib.hid (row_grown HXY.out htk (Nat.le_refl _) hg7)
                  have HR7 := Lib.hid hr7
                  clear hr7 hg7 htk hsrc hll hsz
                  simp only [Act.put, List.setIfInBounds_toArray, List.set_cons_zero, List.set_cons_succ]
                  go_wp2_with (fail)
                  exact ⟨⟨i + 1, _, by simp, by omega, by rw [List.length_append, List.length_take, List.length_drop]; omega, Lib.hid (fun d hd => (List.mem_append.1 hd).elim (fun h => HOK.out d (List.mem_of_mem_take h)) (fun h => HOK.out d (List.mem_of_mem_drop h))), HX7, HR7⟩, by simp [iof]; omega⟩
              · have hxa : Ext wr (wr.alloc (.cells #[.int .i64 d1, .int .i64 d2] 56)) := Ext.alloc (Ext.refl _) _
                have HR1 := Lib.hid (row_ext HR.out hxa)
                have HX1 := Lib.hid (HX.out.trans hxa)
                have hsz : w4.heap.size ≤ (wr.alloc (.cells #[.int .i64 d1, .int .i64 d2] 56)).heap.size := HX1.out.size
                have hlen : l.length < 1000000 := by omega
                clear hxa
                go_wp2_with (at_builtin; (refine append_g (cs := reC) (z := .agg #[.int .i64 0, .int .i64 0]) 42 56 16 Try.underlying42 (by kernel_rfl) (by rfl) (by decide) (by decide) rfl (.tmp 126) (.tmp 131) rfl w4.heap.size (.slice (some ⟨g, 0, none⟩) l.length oc) l (by rfl) HR1.out wr.heap.size (d1, d2) ⟨rfl, by simp [reC, Value.oneCell']⟩ (by rfl) (alloc_at wr _) hlen hsz ?_; intro g9 cap9 w9 hr9 hg9 hat9; have HX9 : Hid (Ext w4 w9) := Lib.hid (row_grown HX1.out HR1.out (Nat.le_refl _) hg9); have HR9 := Lib.hid hr9; clear hr9 hg9 hat9))
                exact ⟨⟨i + 1, _, by simp, by omega, by rw [List.length_append]; simp; omega, Lib.hid (fun e he => (List.mem_append.1 he).elim (HOK.out e) (fun h => by rw [List.mem_singleton] at h; subst h; exact HOD.out)), HX9, HR9⟩, by simp [iof]; omega⟩
              · obtain ⟨j, hjl, hm5⟩ := Mod_nat q2 l.length hcp (by omega) hk2
                have HM5 := Lib.hid hm5
                clear hm5
                have hjl2 : j < l.length := by omega
                have HOJ := Lib.hid (HOK.out l[j] (List.getElem_mem _))
                obtain ⟨j0, -⟩ := HCL.out j hjl2
                generalize l[j] = f at *
                obtain ⟨e1, e2⟩ := f
                simp only at j0
                go_upto_region 32 with (first | (go_at_call 17; (with_reducible refine (HM5.out _).mono ?_); rintro e' wq ⟨rfl, rfl⟩))
                have h9 := own_put HR.out hc0 (k * 2) (.int .i64 e1) (by omega) (l' := l.set k (e1, d2)) (by rw [List.length_set]) (HSA.out _)
                have hcs : (l.set k (e1, d2)).length = l.length := List.length_set
                have HX9 := Lib.hid (HX.out.setCell (p := ⟨g, k * 2, none⟩) hBg (.int .i64 e1))
                have HOS : Hid (∀ z ∈ l.set k (e1, d2), OkD z) := Lib.hid (okD_set HOK.out ⟨HOJ.out.1, HOD.out.2⟩)
                generalize wr.setCell ⟨g, k * 2, none⟩ (.int .i64 e1) = w9 at *
                generalize l.set k (e1, d2) = cm at *
                rw [← hcs]
                clear t0 t1 t2 u0 u1 f0 f1 j0 hlc hgl HSA HSB HCL HFR
                obtain ⟨g2, hge, -, hlc, hgl, hfr, hcell⟩ := own_at h9 (by omega) (by omega)
                have hgg : g2 = g := by injection hge with hge; injection hge with hge; exact hge.symm
                subst hgg
                have hjm : j < cm.length := by omega
                obtain ⟨j0, j1⟩ := hcell j hjm
                have f0 := hfr (j * 2)
                have HOE := Lib.hid (HOS.out cm[j] (List.getElem_mem _))
                have HSA := Lib.hid (fun x => flat_setA cm j x hjm)
                have HR9 := Lib.hid h9
                clear hcell hfr hge h9
                generalize cm[j] = f at *
                obtain ⟨i1, i2⟩ := f
                simp only at j0 j1 HSA
                go_wp2_with (fail)
                have h9 := own_put HR9.out (by omega) (j * 2) (.int .i64 d1) (by omega) (l' := cm.set j (d1, i2)) (by rw [List.length_set]) (HSA.out _)
                exact ⟨⟨i + 1, cm.set j (d1, i2), by simp, by omega, by rw [List.length_set]; omega, Lib.hid (okD_set HOS.out ⟨HOD.out.1, HOE.out.2⟩), Lib.hid (HX9.out.setCell hBg _), Lib.hid (by simpa only [List.length_set] using h9)⟩, by simp [iof]; omega⟩
          · have hi4 : i = 3 := by omega
            subst hi4
            have HEX : Hid (∀ wz, Ext wr wz → Ext w4 wz) := Lib.hid fun wz hz => HX.out.trans hz
            have HC1 := Lib.hid (fun wz each (hz : Ext w4 wz) hz2 => check_all _ _ _ _ _ _ _ (.slice oA l.length oc) s bs each l wz (HSU.out.ext hz) (HIB.out.ext hz) (by omega) ((sr_row HR.out (by omega)).ext hz2) HOK.out (by omega))
            have HC2 := Lib.hid (fun wz each (hz : Ext w4 wz) hz2 => rcheck_any _ _ _ _ _ _ (.slice oA l.length oc) bA bc s bs each l wz (HSU.out.ext hz) (HIB.out.ext hz) hbc ((sr_row HR.out (by omega)).ext hz2) HOK.out (by omega))
            have HD1 := Lib.hid (fun wz (hz : Ext wr wz) => HC1.out wz y (HX.out.trans hz) hz)
            have HD2 := Lib.hid (fun wz (hz : Ext wr wz) => HC2.out wz y (HX.out.trans hz) hz)
            have HD3 := Lib.hid (fun wz (hz : Ext wr wz) => HC1.out wz (y + 1) (HX.out.trans hz) hz)
            have HD4 := Lib.hid (fun wz (hz : Ext wr wz) => HC2.out wz (y + 1) (HX.out.trans hz) hz)
            clear HC1 HC2
            generalize chkF s bs y (ldF s bs y) l = k1 at *
            generalize chkF s bs (y + 1) (ldF s bs (y + 1)) l = k2 at *
            obtain ⟨s0, s1, s2, s3, s4, s5⟩ := HSS.out wr HX.out
            go_upto_region 33 with (fail)
            go_region_held3 (fun w' => w'.cell? ⟨D, 0, none⟩ = some va ∧ w'.cell? ⟨D, 1, none⟩ = some (.int .i64 z1) ∧ w'.cell? ⟨D, 2, none⟩ = some vb ∧ w'.cell? ⟨D, 3, none⟩ = some vc ∧ w'.cell? ⟨D, 4, none⟩ = some (.int .i64 z4) ∧ w'.cell? ⟨D, 5, none⟩ = some (.int .i64 z5))
              (first | exact HSS.out _ (HEX.out _ (by with_reducible repeat (first | exact Ext.refl _ | assumption | apply Ext.drewN | apply Ext.drew | apply Ext.alloc | (refine Ext.setCell ?_ (by simp <;> omega) _) | (refine Ext.trans ?_ (by assumption))))) | go_keep)
              (first
                | (go_at_call 24; (with_reducible refine (HD1.out _ (by with_reducible repeat (first | exact Ext.refl _ | assumption | apply Ext.drewN | apply Ext.drew | apply Ext.alloc | (refine Ext.setCell ?_ (by simp <;> omega) _) | (refine Ext.trans ?_ (by assumption))))).mono ?_); rintro e wa ⟨rfl, hxa⟩)
                | (go_at_call 25; (with_reducible refine (HD2.out _ (by with_reducible repeat (first | exact Ext.refl _ | assumption | apply Ext.drewN | apply Ext.drew | apply Ext.alloc | (refine Ext.setCell ?_ (by simp <;> omega) _) | (refine Ext.trans ?_ (by assumption))))).mono ?_); rintro e wb ⟨rfl, hxb⟩)
                | (go_at_call 24; (with_reducible refine (HD3.out _ (by with_reducible repeat (first | exact Ext.refl _ | assumption | apply Ext.drewN | apply Ext.drew | apply Ext.alloc | (refine Ext.setCell ?_ (by simp <;> omega) _) | (refine Ext.trans ?_ (by assumption))))).mono ?_); rintro e wc ⟨rfl, hxc⟩)
                | (go_at_call 25; (with_reducible refine (HD4.out _ (by with_reducible repeat (first | exact Ext.refl _ | assumption | apply Ext.drewN | apply Ext.drew | apply Ext.alloc | (refine Ext.setCell ?_ (by simp <;> omega) _) | (refine Ext.trans ?_ (by assumption))))).mono ?_); rintro e wd ⟨rfl, hxd⟩))
            have HXF : Hid (Ext wr wd) := Lib.hid (by with_reducible repeat (first | exact Ext.refl _ | assumption | apply Ext.drewN | apply Ext.drew | apply Ext.alloc | (refine Ext.setCell ?_ (by simp <;> omega) _) | (refine Ext.trans ?_ (by assumption))))
            clear hxa hxb hxc hxd s0 s1 s2 s3 s4 s5 HD1 HD2 HD3 HD4 HEX
            go_wp2_with (fail)
            go_ret
            exact ⟨by simp, HX4.out.trans (HX.out.trans HXF.out)⟩
        · skip
          have HEX : Hid (∀ wz, Ext wr wz → Ext w4 wz) := Lib.hid fun wz hz => HX.out.trans hz
          have HC1 := Lib.hid (fun wz each (hz : Ext w4 wz) hz2 => check_all _ _ _ _ _ _ _ (.slice oA l.length oc) s bs each l wz (HSU.out.ext hz) (HIB.out.ext hz) (by omega) ((sr_row HR.out (by omega)).ext hz2) HOK.out (by omega))
          have HC2 := Lib.hid (fun wz each (hz : Ext w4 wz) hz2 => rcheck_any _ _ _ _ _ _ (.slice oA l.length oc) bA bc s bs each l wz (HSU.out.ext hz) (HIB.out.ext hz) hbc ((sr_row HR.out (by omega)).ext hz2) HOK.out (by omega))
          have HD1 := Lib.hid (fun wz (hz : Ext wr wz) => HC1.out wz y (HX.out.trans hz) hz)
          have HD2 := Lib.hid (fun wz (hz : Ext wr wz) => HC2.out wz y (HX.out.trans hz) hz)
          have HD3 := Lib.hid (fun wz (hz : Ext wr wz) => HC1.out wz (y + 1) (HX.out.trans hz) hz)
          have HD4 := Lib.hid (fun wz (hz : Ext wr wz) => HC2.out wz (y + 1) (HX.out.trans hz) hz)
          clear HC1 HC2
          generalize chkF s bs y (ldF s bs y) l = k1 at *
          generalize chkF s bs (y + 1) (ldF s bs (y + 1)) l = k2 at *
          obtain ⟨s0, s1, s2, s3, s4, s5⟩ := HSS.out wr HX.out
          go_upto_region 33 with (fail)
          go_region_held3 (fun w' => w'.cell? ⟨D, 0, none⟩ = some va ∧ w'.cell? ⟨D, 1, none⟩ = some (.int .i64 z1) ∧ w'.cell? ⟨D, 2, none⟩ = some vb ∧ w'.cell? ⟨D, 3, none⟩ = some vc ∧ w'.cell? ⟨D, 4, none⟩ = some (.int .i64 z4) ∧ w'.cell? ⟨D, 5, none⟩ = some (.int .i64 z5))
            (first | exact HSS.out _ (HEX.out _ (by with_reducible repeat (first | exact Ext.refl _ | assumption | apply Ext.drewN | apply Ext.drew | apply Ext.alloc | (refine Ext.setCell ?_ (by simp <;> omega) _) | (refine Ext.trans ?_ (by assumption))))) | go_keep)
            (first
              | (go_at_call 24; (with_reducible refine (HD1.out _ (by with_reducible repeat (first | exact Ext.refl _ | assumption | apply Ext.drewN | apply Ext.drew | apply Ext.alloc | (refine Ext.setCell ?_ (by simp <;> omega) _) | (refine Ext.trans ?_ (by assumption))))).mono ?_); rintro e wa ⟨rfl, hxa⟩)
              | (go_at_call 25; (with_reducible refine (HD2.out _ (by with_reducible repeat (first | exact Ext.refl _ | assumption | apply Ext.drewN | apply Ext.drew | apply Ext.alloc | (refine Ext.setCell ?_ (by simp <;> omega) _) | (refine Ext.trans ?_ (by assumption))))).mono ?_); rintro e wb ⟨rfl, hxb⟩)
              | (go_at_call 24; (with_reducible refine (HD3.out _ (by with_reducible repeat (first | exact Ext.refl _ | assumption | apply Ext.drewN | apply Ext.drew | apply Ext.alloc | (refine Ext.setCell ?_ (by simp <;> omega) _) | (refine Ext.trans ?_ (by assumption))))).mono ?_); rintro e wc ⟨rfl, hxc⟩)
              | (go_at_call 25; (with_reducible refine (HD4.out _ (by with_reducible repeat (first | exact Ext.refl _ | assumption | apply Ext.drewN | apply Ext.drew | apply Ext.alloc | (refine Ext.setCell ?_ (by simp <;> omega) _) | (refine Ext.trans ?_ (by assumption))))).mono ?_); rintro e wd ⟨rfl, hxd⟩))
          have HXF : Hid (Ext wr wd) := Lib.hid (by with_reducible repeat (first | exact Ext.refl _ | assumption | apply Ext.drewN | apply Ext.drew | apply Ext.alloc | (refine Ext.setCell ?_ (by simp <;> omega) _) | (refine Ext.trans ?_ (by assumption))))
          clear hxa hxb hxc hxd s0 s1 s2 s3 s4 s5 HD1 HD2 HD3 HD4 HEX
          go_wp2_with (fail)
          go_ret
          exact ⟨by simp, HX4.out.trans (HX.out.trans HXF.out)⟩
end Go.Proofs.Ytlekdhhgjhakgaa
