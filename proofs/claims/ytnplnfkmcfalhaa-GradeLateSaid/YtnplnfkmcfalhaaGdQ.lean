/-
  values: what Value gives for all lots and criteria. Conditions: what the books hold.
-/
import Derived.Test.YtnplnfkmcfalhaaGdP
namespace Go.Proofs.Ytnplnfkmcfalhaa
set_option linter.unusedVariables false
set_option linter.unusedSimpArgs false
open Go.RowKit

set_option maxRecDepth 100000 in
set_option maxHeartbeats 4000000 in
theorem values_any (w0 : World) (pb : Nat) (b : Bk) (B p : Nat) (L : List Int) (C : List Cr) (D : List Dy) (bid : Int) (w : World) (hb : BX w0 w pb b) (h : RB B w p L C D)
    (hL : L.length ≤ 3) (hC : C.length ≤ 4) (hD : D.length ≤ 9) (hLo : ∀ x ∈ L, OkI x) (hCo : ∀ c ∈ C, c.ok) (hbid : OkI bid) (hf : b.fin bid = true → hasA b bid) :
    Calls Try.prog 13 #[.pointer (some ⟨pb, 0, none⟩), .pointer (some ⟨p, 0, none⟩), .int .i64 bid] w fun e w' => ∃ r zs, e = .returned r ∧ w'.ownsRow w.heap.size 3 1 r zs.length (zs.flatMap celI) ∧ VL b bid (prs L C) zs ∧ (∀ z ∈ zs, OkI z) ∧ zs.length ≤ 12 ∧ BX w0 w' pb b ∧ Ext w w' := by
  obtain ⟨lb, lc, cb, cc, db, dc, e0, e1, e2, hp, hLR, hCR, hDR⟩ := h.cells (by omega) (by omega) (by omega) hLo
  have HLR := Lib.hid hLR; have HCR := Lib.hid hCR; have HCO := Lib.hid hCo; have HLO := Lib.hid hLo; have HBID := Lib.hid hbid; have HBX := Lib.hid hb; have HF := Lib.hid hf
  have HE : Hid (∀ W, Ext w W → W.cell? ⟨p, 0, none⟩ = some (.slice lb L.length lc) ∧ W.cell? ⟨p, 1, none⟩ = some (.slice cb C.length cc) ∧ p < W.heap.size) := Lib.hid fun W hW =>
    ⟨(hW.cells.1 _ _ (World.block_lt_of_cell? w _ e0)).trans e0, (hW.cells.1 _ _ (World.block_lt_of_cell? w _ e0)).trans e1, Nat.lt_of_lt_of_le hp hW.size⟩
  clear h hLR hCR hDR hCo hLo hbid hb hf e1 e2 db dc
  go_enter Try.func13, Try.ntmps13
  go_upto_region 3 with (fail)
  clear e0 hp
  go_loopw [7, 19] (fun o k wr => ∃ (i : Nat) (zs : List Int), k = .int .i64 i ∧ i ≤ L.length ∧ wr.ownsRow w.heap.size 3 1 o zs.length (zs.flatMap celI) ∧ Hid (VL b bid (prs (L.take i) C) zs ∧ ∀ z ∈ zs, OkI z) ∧ zs.length ≤ i * 4 ∧ Ext w wr) (fun _ k _ => L.length - (iof k).toNat)
  case atStart => exact ⟨0, [], rfl, Nat.zero_le _, World.ownsRow_nil _ _ _ _, Lib.hid ⟨VL.start _ _, by simp⟩, by simp, Ext.refl _⟩
  case round =>
    obtain ⟨i, zs, rfl, hi, hrow, HI, hgl, hx⟩ := hrel
    obtain ⟨c0, c1, hp⟩ := HE.out wr hx
    by_cases hil : i < L.length
    · obtain ⟨bl, ol, rfl, hcl, hlo⟩ := ird_at HLR.out i hil
      have l0 := (hx.cells.1 _ _ (World.block_lt_of_cell? w _ hcl)).trans hcl
      have hbl := World.block_lt_of_cell? wr _ l0
      have HPS := Lib.hid (prs_succ L C i hil)
      have HLI := Lib.hid hlo
      clear hcl hlo
      generalize L[i] = lo at *
      have HX := Lib.hid hx; have HROW := Lib.hid hrow
      have hsz := hx.size
      clear hx hrow
      go_upto_region 6 with (fail)
      clear c0 c1 hp l0 hbl
      generalize prs (L.take i) C = ps at *
      go_loopw [7, 28] (fun o k wr => ∃ (m : Nat) (zt : List Int), k = .int .i64 m ∧ m ≤ C.length ∧ wr.ownsRow w.heap.size 3 1 o zt.length (zt.flatMap celI) ∧ Hid (VL b bid (ps ++ (C.take m).map fun c => (lo, c.name)) zt ∧ ∀ z ∈ zt, OkI z) ∧ zt.length ≤ i * 4 + m ∧ Ext w wr) (fun _ k _ => C.length - (iof k).toNat)
      case atStart => exact ⟨0, zs, rfl, Nat.zero_le _, HROW.out, Lib.hid (by simpa using HI.out), by omega, HX.out⟩
      case round =>
        obtain ⟨m, zt, rfl, hm, hrow, HM, hgl2, hx⟩ := hrel
        by_cases hmc : m < C.length
        · obtain ⟨bc, rfl, hcell⟩ := row_at (HCR.out.ext hx) m hmc
          have q0 := hcell 0 _ rfl
          have q1 := hcell 1 _ rfl
          have q2 := hcell 2 _ rfl
          have q3 := hcell 3 _ rfl
          have q4 := hcell 4 _ rfl
          have HCS := Lib.hid (map_take_succ (fun c => (lo, c.name)) C m hmc)
          have HCN := Lib.hid (HCO.out _ (List.getElem_mem hmc)).1
          clear hcell
          generalize C[m] = c at *
          obtain ⟨cn, ck, clo, chi, cb'⟩ := c
          simp only [Nat.add_zero] at q0 q1 q2 q3 q4
          generalize (C.take m).map (fun c => (lo, c.name)) = ps3 at *
          go_upto_region 8 with (fail)
          have hxa : Ext w (wr.alloc (.cells #[.string cn, .int .i64 ck, .int .i64 clo, .int .i64 chi, .bool cb'] 71)) := Ext.alloc hx _
          have hq := heap_alloc_new wr (.cells #[.string cn, .int .i64 ck, .int .i64 clo, .int .i64 chi, .bool cb'] 71)
          have HROW4 := Lib.hid (row_ext hrow (Ext.alloc (Ext.refl wr) (.cells #[.string cn, .int .i64 ck, .int .i64 clo, .int .i64 chi, .bool cb'] 71)))
          obtain ⟨qv, hqv⟩ : ∃ qv, qv = wr.heap.size := ⟨_, rfl⟩
          rw [← hqv] at hq ⊢
          clear q0 q1 q2 q3 q4 hrow hqv hx
          generalize wr.alloc (.cells #[.string cn, .int .i64 ck, .int .i64 clo, .int .i64 chi, .bool cb'] 71) = w4 at *
          have q0 := cell_of_row w4 qv 0 _ _ _ hq
          have ql := Rg.lt_of_heap hq
          have HV := Lib.hid (value_k bid lo cn (HBX.out.ext hxa) HBID.out HLI.out HCN.out HF.out)
          have HX4 := Lib.hid hxa
          clear hxa hq
          go_upto_region 9 with (go_at_call 17; (with_reducible refine HV.out.mono ?_); rintro e w5 ⟨n, ok, rfl, hv, hn, -, hx5⟩)
          have HN := Lib.hid (And.intro hv hn); have HX5 := Lib.hid hx5
          clear hv hn hx5 q0 ql
          cases ok with
          | true =>
            have HR5 := Lib.hid (row_ext HROW4.out (HX5.out.trans (Ext.alloc (Ext.refl w5) (.cells #[.int .i64 n] 3))))
            have hs5 := (HX4.out.trans HX5.out).size
            have HS5 := Lib.hid hs5; clear hs5
            go_wp2_with (at_builtin; go_loud (refine append_g (cs := celI) (z := .int .i64 0) 22 3 8 Try.underlying22 (by kernel_rfl) (by rfl) (by decide) (by decide) rfl _ _ rfl w.heap.size _ zt (by rfl) HR5.out w5.heap.size n (celI_len _) (by rfl) (heap_alloc_new _ _) (by omega) (by have := HS5.out; simp; omega) ?_; intro g cap w7 hr7 hg7 hat7))
            refine ⟨⟨m + 1, zt ++ [n], by simp, by omega, by simpa using hr7, Lib.hid ⟨?_, fun z hz => ?_⟩, by simp; omega, ?_⟩, by simp [iof]; omega⟩
            · rw [HCS.out, ← List.append_assoc]
              exact HM.out.1.step ⟨n, true, HN.out.1, rfl⟩
            · rcases List.mem_append.1 hz with hz | hz
              · exact HM.out.2 z hz
              · rw [List.mem_singleton] at hz
                subst hz
                exact HN.out.2
            · exact Below.trans (HX4.out.trans (HX5.out.trans (Ext.alloc (Ext.refl w5) _))) ⟨hg7.os, hg7.tape, hg7.output, hg7.size, fun k hk => hg7.block k (by have := HS5.out; simp; omega) (fun e => by have := (HR5.out.lt k e.symm).1; omega)⟩
          | false =>
            have HR5 := Lib.hid (row_ext HROW4.out (HX5.out.trans (Ext.alloc (Ext.refl w5) (.cells #[.int .i64 (-1000000)] 3))))
            have hs5 := (HX4.out.trans HX5.out).size
            have HS5 := Lib.hid hs5; clear hs5
            go_wp2_with (at_builtin; go_loud (refine append_g (cs := celI) (z := .int .i64 0) 22 3 8 Try.underlying22 (by kernel_rfl) (by rfl) (by decide) (by decide) rfl _ _ rfl w.heap.size _ zt (by rfl) HR5.out w5.heap.size (-1000000) (celI_len _) (by rfl) (heap_alloc_new _ _) (by omega) (by have := HS5.out; simp; omega) ?_; intro g cap w7 hr7 hg7 hat7))
            refine ⟨⟨m + 1, zt ++ [(-1000000)], by simp, by omega, by simpa using hr7, Lib.hid ⟨?_, fun z hz => ?_⟩, by simp; omega, ?_⟩, by simp [iof]; omega⟩
            · rw [HCS.out, ← List.append_assoc]
              exact HM.out.1.step ⟨n, false, HN.out.1, rfl⟩
            · rcases List.mem_append.1 hz with hz | hz
              · exact HM.out.2 z hz
              · rw [List.mem_singleton] at hz
                subst hz
                exact (okI_small (by decide))
            · exact Below.trans (HX4.out.trans (HX5.out.trans (Ext.alloc (Ext.refl w5) _))) ⟨hg7.os, hg7.tape, hg7.output, hg7.size, fun k hk => hg7.block k (by have := HS5.out; simp; omega) (fun e => by have := (HR5.out.lt k e.symm).1; omega)⟩
        · obtain rfl : m = C.length := by omega
          rw [List.take_length] at HM
          go_wp2_with (fail)
          exact ⟨⟨i + 1, zt, by simp, by omega, hrow, Lib.hid (by rw [HPS.out]; exact HM.out), by omega, hx⟩, by simp [iof]; omega⟩
    · obtain rfl : i = L.length := by omega
      rw [List.take_length] at HI
      go_wp2_with (fail)
      go_ret
      exact ⟨_, zs, rfl, hrow, HI.out.1, HI.out.2, by omega, HBX.out.ext hx, hx⟩
end Go.Proofs.Ytnplnfkmcfalhaa
