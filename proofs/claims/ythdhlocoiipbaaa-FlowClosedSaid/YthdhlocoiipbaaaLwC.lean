/-
  FlowClosed, walked. Condition: the argument reads as rows of three ints.
-/
import Derived.Test.YthdhlocoiipbaaaFlE
namespace Go.Proofs.Ythdhlocoiipbaaa
set_option linter.unusedVariables false
set_option linter.unusedSimpArgs false
open Go.RowKit

set_option maxRecDepth 100000 in
set_option maxHeartbeats 4000000 in
theorem closed_walk (v : Value) (f : Nat → Nat → Int) (n : Nat) (w : World) (h : RA 3 w v f n) :
    Calls Try.prog 4 #[v] w fun e w' => e = .returned (.bool true) ∧ Ext w w' := by
  have H0 := Lib.hid h; clear h
  go_enter Try.func4, Try.ntmps4
  go_upto_region 3 with (first
    | (go_at_call 11; (with_reducible refine (sanity_any _).mono ?_); rintro e w1 ⟨rfl, hx1⟩)
    | (go_at_call 12; (with_reducible refine (Made_any v f n _ (H0.out.ext hx1)).mono ?_); rintro e w2 ⟨r, xs, rfl, hM, hN, hx2⟩))
  have hX := Lib.hid (hM.x hN)
  have hR := Lib.hid (hM.ri (by omega))
  have hxl : xs.length ≤ 20 := by omega
  clear hM hN
  obtain ⟨bx, cx, rfl⟩ := hR.out.1.form
  go_upto_region 4 with (go_at_call 15; (with_reducible refine (Labels_lab xs _ _ hR.out).mono ?_); rintro e w3 ⟨r3, rfl, hr3, hL, hx3⟩; have HL := Lib.hid hL; clear hL; obtain ⟨lb, lc, rfl⟩ := hr3.formN (n := xs.length) (by simp))
  have hx03 : Ext w w3 := (hx1.trans hx2).trans hx3
  have hR3 := Lib.hid (hR.out.ext hx3)
  clear hx1 hx2 hx3 hR
  have hlb : ∀ j (hj : j < xs.length), ∃ b off, lb = some ⟨b, off, none⟩ ∧ w3.cell? ⟨b, off + j, none⟩ = some (.int .i64 (labOf xs xs[j])) := by
    intro j hj
    obtain ⟨A', c', e1, -, -, hcell⟩ := hr3
    injection e1 with e1 e2 e3
    subst e1 e3
    obtain ⟨b, off, rfl, hc⟩ := hcell.resolve_left (by intro e; rw [List.map_eq_nil_iff] at e; rw [e] at hj; simp at hj)
    have := hc j (by simpa using hj)
    rw [List.getElem_map] at this
    exact ⟨b, off, rfl, this⟩
  have HLB := Lib.hid hlb
  clear hlb hr3
  go_upto_region 7 with (fail)
  go_loopw [6] (fun k wr => ∃ j : Nat, k = .int .i64 j ∧ j ≤ xs.length ∧ wr = w3) (fun k _ => xs.length - (iof k).toNat)
  case atStart => exact ⟨0, rfl, by omega, rfl⟩
  case round =>
    obtain ⟨j, rfl, hj, rfl⟩ := hrel
    by_cases hjl : j < xs.length
    · obtain ⟨b, off, rfl, -, c0, c1, c2⟩ := it_at hR3.out.1 j hjl
      have hxg := hR3.out.2 xs[j] (List.getElem_mem _)
      have hall := orF_all HL.out (List.getElem_mem hjl) hxg.2.1
      have hfr : ∀ id ∈ xs[j].frm, _ := fun id hid => hX.out.frm (List.getElem_mem hjl) hid
      have HLJ := Lib.hid (HLB.out j hjl)
      obtain ⟨A, c, hsh⟩ := hxg.shape
      have hir := hxg.2.2
      generalize xs[j] = x at *
      obtain ⟨xid, xlab, xfv, xfrm⟩ := x
      simp only at hsh c0 c1 c2 hall hfr hir
      subst hsh
      have HF := Lib.hid hfr; clear hfr
      have HA := Lib.hid hall; clear hall
      go_upto_region 11 with (fail)
      go_loopw [7, 8] (fun a k wq => ∃ i : Nat, k = .int .i64 i ∧ i ≤ xfrm.length ∧ a = .int .i64 (orL xlab (orF xs (xfrm.take i))) ∧ wq = wr) (fun _ k _ => xfrm.length - (iof k).toNat)
      case atStart => exact ⟨0, rfl, by omega, rfl, rfl⟩
      case round =>
        obtain ⟨i, rfl, hi, rfl, rfl⟩ := hrel
        by_cases hil : i < xfrm.length
        · obtain ⟨m, hm, hid, hfd⟩ := HF.out xfrm[i] (List.getElem_mem _)
          obtain ⟨A', c', e1, hlen, -, hcell⟩ := hir
          injection e1 with e1 e2 e3
          subst e1 e3
          obtain ⟨qb, qo, rfl, hc⟩ := hcell.resolve_left (by intro e; rw [e] at hil; simp at hil)
          have cq := hc i hil
          have hnx : orL xlab (orF xs (xfrm.take (i + 1))) = bor (orL xlab (orF xs (xfrm.take i))) (labOf xs xs[m]) := by
            rw [List.take_succ_eq_append_getElem hil]
            unfold orF
            rw [List.map_append, List.map_cons, List.map_nil, orL_snoc, hfd]
          rw [hid] at cq
          obtain ⟨lbb, lbo, hlb', cl⟩ := HLB.out m hm
          obtain ⟨lbb2, lbo2, hlb2, -⟩ := HLJ.out
          subst hlb2
          injection hlb' with hlb'
          injection hlb' with e4 e5
          subst e4 e5
          have Hnx := Lib.hid hnx
          clear hc hcell e2 hid hfd hnx
          generalize orL xlab (orF xs (xfrm.take i)) = acc at *
          generalize labOf xs xs[m] = lm at *
          go_wp2_with (fail)
          refine ⟨⟨i + 1, by simp, by omega, by rw [Hnx.out]; rfl, trivial⟩, by simp; omega⟩
        · obtain rfl : i = xfrm.length := by omega
          rw [List.take_length, HA.out]
          obtain ⟨lbb, lbo, rfl, cl⟩ := HLJ.out
          go_wp2_with (fail)
          exact ⟨⟨j + 1, by simp, by omega, trivial⟩, by simp; omega⟩
    · obtain rfl : j = xs.length := by omega
      go_upto_region 17 with (fail)
      obtain ⟨w4, hw4⟩ : ∃ w4, w4 = wr := ⟨wr, rfl⟩
      subst hw4
      have HB := Lib.hid (lab_any HL.out)
      go_loopw [9] (fun k wr => ∃ b : Int, k = .int .i64 b ∧ (b = 1 ∨ b = 2 ∨ b = 4 ∨ b = 8 ∨ b = 16) ∧ wr = w4) (fun k _ => (16 - iof k).toNat)
      case atStart => exact ⟨1, rfl, .inl rfl, rfl⟩
      case round =>
        obtain ⟨b, rfl, hb, rfl⟩ := hrel
        by_cases hb16 : b < 16
        · have HBb := Lib.hid (HB.out b)
          go_upto_region 22 with (fail)
          go_loopw [10, 11, 12] (fun o f k wq => ∃ j : Nat, k = .int .i64 j ∧ j ≤ xs.length ∧ o = .bool ((xs.take j).any (fun x => band x.label b != 0)) ∧ f = .bool (((xs.map (labOf xs)).take j).any (fun z => band z b != 0)) ∧ wq = wr) (fun _ _ k _ => xs.length - (iof k).toNat)
          case atStart => exact ⟨0, rfl, by omega, rfl, rfl, rfl⟩
          case round =>
            obtain ⟨i, rfl, hi, rfl, rfl, rfl⟩ := hrel
            by_cases hil : i < xs.length
            · obtain ⟨xb, xo, rfl, -, -, c1, -⟩ := it_at hR3.out.1 i hil
              obtain ⟨lbb, lbo, rfl, cl⟩ := HLB.out i hil
              have ho : (xs.take (i + 1)).any (fun x => band x.label b != 0) = ((xs.take i).any (fun x => band x.label b != 0) || (band xs[i].label b != 0)) := by
                rw [List.take_succ_eq_append_getElem hil, List.any_append]; simp
              have hf : ((xs.map (labOf xs)).take (i + 1)).any (fun z => band z b != 0) = (((xs.map (labOf xs)).take i).any (fun z => band z b != 0) || (band (labOf xs xs[i]) b != 0)) := by
                rw [List.take_succ_eq_append_getElem (by simpa using hil), List.any_append]; simp
              have Ho := Lib.hid ho; have Hf := Lib.hid hf; clear ho hf
              generalize (xs.take i).any (fun x => band x.label b != 0) = own at *
              generalize ((xs.map (labOf xs)).take i).any (fun z => band z b != 0) = fnd' at *
              generalize labOf xs xs[i] = lm at *
              generalize xs[i].label = xl at *
              cases own <;> cases fnd' <;> (go_wp2_with (fail); refine ⟨⟨i + 1, by simp, by omega, by rw [Ho.out]; rfl, by rw [Hf.out]; rfl, trivial⟩, by simp; omega⟩)
            · obtain rfl : i = xs.length := by omega
              rw [List.take_length, List.take_of_length_le (by simp), HBb.out]
              generalize (xs.map (labOf xs)).any (fun z => band z b != 0) = fnd' at *
              go_wp2_with (fail)
              exact ⟨⟨b * 2, rfl, by omega, trivial⟩, by simp; omega⟩
        · obtain rfl : b = 16 := by omega
          go_wp2_with (fail)
          go_ret
          exact ⟨rfl, hx03⟩

end Go.Proofs.Ythdhlocoiipbaaa
