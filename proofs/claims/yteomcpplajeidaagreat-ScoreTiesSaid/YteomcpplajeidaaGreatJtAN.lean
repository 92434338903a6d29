/-
  Lemmas of this claim (JtAN). Nothing is asked.
-/
import Derived.Test.YteomcpplajeidaaGreatJtAK
import Derived.Test.YteomcpplajeidaaGreatJtV
import Derived.Test.YteomcpplajeidaaGreatJtAM
namespace Go.Proofs.YteomcpplajeidaaGreat
set_option linter.unusedVariables false
set_option linter.unusedSimpArgs false
set_option maxRecDepth 100000
open Go.RowKit
theorem up_mid {ρ : Operand → Value} {d : Option Tmp} {x : Operand} {ty : TypeId} {ps : String} {af : Array Edge} {gd : Option (Nat × Bool)} {w : World} {b o : Nat} {cs : List Value} {fs : Array Field}
    (hx : ρ x = .pointer (some ⟨b, o, none⟩)) (hc : w.rangeAt b o cs) (hu : Tryz.prog.underlying ty = some (.struct fs)) (hi : (Tryz.prog.info? ty).map (·.size) = some cs.length) :
    Rg.up Tryz.prog w (.agg cs.toArray) ((execOp ρ { dst := d, op := .load ty x, type := ty, pos := ps, after := af, guard := gd }).run Tryz.prog w) := by
  have h := run_loadAt_mid (P := Tryz.prog) w b o ty cs (.struct fs) hc hu rfl hi
  unfold execOp
  simp only [hx, Sem.run_bind, h, Result.andThen_ok]
  exact Rg.up_value
theorem Ext.of_kxo {w w1 w' : World} {p : Nat} (h : Ext w w1) (k : KX p w1 w') (hp : w.heap.size ≤ p) : Ext w w' :=
  ⟨k.os.trans h.os, k.tape.trans h.tape, k.output.trans h.output, Nat.le_trans h.size k.size, fun i hi => (k.block i (Nat.lt_of_lt_of_le hi h.size) (fun e => by injection e with e; omega)).trans (h.block i hi)⟩
structure SO (w0 w1 w : World) (g n c : Nat) (zs : List Sc) : Prop where
  low : Ext w0 w
  own : w.ownsRow w0.heap.size 100 7 (.slice (some ⟨g, 0, none⟩) n c) n (zs.flatMap Sc.cs)
  kx : KX g w1 w
theorem SO.ext {w0 w1 w w' : World} {g n c : Nat} {zs : List Sc} (h : SO w0 w1 w g n c zs) (x : Ext w w') : SO w0 w1 w' g n c zs := ⟨h.low.trans x, row_ext h.own x, h.kx.ext x⟩
theorem SO.put {w0 w1 w w' : World} {g n c : Nat} {zs zs' : List Sc} (h : SO w0 w1 w g n c zs) (x : KX g w w') (ho : w'.ownsRow w0.heap.size 100 7 (.slice (some ⟨g, 0, none⟩) n c) n (zs'.flatMap Sc.cs)) : SO w0 w1 w' g n c zs' := ⟨Ext.of_kxo h.low x (h.own.lt g rfl).1, ho, h.kx.trans x⟩
theorem SO.range {w0 w1 w : World} {g n c : Nat} {zs : List Sc} (h : SO w0 w1 w g n c zs) (hn : zs.length = n) (hl : n ≤ 1000000) (k : Nat) (hk : k < zs.length) : w.rangeAt g (k * 7) zs[k].cs := fun j v hv => by
  obtain ⟨b, e, hc⟩ := row_at (SR.of_row (cs := Sc.cs) sc_len (v := .slice (some ⟨g, 0, none⟩) n c) (by rw [hn]; exact h.own) (by omega)) k hk
  injection e with e
  injection e with e
  subst e
  exact hc j v hv
theorem SO.lt {w0 w1 w : World} {g n c : Nat} {zs : List Sc} (h : SO w0 w1 w g n c zs) : g < w.heap.size := (h.own.lt g rfl).2
def CmpAt (w0 : World) (recv : Value) (cmp : Sc → Sc → Int) (zs0 : List Sc) : Prop :=
  ∀ x ∈ zs0, ∀ y ∈ zs0, ∀ wz, Ext w0 wz → Calls Tryz.prog 40 #[recv, .agg x.cs.toArray, .agg y.cs.toArray] wz fun e w' => e = .returned (.int .i64 (cmp x y)) ∧ Ext wz w'
abbrev ltC (cmp : Sc → Sc → Int) (x y : Sc) : Bool := decide (cmp x y < 0)
set_option maxHeartbeats 16000000 in
theorem insertion_any (w0 : World) (recv : Value) (cmp : Sc → Sc → Int) (g n c : Nat) (zs0 : List Sc) (hC : CmpAt w0 recv cmp zs0) (hn0 : zs0.length = n) (hnl : n ≤ 1000000) (w : World) (h : SO w0 w w g n c zs0) :
    Calls Tryz.prog 108 #[.slice (some ⟨g, 0, none⟩) n c, .int .i64 0, .int .i64 n, .func (.func 40) #[recv] #[]] w fun e w' => e = .returned (.tuple #[]) ∧ SO w0 w w' g n c (isort (ltC cmp) zs0) := by
  have HC := Lib.hid hC
  have H0 := Lib.hid h
  have HN := Lib.hid hn0
  have hg0 := h.lt
  clear hC h
  go_enter Tryz.func108, Tryz.ntmps108
  go_upto_region 1 with (fail)
  go_loopw [8] (fun iv wr => ∃ i : Nat, iv = .int .i64 i ∧ 1 ≤ i ∧ i ≤ n + 1 ∧ Hid (SO w0 w wr g n c (isort (ltC cmp) (zs0.take i) ++ zs0.drop i))) (fun iv _ => n + 1 - (iof iv).toNat)
  case atStart => exact ⟨1, rfl, Nat.le_refl _, by omega, Lib.hid (by
    have : isort (ltC cmp) (zs0.take 1) ++ zs0.drop 1 = zs0 := by
      cases hz : zs0 with
      | nil => rfl
      | cons x l => rfl
    rw [this]; exact H0.out)⟩
  case round =>
    rename World => wo
    obtain ⟨i, rfl, hi1, hin, HS⟩ := hrel
    by_cases hil : i < n
    · have hili : (i : Int) < (n : Int) := by omega
      have hizs : i < zs0.length := by have := HN.out; omega
      have HT := Lib.hid (isort_take (ltC cmp) zs0 i hizs)
      have HDR : Hid (zs0.drop i = zs0[i] :: zs0.drop (i + 1)) := Lib.hid (List.drop_eq_getElem_cons hizs)
      have HM : Hid (zs0[i] ∈ zs0) := Lib.hid (List.getElem_mem hizs)
      generalize zs0[i] = x at *
      have HAM : Hid (∀ y ∈ isort (ltC cmp) (zs0.take i), y ∈ zs0) := Lib.hid (fun y hy => List.mem_of_mem_take ((isort_perm _ _).mem_iff.1 hy))
      have HAL : Hid ((isort (ltC cmp) (zs0.take i)).length = i) := Lib.hid (by rw [isort_len, List.length_take]; omega)
      rw [HDR.out] at HS
      generalize isort (ltC cmp) (zs0.take i) = acc at *
      have HRL : Hid ((zs0.drop (i + 1)).length = n - (i + 1)) := Lib.hid (by rw [List.length_drop]; have := HN.out; omega)
      obtain ⟨R, hR⟩ : ∃ R, R = zs0.drop (i + 1) := ⟨_, rfl⟩
      rw [← hR] at HS HRL
      have HRR := Lib.hid hR
      clear hR
      go_upto_region 4 with (fail)
      go_loopw [9] (fun jv wr => ∃ (j : Nat) (A B : List Sc), jv = .int .i64 j ∧ j ≤ i ∧ Hid (A.length = j ∧ A.length + B.length = i) ∧ Hid (insR (ltC cmp) x acc = insR (ltC cmp) x A ++ B) ∧ Hid (∀ y ∈ A, y ∈ zs0) ∧ Hid (SO w0 w wr g n c (A ++ x :: B ++ R))) (fun jv _ => (iof jv).toNat)
      case atStart => exact ⟨i, acc, [], rfl, Nat.le_refl _, Lib.hid ⟨HAL.out, by rw [HAL.out]; rfl⟩, Lib.hid (by simp), HAM, Lib.hid (by simpa using HS.out)⟩
      case round =>
        obtain ⟨j, A, B, rfl, hj, HL, HI, HA, HS⟩ := hrel
        by_cases hj0 : 0 < j
        · obtain ⟨k, rfl⟩ : ∃ k, j = k + 1 := ⟨j - 1, by omega⟩
          obtain ⟨A', y, rfl⟩ : ∃ A' y, A = A' ++ [y] := by
            rcases List.eq_nil_or_concat A with h | ⟨A', y, h⟩
            · have := HL.out.1; rw [h] at this; cases this
            · exact ⟨A', y, by simpa using h⟩
          have hkl : A'.length = k ∧ k + 1 + B.length = i := by have := HL.out; simp at this; omega
          have hlen : (A' ++ [y] ++ x :: B ++ R).length = n := by have := HRL.out; simp; omega
          have hry : wr.rangeAt g (k * 7) y.cs := by
            have := HS.out.range hlen hnl k (by omega)
            rw [show (A' ++ [y] ++ x :: B ++ R)[k]'(by omega) = y by simp [← hkl.1]] at this
            exact this
          have hrx : wr.rangeAt g ((k + 1) * 7) x.cs := by
            have := HS.out.range hlen hnl (k + 1) (by omega)
            rw [show (A' ++ [y] ++ x :: B ++ R)[k + 1]'(by omega) = x by
              have e : A' ++ [y] ++ x :: B ++ R = (A' ++ [y]) ++ x :: (B ++ R) := by simp
              simp only [e]
              rw [List.getElem_append_right (by simp; omega)]
              simp [← hkl.1]] at this
            exact this
          have HRY := Lib.hid hry; have HRX := Lib.hid hrx; have HKL := Lib.hid hkl; have HLN := Lib.hid hlen
          have HCA := Lib.hid (HC.out x HM.out y (HA.out y (by simp)))
          have hwl := HS.out.lt
          have HSO := HS
          clear hry hrx hkl hlen HS
          have hkn : (k : Int) + 1 < (n : Int) := by have := HKL.out; omega
          have hkn2 : (k : Int) < (n : Int) := by omega
          have hk0 : (0 : Int) ≤ (k : Int) := by omega
          have hk1 : (0 : Int) ≤ (k : Int) + 1 := by omega
          have hwk : IntKind.i64.wrap (k : Int) = (k : Int) := by rw [IntKind.wrap_i64]; omega
          go_upto_region 4 with (fail)
          refine Rr.wp_region ((List.range 16).map (fun i => (i, .y))) (fun _ => (.cells #[] 29, Rg.ptr)) (by kernel_rfl) (by kernel_rfl) ?_
          simp only [List.range, List.range.loop, List.map_cons, List.map_nil]
          (refine Rr.wr_y (by simp only [List.getElem?_toArray, List.getElem?_cons_succ, List.getElem?_cons_zero]; rfl) (by rfl) ?_
           apply Exists.intro
           refine ⟨fun wz hw _ => ?_, ?_⟩
           · have hcz := hw.cells.1
             go_simp
             (with_reducible exact Rg.up_value)
           simp only [Act.put, List.setIfInBounds_toArray, List.set_cons_zero, List.set_cons_succ])
          (refine Rr.wr_y (by simp only [List.getElem?_toArray, List.getElem?_cons_succ, List.getElem?_cons_zero]; rfl) (by rfl) ?_
           apply Exists.intro
           refine ⟨fun wz hw _ => ?_, ?_⟩
           · have hcz := hw.cells.1
             go_simp
             (with_reducible exact Rg.up_value)
           simp only [Act.put, List.setIfInBounds_toArray, List.set_cons_zero, List.set_cons_succ])
          (refine Rr.wr_y (by simp only [List.getElem?_toArray, List.getElem?_cons_succ, List.getElem?_cons_zero]; rfl) (by rfl) ?_
           apply Exists.intro
           refine ⟨fun wz hw _ => ?_, ?_⟩
           · have hcz := hw.cells.1
             go_simp
             (with_reducible exact Rg.up_value)
           simp only [Act.put, List.setIfInBounds_toArray, List.set_cons_zero, List.set_cons_succ])
          (refine Rr.wr_y (by simp only [List.getElem?_toArray, List.getElem?_cons_succ, List.getElem?_cons_zero]; rfl) (by rfl) ?_
           apply Exists.intro
           refine ⟨fun wz hw _ => ?_, ?_⟩
           · have hcz := hw.cells.1
             go_simp
             (with_reducible exact Rg.up_value)
           simp only [Act.put, List.setIfInBounds_toArray, List.set_cons_zero, List.set_cons_succ])
          (refine Rr.wr_y (by simp only [List.getElem?_toArray, List.getElem?_cons_succ, List.getElem?_cons_zero]; rfl) (by rfl) ?_
           apply Exists.intro
           refine ⟨fun wz hw _ => ?_, ?_⟩
           · have hcz := hw.cells.1
             go_simp
             (with_reducible exact Rg.up_value)
           simp only [Act.put, List.setIfInBounds_toArray, List.set_cons_zero, List.set_cons_succ])
          (refine Rr.wr_y (by simp only [List.getElem?_toArray, List.getElem?_cons_succ, List.getElem?_cons_zero]; rfl) (by rfl) ?_
           apply Exists.intro
           refine ⟨fun wz hw _ => ?_, ?_⟩
           · have hcz := hw.cells.1
             go_simp
             (with_reducible exact Rg.up_value)
           simp only [Act.put, List.setIfInBounds_toArray, List.set_cons_zero, List.set_cons_succ])
          (refine Rr.wr_y (by simp only [List.getElem?_toArray, List.getElem?_cons_succ, List.getElem?_cons_zero]; rfl) (by rfl) ?_
           apply Exists.intro
           refine ⟨fun wz hw _ => ?_, ?_⟩
           · have hcz := hw.cells.1
             go_simp
             (with_reducible exact Rg.up_value)
           simp only [Act.put, List.setIfInBounds_toArray, List.set_cons_zero, List.set_cons_succ])
          (refine Rr.wr_y (by simp only [List.getElem?_toArray, List.getElem?_cons_succ, List.getElem?_cons_zero]; rfl) (by rfl) ?_
           apply Exists.intro
           refine ⟨fun wz hw _ => ?_, ?_⟩
           · have hcz := hw.cells.1
             go_simp
             (with_reducible exact Rg.up_value)
           simp only [Act.put, List.setIfInBounds_toArray, List.set_cons_zero, List.set_cons_succ])
          (refine Rr.wr_y (by simp only [List.getElem?_toArray, List.getElem?_cons_succ, List.getElem?_cons_zero]; rfl) (by rfl) ?_
           apply Exists.intro
           refine ⟨fun wz hw _ => ?_, ?_⟩
           · exact up_mid (by rfl) (fun j v hv => (hw.cells.1 _ _ hwl).trans (HRX.out j v hv)) Tryz.underlying100 (by rfl)
           simp only [Act.put, List.setIfInBounds_toArray, List.set_cons_zero, List.set_cons_succ])
          (refine Rr.wr_y (by simp only [List.getElem?_toArray, List.getElem?_cons_succ, List.getElem?_cons_zero]; rfl) (by rfl) ?_
           apply Exists.intro
           refine ⟨fun wz hw _ => ?_, ?_⟩
           · have hcz := hw.cells.1
             go_simp
             (with_reducible exact Rg.up_value)
           simp only [Act.put, List.setIfInBounds_toArray, List.set_cons_zero, List.set_cons_succ])
          (refine Rr.wr_y (by simp only [List.getElem?_toArray, List.getElem?_cons_succ, List.getElem?_cons_zero]; rfl) (by rfl) ?_
           apply Exists.intro
           refine ⟨fun wz hw _ => ?_, ?_⟩
           · have hcz := hw.cells.1
             go_simp
             (with_reducible exact Rg.up_value)
           simp only [Act.put, List.setIfInBounds_toArray, List.set_cons_zero, List.set_cons_succ])
          (refine Rr.wr_y (by simp only [List.getElem?_toArray, List.getElem?_cons_succ, List.getElem?_cons_zero]; rfl) (by rfl) ?_
           apply Exists.intro
           refine ⟨fun wz hw _ => ?_, ?_⟩
           · have hcz := hw.cells.1
             go_simp
             (with_reducible exact Rg.up_value)
           simp only [Act.put, List.setIfInBounds_toArray, List.set_cons_zero, List.set_cons_succ])
          (refine Rr.wr_y (by simp only [List.getElem?_toArray, List.getElem?_cons_succ, List.getElem?_cons_zero]; rfl) (by rfl) ?_
           apply Exists.intro
           refine ⟨fun wz hw _ => ?_, ?_⟩
           · have hcz := hw.cells.1
             go_simp
             (with_reducible exact Rg.up_value)
           simp only [Act.put, List.setIfInBounds_toArray, List.set_cons_zero, List.set_cons_succ])
          (refine Rr.wr_y (by simp only [List.getElem?_toArray, List.getElem?_cons_succ, List.getElem?_cons_zero]; rfl) (by rfl) ?_
           apply Exists.intro
           refine ⟨fun wz hw _ => ?_, ?_⟩
           · exact up_mid (by rfl) (fun j v hv => (hw.cells.1 _ _ hwl).trans (HRY.out j v hv)) Tryz.underlying100 (by rfl)
           simp only [Act.put, List.setIfInBounds_toArray, List.set_cons_zero, List.set_cons_succ])
          (refine Rr.wr_y (by simp only [List.getElem?_toArray, List.getElem?_cons_succ, List.getElem?_cons_zero]; rfl) (by rfl) ⟨.int .i64 (cmp x y), fun wz hw hh => ?_, ?_⟩
           · go_simp
             apply Rg.up_enter
             (with_reducible refine (HCA.out wz (HSO.out.low.trans hw)).mono ?_)
             rintro e w3 ⟨rfl, hb3⟩
             exact ⟨rfl, hb3⟩
           simp only [Act.put, List.setIfInBounds_toArray, List.set_cons_zero, List.set_cons_succ])
          (refine Rr.wr_y (by simp only [List.getElem?_toArray, List.getElem?_cons_succ, List.getElem?_cons_zero]; rfl) (by rfl) ?_
           apply Exists.intro
           refine ⟨fun wz hw _ => ?_, ?_⟩
           · have hcz := hw.cells.1
             go_simp
             (with_reducible exact Rg.up_value)
           simp only [Act.put, List.setIfInBounds_toArray, List.set_cons_zero, List.set_cons_succ])
          refine Rr.wr_nil ?_
          intro wy hy hh
          simp only [List.length_cons, List.length_nil, List.drop_succ_cons, List.drop_zero, Nat.reduceAdd]
          clear hh
          have HSY := Lib.hid (HSO.out.ext hy)
          have hwy := HSY.out.lt
          have hry2 : ∀ wz, Ext wy wz → wz.rangeAt g (k * 7) y.cs := fun wz hz j v hv => ((hy.trans hz).cells.1 _ _ hwl).trans (HRY.out j v hv)
          have hrx2 : ∀ wz, Ext wy wz → wz.rangeAt g ((k + 1) * 7) x.cs := fun wz hz j v hv => ((hy.trans hz).cells.1 _ _ hwl).trans (HRX.out j v hv)
          have HRY2 := Lib.hid hry2; have HRX2 := Lib.hid hrx2
          clear hry2 hrx2 hy hwl HRY HRX HSO HCA
          have HI2 := Lib.hid (insR_snoc (ltC cmp) x y A')
          have HLT : Hid (ltC cmp x y = decide (cmp x y < 0)) := Lib.hid rfl
          generalize ltC cmp x y = lt at *
          generalize cmp x y = z at *
          by_cases hz : z < 0
          · have HI3 : Hid (insR (ltC cmp) x acc = insR (ltC cmp) x A' ++ (y :: B)) := Lib.hid (by rw [HI.out, HI2.out, HLT.out, decide_eq_true hz]; simp)
            go_upto_region 6 with (fail)
            refine Rv.wp_regionTE [2, 3, 4] [(0, .y), (1, .y), (2, .y), (3, .y), (4, .y), (5, .y), (6, .y), (7, .y), (8, .y), (9, .y), (10, .y), (11, .y), (12, .y), (13, .y), (14, .y)] [15, 16, 17] (fun _ => (.cells #[] 33, Rg.ptr)) (fun c a d v w h => by have h' : _ ∧ _ := h; exact ⟨(Ru.put_defers a d v).symm.trans h'.1, h'.2⟩) (by kernel_rfl) (by kernel_rfl) ?_
            (refine Ru.wr_y (by simp only [List.getElem?_toArray, List.getElem?_cons_succ, List.getElem?_cons_zero]; rfl) (by rfl) ?_
             apply Exists.intro
             refine ⟨fun wz hw _ => ?_, ?_⟩
             · have hcz := hw.cells.1
               go_simp
               (with_reducible exact Rg.up_value)
             simp only [Act.put, List.setIfInBounds_toArray, List.set_cons_zero, List.set_cons_succ])
            (refine Ru.wr_y (by simp only [List.getElem?_toArray, List.getElem?_cons_succ, List.getElem?_cons_zero]; rfl) (by rfl) ?_
             apply Exists.intro
             refine ⟨fun wz hw _ => ?_, ?_⟩
             · have hcz := hw.cells.1
               go_simp
               (with_reducible exact Rg.up_value)
             simp only [Act.put, List.setIfInBounds_toArray, List.set_cons_zero, List.set_cons_succ])
            (refine Ru.wr_y (by simp only [List.getElem?_toArray, List.getElem?_cons_succ, List.getElem?_cons_zero]; rfl) (by rfl) ?_
             apply Exists.intro
             refine ⟨fun wz hw _ => ?_, ?_⟩
             · have hcz := hw.cells.1
               go_simp
               (with_reducible exact Rg.up_value)
             simp only [Act.put, List.setIfInBounds_toArray, List.set_cons_zero, List.set_cons_succ])
            (refine Ru.wr_y (by simp only [List.getElem?_toArray, List.getElem?_cons_succ, List.getElem?_cons_zero]; rfl) (by rfl) ?_
             apply Exists.intro
             refine ⟨fun wz hw _ => ?_, ?_⟩
             · have hcz := hw.cells.1
               go_simp
               (with_reducible exact Rg.up_value)
             simp only [Act.put, List.setIfInBounds_toArray, List.set_cons_zero, List.set_cons_succ])
            (refine Ru.wr_sub (by simp only [List.getElem?_toArray, List.getElem?_cons_succ, List.getElem?_cons_zero]; rfl) (by rfl) ?_
             apply Exists.intro
             refine ⟨fun wz => ?_, ?_⟩
             · go_simp
               (with_reducible rfl)
             simp only [Act.put, List.setIfInBounds_toArray, List.set_cons_zero, List.set_cons_succ])
            (refine Ru.wr_y (by simp only [List.getElem?_toArray, List.getElem?_cons_succ, List.getElem?_cons_zero]; rfl) (by rfl) ?_
             apply Exists.intro
             refine ⟨fun wz hw _ => ?_, ?_⟩
             · have hcz := hw.cells.1
               go_simp
               (with_reducible exact Rg.up_value)
             simp only [Act.put, List.setIfInBounds_toArray, List.set_cons_zero, List.set_cons_succ])
            (refine Ru.wr_y (by simp only [List.getElem?_toArray, List.getElem?_cons_succ, List.getElem?_cons_zero]; rfl) (by rfl) ?_
             apply Exists.intro
             refine ⟨fun wz hw _ => ?_, ?_⟩
             · have hcz := hw.cells.1
               go_simp
               (with_reducible exact Rg.up_value)
             simp only [Act.put, List.setIfInBounds_toArray, List.set_cons_zero, List.set_cons_succ])
            (refine Ru.wr_sub (by simp only [List.getElem?_toArray, List.getElem?_cons_succ, List.getElem?_cons_zero]; rfl) (by rfl) ?_
             apply Exists.intro
             refine ⟨fun wz => ?_, ?_⟩
             · go_simp
               (with_reducible rfl)
             simp only [Act.put, List.setIfInBounds_toArray, List.set_cons_zero, List.set_cons_succ])
            (refine Ru.wr_y (by simp only [List.getElem?_toArray, List.getElem?_cons_succ, List.getElem?_cons_zero]; rfl) (by rfl) ?_
             apply Exists.intro
             refine ⟨fun wz hw _ => ?_, ?_⟩
             · have hcz := hw.cells.1
               go_simp
               (with_reducible exact Rg.up_value)
             simp only [Act.put, List.setIfInBounds_toArray, List.set_cons_zero, List.set_cons_succ])
            (refine Ru.wr_y (by simp only [List.getElem?_toArray, List.getElem?_cons_succ, List.getElem?_cons_zero]; rfl) (by rfl) ?_
             apply Exists.intro
             refine ⟨fun wz hw _ => ?_, ?_⟩
             · exact up_mid (by rfl) (HRY2.out wz hw) Tryz.underlying100 (by rfl)
             simp only [Act.put, List.setIfInBounds_toArray, List.set_cons_zero, List.set_cons_succ])
            (refine Ru.wr_y (by simp only [List.getElem?_toArray, List.getElem?_cons_succ, List.getElem?_cons_zero]; rfl) (by rfl) ?_
             apply Exists.intro
             refine ⟨fun wz hw _ => ?_, ?_⟩
             · have hcz := hw.cells.1
               go_simp
               (with_reducible exact Rg.up_value)
             simp only [Act.put, List.setIfInBounds_toArray, List.set_cons_zero, List.set_cons_succ])
            (refine Ru.wr_y (by simp only [List.getElem?_toArray, List.getElem?_cons_succ, List.getElem?_cons_zero]; rfl) (by rfl) ?_
             apply Exists.intro
             refine ⟨fun wz hw _ => ?_, ?_⟩
             · have hcz := hw.cells.1
               go_simp
               (with_reducible exact Rg.up_value)
             simp only [Act.put, List.setIfInBounds_toArray, List.set_cons_zero, List.set_cons_succ])
            (refine Ru.wr_y (by simp only [List.getElem?_toArray, List.getElem?_cons_succ, List.getElem?_cons_zero]; rfl) (by rfl) ?_
             apply Exists.intro
             refine ⟨fun wz hw _ => ?_, ?_⟩
             · have hcz := hw.cells.1
               go_simp
               (with_reducible exact Rg.up_value)
             simp only [Act.put, List.setIfInBounds_toArray, List.set_cons_zero, List.set_cons_succ])
            (refine Ru.wr_y (by simp only [List.getElem?_toArray, List.getElem?_cons_succ, List.getElem?_cons_zero]; rfl) (by rfl) ?_
             apply Exists.intro
             refine ⟨fun wz hw _ => ?_, ?_⟩
             · exact up_mid (by rfl) (HRX2.out wz hw) Tryz.underlying100 (by rfl)
             simp only [Act.put, List.setIfInBounds_toArray, List.set_cons_zero, List.set_cons_succ])
            (refine Ru.wr_y (by simp only [List.getElem?_toArray, List.getElem?_cons_succ, List.getElem?_cons_zero]; rfl) (by rfl) ?_
             apply Exists.intro
             refine ⟨fun wz hw _ => ?_, ?_⟩
             · have hcz := hw.cells.1
               go_simp
               (with_reducible exact Rg.up_value)
             simp only [Act.put, List.setIfInBounds_toArray, List.set_cons_zero, List.set_cons_succ])
            refine Ru.wr_nil ?_
            intro wq hq hh
            clear hh
            simp only [List.filterMap_cons, List.filterMap_nil, List.getElem?_cons_succ, List.getElem?_cons_zero]
            have HSQ := Lib.hid (HSY.out.ext hq)
            clear hq hwy
            refine store_elem (cs := Sc.cs) sc_len sc_one (by kernel_rfl) rfl (.tmp 51) (.tmp 46) rfl g (k + 1) n c w0.heap.size _ y (by rfl) (by rfl) HSQ.out.own HLN.out (by omega) ?_
            intro wa hra hga
            have HSA := Lib.hid (HSQ.out.put hga hra)
            clear hra hga
            refine wpList_plain rfl fun K hK => ?_
            unfold Oper.wp execOp
            go_simp
            refine hK _ _ ?_
            refine store_elem (cs := Sc.cs) sc_len sc_one (by kernel_rfl) rfl (.tmp 52) (.tmp 50) rfl g k n c w0.heap.size _ x (by rfl) (by rfl) HSA.out.own (by rw [List.length_set]; exact HLN.out) (by omega) ?_
            intro wb hrb hgb
            have HSB := Lib.hid (HSA.out.put hgb hrb)
            clear hrb hgb
            have HEQ : Hid (((A' ++ [y] ++ x :: B ++ R).set (k + 1) y).set k x = A' ++ x :: (y :: B) ++ R) := Lib.hid (by
              rw [← HKL.out.1]
              simp [List.set_append])
            rw [HEQ.out] at HSB
            go_wp2_with (fail)
            exact ⟨⟨k, A', y :: B, by rfl, by omega, Lib.hid ⟨HKL.out.1, by have := HKL.out; simp; omega⟩, HI3, Lib.hid (fun u hu => HA.out u (by simp [hu])), HSB⟩, by simp [iof]⟩
          · have HI3 : Hid (insR (ltC cmp) x acc ++ R = A' ++ [y] ++ x :: B ++ R) := Lib.hid (by rw [HI.out, HI2.out, HLT.out, decide_eq_false hz]; simp)
            go_wp2_with (fail)
            exact ⟨⟨i + 1, by rfl, by omega, by omega, Lib.hid (by rw [HT.out, ← HRR.out, HI3.out]; exact HSY.out)⟩, by simp [iof]; omega⟩
        · obtain rfl : j = 0 := by omega
          obtain rfl : A = [] := List.length_eq_zero_iff.1 HL.out.1
          have HI3 : Hid (insR (ltC cmp) x acc ++ R = [] ++ x :: B ++ R) := Lib.hid (by rw [HI.out, insR_nil]; simp)
          go_upto_region 4 with (fail)
          go_quiet (fail)
          go_wp2_with (fail)
          exact ⟨⟨i + 1, by rfl, by omega, by omega, Lib.hid (by rw [HT.out, ← HRR.out, HI3.out]; exact HS.out.ext (by with_reducible repeat (first | exact Ext.refl _ | assumption | apply Ext.drewN | apply Ext.drew | apply Ext.alloc | (refine Ext.setCell ?_ (by simp <;> omega) _) | (refine Ext.trans ?_ (by assumption)))))⟩, by simp [iof]; omega⟩
    · have hili : ¬ (i : Int) < (n : Int) := by omega
      have HF : Hid (isort (ltC cmp) (zs0.take i) ++ zs0.drop i = isort (ltC cmp) zs0) := Lib.hid (by
        have := HN.out
        rw [List.take_of_length_le (by omega), List.drop_eq_nil_of_le (by omega), List.append_nil])
      rw [HF.out] at HS
      go_wp2_with (fail)
      go_end0
      exact ⟨rfl, HS.out⟩
end Go.Proofs.YteomcpplajeidaaGreat
