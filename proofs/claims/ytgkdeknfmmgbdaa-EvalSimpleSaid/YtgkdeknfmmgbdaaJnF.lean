/-
  Joined: the lemmas of this claim that other texts of it use, part 6. Nothing is asked.
-/
import Derived.Test.YtgkdeknfmmgbdaaJnE
import Derived.Deep.Upon
import Derived.ArgAppend
namespace Go.Proofs.Ytgkdeknfmmgbdaa
set_option linter.unusedVariables false
set_option linter.unusedSimpArgs false
open Go.RowKit

/-- A block of digits, known whole. -/
def BZ (w : World) (p : Nat) (ls : List Int) : Prop := w.heap[p]? = some (.cells (ls.map (.int .i64)).toArray 3)
theorem BZ.cell {w : World} {p : Nat} {ls : List Int} (h : BZ w p ls) (k : Nat) (hk : k < ls.length) : w.cell? ⟨p, k, none⟩ = some (.int .i64 ls[k]) := by
  unfold BZ at h
  rw [(Rg.cells_of h).1]
  simp [hk]
theorem BZ.cell' {w : World} {p : Nat} {pre os : List Int} {o : Int} (h : BZ w p (pre ++ o :: os)) : w.cell? ⟨p, pre.length, none⟩ = some (.int .i64 o) := by
  rw [h.cell pre.length (by simp)]; simp
theorem BZ.lt {w : World} {p : Nat} {ls : List Int} (h : BZ w p ls) : p < w.heap.size := Rg.lt_of_heap h
theorem BZ.free {w : World} {p : Nat} {ls : List Int} (h : BZ w p ls) (i : Nat) : w.frozen? ⟨p, i, none⟩ = false := (Rg.cells_of h).2.1 i
theorem BZ.ext {w w' : World} {p : Nat} {ls : List Int} (h : BZ w p ls) (e : Ext w w') : BZ w' p ls := (e.block _ h.lt).trans h
theorem BZ.set {w : World} {p : Nat} {pre os : List Int} {o : Int} (h : BZ w p (pre ++ o :: os)) (z : Int) : BZ (w.setCell ⟨p, pre.length, none⟩ (.int .i64 z)) p ((pre ++ [z]) ++ os) := by
  unfold BZ
  rw [heap_setCell_same w p _ _ 3 _ h]
  congr 2
  simp [List.set_append]
theorem BZ.dr {w : World} {p : Nat} {ls : List Int} (h : BZ w p ls) (hn : ls.length ≤ 1000) (hd : Dg ls) : DR w (.slice (some ⟨p, 0, none⟩) ls.length ls.length) ls :=
  ⟨_, _, rfl, Nat.le_refl _, hn, hd, .inr ⟨p, 0, rfl, fun k hk => by rw [Nat.zero_add]; exact h.cell k hk⟩⟩
theorem mulL_step (b os : List Int) (j : Nat) (l : List Int) (hl : j < l.length) (o : Int) (r : List Int) (h : rowL l[j] 0 os b = o :: r) : mulL (l.drop j) b os = o :: mulL (l.drop (j + 1)) b r := by
  rw [List.drop_eq_getElem_cons hl, mulL, h]
theorem rowL_step (x c o y : Int) (os m : List Int) (k : Nat) (hk : k < m.length) : rowL x c (o :: os) (m.drop k) = (o + x * m[k] + c) % 65536 :: rowL x ((o + x * m[k] + c) / 65536) os (m.drop (k + 1)) := by
  rw [List.drop_eq_getElem_cons hk, rowL]
theorem rowL_end (x c o : Int) (os m : List Int) (k : Nat) (hk : m.length ≤ k) : rowL x c (o :: os) (m.drop k) = c :: os := by
  rw [List.drop_eq_nil_of_le hk, rowL]

theorem made_z (n : Nat) : madeCells (Value.int .i64 0).cells (n * 1) = ((List.replicate n (0 : Int)).map (.int .i64)).toArray := by
  apply Array.ext
  · simp [madeCells]
  · intro i h1 h2
    simp [madeCells, Value.cells, Nat.mod_one]
theorem rep_z (n : Nat) : ((List.replicate n (0 : Int)).map (.int .i64)).toArray = Array.replicate n (Value.int .i64 0) := by simp
theorem make_z (w : World) (n : Nat) (z : Int) (hz : z = (n : Int)) (hn : n ≤ 1000) : (Instr.makeSlice 22 (.int .i64 z) (.int .i64 z)).run Try.prog w = .ok (.slice (some ⟨w.heap.size, 0, none⟩) n n) (w.alloc (.cells (Array.replicate n (Value.int .i64 0)) 3)) := by
  subst hz
  obtain ⟨i0, hi, hz0, hz1, hz2⟩ := info_parts info3z
  have h := run_make (P := Try.prog) w 22 3 i0 (.int .i64 0) Try.underlying22 hi hz0 .i64 .i64 n n (by omega) (by omega) (by rw [hz2]; omega) (by omega)
  rw [hz1, Int.toNat_natCast, made_z, rep_z] at h
  exact h

theorem BZ.set' {w : World} {p : Nat} {ls : List Int} (h : BZ w p ls) (i : Nat) (z : Int) : BZ (w.setCell ⟨p, i, none⟩ (.int .i64 z)) p (ls.set i z) := by
  unfold BZ
  rw [heap_setCell_same w p _ _ 3 _ h]
  simp [List.map_set]
/-- What holds at the head of times' loops. -/
def TimesI (l m : List Int) (w : World) (p : Nat) (kv : Value) (wr : World) : Prop :=
  ∃ (j : Nat) (pre os : List Int), kv = .int .i64 j ∧ j ≤ l.length ∧ BZ wr p (pre ++ os) ∧ pre.length = j ∧ os.length = l.length - j + m.length ∧ Dg os ∧ (∀ k (h : k < os.length), m.length ≤ k → os[k] = 0) ∧
    mulL l m (List.replicate (l.length + m.length) 0) = pre ++ mulL (l.drop j) m os ∧ Ext w wr
def RowI (x : Int) (m pre os : List Int) (w : World) (p : Nat) (cv kv : Value) (wr : World) : Prop :=
  ∃ (k : Nat) (c : Int) (pre2 os2 : List Int), kv = .int .i64 k ∧ cv = .int .i64 c ∧ k ≤ m.length ∧ BZ wr p (pre ++ (pre2 ++ os2)) ∧ pre2.length = k ∧ os2.length + k = os.length ∧ Dg os2 ∧ 0 ≤ c ∧ c < 65536 ∧ rowL x 0 os m = pre2 ++ rowL x c os2 (m.drop k) ∧ Ext w wr

set_option maxRecDepth 100000 in
set_option maxHeartbeats 1000000 in
theorem times_any (l m : List Int) (w : World) (v u : Value) (h : DR w v l) (h' : DR w u m) (hl : l.length ≤ 100) (hm : m.length ≤ 100) :
    Calls Try.prog 84 #[v, u] w fun e w' => ∃ x, e = .returned x ∧ Ext w w' ∧ DR w' x (trimL (mulL l m (List.replicate (l.length + m.length) 0))) := by
  obtain ⟨A, ca, rfl⟩ := h.form
  obtain ⟨B, cb, rfl⟩ := h'.form
  have HA := Lib.hid h
  have HB := Lib.hid h'
  have hDZ : Dg (List.replicate (l.length + m.length) 0) := fun d hd => by rw [List.eq_of_mem_replicate hd]; omega
  have HDZ := Lib.hid hDZ
  have HMS := Lib.hid (mulL_spec l m (List.replicate (l.length + m.length) 0) h.dg h'.dg hDZ (by simp) (fun k hk _ => by simp))
  clear h h' hDZ
  have k0 : (l.length : Int) + (m.length : Int) ≤ 200 := by omega
  go_enter Try.func84, Try.ntmps84
  have hmk := make_z w (l.length + m.length) ((l.length : Int) + (m.length : Int)) (by omega) (by omega)
  go_upto_block 0 with (fail)
  clear hmk
  have hZ : BZ (w.alloc (.cells (Array.replicate (l.length + m.length) (Value.int .i64 0)) 3)) w.heap.size (List.replicate (l.length + m.length) 0) := by
    unfold BZ; rw [rep_z]; exact block_new rfl
  have hx1 : Ext w (w.alloc (.cells (Array.replicate (l.length + m.length) (Value.int .i64 0)) 3)) := (by with_reducible repeat (first | exact Ext.refl _ | assumption | apply Ext.drewN | apply Ext.drew | apply Ext.alloc | (refine Ext.setCell ?_ (by simp <;> omega) _) | (refine Ext.trans ?_ (by assumption))))
  generalize w.alloc (.cells (Array.replicate (l.length + m.length) (Value.int .i64 0)) 3) = W1 at *
  obtain ⟨p, hp⟩ : ∃ p, p = w.heap.size := ⟨_, rfl⟩
  rw [← hp] at hZ ⊢
  have HPE := Lib.hid hp
  have HZ := Lib.hid hZ
  clear hp hZ
  go_wp2_with (fail)
  go_loopw [6] (fun k wr => TimesI l m w p k wr) (fun k _ => l.length - (intOf k).toNat)
  case atStart =>
    unfold TimesI
    exact ⟨0, [], _, by go_num, by omega, HZ.out, rfl, by simp, HDZ.out, fun k hk _ => by simp, rfl, hx1⟩
  case round =>
    unfold TimesI at hrel
    obtain ⟨j, pre, os, rfl, hj, hZ, hpre, hos, hD, hz, hE, hx⟩ := hrel
    have HZr := Lib.hid hZ
    have HE := Lib.hid hE
    have HD := Lib.hid hD
    have Hz := Lib.hid hz
    clear hZ hE hD hz
    have k1 : (0 : Int) ≤ (j : Int) := by omega
    by_cases hjl : j < l.length
    · have k2 : (j : Int) < (l.length : Int) := by omega
      have HRS := Lib.hid (rowL_spec l[j] (HA.out.dg.at j hjl) m 0 os (by omega) (by omega) HD.out HB.out.dg (by omega) Hz.out)
      have HMT := Lib.hid (fun o r h => mulL_step m os j l hjl o r h)
      obtain ⟨b, off, rfl, -, hcs⟩ := HA.out.block j hjl
      have hcl := hcs j hjl
      have hb := World.block_lt_of_cell? w _ hcl
      have hxd := HA.out.dg.at j hjl
      clear hcs
      generalize l[j] = x at *
      have HCL := Lib.hid hcl
      clear hcl
      go_wp2_with (fail)
      go_loopw [7, 8] (fun c k wr => RowI x m pre os w p c k wr) (fun _ k _ => m.length - (intOf k).toNat)
      case atStart =>
        unfold RowI
        exact ⟨0, 0, [], os, by go_num, by go_num, by omega, by rw [List.nil_append]; exact HZr.out, rfl, rfl, HD.out, by omega, by omega, rfl, hx⟩
      case round =>
        unfold RowI at hrel
        obtain ⟨k, c, pre2, os2, rfl, rfl, hk, hZ2, hpre2, hos2, hD2, hc0, hc1, hR, hx2⟩ := hrel
        obtain ⟨o, os3, rfl⟩ : ∃ o os3, os2 = o :: os3 := by
          cases os2 with
          | nil => simp at hos2; omega
          | cons o os3 => exact ⟨o, os3, rfl⟩
        have HZ2 := Lib.hid hZ2
        have HR := Lib.hid hR
        have HD2 := Lib.hid hD2
        have hod := hD2.head
        have hix : (pre ++ (pre2 ++ o :: os3)).length = l.length + m.length := by simp at hos2 ⊢; omega
        have hcz := hZ2.cell (j + k) (by rw [hix]; omega)
        have hgz : (pre ++ (pre2 ++ o :: os3))[j + k]'(by rw [hix]; omega) = o := by
          rw [List.getElem_append_right (by omega), List.getElem_append_right (by omega)]
          simp only [show j + k - pre.length - pre2.length = 0 by omega, List.getElem_cons_zero]
        rw [hgz] at hcz
        have hfz := hZ2.free (j + k)
        have hlz := hZ2.lt
        have HS := Lib.hid (fun z : Int => hZ2.set' (j + k) z)
        have HSE := Lib.hid (show ∀ z : Int, (pre ++ (pre2 ++ o :: os3)).set (j + k) z = pre ++ ((pre2 ++ [z]) ++ os3) by
          intro z
          rw [List.set_append_right _ _ (by omega), List.set_append_right _ _ (by omega), show j + k - pre.length - pre2.length = 0 by omega]
          simp)
        clear hZ2 hR hD2 hgz
        have k3 : (0 : Int) ≤ (k : Int) := by omega
        have k4 : (0 : Int) ≤ (j : Int) + (k : Int) := by omega
        have k5 : ((j : Int) + (k : Int)).toNat = j + k := by omega
        have k6 : IntKind.i64.wrap ((j : Int) + (k : Int)) = (j : Int) + (k : Int) := by rw [IntKind.wrap_i64]; omega
        have k7 : (j : Int) + (k : Int) < ((l.length + m.length : Nat) : Int) := by omega
        by_cases hkm : k < m.length
        · have k8 : (k : Int) < (m.length : Int) := by omega
          have hcl := (hx2.cells.1 _ _ hb).trans HCL.out
          have hbl := Nat.lt_of_lt_of_le hb hx2.size
          obtain ⟨b', off', rfl, -, hcs⟩ := HB.out.block k hkm
          have hcm := hcs k hkm
          have hb' := World.block_lt_of_cell? w _ hcm
          replace hcm := (hx2.cells.1 _ _ hb').trans hcm
          have hbm := Nat.lt_of_lt_of_le hb' hx2.size
          have hyd := HB.out.dg.at k hkm
          have HRT := Lib.hid (rowL_step x c o m[k] os3 m k hkm)
          clear hcs
          generalize m[k] = y at *
          obtain ⟨m0, m1⟩ := mul_digit hxd hyd
          have k9 : IntKind.i64.wrap (x * y) = x * y := by rw [IntKind.wrap_i64]; omega
          have k10 : IntKind.i64.wrap (o + x * y) = o + x * y := by rw [IntKind.wrap_i64]; omega
          have k11 : IntKind.i64.wrap (o + x * y + c) = o + x * y + c := by rw [IntKind.wrap_i64]; omega
          have k12 : (o + x * y + c).tmod 65536 = (o + x * y + c) % 65536 := Int.tmod_eq_emod_of_nonneg (by omega)
          have k13 : (o + x * y + c).tdiv 65536 = (o + x * y + c) / 65536 := Int.tdiv_eq_ediv_of_nonneg (by omega)
          go_upto_region 9 with (fail)
          go_quiet (fail)
          go_wp2
          go_roundw
          case rel =>
            unfold RowI
            refine ⟨k + 1, (o + x * y + c) / 65536, pre2 ++ [(o + x * y + c) % 65536], os3, by go_num, rfl, by omega, ?_, by simp [hpre2], by simp at hos2; omega, HD2.out.tail, by omega, by omega, ?_, Below.setCell (hx2.trans ((by with_reducible repeat (first | exact Ext.refl _ | assumption | apply Ext.drewN | apply Ext.drew | apply Ext.alloc | (refine Ext.setCell ?_ (by simp <;> omega) _) | (refine Ext.trans ?_ (by assumption)))) : Ext wr (wr.drewN nq))) (by have := HPE.out; show _ ≤ p; omega) _⟩
            · have h1 := (HZ2.out.ext ((by with_reducible repeat (first | exact Ext.refl _ | assumption | apply Ext.drewN | apply Ext.drew | apply Ext.alloc | (refine Ext.setCell ?_ (by simp <;> omega) _) | (refine Ext.trans ?_ (by assumption)))) : Ext wr (wr.drewN nq))).set' (j + k) ((o + x * y + c) % 65536)
              rw [HSE.out] at h1
              exact h1
            · rw [HR.out, HRT.out]; simp
          case measure => simp [intOf]; omega
        · have k8 : ¬ (k : Int) < (m.length : Int) := by omega
          have HRE : Hid (rowL x 0 os m = pre2 ++ c :: os3) := Lib.hid (by rw [HR.out, rowL_end x c o os3 m k (by omega)])
          obtain rfl : k = m.length := by omega
          clear HD2
          go_wp2
          go_roundw
          case rel =>
            have h1 := HRS.out
            have h2 := HZ2.out.set' (j + m.length) c
            rw [HSE.out, List.append_assoc, List.singleton_append, ← HRE.out] at h2
            have h3 := HMT.out
            generalize rowL x 0 os m = rr at *
            cases rr with
            | nil => have := h1.2.2.1; simp at this; omega
            | cons r0 r =>
              obtain ⟨q1, q2, q3, q4⟩ := h1
              unfold TimesI
              refine ⟨j + 1, pre ++ [r0], r, by go_num, by omega, by simpa using h2, by simp [hpre], by simp at q3; omega, q1.tail, fun k hk hk2 => q4 (k + 1) (by simpa using hk) (by omega), ?_, Below.setCell hx2 (by have := HPE.out; show _ ≤ p; omega) _⟩
              rw [HE.out, h3 r0 r rfl]; simp
          case measure => simp [intOf]; omega
    · have k2 : ¬ (j : Int) < (l.length : Int) := by omega
      have HDR := Lib.hid (show DR wr (.slice (some ⟨p, 0, none⟩) (l.length + m.length) (l.length + m.length)) (mulL l m (List.replicate (l.length + m.length) 0)) by
        have h1 := HE.out
        obtain ⟨q1, q2, q3⟩ := HMS.out
        rw [List.drop_eq_nil_of_le (show l.length ≤ j by omega), mulL] at h1
        have h2 := HZr.out
        rw [← h1] at h2
        rw [List.length_replicate] at q3
        have h3 := h2.dr (by omega) q1
        rwa [q3] at h3)
      go_wp2_with (go_at_call 79; (with_reducible refine (trim_any _ _ _ HDR.out).mono ?_); rintro e w8 ⟨x8, rfl, hx8, hd8⟩)
      go_ret
      exact ⟨_, rfl, hx.trans hx8, hd8⟩
end Go.Proofs.Ytgkdeknfmmgbdaa

namespace Go.Proofs.Ytgkdeknfmmgbdaa
set_option linter.unusedVariables false
set_option linter.unusedSimpArgs false
open Go.RowKit

def timesL (l m : List Int) : List Int := trimL (mulL l m (List.replicate (l.length + m.length) 0))
theorem dv_zeros (n : Nat) : dv (List.replicate n 0) = 0 := by
  induction n with
  | zero => rfl
  | succ n ih => rw [List.replicate_succ, dv, ih]; rfl
theorem timesL_spec (l m : List Int) (h : Dg l) (h' : Dg m) : Dg (timesL l m) ∧ Tr (timesL l m) ∧ dv (timesL l m) = dv l * dv m ∧ (timesL l m).length ≤ l.length + m.length := by
  obtain ⟨q1, q2, q3⟩ := mulL_spec l m (List.replicate (l.length + m.length) 0) h h' (fun d hd => by rw [List.eq_of_mem_replicate hd]; omega) (by simp) (fun k hk _ => by simp)
  obtain ⟨r1, r2, r3, r4⟩ := trimL_spec _ q1
  refine ⟨r1, r2, ?_, ?_⟩
  · unfold timesL; rw [r3, q2, dv_zeros]; omega
  · unfold timesL; rw [q3, List.length_replicate] at r4; exact r4

set_option maxRecDepth 100000 in
set_option maxHeartbeats 1000000 in
theorem by_any (l : List Int) (d : Int) (w : World) (v : Value) (h : DR w v l) (hl : l.length ≤ 100) (hd : 0 ≤ d ∧ d < 65536) :
    Calls Try.prog 99 #[v, .int .i64 d] w fun e w' => ∃ x, e = .returned x ∧ Ext w w' ∧ DR w' x (timesL l [d]) := by
  obtain ⟨A, ca, rfl⟩ := h.form
  have HA := Lib.hid h
  have hZ : BZ (w.alloc (.cells #[.int .i64 d] 3)) w.heap.size [d] := block_new rfl
  have hx1 : Ext w (w.alloc (.cells #[.int .i64 d] 3)) := (by with_reducible repeat (first | exact Ext.refl _ | assumption | apply Ext.drewN | apply Ext.drew | apply Ext.alloc | (refine Ext.setCell ?_ (by simp <;> omega) _) | (refine Ext.trans ?_ (by assumption))))
  have HD := Lib.hid (show DR _ (.slice (some ⟨w.heap.size, 0, none⟩) 1 1) [d] from hZ.dr (by simp) (Dg.cons hd Dg.nil))
  have HX := Lib.hid hx1
  clear h hZ hx1
  go_enter Try.func99, Try.ntmps99
  go_wp2_with (go_at_call 84; (with_reducible refine (times_any l [d] _ _ _ (HA.out.ext HX.out) HD.out hl (by simp)).mono ?_); rintro e w8 ⟨x8, rfl, hx8, hd8⟩)
  go_ret
  exact ⟨_, rfl, HX.out.trans hx8, hd8⟩

/-- The digits of a number. -/
def ofF : Nat → Int → List Int
  | 0, _ => []
  | f + 1, m => if 0 < m then m % 65536 :: ofF f (m / 65536) else []
theorem ofF_spec : ∀ (f : Nat) (m : Int), 0 ≤ m → m < 65536 ^ f → Dg (ofF f m) ∧ Tr (ofF f m) ∧ dv (ofF f m) = m ∧ (ofF f m).length ≤ f
  | 0, m, h0, h1 => ⟨Dg.nil, .inl rfl, by simp at h1; simp [ofF, dv]; omega, Nat.le_refl _⟩
  | f + 1, m, h0, h1 => by
    rw [ofF]
    split
    · rw [Int.pow_succ] at h1
      obtain ⟨q1, q2, q3, q4⟩ := ofF_spec f (m / 65536) (by omega) (by omega)
      refine ⟨Dg.cons (by omega) q1, ?_, by rw [dv, q3]; omega, by simp; omega⟩
      rcases q2 with h | ⟨p, d, h, hn⟩
      · rw [h] at q3 ⊢
        exact .inr ⟨[], m % 65536, rfl, by simp only [dv] at q3; omega⟩
      · exact .inr ⟨m % 65536 :: p, d, by rw [h]; rfl, hn⟩
    · exact ⟨Dg.nil, .inl rfl, by simp only [dv]; omega, by simp⟩
def ofL (m : Int) : List Int := ofF 4 m
theorem ofL_spec (m : Int) (h0 : 0 ≤ m) (h1 : m ≤ 18446744073709551615) : Dg (ofL m) ∧ Tr (ofL m) ∧ dv (ofL m) = m ∧ (ofL m).length ≤ 4 := ofF_spec 4 m h0 (by omega)
theorem OZ.form {B : Nat} {w : World} {v : Value} {os : List Int} (h : OZ B w v os) : ∃ A cap, v = .slice A os.length cap := by
  rcases h.2 with ⟨hv, h0⟩ | ⟨g, cap, cur, hv, -⟩
  · exact ⟨none, 0, by rw [hv, h0]⟩
  · exact ⟨_, cap, hv⟩
theorem OZ.keep {B : Nat} {w w' : World} {v : Value} {os : List Int} (ho : OZ B w v os) (h : ∀ g, B ≤ g → w'.heap[g]? = w.heap[g]?) : OZ B w' v os := by
  refine ⟨ho.1, ?_⟩
  rcases ho.2 with hn | ⟨g, cap, cur, hv, hb, hg, rest⟩
  · exact .inl hn
  · exact .inr ⟨g, cap, cur, hv, hb, (h g hb).trans hg, rest⟩
/-- A number with its sign: what it reads as. -/
def BgR (w : World) (v : Value) (s : Bool) (l : List Int) : Prop := ∃ x : Sl, v = .agg #[.bool s, slV x] ∧ DR w (slV x) l
theorem BgR.ext {w w' : World} {v : Value} {s : Bool} {l : List Int} (h : BgR w v s l) (e : Ext w w') : BgR w' v s l := by
  obtain ⟨x, h1, h2⟩ := h; exact ⟨x, h1, h2.ext e⟩
def OfI (z : Int) (w : World) (p : Nat) (l m : Value) (wr : World) : Prop :=
  ∃ (f : Nat) (y : Int) (os : List Int), m = .int .u64 y ∧ 0 ≤ y ∧ y ≤ 18446744073709551615 ∧ y < 65536 ^ f ∧ f ≤ 4 ∧ OZ (w.heap.size + 1) wr l os ∧ os.length + f = 4 ∧ ofL (z.natAbs : Int) = os ++ ofF f y ∧ wr.heap[p]? = some (.cells #[.bool false, .slice none 0 0] 97) ∧ Ext w wr

set_option maxRecDepth 100000 in
set_option maxHeartbeats 1000000 in
theorem bof_any (z : Int) (w : World) (h1 : -9223372036854775808 ≤ z) (h2 : z ≤ 9223372036854775807) :
    Calls Try.prog 56 #[.int .i64 z] w fun e w' => ∃ v, e = .returned v ∧ Ext w w' ∧ BgR w' v (decide (z < 0)) (ofL z.natAbs) := by
  by_cases hneg : z < 0
  · have hw1 : IntKind.u64.wrap z = z + 18446744073709551616 := by rw [IntKind.wrap_u64]; omega
    have hw2 : IntKind.u64.wrap (-(z + 18446744073709551616)) = -z := by rw [IntKind.wrap_u64]; omega
    have HW := Lib.hid (show Value.int .u64 (-z) = Value.int .u64 (z.natAbs : Int) by congr 1; omega)
    go_enter Try.func56, Try.ntmps56
    go_wp2_with (fail)
    go_loopw [3, 4] (fun l m wr => OfI z w w.heap.size l m wr) (fun _ m _ => (intOf m).toNat)
    case atStart =>
      unfold OfI
      exact ⟨4, z.natAbs, [], by first | exact HW.out | rfl, by omega, by omega, by omega, by omega, OZ.nil _ _, rfl, rfl, block_new rfl, (by with_reducible repeat (first | exact Ext.refl _ | assumption | apply Ext.drewN | apply Ext.drew | apply Ext.alloc | (refine Ext.setCell ?_ (by simp <;> omega) _) | (refine Ext.trans ?_ (by assumption))))⟩
    case round =>
      unfold OfI at hrel
      obtain ⟨f, y, os, rfl, hy0, hy1, hyf, hf, hF, hl, hE, hp, hx⟩ := hrel
      have HF := Lib.hid hF
      have HE := Lib.hid hE
      have HP := Lib.hid hp
      have HL := Lib.hid hl
      clear hF hE hp hl
      by_cases hpos : 0 < y
      · obtain ⟨f, rfl⟩ : ∃ g, f = g + 1 := by
          rcases f with _ | g
          · simp at hyf; omega
          · exact ⟨g, rfl⟩
        have HYF := Lib.hid (show y / 65536 < 65536 ^ f by rw [Int.pow_succ] at hyf; omega)
        have HS := Lib.hid (show ofF (f + 1) y = y % 65536 :: ofF f (y / 65536) by rw [ofF, if_pos hpos])
        clear hyf
        have k4 : y.tmod 65536 = y % 65536 := Int.tmod_eq_emod_of_nonneg (by omega)
        have k5 : y.tdiv 65536 = y / 65536 := Int.tdiv_eq_ediv_of_nonneg (by omega)
        have k6 : IntKind.i64.wrap (y % 65536) = y % 65536 := by rw [IntKind.wrap_i64]; omega
        have k7 : IntKind.u64.wrap (y % 65536) = y % 65536 := by rw [IntKind.wrap_u64]; omega
        have k8 : IntKind.u64.wrap (y / 65536) = y / 65536 := by rw [IntKind.wrap_u64]; omega
        go_wp2_with (at_builtin; refine append_z rfl (.tmp 13) (.tmp 17) rfl (w.heap.size + 1) _ os (by rfl) (HF.out.ext (by with_reducible repeat (first | exact Ext.refl _ | assumption | apply Ext.drewN | apply Ext.drew | apply Ext.alloc | (refine Ext.setCell ?_ (by simp <;> omega) _) | (refine Ext.trans ?_ (by assumption))))) wr.heap.size (y % 65536) (by rfl) (block_new (by simp)) (by have := HL.out; omega) (by have := Rg.lt_of_heap HP.out; simp; omega) ?_; intro g7 cap7 w7 hF7 hb7)
        have HF7 := Lib.hid hF7
        clear hF7
        go_wp2
        go_roundw
        case rel =>
          unfold OfI
          exact ⟨f, y / 65536, os ++ [y % 65536], rfl, by omega, by omega, HYF.out, by omega, HF7.out, by have := HL.out; simp; omega, by rw [HE.out, HS.out]; simp, (hb7.block _ (by omega)).trans ((Below.heap_alloc _ _ _ (by exact Rg.lt_of_heap HP.out)).trans HP.out), Below.trans (hx.trans ((by with_reducible repeat (first | exact Ext.refl _ | assumption | apply Ext.drewN | apply Ext.drew | apply Ext.alloc | (refine Ext.setCell ?_ (by simp <;> omega) _) | (refine Ext.trans ?_ (by assumption)))) : Ext wr (wr.alloc (.cells #[.int .i64 (y % 65536)] 3)))) (hb7.mono (by omega))⟩
        case measure => simp [intOf]; omega
      · have hy : y = 0 := by omega
        subst hy
        have HD := Lib.hid (show OZ (w.heap.size + 1) wr _ (ofL z.natAbs) by
          have h1 := HE.out
          rw [show ofF f 0 = [] by cases f <;> simp [ofF], List.append_nil] at h1
          rw [h1]
          exact HF.out)
        have HS4 := Lib.hid (ofL_spec z.natAbs (by omega) (by omega))
        obtain ⟨A3, c3, rfl⟩ := HD.out.form
        have HN := Lib.hid (show (ofL z.natAbs).length = (ofL z.natAbs).length from rfl)
        revert HN
        generalize hn3 : (ofL z.natAbs).length = n3 at *
        intro HN
        obtain ⟨hc, hf, hl⟩ := Rg.cells_of HP.out
        have f0 := hf 0
        have f1 := hf 1
        have c0 := hc 0
        have c1 := hc 1
        have hR : ((wr.setCell ⟨w.heap.size, 0, none⟩ (.bool true)).setCell ⟨w.heap.size, 1, none⟩ (.slice A3 n3 c3)).heap[w.heap.size]? = some (.cells #[.bool true, .slice A3 n3 c3] 97) := heap_setCell_same _ _ 1 _ 97 _ (heap_setCell_same _ _ 0 _ 97 _ HP.out)
        have HR := Lib.hid hR
        clear hc hf hR
        go_wp2
        refine bodyPost_ret (v := .agg #[.bool true, .slice A3 n3 c3]) (results_cell_row Try.results56 _ _ w.heap.size 97 _ _ _ (by rfl) HR.out Try.underlying97 rfl (by kernel_rfl)) rfl ⟨_, rfl, Below.setCell (Below.setCell hx (by show _ ≤ w.heap.size; omega) _) (by show _ ≤ w.heap.size; omega) _, (A3, n3, c3), rfl, ?_⟩
        exact OZ.dr (B := w.heap.size + 1) (OZ.keep HD.out (fun g hg => (heap_setCell_other _ ⟨w.heap.size, 1, none⟩ _ _ (by show g ≠ w.heap.size; omega)).trans (heap_setCell_other _ ⟨w.heap.size, 0, none⟩ _ _ (by show g ≠ w.heap.size; omega)))) (by have := HS4.out.2.2.2; omega) HS4.out.1
  · have hw1 : IntKind.u64.wrap z = z := by rw [IntKind.wrap_u64]; omega
    have HW := Lib.hid (show Value.int .u64 z = Value.int .u64 (z.natAbs : Int) by congr 1; omega)
    go_enter Try.func56, Try.ntmps56
    go_wp2_with (fail)
    go_loopw [3, 4] (fun l m wr => OfI z w w.heap.size l m wr) (fun _ m _ => (intOf m).toNat)
    case atStart =>
      unfold OfI
      exact ⟨4, z.natAbs, [], by first | exact HW.out | rfl, by omega, by omega, by omega, by omega, OZ.nil _ _, rfl, rfl, block_new rfl, (by with_reducible repeat (first | exact Ext.refl _ | assumption | apply Ext.drewN | apply Ext.drew | apply Ext.alloc | (refine Ext.setCell ?_ (by simp <;> omega) _) | (refine Ext.trans ?_ (by assumption))))⟩
    case round =>
      unfold OfI at hrel
      obtain ⟨f, y, os, rfl, hy0, hy1, hyf, hf, hF, hl, hE, hp, hx⟩ := hrel
      have HF := Lib.hid hF
      have HE := Lib.hid hE
      have HP := Lib.hid hp
      have HL := Lib.hid hl
      clear hF hE hp hl
      by_cases hpos : 0 < y
      · obtain ⟨f, rfl⟩ : ∃ g, f = g + 1 := by
          rcases f with _ | g
          · simp at hyf; omega
          · exact ⟨g, rfl⟩
        have HYF := Lib.hid (show y / 65536 < 65536 ^ f by rw [Int.pow_succ] at hyf; omega)
        have HS := Lib.hid (show ofF (f + 1) y = y % 65536 :: ofF f (y / 65536) by rw [ofF, if_pos hpos])
        clear hyf
        have k4 : y.tmod 65536 = y % 65536 := Int.tmod_eq_emod_of_nonneg (by omega)
        have k5 : y.tdiv 65536 = y / 65536 := Int.tdiv_eq_ediv_of_nonneg (by omega)
        have k6 : IntKind.i64.wrap (y % 65536) = y % 65536 := by rw [IntKind.wrap_i64]; omega
        have k7 : IntKind.u64.wrap (y % 65536) = y % 65536 := by rw [IntKind.wrap_u64]; omega
        have k8 : IntKind.u64.wrap (y / 65536) = y / 65536 := by rw [IntKind.wrap_u64]; omega
        go_wp2_with (at_builtin; refine append_z rfl (.tmp 13) (.tmp 17) rfl (w.heap.size + 1) _ os (by rfl) (HF.out.ext (by with_reducible repeat (first | exact Ext.refl _ | assumption | apply Ext.drewN | apply Ext.drew | apply Ext.alloc | (refine Ext.setCell ?_ (by simp <;> omega) _) | (refine Ext.trans ?_ (by assumption))))) wr.heap.size (y % 65536) (by rfl) (block_new (by simp)) (by have := HL.out; omega) (by have := Rg.lt_of_heap HP.out; simp; omega) ?_; intro g7 cap7 w7 hF7 hb7)
        have HF7 := Lib.hid hF7
        clear hF7
        go_wp2
        go_roundw
        case rel =>
          unfold OfI
          exact ⟨f, y / 65536, os ++ [y % 65536], rfl, by omega, by omega, HYF.out, by omega, HF7.out, by have := HL.out; simp; omega, by rw [HE.out, HS.out]; simp, (hb7.block _ (by omega)).trans ((Below.heap_alloc _ _ _ (by exact Rg.lt_of_heap HP.out)).trans HP.out), Below.trans (hx.trans ((by with_reducible repeat (first | exact Ext.refl _ | assumption | apply Ext.drewN | apply Ext.drew | apply Ext.alloc | (refine Ext.setCell ?_ (by simp <;> omega) _) | (refine Ext.trans ?_ (by assumption)))) : Ext wr (wr.alloc (.cells #[.int .i64 (y % 65536)] 3)))) (hb7.mono (by omega))⟩
        case measure => simp [intOf]; omega
      · have hy : y = 0 := by omega
        subst hy
        have HD := Lib.hid (show OZ (w.heap.size + 1) wr _ (ofL z.natAbs) by
          have h1 := HE.out
          rw [show ofF f 0 = [] by cases f <;> simp [ofF], List.append_nil] at h1
          rw [h1]
          exact HF.out)
        have HS4 := Lib.hid (ofL_spec z.natAbs (by omega) (by omega))
        obtain ⟨A3, c3, rfl⟩ := HD.out.form
        have HN := Lib.hid (show (ofL z.natAbs).length = (ofL z.natAbs).length from rfl)
        revert HN
        generalize hn3 : (ofL z.natAbs).length = n3 at *
        intro HN
        obtain ⟨hc, hf, hl⟩ := Rg.cells_of HP.out
        have f0 := hf 0
        have f1 := hf 1
        have c0 := hc 0
        have c1 := hc 1
        have hR : ((wr.setCell ⟨w.heap.size, 0, none⟩ (.bool (decide (z < 0)))).setCell ⟨w.heap.size, 1, none⟩ (.slice A3 n3 c3)).heap[w.heap.size]? = some (.cells #[.bool (decide (z < 0)), .slice A3 n3 c3] 97) := heap_setCell_same _ _ 1 _ 97 _ (heap_setCell_same _ _ 0 _ 97 _ HP.out)
        have HR := Lib.hid hR
        clear hc hf hR
        go_wp2
        refine bodyPost_ret (v := .agg #[.bool (decide (z < 0)), .slice A3 n3 c3]) (results_cell_row Try.results56 _ _ w.heap.size 97 _ _ _ (by rfl) HR.out Try.underlying97 rfl (by kernel_rfl)) rfl ⟨_, rfl, Below.setCell (Below.setCell hx (by show _ ≤ w.heap.size; omega) _) (by show _ ≤ w.heap.size; omega) _, (A3, n3, c3), rfl, ?_⟩
        exact OZ.dr (B := w.heap.size + 1) (OZ.keep HD.out (fun g hg => (heap_setCell_other _ ⟨w.heap.size, 1, none⟩ _ _ (by show g ≠ w.heap.size; omega)).trans (heap_setCell_other _ ⟨w.heap.size, 0, none⟩ _ _ (by show g ≠ w.heap.size; omega)))) (by have := HS4.out.2.2.2; omega) HS4.out.1
end Go.Proofs.Ytgkdeknfmmgbdaa

namespace Go.Proofs.Ytgkdeknfmmgbdaa
set_option linter.unusedVariables false
set_option linter.unusedSimpArgs false
open Go.RowKit

/-- A number as an int, and whether it fits. -/
def fitZ (s : Bool) (n : Int) : Int × Bool := if s = true ∧ n ≤ 9223372036854775808 then (-n, true) else if 9223372036854775808 ≤ n then (0, false) else (n, true)

set_option maxRecDepth 100000 in
set_option maxHeartbeats 1000000 in
theorem fit_any (s : Bool) (l : List Int) (w : World) (v : Value) (h : BgR w v s l) :
    Calls Try.prog 80 #[v] w fun e w' => e = .returned (.tuple #[.int .i64 (fitZ s (dv l)).1, .bool (fitZ s (dv l)).2]) ∧ Ext w w' := by
  obtain ⟨⟨A, n0, ca⟩, rfl, hA⟩ := h
  have HA := Lib.hid hA
  obtain ⟨q1, q2, q3, q4⟩ := trimL_spec l hA.dg
  have HQ := Lib.hid (show Dg (trimL l) ∧ Tr (trimL l) from ⟨q1, q2⟩)
  have HB := Lib.hid (show 4 < (trimL l).length → 18446744073709551616 ≤ dv l by
    intro h4
    have h5 := q2.ge q1 (by intro e; rw [e] at h4; simp at h4)
    have h6 := pow_mono (a := 4) (b := (trimL l).length - 1) (by omega)
    rw [q3] at h5
    omega)
  have HS := Lib.hid (show (trimL l).length ≤ 4 → dv l < 18446744073709551616 by
    intro h4
    have h5 := dv_lt q1
    have h6 := pow_mono (a := (trimL l).length) (b := 4) h4
    rw [q3] at h5
    omega)
  have HV := Lib.hid q3
  have h100 : (trimL l).length ≤ 1000 := Nat.le_trans q4 hA.le
  clear q1 q2 q3 q4 hA
  have HTr := Lib.hid (fun w v h => trim_any l w v h)
  generalize trimL l = t at *
  generalize dv l = n at *
  have hC : (w.alloc (.cells #[.bool s, .slice A n0 ca] 97)).heap[w.heap.size]? = some (.cells #[.bool s, .slice A n0 ca] 97) := block_new rfl
  obtain ⟨hc, hf, hlt⟩ := Rg.cells_of hC
  have c0 := hc 0
  have c1 := hc 1
  have HX := Lib.hid ((by with_reducible repeat (first | exact Ext.refl _ | assumption | apply Ext.drewN | apply Ext.drew | apply Ext.alloc | (refine Ext.setCell ?_ (by simp <;> omega) _) | (refine Ext.trans ?_ (by assumption)))) : Ext w (w.alloc (.cells #[.bool s, .slice A n0 ca] 97)))
  go_enter Try.func80, Try.ntmps80
  go_upto_region 2 with (go_at_call 79; (with_reducible refine (HTr.out _ _ (HA.out.ext HX.out)).mono ?_); rintro e w1 ⟨x1, rfl, hx1, hd1⟩)
  have c0' := (hx1.cells.1 _ _ hlt).trans c0
  have hlt' := Nat.lt_of_lt_of_le hlt hx1.size
  have HD := Lib.hid hd1
  have HXw := Lib.hid (HX.out.trans hx1)
  obtain ⟨A1, k1, rfl⟩ := hd1.form
  have hp0 : (#[Value.bool s, Value.slice A n0 ca][0]? : Option Value) = some (.bool s) := rfl
  rw [hp0] at c0'
  clear hc hf c0 c1 hC hd1 HTr HA HX hp0 hlt
  by_cases h4 : 4 < t.length
  · have hE := Lib.hid (show fitZ s n = (0, false) by
      have := HB.out h4
      unfold fitZ; rw [if_neg (by omega), if_pos (by omega)])
    have k2 : (4 : Int) < (t.length : Int) := by omega
    go_wp2
    go_ret2
    exact ⟨by rw [hE.out]; rfl, HXw.out⟩
  · have k2 : ¬ (4 : Int) < (t.length : Int) := by omega
    have hnb := HS.out (by omega)
    generalize w.heap.size = pc at *
    go_wp2_with (fail)
    go_loopw [5, 6] (fun m k wr => ∃ j : Nat, k = .int .i64 ((j : Int) - 1) ∧ j ≤ t.length ∧ m = .int .u64 (dv (t.drop j)) ∧ wr = w1) (fun _ k _ => (intOf k + 1).toNat)
    case atStart => exact ⟨t.length, by go_num, Nat.le_refl _, by rw [List.drop_eq_nil_of_le (Nat.le_refl _)]; rfl, rfl⟩
    case round =>
      obtain ⟨j, rfl, hj, rfl, rfl⟩ := hrel
      rcases j with _ | j
      · have hn0 : dv (t.drop 0) = n := HV.out
        have hnn : 0 ≤ n := by rw [← hn0]; exact dv_nonneg HQ.out.1
        rw [hn0]
        clear hn0
        cases s
        · by_cases hbig : 9223372036854775808 ≤ n
          · have hE := Lib.hid (show fitZ false n = (0, false) by unfold fitZ; rw [if_neg (by simp), if_pos hbig])
            go_wp2
            go_ret2
            exact ⟨by rw [hE.out]; rfl, HXw.out⟩
          · have hE := Lib.hid (show fitZ false n = (n, true) by unfold fitZ; rw [if_neg (by simp), if_neg hbig])
            have k6 : IntKind.i64.wrap n = n := by rw [IntKind.wrap_i64]; omega
            go_wp2
            go_ret2
            exact ⟨by rw [hE.out]; rfl, HXw.out⟩
        · by_cases hsm : n ≤ 9223372036854775808
          · have hE := Lib.hid (show fitZ true n = (-n, true) by unfold fitZ; rw [if_pos ⟨rfl, hsm⟩])
            have k6 : IntKind.i64.wrap (IntKind.u64.wrap (-n)) = -n := by rw [IntKind.wrap_u64, IntKind.wrap_i64]; omega
            go_wp2
            go_ret2
            exact ⟨by rw [hE.out]; rfl, HXw.out⟩
          · have hE := Lib.hid (show fitZ true n = (0, false) by unfold fitZ; rw [if_neg (by omega), if_pos (by omega)])
            have k6 : 9223372036854775808 ≤ n := by omega
            go_wp2
            go_ret2
            exact ⟨by rw [hE.out]; rfl, HXw.out⟩
      · obtain ⟨b, off, rfl, -, hcs⟩ := HD.out.block j (by omega)
        have hc := hcs j (by omega)
        have hb := World.block_lt_of_cell? _ _ hc
        have hdd := HQ.out.1.at j (by omega)
        have HE := Lib.hid (show dv (t.drop j) = t[j] + 65536 * dv (t.drop (j + 1)) by rw [List.drop_eq_getElem_cons (show j < t.length by omega), dv])
        have h5 := dv_lt (HQ.out.1.drop j)
        have h6 := pow_mono (a := (t.drop j).length) (b := 4) (by rw [List.length_drop]; omega)
        have h7 := dv_nonneg (HQ.out.1.drop (j + 1))
        have k3 : ((j + 1 : Nat) : Int) - 1 = (j : Int) := by omega
        rw [k3]
        have k4 : (j : Int) < (t.length : Int) := by omega
        have k5 : (0 : Int) ≤ (j : Int) := by omega
        generalize hz : t[j] = z at *
        rw [HE.out] at h5
        generalize dv (t.drop (j + 1)) = D at *
        have k6 : IntKind.u64.wrap (D * 65536) = D * 65536 := by rw [IntKind.wrap_u64]; omega
        have k7 : IntKind.u64.wrap z = z := by rw [IntKind.wrap_u64]; omega
        have k8 : IntKind.u64.wrap (D * 65536 + z) = D * 65536 + z := by rw [IntKind.wrap_u64]; omega
        clear h5 h6 hcs hz k3
        go_wp2
        go_roundw
        case rel => exact ⟨j, by go_num, by omega, by rw [HE.out]; congr 1; omega, trivial⟩
        case measure => simp [intOf]
end Go.Proofs.Ytgkdeknfmmgbdaa

namespace Go.Proofs.Ytgkdeknfmmgbdaa
set_option linter.unusedVariables false
set_option linter.unusedSimpArgs false
open Go.RowKit

/-- Digits never lie in a block that holds a number with its sign. -/
theorem DR.set {w : World} {v : Value} {l : List Int} (h : DR w v l) {p : Nat} {a : Bool} {x : Option Addr} {y z : Nat} (hp : w.heap[p]? = some (.cells #[.bool a, .slice x y z] 97)) (i : Nat) (u : Value) : DR (w.setCell ⟨p, i, none⟩ u) v l := by
  obtain ⟨A, cap, h1, h2, h3, h5, h4⟩ := h
  refine ⟨A, cap, h1, h2, h3, h5, h4.imp id fun ⟨b, off, ha, hc⟩ => ⟨b, off, ha, fun k hk => ?_⟩⟩
  have hk1 := hc k hk
  by_cases hb : b = p
  · subst hb
    rw [(Rg.cells_of hp).1] at hk1
    exfalso
    match off + k, hk1 with
    | 0, h => simp at h
    | 1, h => simp at h
    | n + 2, h => simp at h
  · rw [← hk1]
    unfold World.cell?
    simp only
    rw [heap_setCell_other w ⟨p, i, none⟩ b u hb]

set_option maxRecDepth 100000 in
set_option maxHeartbeats 1000000 in
theorem bmul_any (s t : Bool) (l m : List Int) (w : World) (v u : Value) (h : BgR w v s l) (h' : BgR w u t m) (hl : l.length ≤ 100) (hm : m.length ≤ 100) :
    Calls Try.prog 55 #[v, u] w fun e w' => ∃ x, e = .returned x ∧ Ext w w' ∧ BgR w' x (s != t) (timesL l m) := by
  obtain ⟨⟨A, n0, ca⟩, rfl, hA⟩ := h
  obtain ⟨⟨B, n1, cb⟩, rfl, hB⟩ := h'
  have HA := Lib.hid hA
  have HB := Lib.hid hB
  clear hA hB
  show Calls Try.prog 55 #[.agg #[.bool s, .slice A n0 ca], .agg #[.bool t, .slice B n1 cb]] w _
  replace HA : Hid (DR w (.slice A n0 ca) l) := HA
  replace HB : Hid (DR w (.slice B n1 cb) m) := HB
  go_enter Try.func55, Try.ntmps55
  go_upto_region 1 with (fail)
  have hW : Ext w (((w.alloc (.cells #[.bool s, .slice A n0 ca] 97)).alloc (.cells #[.bool t, .slice B n1 cb] 97)).alloc (.cells #[.bool false, .slice none 0 0] 97)) := (by with_reducible repeat (first | exact Ext.refl _ | assumption | apply Ext.drewN | apply Ext.drew | apply Ext.alloc | (refine Ext.setCell ?_ (by simp <;> omega) _) | (refine Ext.trans ?_ (by assumption))))
  have hC0 : (((w.alloc (.cells #[.bool s, .slice A n0 ca] 97)).alloc (.cells #[.bool t, .slice B n1 cb] 97)).alloc (.cells #[.bool false, .slice none 0 0] 97)).heap[w.heap.size]? = some (.cells #[.bool s, .slice A n0 ca] 97) := by
    rw [Below.heap_alloc _ _ _ (by simp; omega), Below.heap_alloc _ _ _ (by simp)]; exact block_new rfl
  have hC1 : (((w.alloc (.cells #[.bool s, .slice A n0 ca] 97)).alloc (.cells #[.bool t, .slice B n1 cb] 97)).alloc (.cells #[.bool false, .slice none 0 0] 97)).heap[w.heap.size + 1]? = some (.cells #[.bool t, .slice B n1 cb] 97) := by
    rw [Below.heap_alloc _ _ _ (by simp)]; exact block_new (by simp)
  have hC2 : (((w.alloc (.cells #[.bool s, .slice A n0 ca] 97)).alloc (.cells #[.bool t, .slice B n1 cb] 97)).alloc (.cells #[.bool false, .slice none 0 0] 97)).heap[w.heap.size + 1 + 1]? = some (.cells #[.bool false, .slice none 0 0] 97) := block_new (by simp)
  generalize ((w.alloc (.cells #[.bool s, .slice A n0 ca] 97)).alloc (.cells #[.bool t, .slice B n1 cb] 97)).alloc (.cells #[.bool false, .slice none 0 0] 97) = W at *
  obtain ⟨p, hp⟩ : ∃ p, p = w.heap.size := ⟨_, rfl⟩
  rw [← hp] at hC0 hC1 hC2 ⊢
  have HP := Lib.hid hp
  have HWx := Lib.hid hW
  have HC2 := Lib.hid hC2
  obtain ⟨e0, -, el⟩ := Rg.cells_of hC0
  obtain ⟨e1, -, el1⟩ := Rg.cells_of hC1
  have c00 : W.cell? ⟨p, 0, none⟩ = some (.bool s) := e0 0
  have c01 : W.cell? ⟨p, 1, none⟩ = some (.slice A n0 ca) := e0 1
  have c10 : W.cell? ⟨p + 1, 0, none⟩ = some (.bool t) := e1 0
  have c11 : W.cell? ⟨p + 1, 1, none⟩ = some (.slice B n1 cb) := e1 1
  clear hp hW hC0 hC1 hC2 e0 e1
  refine Rr.wp_region [(0, .y), (1, .y), (2, .y), (3, .y), (4, .y), (5, .y), (6, .y), (7, .y), (8, .y), (9, .z)] (fun _ => (.cells #[] 29, Rg.ptr)) (by kernel_rfl) (by kernel_rfl) ?_
  (refine Rr.wr_y (by simp only [List.getElem?_toArray, List.getElem?_cons_succ, List.getElem?_cons_zero]; rfl) (by rfl) ?_
   apply Exists.intro
   refine ⟨fun wz hw _ => ?_, ?_⟩
   · have hcz := hw.cells.1
     go_simp
     (with_reducible exact Rg.up_value)
   simp only [Act.put, List.setIfInBounds_toArray, List.set_cons_zero, List.set_cons_succ])
  (refine Rr.wr_y (by simp only [List.getElem?_toArray, List.getElem?_cons_succ, List.getElem?_cons_zero]; rfl) (by rfl) ?_
   apply Exists.intro
   refine ⟨fun wz hw _ => ?_, ?_⟩
   · have hcz := hw.cells.1
     go_simp
     (with_reducible exact Rg.up_value)
   simp only [Act.put, List.setIfInBounds_toArray, List.set_cons_zero, List.set_cons_succ])
  (refine Rr.wr_y (by simp only [List.getElem?_toArray, List.getElem?_cons_succ, List.getElem?_cons_zero]; rfl) (by rfl) ?_
   apply Exists.intro
   refine ⟨fun wz hw _ => ?_, ?_⟩
   · have hcz := hw.cells.1
     go_simp
     (with_reducible exact Rg.up_value)
   simp only [Act.put, List.setIfInBounds_toArray, List.set_cons_zero, List.set_cons_succ])
  (refine Rr.wr_y (by simp only [List.getElem?_toArray, List.getElem?_cons_succ, List.getElem?_cons_zero]; rfl) (by rfl) ?_
   apply Exists.intro
   refine ⟨fun wz hw _ => ?_, ?_⟩
   · have hcz := hw.cells.1
     go_simp
     (with_reducible exact Rg.up_value)
   simp only [Act.put, List.setIfInBounds_toArray, List.set_cons_zero, List.set_cons_succ])
  (refine Rr.wr_y (by simp only [List.getElem?_toArray, List.getElem?_cons_succ, List.getElem?_cons_zero]; rfl) (by rfl) ?_
   apply Exists.intro
   refine ⟨fun wz hw _ => ?_, ?_⟩
   · have hcz := hw.cells.1
     go_simp
     (with_reducible exact Rg.up_value)
   simp only [Act.put, List.setIfInBounds_toArray, List.set_cons_zero, List.set_cons_succ])
  (refine Rr.wr_y (by simp only [List.getElem?_toArray, List.getElem?_cons_succ, List.getElem?_cons_zero]; rfl) (by rfl) ?_
   apply Exists.intro
   refine ⟨fun wz hw _ => ?_, ?_⟩
   · have hcz := hw.cells.1
     go_simp
     (with_reducible exact Rg.up_value)
   simp only [Act.put, List.setIfInBounds_toArray, List.set_cons_zero, List.set_cons_succ])
  (refine Rr.wr_y (by simp only [List.getElem?_toArray, List.getElem?_cons_succ, List.getElem?_cons_zero]; rfl) (by rfl) ?_
   apply Exists.intro
   refine ⟨fun wz hw _ => ?_, ?_⟩
   · have hcz := hw.cells.1
     go_simp
     (with_reducible exact Rg.up_value)
   simp only [Act.put, List.setIfInBounds_toArray, List.set_cons_zero, List.set_cons_succ])
  (refine Rr.wr_y (by simp only [List.getElem?_toArray, List.getElem?_cons_succ, List.getElem?_cons_zero]; rfl) (by rfl) ?_
   apply Exists.intro
   refine ⟨fun wz hw _ => ?_, ?_⟩
   · have hcz := hw.cells.1
     go_simp
     (with_reducible exact Rg.up_value)
   simp only [Act.put, List.setIfInBounds_toArray, List.set_cons_zero, List.set_cons_succ])
  (refine Rr.wr_y (by simp only [List.getElem?_toArray, List.getElem?_cons_succ, List.getElem?_cons_zero]; rfl) (by rfl) ?_
   apply Exists.intro
   refine ⟨fun wz hw _ => ?_, ?_⟩
   · have hcz := hw.cells.1
     go_simp
     (with_reducible exact Rg.up_value)
   simp only [Act.put, List.setIfInBounds_toArray, List.set_cons_zero, List.set_cons_succ])
  refine Rr.wr_z (fun v w => DR w v (timesL l m)) (by simp only [List.getElem?_toArray, List.getElem?_cons_succ, List.getElem?_cons_zero]; rfl) (by rfl) (fun v => DR.keeps _ v) (fun wz hw hh => ?_) (fun u1 => ?_)
  · go_simp
    apply Rr.upR_enter
    (with_reducible refine (times_any l m _ _ _ (HA.out.ext (HWx.out.trans hw)) (HB.out.ext (HWx.out.trans hw)) hl hm).mono ?_)
    rintro e w3 ⟨v3, rfl, hx3, hr3⟩
    exact ⟨v3, rfl, hx3, hr3⟩
  simp only [Act.put, List.setIfInBounds_toArray, List.set_cons_zero, List.set_cons_succ]
  refine Rr.wr_nil ?_
  intro wy hy hh
  have hu := hh _ List.mem_cons_self
  simp only [List.length_cons, List.length_nil, List.drop_succ_cons, List.drop_zero, Nat.reduceAdd]
  have HU := Lib.hid (show DR wy u1 (timesL l m) from hu)
  obtain ⟨A3, c3, rfl⟩ := HU.out.form
  have HPy := Lib.hid ((hy.block _ (Rg.lt_of_heap HC2.out)).trans HC2.out)
  obtain ⟨hcc, hf, hl2⟩ := Rg.cells_of HPy.out
  have c20 : wy.cell? ⟨p + 1 + 1, 0, none⟩ = some (.bool false) := hcc 0
  have c21 : wy.cell? ⟨p + 1 + 1, 1, none⟩ = some (.slice none 0 0) := hcc 1
  have f0 := hf 0
  have f1 := hf 1
  have HR1 := Lib.hid (show (wy.setCell ⟨p + 1 + 1, 0, none⟩ (.bool (!s == t))).heap[p + 1 + 1]? = some (.cells #[.bool (!s == t), .slice none 0 0] 97) from heap_setCell_same wy _ 0 _ 97 _ HPy.out)
  have HR := Lib.hid (show ((wy.setCell ⟨p + 1 + 1, 0, none⟩ (.bool (!s == t))).setCell ⟨p + 1 + 1, 1, none⟩ (.slice A3 (timesL l m).length c3)).heap[p + 1 + 1]? = some (.cells #[.bool (!s == t), .slice A3 (timesL l m).length c3] 97) from heap_setCell_same _ _ 1 _ 97 _ HR1.out)
  have HU2 := Lib.hid ((HU.out.set HPy.out 0 (.bool (!s == t))).set HR1.out 1 (.slice A3 (timesL l m).length c3))
  clear hcc hf hu hh c00 c01 c10 c11
  go_wp2
  refine bodyPost_ret (v := .agg #[.bool (!s == t), .slice A3 (timesL l m).length c3]) (results_cell_row Try.results55 _ _ (p + 1 + 1) 97 _ _ _ (by rfl) HR.out Try.underlying97 rfl (by kernel_rfl)) rfl ⟨_, rfl, Below.setCell (Below.setCell (HWx.out.trans hy) (by have := HP.out; show _ ≤ p + 1 + 1; omega) _) (by have := HP.out; show _ ≤ p + 1 + 1; omega) _, (A3, (timesL l m).length, c3), rfl, HU2.out⟩
end Go.Proofs.Ytgkdeknfmmgbdaa

namespace Go.Proofs.Ytgkdeknfmmgbdaa
set_option linter.unusedVariables false
set_option linter.unusedSimpArgs false
open Go.RowKit

/-- The sum of two numbers with signs. -/
def bgSum (s t : Bool) (l m : List Int) : Bool × List Int :=
  if s = t then (s, plusL 0 l m) else if dv m ≤ dv l then (s, trimL (minusL 0 l m)) else (t, trimL (minusL 0 m l))

set_option maxRecDepth 100000 in
set_option maxHeartbeats 1000000 in
theorem badd_any (s t : Bool) (l m : List Int) (w : World) (v u : Value) (h : BgR w v s l) (h' : BgR w u t m) (hl : l.length ≤ 100) (hm : m.length ≤ 100) :
    Calls Try.prog 54 #[v, u] w fun e w' => ∃ x, e = .returned x ∧ Ext w w' ∧ BgR w' x (bgSum s t l m).1 (bgSum s t l m).2 := by
  obtain ⟨⟨A, n0, ca⟩, rfl, hA⟩ := h
  obtain ⟨⟨B, n1, cb⟩, rfl, hB⟩ := h'
  have HA := Lib.hid hA
  have HB := Lib.hid hB
  clear hA hB
  show Calls Try.prog 54 #[.agg #[.bool s, .slice A n0 ca], .agg #[.bool t, .slice B n1 cb]] w _
  replace HA : Hid (DR w (.slice A n0 ca) l) := HA
  replace HB : Hid (DR w (.slice B n1 cb) m) := HB
  go_enter Try.func54, Try.ntmps54
  go_upto_region 1 with (fail)
  have hW : Ext w (((w.alloc (.cells #[.bool s, .slice A n0 ca] 97)).alloc (.cells #[.bool t, .slice B n1 cb] 97)).alloc (.cells #[.bool false, .slice none 0 0] 97)) := (by with_reducible repeat (first | exact Ext.refl _ | assumption | apply Ext.drewN | apply Ext.drew | apply Ext.alloc | (refine Ext.setCell ?_ (by simp <;> omega) _) | (refine Ext.trans ?_ (by assumption))))
  have hC0 : (((w.alloc (.cells #[.bool s, .slice A n0 ca] 97)).alloc (.cells #[.bool t, .slice B n1 cb] 97)).alloc (.cells #[.bool false, .slice none 0 0] 97)).heap[w.heap.size]? = some (.cells #[.bool s, .slice A n0 ca] 97) := by
    rw [Below.heap_alloc _ _ _ (by simp; omega), Below.heap_alloc _ _ _ (by simp)]; exact block_new rfl
  have hC1 : (((w.alloc (.cells #[.bool s, .slice A n0 ca] 97)).alloc (.cells #[.bool t, .slice B n1 cb] 97)).alloc (.cells #[.bool false, .slice none 0 0] 97)).heap[w.heap.size + 1]? = some (.cells #[.bool t, .slice B n1 cb] 97) := by
    rw [Below.heap_alloc _ _ _ (by simp)]; exact block_new (by simp)
  have hC2 : (((w.alloc (.cells #[.bool s, .slice A n0 ca] 97)).alloc (.cells #[.bool t, .slice B n1 cb] 97)).alloc (.cells #[.bool false, .slice none 0 0] 97)).heap[w.heap.size + 1 + 1]? = some (.cells #[.bool false, .slice none 0 0] 97) := block_new (by simp)
  generalize ((w.alloc (.cells #[.bool s, .slice A n0 ca] 97)).alloc (.cells #[.bool t, .slice B n1 cb] 97)).alloc (.cells #[.bool false, .slice none 0 0] 97) = W at *
  obtain ⟨p, hp⟩ : ∃ p, p = w.heap.size := ⟨_, rfl⟩
  rw [← hp] at hC0 hC1 hC2 ⊢
  have HP := Lib.hid hp
  have HWx := Lib.hid hW
  have HC2 := Lib.hid hC2
  obtain ⟨e0, -, el⟩ := Rg.cells_of hC0
  obtain ⟨e1, -, el1⟩ := Rg.cells_of hC1
  have c00 : W.cell? ⟨p, 0, none⟩ = some (.bool s) := e0 0
  have c01 : W.cell? ⟨p, 1, none⟩ = some (.slice A n0 ca) := e0 1
  have c10 : W.cell? ⟨p + 1, 0, none⟩ = some (.bool t) := e1 0
  have c11 : W.cell? ⟨p + 1, 1, none⟩ = some (.slice B n1 cb) := e1 1
  clear hp hW hC0 hC1 hC2 e0 e1
  by_cases hst : s = t
  · subst hst
    have HE := Lib.hid (show bgSum s s l m = (s, plusL 0 l m) by unfold bgSum; rw [if_pos rfl])
    have hq : (s == s) = true := by simp
    go_upto_region 2 with (fail)
    refine Rr.wp_region [(0, .y), (1, .y), (2, .y), (3, .y), (4, .y), (5, .y), (6, .z)] (fun _ => (.cells #[] 29, Rg.ptr)) (by kernel_rfl) (by kernel_rfl) ?_
    (refine Rr.wr_y (by simp only [List.getElem?_toArray, List.getElem?_cons_succ, List.getElem?_cons_zero]; rfl) (by rfl) ?_
     apply Exists.intro
     refine ⟨fun wz hw _ => ?_, ?_⟩
     · have hcz := hw.cells.1
       go_simp
       (with_reducible exact Rg.up_value)
     simp only [Act.put, List.setIfInBounds_toArray, List.set_cons_zero, List.set_cons_succ])
    (refine Rr.wr_y (by simp only [List.getElem?_toArray, List.getElem?_cons_succ, List.getElem?_cons_zero]; rfl) (by rfl) ?_
     apply Exists.intro
     refine ⟨fun wz hw _ => ?_, ?_⟩
     · have hcz := hw.cells.1
       go_simp
       (with_reducible exact Rg.up_value)
     simp only [Act.put, List.setIfInBounds_toArray, List.set_cons_zero, List.set_cons_succ])
    (refine Rr.wr_y (by simp only [List.getElem?_toArray, List.getElem?_cons_succ, List.getElem?_cons_zero]; rfl) (by rfl) ?_
     apply Exists.intro
     refine ⟨fun wz hw _ => ?_, ?_⟩
     · have hcz := hw.cells.1
       go_simp
       (with_reducible exact Rg.up_value)
     simp only [Act.put, List.setIfInBounds_toArray, List.set_cons_zero, List.set_cons_succ])
    (refine Rr.wr_y (by simp only [List.getElem?_toArray, List.getElem?_cons_succ, List.getElem?_cons_zero]; rfl) (by rfl) ?_
     apply Exists.intro
     refine ⟨fun wz hw _ => ?_, ?_⟩
     · have hcz := hw.cells.1
       go_simp
       (with_reducible exact Rg.up_value)
     simp only [Act.put, List.setIfInBounds_toArray, List.set_cons_zero, List.set_cons_succ])
    (refine Rr.wr_y (by simp only [List.getElem?_toArray, List.getElem?_cons_succ, List.getElem?_cons_zero]; rfl) (by rfl) ?_
     apply Exists.intro
     refine ⟨fun wz hw _ => ?_, ?_⟩
     · have hcz := hw.cells.1
       go_simp
       (with_reducible exact Rg.up_value)
     simp only [Act.put, List.setIfInBounds_toArray, List.set_cons_zero, List.set_cons_succ])
    (refine Rr.wr_y (by simp only [List.getElem?_toArray, List.getElem?_cons_succ, List.getElem?_cons_zero]; rfl) (by rfl) ?_
     apply Exists.intro
     refine ⟨fun wz hw _ => ?_, ?_⟩
     · have hcz := hw.cells.1
       go_simp
       (with_reducible exact Rg.up_value)
     simp only [Act.put, List.setIfInBounds_toArray, List.set_cons_zero, List.set_cons_succ])
    refine Rr.wr_z (fun v w => DR w v (plusL 0 l m)) (by simp only [List.getElem?_toArray, List.getElem?_cons_succ, List.getElem?_cons_zero]; rfl) (by rfl) (fun v => DR.keeps _ v) (fun wz hw hh => ?_) (fun u1 => ?_)
    · go_simp
      apply Rr.upR_enter
      (with_reducible refine (plus_any l m _ _ _ (HA.out.ext (HWx.out.trans hw)) (HB.out.ext (HWx.out.trans hw)) hl hm).mono ?_)
      rintro e w3 ⟨v3, rfl, hx3, hr3⟩
      exact ⟨v3, rfl, hx3, hr3⟩
    simp only [Act.put, List.setIfInBounds_toArray, List.set_cons_zero, List.set_cons_succ]
    refine Rr.wr_nil ?_
    intro wy hy hh
    have hu := hh _ List.mem_cons_self
    simp only [List.length_cons, List.length_nil, List.drop_succ_cons, List.drop_zero, Nat.reduceAdd]
    have HU := Lib.hid (show DR wy u1 (plusL 0 l m) from hu)
    obtain ⟨A3, c3, rfl⟩ := HU.out.form
    have HPy := Lib.hid ((hy.block _ (Rg.lt_of_heap HC2.out)).trans HC2.out)
    obtain ⟨hcc, hf, hl2⟩ := Rg.cells_of HPy.out
    have c20 : wy.cell? ⟨p + 1 + 1, 0, none⟩ = some (.bool false) := hcc 0
    have c21 : wy.cell? ⟨p + 1 + 1, 1, none⟩ = some (.slice none 0 0) := hcc 1
    have f0 := hf 0
    have f1 := hf 1
    have HR1 := Lib.hid (show (wy.setCell ⟨p + 1 + 1, 0, none⟩ (.bool s)).heap[p + 1 + 1]? = some (.cells #[.bool s, .slice none 0 0] 97) from heap_setCell_same wy _ 0 _ 97 _ HPy.out)
    have HR := Lib.hid (show ((wy.setCell ⟨p + 1 + 1, 0, none⟩ (.bool s)).setCell ⟨p + 1 + 1, 1, none⟩ (.slice A3 (plusL 0 l m).length c3)).heap[p + 1 + 1]? = some (.cells #[.bool s, .slice A3 (plusL 0 l m).length c3] 97) from heap_setCell_same _ _ 1 _ 97 _ HR1.out)
    have HU2 := Lib.hid ((HU.out.set HPy.out 0 (.bool s)).set HR1.out 1 (.slice A3 (plusL 0 l m).length c3))
    clear hcc hf hu hh c00 c01 c10 c11
    go_wp2
    refine bodyPost_ret (v := .agg #[.bool s, .slice A3 (plusL 0 l m).length c3]) (results_cell_row Try.results54 _ _ (p + 1 + 1) 97 _ _ _ (by rfl) HR.out Try.underlying97 rfl (by kernel_rfl)) rfl ⟨_, rfl, Below.setCell (Below.setCell (HWx.out.trans hy) (by have := HP.out; show _ ≤ p + 1 + 1; omega) _) (by have := HP.out; show _ ≤ p + 1 + 1; omega) _, ?_⟩
    rw [HE.out]
    exact ⟨(A3, (plusL 0 l m).length, c3), rfl, HU2.out⟩
  · have hq : (s == t) = false := by simpa using hst
    obtain ⟨q1, q2, q3, q4⟩ := trimL_spec l HA.out.dg
    obtain ⟨r1, r2, r3, r4⟩ := trimL_spec m HB.out.dg
    have HQ := Lib.hid (show Tr (trimL l) ∧ Tr (trimL m) from ⟨q2, r2⟩)
    obtain ⟨z, hz⟩ : ∃ z, z = cmpL (trimL l) (trimL m) := ⟨_, rfl⟩
    have HZP := Lib.hid (show dv m ≤ dv l → 0 ≤ z by
      intro h; rw [hz]; unfold cmpL; rw [q3, r3, if_neg (by omega)]; split <;> omega)
    have HZN := Lib.hid (show dv l < dv m → ¬ 0 ≤ z by
      intro h; rw [hz]; unfold cmpL; rw [q3, r3, if_pos h]; omega)
    have HZ := Lib.hid hz
    clear q1 q2 q3 q4 r1 r2 r3 r4 hz
    go_upto_region 3 with (fail)
    refine Rr.wp_region [(0, .y), (1, .y), (3, .y), (4, .y), (2, .z), (5, .z), (6, .y)] (fun _ => (.cells #[] 29, Rg.ptr)) (by kernel_rfl) (by kernel_rfl) ?_
    (refine Rr.wr_y (by simp only [List.getElem?_toArray, List.getElem?_cons_succ, List.getElem?_cons_zero]; rfl) (by rfl) ?_
     apply Exists.intro
     refine ⟨fun wz hw _ => ?_, ?_⟩
     · have hcz := hw.cells.1
       go_simp
       (with_reducible exact Rg.up_value)
     simp only [Act.put, List.setIfInBounds_toArray, List.set_cons_zero, List.set_cons_succ])
    (refine Rr.wr_y (by simp only [List.getElem?_toArray, List.getElem?_cons_succ, List.getElem?_cons_zero]; rfl) (by rfl) ?_
     apply Exists.intro
     refine ⟨fun wz hw _ => ?_, ?_⟩
     · have hcz := hw.cells.1
       go_simp
       (with_reducible exact Rg.up_value)
     simp only [Act.put, List.setIfInBounds_toArray, List.set_cons_zero, List.set_cons_succ])
    (refine Rr.wr_y (by simp only [List.getElem?_toArray, List.getElem?_cons_succ, List.getElem?_cons_zero]; rfl) (by rfl) ?_
     apply Exists.intro
     refine ⟨fun wz hw _ => ?_, ?_⟩
     · have hcz := hw.cells.1
       go_simp
       (with_reducible exact Rg.up_value)
     simp only [Act.put, List.setIfInBounds_toArray, List.set_cons_zero, List.set_cons_succ])
    (refine Rr.wr_y (by simp only [List.getElem?_toArray, List.getElem?_cons_succ, List.getElem?_cons_zero]; rfl) (by rfl) ?_
     apply Exists.intro
     refine ⟨fun wz hw _ => ?_, ?_⟩
     · have hcz := hw.cells.1
       go_simp
       (with_reducible exact Rg.up_value)
     simp only [Act.put, List.setIfInBounds_toArray, List.set_cons_zero, List.set_cons_succ])
    refine Rr.wr_z (fun v w => DR w v (trimL l)) (by simp only [List.getElem?_toArray, List.getElem?_cons_succ, List.getElem?_cons_zero]; rfl) (by rfl) (fun v => DR.keeps _ v) (fun wz hw hh => ?_) (fun u1 => ?_)
    · go_simp
      apply Rr.upR_enter
      (with_reducible refine (trim_any l _ _ (HA.out.ext (HWx.out.trans hw))).mono ?_)
      rintro e w3 ⟨v3, rfl, hx3, hr3⟩
      exact ⟨v3, rfl, hx3, hr3⟩
    simp only [Act.put, List.setIfInBounds_toArray, List.set_cons_zero, List.set_cons_succ]
    refine Rr.wr_z (fun v w => DR w v (trimL m)) (by simp only [List.getElem?_toArray, List.getElem?_cons_succ, List.getElem?_cons_zero]; rfl) (by rfl) (fun v => DR.keeps _ v) (fun wz hw hh => ?_) (fun u2 => ?_)
    · go_simp
      apply Rr.upR_enter
      (with_reducible refine (trim_any m _ _ (HB.out.ext (HWx.out.trans hw))).mono ?_)
      rintro e w3 ⟨v3, rfl, hx3, hr3⟩
      exact ⟨v3, rfl, hx3, hr3⟩
    simp only [Act.put, List.setIfInBounds_toArray, List.set_cons_zero, List.set_cons_succ]
    refine Rr.wr_y (by simp only [List.getElem?_toArray, List.getElem?_cons_succ, List.getElem?_cons_zero]; rfl) (by rfl) ⟨.int .i64 z, fun wz hw hh => ?_, ?_⟩
    · have h6 : DR wz u2 (trimL m) := hh _ List.mem_cons_self
      have h5 : DR wz u1 (trimL l) := hh _ (List.mem_cons_of_mem _ List.mem_cons_self)
      go_simp
      apply Rg.up_enter
      (with_reducible refine (bcmp_any (trimL l) (trimL m) _ _ _ h5 h6 HQ.out.1 HQ.out.2).mono ?_)
      rintro e w3 ⟨rfl, hb3⟩
      exact ⟨by rw [HZ.out], hb3⟩
    simp only [Act.put, List.setIfInBounds_toArray, List.set_cons_zero, List.set_cons_succ]
    refine Rr.wr_nil ?_
    intro wy hy hh
    simp only [List.length_cons, List.length_nil, List.drop_succ_cons, List.drop_zero, Nat.reduceAdd]
    clear hh
    replace c00 := (hy.cells.1 _ _ el).trans c00
    replace c01 := (hy.cells.1 _ _ el).trans c01
    replace c10 := (hy.cells.1 _ _ el1).trans c10
    replace c11 := (hy.cells.1 _ _ el1).trans c11
    replace HC2 := Lib.hid ((hy.block _ (Rg.lt_of_heap HC2.out)).trans HC2.out)
    replace HWx := Lib.hid (HWx.out.trans hy)
    replace el := Nat.lt_of_lt_of_le el hy.size
    replace el1 := Nat.lt_of_lt_of_le el1 hy.size
    clear hy
    by_cases hle : dv m ≤ dv l
    · have HE := Lib.hid (show bgSum s t l m = (s, trimL (minusL 0 l m)) by unfold bgSum; rw [if_neg hst, if_pos hle])
      have hz3 : 0 ≤ z := HZP.out hle
      go_upto_region 4 with (fail)
      refine Rr.wp_region [(0, .y), (1, .y), (2, .y), (3, .y), (4, .y), (5, .y), (6, .z)] (fun _ => (.cells #[] 29, Rg.ptr)) (by kernel_rfl) (by kernel_rfl) ?_
      (refine Rr.wr_y (by simp only [List.getElem?_toArray, List.getElem?_cons_succ, List.getElem?_cons_zero]; rfl) (by rfl) ?_
       apply Exists.intro
       refine ⟨fun wz hw _ => ?_, ?_⟩
       · have hcz := hw.cells.1
         go_simp
         (with_reducible exact Rg.up_value)
       simp only [Act.put, List.setIfInBounds_toArray, List.set_cons_zero, List.set_cons_succ])
      (refine Rr.wr_y (by simp only [List.getElem?_toArray, List.getElem?_cons_succ, List.getElem?_cons_zero]; rfl) (by rfl) ?_
       apply Exists.intro
       refine ⟨fun wz hw _ => ?_, ?_⟩
       · have hcz := hw.cells.1
         go_simp
         (with_reducible exact Rg.up_value)
       simp only [Act.put, List.setIfInBounds_toArray, List.set_cons_zero, List.set_cons_succ])
      (refine Rr.wr_y (by simp only [List.getElem?_toArray, List.getElem?_cons_succ, List.getElem?_cons_zero]; rfl) (by rfl) ?_
       apply Exists.intro
       refine ⟨fun wz hw _ => ?_, ?_⟩
       · have hcz := hw.cells.1
         go_simp
         (with_reducible exact Rg.up_value)
       simp only [Act.put, List.setIfInBounds_toArray, List.set_cons_zero, List.set_cons_succ])
      (refine Rr.wr_y (by simp only [List.getElem?_toArray, List.getElem?_cons_succ, List.getElem?_cons_zero]; rfl) (by rfl) ?_
       apply Exists.intro
       refine ⟨fun wz hw _ => ?_, ?_⟩
       · have hcz := hw.cells.1
         go_simp
         (with_reducible exact Rg.up_value)
       simp only [Act.put, List.setIfInBounds_toArray, List.set_cons_zero, List.set_cons_succ])
      (refine Rr.wr_y (by simp only [List.getElem?_toArray, List.getElem?_cons_succ, List.getElem?_cons_zero]; rfl) (by rfl) ?_
       apply Exists.intro
       refine ⟨fun wz hw _ => ?_, ?_⟩
       · have hcz := hw.cells.1
         go_simp
         (with_reducible exact Rg.up_value)
       simp only [Act.put, List.setIfInBounds_toArray, List.set_cons_zero, List.set_cons_succ])
      (refine Rr.wr_y (by simp only [List.getElem?_toArray, List.getElem?_cons_succ, List.getElem?_cons_zero]; rfl) (by rfl) ?_
       apply Exists.intro
       refine ⟨fun wz hw _ => ?_, ?_⟩
       · have hcz := hw.cells.1
         go_simp
         (with_reducible exact Rg.up_value)
       simp only [Act.put, List.setIfInBounds_toArray, List.set_cons_zero, List.set_cons_succ])
      refine Rr.wr_z (fun v w => DR w v (trimL (minusL 0 l m))) (by simp only [List.getElem?_toArray, List.getElem?_cons_succ, List.getElem?_cons_zero]; rfl) (by rfl) (fun v => DR.keeps _ v) (fun wz hw hh => ?_) (fun u1 => ?_)
      · go_simp
        apply Rr.upR_enter
        (with_reducible refine (minus_any l m _ _ _ (HA.out.ext (HWx.out.trans hw)) (HB.out.ext (HWx.out.trans hw)) hl hm hle).mono ?_)
        rintro e w3 ⟨v3, rfl, hx3, hr3⟩
        exact ⟨v3, rfl, hx3, hr3⟩
      simp only [Act.put, List.setIfInBounds_toArray, List.set_cons_zero, List.set_cons_succ]
      refine Rr.wr_nil ?_
      intro wy hy hh
      have hu := hh _ List.mem_cons_self
      simp only [List.length_cons, List.length_nil, List.drop_succ_cons, List.drop_zero, Nat.reduceAdd]
      have HU := Lib.hid (show DR wy u1 (trimL (minusL 0 l m)) from hu)
      obtain ⟨A3, c3, rfl⟩ := HU.out.form
      have HPy := Lib.hid ((hy.block _ (Rg.lt_of_heap HC2.out)).trans HC2.out)
      obtain ⟨hcc, hf, hl2⟩ := Rg.cells_of HPy.out
      have c20 : wy.cell? ⟨p + 1 + 1, 0, none⟩ = some (.bool false) := hcc 0
      have c21 : wy.cell? ⟨p + 1 + 1, 1, none⟩ = some (.slice none 0 0) := hcc 1
      have f0 := hf 0
      have f1 := hf 1
      have HR1 := Lib.hid (show (wy.setCell ⟨p + 1 + 1, 0, none⟩ (.bool s)).heap[p + 1 + 1]? = some (.cells #[.bool s, .slice none 0 0] 97) from heap_setCell_same wy _ 0 _ 97 _ HPy.out)
      have HR := Lib.hid (show ((wy.setCell ⟨p + 1 + 1, 0, none⟩ (.bool s)).setCell ⟨p + 1 + 1, 1, none⟩ (.slice A3 (trimL (minusL 0 l m)).length c3)).heap[p + 1 + 1]? = some (.cells #[.bool s, .slice A3 (trimL (minusL 0 l m)).length c3] 97) from heap_setCell_same _ _ 1 _ 97 _ HR1.out)
      have HU2 := Lib.hid ((HU.out.set HPy.out 0 (.bool s)).set HR1.out 1 (.slice A3 (trimL (minusL 0 l m)).length c3))
      clear hcc hf hu hh c00 c01 c10 c11
      go_wp2
      refine bodyPost_ret (v := .agg #[.bool s, .slice A3 (trimL (minusL 0 l m)).length c3]) (results_cell_row Try.results54 _ _ (p + 1 + 1) 97 _ _ _ (by rfl) HR.out Try.underlying97 rfl (by kernel_rfl)) rfl ⟨_, rfl, Below.setCell (Below.setCell (HWx.out.trans hy) (by have := HP.out; show _ ≤ p + 1 + 1; omega) _) (by have := HP.out; show _ ≤ p + 1 + 1; omega) _, ?_⟩
      rw [HE.out]
      exact ⟨(A3, (trimL (minusL 0 l m)).length, c3), rfl, HU2.out⟩
    · have HE := Lib.hid (show bgSum s t l m = (t, trimL (minusL 0 m l)) by unfold bgSum; rw [if_neg hst, if_neg hle])
      have hz3 : ¬ 0 ≤ z := HZN.out (by omega)
      go_upto_region 5 with (fail)
      refine Rr.wp_region [(0, .y), (1, .y), (2, .y), (3, .y), (4, .y), (5, .y), (6, .z)] (fun _ => (.cells #[] 29, Rg.ptr)) (by kernel_rfl) (by kernel_rfl) ?_
      (refine Rr.wr_y (by simp only [List.getElem?_toArray, List.getElem?_cons_succ, List.getElem?_cons_zero]; rfl) (by rfl) ?_
       apply Exists.intro
       refine ⟨fun wz hw _ => ?_, ?_⟩
       · have hcz := hw.cells.1
         go_simp
         (with_reducible exact Rg.up_value)
       simp only [Act.put, List.setIfInBounds_toArray, List.set_cons_zero, List.set_cons_succ])
      (refine Rr.wr_y (by simp only [List.getElem?_toArray, List.getElem?_cons_succ, List.getElem?_cons_zero]; rfl) (by rfl) ?_
       apply Exists.intro
       refine ⟨fun wz hw _ => ?_, ?_⟩
       · have hcz := hw.cells.1
         go_simp
         (with_reducible exact Rg.up_value)
       simp only [Act.put, List.setIfInBounds_toArray, List.set_cons_zero, List.set_cons_succ])
      (refine Rr.wr_y (by simp only [List.getElem?_toArray, List.getElem?_cons_succ, List.getElem?_cons_zero]; rfl) (by rfl) ?_
       apply Exists.intro
       refine ⟨fun wz hw _ => ?_, ?_⟩
       · have hcz := hw.cells.1
         go_simp
         (with_reducible exact Rg.up_value)
       simp only [Act.put, List.setIfInBounds_toArray, List.set_cons_zero, List.set_cons_succ])
      (refine Rr.wr_y (by simp only [List.getElem?_toArray, List.getElem?_cons_succ, List.getElem?_cons_zero]; rfl) (by rfl) ?_
       apply Exists.intro
       refine ⟨fun wz hw _ => ?_, ?_⟩
       · have hcz := hw.cells.1
         go_simp
         (with_reducible exact Rg.up_value)
       simp only [Act.put, List.setIfInBounds_toArray, List.set_cons_zero, List.set_cons_succ])
      (refine Rr.wr_y (by simp only [List.getElem?_toArray, List.getElem?_cons_succ, List.getElem?_cons_zero]; rfl) (by rfl) ?_
       apply Exists.intro
       refine ⟨fun wz hw _ => ?_, ?_⟩
       · have hcz := hw.cells.1
         go_simp
         (with_reducible exact Rg.up_value)
       simp only [Act.put, List.setIfInBounds_toArray, List.set_cons_zero, List.set_cons_succ])
      (refine Rr.wr_y (by simp only [List.getElem?_toArray, List.getElem?_cons_succ, List.getElem?_cons_zero]; rfl) (by rfl) ?_
       apply Exists.intro
       refine ⟨fun wz hw _ => ?_, ?_⟩
       · have hcz := hw.cells.1
         go_simp
         (with_reducible exact Rg.up_value)
       simp only [Act.put, List.setIfInBounds_toArray, List.set_cons_zero, List.set_cons_succ])
      refine Rr.wr_z (fun v w => DR w v (trimL (minusL 0 m l))) (by simp only [List.getElem?_toArray, List.getElem?_cons_succ, List.getElem?_cons_zero]; rfl) (by rfl) (fun v => DR.keeps _ v) (fun wz hw hh => ?_) (fun u1 => ?_)
      · go_simp
        apply Rr.upR_enter
        (with_reducible refine (minus_any m l _ _ _ (HB.out.ext (HWx.out.trans hw)) (HA.out.ext (HWx.out.trans hw)) hm hl (by omega)).mono ?_)
        rintro e w3 ⟨v3, rfl, hx3, hr3⟩
        exact ⟨v3, rfl, hx3, hr3⟩
      simp only [Act.put, List.setIfInBounds_toArray, List.set_cons_zero, List.set_cons_succ]
      refine Rr.wr_nil ?_
      intro wy hy hh
      have hu := hh _ List.mem_cons_self
      simp only [List.length_cons, List.length_nil, List.drop_succ_cons, List.drop_zero, Nat.reduceAdd]
      have HU := Lib.hid (show DR wy u1 (trimL (minusL 0 m l)) from hu)
      obtain ⟨A3, c3, rfl⟩ := HU.out.form
      have HPy := Lib.hid ((hy.block _ (Rg.lt_of_heap HC2.out)).trans HC2.out)
      obtain ⟨hcc, hf, hl2⟩ := Rg.cells_of HPy.out
      have c20 : wy.cell? ⟨p + 1 + 1, 0, none⟩ = some (.bool false) := hcc 0
      have c21 : wy.cell? ⟨p + 1 + 1, 1, none⟩ = some (.slice none 0 0) := hcc 1
      have f0 := hf 0
      have f1 := hf 1
      have HR1 := Lib.hid (show (wy.setCell ⟨p + 1 + 1, 0, none⟩ (.bool t)).heap[p + 1 + 1]? = some (.cells #[.bool t, .slice none 0 0] 97) from heap_setCell_same wy _ 0 _ 97 _ HPy.out)
      have HR := Lib.hid (show ((wy.setCell ⟨p + 1 + 1, 0, none⟩ (.bool t)).setCell ⟨p + 1 + 1, 1, none⟩ (.slice A3 (trimL (minusL 0 m l)).length c3)).heap[p + 1 + 1]? = some (.cells #[.bool t, .slice A3 (trimL (minusL 0 m l)).length c3] 97) from heap_setCell_same _ _ 1 _ 97 _ HR1.out)
      have HU2 := Lib.hid ((HU.out.set HPy.out 0 (.bool t)).set HR1.out 1 (.slice A3 (trimL (minusL 0 m l)).length c3))
      clear hcc hf hu hh c00 c01 c10 c11
      go_wp2
      refine bodyPost_ret (v := .agg #[.bool t, .slice A3 (trimL (minusL 0 m l)).length c3]) (results_cell_row Try.results54 _ _ (p + 1 + 1) 97 _ _ _ (by rfl) HR.out Try.underlying97 rfl (by kernel_rfl)) rfl ⟨_, rfl, Below.setCell (Below.setCell (HWx.out.trans hy) (by have := HP.out; show _ ≤ p + 1 + 1; omega) _) (by have := HP.out; show _ ≤ p + 1 + 1; omega) _, ?_⟩
      rw [HE.out]
      exact ⟨(A3, (trimL (minusL 0 m l)).length, c3), rfl, HU2.out⟩
end Go.Proofs.Ytgkdeknfmmgbdaa

namespace Go.Proofs.Ytgkdeknfmmgbdaa
set_option linter.unusedVariables false
set_option linter.unusedSimpArgs false
open Go.RowKit

theorem dv_cons (d : Int) (l : List Int) : dv (d :: l) = d + 65536 * dv l := rfl
theorem dv_drop (l : List Int) (i : Nat) (h : i < l.length) : dv (l.drop i) = l[i] + 65536 * dv (l.drop (i + 1)) := by rw [List.drop_eq_getElem_cons h, dv_cons]
/-- One digit of the quotient. -/
theorem ov_step {M R X d Q A : Int} (hA : A = Q * M + R) : X + 65536 * A = (d + 65536 * Q) * M + (X + 65536 * R - d * M) := by
  subst hA
  rw [Int.add_mul, Int.mul_add, Int.mul_assoc]
  omega
theorem ov_bound {M R X : Int} (hX : X < 65536) (hR : R < M) : X + 65536 * R < 65536 * M := by omega
theorem ov_end {M R l h : Int} (h1 : h - l ≤ 1) (h2 : l < h) (h3 : l * M ≤ R) (h4 : R < h * M) : 0 ≤ R - l * M ∧ R - l * M < M := by
  obtain rfl : h = l + 1 := by omega
  rw [Int.add_mul] at h4
  omega
theorem ov_final {A Q M R : Int} (h : A = Q * M + R) (h0 : 0 ≤ R) (h1 : R < M) : Q = A / M ∧ R = A % M := by
  have hM : 0 < M := by omega
  have e1 : A / M = Q := by
    subst h
    rw [Int.add_comm, Int.add_mul_ediv_right _ _ (by omega), Int.ediv_eq_zero_of_lt h0 h1]
    omega
  refine ⟨e1.symm, ?_⟩
  have := Int.emod_add_mul_ediv A M
  rw [e1, Int.mul_comm] at this
  omega
/-- A slice reads as one list only. -/
theorem DR.inj {w : World} {v : Value} {l m : List Int} (h : DR w v l) (h' : DR w v m) : l = m := by
  obtain ⟨A, c, rfl⟩ := h.form
  obtain ⟨A', c', e⟩ := h'.form
  injection e with e1 e2 e3
  refine List.ext_getElem (by omega) fun k h1 h2 => ?_
  obtain ⟨b, off, hb, -, hc⟩ := h.block k h1
  rw [show l.length = m.length by omega] at h
  have h'' : DR w (.slice A m.length c) m := by rw [← e2]; exact h'
  obtain ⟨b', off', hb', -, hc'⟩ := h''.block k h2
  rw [hb] at hb'
  injection hb' with hb'
  injection hb' with e4 e5
  subst e4 e5
  have := (hc k h1).symm.trans (hc' k h2)
  injection this with this
  injection this with _ this
open Classical in
/-- The number that a slice reads as. -/
noncomputable def dvOf (w : World) (v : Value) : Nat := if h : ∃ l, DR w v l then (dv h.choose).toNat else 0
theorem dvOf_eq {w : World} {v : Value} {l : List Int} (h : DR w v l) : dvOf w v = (dv l).toNat := by
  have he : ∃ l, DR w v l := ⟨l, h⟩
  unfold dvOf
  rw [dif_pos he, he.choose_spec.inj h]
end Go.Proofs.Ytgkdeknfmmgbdaa

namespace Go.Proofs.Ytgkdeknfmmgbdaa
set_option linter.unusedVariables false
set_option linter.unusedSimpArgs false
open Go.RowKit

theorem append_zs {ops : Array Oper} {rest : List Oper} {o : Oper} {a : Act} {Q : Exit → Act → World → Prop} {w : World} (hgd : o.guard = none) (s x : Operand)
    (ho : o.op = .call { callee := .builtin .append, args := #[s, x], argTypes := #[22, 22] }) (B : Nat) (v : Value) (vs : List Int) (hs : a.eval s = v) (hF : w.ownsRow B 3 1 v vs.length (vs.flatMap cellsZ))
    (A : Option Addr) (c : Nat) (us : List Int) (hx : a.eval x = .slice A us.length c) (hu : us = [] ∨ ∃ b off, A = some ⟨b, off, none⟩ ∧ ∀ k (h : k < us.length), w.cell? ⟨b, off + k, none⟩ = some (.int .i64 us[k]))
    (hn : vs.length + us.length ≤ 1000000) (hB : B ≤ w.heap.size)
    (h : ∀ v' w', w'.ownsRow B 3 1 v' (vs ++ us).length ((vs ++ us).flatMap cellsZ) → w.grownBy w' v.ownBlock → (us ≠ [] → ∃ g cap, v' = .slice (some ⟨g, 0, none⟩) (vs.length + us.length) cap) → (us = [] → v' = v ∧ w' = w) → wpList Try.prog ops Q rest (a.put o.dst v') w') : wpList Try.prog ops Q (o :: rest) a w := by
  obtain ⟨i0, hi, hz0, hz1, hz2⟩ := info_parts (show (Try.prog.info? 3).map (fun i => (i.zero, i.size, i.bytes)) = some (some (.int .i64 0), 1, 8) by kernel_rfl)
  refine wpList_plain hgd fun K hK => ?_
  by_cases h0 : us = []
  · subst h0
    obtain ⟨base, cap, hv, hle⟩ : ∃ base cap, v = .slice base vs.length cap ∧ vs.length ≤ cap := by
      rcases hF.2 with ⟨hn, h0⟩ | ⟨g, cap', cur, hv, hb, hg, h1, h2, h3, h4⟩
      · exact ⟨none, 0, by rw [hn, h0], by omega⟩
      · exact ⟨_, cap', hv, h1⟩
    have hsrc : Src Try.prog i0.size 22 (.slice A 0 c) 0 [] w := by
      rw [hz1]
      cases A with
      | none => exact Src.ofNil w Try.underlying22 c
      | some a => exact Src.ofSlice w Try.underlying22 a 0 c _ (by simp) (by simp) (by simp)
    have hr := run_append_nothing (P := Try.prog) w 22 22 o.type 3 i0 Try.underlying22 hi base vs.length cap hle (.slice A 0 c) hsrc
    rw [← hv] at hr
    unfold Oper.wp execOp
    simp only [List.length_nil] at hx
    simp only [ho, resolve, invoke, builtin, Sem.run_bind, Sem.run_pure, Result.andThen_ok, List.map_toArray, List.map_cons, List.map_nil, hs, hx, hr]
    exact hK _ _ (h v w (by simpa using hF) ⟨rfl, rfl, rfl, Nat.le_refl _, fun _ _ _ => rfl⟩ (fun h => absurd rfl h) (fun _ => ⟨rfl, rfl⟩))
  · obtain ⟨b, off, rfl, hcell⟩ := hu.resolve_left h0
    have hpos : 0 < us.length := List.length_pos_iff.2 h0
    obtain ⟨g, cap', w', hr, h2, h3, h4, h5⟩ := run_append_lies (P := Try.prog) w 22 o.type B 3 i0 _ 1 8 Try.underlying22 hi hz0 hz1 hz2 rfl (by decide) v vs.length _ hF ⟨b, off, none⟩ us.length c (us.map (Value.int .i64)) (by simp)
      (by
        intro j u hu
        have hj : j < us.length := by have := (List.getElem?_eq_some_iff.1 hu).1; simpa using this
        rw [List.getElem?_eq_getElem (by simpa using hj)] at hu
        simp only [List.getElem_map, Option.some.injEq] at hu
        subst hu
        rw [Go.WideShapes.add_plain]
        exact hcell j hj) (by intro u hu; obtain ⟨z, -, rfl⟩ := List.mem_map.1 hu; rfl) hpos (by unfold maxLen; omega) (by omega) hB w.heap.size rfl
    unfold Oper.wp execOp
    simp only [ho, resolve, invoke, builtin, Sem.run_bind, Sem.run_pure, Result.andThen_ok, List.map_toArray, List.map_cons, List.map_nil, hs, hx, hr] at *
    refine hK _ _ (h _ w' ?_ h3 (fun _ => ⟨g, cap', rfl⟩) (fun e => absurd e h0))
    rw [List.flatMap_append, List.length_append, flatZ us]
    exact h2


theorem grown_ext {w0 w w' : World} {v : Value} {B E sz n : Nat} {xs : List Value} (h : Ext w0 w) (hr : w.ownsRow B E sz v n xs) (hB : w0.heap.size ≤ B) (hg : w.grownBy w' v.ownBlock) : Ext w0 w' :=
  Below.trans h ⟨hg.os, hg.tape, hg.output, hg.size, fun k hk => hg.block k (by have := h.size; omega) (fun e => by have := (hr.lt k e.symm).1; omega)⟩
theorem DR.other {w : World} {g o n c : Nat} {l : List Int} (h : DR w (.slice (some ⟨g, o, none⟩) n c) l) {p i : Nat} (hp : g ≠ p) (u : Value) : DR (w.setCell ⟨p, i, none⟩ u) (.slice (some ⟨g, o, none⟩) n c) l := by
  obtain ⟨A, cap, h1, h2, h3, h4, h5⟩ := h
  refine ⟨A, cap, h1, h2, h3, h4, h5.imp id fun ⟨b, off, ha, hc⟩ => ⟨b, off, ha, fun k hk => ?_⟩⟩
  injection h1 with e1 e2 e3
  rw [← e1] at ha
  injection ha with ha
  injection ha with ha _ _
  subst ha
  rw [← hc k hk]
  exact World.cell?_of_block (heap_setCell_other w _ g _ hp)
theorem DR.src {w : World} {A : Option Addr} {n c : Nat} {l : List Int} (h : DR w (.slice A n c) l) : l = [] ∨ ∃ b off, A = some ⟨b, off, none⟩ ∧ ∀ k (h : k < l.length), w.cell? ⟨b, off + k, none⟩ = some (.int .i64 l[k]) := by
  obtain ⟨A', cap, h1, h2, h3, h4, h5⟩ := h
  injection h1 with e1 e2 e3
  subst e1
  exact h5
theorem drop_set_self (l : List Int) (i : Nat) (d : Int) (h : i < l.length) : (l.set i d).drop i = d :: l.drop (i + 1) := by
  rw [List.drop_eq_getElem_cons (by rw [List.length_set]; exact h), List.getElem_set_self, List.drop_set_of_lt (by omega)]
theorem ov_form {w wA : World} {v1 : Value} {x : Int} {rs : List Int} {B : Nat} (hr : wA.ownsRow B 3 1 v1 ([x] ++ rs).length (([x] ++ rs).flatMap cellsZ)) (hs : rs ≠ [] → ∃ g cap, v1 = .slice (some ⟨g, 0, none⟩) ([x].length + rs.length) cap) (hn : rs = [] → v1 = .slice (some ⟨w.heap.size, 0, none⟩) 1 1 ∧ wA = w.alloc (.cells #[.int .i64 x] 3)) : ∃ g cap, v1 = .slice (some ⟨g, 0, none⟩) (x :: rs).length cap ∧ B ≤ g := by
  by_cases h0 : rs = []
  · obtain ⟨h1, -⟩ := hn h0
    subst h1
    exact ⟨w.heap.size, 1, by rw [h0]; rfl, (hr.lt _ rfl).1⟩
  · obtain ⟨g, cap, h1⟩ := hs h0
    subst h1
    exact ⟨g, cap, by simp [Nat.add_comm], (hr.lt _ rfl).1⟩
def OvI (l m : List Int) (w : World) (p : Nat) (rv kv : Value) (wr : World) : Prop :=
  ∃ (j : Nat) (qs rs : List Int), kv = .int .i64 ((j : Int) - 1) ∧ j ≤ l.length ∧ BZ wr p qs ∧ qs.length = l.length ∧ Dg qs ∧ DR wr rv rs ∧ Tr rs ∧ dv rs < dv m ∧ rs.length ≤ m.length ∧ dv (l.drop j) = dv (qs.drop j) * dv m + dv rs ∧ Ext w wr

set_option maxRecDepth 100000 in
set_option maxHeartbeats 1000000 in
theorem bover_any (l m : List Int) (w : World) (v u : Value) (h : DR w v l) (h' : DR w u m) (hl : l.length ≤ 50) (hm : m.length ≤ 50) (htm : Tr m) (hm0 : 0 < dv m) :
    Calls Try.prog 78 #[v, u] w fun e w' => ∃ x y q r, e = .returned (.tuple #[x, y]) ∧ Ext w w' ∧ DR w' x q ∧ DR w' y r ∧ Tr q ∧ Tr r ∧ dv q = dv l / dv m ∧ dv r = dv l % dv m ∧ q.length ≤ l.length ∧ r.length ≤ m.length := by
  obtain ⟨A, ca, rfl⟩ := h.form
  obtain ⟨B, cb, rfl⟩ := h'.form
  have HA := Lib.hid h
  have HB := Lib.hid h'
  have HM0 := Lib.hid hm0; have HTM := Lib.hid htm
  clear h h' htm hm0
  go_enter Try.func78, Try.ntmps78
  have hmk := make_z w l.length (l.length : Int) rfl (by omega)
  go_upto_region 4 with (fail)
  have hZ : BZ (w.alloc (.cells (Array.replicate l.length (Value.int .i64 0)) 3)) w.heap.size (List.replicate l.length 0) := by
    unfold BZ; rw [rep_z]; exact block_new rfl
  have hx1 : Ext w (w.alloc (.cells (Array.replicate l.length (Value.int .i64 0)) 3)) := (by with_reducible repeat (first | exact Ext.refl _ | assumption | apply Ext.drewN | apply Ext.drew | apply Ext.alloc | (refine Ext.setCell ?_ (by simp <;> omega) _) | (refine Ext.trans ?_ (by assumption))))
  generalize w.alloc (.cells (Array.replicate l.length (Value.int .i64 0)) 3) = W1 at *
  obtain ⟨p, hp⟩ : ∃ p, p = w.heap.size := ⟨_, rfl⟩
  rw [← hp] at hZ ⊢
  have HPE := Lib.hid hp
  have HZ := Lib.hid hZ; have HX1 := Lib.hid hx1
  clear hp hZ hmk hx1
  go_loopw [7, 8] (fun r k wr => OvI l m w p r k wr) (fun _ k _ => (intOf k + 1).toNat)
  case atStart =>
    unfold OvI
    exact ⟨l.length, List.replicate l.length 0, [], by go_num, Nat.le_refl _, HZ.out, by simp, fun d hd => by rw [List.eq_of_mem_replicate hd]; omega, DR.nil _, .inl rfl, by simpa [dv] using HM0.out, by simp, by simp [dv], HX1.out⟩
  case round =>
    unfold OvI at hrel
    obtain ⟨j, qs, rs, rfl, hj, hZ, hql, hqd, hr, htr, hrm, hrl, hE, hx⟩ := hrel
    have HZ1 := Lib.hid hZ; have HQD := Lib.hid hqd; have HR := Lib.hid hr; have HTR := Lib.hid htr; have HRM := Lib.hid hrm; have HE := Lib.hid hE; have HQL := Lib.hid hql
    clear hZ hqd hr htr hrm hE hql
    rcases j with _ | i
    · have hE := HE.out
      simp only [List.drop_zero] at hE
      obtain ⟨h1, h2⟩ := ov_final hE (dv_nonneg HR.out.dg) HRM.out
      obtain ⟨t1, t2, t3, t4⟩ := trimL_spec qs HQD.out
      have HF := Lib.hid (show dv (trimL qs) = dv l / dv m ∧ dv rs = dv l % dv m ∧ Tr (trimL qs) ∧ (trimL qs).length ≤ l.length from ⟨t3.trans h1, h2, t2, by rw [← HQL.out]; exact t4⟩)
      have HT := Lib.hid (trim_any qs wr (.slice (some ⟨p, 0, none⟩) qs.length qs.length) (HZ1.out.dr (by rw [HQL.out]; omega) HQD.out))
      rw [HQL.out] at HT
      have HX := Lib.hid hx
      clear hE h1 h2 t1 t2 t3 t4 HQL hx
      go_wp2_with (go_at_call 79; (with_reducible refine HT.out.mono ?_); rintro e w8 ⟨x8, rfl, hx8, hd8⟩)
      go_ret2
      exact ⟨x8, _, _, rs, rfl, HX.out.trans hx8, hd8, HR.out.ext hx8, HF.out.2.2.1, HTR.out, HF.out.1, HF.out.2.1, HF.out.2.2.2, hrl⟩
    · have hil : i < l.length := by omega
      have k1 : (((i + 1 : Nat) : Int) - 1) = (i : Int) := by omega
      rw [k1]
      obtain ⟨b, off, rfl, -, hcs⟩ := HA.out.block i hil
      have hcl := hcs i hil
      have hb := World.block_lt_of_cell? w _ hcl
      replace hcl := (hx.cells.1 _ _ hb).trans hcl
      have hbl := Nat.lt_of_lt_of_le hb hx.size
      have hxd := HA.out.dg.at i hil
      have HDD := Lib.hid (dv_drop l i hil)
      clear hcs hb
      generalize l[i] = x at *
      obtain ⟨ra, rc, rfl⟩ := HR.out.form
      have HX := Lib.hid hx
      have HSRC := Lib.hid (DR.src (show DR (wr.alloc (.cells #[.int .i64 x] 3)) (.slice ra rs.length rc) rs from HR.out.ext (by with_reducible repeat (first | exact Ext.refl _ | assumption | apply Ext.drewN | apply Ext.drew | apply Ext.alloc | (refine Ext.setCell ?_ (by simp <;> omega) _) | (refine Ext.trans ?_ (by assumption))))))
      have HOWN : Hid ((wr.alloc (.cells #[.int .i64 x] 3)).ownsRow wr.heap.size 3 1 (.slice (some ⟨wr.heap.size, 0, none⟩) 1 1) 1 [.int .i64 x]) := Lib.hid ⟨rfl, .inr ⟨wr.heap.size, 1, #[.int .i64 x], rfl, Nat.le_refl _, heap_alloc_new wr _, by simp, by simp [maxLen], rfl, rfl⟩⟩
      have HXC := Lib.hid (Ext.alloc (Ext.refl wr) (.cells #[.int .i64 x] 3))
      have HXD := Lib.hid hxd
      have hi0 : (0 : Int) ≤ (i : Int) := by omega
      have hiz : (i : Int) < (l.length : Int) := by omega
      go_upto_region 7 with (first
        | (at_builtin; go_loud (refine append_zs rfl _ _ rfl wr.heap.size (.slice (some ⟨wr.heap.size, 0, none⟩) 1 1) [x] (by rfl) HOWN.out ra rc rs (by rfl) HSRC.out (by simp only [List.length_cons, List.length_nil]; omega) HXC.out.size ?_; intro v1 wA hrA hgA hsA hnA; have HXA := Lib.hid (grown_ext HXC.out HOWN.out (Nat.le_refl _) hgA); have hdA : DR wA v1 (x :: rs) := OZ.dr (os := x :: rs) hrA (by simp only [List.length_cons]; omega) (Dg.cons HXD.out HR.out.dg); have HFA : Hid (∃ g cap, v1 = .slice (some ⟨g, 0, none⟩) (x :: rs).length cap ∧ wr.heap.size ≤ g) := Lib.hid (ov_form hrA hsA hnA); have HDA := Lib.hid hdA; clear hrA hgA hsA hnA hdA))
        | (go_at_call 79; (with_reducible refine (trim_w (x :: rs) wA v1 HDA.out).mono ?_); rintro e w8 ⟨x8, rfl, rfl, hd8, hf8⟩))
      obtain ⟨g, cap, hv1, hgw⟩ := HFA.out
      obtain ⟨m1, rfl⟩ := hf8 _ _ hv1
      subst hv1
      obtain ⟨t1, t2, t3, t4⟩ := trimL_spec (x :: rs) (Dg.cons HXD.out HR.out.dg)
      have HD8 := Lib.hid hd8
      have HT2 := Lib.hid t2
      have HR8 := Lib.hid (show dv (trimL (x :: rs)) = x + 65536 * dv rs from t3)
      have h8l : (trimL (x :: rs)).length ≤ 51 := by simp only [List.length_cons] at t4; omega
      have HGP : Hid (g ≠ p ∧ p < wr.heap.size) := Lib.hid (by have := HZ1.out.lt; omega)
      have HZ8 := Lib.hid (HZ1.out.ext HXA.out)
      have HX8 := Lib.hid (HX.out.trans HXA.out)
      clear hd8 hf8 t1 t2 t3 t4 HDA HFA HSRC HOWN HXC hcl hbl hx hgw
      generalize trimL (x :: rs) = r8 at *
      have HCM := Lib.hid (bcmp_any r8 m w8 _ _ HD8.out (HB.out.ext HX8.out) HT2.out HTM.out)
      obtain ⟨z, hz⟩ : ∃ z, z = cmpL r8 m := ⟨_, rfl⟩
      rw [← hz] at HCM
      have HZC : Hid (z < 0 ↔ dv r8 < dv m) := Lib.hid (by
        rw [hz]
        unfold cmpL
        split
        · simp; assumption
        · split <;> simp <;> omega)
      clear hz
      by_cases hz0 : z < 0
      · have HHI : Hid (dv r8 < 1 * dv m) := Lib.hid (by rw [Int.one_mul]; exact HZC.out.1 hz0)
        go_upto_region 11 with (go_at_call 82; (with_reducible refine HCM.out.mono ?_); rintro e w9 ⟨rfl, hx9⟩)
        have HX9 := Lib.hid (HX8.out.trans hx9); have HD9 := Lib.hid (HD8.out.ext hx9); have HX89 := Lib.hid hx9
        clear hx9 HCM HZC hz0
        go_loopw [9, 10] (fun a b wq => ∃ lo hi : Int, a = .int .i64 lo ∧ b = .int .i64 hi ∧ 0 ≤ lo ∧ lo < hi ∧ hi ≤ 65536 ∧ Hid (lo * dv m ≤ dv r8 ∧ dv r8 < hi * dv m) ∧ Ext w9 wq) (fun a b _ => (intOf b - intOf a).toNat)
        case atStart => exact ⟨0, 1, rfl, rfl, by omega, by omega, by omega, Lib.hid ⟨by rw [Int.zero_mul]; exact dv_nonneg HD8.out.dg, HHI.out⟩, Ext.refl _⟩
        case round =>
          rename World => wq
          obtain ⟨lo, hi, rfl, rfl, hlo, hlh, hhi, HS, hxq⟩ := hrel
          have kw : IntKind.i64.wrap (hi - lo) = hi - lo := by rw [IntKind.wrap_i64]; omega
          by_cases hgap : 1 < hi - lo
          · have kw2 : IntKind.i64.wrap (lo + hi) = lo + hi := by rw [IntKind.wrap_i64]; omega
            have kt : (lo + hi).tdiv 2 = (lo + hi) / 2 := Int.tdiv_eq_ediv_of_nonneg (by omega)
            obtain ⟨mm, hmm⟩ : ∃ mm, mm = (lo + hi) / 2 := ⟨_, rfl⟩
            have hm1 : lo < mm ∧ mm < hi := by omega
            rw [← hmm] at kt
            have hmm' : (lo + hi) / 2 = mm := hmm.symm
            obtain ⟨hm1, hm2⟩ := hm1
            have hmd : 0 ≤ mm ∧ mm < 65536 := by omega
            have HBY := Lib.hid (by_any m mm wq _ (HB.out.ext (HX9.out.trans hxq)) (by omega) hmd)
            obtain ⟨y1, y2, y3, y4⟩ := timesL_spec m [mm] HB.out.dg (Dg.cons hmd Dg.nil)
            have HTY := Lib.hid y2
            have HYV : Hid (dv (timesL m [mm]) = mm * dv m) := Lib.hid (by rw [y3, Int.mul_comm]; simp [dv])
            have HCQ := Lib.hid (fun wB vB (hB : DR wB vB (timesL m [mm])) (hxB : Ext wq wB) => bcmp_any (timesL m [mm]) r8 wB _ _ hB (HD9.out.ext (hxq.trans hxB)) y2 HT2.out)
            obtain ⟨z2, hz2⟩ : ∃ z2, z2 = cmpL (timesL m [mm]) r8 := ⟨_, rfl⟩
            rw [← hz2] at HCQ
            have HZ2 : Hid (z2 ≤ 0 ↔ mm * dv m ≤ dv r8) := Lib.hid (by
              rw [hz2, ← HYV.out]
              unfold cmpL
              split
              · simp; omega
              · split <;> simp <;> omega)
            have HXQ := Lib.hid hxq
            clear hz2 y1 y2 y3 y4 hxq HYV hmm
            generalize timesL m [mm] = ts at *
            by_cases hz0 : z2 ≤ 0
            · have HS2 := Lib.hid (HZ2.out.1 hz0)
              go_wp2_with (first
                | (go_at_call 99; (with_reducible refine HBY.out.mono ?_); rintro e wB ⟨vB, rfl, hxB, hdB⟩; have HDB := Lib.hid hdB; have HXB := Lib.hid hxB; clear hdB hxB)
                | (go_at_call 82; (with_reducible refine (HCQ.out wB vB HDB.out HXB.out).mono ?_); rintro e wC ⟨rfl, hxC⟩))
              exact ⟨⟨mm, hi, rfl, rfl, by omega, by omega, by omega, Lib.hid ⟨HS2.out, HS.out.2⟩, HXQ.out.trans (HXB.out.trans hxC)⟩, by simp [intOf]; omega⟩
            · have HS2 := Lib.hid (show ¬ mm * dv m ≤ dv r8 from fun h => hz0 (HZ2.out.2 h))
              go_wp2_with (first
                | (go_at_call 99; (with_reducible refine HBY.out.mono ?_); rintro e wB ⟨vB, rfl, hxB, hdB⟩; have HDB := Lib.hid hdB; have HXB := Lib.hid hxB; clear hdB hxB)
                | (go_at_call 82; (with_reducible refine (HCQ.out wB vB HDB.out HXB.out).mono ?_); rintro e wC ⟨rfl, hxC⟩))
              exact ⟨⟨lo, mm, rfl, rfl, by omega, by omega, by omega, Lib.hid ⟨HS.out.1, by have := HS2.out; omega⟩, HXQ.out.trans (HXB.out.trans hxC)⟩, by simp [intOf]; omega⟩
          · have hld : 0 ≤ lo ∧ lo < 65536 := by omega
            have HEND := Lib.hid (ov_end (by omega) hlh HS.out.1 HS.out.2)
            have hiq : i < qs.length := by rw [HQL.out]; exact hil
            have HZq := Lib.hid (HZ8.out.ext (HX89.out.trans hxq))
            have cz := HZq.out.cell i hiq
            have cl := HZq.out.lt
            have cf := HZq.out.free i
            have HXQ := Lib.hid (HX9.out.trans hxq)
            have HDQ := Lib.hid (HD9.out.ext hxq)
            obtain ⟨o0, ho0⟩ : ∃ o0, o0 = qs[i] := ⟨_, rfl⟩
            rw [← ho0] at cz
            clear ho0 HS hxq
            go_upto_region 17 with (fail)
            have HZs := Lib.hid (HZq.out.set' i lo)
            have HDs := Lib.hid (DR.other HDQ.out HGP.out.1 (i := i) (.int .i64 lo))
            have HXs : Hid (Ext w (wq.setCell ⟨p, i, none⟩ (.int .i64 lo))) := Lib.hid (Below.setCell HXQ.out (by have := HPE.out; show _ ≤ p; omega) _)
            clear cz cl cf HZq HDQ HXQ
            generalize wq.setCell ⟨p, i, none⟩ (.int .i64 lo) = W8 at *
            have HBY := Lib.hid (by_any m lo W8 _ (HB.out.ext HXs.out) (by omega) hld)
            obtain ⟨y1, y2, y3, y4⟩ := timesL_spec m [lo] HB.out.dg (Dg.cons hld Dg.nil)
            have HYV : Hid (dv (timesL m [lo]) = lo * dv m) := Lib.hid (by rw [y3, Int.mul_comm]; simp [dv])
            have HMI := Lib.hid (fun wB vB (hB : DR wB vB (timesL m [lo])) (hxB : Ext W8 wB) => minus_any r8 (timesL m [lo]) wB _ _ (HDs.out.ext hxB) hB (by omega) (by simp only [List.length_cons, List.length_nil] at y4; omega) (by rw [HYV.out]; have := HEND.out.1; omega))
            obtain ⟨n1, n2, n3⟩ := minusL_spec 0 r8 (timesL m [lo]) (by omega) (by omega) HDs.out.dg y1 (by rw [HYV.out]; have := HEND.out.1; omega)
            obtain ⟨t1, t2, t3, t4⟩ := trimL_spec _ n1
            have HRN : Hid (Tr (trimL (minusL 0 r8 (timesL m [lo]))) ∧ dv (trimL (minusL 0 r8 (timesL m [lo]))) = dv r8 - lo * dv m) := Lib.hid ⟨t2, by rw [t3, n2, HYV.out]; omega⟩
            have HLN : Hid ((trimL (minusL 0 r8 (timesL m [lo]))).length ≤ m.length) := Lib.hid (t2.len_le t1 _ (by have h1 := HRN.out.2; have h2 := HEND.out.2; have h3 := dv_lt HB.out.dg; omega))
            clear y1 y2 y3 y4 n1 n2 n3 t1 t2 t3 t4 HYV
            generalize timesL m [lo] = ts at *
            go_wp2_with (first
              | (go_at_call 99; (with_reducible refine HBY.out.mono ?_); rintro e wB ⟨vB, rfl, hxB, hdB⟩; have HDB := Lib.hid hdB; have HXB := Lib.hid hxB; clear hdB hxB)
              | (go_at_call 83; (with_reducible refine (HMI.out wB vB HDB.out HXB.out).mono ?_); rintro e wC ⟨vC, rfl, hxC, hdC⟩))
            refine ⟨?_, by simp only [intOf]; omega⟩
            unfold OvI
            refine ⟨i, qs.set i lo, _, rfl, by omega, HZs.out.ext (HXB.out.trans hxC), by rw [List.length_set]; exact HQL.out, fun d hd => ?_, hdC, HRN.out.1, ?_, HLN.out, ?_, HXs.out.trans (HXB.out.trans hxC)⟩
            · rcases List.mem_or_eq_of_mem_set hd with hd | rfl
              · exact HQD.out d hd
              · exact hld
            · rw [HRN.out.2]; exact HEND.out.2
            · rw [HRN.out.2, HDD.out, HR8.out, drop_set_self qs i lo hiq, dv_cons]
              exact ov_step HE.out
      · have HHI : Hid (dv r8 < 65536 * dv m) := Lib.hid (by rw [HR8.out]; exact ov_bound HXD.out.2 HRM.out)
        go_upto_region 11 with (go_at_call 82; (with_reducible refine HCM.out.mono ?_); rintro e w9 ⟨rfl, hx9⟩)
        have HX9 := Lib.hid (HX8.out.trans hx9); have HD9 := Lib.hid (HD8.out.ext hx9); have HX89 := Lib.hid hx9
        clear hx9 HCM HZC hz0
        go_loopw [9, 10] (fun a b wq => ∃ lo hi : Int, a = .int .i64 lo ∧ b = .int .i64 hi ∧ 0 ≤ lo ∧ lo < hi ∧ hi ≤ 65536 ∧ Hid (lo * dv m ≤ dv r8 ∧ dv r8 < hi * dv m) ∧ Ext w9 wq) (fun a b _ => (intOf b - intOf a).toNat)
        case atStart => exact ⟨0, 65536, rfl, rfl, by omega, by omega, by omega, Lib.hid ⟨by rw [Int.zero_mul]; exact dv_nonneg HD8.out.dg, HHI.out⟩, Ext.refl _⟩
        case round =>
          rename World => wq
          obtain ⟨lo, hi, rfl, rfl, hlo, hlh, hhi, HS, hxq⟩ := hrel
          have kw : IntKind.i64.wrap (hi - lo) = hi - lo := by rw [IntKind.wrap_i64]; omega
          by_cases hgap : 1 < hi - lo
          · have kw2 : IntKind.i64.wrap (lo + hi) = lo + hi := by rw [IntKind.wrap_i64]; omega
            have kt : (lo + hi).tdiv 2 = (lo + hi) / 2 := Int.tdiv_eq_ediv_of_nonneg (by omega)
            obtain ⟨mm, hmm⟩ : ∃ mm, mm = (lo + hi) / 2 := ⟨_, rfl⟩
            have hm1 : lo < mm ∧ mm < hi := by omega
            rw [← hmm] at kt
            have hmm' : (lo + hi) / 2 = mm := hmm.symm
            obtain ⟨hm1, hm2⟩ := hm1
            have hmd : 0 ≤ mm ∧ mm < 65536 := by omega
            have HBY := Lib.hid (by_any m mm wq _ (HB.out.ext (HX9.out.trans hxq)) (by omega) hmd)
            obtain ⟨y1, y2, y3, y4⟩ := timesL_spec m [mm] HB.out.dg (Dg.cons hmd Dg.nil)
            have HTY := Lib.hid y2
            have HYV : Hid (dv (timesL m [mm]) = mm * dv m) := Lib.hid (by rw [y3, Int.mul_comm]; simp [dv])
            have HCQ := Lib.hid (fun wB vB (hB : DR wB vB (timesL m [mm])) (hxB : Ext wq wB) => bcmp_any (timesL m [mm]) r8 wB _ _ hB (HD9.out.ext (hxq.trans hxB)) y2 HT2.out)
            obtain ⟨z2, hz2⟩ : ∃ z2, z2 = cmpL (timesL m [mm]) r8 := ⟨_, rfl⟩
            rw [← hz2] at HCQ
            have HZ2 : Hid (z2 ≤ 0 ↔ mm * dv m ≤ dv r8) := Lib.hid (by
              rw [hz2, ← HYV.out]
              unfold cmpL
              split
              · simp; omega
              · split <;> simp <;> omega)
            have HXQ := Lib.hid hxq
            clear hz2 y1 y2 y3 y4 hxq HYV hmm
            generalize timesL m [mm] = ts at *
            by_cases hz0 : z2 ≤ 0
            · have HS2 := Lib.hid (HZ2.out.1 hz0)
              go_wp2_with (first
                | (go_at_call 99; (with_reducible refine HBY.out.mono ?_); rintro e wB ⟨vB, rfl, hxB, hdB⟩; have HDB := Lib.hid hdB; have HXB := Lib.hid hxB; clear hdB hxB)
                | (go_at_call 82; (with_reducible refine (HCQ.out wB vB HDB.out HXB.out).mono ?_); rintro e wC ⟨rfl, hxC⟩))
              exact ⟨⟨mm, hi, rfl, rfl, by omega, by omega, by omega, Lib.hid ⟨HS2.out, HS.out.2⟩, HXQ.out.trans (HXB.out.trans hxC)⟩, by simp [intOf]; omega⟩
            · have HS2 := Lib.hid (show ¬ mm * dv m ≤ dv r8 from fun h => hz0 (HZ2.out.2 h))
              go_wp2_with (first
                | (go_at_call 99; (with_reducible refine HBY.out.mono ?_); rintro e wB ⟨vB, rfl, hxB, hdB⟩; have HDB := Lib.hid hdB; have HXB := Lib.hid hxB; clear hdB hxB)
                | (go_at_call 82; (with_reducible refine (HCQ.out wB vB HDB.out HXB.out).mono ?_); rintro e wC ⟨rfl, hxC⟩))
              exact ⟨⟨lo, mm, rfl, rfl, by omega, by omega, by omega, Lib.hid ⟨HS.out.1, by have := HS2.out; omega⟩, HXQ.out.trans (HXB.out.trans hxC)⟩, by simp [intOf]; omega⟩
          · have hld : 0 ≤ lo ∧ lo < 65536 := by omega
            have HEND := Lib.hid (ov_end (by omega) hlh HS.out.1 HS.out.2)
            have hiq : i < qs.length := by rw [HQL.out]; exact hil
            have HZq := Lib.hid (HZ8.out.ext (HX89.out.trans hxq))
            have cz := HZq.out.cell i hiq
            have cl := HZq.out.lt
            have cf := HZq.out.free i
            have HXQ := Lib.hid (HX9.out.trans hxq)
            have HDQ := Lib.hid (HD9.out.ext hxq)
            obtain ⟨o0, ho0⟩ : ∃ o0, o0 = qs[i] := ⟨_, rfl⟩
            rw [← ho0] at cz
            clear ho0 HS hxq
            go_upto_region 17 with (fail)
            have HZs := Lib.hid (HZq.out.set' i lo)
            have HDs := Lib.hid (DR.other HDQ.out HGP.out.1 (i := i) (.int .i64 lo))
            have HXs : Hid (Ext w (wq.setCell ⟨p, i, none⟩ (.int .i64 lo))) := Lib.hid (Below.setCell HXQ.out (by have := HPE.out; show _ ≤ p; omega) _)
            clear cz cl cf HZq HDQ HXQ
            generalize wq.setCell ⟨p, i, none⟩ (.int .i64 lo) = W8 at *
            have HBY := Lib.hid (by_any m lo W8 _ (HB.out.ext HXs.out) (by omega) hld)
            obtain ⟨y1, y2, y3, y4⟩ := timesL_spec m [lo] HB.out.dg (Dg.cons hld Dg.nil)
            have HYV : Hid (dv (timesL m [lo]) = lo * dv m) := Lib.hid (by rw [y3, Int.mul_comm]; simp [dv])
            have HMI := Lib.hid (fun wB vB (hB : DR wB vB (timesL m [lo])) (hxB : Ext W8 wB) => minus_any r8 (timesL m [lo]) wB _ _ (HDs.out.ext hxB) hB (by omega) (by simp only [List.length_cons, List.length_nil] at y4; omega) (by rw [HYV.out]; have := HEND.out.1; omega))
            obtain ⟨n1, n2, n3⟩ := minusL_spec 0 r8 (timesL m [lo]) (by omega) (by omega) HDs.out.dg y1 (by rw [HYV.out]; have := HEND.out.1; omega)
            obtain ⟨t1, t2, t3, t4⟩ := trimL_spec _ n1
            have HRN : Hid (Tr (trimL (minusL 0 r8 (timesL m [lo]))) ∧ dv (trimL (minusL 0 r8 (timesL m [lo]))) = dv r8 - lo * dv m) := Lib.hid ⟨t2, by rw [t3, n2, HYV.out]; omega⟩
            have HLN : Hid ((trimL (minusL 0 r8 (timesL m [lo]))).length ≤ m.length) := Lib.hid (t2.len_le t1 _ (by have h1 := HRN.out.2; have h2 := HEND.out.2; have h3 := dv_lt HB.out.dg; omega))
            clear y1 y2 y3 y4 n1 n2 n3 t1 t2 t3 t4 HYV
            generalize timesL m [lo] = ts at *
            go_wp2_with (first
              | (go_at_call 99; (with_reducible refine HBY.out.mono ?_); rintro e wB ⟨vB, rfl, hxB, hdB⟩; have HDB := Lib.hid hdB; have HXB := Lib.hid hxB; clear hdB hxB)
              | (go_at_call 83; (with_reducible refine (HMI.out wB vB HDB.out HXB.out).mono ?_); rintro e wC ⟨vC, rfl, hxC, hdC⟩))
            refine ⟨?_, by simp only [intOf]; omega⟩
            unfold OvI
            refine ⟨i, qs.set i lo, _, rfl, by omega, HZs.out.ext (HXB.out.trans hxC), by rw [List.length_set]; exact HQL.out, fun d hd => ?_, hdC, HRN.out.1, ?_, HLN.out, ?_, HXs.out.trans (HXB.out.trans hxC)⟩
            · rcases List.mem_or_eq_of_mem_set hd with hd | rfl
              · exact HQD.out d hd
              · exact hld
            · rw [HRN.out.2]; exact HEND.out.2
            · rw [HRN.out.2, HDD.out, HR8.out, drop_set_self qs i lo hiq, dv_cons]
              exact ov_step HE.out
end Go.Proofs.Ytgkdeknfmmgbdaa

namespace Go.Proofs.Ytgkdeknfmmgbdaa
set_option linter.unusedVariables false
set_option linter.unusedSimpArgs false

theorem gcd_mul_one {a b c : Int} (h1 : Int.gcd a c = 1) (h2 : Int.gcd b c = 1) : Int.gcd (a * b) c = 1 := by
  rw [Int.gcd_eq_natAbs_gcd_natAbs, Int.natAbs_mul] at *
  exact Nat.Coprime.mul_left h1 h2
theorem gcd_dvd_one {a b c : Int} (hd : a ∣ b) (h : Int.gcd b c = 1) : Int.gcd a c = 1 := by
  rw [Int.gcd_eq_natAbs_gcd_natAbs] at *
  exact Nat.Coprime.coprime_dvd_left (Int.natAbs_dvd_natAbs.2 hd) h
theorem gcd_comm1 {a b : Int} (h : Int.gcd a b = 1) : Int.gcd b a = 1 := (Int.gcd_comm b a).trans h
theorem gcd_dvd_one' {a b c : Int} (hd : a ∣ b) (h : Int.gcd c b = 1) : Int.gcd c a = 1 := gcd_comm1 (gcd_dvd_one hd (gcd_comm1 h))
theorem dvd_of_cop {a b c : Int} (h : a ∣ b * c) (hc : Int.gcd a b = 1) : a ∣ c := by
  rw [← Int.natAbs_dvd_natAbs, Int.natAbs_mul] at h
  rw [← Int.natAbs_dvd_natAbs]
  rw [Int.gcd_eq_natAbs_gcd_natAbs] at hc
  exact Nat.Coprime.dvd_of_dvd_mul_left hc h
theorem gcd_emod' (a b : Int) : Int.gcd a (b % a) = Int.gcd a b := by
  have : b % a = b + (-(b / a)) * a := by have := Int.emod_add_mul_ediv b a; rw [Int.neg_mul, Int.mul_comm (b / a) a]; omega
  rw [this, Int.gcd_add_mul_right_right]

/-- Lowest terms are found by cross multiplication. -/
theorem norm_unique {p q N D : Int} (hq : 0 < q) (hD : 0 < D) (hc : Int.gcd p q = 1) (h : p * D = N * q) : N / (Int.gcd N D : Int) = p ∧ D / (Int.gcd N D : Int) = q := by
  have hd : q ∣ p * D := ⟨N, by rw [h, Int.mul_comm]⟩
  obtain ⟨k, rfl⟩ := dvd_of_cop hd (gcd_comm1 hc)
  have hk : 0 < k := by
    rcases Int.lt_trichotomy k 0 with h1 | h1 | h1
    · have := Int.mul_neg_of_pos_of_neg hq h1; omega
    · subst h1; simp at hD
    · exact h1
  have hN : N = p * k := by
    have : q * (p * k) = q * N := by rw [← Int.mul_assoc, Int.mul_comm q p, Int.mul_assoc, h, Int.mul_comm]
    exact (Int.eq_of_mul_eq_mul_left (by omega) this).symm
  subst hN
  have hg : (Int.gcd (p * k) (q * k) : Int) = k := by
    rw [Int.gcd_mul_right, hc, Nat.one_mul]
    omega
  rw [hg]
  exact ⟨Int.mul_ediv_cancel _ (by omega), Int.mul_ediv_cancel _ (by omega)⟩

/-- A quotient in lowest terms, if its terms fit. -/
def normS (N D : Int) : (Int × Int) × Bool :=
  let g : Int := Int.gcd N D
  if N / g < -9223372036854775808 ∨ 9223372036854775807 < N / g ∨ 9223372036854775807 < D / g then ((0, 1), false) else ((N / g, D / g), true)
theorem normS_of {p q N D : Int} (hq : 0 < q) (hD : 0 < D) (hc : Int.gcd p q = 1) (h : p * D = N * q) : normS N D = if p < -9223372036854775808 ∨ 9223372036854775807 < p ∨ 9223372036854775807 < q then ((0, 1), false) else ((p, q), true) := by
  obtain ⟨h1, h2⟩ := norm_unique hq hD hc h
  unfold normS
  simp only [h1, h2]
def sgn (neg : Bool) (n : Int) : Int := if neg then -n else n
theorem ratS_eq {neg : Bool} {n q : Int} (hn : 0 ≤ n) (hz : neg = true → 0 < n) : ratS neg n q = if sgn neg n < -9223372036854775808 ∨ 9223372036854775807 < sgn neg n ∨ 9223372036854775807 < q then ((0, 1), false) else ((sgn neg n, q), true) := by
  unfold ratS sgn
  cases neg
  · simp only [Bool.false_eq_true, if_false, and_true]
    by_cases h : 9223372036854775808 < n ∨ n = 9223372036854775808 ∨ 9223372036854775807 < q
    · rw [if_pos h, if_pos (by omega)]
    · rw [if_neg h, if_neg (by omega)]
  · simp only [if_true, Bool.true_eq_false, and_false, false_or]
    by_cases h : 9223372036854775808 < n ∨ 9223372036854775807 < q
    · rw [if_pos h, if_pos (by omega)]
    · rw [if_neg h, if_neg (by omega)]

theorem sgn_gcd (neg : Bool) (n d : Int) : Int.gcd (sgn neg n) d = Int.gcd n d := by unfold sgn; cases neg <;> simp
theorem sgn_abs (neg : Bool) (n : Int) : (sgn neg n).natAbs = n.natAbs := by unfold sgn; cases neg <;> simp

theorem sumTop_sgn (xn : Bool) (n1 d1 : Int) (yn : Bool) (n2 d2 : Int) :
    sgn (sumTop xn n1 d1 yn n2 d2).1 (sumTop xn n1 d1 yn n2 d2).2 = sgn xn n1 * (d2 / (Int.gcd d1 d2 : Int)) + sgn yn n2 * (d1 / (Int.gcd d1 d2 : Int)) := by
  unfold sumTop sgn
  simp only
  generalize d2 / (Int.gcd d1 d2 : Int) = e2
  generalize d1 / (Int.gcd d1 d2 : Int) = e1
  cases xn <;> cases yn <;> simp only [Bool.false_eq_true, if_false, if_true, Bool.true_eq_false, Int.neg_mul]
  · split <;> simp only [Bool.false_eq_true, if_false, if_true] <;> omega
  · split <;> simp only [Bool.false_eq_true, if_false, if_true] <;> omega
  · omega
theorem sumTop_nn (xn : Bool) (n1 d1 : Int) (yn : Bool) (n2 d2 : Int) (h1 : 0 ≤ n1) (h2 : 0 ≤ n2) (h3 : 0 < d1) (h4 : 0 < d2) : 0 ≤ (sumTop xn n1 d1 yn n2 d2).2 := by
  have ha : 0 ≤ n1 * (d2 / (Int.gcd d1 d2 : Int)) := Int.mul_nonneg h1 (div_nn (by omega) (gcd_nn _ _))
  have hb : 0 ≤ n2 * (d1 / (Int.gcd d1 d2 : Int)) := Int.mul_nonneg h2 (div_nn (by omega) (gcd_nn _ _))
  unfold sumTop
  simp only
  split
  · show (0 : Int) ≤ _ + _; omega
  · split
    · show (0 : Int) ≤ _ - _; omega
    · show (0 : Int) ≤ _ - _; omega

/-- A sum of two numbers in lowest terms. -/
theorem sumS_norm (xn : Bool) (n1 d1 : Int) (yn : Bool) (n2 d2 : Int) (h1 : 0 ≤ n1) (h2 : 0 ≤ n2) (h3 : 0 < d1) (h4 : 0 < d2) (c1 : Int.gcd n1 d1 = 1) (c2 : Int.gcd n2 d2 = 1) :
    sumS xn n1 d1 yn n2 d2 = normS (sgn xn n1 * d2 + sgn yn n2 * d1) (d1 * d2) := by
  have hT := sumTop_sgn xn n1 d1 yn n2 d2
  have hn := sumTop_nn xn n1 d1 yn n2 d2 h1 h2 h3 h4
  unfold sumS
  simp only
  generalize sumTop xn n1 d1 yn n2 d2 = t at *
  obtain ⟨sg, T⟩ := t
  simp only at hT hn ⊢
  have hg0 : (Int.gcd d1 d2 : Int) ≠ 0 := by
    intro h
    have := Int.gcd_dvd_left d1 d2
    rw [h] at this
    have := Int.zero_dvd.1 this
    omega
  have hgn := gcd_nn d1 d2
  obtain ⟨e1, he1⟩ := Int.gcd_dvd_left d1 d2
  obtain ⟨e2, he2⟩ := Int.gcd_dvd_right d1 d2
  have hce : Int.gcd e1 e2 = 1 := by
    have h := Int.gcd_mul_left (Int.gcd d1 d2 : Int) e1 e2
    rw [← he1, ← he2, Int.natAbs_natCast] at h
    have h0 : 0 < Int.gcd d1 d2 := by omega
    exact (Nat.eq_of_mul_eq_mul_left h0 (by rw [Nat.mul_one]; exact h.symm))
  generalize hg : (Int.gcd d1 d2 : Int) = g at *
  have hgp : 0 < g := by omega
  have q1 : d1 / g = e1 := by rw [he1, Int.mul_ediv_cancel_left _ hg0]
  have q2 : d2 / g = e2 := by rw [he2, Int.mul_ediv_cancel_left _ hg0]
  rw [q1, q2] at hT
  rw [q1]
  have e1p : 0 < e1 := by
    rcases Int.lt_trichotomy e1 0 with h | h | h
    · have := Int.mul_neg_of_pos_of_neg hgp h; omega
    · rw [h] at he1; omega
    · exact h
  have e2p : 0 < e2 := by
    rcases Int.lt_trichotomy e2 0 with h | h | h
    · have := Int.mul_neg_of_pos_of_neg hgp h; omega
    · rw [h] at he2; omega
    · exact h
  have hN : sgn xn n1 * d2 + sgn yn n2 * d1 = g * (sgn sg T) := by
    rw [hT, Int.mul_add]
    conv => lhs; rw [he1, he2]
    rw [Int.mul_left_comm, Int.mul_left_comm (sgn yn n2)]
  have hDp : 0 < d1 * d2 := Int.mul_pos h3 h4
  by_cases hT0 : T = 0
  · rw [if_pos hT0]
    have : sgn sg T = 0 := by unfold sgn; rw [hT0]; cases sg <;> rfl
    rw [hN, this, Int.mul_zero, normS_of (p := 0) (q := 1) (by decide) hDp (by decide) (by simp)]
    rfl
  · rw [if_neg hT0]
    have hTp : 0 < T := by omega
    have hh : (Int.gcd g (T % g) : Int) = (Int.gcd g T : Int) := by rw [gcd_emod']
    rw [hh]
    have hhd1 := Int.gcd_dvd_left g T
    have hhd2 := Int.gcd_dvd_right g T
    have hh0 : (Int.gcd g T : Int) ≠ 0 := by
      intro h
      rw [h] at hhd1
      have := Int.zero_dvd.1 hhd1
      omega
    have hcT : Int.gcd (T / (Int.gcd g T : Int)) (g / (Int.gcd g T : Int)) = 1 := by
      rw [Int.gcd_comm, Int.gcd_ediv hhd1 hhd2, Int.natAbs_natCast]
      exact Nat.div_self (by omega)
    have hhn := gcd_nn g T
    generalize (Int.gcd g T : Int) = h at *
    have hhp : 0 < h := by omega
    obtain ⟨T', rfl⟩ := hhd2
    obtain ⟨g', rfl⟩ := hhd1
    rw [Int.mul_ediv_cancel_left _ hh0] at *
    rw [Int.mul_ediv_cancel_left _ hh0] at hcT
    have hT'p : 0 < T' := by
      rcases Int.lt_trichotomy T' 0 with h' | h' | h'
      · have := Int.mul_neg_of_pos_of_neg hhp h'; omega
      · rw [h'] at hTp; omega
      · exact h'
    have hg'p : 0 < g' := by
      rcases Int.lt_trichotomy g' 0 with h' | h' | h'
      · have := Int.mul_neg_of_pos_of_neg hhp h'; omega
      · rw [h'] at hgp; omega
      · exact h'
    have q3 : d2 / h = g' * e2 := by rw [he2, Int.mul_assoc, Int.mul_ediv_cancel_left _ hh0]
    rw [q3]
    have c1' : Int.gcd (sgn xn n1) e1 = 1 := by rw [sgn_gcd]; exact gcd_dvd_one' ⟨h * g', by rw [he1, Int.mul_comm]⟩ c1
    have c2' : Int.gcd (sgn yn n2) e2 = 1 := by rw [sgn_gcd]; exact gcd_dvd_one' ⟨h * g', by rw [he2, Int.mul_comm]⟩ c2
    have cT1 : Int.gcd (h * T') e1 = 1 := by
      rw [← sgn_gcd sg, hT, Int.gcd_add_mul_right_left]
      exact gcd_mul_one c1' (gcd_comm1 hce)
    have cT2 : Int.gcd (h * T') e2 = 1 := by
      rw [← sgn_gcd sg, hT, Int.add_comm, Int.gcd_add_mul_right_left]
      exact gcd_mul_one c2' hce
    have k1 : Int.gcd T' e1 = 1 := gcd_dvd_one ⟨h, Int.mul_comm _ _⟩ cT1
    have k2 : Int.gcd T' e2 = 1 := gcd_dvd_one ⟨h, Int.mul_comm _ _⟩ cT2
    have k3 : Int.gcd T' (e1 * (g' * e2)) = 1 := gcd_comm1 (gcd_mul_one (gcd_comm1 k1) (gcd_mul_one (gcd_comm1 hcT) (gcd_comm1 k2)))
    have hqp : 0 < e1 * (g' * e2) := Int.mul_pos e1p (Int.mul_pos hg'p e2p)
    have hcross : sgn sg T' * (d1 * d2) = (h * g' * sgn sg (h * T')) * (e1 * (g' * e2)) := by
      have hs : sgn sg (h * T') = h * sgn sg T' := by unfold sgn; cases sg <;> simp [Int.mul_neg]
      rw [hs, he1, he2]
      generalize sgn sg T' = U
      simp only [Int.mul_assoc, Int.mul_left_comm, Int.mul_comm]
    rw [ratS_eq (Int.le_of_lt hT'p) (fun _ => hT'p), hN]
    exact (normS_of hqp hDp (by rw [sgn_gcd]; exact k3) hcross).symm
theorem pos_of_mul {g e : Int} (hg : 0 < g) (h : 0 < g * e) : 0 < e := by
  rcases Int.lt_trichotomy e 0 with h' | h' | h'
  · have := Int.mul_neg_of_pos_of_neg hg h'; omega
  · rw [h'] at h; simp at h
  · exact h'
/-- Two numbers by their greatest common divisor. -/
theorem gcd_split (a b : Int) (hb : 0 < b) : ∃ g x y, (Int.gcd a b : Int) = g ∧ 0 < g ∧ a = g * x ∧ b = g * y ∧ Int.gcd x y = 1 ∧ a / g = x ∧ b / g = y := by
  obtain ⟨x, hx⟩ := Int.gcd_dvd_left a b
  obtain ⟨y, hy⟩ := Int.gcd_dvd_right a b
  have hg : 0 < Int.gcd a b := by
    rcases Nat.eq_zero_or_pos (Int.gcd a b) with h | h
    · rw [h] at hy; simp at hy; omega
    · exact h
  have h0 : (Int.gcd a b : Int) ≠ 0 := by omega
  have hc : Int.gcd x y = 1 := by
    have h := Int.gcd_mul_left (Int.gcd a b : Int) x y
    rw [← hx, ← hy, Int.natAbs_natCast] at h
    exact (Nat.eq_of_mul_eq_mul_left hg (by rw [Nat.mul_one]; exact h.symm))
  generalize hge : (Int.gcd a b : Int) = g at *
  exact ⟨g, x, y, rfl, by omega, hx, hy, hc, by rw [hx, Int.mul_ediv_cancel_left _ h0], by rw [hy, Int.mul_ediv_cancel_left _ h0]⟩
theorem sgn_mul (xn yn : Bool) (a b : Int) : sgn xn a * sgn yn b = sgn (!(xn == yn)) (a * b) := by
  unfold sgn
  cases xn <;> cases yn <;> simp [Int.neg_mul, Int.mul_neg]
/-- A product of two numbers in lowest terms. -/
theorem timesS_norm (xn : Bool) (n1 d1 : Int) (yn : Bool) (n2 d2 : Int) (h1 : 0 ≤ n1) (h2 : 0 ≤ n2) (h3 : 0 < d1) (h4 : 0 < d2) (c1 : Int.gcd n1 d1 = 1) (c2 : Int.gcd n2 d2 = 1) :
    timesS xn n1 d1 yn n2 d2 = normS (sgn xn n1 * sgn yn n2) (d1 * d2) := by
  have hDp : 0 < d1 * d2 := Int.mul_pos h3 h4
  rw [sgn_mul]
  unfold timesS
  by_cases h0 : n1 = 0 ∨ n2 = 0
  · rw [if_pos h0]
    have : sgn (!(xn == yn)) (n1 * n2) = 0 := by
      have : n1 * n2 = 0 := by rcases h0 with rfl | rfl <;> simp
      rw [this]; unfold sgn; cases (!(xn == yn)) <;> rfl
    rw [this, normS_of (p := 0) (q := 1) (by decide) hDp (by decide) (by simp)]
    rfl
  · rw [if_neg h0]
    obtain ⟨g, a1, b2, hg, hgp, rfl, rfl, k1, q1, q2⟩ := gcd_split n1 d2 h4
    obtain ⟨h, a2, b1, hh, hhp, rfl, rfl, k2, q3, q4⟩ := gcd_split n2 d1 h3
    rw [hg, hh, q1, q2, q3, q4]
    have a1p : 0 < a1 := pos_of_mul hgp (by omega)
    have a2p : 0 < a2 := pos_of_mul hhp (by omega)
    have b1p := pos_of_mul hhp h3
    have b2p := pos_of_mul hgp h4
    have j1 : Int.gcd a1 b1 = 1 := gcd_dvd_one' ⟨h, Int.mul_comm _ _⟩ (gcd_dvd_one ⟨g, Int.mul_comm _ _⟩ c1)
    have j2 : Int.gcd a2 b2 = 1 := gcd_dvd_one' ⟨g, Int.mul_comm _ _⟩ (gcd_dvd_one ⟨h, Int.mul_comm _ _⟩ c2)
    have hc : Int.gcd (a1 * a2) (b1 * b2) = 1 := gcd_comm1 (gcd_mul_one (gcd_comm1 (gcd_mul_one j1 k2)) (gcd_comm1 (gcd_mul_one k1 j2)))
    have hap := Int.mul_pos a1p a2p
    have hbp := Int.mul_pos b1p b2p
    have hcross : sgn (!(xn == yn)) (a1 * a2) * (h * b1 * (g * b2)) = sgn (!(xn == yn)) (g * a1 * (h * a2)) * (b1 * b2) := by
      have hs : sgn (!(xn == yn)) (g * a1 * (h * a2)) = g * h * sgn (!(xn == yn)) (a1 * a2) := by
        unfold sgn
        cases (!(xn == yn)) <;> simp [Int.mul_neg, Int.mul_assoc, Int.mul_left_comm, Int.mul_comm]
      rw [hs]
      generalize sgn (!(xn == yn)) (a1 * a2) = U
      simp only [Int.mul_assoc, Int.mul_left_comm, Int.mul_comm]
    rw [ratS_eq (Int.le_of_lt hap) (fun _ => hap)]
    exact (normS_of hbp hDp (by rw [sgn_gcd]; exact hc) hcross).symm

theorem sgn_size (n : Int) : sgn (decide (n < 0)) (sizeZ n) = n := by
  unfold sgn sizeZ
  by_cases h : n < 0 <;> simp [h]
theorem sgn_size' (n : Int) : sgn (!decide (n < 0)) (sizeZ n) = -n := by
  unfold sgn sizeZ
  by_cases h : n < 0 <;> simp [h]
theorem sizeZ_gcd (n d : Int) : Int.gcd (sizeZ n) d = Int.gcd n d := by unfold sizeZ; split <;> simp
theorem sizeZ_nn (n : Int) : 0 ≤ sizeZ n := by unfold sizeZ; split <;> omega
theorem rightB_iff (n d : Int) : rightB n d = true ↔ 0 < d ∧ Int.gcd n d = 1 := by
  unfold rightB
  rw [Bool.and_eq_true, decide_eq_true_eq, beq_iff_eq, sizeZ_gcd]
  constructor
  · rintro ⟨h1, h2⟩; exact ⟨h1, by omega⟩
  · rintro ⟨h1, h2⟩; exact ⟨h1, by omega⟩
theorem addI_norm {a b : Int × Int} (ha : rightB a.1 a.2 = true) (hb : rightB b.1 b.2 = true) : addI a b = normS (a.1 * b.2 + b.1 * a.2) (a.2 * b.2) := by
  obtain ⟨a0, a1⟩ := (rightB_iff _ _).1 ha
  obtain ⟨b0, b1⟩ := (rightB_iff _ _).1 hb
  unfold addI
  rw [if_pos (by rw [ha, hb]; rfl), sizeZ_pos (d := a.2) a0, sizeZ_pos (d := b.2) b0, sumS_norm _ _ _ _ _ _ (sizeZ_nn _) (sizeZ_nn _) a0 b0 (by rw [sizeZ_gcd]; exact a1) (by rw [sizeZ_gcd]; exact b1), sgn_size, sgn_size]
theorem subI_norm {a b : Int × Int} (ha : rightB a.1 a.2 = true) (hb : rightB b.1 b.2 = true) : subI a b = normS (a.1 * b.2 - b.1 * a.2) (a.2 * b.2) := by
  obtain ⟨a0, a1⟩ := (rightB_iff _ _).1 ha
  obtain ⟨b0, b1⟩ := (rightB_iff _ _).1 hb
  unfold subI
  rw [if_pos (by rw [ha, hb]; rfl), sizeZ_pos (d := a.2) a0, sizeZ_pos (d := b.2) b0, sumS_norm _ _ _ _ _ _ (sizeZ_nn _) (sizeZ_nn _) a0 b0 (by rw [sizeZ_gcd]; exact a1) (by rw [sizeZ_gcd]; exact b1), sgn_size, sgn_size', Int.neg_mul, ← Int.sub_eq_add_neg]
theorem mulI_norm {a b : Int × Int} (ha : rightB a.1 a.2 = true) (hb : rightB b.1 b.2 = true) : mulI a b = normS (a.1 * b.1) (a.2 * b.2) := by
  obtain ⟨a0, a1⟩ := (rightB_iff _ _).1 ha
  obtain ⟨b0, b1⟩ := (rightB_iff _ _).1 hb
  unfold mulI
  rw [if_pos (by rw [ha, hb]; rfl), sizeZ_pos (d := a.2) a0, sizeZ_pos (d := b.2) b0, timesS_norm _ _ _ _ _ _ (sizeZ_nn _) (sizeZ_nn _) a0 b0 (by rw [sizeZ_gcd]; exact a1) (by rw [sizeZ_gcd]; exact b1), sgn_size, sgn_size]
theorem quoI_norm {a b : Int × Int} (ha : rightB a.1 a.2 = true) (hb : rightB b.1 b.2 = true) (h0 : b.1 ≠ 0) : quoI a b = normS (a.1 * sgn (decide (b.1 < 0)) b.2) (a.2 * sizeZ b.1) := by
  obtain ⟨a0, a1⟩ := (rightB_iff _ _).1 ha
  obtain ⟨b0, b1⟩ := (rightB_iff _ _).1 hb
  have hp : 0 < sizeZ b.1 := by unfold sizeZ; split <;> omega
  unfold quoI
  rw [if_pos (by rw [ha, hb]; rfl), if_neg h0, sizeZ_pos (d := a.2) a0, sizeZ_pos (d := b.2) b0, timesS_norm _ _ _ _ _ _ (sizeZ_nn _) (by omega) a0 hp (by rw [sizeZ_gcd]; exact a1) (by rw [Int.gcd_comm, sizeZ_gcd]; exact b1), sgn_size]
/-- What is in lowest terms is right. -/
theorem normS_right {N D : Int} (hD : 0 < D) {p : Int × Int} (h : normS N D = (p, true)) : rightB p.1 p.2 = true ∧ p.1 * D = N * p.2 := by
  obtain ⟨g, x, y, hg, hgp, rfl, rfl, hc, q1, q2⟩ := gcd_split N D hD
  unfold normS at h
  simp only at h
  split at h
  · cases h
  · injection h with h _
    rw [hg, q1, q2] at h
    subst h
    refine ⟨(rightB_iff _ _).2 ⟨pos_of_mul hgp hD, hc⟩, ?_⟩
    simp only [Int.mul_assoc, Int.mul_left_comm, Int.mul_comm]
end Go.Proofs.Ytgkdeknfmmgbdaa

namespace Go.Proofs.Ytgkdeknfmmgbdaa
set_option linter.unusedVariables false
set_option linter.unusedSimpArgs false
open Go.RowKit

theorem bgcd_step (a b : Int) : Int.gcd b (a % b) = Int.gcd a b := by rw [gcd_emod', Int.gcd_comm]
def GcI (G : Nat) (w : World) (a b : Value) (wr : World) : Prop := ∃ ga bs, DR wr a ga ∧ DR wr b bs ∧ ga.length ≤ 50 ∧ bs.length ≤ 50 ∧ Int.gcd (dv ga) (dv bs) = G ∧ Ext w wr

set_option maxRecDepth 100000 in
set_option maxHeartbeats 1000000 in
theorem bcommon_any (l m : List Int) (w : World) (v u : Value) (h : DR w v l) (h' : DR w u m) (hl : l.length ≤ 50) (hm : m.length ≤ 50) :
    Calls Try.prog 77 #[v, u] w fun e w' => ∃ x g, e = .returned x ∧ Ext w w' ∧ DR w' x g ∧ Tr g ∧ dv g = (Int.gcd (dv l) (dv m) : Int) ∧ g.length ≤ 50 := by
  have HI : Hid (GcI (Int.gcd (dv l) (dv m)) w v u w) := Lib.hid ⟨l, m, h, h', hl, hm, rfl, Ext.refl _⟩
  generalize Int.gcd (dv l) (dv m) = G at *
  clear h h' hl hm
  go_enter Try.func77, Try.ntmps77
  go_upto_region 1 with (fail)
  go_loopw [0, 1] (fun a b wr => GcI G w a b wr) (fun _ b wr => dvOf wr b)
  case atStart => exact HI.out
  case round =>
    unfold GcI at hrel
    obtain ⟨ga, bs, ha, hb, hla, hlb, hG, hx⟩ := hrel
    obtain ⟨A, ca, rfl⟩ := ha.form
    obtain ⟨B, cb, rfl⟩ := hb.form
    have HA := Lib.hid ha; have HB := Lib.hid hb; have HG := Lib.hid hG; have HX := Lib.hid hx
    have HDV := Lib.hid (dvOf_eq hb)
    have HTB := Lib.hid (trim_any bs wr _ hb)
    obtain ⟨t1, t2, t3, t4⟩ := trimL_spec bs hb.dg
    obtain ⟨s1, s2, s3, s4⟩ := trimL_spec ga ha.dg
    by_cases h0 : dv bs = 0
    · have hnil : trimL bs = [] := dv_zero t1 t2 (by rw [t3, h0])
      rw [hnil] at HTB
      have HS := Lib.hid (show dv (trimL ga) = (G : Int) ∧ Tr (trimL ga) ∧ (trimL ga).length ≤ 50 from ⟨by rw [s3, ← hG, h0, Int.gcd_zero]; have := dv_nonneg ha.dg; omega, s2, by omega⟩)
      have HTA := Lib.hid (fun W (hW : Ext wr W) => trim_any ga W _ (HA.out.ext hW))
      clear ha hb hG hx t1 t2 t3 t4 s1 s2 s3 s4 h0 hnil
      go_upto_region 5 with (go_at_call 79; (with_reducible refine HTB.out.mono ?_); rintro e w2 ⟨x2, rfl, hx2, hd2⟩; obtain ⟨A2, c2, rfl⟩ := hd2.form; simp only [List.length_nil])
      go_wp2_with (go_at_call 79; (with_reducible refine (HTA.out w2 hx2).mono ?_); rintro e w3 ⟨x3, rfl, hx3, hd3⟩)
      go_ret
      exact ⟨x3, _, rfl, HX.out.trans (hx2.trans hx3), hd3, HS.out.2.1, HS.out.1, HS.out.2.2⟩
    · have hpos : 0 < dv (trimL bs) := by have := dv_nonneg hb.dg; omega
      have hlen : 0 < (trimL bs).length := by
        rcases Nat.eq_zero_or_pos (trimL bs).length with h | h
        · rw [List.length_eq_zero_iff.1 h] at hpos
          simp [dv] at hpos
        · exact h
      have HTA := Lib.hid (fun W (hW : Ext wr W) => trim_any ga W _ (HA.out.ext hW))
      have HTB2 := Lib.hid (fun W (hW : Ext wr W) => trim_any bs W _ (HB.out.ext hW))
      have HOV := Lib.hid (fun W xa xb (h1 : DR W xa (trimL ga)) (h2 : DR W xb (trimL bs)) => bover_any (trimL ga) (trimL bs) W xa xb h1 h2 (by omega) (by omega) t2 hpos)
      have HTS := Lib.hid (show dv (trimL ga) = dv ga ∧ dv (trimL bs) = dv bs ∧ (trimL bs).length ≤ 50 from ⟨s3, t3, by omega⟩)
      have HP := Lib.hid (show 0 < dv bs by omega)
      clear ha hb hG hx t1 t2 t3 t4 s1 s2 s3 s4 h0 hpos
      generalize trimL bs = tb at *
      generalize trimL ga = ta at *
      go_upto_region 2 with (go_at_call 79; (with_reducible refine HTB.out.mono ?_); rintro e w2 ⟨x2, rfl, hx2, hd2⟩; obtain ⟨A2, c2, rfl⟩ := hd2.form)
      have HX2 := Lib.hid hx2
      clear hx2 hd2 hlen
      go_wp2_with (first
        | (go_at_call 78; (with_reducible refine (HOV.out w4 x3 x4 (HD3.out.ext HX4.out) HD4.out).mono ?_); rintro e w5 ⟨xq, xr, q, r, rfl, hx5, hdq, hdr, -, -, -, hrv, -, hrl⟩)
        | (go_at_call_of 79 (Value.slice A ga.length ca); (with_reducible refine (HTA.out w2 HX2.out).mono ?_); rintro e w3 ⟨x3, rfl, hx3, hd3⟩; have HD3 := Lib.hid hd3; have HX3 := Lib.hid hx3; clear hx3 hd3)
        | (go_at_call_of 79 (Value.slice B bs.length cb); (with_reducible refine (HTB2.out w3 (HX2.out.trans HX3.out)).mono ?_); rintro e w4 ⟨x4, rfl, hx4, hd4⟩; have HD4 := Lib.hid hd4; have HX4 := Lib.hid hx4; clear hx4 hd4))
      have hx9 := HX2.out.trans (HX3.out.trans (HX4.out.trans hx5))
      refine ⟨?_, ?_⟩
      · unfold GcI
        exact ⟨bs, r, HB.out.ext hx9, hdr, hlb, by have := HTS.out.2.2; omega, by rw [hrv, HTS.out.1, HTS.out.2.1, bgcd_step]; exact HG.out, HX.out.trans hx9⟩
      · rw [HDV.out, dvOf_eq hdr, hrv, HTS.out.1, HTS.out.2.1]
        have h1 := Int.emod_lt_of_pos (dv ga) HP.out
        have h2 := Int.emod_nonneg (dv ga) (show dv bs ≠ 0 by have := HP.out; omega)
        have h3 := HP.out
        omega
end Go.Proofs.Ytgkdeknfmmgbdaa
