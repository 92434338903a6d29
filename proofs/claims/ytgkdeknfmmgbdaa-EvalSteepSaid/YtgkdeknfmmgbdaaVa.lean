/-
  The values that numbers determine: the reference's Values, walked. Conditions: the argument reads as a list of ints.
-/
import Derived.Test.YtgkdeknfmmgbdaaMe
namespace Go.Proofs.Ytgkdeknfmmgbdaa
set_option linter.unusedVariables false
set_option linter.unusedSimpArgs false
open Go.RowKit

def valN : Nat → List Int → Vals
  | _, [] => []
  | k, z :: zs => (nameB4 (k % 4), z) :: valN (k + 1) zs
theorem valN_snoc (k : Nat) (l : List Int) (z : Int) : valN k (l ++ [z]) = valN k l ++ [(nameB4 ((k + l.length) % 4), z)] := by
  induction l generalizing k with
  | nil => rfl
  | cons a l ih => simp only [List.cons_append, valN, ih, List.length_cons]; rw [show k + 1 + l.length = k + (l.length + 1) by omega]
theorem valN_length (k : Nat) (l : List Int) : (valN k l).length = l.length := by
  induction l generalizing k with
  | nil => rfl
  | cons a l ih => simp [valN, ih]
theorem valN_range (k : Nat) (l : List Int) (h : ∀ z ∈ l, -9223372036854775808 ≤ z ∧ z ≤ 9223372036854775807) : VR (valN k l) := by
  induction l generalizing k with
  | nil => intro x hx; cases hx
  | cons a l ih =>
    intro x hx
    rcases List.mem_cons.1 hx with rfl | hx
    · exact h a List.mem_cons_self
    · exact ih (k + 1) (fun z hz => h z (List.mem_cons_of_mem _ hz)) x hx
def valuesE (ls : List Int) : Vals := valN 0 (ls.take 6)

def cellsP (p : ByteArray × Int) : List Value := [.string p.1, .int .i64 p.2]
theorem flat2 : ∀ (us : Vals) (i : Nat) (h : i < us.length), (us.flatMap cellsP)[i * 2]? = some (.string us[i].1) ∧ (us.flatMap cellsP)[i * 2 + 1]? = some (.int .i64 us[i].2)
  | u :: us, 0, h => ⟨rfl, rfl⟩
  | u :: us, i + 1, h => by
    have := flat2 us i (by simpa using h)
    rw [List.flatMap_cons, List.getElem?_append_right (by simp [cellsP]; omega), List.getElem?_append_right (by simp [cellsP]; omega)]
    simp only [cellsP, List.length_cons, List.length_nil, List.getElem_cons_succ]
    rw [show (i + 1) * 2 - (0 + 1 + 1) = i * 2 by omega, show (i + 1) * 2 + 1 - (0 + 1 + 1) = i * 2 + 1 by omega]
    exact this
/-- The slice v, made by the call, holds the values. -/
abbrev PR (B : Nat) (w : World) (v : Value) (vs : Vals) : Prop := w.ownsRow B 51 2 v vs.length (vs.flatMap cellsP)
theorem PR.ext {B : Nat} {w w' : World} {v : Value} {vs : Vals} (ho : PR B w v vs) (e : Ext w w') : PR B w' v vs := by
  refine ⟨ho.1, ?_⟩
  rcases ho.2 with hn | ⟨g, cap, cur, hv, hb, hg, rest⟩
  · exact .inl hn
  · exact .inr ⟨g, cap, cur, hv, hb, (e.block g (Rg.lt_of_heap hg)).trans hg, rest⟩
theorem PR.vrd {B : Nat} {w : World} {v : Value} {vs : Vals} (ho : PR B w v vs) (hr : VR vs) (hn : vs.length ≤ 1000000) : VRd All w vs v := by
  by_cases h0 : vs = []
  · subst h0
    rcases ho.2 with ⟨hn, -⟩ | ⟨g, cap, cur, hv, -⟩
    · exact ⟨none, 0, hn, by simp, hr, .inl rfl⟩
    · exact ⟨_, cap, hv, by simp, hr, .inl rfl⟩
  · have hp : 0 < vs.length := List.length_pos_iff.2 h0
    obtain ⟨g, cap, rfl, -, hlt⟩ := ho.form hp
    refine ⟨_, cap, rfl, hn, hr, .inr ⟨g, rfl, trivial, fun k hk => ?_⟩⟩
    have := flat2 vs k hk
    rw [ho.cellAt (k * 2) (by omega), ho.cellAt (k * 2 + 1) (by omega)]
    exact this

theorem info51 : (Try.prog.info? 51).map (fun i => (i.zero, i.size, i.bytes)) = some (some (.agg #[.string ⟨#[]⟩, .int .i64 0]), 2, 24) := by kernel_rfl
/-- 'append' of one value. -/
theorem append_val {ops : Array Oper} {rest : List Oper} {o : Oper} {a : Act} {Q : Exit → Act → World → Prop} {w : World} (hgd : o.guard = none) (s x : Operand)
    (ho : o.op = .call { callee := .builtin .append, args := #[s, x], argTypes := #[31, 31] }) (B : Nat) (v : Value) (vs : Vals) (hs : a.eval s = v) (hF : PR B w v vs)
    (p : Nat) (u : ByteArray × Int) (hx : a.eval x = .slice (some ⟨p, 0, none⟩) 1 1) (hp : w.heap[p]? = some (.cells #[.string u.1, .int .i64 u.2] 51)) (hn : vs.length < 1000000) (hB : B ≤ w.heap.size)
    (h : ∀ g cap w', PR B w' (.slice (some ⟨g, 0, none⟩) (vs.length + 1) cap) (vs ++ [u]) → Below B w w' → wpList Try.prog ops Q rest (a.put o.dst (.slice (some ⟨g, 0, none⟩) (vs.length + 1) cap)) w') : wpList Try.prog ops Q (o :: rest) a w := by
  obtain ⟨i0, hi, hz0, hz1, hz2⟩ := info_parts info51
  refine wpList_append_lies w hgd s x 31 ho B 51 i0 _ 2 24 (by kernel_rfl) hi hz0 hz1 hz2 rfl (by decide) v vs.length _ hs hF ⟨p, 0, none⟩ 1 1 (cellsP u) hx rfl ?_ ?_ (by decide) (by unfold maxLen; omega) (by omega) hB w.heap.size rfl ?_
  · intro j c hc
    rw [addr_add, cell_of_row w p _ _ _ _ hp, ← hc]
    simp [cellsP]
  · intro c hc
    simp [cellsP] at hc
    rcases hc with rfl | rfl <;> rfl
  · intro g cap w' hw hg hat hlt
    refine h g cap w' ?_ ⟨hg.os, hg.tape, hg.output, hg.size, fun k hk => hg.block k (by omega) ?_⟩
    · show w'.ownsRow B 51 2 _ (vs ++ [u]).length _
      rw [List.flatMap_append, List.length_append]
      simpa using hw
    · intro e
      have := (hF.lt k e.symm).1
      omega

def blkV : Value → Nat
  | .slice (some a) _ _ => a.block
  | _ => 0
set_option maxRecDepth 100000 in
set_option maxHeartbeats 4000000 in
theorem Values_any (ls : List Int) (w : World) (v : Value) (hv : IRd w v ls) : Calls Try.prog 15 #[v] w fun e w' => ∃ u, e = .returned u ∧ Ext w w' ∧ VRd All w' (valuesE ls) u ∧ PR w.heap.size w' u (valuesE ls) ∧ (valuesE ls = [] → u = .slice none 0 0) := by
  obtain ⟨A, cap, rfl, hlen, hrange, hc⟩ := hv
  have HVR := Lib.hid (valN_range 0 (ls.take 6) (fun z hz => hrange z (List.mem_of_mem_take hz)))
  have HC := Lib.hid hc
  have hle : (ls.length : Int) ≤ 9223372036854775807 := by omega
  clear hc hrange
  go_enter Try.func15, Try.ntmps15
  go_wp2_with (fail)
  go_loopw [3, 4] (fun l k wr => ∃ j : Nat, k = .int .i64 j ∧ j ≤ ls.length ∧ j ≤ 6 ∧ PR w.heap.size wr l (valN 0 (ls.take j)) ∧ Ext w wr ∧ Hid (j = 0 → l = .slice none 0 0)) (fun _ k _ => 6 - (intOf k).toNat)
  case atStart => exact ⟨0, by go_num, Nat.zero_le _, by omega, World.ownsRow_nil w _ 51 2, Ext.refl _, Lib.hid (fun _ => rfl)⟩
  case round =>
    obtain ⟨j, rfl, hj, hj6, hF, hx, hz⟩ := hrel
    have HF := Lib.hid hF
    clear hF
    have hlv : (valN 0 (ls.take j)).length = j := by rw [valN_length, List.length_take]; omega
    by_cases hgo : j < ls.length ∧ j < 6
    · obtain ⟨hlt, h6⟩ := hgo
      have hne : ¬ ls = [] := by intro e; rw [e] at hlt; simp at hlt
      obtain ⟨b, off, rfl, hc⟩ := HC.out.resolve_left hne
      have hcj := hc j hlt
      have hbw := World.block_lt_of_cell? w _ hcj
      have hcr := (hx.cells.1 _ _ hbw).trans hcj
      have hbr := Nat.lt_of_lt_of_le hbw hx.size
      have hs : valN 0 (ls.take (j + 1)) = valN 0 (ls.take j) ++ [(nameB4 (j % 4), ls[j])] := by
        rw [List.take_add_one, List.getElem?_eq_getElem hlt, Option.toList_some, valN_snoc, List.length_take, show 0 + min j ls.length = j by omega]
      have HS := Lib.hid hs
      have HL := Lib.hid hlv
      generalize valN 0 (ls.take j) = st at *
      generalize ls[j] = z at *
      have kt : ((j : Int)).tmod 4 = (j : Int) % 4 := Int.tmod_eq_emod_of_nonneg (by omega)
      have k0 : 0 ≤ (j : Int) % 4 := by omega
      have k1 : (j : Int) % 4 < 4 := by omega
      have k2 : ((j : Int) % 4).toNat = j % 4 := by omega
      have k6 : (j : Int) ≤ 5 := by omega
      have k7 : (j : Int) < (ls.length : Int) := by omega
      clear hs hlv hcj hc HC
      go_wp2_with (fail)
      refine Rr.wp_region [(0, .y), (2, .y), (3, .y), (6, .y), (7, .y), (8, .y), (9, .y), (1, .z), (4, .y), (5, .y), (10, .y), (11, .z)] (fun _ => (.cells #[] 29, Rg.ptr)) (by kernel_rfl) (by kernel_rfl) ?_
      (refine Rr.wr_y (by simp only [List.getElem?_toArray, List.getElem?_cons_succ, List.getElem?_cons_zero]; rfl) (by rfl) ?_
       apply Exists.intro
       refine ⟨fun wz hw _ => ?_, ?_⟩
       · have hcz := hw.cells.1
         go_simp
         (with_reducible exact Rg.up_value)
       simp only [Act.put, List.setIfInBounds_toArray, List.set_cons_zero, List.set_cons_succ])
      (refine Rr.wr_y (by simp only [List.getElem?_toArray, List.getElem?_cons_succ, List.getElem?_cons_zero]; rfl) (by rfl) ?_
       apply Exists.intro
       refine ⟨fun wz hw _ => ?_, ?_⟩
       · have hcz := hw.cells.1
         go_simp
         (with_reducible exact Rg.up_value)
       simp only [Act.put, List.setIfInBounds_toArray, List.set_cons_zero, List.set_cons_succ])
      (refine Rr.wr_y (by simp only [List.getElem?_toArray, List.getElem?_cons_succ, List.getElem?_cons_zero]; rfl) (by rfl) ?_
       apply Exists.intro
       refine ⟨fun wz hw _ => ?_, ?_⟩
       · have hcz := hw.cells.1
         go_simp
         (with_reducible exact Rg.up_value)
       simp only [Act.put, List.setIfInBounds_toArray, List.set_cons_zero, List.set_cons_succ])
      (refine Rr.wr_y (by simp only [List.getElem?_toArray, List.getElem?_cons_succ, List.getElem?_cons_zero]; rfl) (by rfl) ?_
       apply Exists.intro
       refine ⟨fun wz hw _ => ?_, ?_⟩
       · have hcz := hw.cells.1
         go_simp
         (with_reducible exact Rg.up_value)
       simp only [Act.put, List.setIfInBounds_toArray, List.set_cons_zero, List.set_cons_succ])
      (refine Rr.wr_y (by simp only [List.getElem?_toArray, List.getElem?_cons_succ, List.getElem?_cons_zero]; rfl) (by rfl) ?_
       apply Exists.intro
       refine ⟨fun wz hw _ => ?_, ?_⟩
       · have hcz := hw.cells.1
         go_simp
         (with_reducible exact Rg.up_value)
       simp only [Act.put, List.setIfInBounds_toArray, List.set_cons_zero, List.set_cons_succ])
      (refine Rr.wr_y (by simp only [List.getElem?_toArray, List.getElem?_cons_succ, List.getElem?_cons_zero]; rfl) (by rfl) ?_
       apply Exists.intro
       refine ⟨fun wz hw _ => ?_, ?_⟩
       · have hcz := hw.cells.1
         go_simp
         (with_reducible exact Rg.up_value)
       simp only [Act.put, List.setIfInBounds_toArray, List.set_cons_zero, List.set_cons_succ])
      (refine Rr.wr_y (by simp only [List.getElem?_toArray, List.getElem?_cons_succ, List.getElem?_cons_zero]; rfl) (by rfl) ?_
       apply Exists.intro
       refine ⟨fun wz hw _ => ?_, ?_⟩
       · have hcz := hw.cells.1
         go_simp
         (with_reducible exact Rg.up_value)
       simp only [Act.put, List.setIfInBounds_toArray, List.set_cons_zero, List.set_cons_succ])
      refine Rr.wr_z (fun v w' => ∃ p, v = .slice (some ⟨p, 0, none⟩) 4 4 ∧ w'.heap[p]? = some (.cells #[.string priceB, .string lowB, .string qualB, .string ⟨#[100, 97, 121, 115]⟩] 9)) (by simp only [List.getElem?_toArray, List.getElem?_cons_succ, List.getElem?_cons_zero]; rfl) (by rfl) (fun v w1 w2 h e => by obtain ⟨p, h1, h2⟩ := h; exact ⟨p, h1, (e.block p (Rg.lt_of_heap h2)).trans h2⟩) (fun wz hw hh => ?_) (fun u1 => ?_)
      · go_simp
        apply Rr.upR_enter
        (with_reducible refine (Names_any _).mono ?_)
        rintro e w3 ⟨p, rfl, -, hh3, hx3⟩
        exact ⟨_, rfl, hx3, p, rfl, hh3⟩
      simp only [Act.put, List.setIfInBounds_toArray, List.set_cons_zero, List.set_cons_succ]
      refine Rr.wr_y (by simp only [List.getElem?_toArray, List.getElem?_cons_succ, List.getElem?_cons_zero]; rfl) (by rfl) ⟨.pointer (some ⟨blkV u1, j % 4, none⟩), fun wz hw hh => ?_, ?_⟩
      · obtain ⟨p, rfl, hp⟩ := holds_hd hh
        go_simp
        exact Rg.up_value
      simp only [Act.put, List.setIfInBounds_toArray, List.set_cons_zero, List.set_cons_succ]
      refine Rr.wr_y (by simp only [List.getElem?_toArray, List.getElem?_cons_succ, List.getElem?_cons_zero]; rfl) (by rfl) ⟨.string (nameB4 (j % 4)), fun wz hw hh => ?_, ?_⟩
      · obtain ⟨p, rfl, hp⟩ := holds_hd hh
        have hcn := nameTab_at hp (j % 4) (by omega)
        show Rg.up _ _ _ _
        simp only [blkV]
        go_simp
        exact Rg.up_value
      simp only [Act.put, List.setIfInBounds_toArray, List.set_cons_zero, List.set_cons_succ]
      (refine Rr.wr_y (by simp only [List.getElem?_toArray, List.getElem?_cons_succ, List.getElem?_cons_zero]; rfl) (by rfl) ?_
       apply Exists.intro
       refine ⟨fun wz hw _ => ?_, ?_⟩
       · have hcz := hw.cells.1
         go_simp
         (with_reducible exact Rg.up_value)
       simp only [Act.put, List.setIfInBounds_toArray, List.set_cons_zero, List.set_cons_succ])
      refine Rr.wr_z (fun v w' => ∃ p', v = .slice (some ⟨p', 0, none⟩) 1 1 ∧ w'.heap[p']? = some (.cells #[.string (nameB4 (j % 4)), .int .i64 z] 51)) (by simp only [List.getElem?_toArray, List.getElem?_cons_succ, List.getElem?_cons_zero]; rfl) (by rfl) (fun v w1 w2 h e => by obtain ⟨p, h1, h2⟩ := h; exact ⟨p, h1, (e.block p (Rg.lt_of_heap h2)).trans h2⟩) (fun wz hw hh => ?_) (fun u2 => ?_)
      · go_simp
        exact Rr.upR_value (Ext.alloc (Ext.refl _) _) ⟨_, rfl, block_new rfl⟩
      simp only [Act.put, List.setIfInBounds_toArray, List.set_cons_zero, List.set_cons_succ]
      refine Rr.wr_nil ?_
      intro wy hy hh
      obtain ⟨p', rfl, hp'⟩ := holds_hd hh
      simp only [List.length_cons, List.length_nil, List.drop_succ_cons, List.drop_zero, Nat.reduceAdd]
      have HP := Lib.hid hp'
      have HF7 := Lib.hid (PR.ext HF.out hy)
      clear hh hp'
      refine append_val rfl (.tmp 15) (.tmp 26) rfl w.heap.size _ st (by rfl) HF7.out p' (nameB4 (j % 4), z) (by rfl) HP.out (by have := HL.out; omega) (by have := hx.size; have := hy.size; omega) ?_
      intro g' cap' w6 hF6 hb6
      have HF6 := Lib.hid hF6
      clear hF6
      go_wp2
      go_roundw
      case rel => exact ⟨j + 1, by go_num, by omega, by omega, by rw [HS.out]; exact HF6.out, Below.trans (hx.trans hy) hb6, Lib.hid (fun h => by omega)⟩
      case measure => simp [intOf]; omega
    · have ht : ls.take 6 = ls.take j := by
        rcases Nat.lt_or_ge j 6 with h | h
        · rw [List.take_of_length_le (by omega), List.take_of_length_le (by omega)]
        · rw [show j = 6 by omega]
      have HV := Lib.hid (PR.vrd HF.out (by rw [← ht]; exact HVR.out) (by omega))
      rcases (show ((j : Int) < (ls.length : Int) ∧ ¬ (j : Int) < 6) ∨ ¬ (j : Int) < (ls.length : Int) by omega) with ⟨h1, h2⟩ | h1
      all_goals
        go_wp2
        go_ret
        exact ⟨_, rfl, hx, by unfold valuesE; rw [ht]; exact ⟨HV.out, HF.out, fun h => hz.out (by rw [h] at hlv; exact hlv.symm)⟩⟩
end Go.Proofs.Ytgkdeknfmmgbdaa
