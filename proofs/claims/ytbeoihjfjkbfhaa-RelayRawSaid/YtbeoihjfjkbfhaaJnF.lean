/-
  Joined: the lemmas of this claim that other texts of it use, part 6. Nothing is asked.
-/
import Derived.Test.YtbeoihjfjkbfhaaJnE
import Derived.ArgAppend
import Derived.Deep.Upon
namespace Go.Proofs.Ytbeoihjfjkbfhaa
set_option linter.unusedVariables false
set_option linter.unusedSimpArgs false
open Go.RowKit Go.Sort

theorem srtT_ins {ts m : List ByteArray} {x : ByteArray} {j : Nat} (hm : m = srtT ts) (hj : j ≤ m.length) (h1 : ∀ q (_ : q < j) (hl : q < m.length), befT x m[q] = false) (h2 : ∀ hl : j < m.length, befT x m[j] = true) :
    srtT (ts ++ [x]) = m.take j ++ x :: m.drop j := by
  symm
  have hs := hm ▸ srtT_sorted ts
  refine srtT_eq ?_ ?_
  · have hp : m.Perm ts := hm ▸ srtT_perm ts
    have e1 : (m.take j ++ x :: m.drop j).Perm (x :: (m.take j ++ m.drop j)) := List.perm_middle
    rw [List.take_append_drop] at e1
    exact e1.trans ((hp.cons x).trans (List.perm_append_singleton x ts).symm)
  · rw [List.pairwise_append]
    refine ⟨hs.sublist (List.take_sublist _ _), ?_, ?_⟩
    · rw [List.pairwise_cons]
      refine ⟨fun y hy => ?_, hs.sublist (List.drop_sublist _ _)⟩
      obtain ⟨k, hk, rfl⟩ := List.mem_iff_getElem.1 hy
      rw [List.length_drop] at hk
      rw [List.getElem_drop]
      have hjl : j < m.length := by omega
      have hb := h2 hjl
      unfold befT at hb
      cases hlt : ltOf cmpT m[j + k] x
      · rfl
      · have h3 := gcT.swo.trans _ _ _ hlt hb
        by_cases hk0 : k = 0
        · subst hk0
          have h4 : ltOf cmpT m[j] m[j] = true := h3
          rw [gcT.swo.irrefl m[j]] at h4
          cases h4
        · rw [(List.pairwise_iff_getElem.1 hs) j (j + k) hjl (by omega) (by omega)] at h3
          cases h3
    · intro a ha b hb
      obtain ⟨q, hq, rfl⟩ := List.mem_iff_getElem.1 ha
      rw [List.length_take] at hq
      rw [List.getElem_take]
      rcases List.mem_cons.1 hb with rfl | hb
      · exact h1 q (by omega) (by omega)
      · obtain ⟨k, hk, rfl⟩ := List.mem_iff_getElem.1 hb
        rw [List.length_drop] at hk
        rw [List.getElem_drop]
        exact (List.pairwise_iff_getElem.1 hs) q (j + k) (by omega) (by omega) (by omega)
theorem row_formS {B : Nat} {w : World} {v : Value} {l : List ByteArray} (h : w.ownsRow B 9 1 v l.length (l.flatMap celS)) :
    ∃ A cap, v = .slice A l.length cap ∧ l.length ≤ cap ∧ cap ≤ 9223372036854775807 ∧ (l = [] ∧ A = none ∧ cap = 0 ∨ ∃ g, A = some ⟨g, 0, none⟩ ∧ B ≤ g ∧ ∀ k (h : k < l.length), w.cell? ⟨g, k, none⟩ = some (.string l[k])) := by
  rcases h.2 with ⟨hn, h0⟩ | ⟨g, cap, cur, hv, hb, hg, h1, h2, h3, h4⟩
  · refine ⟨none, 0, by rw [hn, h0], by omega, by omega, .inl ⟨List.length_eq_zero_iff.1 h0, rfl, rfl⟩⟩
  · refine ⟨_, cap, hv, h1, by unfold maxLen at h2; exact h2, .inr ⟨g, rfl, hb, fun k hk => ?_⟩⟩
    subst hv
    rw [World.ownsRow.cellAt h k (by omega), celS_map]
    simp [hk]
theorem append_anyS {ops : Array Oper} {rest : List Oper} {o : Oper} {a : Act} {Q : Exit → Act → World → Prop} {w : World} (hgd : o.guard = none) (s x : Operand)
    (ho : o.op = .call { callee := .builtin .append, args := #[s, x], argTypes := #[38, 38] }) (B : Nat) (v : Value) (vs : List ByteArray) (hs : a.eval s = v) (hF : w.ownsRow B 9 1 v vs.length (vs.flatMap celS))
    (A : Option Addr) (c : Nat) (us : List ByteArray) (hx : a.eval x = .slice A us.length c) (hu : us = [] ∨ ∃ b off, A = some ⟨b, off, none⟩ ∧ ∀ k (h : k < us.length), w.cell? ⟨b, off + k, none⟩ = some (.string us[k]))
    (hn : vs.length + us.length ≤ 1000000) (hB : B ≤ w.heap.size)
    (h : ∀ v' w', w'.ownsRow B 9 1 v' (vs ++ us).length ((vs ++ us).flatMap celS) → w.grownBy w' v.ownBlock → (us ≠ [] → ∃ g cap, v' = .slice (some ⟨g, 0, none⟩) (vs.length + us.length) cap) → (us = [] → v' = v ∧ w' = w) → wpList Try.prog ops Q rest (a.put o.dst v') w') : wpList Try.prog ops Q (o :: rest) a w := by
  obtain ⟨i0, hi, hz0, hz1, hz2⟩ := info_parts (show (Try.prog.info? 9).map (fun i => (i.zero, i.size, i.bytes)) = some (some (.string ⟨#[]⟩), 1, 16) by kernel_rfl)
  refine wpList_plain hgd fun K hK => ?_
  by_cases h0 : us = []
  · subst h0
    obtain ⟨base, cap, hv, hle⟩ : ∃ base cap, v = .slice base vs.length cap ∧ vs.length ≤ cap := by
      rcases hF.2 with ⟨hn, h0⟩ | ⟨g, cap', cur, hv, hb, hg, h1, h2, h3, h4⟩
      · exact ⟨none, 0, by rw [hn, h0], by omega⟩
      · exact ⟨_, cap', hv, h1⟩
    have hsrc : Src Try.prog i0.size 38 (.slice A 0 c) 0 [] w := by
      rw [hz1]
      cases A with
      | none => exact Src.ofNil w Try.underlying38 c
      | some a => exact Src.ofSlice w Try.underlying38 a 0 c _ (by simp) (by simp) (by simp)
    have hr := run_append_nothing (P := Try.prog) w 38 38 o.type 9 i0 Try.underlying38 hi base vs.length cap hle (.slice A 0 c) hsrc
    rw [← hv] at hr
    unfold Oper.wp execOp
    simp only [List.length_nil] at hx
    simp only [ho, resolve, invoke, builtin, Sem.run_bind, Sem.run_pure, Result.andThen_ok, List.map_toArray, List.map_cons, List.map_nil, hs, hx, hr]
    exact hK _ _ (h v w (by simpa using hF) ⟨rfl, rfl, rfl, Nat.le_refl _, fun _ _ _ => rfl⟩ (fun h => absurd rfl h) (fun _ => ⟨rfl, rfl⟩))
  · obtain ⟨b, off, rfl, hcell⟩ := hu.resolve_left h0
    have hpos : 0 < us.length := List.length_pos_iff.2 h0
    obtain ⟨g, cap', w', hr, h2, h3, h4, h5⟩ := run_append_lies (P := Try.prog) w 38 o.type B 9 i0 _ 1 16 Try.underlying38 hi hz0 hz1 hz2 rfl (by decide) v vs.length _ hF ⟨b, off, none⟩ us.length c (us.map Value.string) (by simp)
      (by
        intro j u hu
        have hj : j < us.length := by have := (List.getElem?_eq_some_iff.1 hu).1; simpa using this
        rw [List.getElem?_eq_getElem (by simpa using hj)] at hu
        simp only [List.getElem_map, Option.some.injEq] at hu
        subst hu
        rw [Go.WideShapes.add_plain]
        exact hcell j hj) (by intro u hu; obtain ⟨z, -, rfl⟩ := List.mem_map.1 hu; rfl) hpos (by unfold maxLen; omega) (by omega) hB w.heap.size rfl
    unfold Oper.wp execOp
    simp only [ho, resolve, invoke, builtin, Sem.run_bind, Sem.run_pure, Result.andThen_ok, List.map_toArray, List.map_cons, List.map_nil, hs, hx, hr] at *
    refine hK _ _ (h _ w' ?_ h3 (fun _ => ⟨g, cap', rfl⟩) (fun e => absurd e h0))
    rw [List.flatMap_append, List.length_append, celS_map us]
    exact h2
theorem srcS_take {w wv : World} {g k : Nat} {l : List ByteArray} (hv : Ext w wv) (hc : ∀ k (h : k < l.length), w.cell? ⟨g, k, none⟩ = some (.string l[k])) :
    l.take k = [] ∨ ∃ b off, some (⟨g, 0, none⟩ : Addr) = some ⟨b, off, none⟩ ∧ ∀ j (h : j < (l.take k).length), wv.cell? ⟨b, off + j, none⟩ = some (.string (l.take k)[j]) := by
  refine .inr ⟨g, 0, rfl, fun j hj => ?_⟩
  rw [List.length_take] at hj
  have := hc j (by omega)
  rw [Nat.zero_add, (hv.cells.1 _ _ (World.block_lt_of_cell? w _ this)), List.getElem_take]
  exact this
theorem srcS_drop {w wz : World} {g k oc : Nat} {l : List ByteArray} (hw : Ext w wz) (hc : ∀ k (h : k < l.length), w.cell? ⟨g, k, none⟩ = some (.string l[k])) (hoc : l.length ≤ oc) :
    l.drop k = [] ∨ ∃ b off, some (if oc = k then (⟨g, 0, none⟩ : Addr) else ⟨g, k, none⟩) = some ⟨b, off, none⟩ ∧ ∀ j (h : j < (l.drop k).length), wz.cell? ⟨b, off + j, none⟩ = some (.string (l.drop k)[j]) := by
  rcases Nat.lt_or_ge k l.length with h | h
  · refine .inr ⟨g, k, by rw [if_neg (by omega)], fun j hj => ?_⟩
    rw [List.length_drop] at hj
    have := hc (k + j) (by omega)
    rw [(hw.cells.1 _ _ (World.block_lt_of_cell? w _ this)), List.getElem_drop]
    exact this
  · exact .inl (List.drop_eq_nil_of_le h)
theorem srcS_all {w wz : World} {A : Option Addr} {B cap : Nat} {l : List ByteArray} (hw : Ext w wz) (h : l = [] ∧ A = none ∧ cap = 0 ∨ ∃ g, A = some ⟨g, 0, none⟩ ∧ B ≤ g ∧ ∀ k (h : k < l.length), w.cell? ⟨g, k, none⟩ = some (.string l[k])) :
    l = [] ∨ ∃ b off, A = some ⟨b, off, none⟩ ∧ ∀ k (h : k < l.length), wz.cell? ⟨b, off + k, none⟩ = some (.string l[k]) := by
  rcases h with h | ⟨g, h1, -, h3⟩
  · exact .inl h.1
  · refine .inr ⟨g, 0, h1, fun k hk => ?_⟩
    rw [Nat.zero_add, hw.cells.1 _ _ (World.block_lt_of_cell? w _ (h3 k hk))]
    exact h3 k hk
theorem row_baseS {B B' E sz n : Nat} {w : World} {v : Value} {xs : List Value} (ho : w.ownsRow B E sz v n xs) (h : B' ≤ B) : w.ownsRow B' E sz v n xs := by
  refine ⟨ho.1, ?_⟩
  rcases ho.2 with hn | ⟨g, cap, cur, hv, hb, hg, rest⟩
  · exact .inl hn
  · exact .inr ⟨g, cap, cur, hv, Nat.le_trans h hb, hg, rest⟩
set_option maxRecDepth 100000 in
set_option maxHeartbeats 8000000 in
theorem rshuf_any (B0 : Nat) (v : Value) (l : List ByteArray) (w : World) (hl : w.ownsRow B0 9 1 v l.length (l.flatMap celS)) (hs : ∀ s ∈ l, s.size ≤ 4000) (hn : l.length ≤ 1000) :
    Calls Try.prog 36 #[v] w fun e w' => ∃ u, e = .returned u ∧ w'.ownsRow w.heap.size 9 1 u l.length ((srtT l).flatMap celS) ∧ Ext w w' := by
  obtain ⟨A0, cap0, rfl, hlc0, hcm0, hrf0⟩ := row_formS hl
  have HS := Lib.hid hs; have HRF0 := Lib.hid hrf0; have HL := Lib.hid hl
  clear hs hl hrf0
  obtain ⟨B, hB⟩ : ∃ B, B = w.heap.size := ⟨_, rfl⟩
  rw [← hB]
  have HB := Lib.hid hB
  clear hB
  go_enter Try.func36, Try.ntmps36
  go_wp2_with (fail)
  go_loopw [3, 4] (fun u k wr => ∃ i : Nat, k = .int .i64 i ∧ i ≤ l.length ∧ Hid (wr.ownsRow B 9 1 u (srtT (l.take i)).length ((srtT (l.take i)).flatMap celS)) ∧ Hid (Ext w wr)) (fun _ k _ => l.length - (iof k).toNat)
  case atStart => exact ⟨0, rfl, Nat.zero_le _, Lib.hid (by rw [List.take_zero, show srtT ([] : List ByteArray) = [] by simp [srtT]]; exact World.ownsRow_nil _ _ _ _), Lib.hid (Ext.refl _)⟩
  case round =>
    obtain ⟨i, rfl, hi, HR, HX⟩ := hrel
    by_cases hil : i < l.length
    · obtain ⟨g0, rfl, -, hc0⟩ := HRF0.out.resolve_left (fun e => by rw [e.1] at hil; simp at hil)
      have c0 := hc0 i hil
      have hts := HS.out l[i] (List.getElem_mem _)
      have HN : Hid (l.take (i + 1) = l.take i ++ [l[i]]) := Lib.hid (List.take_succ_eq_append_getElem hil)
      have HTL : Hid (∀ y ∈ srtT (l.take i), y.size ≤ 4000) := Lib.hid (fun y hy => HS.out y (List.mem_of_mem_take ((srtT_perm _).mem_iff.1 hy)))
      have hml : (srtT (l.take i)).length = i := by rw [srtT_len, List.length_take]; omega
      have hgl0 := World.block_lt_of_cell? w _ c0
      replace c0 := (HX.out.cells.1 _ _ hgl0).trans c0
      replace hgl0 := Nat.lt_of_lt_of_le hgl0 HX.out.size
      generalize l[i] = x at *
      obtain ⟨m, hm⟩ : ∃ m, m = srtT (l.take i) := ⟨_, rfl⟩
      rw [← hm] at HR HTL hml
      have HM := Lib.hid hm
      clear hm hc0
      obtain ⟨A, cap, hu3, hlc, hcm, hrf⟩ := row_formS HR.out
      rw [hml] at hu3 hlc
      subst hu3
      have HRF := Lib.hid hrf; have HML := Lib.hid hml
      clear hrf hml
      go_upto_region 6 with (fail)
      rename World => wq0
      go_loopw [5] (fun k wr => ∃ j : Nat, k = .int .i64 j ∧ j ≤ i ∧ Hid (∀ q (_ : q < j) (hl : q < m.length), befT x m[q] = false) ∧ Hid (Ext wq0 wr)) (fun k _ => i - (iof k).toNat)
      case atStart => exact ⟨0, rfl, Nat.zero_le _, Lib.hid (fun q hq => by omega), Lib.hid (Ext.refl _)⟩
      case round =>
        obtain ⟨j, rfl, hj, HLT, HQ⟩ := hrel
        have cx := (HQ.out.cells.1 _ _ hgl0).trans c0
        have hgx := Nat.lt_of_lt_of_le hgl0 HQ.out.size
        by_cases hji : j < i
        · obtain ⟨g, rfl, -, hc⟩ := HRF.out.resolve_left (fun e => by have := HML.out; rw [e.1] at this; simp at this; omega)
          have hjm : j < m.length := by rw [HML.out]; exact hji
          have cj := (HQ.out.cells.1 _ _ (World.block_lt_of_cell? _ _ (hc j hjm))).trans (hc j hjm)
          have hgj := World.block_lt_of_cell? _ _ cj
          have HBF := Lib.hid (fun w => before_any x m[j] w hts (HTL.out _ (List.getElem_mem _)))
          generalize hbb : befT x m[j] = bb at *
          have HBB := Lib.hid hbb
          clear hbb
          have HBB2 : Hid (∀ q, q = j → ∀ hq : q < m.length, befT x m[q] = bb) := Lib.hid (by rintro q rfl hq; exact HBB.out)
          clear HBB
          generalize m[j] = y at *
          have hcapi : ¬ cap = j := by omega
          go_upto_region 6 with (fail)
          refine Rr.wp_region ((List.range 15).map (fun i => (i, .y))) (fun _ => (.cells #[] 29, Rg.ptr)) (by kernel_rfl) (by kernel_rfl) ?_
          simp only [List.range, List.range.loop, List.map_cons, List.map_nil]
          (refine Rr.wr_y (by simp only [List.getElem?_toArray, List.getElem?_cons_succ, List.getElem?_cons_zero]; rfl) (by rfl) ?_
           apply Exists.intro
           refine ⟨fun wz hw _ => ?_, ?_⟩
           · have hcz := hw.cells.1
             go_simp
             (with_reducible exact Rg.up_value)
           simp only [Act.put, List.setIfInBounds_toArray, List.set_cons_zero, List.set_cons_succ])
          (refine Rr.wr_y (by simp only [List.getElem?_toArray, List.getElem?_cons_succ, List.getElem?_cons_zero]; rfl) (by rfl) ?_
           apply Exists.intro
           refine ⟨fun wz hw _ => ?_, ?_⟩
           · have hcz := hw.cells.1
             go_simp
             (with_reducible exact Rg.up_value)
           simp only [Act.put, List.setIfInBounds_toArray, List.set_cons_zero, List.set_cons_succ])
          (refine Rr.wr_y (by simp only [List.getElem?_toArray, List.getElem?_cons_succ, List.getElem?_cons_zero]; rfl) (by rfl) ?_
           apply Exists.intro
           refine ⟨fun wz hw _ => ?_, ?_⟩
           · have hcz := hw.cells.1
             go_simp
             (with_reducible exact Rg.up_value)
           simp only [Act.put, List.setIfInBounds_toArray, List.set_cons_zero, List.set_cons_succ])
          (refine Rr.wr_y (by simp only [List.getElem?_toArray, List.getElem?_cons_succ, List.getElem?_cons_zero]; rfl) (by rfl) ?_
           apply Exists.intro
           refine ⟨fun wz hw _ => ?_, ?_⟩
           · have hcz := hw.cells.1
             go_simp
             (with_reducible exact Rg.up_value)
           simp only [Act.put, List.setIfInBounds_toArray, List.set_cons_zero, List.set_cons_succ])
          (refine Rr.wr_y (by simp only [List.getElem?_toArray, List.getElem?_cons_succ, List.getElem?_cons_zero]; rfl) (by rfl) ?_
           apply Exists.intro
           refine ⟨fun wz hw _ => ?_, ?_⟩
           · have hcz := hw.cells.1
             go_simp
             (with_reducible exact Rg.up_value)
           simp only [Act.put, List.setIfInBounds_toArray, List.set_cons_zero, List.set_cons_succ])
          (refine Rr.wr_y (by simp only [List.getElem?_toArray, List.getElem?_cons_succ, List.getElem?_cons_zero]; rfl) (by rfl) ?_
           apply Exists.intro
           refine ⟨fun wz hw _ => ?_, ?_⟩
           · have hcz := hw.cells.1
             go_simp
             (with_reducible exact Rg.up_value)
           simp only [Act.put, List.setIfInBounds_toArray, List.set_cons_zero, List.set_cons_succ])
          (refine Rr.wr_y (by simp only [List.getElem?_toArray, List.getElem?_cons_succ, List.getElem?_cons_zero]; rfl) (by rfl) ?_
           apply Exists.intro
           refine ⟨fun wz hw _ => ?_, ?_⟩
           · have hcz := hw.cells.1
             go_simp
             (with_reducible exact Rg.up_value)
           simp only [Act.put, List.setIfInBounds_toArray, List.set_cons_zero, List.set_cons_succ])
          (refine Rr.wr_y (by simp only [List.getElem?_toArray, List.getElem?_cons_succ, List.getElem?_cons_zero]; rfl) (by rfl) ?_
           apply Exists.intro
           refine ⟨fun wz hw _ => ?_, ?_⟩
           · have hcz := hw.cells.1
             go_simp
             (with_reducible exact Rg.up_value)
           simp only [Act.put, List.setIfInBounds_toArray, List.set_cons_zero, List.set_cons_succ])
          (refine Rr.wr_y (by simp only [List.getElem?_toArray, List.getElem?_cons_succ, List.getElem?_cons_zero]; rfl) (by rfl) ?_
           apply Exists.intro
           refine ⟨fun wz hw _ => ?_, ?_⟩
           · have hcz := hw.cells.1
             go_simp
             (with_reducible exact Rg.up_value)
           simp only [Act.put, List.setIfInBounds_toArray, List.set_cons_zero, List.set_cons_succ])
          (refine Rr.wr_y (by simp only [List.getElem?_toArray, List.getElem?_cons_succ, List.getElem?_cons_zero]; rfl) (by rfl) ?_
           apply Exists.intro
           refine ⟨fun wz hw _ => ?_, ?_⟩
           · have hcz := hw.cells.1
             go_simp
             (with_reducible exact Rg.up_value)
           simp only [Act.put, List.setIfInBounds_toArray, List.set_cons_zero, List.set_cons_succ])
          (refine Rr.wr_y (by simp only [List.getElem?_toArray, List.getElem?_cons_succ, List.getElem?_cons_zero]; rfl) (by rfl) ?_
           apply Exists.intro
           refine ⟨fun wz hw _ => ?_, ?_⟩
           · have hcz := hw.cells.1
             go_simp
             (with_reducible exact Rg.up_value)
           simp only [Act.put, List.setIfInBounds_toArray, List.set_cons_zero, List.set_cons_succ])
          (refine Rr.wr_y (by simp only [List.getElem?_toArray, List.getElem?_cons_succ, List.getElem?_cons_zero]; rfl) (by rfl) ?_
           apply Exists.intro
           refine ⟨fun wz hw _ => ?_, ?_⟩
           · have hcz := hw.cells.1
             go_simp
             (with_reducible exact Rg.up_value)
           simp only [Act.put, List.setIfInBounds_toArray, List.set_cons_zero, List.set_cons_succ])
          (refine Rr.wr_y (by simp only [List.getElem?_toArray, List.getElem?_cons_succ, List.getElem?_cons_zero]; rfl) (by rfl) ?_
           apply Exists.intro
           refine ⟨fun wz hw _ => ?_, ?_⟩
           · have hcz := hw.cells.1
             go_simp
             (with_reducible exact Rg.up_value)
           simp only [Act.put, List.setIfInBounds_toArray, List.set_cons_zero, List.set_cons_succ])
          (refine Rr.wr_y (by simp only [List.getElem?_toArray, List.getElem?_cons_succ, List.getElem?_cons_zero]; rfl) (by rfl) ?_
           apply Exists.intro
           refine ⟨fun wz hw _ => ?_, ?_⟩
           · have hcz := hw.cells.1
             go_simp
             apply Rg.up_enter
             (with_reducible refine (HBF.out _).mono ?_)
             rintro e w3 ⟨rfl, hb3⟩
             exact ⟨rfl, hb3⟩
           simp only [Act.put, List.setIfInBounds_toArray, List.set_cons_zero, List.set_cons_succ])
          (refine Rr.wr_y (by simp only [List.getElem?_toArray, List.getElem?_cons_succ, List.getElem?_cons_zero]; rfl) (by rfl) ?_
           apply Exists.intro
           refine ⟨fun wz hw _ => ?_, ?_⟩
           · have hcz := hw.cells.1
             go_simp
             (with_reducible exact Rg.up_value)
           simp only [Act.put, List.setIfInBounds_toArray, List.set_cons_zero, List.set_cons_succ])
          refine Rr.wr_nil ?_
          intro wy hy hh
          simp only [List.length_cons, List.length_nil, List.drop_succ_cons, List.drop_zero, Nat.reduceAdd]
          clear hh
          have HXB := Lib.hid (HQ.out.trans hy)
          have HC := Lib.hid hc
          replace cx := (hy.cells.1 _ _ hgx).trans cx
          replace hgx := Nat.lt_of_lt_of_le hgx hy.size
          clear cj hgj hy hc HQ
          cases bb with
          | false =>
            have HLT2 : Hid (∀ q (_ : q < j + 1) (hl : q < m.length), befT x m[q] = false) := Lib.hid (fun q hq hl => by
              rcases Nat.lt_or_ge q j with h | h
              · exact HLT.out q h hl
              · obtain rfl : q = j := by omega
                exact HBB2.out _ rfl hl)
            go_wp2_with (fail)
            exact ⟨⟨j + 1, by simp, by omega, HLT2, HXB⟩, by simp [iof]; omega⟩
          | true =>
            have HAT : Hid (srtT (l.take (i + 1)) = m.take j ++ x :: m.drop j) := Lib.hid (by
              rw [HN.out]
              exact srtT_ins HM.out (by rw [HML.out]; omega) HLT.out (fun h => HBB2.out _ rfl h))
            have HLEN1 : Hid ((m.take j).length = j) := Lib.hid (by rw [List.length_take, HML.out]; omega)
            have HLEN2 : Hid ((m.drop j).length = (i - j)) := Lib.hid (by rw [List.length_drop, HML.out]; try omega)
            go_upto_region 8 with (fail)
            refine Rr.wp_region [(0, .y), (1, .y), (2, .y), (3, .y), (5, .y), (6, .y), (7, .y), (4, .m)] (fun _ => (.cells #[.string x] 9, fun p => .slice (some ⟨p, 0, none⟩) 1 1)) (by kernel_rfl) (by kernel_rfl) ?_
            (refine Rr.wr_y (by simp only [List.getElem?_toArray, List.getElem?_cons_succ, List.getElem?_cons_zero]; rfl) (by rfl) ?_
             apply Exists.intro
             refine ⟨fun wz hw _ => ?_, ?_⟩
             · have hcz := hw.cells.1
               go_simp
               (with_reducible exact Rg.up_value)
             simp only [Act.put, List.setIfInBounds_toArray, List.set_cons_zero, List.set_cons_succ])
            (refine Rr.wr_y (by simp only [List.getElem?_toArray, List.getElem?_cons_succ, List.getElem?_cons_zero]; rfl) (by rfl) ?_
             apply Exists.intro
             refine ⟨fun wz hw _ => ?_, ?_⟩
             · have hcz := hw.cells.1
               go_simp
               (with_reducible exact Rg.up_value)
             simp only [Act.put, List.setIfInBounds_toArray, List.set_cons_zero, List.set_cons_succ])
            (refine Rr.wr_y (by simp only [List.getElem?_toArray, List.getElem?_cons_succ, List.getElem?_cons_zero]; rfl) (by rfl) ?_
             apply Exists.intro
             refine ⟨fun wz hw _ => ?_, ?_⟩
             · have hcz := hw.cells.1
               go_simp
               (with_reducible exact Rg.up_value)
             simp only [Act.put, List.setIfInBounds_toArray, List.set_cons_zero, List.set_cons_succ])
            (refine Rr.wr_y (by simp only [List.getElem?_toArray, List.getElem?_cons_succ, List.getElem?_cons_zero]; rfl) (by rfl) ?_
             apply Exists.intro
             refine ⟨fun wz hw _ => ?_, ?_⟩
             · have hcz := hw.cells.1
               go_simp
               (with_reducible exact Rg.up_value)
             simp only [Act.put, List.setIfInBounds_toArray, List.set_cons_zero, List.set_cons_succ])
            (refine Rr.wr_y (by simp only [List.getElem?_toArray, List.getElem?_cons_succ, List.getElem?_cons_zero]; rfl) (by rfl) ?_
             apply Exists.intro
             refine ⟨fun wz hw _ => ?_, ?_⟩
             · have hcz := hw.cells.1
               go_simp
               (with_reducible exact Rg.up_value)
             simp only [Act.put, List.setIfInBounds_toArray, List.set_cons_zero, List.set_cons_succ])
            (refine Rr.wr_y (by simp only [List.getElem?_toArray, List.getElem?_cons_succ, List.getElem?_cons_zero]; rfl) (by rfl) ?_
             apply Exists.intro
             refine ⟨fun wz hw _ => ?_, ?_⟩
             · have hcz := hw.cells.1
               go_simp
               (with_reducible exact Rg.up_value)
             simp only [Act.put, List.setIfInBounds_toArray, List.set_cons_zero, List.set_cons_succ])
            (refine Rr.wr_y (by simp only [List.getElem?_toArray, List.getElem?_cons_succ, List.getElem?_cons_zero]; rfl) (by rfl) ?_
             apply Exists.intro
             refine ⟨fun wz hw _ => ?_, ?_⟩
             · have hcz := hw.cells.1
               go_simp
               (with_reducible exact Rg.up_value)
             simp only [Act.put, List.setIfInBounds_toArray, List.set_cons_zero, List.set_cons_succ])
            refine Rr.wr_m (by simp only [List.getElem?_toArray, List.getElem?_cons_succ, List.getElem?_cons_zero]; rfl) (by rfl) (fun wz => by go_simp) (fun pm hpm => ?_)
            simp only [Act.put, List.setIfInBounds_toArray, List.set_cons_zero, List.set_cons_succ]
            refine Rr.wr_nil ?_
            intro wz hz hh
            obtain ⟨hpm1, hpm2⟩ := hh _ List.mem_cons_self
            simp only [List.length_cons, List.length_nil, List.drop_succ_cons, List.drop_zero, Nat.reduceAdd]
            have HOWN : Hid (wz.ownsRow wy.heap.size 9 1 (.slice (some ⟨pm, 0, none⟩) 1 1) [x].length ([x].flatMap celS)) := Lib.hid ⟨rfl, .inr ⟨pm, 1, #[.string x], rfl, hpm1, hpm2, Nat.le_refl _, by unfold maxLen; omega, rfl, rfl⟩⟩
            have HXZ := Lib.hid hz
            clear hh hpm1 hpm2 hz cx hgx
            refine append_anyS rfl (.tmp 35) (.tmp 38) rfl wy.heap.size (.slice (some ⟨pm, 0, none⟩) 1 1) [x] (by rfl) HOWN.out (some ⟨g, j, none⟩) (cap - j) (m.drop j) (by rw [HLEN2.out]; rfl) (by have hs := srcS_drop (k := j) (HXB.out.trans HXZ.out) HC.out (by rw [HML.out]; exact hlc); rw [if_neg hcapi] at hs; exact hs) (by have := HLEN2.out; have h1 : [x].length = 1 := rfl; omega) HXZ.out.size ?_
            intro v1 wA hrA hgA hsA hnA
            have HXA : Hid (Ext wy wA) := Lib.hid (grown_ext HXZ.out HOWN.out (Nat.le_refl _) hgA)
            obtain ⟨rl, hrl⟩ : ∃ rl, rl = [x] ++ m.drop j := ⟨_, rfl⟩
            rw [← hrl] at hrA
            have HRL2 : Hid (rl.length = (i - j) + 1) := Lib.hid (by have h2 := HLEN2.out; have h1 : [x].length = 1 := rfl; rw [hrl, List.length_append]; omega)
            have HRL := Lib.hid hrl
            obtain ⟨A3, c3, hv1, hle3, hcm3, hrf3⟩ := row_formS hrA
            subst hv1
            have HRF3 := Lib.hid hrf3
            clear hrA hgA hsA hnA hrf3 hle3 hrl
            simp only [Act.put, List.setIfInBounds_toArray, List.set_cons_zero, List.set_cons_succ]
            go_upto_region 9 with (fail)
            have HOWN0 : Hid ((wA.alloc (.cells #[] 9)).ownsRow wA.heap.size 9 1 (.slice (some ⟨wA.heap.size, 0, none⟩) 0 0) 0 []) := Lib.hid ⟨rfl, .inr ⟨wA.heap.size, 0, #[], rfl, Nat.le_refl _, World.alloc_heap_new wA _, by simp, by simp, rfl, rfl⟩⟩
            have HXC := Lib.hid (Ext.alloc (Ext.refl wA) (.cells #[] 9))
            go_wp2_with (first
              | (at_builtin; (refine append_anyS rfl (.tmp 40) (.tmp 43) rfl wA.heap.size (.slice (some ⟨wA.heap.size, 0, none⟩) 0 0) [] (by rfl) HOWN0.out (some ⟨g, 0, none⟩) cap (m.take j) (by rw [HLEN1.out]; rfl) (srcS_take (HXB.out.trans (HXA.out.trans HXC.out)) HC.out) (by have := HLEN1.out; have h1 : ([] : List ByteArray).length = 0 := rfl; omega) HXC.out.size ?_; intro v2 wB hrB hgB hsB hnB; have HXB2 : Hid (Ext wA wB) := Lib.hid (grown_ext HXC.out HOWN0.out (Nat.le_refl _) hgB); have HRB : Hid (wB.ownsRow wA.heap.size 9 1 v2 (m.take j).length ((m.take j).flatMap celS)) := Lib.hid hrB; clear hrB hgB hsB hnB))
              | (at_builtin; (refine append_anyS rfl (.tmp 44) (.tmp 45) rfl wA.heap.size v2 (m.take j) (by rfl) HRB.out A3 c3 rl (by rfl) (srcS_all HXB2.out HRF3.out) (by have := HLEN1.out; have := HRL2.out; omega) HXB2.out.size ?_; intro v3 wC hrC hgC hsC hnC)))
            refine ⟨⟨i + 1, by simp, by omega, Lib.hid ?_, Lib.hid (HX.out.trans (HXB.out.trans (HXA.out.trans (grown_ext HXB2.out HRB.out (Nat.le_refl _) hgC))))⟩, by simp [iof]; omega⟩
            rw [HAT.out]
            have hrC2 := row_baseS hrC (show B ≤ wA.heap.size by have := HB.out; have := HX.out.size; have := HXB.out.size; have := HXA.out.size; omega)
            rw [HRL.out] at hrC2
            exact hrC2
        · obtain rfl : j = i := by omega
          go_upto_region 6 with (fail)
          refine Rr.wp_region ((List.range 15).map (fun i => (i, .y))) (fun _ => (.cells #[] 29, Rg.ptr)) (by kernel_rfl) (by kernel_rfl) ?_
          simp only [List.range, List.range.loop, List.map_cons, List.map_nil]
          (refine Rr.wr_y (by simp only [List.getElem?_toArray, List.getElem?_cons_succ, List.getElem?_cons_zero]; rfl) (by rfl) ?_
           apply Exists.intro
           refine ⟨fun wz hw _ => ?_, ?_⟩
           · have hcz := hw.cells.1
             go_simp
             (with_reducible exact Rg.up_value)
           simp only [Act.put, List.setIfInBounds_toArray, List.set_cons_zero, List.set_cons_succ])
          (refine Rr.wr_y (by simp only [List.getElem?_toArray, List.getElem?_cons_succ, List.getElem?_cons_zero]; rfl) (by rfl) ?_
           apply Exists.intro
           refine ⟨fun wz hw _ => ?_, ?_⟩
           · have hcz := hw.cells.1
             go_simp
             (with_reducible exact Rg.up_value)
           simp only [Act.put, List.setIfInBounds_toArray, List.set_cons_zero, List.set_cons_succ])
          (refine Rr.wr_y (by simp only [List.getElem?_toArray, List.getElem?_cons_succ, List.getElem?_cons_zero]; rfl) (by rfl) ?_
           apply Exists.intro
           refine ⟨fun wz hw _ => ?_, ?_⟩
           · have hcz := hw.cells.1
             go_simp
             (with_reducible exact Rg.up_value)
           simp only [Act.put, List.setIfInBounds_toArray, List.set_cons_zero, List.set_cons_succ])
          (refine Rr.wr_y (by simp only [List.getElem?_toArray, List.getElem?_cons_succ, List.getElem?_cons_zero]; rfl) (by rfl) ?_
           apply Exists.intro
           refine ⟨fun wz hw _ => ?_, ?_⟩
           · have hcz := hw.cells.1
             go_simp
             (with_reducible exact Rg.up_value)
           simp only [Act.put, List.setIfInBounds_toArray, List.set_cons_zero, List.set_cons_succ])
          (refine Rr.wr_y (by simp only [List.getElem?_toArray, List.getElem?_cons_succ, List.getElem?_cons_zero]; rfl) (by rfl) ?_
           apply Exists.intro
           refine ⟨fun wz hw _ => ?_, ?_⟩
           · have hcz := hw.cells.1
             go_simp
             (with_reducible exact Rg.up_value)
           simp only [Act.put, List.setIfInBounds_toArray, List.set_cons_zero, List.set_cons_succ])
          refine Rr.wr_skip (by simp only [List.getElem?_toArray, List.getElem?_cons_succ, List.getElem?_cons_zero]; rfl) (by rfl) ?_
          simp only [Act.put, List.setIfInBounds_toArray, List.set_cons_zero, List.set_cons_succ]
          refine Rr.wr_skip (by simp only [List.getElem?_toArray, List.getElem?_cons_succ, List.getElem?_cons_zero]; rfl) (by rfl) ?_
          simp only [Act.put, List.setIfInBounds_toArray, List.set_cons_zero, List.set_cons_succ]
          refine Rr.wr_skip (by simp only [List.getElem?_toArray, List.getElem?_cons_succ, List.getElem?_cons_zero]; rfl) (by rfl) ?_
          simp only [Act.put, List.setIfInBounds_toArray, List.set_cons_zero, List.set_cons_succ]
          refine Rr.wr_skip (by simp only [List.getElem?_toArray, List.getElem?_cons_succ, List.getElem?_cons_zero]; rfl) (by rfl) ?_
          simp only [Act.put, List.setIfInBounds_toArray, List.set_cons_zero, List.set_cons_succ]
          refine Rr.wr_skip (by simp only [List.getElem?_toArray, List.getElem?_cons_succ, List.getElem?_cons_zero]; rfl) (by rfl) ?_
          simp only [Act.put, List.setIfInBounds_toArray, List.set_cons_zero, List.set_cons_succ]
          refine Rr.wr_skip (by simp only [List.getElem?_toArray, List.getElem?_cons_succ, List.getElem?_cons_zero]; rfl) (by rfl) ?_
          simp only [Act.put, List.setIfInBounds_toArray, List.set_cons_zero, List.set_cons_succ]
          refine Rr.wr_skip (by simp only [List.getElem?_toArray, List.getElem?_cons_succ, List.getElem?_cons_zero]; rfl) (by rfl) ?_
          simp only [Act.put, List.setIfInBounds_toArray, List.set_cons_zero, List.set_cons_succ]
          refine Rr.wr_skip (by simp only [List.getElem?_toArray, List.getElem?_cons_succ, List.getElem?_cons_zero]; rfl) (by rfl) ?_
          simp only [Act.put, List.setIfInBounds_toArray, List.set_cons_zero, List.set_cons_succ]
          refine Rr.wr_skip (by simp only [List.getElem?_toArray, List.getElem?_cons_succ, List.getElem?_cons_zero]; rfl) (by rfl) ?_
          simp only [Act.put, List.setIfInBounds_toArray, List.set_cons_zero, List.set_cons_succ]
          refine Rr.wr_skip (by simp only [List.getElem?_toArray, List.getElem?_cons_succ, List.getElem?_cons_zero]; rfl) (by rfl) ?_
          simp only [Act.put, List.setIfInBounds_toArray, List.set_cons_zero, List.set_cons_succ]
          refine Rr.wr_nil ?_
          intro wy hy hh
          simp only [List.length_cons, List.length_nil, List.drop_succ_cons, List.drop_zero, Nat.reduceAdd]
          clear hh
          have HXB := Lib.hid (HQ.out.trans hy)
          replace cx := (hy.cells.1 _ _ hgx).trans cx
          replace hgx := Nat.lt_of_lt_of_le hgx hy.size
          clear hy HQ
          have HAT : Hid (srtT (l.take (j + 1)) = m.take j ++ x :: m.drop j) := Lib.hid (by
            rw [HN.out]
            exact srtT_ins HM.out (by rw [HML.out]; omega) HLT.out (fun h => by rw [HML.out] at h; omega))
          rcases HRF.out with ⟨hl0, rfl, hcap0⟩ | ⟨g, rfl, hgw, hc⟩
          · have HL0 := Lib.hid hl0
            subst hcap0
            clear hl0
            obtain rfl : j = 0 := by omega
            have HLEN1 : Hid ((m.take 0).length = 0) := Lib.hid (by rw [List.length_take, HML.out]; omega)
            have HLEN2 : Hid ((m.drop 0).length = 0) := Lib.hid (by rw [List.length_drop, HML.out]; try omega)
            go_upto_region 8 with (fail)
            refine Rr.wp_region [(0, .y), (1, .y), (2, .y), (3, .y), (5, .y), (6, .y), (7, .y), (4, .m)] (fun _ => (.cells #[.string x] 9, fun p => .slice (some ⟨p, 0, none⟩) 1 1)) (by kernel_rfl) (by kernel_rfl) ?_
            (refine Rr.wr_y (by simp only [List.getElem?_toArray, List.getElem?_cons_succ, List.getElem?_cons_zero]; rfl) (by rfl) ?_
             apply Exists.intro
             refine ⟨fun wz hw _ => ?_, ?_⟩
             · have hcz := hw.cells.1
               go_simp
               (with_reducible exact Rg.up_value)
             simp only [Act.put, List.setIfInBounds_toArray, List.set_cons_zero, List.set_cons_succ])
            (refine Rr.wr_y (by simp only [List.getElem?_toArray, List.getElem?_cons_succ, List.getElem?_cons_zero]; rfl) (by rfl) ?_
             apply Exists.intro
             refine ⟨fun wz hw _ => ?_, ?_⟩
             · have hcz := hw.cells.1
               go_simp
               (with_reducible exact Rg.up_value)
             simp only [Act.put, List.setIfInBounds_toArray, List.set_cons_zero, List.set_cons_succ])
            (refine Rr.wr_y (by simp only [List.getElem?_toArray, List.getElem?_cons_succ, List.getElem?_cons_zero]; rfl) (by rfl) ?_
             apply Exists.intro
             refine ⟨fun wz hw _ => ?_, ?_⟩
             · have hcz := hw.cells.1
               go_simp
               (with_reducible exact Rg.up_value)
             simp only [Act.put, List.setIfInBounds_toArray, List.set_cons_zero, List.set_cons_succ])
            (refine Rr.wr_y (by simp only [List.getElem?_toArray, List.getElem?_cons_succ, List.getElem?_cons_zero]; rfl) (by rfl) ?_
             apply Exists.intro
             refine ⟨fun wz hw _ => ?_, ?_⟩
             · have hcz := hw.cells.1
               go_simp
               (with_reducible exact Rg.up_value)
             simp only [Act.put, List.setIfInBounds_toArray, List.set_cons_zero, List.set_cons_succ])
            (refine Rr.wr_y (by simp only [List.getElem?_toArray, List.getElem?_cons_succ, List.getElem?_cons_zero]; rfl) (by rfl) ?_
             apply Exists.intro
             refine ⟨fun wz hw _ => ?_, ?_⟩
             · have hcz := hw.cells.1
               go_simp
               (with_reducible exact Rg.up_value)
             simp only [Act.put, List.setIfInBounds_toArray, List.set_cons_zero, List.set_cons_succ])
            (refine Rr.wr_y (by simp only [List.getElem?_toArray, List.getElem?_cons_succ, List.getElem?_cons_zero]; rfl) (by rfl) ?_
             apply Exists.intro
             refine ⟨fun wz hw _ => ?_, ?_⟩
             · have hcz := hw.cells.1
               go_simp
               (with_reducible exact Rg.up_value)
             simp only [Act.put, List.setIfInBounds_toArray, List.set_cons_zero, List.set_cons_succ])
            (refine Rr.wr_y (by simp only [List.getElem?_toArray, List.getElem?_cons_succ, List.getElem?_cons_zero]; rfl) (by rfl) ?_
             apply Exists.intro
             refine ⟨fun wz hw _ => ?_, ?_⟩
             · have hcz := hw.cells.1
               go_simp
               (with_reducible exact Rg.up_value)
             simp only [Act.put, List.setIfInBounds_toArray, List.set_cons_zero, List.set_cons_succ])
            refine Rr.wr_m (by simp only [List.getElem?_toArray, List.getElem?_cons_succ, List.getElem?_cons_zero]; rfl) (by rfl) (fun wz => by go_simp) (fun pm hpm => ?_)
            simp only [Act.put, List.setIfInBounds_toArray, List.set_cons_zero, List.set_cons_succ]
            refine Rr.wr_nil ?_
            intro wz hz hh
            obtain ⟨hpm1, hpm2⟩ := hh _ List.mem_cons_self
            simp only [List.length_cons, List.length_nil, List.drop_succ_cons, List.drop_zero, Nat.reduceAdd]
            have HOWN : Hid (wz.ownsRow wy.heap.size 9 1 (.slice (some ⟨pm, 0, none⟩) 1 1) [x].length ([x].flatMap celS)) := Lib.hid ⟨rfl, .inr ⟨pm, 1, #[.string x], rfl, hpm1, hpm2, Nat.le_refl _, by unfold maxLen; omega, rfl, rfl⟩⟩
            have HXZ := Lib.hid hz
            clear hh hpm1 hpm2 hz cx hgx
            refine append_anyS rfl (.tmp 35) (.tmp 38) rfl wy.heap.size (.slice (some ⟨pm, 0, none⟩) 1 1) [x] (by rfl) HOWN.out none _ (m.drop 0) (by rw [HLEN2.out]; rfl) (.inl (by rw [HL0.out]; exact List.drop_nil)) (by have := HLEN2.out; have h1 : [x].length = 1 := rfl; omega) HXZ.out.size ?_
            intro v1 wA hrA hgA hsA hnA
            have HXA : Hid (Ext wy wA) := Lib.hid (grown_ext HXZ.out HOWN.out (Nat.le_refl _) hgA)
            obtain ⟨rl, hrl⟩ : ∃ rl, rl = [x] ++ m.drop 0 := ⟨_, rfl⟩
            rw [← hrl] at hrA
            have HRL2 : Hid (rl.length = 0 + 1) := Lib.hid (by have h2 := HLEN2.out; have h1 : [x].length = 1 := rfl; rw [hrl, List.length_append]; omega)
            have HRL := Lib.hid hrl
            obtain ⟨A3, c3, hv1, hle3, hcm3, hrf3⟩ := row_formS hrA
            subst hv1
            have HRF3 := Lib.hid hrf3
            clear hrA hgA hsA hnA hrf3 hle3 hrl
            simp only [Act.put, List.setIfInBounds_toArray, List.set_cons_zero, List.set_cons_succ]
            go_upto_region 9 with (fail)
            have HOWN0 : Hid ((wA.alloc (.cells #[] 9)).ownsRow wA.heap.size 9 1 (.slice (some ⟨wA.heap.size, 0, none⟩) 0 0) 0 []) := Lib.hid ⟨rfl, .inr ⟨wA.heap.size, 0, #[], rfl, Nat.le_refl _, World.alloc_heap_new wA _, by simp, by simp, rfl, rfl⟩⟩
            have HXC := Lib.hid (Ext.alloc (Ext.refl wA) (.cells #[] 9))
            go_wp2_with (first
              | (at_builtin; (refine append_anyS rfl (.tmp 40) (.tmp 43) rfl wA.heap.size (.slice (some ⟨wA.heap.size, 0, none⟩) 0 0) [] (by rfl) HOWN0.out none _ (m.take 0) (by rw [HLEN1.out]; rfl) (.inl (by rw [HL0.out]; exact List.take_nil)) (by have := HLEN1.out; have h1 : ([] : List ByteArray).length = 0 := rfl; omega) HXC.out.size ?_; intro v2 wB hrB hgB hsB hnB; have HXB2 : Hid (Ext wA wB) := Lib.hid (grown_ext HXC.out HOWN0.out (Nat.le_refl _) hgB); have HRB : Hid (wB.ownsRow wA.heap.size 9 1 v2 (m.take 0).length ((m.take 0).flatMap celS)) := Lib.hid hrB; clear hrB hgB hsB hnB))
              | (at_builtin; (refine append_anyS rfl (.tmp 44) (.tmp 45) rfl wA.heap.size v2 (m.take 0) (by rfl) HRB.out A3 c3 rl (by rfl) (srcS_all HXB2.out HRF3.out) (by have := HLEN1.out; have := HRL2.out; omega) HXB2.out.size ?_; intro v3 wC hrC hgC hsC hnC)))
            refine ⟨⟨0 + 1, by simp, by omega, Lib.hid ?_, Lib.hid (HX.out.trans (HXB.out.trans (HXA.out.trans (grown_ext HXB2.out HRB.out (Nat.le_refl _) hgC))))⟩, by simp [iof]; omega⟩
            rw [HAT.out]
            have hrC2 := row_baseS hrC (show B ≤ wA.heap.size by have := HB.out; have := HX.out.size; have := HXB.out.size; have := HXA.out.size; omega)
            rw [HRL.out] at hrC2
            exact hrC2
          · have HC := Lib.hid hc
            clear hc
            by_cases hcapi : cap = j
            · subst hcapi
              have HLEN1 : Hid ((m.take cap).length = cap) := Lib.hid (by rw [List.length_take, HML.out]; omega)
              have HLEN2 : Hid ((m.drop cap).length = 0) := Lib.hid (by rw [List.length_drop, HML.out]; try omega)
              go_upto_region 8 with (fail)
              refine Rr.wp_region [(0, .y), (1, .y), (2, .y), (3, .y), (5, .y), (6, .y), (7, .y), (4, .m)] (fun _ => (.cells #[.string x] 9, fun p => .slice (some ⟨p, 0, none⟩) 1 1)) (by kernel_rfl) (by kernel_rfl) ?_
              (refine Rr.wr_y (by simp only [List.getElem?_toArray, List.getElem?_cons_succ, List.getElem?_cons_zero]; rfl) (by rfl) ?_
               apply Exists.intro
               refine ⟨fun wz hw _ => ?_, ?_⟩
               · have hcz := hw.cells.1
                 go_simp
                 (with_reducible exact Rg.up_value)
               simp only [Act.put, List.setIfInBounds_toArray, List.set_cons_zero, List.set_cons_succ])
              (refine Rr.wr_y (by simp only [List.getElem?_toArray, List.getElem?_cons_succ, List.getElem?_cons_zero]; rfl) (by rfl) ?_
               apply Exists.intro
               refine ⟨fun wz hw _ => ?_, ?_⟩
               · have hcz := hw.cells.1
                 go_simp
                 (with_reducible exact Rg.up_value)
               simp only [Act.put, List.setIfInBounds_toArray, List.set_cons_zero, List.set_cons_succ])
              (refine Rr.wr_y (by simp only [List.getElem?_toArray, List.getElem?_cons_succ, List.getElem?_cons_zero]; rfl) (by rfl) ?_
               apply Exists.intro
               refine ⟨fun wz hw _ => ?_, ?_⟩
               · have hcz := hw.cells.1
                 go_simp
                 (with_reducible exact Rg.up_value)
               simp only [Act.put, List.setIfInBounds_toArray, List.set_cons_zero, List.set_cons_succ])
              (refine Rr.wr_y (by simp only [List.getElem?_toArray, List.getElem?_cons_succ, List.getElem?_cons_zero]; rfl) (by rfl) ?_
               apply Exists.intro
               refine ⟨fun wz hw _ => ?_, ?_⟩
               · have hcz := hw.cells.1
                 go_simp
                 (with_reducible exact Rg.up_value)
               simp only [Act.put, List.setIfInBounds_toArray, List.set_cons_zero, List.set_cons_succ])
              (refine Rr.wr_y (by simp only [List.getElem?_toArray, List.getElem?_cons_succ, List.getElem?_cons_zero]; rfl) (by rfl) ?_
               apply Exists.intro
               refine ⟨fun wz hw _ => ?_, ?_⟩
               · have hcz := hw.cells.1
                 go_simp
                 (with_reducible exact Rg.up_value)
               simp only [Act.put, List.setIfInBounds_toArray, List.set_cons_zero, List.set_cons_succ])
              (refine Rr.wr_y (by simp only [List.getElem?_toArray, List.getElem?_cons_succ, List.getElem?_cons_zero]; rfl) (by rfl) ?_
               apply Exists.intro
               refine ⟨fun wz hw _ => ?_, ?_⟩
               · have hcz := hw.cells.1
                 go_simp
                 (with_reducible exact Rg.up_value)
               simp only [Act.put, List.setIfInBounds_toArray, List.set_cons_zero, List.set_cons_succ])
              (refine Rr.wr_y (by simp only [List.getElem?_toArray, List.getElem?_cons_succ, List.getElem?_cons_zero]; rfl) (by rfl) ?_
               apply Exists.intro
               refine ⟨fun wz hw _ => ?_, ?_⟩
               · have hcz := hw.cells.1
                 go_simp
                 (with_reducible exact Rg.up_value)
               simp only [Act.put, List.setIfInBounds_toArray, List.set_cons_zero, List.set_cons_succ])
              refine Rr.wr_m (by simp only [List.getElem?_toArray, List.getElem?_cons_succ, List.getElem?_cons_zero]; rfl) (by rfl) (fun wz => by go_simp) (fun pm hpm => ?_)
              simp only [Act.put, List.setIfInBounds_toArray, List.set_cons_zero, List.set_cons_succ]
              refine Rr.wr_nil ?_
              intro wz hz hh
              obtain ⟨hpm1, hpm2⟩ := hh _ List.mem_cons_self
              simp only [List.length_cons, List.length_nil, List.drop_succ_cons, List.drop_zero, Nat.reduceAdd]
              have HOWN : Hid (wz.ownsRow wy.heap.size 9 1 (.slice (some ⟨pm, 0, none⟩) 1 1) [x].length ([x].flatMap celS)) := Lib.hid ⟨rfl, .inr ⟨pm, 1, #[.string x], rfl, hpm1, hpm2, Nat.le_refl _, by unfold maxLen; omega, rfl, rfl⟩⟩
              have HXZ := Lib.hid hz
              clear hh hpm1 hpm2 hz cx hgx
              refine append_anyS rfl (.tmp 35) (.tmp 38) rfl wy.heap.size (.slice (some ⟨pm, 0, none⟩) 1 1) [x] (by rfl) HOWN.out (some ⟨g, 0, none⟩) _ (m.drop cap) (by rw [HLEN2.out]; rfl) (.inl (List.drop_eq_nil_of_le (by rw [HML.out]; exact Nat.le_refl _))) (by have := HLEN2.out; have h1 : [x].length = 1 := rfl; omega) HXZ.out.size ?_
              intro v1 wA hrA hgA hsA hnA
              have HXA : Hid (Ext wy wA) := Lib.hid (grown_ext HXZ.out HOWN.out (Nat.le_refl _) hgA)
              obtain ⟨rl, hrl⟩ : ∃ rl, rl = [x] ++ m.drop cap := ⟨_, rfl⟩
              rw [← hrl] at hrA
              have HRL2 : Hid (rl.length = 0 + 1) := Lib.hid (by have h2 := HLEN2.out; have h1 : [x].length = 1 := rfl; rw [hrl, List.length_append]; omega)
              have HRL := Lib.hid hrl
              obtain ⟨A3, c3, hv1, hle3, hcm3, hrf3⟩ := row_formS hrA
              subst hv1
              have HRF3 := Lib.hid hrf3
              clear hrA hgA hsA hnA hrf3 hle3 hrl
              simp only [Act.put, List.setIfInBounds_toArray, List.set_cons_zero, List.set_cons_succ]
              go_upto_region 9 with (fail)
              have HOWN0 : Hid ((wA.alloc (.cells #[] 9)).ownsRow wA.heap.size 9 1 (.slice (some ⟨wA.heap.size, 0, none⟩) 0 0) 0 []) := Lib.hid ⟨rfl, .inr ⟨wA.heap.size, 0, #[], rfl, Nat.le_refl _, World.alloc_heap_new wA _, by simp, by simp, rfl, rfl⟩⟩
              have HXC := Lib.hid (Ext.alloc (Ext.refl wA) (.cells #[] 9))
              go_wp2_with (first
                | (at_builtin; (refine append_anyS rfl (.tmp 40) (.tmp 43) rfl wA.heap.size (.slice (some ⟨wA.heap.size, 0, none⟩) 0 0) [] (by rfl) HOWN0.out (some ⟨g, 0, none⟩) _ (m.take cap) (by rw [HLEN1.out]; rfl) (srcS_take (HXB.out.trans (HXA.out.trans HXC.out)) HC.out) (by have := HLEN1.out; have h1 : ([] : List ByteArray).length = 0 := rfl; omega) HXC.out.size ?_; intro v2 wB hrB hgB hsB hnB; have HXB2 : Hid (Ext wA wB) := Lib.hid (grown_ext HXC.out HOWN0.out (Nat.le_refl _) hgB); have HRB : Hid (wB.ownsRow wA.heap.size 9 1 v2 (m.take cap).length ((m.take cap).flatMap celS)) := Lib.hid hrB; clear hrB hgB hsB hnB))
                | (at_builtin; (refine append_anyS rfl (.tmp 44) (.tmp 45) rfl wA.heap.size v2 (m.take cap) (by rfl) HRB.out A3 c3 rl (by rfl) (srcS_all HXB2.out HRF3.out) (by have := HLEN1.out; have := HRL2.out; omega) HXB2.out.size ?_; intro v3 wC hrC hgC hsC hnC)))
              refine ⟨⟨cap + 1, by simp, by omega, Lib.hid ?_, Lib.hid (HX.out.trans (HXB.out.trans (HXA.out.trans (grown_ext HXB2.out HRB.out (Nat.le_refl _) hgC))))⟩, by simp [iof]; omega⟩
              rw [HAT.out]
              have hrC2 := row_baseS hrC (show B ≤ wA.heap.size by have := HB.out; have := HX.out.size; have := HXB.out.size; have := HXA.out.size; omega)
              rw [HRL.out] at hrC2
              exact hrC2
            · skip
              have HLEN1 : Hid ((m.take j).length = j) := Lib.hid (by rw [List.length_take, HML.out]; omega)
              have HLEN2 : Hid ((m.drop j).length = 0) := Lib.hid (by rw [List.length_drop, HML.out]; try omega)
              go_upto_region 8 with (fail)
              refine Rr.wp_region [(0, .y), (1, .y), (2, .y), (3, .y), (5, .y), (6, .y), (7, .y), (4, .m)] (fun _ => (.cells #[.string x] 9, fun p => .slice (some ⟨p, 0, none⟩) 1 1)) (by kernel_rfl) (by kernel_rfl) ?_
              (refine Rr.wr_y (by simp only [List.getElem?_toArray, List.getElem?_cons_succ, List.getElem?_cons_zero]; rfl) (by rfl) ?_
               apply Exists.intro
               refine ⟨fun wz hw _ => ?_, ?_⟩
               · have hcz := hw.cells.1
                 go_simp
                 (with_reducible exact Rg.up_value)
               simp only [Act.put, List.setIfInBounds_toArray, List.set_cons_zero, List.set_cons_succ])
              (refine Rr.wr_y (by simp only [List.getElem?_toArray, List.getElem?_cons_succ, List.getElem?_cons_zero]; rfl) (by rfl) ?_
               apply Exists.intro
               refine ⟨fun wz hw _ => ?_, ?_⟩
               · have hcz := hw.cells.1
                 go_simp
                 (with_reducible exact Rg.up_value)
               simp only [Act.put, List.setIfInBounds_toArray, List.set_cons_zero, List.set_cons_succ])
              (refine Rr.wr_y (by simp only [List.getElem?_toArray, List.getElem?_cons_succ, List.getElem?_cons_zero]; rfl) (by rfl) ?_
               apply Exists.intro
               refine ⟨fun wz hw _ => ?_, ?_⟩
               · have hcz := hw.cells.1
                 go_simp
                 (with_reducible exact Rg.up_value)
               simp only [Act.put, List.setIfInBounds_toArray, List.set_cons_zero, List.set_cons_succ])
              (refine Rr.wr_y (by simp only [List.getElem?_toArray, List.getElem?_cons_succ, List.getElem?_cons_zero]; rfl) (by rfl) ?_
               apply Exists.intro
               refine ⟨fun wz hw _ => ?_, ?_⟩
               · have hcz := hw.cells.1
                 go_simp
                 (with_reducible exact Rg.up_value)
               simp only [Act.put, List.setIfInBounds_toArray, List.set_cons_zero, List.set_cons_succ])
              (refine Rr.wr_y (by simp only [List.getElem?_toArray, List.getElem?_cons_succ, List.getElem?_cons_zero]; rfl) (by rfl) ?_
               apply Exists.intro
               refine ⟨fun wz hw _ => ?_, ?_⟩
               · have hcz := hw.cells.1
                 go_simp
                 (with_reducible exact Rg.up_value)
               simp only [Act.put, List.setIfInBounds_toArray, List.set_cons_zero, List.set_cons_succ])
              (refine Rr.wr_y (by simp only [List.getElem?_toArray, List.getElem?_cons_succ, List.getElem?_cons_zero]; rfl) (by rfl) ?_
               apply Exists.intro
               refine ⟨fun wz hw _ => ?_, ?_⟩
               · have hcz := hw.cells.1
                 go_simp
                 (with_reducible exact Rg.up_value)
               simp only [Act.put, List.setIfInBounds_toArray, List.set_cons_zero, List.set_cons_succ])
              (refine Rr.wr_y (by simp only [List.getElem?_toArray, List.getElem?_cons_succ, List.getElem?_cons_zero]; rfl) (by rfl) ?_
               apply Exists.intro
               refine ⟨fun wz hw _ => ?_, ?_⟩
               · have hcz := hw.cells.1
                 go_simp
                 (with_reducible exact Rg.up_value)
               simp only [Act.put, List.setIfInBounds_toArray, List.set_cons_zero, List.set_cons_succ])
              refine Rr.wr_m (by simp only [List.getElem?_toArray, List.getElem?_cons_succ, List.getElem?_cons_zero]; rfl) (by rfl) (fun wz => by go_simp) (fun pm hpm => ?_)
              simp only [Act.put, List.setIfInBounds_toArray, List.set_cons_zero, List.set_cons_succ]
              refine Rr.wr_nil ?_
              intro wz hz hh
              obtain ⟨hpm1, hpm2⟩ := hh _ List.mem_cons_self
              simp only [List.length_cons, List.length_nil, List.drop_succ_cons, List.drop_zero, Nat.reduceAdd]
              have HOWN : Hid (wz.ownsRow wy.heap.size 9 1 (.slice (some ⟨pm, 0, none⟩) 1 1) [x].length ([x].flatMap celS)) := Lib.hid ⟨rfl, .inr ⟨pm, 1, #[.string x], rfl, hpm1, hpm2, Nat.le_refl _, by unfold maxLen; omega, rfl, rfl⟩⟩
              have HXZ := Lib.hid hz
              clear hh hpm1 hpm2 hz cx hgx
              refine append_anyS rfl (.tmp 35) (.tmp 38) rfl wy.heap.size (.slice (some ⟨pm, 0, none⟩) 1 1) [x] (by rfl) HOWN.out (some ⟨g, j, none⟩) _ (m.drop j) (by rw [HLEN2.out]; rfl) (.inl (List.drop_eq_nil_of_le (by rw [HML.out]; exact Nat.le_refl _))) (by have := HLEN2.out; have h1 : [x].length = 1 := rfl; omega) HXZ.out.size ?_
              intro v1 wA hrA hgA hsA hnA
              have HXA : Hid (Ext wy wA) := Lib.hid (grown_ext HXZ.out HOWN.out (Nat.le_refl _) hgA)
              obtain ⟨rl, hrl⟩ : ∃ rl, rl = [x] ++ m.drop j := ⟨_, rfl⟩
              rw [← hrl] at hrA
              have HRL2 : Hid (rl.length = 0 + 1) := Lib.hid (by have h2 := HLEN2.out; have h1 : [x].length = 1 := rfl; rw [hrl, List.length_append]; omega)
              have HRL := Lib.hid hrl
              obtain ⟨A3, c3, hv1, hle3, hcm3, hrf3⟩ := row_formS hrA
              subst hv1
              have HRF3 := Lib.hid hrf3
              clear hrA hgA hsA hnA hrf3 hle3 hrl
              simp only [Act.put, List.setIfInBounds_toArray, List.set_cons_zero, List.set_cons_succ]
              go_upto_region 9 with (fail)
              have HOWN0 : Hid ((wA.alloc (.cells #[] 9)).ownsRow wA.heap.size 9 1 (.slice (some ⟨wA.heap.size, 0, none⟩) 0 0) 0 []) := Lib.hid ⟨rfl, .inr ⟨wA.heap.size, 0, #[], rfl, Nat.le_refl _, World.alloc_heap_new wA _, by simp, by simp, rfl, rfl⟩⟩
              have HXC := Lib.hid (Ext.alloc (Ext.refl wA) (.cells #[] 9))
              go_wp2_with (first
                | (at_builtin; (refine append_anyS rfl (.tmp 40) (.tmp 43) rfl wA.heap.size (.slice (some ⟨wA.heap.size, 0, none⟩) 0 0) [] (by rfl) HOWN0.out (some ⟨g, 0, none⟩) _ (m.take j) (by rw [HLEN1.out]; rfl) (srcS_take (HXB.out.trans (HXA.out.trans HXC.out)) HC.out) (by have := HLEN1.out; have h1 : ([] : List ByteArray).length = 0 := rfl; omega) HXC.out.size ?_; intro v2 wB hrB hgB hsB hnB; have HXB2 : Hid (Ext wA wB) := Lib.hid (grown_ext HXC.out HOWN0.out (Nat.le_refl _) hgB); have HRB : Hid (wB.ownsRow wA.heap.size 9 1 v2 (m.take j).length ((m.take j).flatMap celS)) := Lib.hid hrB; clear hrB hgB hsB hnB))
                | (at_builtin; (refine append_anyS rfl (.tmp 44) (.tmp 45) rfl wA.heap.size v2 (m.take j) (by rfl) HRB.out A3 c3 rl (by rfl) (srcS_all HXB2.out HRF3.out) (by have := HLEN1.out; have := HRL2.out; omega) HXB2.out.size ?_; intro v3 wC hrC hgC hsC hnC)))
              refine ⟨⟨j + 1, by simp, by omega, Lib.hid ?_, Lib.hid (HX.out.trans (HXB.out.trans (HXA.out.trans (grown_ext HXB2.out HRB.out (Nat.le_refl _) hgC))))⟩, by simp [iof]; omega⟩
              rw [HAT.out]
              have hrC2 := row_baseS hrC (show B ≤ wA.heap.size by have := HB.out; have := HX.out.size; have := HXB.out.size; have := HXA.out.size; omega)
              rw [HRL.out] at hrC2
              exact hrC2
    · obtain rfl : i = l.length := by omega
      rw [List.take_length, srtT_len] at HR
      go_wp2_with (fail)
      go_ret
      exact ⟨_, rfl, HR.out, HX.out⟩
end Go.Proofs.Ytbeoihjfjkbfhaa

namespace Go.Proofs.Ytbeoihjfjkbfhaa
set_option linter.unusedVariables false
set_option linter.unusedSimpArgs false
open Go.RowKit
theorem append_g {α : Type} {cs : α → List Value} {sz : Nat} (T E bytes : Nat) {z : Value} (hT : Try.prog.underlying T = some (.slice E))
    (hinfo : (Try.prog.info? E).map (fun i => (i.zero, i.size, i.bytes)) = some (some z, sz, bytes)) (hz : z.cells.size = sz) (h0 : 0 < sz) (hby : bytes ≤ 100000)
    {ops : Array Oper} {rest : List Oper} {o : Oper} {a : Act} {Q : Exit → Act → World → Prop} {w : World} (hgd : o.guard = none) (s x : Operand)
    (ho : o.op = .call { callee := .builtin .append, args := #[s, x], argTypes := #[T, T] }) (B : Nat) (v : Value) (vs : List α) (hs : a.eval s = v) (hF : w.ownsRow B E sz v vs.length (vs.flatMap cs))
    (p : Nat) (u : α) (hl : (cs u).length = sz ∧ ∀ c ∈ cs u, c.oneCell' = true) (hx : a.eval x = .slice (some ⟨p, 0, none⟩) 1 1) (hp : w.heap[p]? = some (.cells (cs u).toArray E)) (hn : vs.length < 1000000) (hB : B ≤ w.heap.size)
    (h : ∀ g cap w', w'.ownsRow B E sz (.slice (some ⟨g, 0, none⟩) (vs.length + 1) cap) (vs ++ [u]).length ((vs ++ [u]).flatMap cs) → w.grownBy w' v.ownBlock → (v.ownBlock = some g ∨ g = w.heap.size) → wpList Try.prog ops Q rest (a.put o.dst (.slice (some ⟨g, 0, none⟩) (vs.length + 1) cap)) w') : wpList Try.prog ops Q (o :: rest) a w := by
  obtain ⟨i0, hi, hz0, hz1, hz2⟩ := info_parts hinfo
  refine wpList_append_lies w hgd s x T ho B E i0 _ sz bytes hT hi hz0 hz1 hz2 hz h0 v vs.length _ hs hF ⟨p, 0, none⟩ 1 1 (cs u) hx (by rw [hl.1, Nat.one_mul]) ?_ hl.2 (by decide) (by unfold maxLen; omega) ?_ hB w.heap.size rfl ?_
  · intro j c hc
    rw [addr_add, cell_of_row w p _ _ _ _ hp]
    simpa using hc
  · have : (vs.length + 1) * bytes ≤ 1000000 * 100000 := Nat.mul_le_mul (by omega) hby
    omega
  · intro g cap w' hw hg hat hlt
    refine h g cap w' ?_ hg hat
    rw [List.flatMap_append, List.length_append]
    simpa using hw
theorem row_block {B E sz n : Nat} {w : World} {v : Value} {xs : List Value} (h : w.ownsRow B E sz v n xs) {g : Nat} (hg : v.ownBlock = some g) : ∃ cs, w.heap[g]? = some (.cells cs E) := by
  rcases h.2 with ⟨rfl, -⟩ | ⟨g', cap, cur, rfl, hb, hc, -⟩
  · cases hg
  · cases hg
    exact ⟨_, hc⟩
theorem row_keepK {B E sz n : Nat} {w w' : World} {v : Value} {xs : List Value} (h : w.ownsRow B E sz v n xs) (hb : ∀ g, v.ownBlock = some g → w'.heap[g]? = w.heap[g]?) : w'.ownsRow B E sz v n xs := by
  refine ⟨h.1, ?_⟩
  rcases h.2 with hn | ⟨g, cap, cur, hv, hB, hg, rest⟩
  · exact .inl hn
  · exact .inr ⟨g, cap, cur, hv, hB, (hb g (by rw [hv]; rfl)).trans hg, rest⟩
theorem per_ok (e : Int) {t : Int} (ht : OkI t) : OkI (t / max e 1) := by
  have h1 : 1 ≤ max e 1 := by omega
  have h2 := tdiv_in ht h1
  rw [perF_tdiv _ t h1]
  split
  · rename_i h
    exact h2.2 h
  · exact h2.1
/-- The reference's relay, all its questions small enough. -/
structure RT (B : Nat) (w : World) (p : Nat) (v : Value) (r : Rl) : Prop where
  rm : RM B w p v r
  txt : ∀ x ∈ r.l, OkQ x.1
theorem RT.ext {B : Nat} {w w' : World} {p : Nat} {v : Value} {r : Rl} (h : RT B w p v r) (x : Ext w w') : RT B w' p v r := ⟨h.rm.ext x, h.txt⟩
theorem qcs_len (x : Qn × Int) : (qcs x).length = 3 ∧ ∀ c ∈ qcs x, c.oneCell' = true := ⟨rfl, by simp [qcs, Value.oneCell']⟩
theorem RM.sr {B : Nat} {w : World} {p : Nat} {v : Value} {r : Rl} (h : RM B w p v r) : SR qcs 3 w v r.l := SR.of_row (fun x => (qcs_len x).1) h.list (by have := h.ok.len; omega)
theorem rq_at {w : World} {base : Option Addr} {n c : Nat} {l : List (Qn × Int)} (h : SR qcs 3 w (.slice base n c) l) (k : Nat) (hk : k < l.length) :
    ∃ b, base = some ⟨b, 0, none⟩ ∧ b < w.heap.size ∧ w.cell? ⟨b, k * 3, none⟩ = some (.int .i64 l[k].1.who) ∧ w.cell? ⟨b, k * 3 + 1, none⟩ = some (.int .i64 l[k].2) ∧ w.cell? ⟨b, k * 3 + 2, none⟩ = some (.string l[k].1.text) := by
  obtain ⟨b, h1, h2, h3⟩ := h.block k hk
  have h4 := h3 k hk 0 _ rfl
  exact ⟨b, h1, World.block_lt_of_cell? w _ h4, h4, h3 k hk 1 _ rfl, h3 k hk 2 _ rfl⟩
set_option maxRecDepth 100000 in
set_option maxHeartbeats 4000000 in
theorem rask_bad (p : Nat) (who t : Int) (text : ByteArray) (w : World) (hq : text.size = 0 ∨ 4000 < text.size) :
    Calls Try.prog 21 #[.pointer (some ⟨p, 0, none⟩), .int .i64 who, .int .i64 t, .string text] w fun e w' => e = .returned (.int .i64 1) ∧ w' = w := by
  by_cases h0 : text.size = 0
  · obtain rfl := txt_empty h0
    clear h0 hq
    go_enter Try.func21, Try.ntmps21
    go_wp2
    go_ret
    exact ⟨rfl, rfl⟩
  · have hq := hq.resolve_left h0
    have h4 : (4000 : Int) < text.size := by omega
    have h5 : ¬ text = ByteArray.empty := fun e => h0 (by rw [e]; rfl)
    go_enter Try.func21, Try.ntmps21
    go_wp2
    go_ret
    exact ⟨rfl, rfl⟩
set_option maxRecDepth 100000 in
set_option maxHeartbeats 4000000 in
theorem rask_closed {B : Nat} (p : Nat) (v : Value) (r : Rl) (who t : Int) (text : ByteArray) (w : World) (h : RT B w p v r) (hs : ¬ text.size = 0) (hs4 : text.size ≤ 4000) (hc : r.closed = true) :
    Calls Try.prog 21 #[.pointer (some ⟨p, 0, none⟩), .int .i64 who, .int .i64 t, .string text] w fun e w' => e = .returned (.int .i64 31) ∧ w' = w := by
  have h4 : ¬ (4000 : Int) < text.size := by omega
  have h5 : ¬ text = ByteArray.empty := fun e => hs (by rw [e]; rfl)
  have h6 : ((text.size : Int) == 0) = false := by simpa using h5
  obtain ⟨-, -, -, -, -, c5, hpl⟩ := h.rm.cells
  rw [hc] at c5
  clear hc h hs hs4
  go_enter Try.func21, Try.ntmps21
  go_wp2
  go_ret
  exact ⟨rfl, rfl⟩
set_option maxRecDepth 100000 in
set_option maxHeartbeats 4000000 in
theorem rask_old {B : Nat} (p : Nat) (v : Value) (r : Rl) (who t : Int) (text : ByteArray) (w : World) (h : RT B w p v r) (hs : ¬ text.size = 0) (hs4 : text.size ≤ 4000) (hc : r.closed = false) (ho : r.timed = true ∧ t < r.last) :
    Calls Try.prog 21 #[.pointer (some ⟨p, 0, none⟩), .int .i64 who, .int .i64 t, .string text] w fun e w' => e = .returned (.int .i64 32) ∧ w' = w := by
  have h4 : ¬ (4000 : Int) < text.size := by omega
  have h5 : ¬ text = ByteArray.empty := fun e => hs (by rw [e]; rfl)
  have h6 : ((text.size : Int) == 0) = false := by simpa using h5
  obtain ⟨-, -, -, c3, c4, c5, hpl⟩ := h.rm.cells
  obtain ⟨ho1, ho2⟩ := ho
  rw [hc] at c5
  rw [ho1] at c4
  generalize r.last = la at *
  clear hc h hs hs4 ho1
  go_enter Try.func21, Try.ntmps21
  go_wp2
  go_ret
  exact ⟨rfl, rfl⟩
set_option maxRecDepth 100000 in
set_option maxHeartbeats 4000000 in
theorem rask_loop {B : Nat} (p : Nat) (v : Value) (r : Rl) (q : Qn) (t : Int) (w : World) (h : RT B w p v r) (hB : B ≤ w.heap.size) (hs : ¬ q.text.size = 0) (hq : OkQ q) (ht : OkI t) (hc : r.closed = false) (ho : ¬ (r.timed = true ∧ t < r.last)) :
    Calls Try.prog 21 #[.pointer (some ⟨p, 0, none⟩), .int .i64 q.who, .int .i64 t, .string q.text] w fun e w' => e = .returned (.int .i64 (askE r q t)) ∧ ∃ v', RT B w' p v' (askR r q t) ∧ KW p v.ownBlock w w' := by
  have HE : Hid (askE r q t = if q ∈ r.l.map (·.1) then 33 else if 1000 ≤ r.l.length then 2 else 0) := Lib.hid (by
    unfold askE
    rw [if_neg (by have := hq.2; omega), if_neg (by rw [hc]; decide), if_neg ho])
  have hs4 := hq.2
  have HQ := Lib.hid hq
  have h4 : ¬ (4000 : Int) < q.text.size := by omega
  have h5 : ¬ q.text = ByteArray.empty := fun e => hs (by rw [e]; rfl)
  have h6 : ((q.text.size : Int) == 0) = false := by simpa using h5
  obtain ⟨c0, c1, c2, c3, c4, c5, hpl⟩ := h.rm.cells
  rw [hc] at c5
  have hlen := h.rm.ok.len
  have HSR := Lib.hid h.rm.sr
  obtain ⟨base, cap, rfl⟩ := h.rm.sr.form
  have HH := Lib.hid h; have HT := Lib.hid ht; have HO := Lib.hid ho; have HC := Lib.hid hc
  obtain ⟨who, text⟩ := q
  simp only at *
  obtain ⟨la, hla⟩ : ∃ la, la = r.last := ⟨_, rfl⟩
  rw [← hla] at c3
  have hod : (r.timed && decide (t < la)) = false := by
    rw [hla]
    cases htt : r.timed
    · rfl
    · simp only [Bool.true_and, decide_eq_false_iff_not]; exact fun h => ho ⟨htt, h⟩
  generalize r.timed = tm at c4 hod
  have HM : Hid (max r.every 1 ≤ 9223372036854775807 ∧ 1 ≤ max r.every 1) := Lib.hid ⟨by have := h.rm.ok.every.2; omega, by omega⟩
  clear h ht ho hc hs hs4 hq hla
  go_enter Try.func21, Try.ntmps21
  cases tm with
  | true =>
    have hlt : ¬ t < la := by simpa using hod
    go_upto_region 7 with (fail)
    clear hod
    go_wp2_with (fail)
    go_loopw [9] (fun k wr => ∃ i : Nat, k = .int .i64 i ∧ i ≤ r.l.length ∧ Hid (∀ j (_ : j < i) (hl : j < r.l.length), r.l[j].1 ≠ ⟨who, text⟩) ∧ w = wr) (fun k _ => r.l.length - (iof k).toNat)
    case atStart => exact ⟨0, rfl, Nat.zero_le _, Lib.hid (fun j hj => by omega), rfl⟩
    case round =>
      obtain ⟨i, rfl, hi, HN, rfl⟩ := hrel
      by_cases hil : i < r.l.length
      · obtain ⟨g, rfl, hgl, d0, -, d2⟩ := rq_at HSR.out i hil
        have HNX : Hid ((¬ r.l[i].1 = ⟨who, text⟩) → ∀ j (_ : j < i + 1) (hl : j < r.l.length), r.l[j].1 ≠ ⟨who, text⟩) := Lib.hid (fun hne j hj hl => by
          rcases Nat.lt_or_ge j i with h | h
          · exact HN.out j h hl
          · obtain rfl : j = i := by omega
            exact hne)
        have HMM : Hid (r.l[i].1 = ⟨who, text⟩ → (⟨who, text⟩ : Qn) ∈ r.l.map (·.1)) := Lib.hid (fun e => e ▸ List.mem_map.2 ⟨r.l[i], List.getElem_mem _, rfl⟩)
        obtain ⟨x, hx⟩ : ∃ x, x = r.l[i].1 := ⟨_, rfl⟩
        rw [← hx] at d0 d2 HNX HMM
        clear hx
        obtain ⟨xw, xt⟩ := x
        simp only at d0 d2
        clear HN
        by_cases hw : xw = who
        · subst hw
          cases htt : (xt.toList == text.toList) with
          | true =>
            have he : xt = text := by
              have h1 := eq_of_beq htt
              rw [ByteArray.toList_eq, ByteArray.toList_eq] at h1
              exact Go.WideShapes.bytes_inj h1
            have HV : Hid (askE r ⟨xw, text⟩ t = 33) := Lib.hid (by rw [HE.out, if_pos (HMM.out (by rw [he]))])
            clear he
            go_wp2_with (fail)
            go_ret
            exact ⟨by rw [HV.out]; rfl, _, by unfold askR; rw [if_neg (by rw [HV.out]; decide)]; exact HH.out, KW.refl _ _ _⟩
          | false =>
            have hne : ¬ ((⟨xw, xt⟩ : Qn) = ⟨xw, text⟩) := by
              intro e
              injection e with _ e2
              subst e2
              simp at htt
            have HN2 := Lib.hid (HNX.out hne)
            clear hne
            go_wp2_with (fail)
            exact ⟨⟨i + 1, by simp, by omega, HN2, by simp⟩, by simp [iof]; omega⟩
        · have hne : ¬ ((⟨xw, xt⟩ : Qn) = ⟨who, text⟩) := by
            intro e
            injection e with e1 e2
            exact hw e1
          have HN2 := Lib.hid (HNX.out hne)
          clear hne
          go_wp2_with (fail)
          exact ⟨⟨i + 1, by simp, by omega, HN2, by simp⟩, by simp [iof]; omega⟩
      · obtain rfl : i = r.l.length := by omega
        have HNM : Hid (¬ (⟨who, text⟩ : Qn) ∈ r.l.map (·.1)) := Lib.hid (fun hm => by
          obtain ⟨x, hx, he⟩ := List.mem_map.1 hm
          obtain ⟨j, hj, rfl⟩ := List.mem_iff_getElem.1 hx
          exact HN.out j hj hj he)
        clear HN
        by_cases hmany : 1000 ≤ r.l.length
        · have HV : Hid (askE r ⟨who, text⟩ t = 2) := Lib.hid (by rw [HE.out, if_neg HNM.out, if_pos hmany])
          have hm2 : (1000 : Int) ≤ r.l.length := by omega
          go_wp2_with (fail)
          go_ret
          exact ⟨by rw [HV.out]; rfl, _, by unfold askR; rw [if_neg (by rw [HV.out]; decide)]; exact HH.out, KW.refl _ _ _⟩
        · have HV : Hid (askE r ⟨who, text⟩ t = 0) := Lib.hid (by rw [HE.out, if_neg HNM.out, if_neg hmany])
          have hm2 : ¬ (1000 : Int) ≤ r.l.length := by omega
          have f2 : w.frozen? ⟨p, 2, none⟩ = false := (Rg.cells_of HH.out.rm.row).2.1 _
          have f3 : w.frozen? ⟨p, 3, none⟩ = false := (Rg.cells_of HH.out.rm.row).2.1 _
          have f4 : w.frozen? ⟨p, 4, none⟩ = false := (Rg.cells_of HH.out.rm.row).2.1 _
          go_upto_region 16 with (fail)
          have hV : ((w.setCell ⟨p, 3, none⟩ (.int .i64 t)).setCell ⟨p, 4, none⟩ (.bool true)).heap[p]? = some (.cells (({ r with last := t, timed := true } : Rl).rcells (.slice base r.l.length cap)) 60) := by
            have h1 := heap_setCell_row (o := 3) (.int .i64 t) HH.out.rm.row
            exact heap_setCell_row (o := 4) (.bool true) h1
          have hVK : KW p (Value.slice base r.l.length cap).ownBlock w ((w.setCell ⟨p, 3, none⟩ (.int .i64 t)).setCell ⟨p, 4, none⟩ (.bool true)) := ((KW.refl _ _ _).setCell _).setCell _
          have hVL : ((w.setCell ⟨p, 3, none⟩ (.int .i64 t)).setCell ⟨p, 4, none⟩ (.bool true)).ownsRow B 68 3 (.slice base r.l.length cap) r.l.length (r.l.flatMap qcs) := row_keepK HH.out.rm.list fun g hg => by
            have hgp : g ≠ p := by
              rintro rfl
              obtain ⟨cs, h1⟩ := row_block HH.out.rm.list hg
              rw [HH.out.rm.row] at h1
              cases h1
            rw [heap_setCell_other _ hgp, heap_setCell_other _ hgp]
          generalize ((w.setCell ⟨p, 3, none⟩ (.int .i64 t)).setCell ⟨p, 4, none⟩ (.bool true)) = V at *
          have e1 : V.cell? ⟨p, 1, none⟩ = some (.int .i64 (max r.every 1)) := cell_of_row V p 1 _ _ _ hV
          have e2 : V.cell? ⟨p, 2, none⟩ = some (.slice base r.l.length cap) := cell_of_row V p 2 _ _ _ hV
          have hpv := Rg.lt_of_heap hV
          have HV1 := Lib.hid hV; have HV2 := Lib.hid hVK; have HV3 := Lib.hid hVL
          obtain ⟨me, hme⟩ : ∃ me, me = max r.every 1 := ⟨_, rfl⟩
          rw [← hme] at HM e1
          have HME := Lib.hid hme
          have HPE : Hid (∀ wz, Calls Try.prog 31 #[.int .i64 t, .int .i64 me] wz fun e w' => e = .returned (.int .i64 (t / me)) ∧ Ext wz w') := Lib.hid (fun wz => (rperiod_any t me wz HM.out.2 HM.out.1 HT.out).mono fun _ _ ⟨h1, h2⟩ => ⟨h1, h2 ▸ Ext.refl _⟩)
          obtain ⟨per, hper⟩ : ∃ per, per = t / me := ⟨_, rfl⟩
          rw [← hper] at HPE
          have HPER := Lib.hid hper
          clear hper hme hV hVK hVL c0 c1 c2 c3 c4 c5 hpl f2 f3 f4 HM
          refine Rp.wp_regionTE [0] [(0, .y), (1, .y), (2, .y), (3, .y), (4, .y), (5, .y), (6, .y), (7, .y), (8, .y), (9, .y), (10, .y), (11, .y), (12, .y), (13, .y), (14, .m)] [15, 16, 17, 18] (fun _ => (.cells #[.int .i64 who, .int .i64 per, .string text] 68, fun p => .slice (some ⟨p, 0, none⟩) 1 1)) (fun c a d v w h => by have h' : _ ∧ _ := h; exact ⟨(Rr.put_defers a d v).symm.trans h'.1, h'.2⟩) (by kernel_rfl) (by kernel_rfl) ?_
          (refine Rr.wr_y (by simp only [List.getElem?_toArray, List.getElem?_cons_succ, List.getElem?_cons_zero]; rfl) (by rfl) ?_
           apply Exists.intro
           refine ⟨fun wz hw _ => ?_, ?_⟩
           · have hcz := hw.cells.1
             go_simp
             (with_reducible exact Rg.up_value)
           simp only [Act.put, List.setIfInBounds_toArray, List.set_cons_zero, List.set_cons_succ])
          (refine Rr.wr_y (by simp only [List.getElem?_toArray, List.getElem?_cons_succ, List.getElem?_cons_zero]; rfl) (by rfl) ?_
           apply Exists.intro
           refine ⟨fun wz hw _ => ?_, ?_⟩
           · have hcz := hw.cells.1
             go_simp
             (with_reducible exact Rg.up_value)
           simp only [Act.put, List.setIfInBounds_toArray, List.set_cons_zero, List.set_cons_succ])
          (refine Rr.wr_y (by simp only [List.getElem?_toArray, List.getElem?_cons_succ, List.getElem?_cons_zero]; rfl) (by rfl) ?_
           apply Exists.intro
           refine ⟨fun wz hw _ => ?_, ?_⟩
           · have hcz := hw.cells.1
             go_simp
             (with_reducible exact Rg.up_value)
           simp only [Act.put, List.setIfInBounds_toArray, List.set_cons_zero, List.set_cons_succ])
          (refine Rr.wr_y (by simp only [List.getElem?_toArray, List.getElem?_cons_succ, List.getElem?_cons_zero]; rfl) (by rfl) ?_
           apply Exists.intro
           refine ⟨fun wz hw _ => ?_, ?_⟩
           · have hcz := hw.cells.1
             go_simp
             (with_reducible exact Rg.up_value)
           simp only [Act.put, List.setIfInBounds_toArray, List.set_cons_zero, List.set_cons_succ])
          (refine Rr.wr_y (by simp only [List.getElem?_toArray, List.getElem?_cons_succ, List.getElem?_cons_zero]; rfl) (by rfl) ?_
           apply Exists.intro
           refine ⟨fun wz hw _ => ?_, ?_⟩
           · have hcz := hw.cells.1
             go_simp
             (with_reducible exact Rg.up_value)
           simp only [Act.put, List.setIfInBounds_toArray, List.set_cons_zero, List.set_cons_succ])
          (refine Rr.wr_y (by simp only [List.getElem?_toArray, List.getElem?_cons_succ, List.getElem?_cons_zero]; rfl) (by rfl) ?_
           apply Exists.intro
           refine ⟨fun wz hw _ => ?_, ?_⟩
           · have hcz := hw.cells.1
             go_simp
             (with_reducible exact Rg.up_value)
           simp only [Act.put, List.setIfInBounds_toArray, List.set_cons_zero, List.set_cons_succ])
          (refine Rr.wr_y (by simp only [List.getElem?_toArray, List.getElem?_cons_succ, List.getElem?_cons_zero]; rfl) (by rfl) ?_
           apply Exists.intro
           refine ⟨fun wz hw _ => ?_, ?_⟩
           · have hcz := hw.cells.1
             go_simp
             (with_reducible exact Rg.up_value)
           simp only [Act.put, List.setIfInBounds_toArray, List.set_cons_zero, List.set_cons_succ])
          (refine Rr.wr_y (by simp only [List.getElem?_toArray, List.getElem?_cons_succ, List.getElem?_cons_zero]; rfl) (by rfl) ?_
           apply Exists.intro
           refine ⟨fun wz hw _ => ?_, ?_⟩
           · have hcz := hw.cells.1
             go_simp
             (with_reducible exact Rg.up_value)
           simp only [Act.put, List.setIfInBounds_toArray, List.set_cons_zero, List.set_cons_succ])
          (refine Rr.wr_y (by simp only [List.getElem?_toArray, List.getElem?_cons_succ, List.getElem?_cons_zero]; rfl) (by rfl) ?_
           apply Exists.intro
           refine ⟨fun wz hw _ => ?_, ?_⟩
           · have hcz := hw.cells.1
             go_simp
             (with_reducible exact Rg.up_value)
           simp only [Act.put, List.setIfInBounds_toArray, List.set_cons_zero, List.set_cons_succ])
          (refine Rr.wr_y (by simp only [List.getElem?_toArray, List.getElem?_cons_succ, List.getElem?_cons_zero]; rfl) (by rfl) ?_
           apply Exists.intro
           refine ⟨fun wz hw _ => ?_, ?_⟩
           · have hcz := hw.cells.1
             go_simp
             (with_reducible exact Rg.up_value)
           simp only [Act.put, List.setIfInBounds_toArray, List.set_cons_zero, List.set_cons_succ])
          (refine Rr.wr_y (by simp only [List.getElem?_toArray, List.getElem?_cons_succ, List.getElem?_cons_zero]; rfl) (by rfl) ?_
           apply Exists.intro
           refine ⟨fun wz hw _ => ?_, ?_⟩
           · have hcz := hw.cells.1
             go_simp
             (with_reducible exact Rg.up_value)
           simp only [Act.put, List.setIfInBounds_toArray, List.set_cons_zero, List.set_cons_succ])
          (refine Rr.wr_y (by simp only [List.getElem?_toArray, List.getElem?_cons_succ, List.getElem?_cons_zero]; rfl) (by rfl) ?_
           apply Exists.intro
           refine ⟨fun wz hw _ => ?_, ?_⟩
           · have hcz := hw.cells.1
             go_simp
             apply Rg.up_enter
             (with_reducible refine (HPE.out _).mono ?_)
             rintro e w3 ⟨rfl, hb3⟩
             exact ⟨rfl, hb3⟩
           simp only [Act.put, List.setIfInBounds_toArray, List.set_cons_zero, List.set_cons_succ])
          (refine Rr.wr_y (by simp only [List.getElem?_toArray, List.getElem?_cons_succ, List.getElem?_cons_zero]; rfl) (by rfl) ?_
           apply Exists.intro
           refine ⟨fun wz hw _ => ?_, ?_⟩
           · have hcz := hw.cells.1
             go_simp
             (with_reducible exact Rg.up_value)
           simp only [Act.put, List.setIfInBounds_toArray, List.set_cons_zero, List.set_cons_succ])
          (refine Rr.wr_y (by simp only [List.getElem?_toArray, List.getElem?_cons_succ, List.getElem?_cons_zero]; rfl) (by rfl) ?_
           apply Exists.intro
           refine ⟨fun wz hw _ => ?_, ?_⟩
           · have hcz := hw.cells.1
             go_simp
             (with_reducible exact Rg.up_value)
           simp only [Act.put, List.setIfInBounds_toArray, List.set_cons_zero, List.set_cons_succ])
          refine Rr.wr_m (by simp only [List.getElem?_toArray, List.getElem?_cons_succ, List.getElem?_cons_zero]; rfl) (by rfl) (fun wz => by go_simp) (fun pn hpn => ?_)
          simp only [Act.put, List.setIfInBounds_toArray, List.set_cons_zero, List.set_cons_succ]
          refine Rr.wr_nil ?_
          intro wy hy hh
          obtain ⟨hb1, hb2⟩ := hh _ List.mem_cons_self
          simp only [List.filterMap_cons, List.filterMap_nil, List.getElem?_cons_succ, List.getElem?_cons_zero]
          refine append_g (cs := qcs) (z := .agg #[.int .i64 0, .int .i64 0, .string ⟨#[]⟩]) 58 68 32 Try.underlying58 (by kernel_rfl) (by rfl) (by decide) (by decide) rfl (.tmp 82) (.tmp 92) rfl B (.slice base r.l.length cap) r.l (by rfl) (row_ext HV3.out hy) pn (⟨who, text⟩, per) (qcs_len _) (by rfl) hb2 (by omega) (by have := HV2.out.size; have := hy.size; omega) ?_
          intro g9 cap9 w9 hr9 hg9 hat
          have hpo : some p ≠ (Value.slice base r.l.length cap).ownBlock := fun e => by
            obtain ⟨cs, hc⟩ := row_block HV3.out e.symm
            rw [HV1.out] at hc
            cases hc
          have b9 : w9.heap[p]? = some (.cells (({ r with last := t, timed := true } : Rl).rcells (.slice base r.l.length cap)) 60) := (hg9.block p (Nat.lt_of_lt_of_le hpv hy.size) hpo).trans ((hy.block p hpv).trans HV1.out)
          have q9 := cell_of_row w9 p 2 _ _ _ b9
          have f9 : w9.frozen? ⟨p, 2, none⟩ = false := (Rg.cells_of b9).2.1 _
          have p9 := Rg.lt_of_heap b9
          have HB9 := Lib.hid b9; have HR9 := Lib.hid hr9
          have HK9 : Hid (KW p (Value.slice base r.l.length cap).ownBlock w w9) := Lib.hid (HV2.out.trans ((KW.of_ext hy).trans ⟨hg9.os, hg9.tape, hg9.output, hg9.size, fun k hk _ hn => hg9.block k hk hn⟩))
          clear hr9 hg9 hat b9 hh hb1 hb2 hy e1 e2 hpo
          simp only [Act.put, List.setIfInBounds_toArray, List.set_cons_zero, List.set_cons_succ]
          go_wp2_with (fail)
          go_ret
          have hgp : g9 ≠ p := by
            rintro rfl
            obtain ⟨cs, h1⟩ := row_block HR9.out (g := g9) rfl
            rw [HB9.out] at h1
            cases h1
          have hAR : askR r ⟨who, text⟩ t = { r with last := t, timed := true, l := r.l ++ [(⟨who, text⟩, per)] } := by
            unfold askR
            rw [if_pos HV.out, HPER.out, HME.out]
            rfl
          refine ⟨by rw [HV.out]; rfl, .slice (some ⟨g9, 0, none⟩) (r.l.length + 1) cap9, ?_, HK9.out.setCell _⟩
          rw [hAR]
          refine ⟨⟨HH.out.rm.at_, heap_setCell_row (o := 2) _ HB9.out, ?_, ⟨HH.out.rm.ok.least, HH.out.rm.ok.every, HT.out, ?_, ?_⟩⟩, ?_⟩
          · exact row_keepK HR9.out fun g hg => heap_setCell_other _ (by
              rintro rfl
              obtain ⟨cs, h1⟩ := row_block HR9.out hg
              rw [HB9.out] at h1
              cases h1)
          · intro x hx
            rcases List.mem_append.1 hx with hx | hx
            · exact HH.out.rm.ok.per x hx
            · rw [List.mem_singleton.1 hx]
              show OkI per
              have := per_ok r.every HT.out
              rw [HPER.out, HME.out]
              exact this
          · show (r.l ++ [_]).length ≤ 1000
            simp
            omega
          · intro x hx
            rcases List.mem_append.1 hx with hx | hx
            · exact HH.out.txt x hx
            · rw [List.mem_singleton.1 hx]
              exact HQ.out
  | false =>
    go_upto_region 7 with (fail)
    clear hod
    go_wp2_with (fail)
    go_loopw [9] (fun k wr => ∃ i : Nat, k = .int .i64 i ∧ i ≤ r.l.length ∧ Hid (∀ j (_ : j < i) (hl : j < r.l.length), r.l[j].1 ≠ ⟨who, text⟩) ∧ w = wr) (fun k _ => r.l.length - (iof k).toNat)
    case atStart => exact ⟨0, rfl, Nat.zero_le _, Lib.hid (fun j hj => by omega), rfl⟩
    case round =>
      obtain ⟨i, rfl, hi, HN, rfl⟩ := hrel
      by_cases hil : i < r.l.length
      · obtain ⟨g, rfl, hgl, d0, -, d2⟩ := rq_at HSR.out i hil
        have HNX : Hid ((¬ r.l[i].1 = ⟨who, text⟩) → ∀ j (_ : j < i + 1) (hl : j < r.l.length), r.l[j].1 ≠ ⟨who, text⟩) := Lib.hid (fun hne j hj hl => by
          rcases Nat.lt_or_ge j i with h | h
          · exact HN.out j h hl
          · obtain rfl : j = i := by omega
            exact hne)
        have HMM : Hid (r.l[i].1 = ⟨who, text⟩ → (⟨who, text⟩ : Qn) ∈ r.l.map (·.1)) := Lib.hid (fun e => e ▸ List.mem_map.2 ⟨r.l[i], List.getElem_mem _, rfl⟩)
        obtain ⟨x, hx⟩ : ∃ x, x = r.l[i].1 := ⟨_, rfl⟩
        rw [← hx] at d0 d2 HNX HMM
        clear hx
        obtain ⟨xw, xt⟩ := x
        simp only at d0 d2
        clear HN
        by_cases hw : xw = who
        · subst hw
          cases htt : (xt.toList == text.toList) with
          | true =>
            have he : xt = text := by
              have h1 := eq_of_beq htt
              rw [ByteArray.toList_eq, ByteArray.toList_eq] at h1
              exact Go.WideShapes.bytes_inj h1
            have HV : Hid (askE r ⟨xw, text⟩ t = 33) := Lib.hid (by rw [HE.out, if_pos (HMM.out (by rw [he]))])
            clear he
            go_wp2_with (fail)
            go_ret
            exact ⟨by rw [HV.out]; rfl, _, by unfold askR; rw [if_neg (by rw [HV.out]; decide)]; exact HH.out, KW.refl _ _ _⟩
          | false =>
            have hne : ¬ ((⟨xw, xt⟩ : Qn) = ⟨xw, text⟩) := by
              intro e
              injection e with _ e2
              subst e2
              simp at htt
            have HN2 := Lib.hid (HNX.out hne)
            clear hne
            go_wp2_with (fail)
            exact ⟨⟨i + 1, by simp, by omega, HN2, by simp⟩, by simp [iof]; omega⟩
        · have hne : ¬ ((⟨xw, xt⟩ : Qn) = ⟨who, text⟩) := by
            intro e
            injection e with e1 e2
            exact hw e1
          have HN2 := Lib.hid (HNX.out hne)
          clear hne
          go_wp2_with (fail)
          exact ⟨⟨i + 1, by simp, by omega, HN2, by simp⟩, by simp [iof]; omega⟩
      · obtain rfl : i = r.l.length := by omega
        have HNM : Hid (¬ (⟨who, text⟩ : Qn) ∈ r.l.map (·.1)) := Lib.hid (fun hm => by
          obtain ⟨x, hx, he⟩ := List.mem_map.1 hm
          obtain ⟨j, hj, rfl⟩ := List.mem_iff_getElem.1 hx
          exact HN.out j hj hj he)
        clear HN
        by_cases hmany : 1000 ≤ r.l.length
        · have HV : Hid (askE r ⟨who, text⟩ t = 2) := Lib.hid (by rw [HE.out, if_neg HNM.out, if_pos hmany])
          have hm2 : (1000 : Int) ≤ r.l.length := by omega
          go_wp2_with (fail)
          go_ret
          exact ⟨by rw [HV.out]; rfl, _, by unfold askR; rw [if_neg (by rw [HV.out]; decide)]; exact HH.out, KW.refl _ _ _⟩
        · have HV : Hid (askE r ⟨who, text⟩ t = 0) := Lib.hid (by rw [HE.out, if_neg HNM.out, if_neg hmany])
          have hm2 : ¬ (1000 : Int) ≤ r.l.length := by omega
          have f2 : w.frozen? ⟨p, 2, none⟩ = false := (Rg.cells_of HH.out.rm.row).2.1 _
          have f3 : w.frozen? ⟨p, 3, none⟩ = false := (Rg.cells_of HH.out.rm.row).2.1 _
          have f4 : w.frozen? ⟨p, 4, none⟩ = false := (Rg.cells_of HH.out.rm.row).2.1 _
          go_upto_region 16 with (fail)
          have hV : ((w.setCell ⟨p, 3, none⟩ (.int .i64 t)).setCell ⟨p, 4, none⟩ (.bool true)).heap[p]? = some (.cells (({ r with last := t, timed := true } : Rl).rcells (.slice base r.l.length cap)) 60) := by
            have h1 := heap_setCell_row (o := 3) (.int .i64 t) HH.out.rm.row
            exact heap_setCell_row (o := 4) (.bool true) h1
          have hVK : KW p (Value.slice base r.l.length cap).ownBlock w ((w.setCell ⟨p, 3, none⟩ (.int .i64 t)).setCell ⟨p, 4, none⟩ (.bool true)) := ((KW.refl _ _ _).setCell _).setCell _
          have hVL : ((w.setCell ⟨p, 3, none⟩ (.int .i64 t)).setCell ⟨p, 4, none⟩ (.bool true)).ownsRow B 68 3 (.slice base r.l.length cap) r.l.length (r.l.flatMap qcs) := row_keepK HH.out.rm.list fun g hg => by
            have hgp : g ≠ p := by
              rintro rfl
              obtain ⟨cs, h1⟩ := row_block HH.out.rm.list hg
              rw [HH.out.rm.row] at h1
              cases h1
            rw [heap_setCell_other _ hgp, heap_setCell_other _ hgp]
          generalize ((w.setCell ⟨p, 3, none⟩ (.int .i64 t)).setCell ⟨p, 4, none⟩ (.bool true)) = V at *
          have e1 : V.cell? ⟨p, 1, none⟩ = some (.int .i64 (max r.every 1)) := cell_of_row V p 1 _ _ _ hV
          have e2 : V.cell? ⟨p, 2, none⟩ = some (.slice base r.l.length cap) := cell_of_row V p 2 _ _ _ hV
          have hpv := Rg.lt_of_heap hV
          have HV1 := Lib.hid hV; have HV2 := Lib.hid hVK; have HV3 := Lib.hid hVL
          obtain ⟨me, hme⟩ : ∃ me, me = max r.every 1 := ⟨_, rfl⟩
          rw [← hme] at HM e1
          have HME := Lib.hid hme
          have HPE : Hid (∀ wz, Calls Try.prog 31 #[.int .i64 t, .int .i64 me] wz fun e w' => e = .returned (.int .i64 (t / me)) ∧ Ext wz w') := Lib.hid (fun wz => (rperiod_any t me wz HM.out.2 HM.out.1 HT.out).mono fun _ _ ⟨h1, h2⟩ => ⟨h1, h2 ▸ Ext.refl _⟩)
          obtain ⟨per, hper⟩ : ∃ per, per = t / me := ⟨_, rfl⟩
          rw [← hper] at HPE
          have HPER := Lib.hid hper
          clear hper hme hV hVK hVL c0 c1 c2 c3 c4 c5 hpl f2 f3 f4 HM
          refine Rp.wp_regionTE [0] [(0, .y), (1, .y), (2, .y), (3, .y), (4, .y), (5, .y), (6, .y), (7, .y), (8, .y), (9, .y), (10, .y), (11, .y), (12, .y), (13, .y), (14, .m)] [15, 16, 17, 18] (fun _ => (.cells #[.int .i64 who, .int .i64 per, .string text] 68, fun p => .slice (some ⟨p, 0, none⟩) 1 1)) (fun c a d v w h => by have h' : _ ∧ _ := h; exact ⟨(Rr.put_defers a d v).symm.trans h'.1, h'.2⟩) (by kernel_rfl) (by kernel_rfl) ?_
          (refine Rr.wr_y (by simp only [List.getElem?_toArray, List.getElem?_cons_succ, List.getElem?_cons_zero]; rfl) (by rfl) ?_
           apply Exists.intro
           refine ⟨fun wz hw _ => ?_, ?_⟩
           · have hcz := hw.cells.1
             go_simp
             (with_reducible exact Rg.up_value)
           simp only [Act.put, List.setIfInBounds_toArray, List.set_cons_zero, List.set_cons_succ])
          (refine Rr.wr_y (by simp only [List.getElem?_toArray, List.getElem?_cons_succ, List.getElem?_cons_zero]; rfl) (by rfl) ?_
           apply Exists.intro
           refine ⟨fun wz hw _ => ?_, ?_⟩
           · have hcz := hw.cells.1
             go_simp
             (with_reducible exact Rg.up_value)
           simp only [Act.put, List.setIfInBounds_toArray, List.set_cons_zero, List.set_cons_succ])
          (refine Rr.wr_y (by simp only [List.getElem?_toArray, List.getElem?_cons_succ, List.getElem?_cons_zero]; rfl) (by rfl) ?_
           apply Exists.intro
           refine ⟨fun wz hw _ => ?_, ?_⟩
           · have hcz := hw.cells.1
             go_simp
             (with_reducible exact Rg.up_value)
           simp only [Act.put, List.setIfInBounds_toArray, List.set_cons_zero, List.set_cons_succ])
          (refine Rr.wr_y (by simp only [List.getElem?_toArray, List.getElem?_cons_succ, List.getElem?_cons_zero]; rfl) (by rfl) ?_
           apply Exists.intro
           refine ⟨fun wz hw _ => ?_, ?_⟩
           · have hcz := hw.cells.1
             go_simp
             (with_reducible exact Rg.up_value)
           simp only [Act.put, List.setIfInBounds_toArray, List.set_cons_zero, List.set_cons_succ])
          (refine Rr.wr_y (by simp only [List.getElem?_toArray, List.getElem?_cons_succ, List.getElem?_cons_zero]; rfl) (by rfl) ?_
           apply Exists.intro
           refine ⟨fun wz hw _ => ?_, ?_⟩
           · have hcz := hw.cells.1
             go_simp
             (with_reducible exact Rg.up_value)
           simp only [Act.put, List.setIfInBounds_toArray, List.set_cons_zero, List.set_cons_succ])
          (refine Rr.wr_y (by simp only [List.getElem?_toArray, List.getElem?_cons_succ, List.getElem?_cons_zero]; rfl) (by rfl) ?_
           apply Exists.intro
           refine ⟨fun wz hw _ => ?_, ?_⟩
           · have hcz := hw.cells.1
             go_simp
             (with_reducible exact Rg.up_value)
           simp only [Act.put, List.setIfInBounds_toArray, List.set_cons_zero, List.set_cons_succ])
          (refine Rr.wr_y (by simp only [List.getElem?_toArray, List.getElem?_cons_succ, List.getElem?_cons_zero]; rfl) (by rfl) ?_
           apply Exists.intro
           refine ⟨fun wz hw _ => ?_, ?_⟩
           · have hcz := hw.cells.1
             go_simp
             (with_reducible exact Rg.up_value)
           simp only [Act.put, List.setIfInBounds_toArray, List.set_cons_zero, List.set_cons_succ])
          (refine Rr.wr_y (by simp only [List.getElem?_toArray, List.getElem?_cons_succ, List.getElem?_cons_zero]; rfl) (by rfl) ?_
           apply Exists.intro
           refine ⟨fun wz hw _ => ?_, ?_⟩
           · have hcz := hw.cells.1
             go_simp
             (with_reducible exact Rg.up_value)
           simp only [Act.put, List.setIfInBounds_toArray, List.set_cons_zero, List.set_cons_succ])
          (refine Rr.wr_y (by simp only [List.getElem?_toArray, List.getElem?_cons_succ, List.getElem?_cons_zero]; rfl) (by rfl) ?_
           apply Exists.intro
           refine ⟨fun wz hw _ => ?_, ?_⟩
           · have hcz := hw.cells.1
             go_simp
             (with_reducible exact Rg.up_value)
           simp only [Act.put, List.setIfInBounds_toArray, List.set_cons_zero, List.set_cons_succ])
          (refine Rr.wr_y (by simp only [List.getElem?_toArray, List.getElem?_cons_succ, List.getElem?_cons_zero]; rfl) (by rfl) ?_
           apply Exists.intro
           refine ⟨fun wz hw _ => ?_, ?_⟩
           · have hcz := hw.cells.1
             go_simp
             (with_reducible exact Rg.up_value)
           simp only [Act.put, List.setIfInBounds_toArray, List.set_cons_zero, List.set_cons_succ])
          (refine Rr.wr_y (by simp only [List.getElem?_toArray, List.getElem?_cons_succ, List.getElem?_cons_zero]; rfl) (by rfl) ?_
           apply Exists.intro
           refine ⟨fun wz hw _ => ?_, ?_⟩
           · have hcz := hw.cells.1
             go_simp
             (with_reducible exact Rg.up_value)
           simp only [Act.put, List.setIfInBounds_toArray, List.set_cons_zero, List.set_cons_succ])
          (refine Rr.wr_y (by simp only [List.getElem?_toArray, List.getElem?_cons_succ, List.getElem?_cons_zero]; rfl) (by rfl) ?_
           apply Exists.intro
           refine ⟨fun wz hw _ => ?_, ?_⟩
           · have hcz := hw.cells.1
             go_simp
             apply Rg.up_enter
             (with_reducible refine (HPE.out _).mono ?_)
             rintro e w3 ⟨rfl, hb3⟩
             exact ⟨rfl, hb3⟩
           simp only [Act.put, List.setIfInBounds_toArray, List.set_cons_zero, List.set_cons_succ])
          (refine Rr.wr_y (by simp only [List.getElem?_toArray, List.getElem?_cons_succ, List.getElem?_cons_zero]; rfl) (by rfl) ?_
           apply Exists.intro
           refine ⟨fun wz hw _ => ?_, ?_⟩
           · have hcz := hw.cells.1
             go_simp
             (with_reducible exact Rg.up_value)
           simp only [Act.put, List.setIfInBounds_toArray, List.set_cons_zero, List.set_cons_succ])
          (refine Rr.wr_y (by simp only [List.getElem?_toArray, List.getElem?_cons_succ, List.getElem?_cons_zero]; rfl) (by rfl) ?_
           apply Exists.intro
           refine ⟨fun wz hw _ => ?_, ?_⟩
           · have hcz := hw.cells.1
             go_simp
             (with_reducible exact Rg.up_value)
           simp only [Act.put, List.setIfInBounds_toArray, List.set_cons_zero, List.set_cons_succ])
          refine Rr.wr_m (by simp only [List.getElem?_toArray, List.getElem?_cons_succ, List.getElem?_cons_zero]; rfl) (by rfl) (fun wz => by go_simp) (fun pn hpn => ?_)
          simp only [Act.put, List.setIfInBounds_toArray, List.set_cons_zero, List.set_cons_succ]
          refine Rr.wr_nil ?_
          intro wy hy hh
          obtain ⟨hb1, hb2⟩ := hh _ List.mem_cons_self
          simp only [List.filterMap_cons, List.filterMap_nil, List.getElem?_cons_succ, List.getElem?_cons_zero]
          refine append_g (cs := qcs) (z := .agg #[.int .i64 0, .int .i64 0, .string ⟨#[]⟩]) 58 68 32 Try.underlying58 (by kernel_rfl) (by rfl) (by decide) (by decide) rfl (.tmp 82) (.tmp 92) rfl B (.slice base r.l.length cap) r.l (by rfl) (row_ext HV3.out hy) pn (⟨who, text⟩, per) (qcs_len _) (by rfl) hb2 (by omega) (by have := HV2.out.size; have := hy.size; omega) ?_
          intro g9 cap9 w9 hr9 hg9 hat
          have hpo : some p ≠ (Value.slice base r.l.length cap).ownBlock := fun e => by
            obtain ⟨cs, hc⟩ := row_block HV3.out e.symm
            rw [HV1.out] at hc
            cases hc
          have b9 : w9.heap[p]? = some (.cells (({ r with last := t, timed := true } : Rl).rcells (.slice base r.l.length cap)) 60) := (hg9.block p (Nat.lt_of_lt_of_le hpv hy.size) hpo).trans ((hy.block p hpv).trans HV1.out)
          have q9 := cell_of_row w9 p 2 _ _ _ b9
          have f9 : w9.frozen? ⟨p, 2, none⟩ = false := (Rg.cells_of b9).2.1 _
          have p9 := Rg.lt_of_heap b9
          have HB9 := Lib.hid b9; have HR9 := Lib.hid hr9
          have HK9 : Hid (KW p (Value.slice base r.l.length cap).ownBlock w w9) := Lib.hid (HV2.out.trans ((KW.of_ext hy).trans ⟨hg9.os, hg9.tape, hg9.output, hg9.size, fun k hk _ hn => hg9.block k hk hn⟩))
          clear hr9 hg9 hat b9 hh hb1 hb2 hy e1 e2 hpo
          simp only [Act.put, List.setIfInBounds_toArray, List.set_cons_zero, List.set_cons_succ]
          go_wp2_with (fail)
          go_ret
          have hgp : g9 ≠ p := by
            rintro rfl
            obtain ⟨cs, h1⟩ := row_block HR9.out (g := g9) rfl
            rw [HB9.out] at h1
            cases h1
          have hAR : askR r ⟨who, text⟩ t = { r with last := t, timed := true, l := r.l ++ [(⟨who, text⟩, per)] } := by
            unfold askR
            rw [if_pos HV.out, HPER.out, HME.out]
            rfl
          refine ⟨by rw [HV.out]; rfl, .slice (some ⟨g9, 0, none⟩) (r.l.length + 1) cap9, ?_, HK9.out.setCell _⟩
          rw [hAR]
          refine ⟨⟨HH.out.rm.at_, heap_setCell_row (o := 2) _ HB9.out, ?_, ⟨HH.out.rm.ok.least, HH.out.rm.ok.every, HT.out, ?_, ?_⟩⟩, ?_⟩
          · exact row_keepK HR9.out fun g hg => heap_setCell_other _ (by
              rintro rfl
              obtain ⟨cs, h1⟩ := row_block HR9.out hg
              rw [HB9.out] at h1
              cases h1)
          · intro x hx
            rcases List.mem_append.1 hx with hx | hx
            · exact HH.out.rm.ok.per x hx
            · rw [List.mem_singleton.1 hx]
              show OkI per
              have := per_ok r.every HT.out
              rw [HPER.out, HME.out]
              exact this
          · show (r.l ++ [_]).length ≤ 1000
            simp
            omega
          · intro x hx
            rcases List.mem_append.1 hx with hx | hx
            · exact HH.out.txt x hx
            · rw [List.mem_singleton.1 hx]
              exact HQ.out
end Go.Proofs.Ytbeoihjfjkbfhaa
