/-
  The reference's first. Conditions: the rows lie in memory.
-/
import Derived.Test.YtlekdhhgjhakgaaRiL
namespace Go.Proofs.Ytlekdhhgjhakgaa
set_option linter.unusedVariables false
set_option linter.unusedSimpArgs false
open Go.RowKit
/-- A row of bools, by its cells. -/
def RC (w : World) (u : Value) (m : Nat) (g : Nat → Bool) : Prop := ∃ r rc, u = .slice (some ⟨r, 0, none⟩) m rc ∧ m ≤ rc ∧ ∀ k, k < m → w.cell? ⟨r, k, none⟩ = some (.bool (g k))
theorem RC.ext {w w' : World} {u : Value} {m : Nat} {g : Nat → Bool} (h : RC w u m g) (x : Ext w w') : RC w' u m g := by
  obtain ⟨r, rc, h1, h2, h3⟩ := h
  exact ⟨r, rc, h1, h2, fun k hk => (x.cells.1 _ _ (World.block_lt_of_cell? w _ (h3 k hk))).trans (h3 k hk)⟩
theorem RC.congr {w : World} {u : Value} {m : Nat} {g g' : Nat → Bool} (h : RC w u m g) (e : ∀ k, k < m → g k = g' k) : RC w u m g' := by
  obtain ⟨r, rc, h1, h2, h4⟩ := h
  exact ⟨r, rc, h1, h2, fun k hk => by rw [← e k hk]; exact h4 k hk⟩
theorem RB.rc {w : World} {u : Value} {m : Nat} {g : Nat → Bool} (h : RB w u m g) : RC w u m g := by
  obtain ⟨r, rc, h1, h2, -, h3⟩ := h.cells
  exact ⟨r, rc, h1, h2, h3⟩
theorem TB.us {w : World} {A : Option Addr} {n m c : Nat} {B : Nat → Nat → Bool} (h : TB w (.slice A n c) n m B) :
    ∃ us : List Value, us.length = n ∧ (us = [] ∨ ∃ g, A = some ⟨g, 0, none⟩ ∧ ∀ o (h : o < us.length), w.cell? ⟨g, o, none⟩ = some us[o]) ∧ ∀ o (h : o < us.length), RC w us[o] m (B o) := by
  rcases Nat.eq_zero_or_pos n with rfl | hn
  · exact ⟨[], rfl, .inl rfl, fun o ho => absurd ho (Nat.not_lt_zero _)⟩
  · obtain ⟨g, c', r0, rc0, e, -, -⟩ := h.at hn
    injection e with e1 _ e2
    subst e1 e2
    have key : ∀ o, o < n → ∃ r rc, w.cell? ⟨g, o, none⟩ = some (.slice (some ⟨r, 0, none⟩) m rc) ∧ m ≤ rc ∧ ∀ k, k < m → w.cell? ⟨r, k, none⟩ = some (.bool (B o k)) := fun o ho => by
      obtain ⟨g', c', r, rc, e, -, h1, h2, h3⟩ := h.at ho
      injection e with e1 _ e2
      injection e1 with e1
      injection e1 with e1
      subst e1
      exact ⟨r, rc, h1, h2, h3⟩
    refine ⟨(List.range n).map fun o => (w.cell? ⟨g, o, none⟩).getD undef, by simp, .inr ⟨g, rfl, fun o ho => ?_⟩, fun o ho => ?_⟩
    · simp at ho
      obtain ⟨r, rc, h1, h2, h3⟩ := key o ho
      simp [h1]
    · simp at ho
      obtain ⟨r, rc, h1, h2, h3⟩ := key o ho
      simp only [List.getElem_map, List.getElem_range, h1, Option.getD_some]
      exact ⟨r, rc, rfl, h2, h3⟩
theorem TB.of_row {B m : Nat} {F : Nat → Nat → Bool} {W : World} {v : Value} {us : List Value} (h : W.ownsRow B 87 1 v us.length (us.flatMap cel1)) (he : ∀ o (h : o < us.length), RC W us[o] m (F o)) : TB W v us.length m F := by
  rcases h.2 with ⟨h1, h0⟩ | ⟨g, cap, cur, rfl, hb, hg, h1, h2, h3, h4⟩
  · rw [h0, h1]
    exact ⟨none, 0, rfl, Nat.le_refl _, .inl rfl⟩
  · refine ⟨_, cap, rfl, h1, .inr ⟨g, rfl, fun o ho => ?_⟩⟩
    obtain ⟨r, rc, e1, e2, e4⟩ := he o ho
    refine ⟨r, rc, ?_, e2, e4⟩
    have := World.ownsRow.cellAt h o (by omega)
    rw [cel1_map] at this
    rw [this, List.getElem?_eq_getElem ho, e1]
/-- The places of l from k on. -/
def rstF (l : List Nat) (k : Nat) : List Nat := l.filter fun x => decide (k ≤ x)
theorem rstF_zero (l : List Nat) : rstF l 0 = l := by simp [rstF]
theorem rstF_skip {l : List Nat} {k : Nat} (h : k ∉ l) : rstF l k = rstF l (k + 1) := by
  unfold rstF
  refine List.filter_congr fun x hx => ?_
  have : x ≠ k := fun e => h (e ▸ hx)
  rw [Bool.eq_iff_iff, decide_eq_true_iff, decide_eq_true_iff]
  omega
theorem rstF_take : ∀ {l : List Nat} {k : Nat}, l.Pairwise (· < ·) → k ∈ l → rstF l k = k :: rstF l (k + 1)
  | [], k, _, h => by cases h
  | x :: l, k, hp, h => by
    obtain ⟨h1, h2⟩ := List.pairwise_cons.1 hp
    unfold rstF
    by_cases e : x = k
    · subst e
      rw [List.filter_cons, if_pos (by simp), List.filter_cons, if_neg (by simp)]
      congr 1
      refine List.filter_congr fun y hy => ?_
      have := h1 y hy
      rw [Bool.eq_iff_iff, decide_eq_true_iff, decide_eq_true_iff]
      omega
    · have hk : k ∈ l := (List.mem_cons.1 h).resolve_left fun e2 => e e2.symm
      have := h1 k hk
      rw [List.filter_cons, if_neg (by simp; omega), List.filter_cons, if_neg (by simp; omega)]
      exact rstF_take h2 hk
theorem rstF_end {l : List Nat} {k : Nat} (h : ∀ x ∈ l, x < k) : rstF l k = [] := by
  unfold rstF
  rw [List.filter_eq_nil_iff]
  intro x hx
  have := h x hx
  simp; omega
open Classical in
/-- The first row that goes on from c and can be. -/
noncomputable def fO (M : List (List Nat)) (m each L : Nat) (R : List (List Nat)) (c rest : List Nat) (n : Nat) : Option (List Nat) :=
  ((enum rest n).map (c ++ ·)).find? fun r => decide (CanR M m each L (R ++ [r]))
section
variable {M : List (List Nat)} {m each L : Nat} {R : List (List Nat)}
open Classical in
theorem fO_zero (c rest : List Nat) : fO M m each L R c rest 0 = if CanR M m each L (R ++ [c]) then some c else none := by
  unfold fO
  rw [enum_zero]
  simp [List.find?_cons]
  split <;> simp_all
theorem fO_nil (c : List Nat) (n : Nat) : fO M m each L R c [] (n + 1) = none := rfl
theorem fO_cons (c rest : List Nat) (k n : Nat) : fO M m each L R c (k :: rest) (n + 1) = (fO M m each L R (c ++ [k]) rest n).or (fO M m each L R c rest (n + 1)) := by
  unfold fO
  show List.find? _ (((enum rest n).map (k :: ·) ++ enum rest (n + 1)).map (c ++ ·)) = _
  rw [List.map_append, List.find?_append, List.map_map]
  congr 2
  exact List.map_congr_left fun s _ => by simp
theorem fO_pick : (fO M m each L R [] (M.getD R.length []) each).getD [] = pick M m each L R := by
  unfold fO pick
  simp
end
theorem append_rowsM {α : Type} {cs : α → List Value} {sz : Nat} (T E bytes : Nat) {z : Value} (hT : Try.prog.underlying T = some (.slice E))
    (hinfo : (Try.prog.info? E).map (fun i => (i.zero, i.size, i.bytes)) = some (some z, sz, bytes)) (hz : z.cells.size = sz) (h0 : 0 < sz) (hby : bytes ≤ 100000)
    {ops : Array Oper} {rest : List Oper} {o : Oper} {a : Act} {Q : Exit → Act → World → Prop} {w : World} (hgd : o.guard = none) (s x : Operand)
    (ho : o.op = .call { callee := .builtin .append, args := #[s, x], argTypes := #[T, T] }) (B : Nat) (v : Value) (vs : List α) (hs : a.eval s = v) (hF : w.ownsRow B E sz v vs.length (vs.flatMap cs))
    (hc1 : ∀ u, (cs u).length = sz) (A : Option Addr) (c : Nat) (us : List α) (hc2 : ∀ u ∈ us, ∀ c ∈ cs u, c.oneCell' = true) (hx : a.eval x = .slice A us.length c) (hu : us = [] ∨ ∃ b off, A = some ⟨b, off, none⟩ ∧ ∀ j u, (us.flatMap cs)[j]? = some u → w.cell? ⟨b, off + j, none⟩ = some u)
    (hn : vs.length + us.length ≤ 1000000) (hB : B ≤ w.heap.size)
    (h : ∀ v' w', w'.ownsRow B E sz v' (vs ++ us).length ((vs ++ us).flatMap cs) → w.grownBy w' v.ownBlock → wpList Try.prog ops Q rest (a.put o.dst v') w') : wpList Try.prog ops Q (o :: rest) a w := by
  obtain ⟨i0, hi, hz0, hz1, hz2⟩ := info_parts hinfo
  refine wpList_plain hgd fun K hK => ?_
  by_cases h0' : us = []
  · subst h0'
    obtain ⟨base, cap, hv, hle⟩ : ∃ base cap, v = .slice base vs.length cap ∧ vs.length ≤ cap := by
      rcases hF.2 with ⟨hn, h0⟩ | ⟨g, cap', cur, hv, hb, hg, h1, h2, h3, h4⟩
      · exact ⟨none, 0, by rw [hn, h0], by omega⟩
      · exact ⟨_, cap', hv, h1⟩
    have hsrc : Src Try.prog i0.size T (.slice A 0 c) 0 [] w := by
      rw [hz1]
      cases A with
      | none => exact Src.ofNil w hT c
      | some a => exact Src.ofSlice w hT a 0 c _ (by simp) (by simp) (by simp)
    have hr := run_append_nothing (P := Try.prog) w T T o.type E i0 hT hi base vs.length cap hle (.slice A 0 c) hsrc
    rw [← hv] at hr
    unfold Oper.wp execOp
    simp only [List.length_nil] at hx
    simp only [ho, resolve, invoke, builtin, Sem.run_bind, Sem.run_pure, Result.andThen_ok, List.map_toArray, List.map_cons, List.map_nil, hs, hx, hr]
    exact hK _ _ (h v w (by simpa using hF) ⟨rfl, rfl, rfl, Nat.le_refl _, fun _ _ _ => rfl⟩)
  · obtain ⟨b, off, rfl, hcell⟩ := hu.resolve_left h0'
    have hpos : 0 < us.length := List.length_pos_iff.2 h0'
    have hby2 : (vs.length + us.length) * bytes ≤ 1000000 * 100000 := Nat.mul_le_mul (by omega) hby
    obtain ⟨g, cap', w', hr, h2, h3, h4, h5⟩ := run_append_lies (P := Try.prog) w T o.type B E i0 _ sz bytes hT hi hz0 hz1 hz2 hz h0 v vs.length _ hF ⟨b, off, none⟩ us.length c (us.flatMap cs) (flat_len hc1 us)
      (by
        intro j u hu
        rw [Go.WideShapes.add_plain]
        exact hcell j u hu) (by intro u hu; obtain ⟨z, hz1, hz⟩ := List.mem_flatMap.1 hu; exact hc2 z hz1 u hz) hpos (by unfold maxLen; omega) (by omega) hB w.heap.size rfl
    unfold Oper.wp execOp
    simp only [ho, resolve, invoke, builtin, Sem.run_bind, Sem.run_pure, Result.andThen_ok, List.map_toArray, List.map_cons, List.map_nil, hs, hx, hr] at *
    refine hK _ w' (h _ w' ?_ h3)
    rw [List.flatMap_append, List.length_append]
    exact h2
theorem RC.one {w : World} {u : Value} {m : Nat} {g : Nat → Bool} (h : RC w u m g) : u.oneCell' = true := by
  obtain ⟨r, rc, rfl, -⟩ := h
  rfl
/-- What first returns. -/
def FR1 (w : World) (m : Nat) (o : Option (List Nat)) (rv : Value) (ok : Bool) : Prop := match o with
  | some r => ok = true ∧ RB w rv m fun j => decide (j ∈ r)
  | none => ok = false
theorem sub_grow {l c : List Nat} {j k : Nat} (h : c.Sublist (l.filter fun x => decide (x < j))) (hk : j ≤ k) : c.Sublist (l.filter fun x => decide (x < k)) := by
  refine h.trans ?_
  have : (l.filter fun x => decide (x < j)) = ((l.filter fun x => decide (x < k)).filter fun x => decide (x < j)) := by
    rw [List.filter_filter]
    refine List.filter_congr fun x _ => ?_
    rw [Bool.eq_iff_iff, Bool.and_eq_true, decide_eq_true_iff, decide_eq_true_iff]
    omega
  rw [this]
  exact List.filter_sublist
theorem sub_snoc {l c : List Nat} {k : Nat} (hp : l.Pairwise (· < ·)) (hk : k ∈ l) (h : c.Sublist (l.filter fun x => decide (x < k))) : (c ++ [k]).Sublist (l.filter fun x => decide (x < k + 1)) := by
  have key : ∀ {l : List Nat}, l.Pairwise (· < ·) → k ∈ l → (l.filter fun x => decide (x < k + 1)) = (l.filter fun x => decide (x < k)) ++ [k] := by
    intro l
    induction l with
    | nil => intro _ h; cases h
    | cons x l ih =>
      intro hp h
      obtain ⟨h1, h2⟩ := List.pairwise_cons.1 hp
      by_cases e : x = k
      · subst e
        rw [List.filter_cons, if_pos (by simp), List.filter_cons, if_neg (by simp)]
        have e1 : (l.filter fun y => decide (y < x + 1)) = [] := List.filter_eq_nil_iff.2 fun y hy => by have := h1 y hy; simp; omega
        have e2 : (l.filter fun y => decide (y < x)) = [] := List.filter_eq_nil_iff.2 fun y hy => by have := h1 y hy; simp; omega
        rw [e1, e2]; rfl
      · have hk : k ∈ l := (List.mem_cons.1 h).resolve_left fun e2 => e e2.symm
        have := h1 k hk
        rw [List.filter_cons, if_pos (by simp; omega), List.filter_cons, if_pos (by simp; omega), ih h2 hk]
        rfl
  rw [key hp hk]
  exact h.append (List.Sublist.refl _)
set_option maxRecDepth 100000 in
set_option maxHeartbeats 8000000 in
theorem rfirst_any (mv fv : Value) (ms R : List (List Nat)) (m each L : Nat) (hM : May ms m) (hR : Rows_ ms each R) (hlt : R.length < ms.length) (hn : ms.length ≤ 1000) (hm : 0 < m ∧ m ≤ 1000) (he : each ≤ 13) (hL : L ≤ 1000) :
    ∀ (left : Nat) (c : List Nat) (k : Nat) (rowv : Value) (w : World), TB w mv ms.length m (mayF ms) → TB w fv R.length m (rowF R) → RB w rowv m (fun j => decide (j ∈ c)) → c.Sublist ((ms.getD R.length []).filter fun x => decide (x < k)) → c.length + left = each → k ≤ m →
      Calls Try.prog 42 #[mv, fv, rowv, .int .i64 left, .int .i64 k, .int .i64 each, .int .i64 L] w fun e w' => ∃ rv ok, e = .returned (.tuple #[rv, .bool ok]) ∧ Ext w w' ∧ FR1 w' m (fO ms m each L R c (rstF (ms.getD R.length []) k) left) rv ok := by
  classical
  obtain ⟨l, hl⟩ : ∃ l, l = ms.getD R.length [] := ⟨_, rfl⟩
  have hlm : l ∈ ms := by rw [hl, getD_at hlt]; exact List.getElem_mem _
  have HUP := Lib.hid (hM.up l hlm); have HLM := Lib.hid (hM.lt l hlm)
  have HMF : Hid (∀ j, mayF ms R.length j = decide (j ∈ l)) := Lib.hid fun j => by rw [hl]; rfl
  rw [← hl]
  have HLE := Lib.hid hl
  clear hl hlm
  have HM := Lib.hid hM; have HRW := Lib.hid hR
  clear hM hR
  intro left
  induction left with
  | zero =>
    intro c k rowv w hmv hfv hrow hsub hcl hk
    have HMV := Lib.hid hmv; have HFV := Lib.hid hfv; have HROW := Lib.hid hrow; have HSUB := Lib.hid hsub
    obtain ⟨mg, mc, -, -, rfl, -⟩ := hmv.at (Nat.zero_lt_of_lt hlt)
    obtain ⟨fA, fc, rfl, hfc, -⟩ := id hfv
    obtain ⟨rb, rc, rfl, hrc, hrel⟩ := hrow.rc
    have HUS := Lib.hid hfv.us
    clear hmv hfv hrow hsub hrel
    go_enter Try.func42, Try.ntmps42
    go_upto_region 2 with (fail)
    obtain ⟨us, hul, husrc, huel⟩ := HUS.out
    have HEL := Lib.hid huel
    have hx2 : Ext w (w.alloc (.cells #[] 87)) := Ext.alloc (Ext.refl _) _
    have hown := own_lit (B := w.heap.size) (n := 0) (sz := 1) (xs := [].append (([] : List Value).flatMap cel1)) (Nat.le_refl _) (alloc_at w (.cells #[] 87)) rfl (by decide)
    have hsrc : us = [] ∨ ∃ b off, fA = some ⟨b, off, none⟩ ∧ ∀ j u, (us.flatMap cel1)[j]? = some u → (w.alloc (.cells #[] 87)).cell? ⟨b, off + j, none⟩ = some u := husrc.imp id fun ⟨g, h1, h2⟩ => ⟨g, 0, h1, fun j u hj => by
      rw [cel1_map] at hj
      obtain ⟨hjl, rfl⟩ := List.getElem?_eq_some_iff.1 hj
      rw [Nat.zero_add]
      exact (hx2.cells.1 _ _ (World.block_lt_of_cell? w _ (h2 j hjl))).trans (h2 j hjl)⟩
    have hcc : ∀ u ∈ us, ∀ c ∈ cel1 u, c.oneCell' = true := fun u hu c hc => by
      obtain ⟨o, ho, rfl⟩ := List.getElem_of_mem hu
      rw [List.mem_singleton.1 hc]
      exact (huel o ho).one
    have hll : ([] : List Value).length + us.length ≤ 1000000 := by simp; omega
    have hsz2 : w.heap.size ≤ (w.alloc (.cells #[] 87)).heap.size := hx2.size
    have HX2 := Lib.hid hx2
    have HUL := Lib.hid hul
    clear hx2 husrc huel hul HUS
    go_upto_region 3 with (first
      | (at_builtin; (refine append_rowsM (cs := cel1) (z := .slice none 0 0) 84 87 24 Try.underlying84 (by kernel_rfl) (by rfl) (by decide) (by decide) rfl (.tmp 23) (.tmp 24) rfl w.heap.size (.slice (some ⟨w.heap.size, 0, none⟩) 0 0) [] (by rfl) hown (fun _ => rfl) fA fc us hcc (by rw [HUL.out]; rfl) hsrc hll hsz2 ?_; intro v7 w7 hr7 hg7; have HX7 : Hid (Ext w w7) := Lib.hid (row_grown HX2.out hown (Nat.le_refl _) hg7); have HR7 := Lib.hid hr7; have hsz7 : w.heap.size ≤ (w7.alloc (.cells #[.slice (some ⟨rb, 0, none⟩) m rc] 87)).heap.size := (HX7.out.trans (Ext.alloc (Ext.refl _) _)).size; have hul7 : ([] ++ us).length < 1000000 := (by rw [List.nil_append, HUL.out]; omega); clear hr7 hg7))
      | (at_builtin; (refine append_g (cs := cel1) (z := .slice none 0 0) 84 87 24 Try.underlying84 (by kernel_rfl) (by rfl) (by decide) (by decide) rfl (.tmp 25) (.tmp 27) rfl w.heap.size v7 ([] ++ us) (by rfl) (row_ext HR7.out (Ext.alloc (Ext.refl _) _)) w7.heap.size (.slice (some ⟨rb, 0, none⟩) m rc) ⟨rfl, by simp [cel1, Value.oneCell']⟩ (by rfl) (alloc_at w7 _) hul7 hsz7 ?_; intro g8 cap8 w8 hr8 hg8 hat8; have HX8 : Hid (Ext w w8) := Lib.hid (row_grown (HX7.out.trans (Ext.alloc (Ext.refl _) _)) (row_ext HR7.out (Ext.alloc (Ext.refl _) _)) (Nat.le_refl _) hg8); have HR8 := Lib.hid hr8; clear hr8 hg8 hat8)))
    clear hown hsrc hcc hll hsz2 HX2 HX7 HR7 hsz7 hul7
    have HTN : Hid (TB w8 (.slice (some ⟨g8, 0, none⟩) (R.length + 1) cap8) (R ++ [c]).length m (rowF (R ++ [c]))) := Lib.hid (by
      have h1 := HR8.out
      rw [List.nil_append] at h1
      have h2 : us.length + 1 = (R ++ [c]).length := by simp [HUL.out]
      have h3 := TB.of_row (m := m) (F := rowF (R ++ [c])) h1 fun o ho => by
        by_cases e : o < us.length
        · rw [List.getElem_append_left e]
          exact ((HEL.out o e).ext HX8.out).congr fun k hk => by rw [rowF_snoc, if_pos (by rw [← HUL.out]; exact e)]
        · have e2 : o = us.length := by simp at ho; omega
          subst e2
          rw [List.getElem_append_right (by omega)]
          simp only [Nat.sub_self, List.getElem_cons_zero]
          exact (HROW.out.ext HX8.out).rc.congr fun k hk => by rw [rowF_snoc, if_neg (by rw [HUL.out]; omega), if_pos HUL.out]
      simp only [List.nil_append, List.length_append, List.length_singleton, HUL.out] at h3 ⊢
      exact h3)
    have HRC : Hid (Rows_ ms each (R ++ [c])) := Lib.hid (HRW.out.snoc hlt (mem_enum.2 ⟨by rw [← HLE.out]; exact HSUB.out.trans List.filter_sublist, by omega⟩))
    have HPO := Lib.hid (possible_any _ _ ms (R ++ [c]) m each L w8 (HMV.out.ext HX8.out) HTN.out HM.out HRC.out ⟨by omega, hn⟩ hm he hL)
    have HFZ : Hid (fO ms m each L R c (rstF l k) 0 = if CanR ms m each L (R ++ [c]) then some c else none) := Lib.hid (by rw [fO_zero])
    rw [HUL.out]
    by_cases hc : CanR ms m each L (R ++ [c])
    · rw [if_pos hc] at HFZ
      rw [decide_eq_true hc] at HPO
      clear hc
      go_wp2_with (first | (go_at_call 56; (with_reducible refine HPO.out.mono ?_); rintro e w9 ⟨rfl, hx9⟩))
      go_ret2
      exact ⟨_, _, rfl, HX8.out.trans hx9, by rw [HFZ.out]; exact ⟨rfl, HROW.out.ext (HX8.out.trans hx9)⟩⟩
    · rw [if_neg hc] at HFZ
      rw [decide_eq_false hc] at HPO
      clear hc
      go_wp2_with (first | (go_at_call 56; (with_reducible refine HPO.out.mono ?_); rintro e w9 ⟨rfl, hx9⟩))
      go_ret2
      exact ⟨_, _, rfl, HX8.out.trans hx9, by rw [HFZ.out]; rfl⟩
  | succ n ih =>
    intro c k rowv w hmv hfv hrow hsub hcl hk
    have HMV := Lib.hid hmv; have HFV := Lib.hid hfv; have HROW := Lib.hid hrow; have HSUB := Lib.hid hsub
    obtain ⟨mg, mc, mr, mrc, rfl, hmc, hmrow, hmrc, hmel⟩ := hmv.at hlt
    obtain ⟨fA, fc, rfl, hfc, -⟩ := id hfv
    obtain ⟨rb, rc, rfl, hrc, hrel⟩ := hrow.rc
    have HMR : Hid (∀ wz, Ext w wz → wz.cell? ⟨mg, R.length, none⟩ = some (.slice (some ⟨mr, 0, none⟩) m mrc) ∧ ∀ j, j < m → wz.cell? ⟨mr, j, none⟩ = some (.bool (decide (j ∈ l)))) := Lib.hid fun wz hz => ⟨(hz.cells.1 _ _ (World.block_lt_of_cell? w _ hmrow)).trans hmrow, fun j hj => by rw [(hz.cells.1 _ _ (World.block_lt_of_cell? w _ (hmel j hj))).trans (hmel j hj), HMF.out]⟩
    have HIH := Lib.hid ih
    clear hmv hfv hrow hsub hrel hmrow hmel ih
    go_enter Try.func42, Try.ntmps42
    go_upto_region 5 with (fail)
    have hcn : c.length + n + 1 = each := by omega
    have hn13 : n ≤ 13 := by omega
    rw [show ((n : Int) + 1 == 0) = false from beq_false_of_ne (by omega), show ((n + 1 : Nat) : Int) = (n : Int) + 1 from rfl]
    go_loopw [4] (fun jv wr => ∃ j : Nat, jv = .int .i64 j ∧ k ≤ j ∧ j ≤ m ∧ Hid (fO ms m each L R c (rstF l k) (n + 1) = fO ms m each L R c (rstF l j) (n + 1)) ∧ Hid (Ext w wr)) (fun jv _ => m - (iof jv).toNat)
    case atStart => exact ⟨k, rfl, Nat.le_refl _, hk, Lib.hid rfl, Lib.hid (Ext.refl _)⟩
    case round =>
      obtain ⟨j, rfl, hkj, hj, HF, HX⟩ := hrel
      by_cases hjm : j < m
      · obtain ⟨m0, hmel⟩ := HMR.out wr HX.out
        have m1 := hmel j hjm
        clear hmel
        by_cases hjl : j ∈ l
        · rw [decide_eq_true hjl] at m1
          have HJL := Lib.hid hjl
          clear hjl
          obtain ⟨W2, hW2⟩ : ∃ W2, W2 = wr.alloc (.cells #[] 4) := ⟨_, rfl⟩
          have hx2 : Ext wr W2 := hW2 ▸ Ext.alloc (Ext.refl _) _
          have hat2 : W2.heap[wr.heap.size]? = some (.cells #[] 4) := hW2 ▸ alloc_at wr _
          have hown := own_lit (B := wr.heap.size) (n := 0) (sz := 1) (xs := [].append (([] : List Bool).flatMap celB)) (Nat.le_refl _) hat2 rfl (by decide)
          obtain ⟨rb', rc', e1, e2, hrel⟩ := (HROW.out.ext (HX.out.trans hx2)).rc
          injection e1 with e1 _ e3
          injection e1 with e1
          injection e1 with e1
          subst e1 e3
          have hsrc : bls (fun x => decide (x ∈ c)) m = [] ∨ ∃ b off, some (⟨rb, 0, none⟩ : Addr) = some ⟨b, off, none⟩ ∧ ∀ q u, ((bls (fun x => decide (x ∈ c)) m).flatMap celB)[q]? = some u → W2.cell? ⟨b, off + q, none⟩ = some u := .inr ⟨rb, 0, rfl, fun q u hq => by
            rw [celB_map, List.getElem?_map] at hq
            have hqm : q < m := by
              rcases Nat.lt_or_ge q m with h | h
              · exact h
              · rw [List.getElem?_eq_none (by rw [bls_len]; exact h)] at hq
                cases hq
            rw [bls_get _ hqm] at hq
            injection hq with hq
            rw [Nat.zero_add, hrel q hqm, hq]⟩
          have HB := Lib.hid (bls_len (fun x => decide (x ∈ c)) m)
          have hsz2 : wr.heap.size ≤ W2.heap.size := hx2.size
          have HX2 := Lib.hid hx2
          have hll : ([] : List Bool).length + (bls (fun x => decide (x ∈ c)) m).length ≤ 1000000 := by rw [HB.out]; simp; omega
          clear hx2 hrel e2 hat2
          go_upto_region 9 with (at_builtin; rw [← hW2]; (refine append_rows (cs := celB) (z := .bool false) 87 4 1 Try.underlying87 (by kernel_rfl) (by rfl) (by decide) (by decide) rfl (.tmp 51) (.tmp 52) rfl wr.heap.size (.slice (some ⟨wr.heap.size, 0, none⟩) 0 0) [] (by rfl) hown (fun _ => ⟨rfl, by simp [celB, Value.oneCell']⟩) (some ⟨rb, 0, none⟩) rc (bls (fun x => decide (x ∈ c)) m) (by rw [HB.out]; rfl) hsrc hll hsz2 ?_; intro v7 w7 hr7 hg7; obtain ⟨gb, cap, rfl, hgb, hcap, cs, hgc, hcs⟩ := own_bools hr7 hm.1; have HX7 : Hid (Ext wr w7) := Lib.hid (row_grown HX2.out hown (Nat.le_refl _) hg7); have HGB := Lib.hid hgb; have HGC := Lib.hid hgc; have HCS := Lib.hid hcs; clear hr7 hg7 hgb hgc hcs))
          clear hown hsrc HB hsz2 hll HX2 hW2 m0 m1
          have t0 : w7.cell? ⟨gb, j, none⟩ = some (.bool (decide (j ∈ c))) := by rw [cell_of_row w7 gb j _ _ _ HGC.out, HCS.out j hjm]
          have t0f : w7.frozen? ⟨gb, j, none⟩ = false := tab_frozen HGC.out
          have HX9 : Hid (Ext wr (w7.setCell ⟨gb, j, none⟩ (.bool true))) := Lib.hid (Ext.setCell HX7.out HGB.out _)
          have HRN : Hid (RB (w7.setCell ⟨gb, j, none⟩ (.bool true)) (.slice (some ⟨gb, 0, none⟩) m cap) m (fun x => decide (x ∈ c ++ [j]))) := Lib.hid ⟨gb, cap, _, rfl, hcap, heap_setCell_row _ HGC.out, fun x hx => by
            rw [Array.getElem?_setIfInBounds]
            have hxs := (Array.getElem?_eq_some_iff.1 (HCS.out x hx)).1
            by_cases e : j = x
            · subst e
              rw [if_pos rfl, if_pos hxs]
              simp
            · rw [if_neg e, HCS.out x hx]
              have e2 : ¬ x = j := fun h => e h.symm
              simp [e2]⟩
          go_upto_region 10 with (fail)
          clear t0 t0f HX7 HGC HCS HGB
          generalize w7.setCell ⟨gb, j, none⟩ (.bool true) = w9 at *
          have HXW : Hid (Ext w w9) := Lib.hid (HX.out.trans HX9.out)
          have HCALL := Lib.hid (HIH.out (c ++ [j]) (j + 1) _ w9 (HMV.out.ext HXW.out) (HFV.out.ext HXW.out) HRN.out (sub_snoc HUP.out HJL.out (sub_grow HSUB.out hkj)) (by simp; omega) (by omega))
          have HFT : Hid (fO ms m each L R c (rstF l k) (n + 1) = (fO ms m each L R (c ++ [j]) (rstF l (j + 1)) n).or (fO ms m each L R c (rstF l (j + 1)) (n + 1))) := Lib.hid (by rw [HF.out, rstF_take HUP.out HJL.out, fO_cons])
          rw [show ((j + 1 : Nat) : Int) = (j : Int) + 1 from rfl] at HCALL
          obtain ⟨o1, ho1⟩ : ∃ o1, o1 = fO ms m each L R (c ++ [j]) (rstF l (j + 1)) n := ⟨_, rfl⟩
          rw [← ho1] at HCALL HFT
          clear ho1 HF
          cases o1 with
          | some r =>
            go_upto_region 11 with (first | (go_at_call 42; (with_reducible refine HCALL.out.mono ?_); rintro e w5 ⟨rv, ok, rfl, hx5, hok, hrv⟩; subst hok))
            have HX5 := Lib.hid hx5; have HRV := Lib.hid hrv
            clear hx5 hrv
            go_wp2_with (fail)
            go_ret2
            exact ⟨_, _, rfl, HXW.out.trans HX5.out, by rw [HFT.out]; exact ⟨rfl, HRV.out⟩⟩
          | none =>
            go_wp2_with (first | (go_at_call 42; (with_reducible refine HCALL.out.mono ?_); rintro e w5 ⟨rv, ok, rfl, hx5, hok⟩; have hok : ok = false := hok; subst hok; have HX5 := Lib.hid hx5; clear hx5))
            exact ⟨⟨j + 1, by simp, by omega, by omega, Lib.hid (by rw [HFT.out]; rfl), Lib.hid (HXW.out.trans HX5.out)⟩, by simp [iof]; omega⟩
        · rw [decide_eq_false hjl] at m1
          have HFN : Hid (fO ms m each L R c (rstF l k) (n + 1) = fO ms m each L R c (rstF l (j + 1)) (n + 1)) := Lib.hid (by rw [HF.out, rstF_skip hjl])
          clear hjl
          go_wp2_with (fail)
          exact ⟨⟨j + 1, by simp, by omega, by omega, HFN, HX⟩, by simp [iof]; omega⟩
      · obtain rfl : j = m := by omega
        have HFN : Hid (fO ms j each L R c (rstF l k) (n + 1) = none) := Lib.hid (by rw [HF.out, rstF_end HLM.out]; rfl)
        go_wp2_with (fail)
        go_ret2
        exact ⟨_, _, rfl, HX.out, by rw [HFN.out]; rfl⟩
end Go.Proofs.Ytlekdhhgjhakgaa
