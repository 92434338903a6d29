/-
  The reference's Knows answers as the program's. Conditions: what the slices hold; at most 100 messages of at most 100 items.
-/
import Derived.Test.YthdhlocoiipbaaaFlN
import Derived.Test.YthdhlocoiipbaaaFlW
import Derived.Test.YthdhlocoiipbaaaFlU
import Derived.Deep.Upon
import Derived.ArgAppend
namespace Go.Proofs.Ythdhlocoiipbaaa
set_option linter.unusedVariables false
set_option linter.unusedSimpArgs false
open Go.RowKit

theorem row_cut {B n cap a : Nat} {w : World} {A : Option Addr} {l : List Int} (h : w.ownsRow B 3 1 (.slice A n cap) l.length (l.flatMap celI)) (ha : a ≤ l.length) : w.ownsRow B 3 1 (.slice A a cap) (l.take a).length ((l.take a).flatMap celI) := by
  have hl : (l.take a).length = a := by rw [List.length_take]; omega
  rw [hl]
  refine ⟨by rw [celI_map]; simp; omega, ?_⟩
  rcases h.2 with ⟨hn, h0⟩ | ⟨g, cap', cur, hv, hb, hg, h1, h2, h3, h4⟩
  · left
    injection hn with e1 e2 e3
    subst e1 e3
    have : a = 0 := by omega
    subst this
    exact ⟨rfl, rfl⟩
  · right
    injection hv with e1 e2 e3
    subst e1 e3
    refine ⟨g, _, cur, rfl, hb, hg, by omega, h2, h3, ?_⟩
    rw [celI_map] at h4 ⊢
    rw [List.map_take, ← h4, List.take_take]
    congr 1
    omega
/-- 'append' of ints out of any source. -/
theorem append_any {ops : Array Oper} {rest : List Oper} {o : Oper} {a : Act} {Q : Exit → Act → World → Prop} {w : World} (hgd : o.guard = none) (s x : Operand)
    (ho : o.op = .call { callee := .builtin .append, args := #[s, x], argTypes := #[28, 28] }) (B : Nat) (v : Value) (vs : List Int) (hs : a.eval s = v) (hF : w.ownsRow B 3 1 v vs.length (vs.flatMap celI))
    (A : Option Addr) (c : Nat) (us : List Int) (hx : a.eval x = .slice A us.length c) (hu : us = [] ∨ ∃ b off, A = some ⟨b, off, none⟩ ∧ ∀ k (h : k < us.length), w.cell? ⟨b, off + k, none⟩ = some (.int .i64 us[k]))
    (hn : vs.length + us.length ≤ 1000000) (hB : B ≤ w.heap.size)
    (h : ∀ v' w', w'.ownsRow B 3 1 v' (vs ++ us).length ((vs ++ us).flatMap celI) → w.grownBy w' v.ownBlock → (us ≠ [] → ∃ g cap, v' = .slice (some ⟨g, 0, none⟩) (vs.length + us.length) cap) → (us = [] → v' = v ∧ w' = w) → wpList Try.prog ops Q rest (a.put o.dst v') w') : wpList Try.prog ops Q (o :: rest) a w := by
  obtain ⟨i0, hi, hz0, hz1, hz2⟩ := info_parts (show (Try.prog.info? 3).map (fun i => (i.zero, i.size, i.bytes)) = some (some (.int .i64 0), 1, 8) by kernel_rfl)
  refine wpList_plain hgd fun K hK => ?_
  by_cases h0 : us = []
  · subst h0
    obtain ⟨base, cap, hv, hle⟩ : ∃ base cap, v = .slice base vs.length cap ∧ vs.length ≤ cap := by
      rcases hF.2 with ⟨hn, h0⟩ | ⟨g, cap', cur, hv, hb, hg, h1, h2, h3, h4⟩
      · exact ⟨none, 0, by rw [hn, h0], by omega⟩
      · exact ⟨_, cap', hv, h1⟩
    have hsrc : Src Try.prog i0.size 28 (.slice A 0 c) 0 [] w := by
      rw [hz1]
      cases A with
      | none => exact Src.ofNil w Try.underlying28 c
      | some a => exact Src.ofSlice w Try.underlying28 a 0 c _ (by simp) (by simp) (by simp)
    have hr := run_append_nothing (P := Try.prog) w 28 28 o.type 3 i0 Try.underlying28 hi base vs.length cap hle (.slice A 0 c) hsrc
    rw [← hv] at hr
    unfold Oper.wp execOp
    simp only [List.length_nil] at hx
    simp only [ho, resolve, invoke, builtin, Sem.run_bind, Sem.run_pure, Result.andThen_ok, List.map_toArray, List.map_cons, List.map_nil, hs, hx, hr]
    exact hK _ _ (h v w (by simpa using hF) ⟨rfl, rfl, rfl, Nat.le_refl _, fun _ _ _ => rfl⟩ (fun h => absurd rfl h) (fun _ => ⟨rfl, rfl⟩))
  · obtain ⟨b, off, rfl, hcell⟩ := hu.resolve_left h0
    have hpos : 0 < us.length := List.length_pos_iff.2 h0
    obtain ⟨g, cap', w', hr, h2, h3, h4, h5⟩ := run_append_lies (P := Try.prog) w 28 o.type B 3 i0 _ 1 8 Try.underlying28 hi hz0 hz1 hz2 rfl (by decide) v vs.length _ hF ⟨b, off, none⟩ us.length c (us.map (Value.int .i64)) (by simp)
      (by
        intro j u hu
        have hj : j < us.length := by have := (List.getElem?_eq_some_iff.1 hu).1; simpa using this
        rw [List.getElem?_eq_getElem (by simpa using hj)] at hu
        simp only [List.getElem_map, Option.some.injEq] at hu
        subst hu
        rw [Go.WideShapes.add_plain]
        exact hcell j hj) (by intro u hu; obtain ⟨z, -, rfl⟩ := List.mem_map.1 hu; rfl) hpos (by unfold maxLen; omega) (by omega) hB w.heap.size rfl
    unfold Oper.wp execOp
    simp only [ho, resolve, invoke, builtin, Sem.run_bind, Sem.run_pure, Result.andThen_ok, List.map_toArray, List.map_cons, List.map_nil, hs, hx, hr] at *
    refine hK _ _ (h _ w' ?_ h3 (fun _ => ⟨g, cap', rfl⟩) (fun e => absurd e h0))
    rw [List.flatMap_append, List.length_append, celI_map us]
    exact h2

/-- An increasing list of the members of s. -/
def Inc (s l : List Int) : Prop := l.Pairwise (· < ·) ∧ ∀ x, x ∈ l ↔ x ∈ s
theorem Inc.same {s s' l : List Int} (h : Inc s l) (e : ∀ x, x ∈ s ↔ x ∈ s') : Inc s' l := ⟨h.1, fun x => (h.2 x).trans (e x)⟩
theorem Inc.ins {s l : List Int} {id : Int} {a : Nat} (h : Inc s l) (hl : a ≤ l.length) (h1 : ∀ i (hi : i < l.length), a ≤ i → id < l[i]) (h2 : ∀ i (hi : i < l.length), i < a → l[i] < id) : Inc (s ++ [id]) (l.take a ++ (id :: l.drop a)) := by
  refine ⟨?_, fun x => ?_⟩
  · have hp := h.1
    rw [← List.take_append_drop a l, List.pairwise_append] at hp
    have hlt : ∀ x ∈ l.take a, x < id := fun x hx => by
      obtain ⟨i, hi, rfl⟩ := List.getElem_of_mem hx
      rw [List.length_take] at hi
      rw [List.getElem_take]
      exact h2 i (by omega) (by omega)
    have hgt : ∀ x ∈ l.drop a, id < x := fun x hx => by
      obtain ⟨i, hi, rfl⟩ := List.getElem_of_mem hx
      rw [List.length_drop] at hi
      rw [List.getElem_drop]
      exact h1 _ (by omega) (by omega)
    rw [List.pairwise_append, List.pairwise_cons]
    refine ⟨hp.1, ⟨hgt, hp.2.1⟩, fun x hx y hy => ?_⟩
    rcases List.mem_cons.1 hy with rfl | hy
    · exact hlt x hx
    · exact hp.2.2 x hx y hy
  · rw [List.mem_append, List.mem_append, List.mem_cons, List.mem_singleton, ← h.2]
    have : x ∈ l ↔ x ∈ l.take a ∨ x ∈ l.drop a := by rw [← List.mem_append, List.take_append_drop]
    rw [this]
    constructor
    · rintro (h | h | h)
      · exact .inl (.inl h)
      · exact .inr h
      · exact .inl (.inr h)
    · rintro ((h | h) | h)
      · exact .inl h
      · exact .inr (.inr h)
      · exact .inr (.inl h)
theorem ite_mem (b : Bool) (id : Int) : ∀ x ∈ (if b = true then [] else [id]), x = id := by
  cases b <;> simp
theorem Inc.more {s l : List Int} {id : Int} (h : Inc s l) (hid : id ∈ l) (X : List Int) (hX : ∀ x ∈ X, x = id) : Inc (s ++ X) l :=
  h.same fun x => ⟨fun h => List.mem_append_left _ h, fun hx => by
    rcases List.mem_append.1 hx with hx | hx
    · exact hx
    · rw [hX x hx]; exact (h.2 id).1 hid⟩
theorem Inc.lt {s l : List Int} {id : Int} {a : Nat} (h : Inc s l) (hl : a ≤ l.length) (h0 : a = 0 ∨ ∃ hi : a - 1 < l.length, ¬ id < l[a - 1]) (hn : id ∉ l) : ∀ i (hi : i < l.length), i < a → l[i] < id := by
  intro i hi hia
  obtain ⟨hi1, h1⟩ := h0.resolve_left (by omega)
  have hne : l[a - 1] ≠ id := fun e => hn (e ▸ List.getElem_mem _)
  by_cases e : i = a - 1
  · subst e; omega
  · have := List.pairwise_iff_getElem.1 h.1 i (a - 1) hi hi1 (by omega)
    omega

theorem row_form {B : Nat} {w : World} {v : Value} {l : List Int} (h : w.ownsRow B 3 1 v l.length (l.flatMap celI)) :
    ∃ A cap, v = .slice A l.length cap ∧ l.length ≤ cap ∧ cap ≤ 9223372036854775807 ∧ (l = [] ∧ A = none ∧ cap = 0 ∨ ∃ g, A = some ⟨g, 0, none⟩ ∧ B ≤ g ∧ ∀ k (h : k < l.length), w.cell? ⟨g, k, none⟩ = some (.int .i64 l[k])) := by
  rcases h.2 with ⟨hn, h0⟩ | ⟨g, cap, cur, hv, hb, hg, h1, h2, h3, h4⟩
  · refine ⟨none, 0, by rw [hn, h0], by omega, by omega, .inl ⟨List.length_eq_zero_iff.1 h0, rfl, rfl⟩⟩
  · refine ⟨_, cap, hv, h1, by unfold maxLen at h2; exact h2, .inr ⟨g, rfl, hb, fun k hk => ?_⟩⟩
    subst hv
    rw [World.ownsRow.cellAt h k (by omega), celI_map]
    simp [hk]

section
variable {ρ : Operand → Value} {d : Option Tmp} {x y : Operand} {ty : TypeId} {ps : String} {af : Array Edge} {gd : Option (Nat × Bool)} {w : World} {g n c k : Nat}
set_option maxRecDepth 100000 in
theorem up_lo (hx : ρ x = .slice (some ⟨g, 0, none⟩) n c) (hy : ρ y = .int .i64 (k : Int)) (hk : k ≤ n) (hn : n ≤ c) (hc : c ≤ 9223372036854775807) :
    Rg.up Try.prog w (.slice (some (if c = k then ⟨g, 0, none⟩ else ⟨g, k, none⟩)) (n - k) (c - k)) ((execOp ρ { dst := d, op := .slice 28 x (some y) none none, type := ty, pos := ps, after := af, guard := gd }).run Try.prog w) := by
  simp only [execOp, hx, Option.mapM_some, hy]
  by_cases h : c = k
  · subst h
    have : n = c := by omega
    subst this
    rw [if_pos rfl]
    go_simp
    exact Rg.up_value
  · rw [if_neg h]
    go_simp
    exact Rg.up_value
set_option maxRecDepth 100000 in
theorem up_lo0 (hx : ρ x = .slice none 0 0) (hy : ρ y = .int .i64 0)  :
    Rg.up Try.prog w (.slice none 0 0) ((execOp ρ { dst := d, op := .slice 28 x (some y) none none, type := ty, pos := ps, after := af, guard := gd }).run Try.prog w) := by
  simp only [execOp, hx, hy]
  go_simp
  exact Rg.up_value
set_option maxRecDepth 100000 in
theorem up_hi (hx : ρ x = .slice (some ⟨g, 0, none⟩) n c) (hy : ρ y = .int .i64 (k : Int)) (hk : k ≤ n) (hn : n ≤ c) (hc : c ≤ 9223372036854775807) :
    Rg.up Try.prog w (.slice (some ⟨g, 0, none⟩) k c) ((execOp ρ { dst := d, op := .slice 28 x none (some y) none, type := ty, pos := ps, after := af, guard := gd }).run Try.prog w) := by
  simp only [execOp, hx, hy]
  have hkc : k ≤ c := by omega
  go_simp
  exact Rg.up_value
set_option maxRecDepth 100000 in
theorem up_hi0 (hx : ρ x = .slice none 0 0) (hy : ρ y = .int .i64 0)  :
    Rg.up Try.prog w (.slice none 0 0) ((execOp ρ { dst := d, op := .slice 28 x none (some y) none, type := ty, pos := ps, after := af, guard := gd }).run Try.prog w) := by
  simp only [execOp, hx, hy]
  go_simp
  exact Rg.up_value
end

theorem src_drop {w wz : World} {g k oc : Nat} {l : List Int} (hw : Ext w wz) (hc : ∀ k (h : k < l.length), w.cell? ⟨g, k, none⟩ = some (.int .i64 l[k])) (hoc : l.length ≤ oc) :
    l.drop k = [] ∨ ∃ b off, some (if oc = k then (⟨g, 0, none⟩ : Addr) else ⟨g, k, none⟩) = some ⟨b, off, none⟩ ∧ ∀ j (h : j < (l.drop k).length), wz.cell? ⟨b, off + j, none⟩ = some (.int .i64 (l.drop k)[j]) := by
  rcases Nat.lt_or_ge k l.length with h | h
  · refine .inr ⟨g, k, by rw [if_neg (by omega)], fun j hj => ?_⟩
    rw [List.length_drop] at hj
    have := hc (k + j) (by omega)
    rw [(hw.cells.1 _ _ (World.block_lt_of_cell? w _ this)), List.getElem_drop]
    exact this
  · exact .inl (List.drop_eq_nil_of_le h)
/-- 'append' onto a literal of one int makes a new row, or leaves it. -/
theorem upR_prepend {Pn : Rr.Pnc} {ρ : Operand → Value} {d : Option Tmp} {s y : Operand} {ty : TypeId} {ps : String} {af : Array Edge} {gd : Option (Nat × Bool)} {w : World} {p c : Nat} {A : Option Addr} {id : Int} {us : List Int}
    (hs : ρ s = .slice (some ⟨p, 0, none⟩) 1 1) (hp : w.heap[p]? = some (.cells #[.int .i64 id] 3)) (hy : ρ y = .slice A us.length c)
    (hu : us = [] ∨ ∃ b off, A = some ⟨b, off, none⟩ ∧ ∀ k (h : k < us.length), w.cell? ⟨b, off + k, none⟩ = some (.int .i64 us[k])) (hid : OkI id) (hok : ∀ x ∈ us, OkI x) (hl : us.length ≤ 100000) :
    Rr.upR Try.prog Pn w (fun v w' => IRd w' v (id :: us)) ((execOp ρ { dst := d, op := .call { callee := .builtin .append, args := #[s, y], argTypes := #[28, 28] }, type := ty, pos := ps, after := af, guard := gd }).run Try.prog w) := by
  obtain ⟨i0, hi, hz0, hz1, hz2⟩ := info_parts (show (Try.prog.info? 3).map (fun i => (i.zero, i.size, i.bytes)) = some (some (.int .i64 0), 1, 8) by kernel_rfl)
  have hok2 : ∀ x ∈ id :: us, OkI x := fun x hx => by
    rcases List.mem_cons.1 hx with rfl | hx
    · exact hid
    · exact hok x hx
  by_cases h0 : us = []
  · subst h0
    have hsrc : Src Try.prog i0.size 28 (.slice A 0 c) 0 [] w := by
      rw [hz1]
      cases A with
      | none => exact Src.ofNil w Try.underlying28 c
      | some a => exact Src.ofSlice w Try.underlying28 a 0 c _ (by simp) (by simp) (by simp)
    have hr := run_append_nothing (P := Try.prog) w 28 28 ty 3 i0 Try.underlying28 hi (some ⟨p, 0, none⟩) 1 1 (Nat.le_refl _) (.slice A 0 c) hsrc
    unfold execOp
    simp only [List.length_nil] at hy
    simp only [resolve, invoke, builtin, Sem.run_bind, Sem.run_pure, Result.andThen_ok, List.map_toArray, List.map_cons, List.map_nil, hs, hy, hr]
    exact Rr.upR_value (Ext.refl _) (ird_lit (zs := [id]) hp hok2 rfl (by decide))
  · obtain ⟨b, off, rfl, hcell⟩ := hu.resolve_left h0
    have hpos : 0 < us.length := List.length_pos_iff.2 h0
    obtain ⟨v', w', hr, h2, h3⟩ := run_append_arg_grows (P := Try.prog) w 28 ty 3 i0 _ 1 8 Try.underlying28 hi hz0 hz1 hz2 rfl (by decide) ⟨p, 0, none⟩ 1 1 [.int .i64 id] rfl
      (by
        intro j u hj
        rw [addr_add, cell_of_row w p _ _ _ _ hp]
        simpa using hj) ⟨b, off, none⟩ us.length c (us.map (Value.int .i64)) (by simp)
      (by
        intro j u hu
        have hj : j < us.length := by have := (List.getElem?_eq_some_iff.1 hu).1; simpa using this
        rw [List.getElem?_eq_getElem (by simpa using hj)] at hu
        simp only [List.getElem_map, Option.some.injEq] at hu
        subst hu
        rw [Go.WideShapes.add_plain]
        exact hcell j hj) (by omega) (by unfold maxLen; omega) (by omega)
    unfold execOp
    simp only [resolve, invoke, builtin, Sem.run_bind, Sem.run_pure, Result.andThen_ok, List.map_toArray, List.map_cons, List.map_nil, hs, hy, hr]
    refine Rr.upR_value ⟨h3.os, h3.tape, h3.output, h3.size, fun k hk => h3.block k hk (by simp)⟩ (ird_row (B := w.heap.size) ?_ hok2 (by simp; omega))
    rw [List.length_cons, List.flatMap_cons, celI_map us, Nat.add_comm]
    exact h2

set_option maxRecDepth 100000 in
set_option maxHeartbeats 4000000 in
theorem refKnows_any (xs : List It) (ms : List Ms) (who tm : Int) (vx vm : Value) (w : World) (hx : RI w vx xs) (hm : RM w vm ms) (hs : ms.length ≤ 100 ∧ ∀ m ∈ ms, m.its.length ≤ 100) :
    Calls Try.prog 22 #[vx, vm, .int .i64 who, .int .i64 tm] w fun e w' => ∃ r, e = .returned r ∧ IRd w' r (srt (knowL xs who tm ms)) ∧ Ext w w' := by
  obtain ⟨bx, cx, rfl⟩ := hx.1.form
  obtain ⟨bm, cm, rfl⟩ := hm.1.form
  have hxl := hx.1.le
  have hml := hs.1
  have HX := Lib.hid hx; have HM := Lib.hid hm; have HS := Lib.hid hs
  clear hx hm hs
  go_enter Try.func22, Try.ntmps22
  go_upto_region 3 with (fail)
  go_loopw [9, 10] (fun o k wr => ∃ (j : Nat) (l : List Int), k = .int .i64 j ∧ j ≤ ms.length ∧ Hid (Inc (knowL xs who tm (ms.take j)) l ∧ ∀ x ∈ l, OkI x) ∧ l.length ≤ j * 100 ∧ wr.ownsRow w.heap.size 3 1 o l.length (l.flatMap celI) ∧ Ext w wr) (fun _ k _ => ms.length - (iof k).toNat)
  case atStart => exact ⟨0, [], rfl, by omega, Lib.hid ⟨⟨List.Pairwise.nil, by simp [knowL]⟩, by simp⟩, by simp, World.ownsRow_nil _ _ _ _, Ext.refl _⟩
  case round =>
    obtain ⟨j, l, rfl, hj, HI, hll, hrow, hxr⟩ := hrel
    by_cases hjl : j < ms.length
    · obtain ⟨mb, mo, rfl, -, c0, c1, c2, c3⟩ := ms_at HM.out.1 j hjl
      have hmg := HM.out.2 ms[j] (List.getElem_mem _)
      have hql := HS.out.2 ms[j] (List.getElem_mem _)
      have htk : knowL xs who tm (ms.take (j + 1)) = knowL xs who tm (ms.take j) ++ if cnt who tm ms[j] then ids xs ms[j] else [] := by
        rw [List.take_succ_eq_append_getElem hjl, knowL_snoc]
      generalize ms[j] = q at *
      obtain ⟨q0, q1, q2, qv, qi⟩ := q
      obtain ⟨A, c, hsh⟩ := hmg.shape
      have hir := hmg.2.2.2
      simp only at hsh c0 c1 c2 c3 hql hir
      subst hsh
      unfold cnt at htk
      simp only at htk
      have hids : ids xs ⟨q0, q1, q2, .slice A qi.length c, qi⟩ = qi.filter (fun id => !mis xs id) := rfl
      rw [hids] at htk
      clear hids hmg c0
      generalize knowL xs who tm (ms.take j) = kn at *
      have C1 := Lib.hid c1; have C2 := Lib.hid c2; have C3 := Lib.hid c3; have HIR := Lib.hid hir
      clear c1 c2 c3 hir
      by_cases hA : q1 = who
      · subst hA
        by_cases hB : q2 ≤ tm
        · rw [decide_eq_true rfl, decide_eq_true hB, Bool.and_true, if_pos rfl] at htk
          have Htk := Lib.hid htk; clear htk
          go_upto_region 6 with (fail)
          go_loopw [9, 11] (fun o k wq => ∃ (i : Nat) (l : List Int), k = .int .i64 i ∧ i ≤ qi.length ∧ Hid (Inc (kn ++ (qi.take i).filter (fun id => !mis xs id)) l ∧ ∀ x ∈ l, OkI x) ∧ l.length ≤ j * 100 + i ∧ wq.ownsRow w.heap.size 3 1 o l.length (l.flatMap celI) ∧ Ext w wq) (fun _ k _ => qi.length - (iof k).toNat)
          case atStart => exact ⟨0, l, rfl, by omega, Lib.hid (by simpa using HI.out), by omega, hrow, hxr⟩
          case round =>
            clear HI hrow hxr hll l
            obtain ⟨i, l, rfl, hi, HI, hll, hrow, hxq⟩ := hrel
            have c1 := (hxq.cells.1 _ _ (World.block_lt_of_cell? w _ C1.out)).trans C1.out
            have c2 := (hxq.cells.1 _ _ (World.block_lt_of_cell? w _ C2.out)).trans C2.out
            have c3 := (hxq.cells.1 _ _ (World.block_lt_of_cell? w _ C3.out)).trans C3.out
            by_cases hil : i < qi.length
            · have htq : (qi.take (i + 1)).filter (fun id => !mis xs id) = (qi.take i).filter (fun id => !mis xs id) ++ if mis xs qi[i] then [] else [qi[i]] := by
                rw [List.take_succ_eq_append_getElem hil, List.filter_append]
                congr 1
                cases hq : mis xs qi[i] <;> simp [hq]
              obtain ⟨A', c', e1, -, hrng, hcell⟩ := HIR.out.ext hxq
              injection e1 with e1 e2 e3
              subst e1 e3
              obtain ⟨qb, qo, rfl, hc⟩ := hcell.resolve_left (by intro e; rw [e] at hil; simp at hil)
              have cq := hc i hil
              have hidr := hrng qi[i] (List.getElem_mem _)
              clear hc hcell e2 hrng
              generalize qi[i] = id at *
              generalize (qi.take i).filter (fun id => !mis xs id) = fl at *
              have HOW := Lib.hid hrow
              have hSQ := HX.out.1.ext hxq
              have HSQ := Lib.hid hSQ; clear hSQ
              have hird := ird_row hrow HI.out.2 (by omega)
              obtain ⟨oa, oc, rfl, hoc, hoc2, hcl⟩ := row_form hrow
              have hAm := fun w9 (h : IRd w9 (.slice oa l.length oc) l) => among_any (.slice oa l.length oc) l id w9 h
              have HCL := Lib.hid hcl; have HRD := Lib.hid hird; have HID := Lib.hid hidr
              clear hcl hrow hird hidr
              generalize hbb : l.contains id = bb at hAm
              have HBB := Lib.hid hbb; clear hbb
              have HAM := Lib.hid hAm; clear hAm
              cases bb
              · by_cases hmis : mis xs id = true
                · rw [if_pos hmis, List.append_nil] at htq
                  have Htq := Lib.hid htq; have HMI := Lib.hid hmis; clear htq hmis
                  go_wp2_with (first
                    | (go_at_call 38; (with_reducible refine (HAM.out _ HRD.out).mono ?_); rintro e w9 ⟨rfl, hw9⟩; have h9 := hw9.symm; clear hw9; subst h9)
                    | (go_at_call 28; (with_reducible refine (find_any _ xs _ _ HSQ.out).mono ?_); rintro e w9 ⟨z, rfl, hz, hw9⟩; have h9 := hw9.symm; clear hw9; subst h9; have hz0 : z < 0 := hz.neg.2 HMI.out; clear hz))
                  exact ⟨⟨i + 1, l, by simp, by omega, Lib.hid (by rw [Htq.out]; exact HI.out), by omega, HOW.out, hxq⟩, by simp; omega⟩
                · rw [if_neg hmis] at htq
                  have Htq := Lib.hid htq; have HMI := Lib.hid hmis; clear htq hmis
                  go_upto_region 12 with (first
                    | (go_at_call 38; (with_reducible refine (HAM.out _ HRD.out).mono ?_); rintro e w9 ⟨rfl, hw9⟩; have h9 := hw9.symm; clear hw9; subst h9)
                    | (go_at_call 28; (with_reducible refine (find_any _ xs _ _ HSQ.out).mono ?_); rintro e w9 ⟨z, rfl, hz, hw9⟩; have h9 := hw9.symm; clear hw9; subst h9; have hz0 : ¬ z < 0 := fun h => HMI.out (hz.neg.1 h); clear hz))
                  go_loopw [14] (fun a wz => ∃ k : Nat, a = .int .i64 k ∧ k ≤ l.length ∧ Hid (∀ i (hi : i < l.length), k ≤ i → id < l[i]) ∧ wz = wr) (fun a _ => (iof a).toNat)
                  case atStart => exact ⟨l.length, rfl, Nat.le_refl _, Lib.hid (fun i hi h => by omega), rfl⟩
                  case round =>
                    obtain ⟨k, rfl, hk, HK, rfl⟩ := hrel
                    have HNM : Hid (id ∉ l) := Lib.hid (by have := HBB.out; simpa using this)
                    rcases k with _ | m
                    · rcases HCL.out with ⟨rfl, rfl, rfl⟩ | ⟨g, rfl, hgb, hgc⟩
                      · skip
                        have HLO := Lib.hid (HI.out.1.lt hk (.inl rfl) HNM.out)
                        have hdl : (([] : List Int).drop 0).length = ([] : List Int).length - 0 := List.length_drop
                        have HDL := Lib.hid hdl; clear hdl
                        go_upto_region 14 with (fail)
                        refine Rp.wp_regionT [(0, .y), (1, .y), (2, .y), (3, .y), (5, .y), (6, .y), (7, .y), (4, .m), (8, .z)] [9, 10] (fun _ => (.cells #[.int .i64 id] 3, fun p => .slice (some ⟨p, 0, none⟩) 1 1)) (by kernel_rfl) (by kernel_rfl) ?_
                        (refine Rr.wr_y (by simp only [List.getElem?_toArray, List.getElem?_cons_succ, List.getElem?_cons_zero]; rfl) (by rfl) ?_
                         apply Exists.intro
                         refine ⟨fun wz hw _ => ?_, ?_⟩
                         · have hcz := hw.cells.1
                           go_simp
                           (with_reducible exact Rg.up_value)
                         simp only [Act.put, List.setIfInBounds_toArray, List.set_cons_zero, List.set_cons_succ])
                        (refine Rr.wr_y (by simp only [List.getElem?_toArray, List.getElem?_cons_succ, List.getElem?_cons_zero]; rfl) (by rfl) ?_
                         apply Exists.intro
                         refine ⟨fun wz hw _ => ?_, ?_⟩
                         · have hcz := hw.cells.1
                           go_simp
                           (with_reducible exact Rg.up_value)
                         simp only [Act.put, List.setIfInBounds_toArray, List.set_cons_zero, List.set_cons_succ])
                        (refine Rr.wr_y (by simp only [List.getElem?_toArray, List.getElem?_cons_succ, List.getElem?_cons_zero]; rfl) (by rfl) ?_
                         refine ⟨_, fun wz hw _ => up_hi0 (by rfl) (by rfl), ?_⟩
                         simp only [Act.put, List.setIfInBounds_toArray, List.set_cons_zero, List.set_cons_succ])
                        (refine Rr.wr_y (by simp only [List.getElem?_toArray, List.getElem?_cons_succ, List.getElem?_cons_zero]; rfl) (by rfl) ?_
                         apply Exists.intro
                         refine ⟨fun wz hw _ => ?_, ?_⟩
                         · have hcz := hw.cells.1
                           go_simp
                           (with_reducible exact Rg.up_value)
                         simp only [Act.put, List.setIfInBounds_toArray, List.set_cons_zero, List.set_cons_succ])
                        (refine Rr.wr_y (by simp only [List.getElem?_toArray, List.getElem?_cons_succ, List.getElem?_cons_zero]; rfl) (by rfl) ?_
                         apply Exists.intro
                         refine ⟨fun wz hw _ => ?_, ?_⟩
                         · have hcz := hw.cells.1
                           go_simp
                           (with_reducible exact Rg.up_value)
                         simp only [Act.put, List.setIfInBounds_toArray, List.set_cons_zero, List.set_cons_succ])
                        (refine Rr.wr_y (by simp only [List.getElem?_toArray, List.getElem?_cons_succ, List.getElem?_cons_zero]; rfl) (by rfl) ?_
                         apply Exists.intro
                         refine ⟨fun wz hw _ => ?_, ?_⟩
                         · have hcz := hw.cells.1
                           go_simp
                           (with_reducible exact Rg.up_value)
                         simp only [Act.put, List.setIfInBounds_toArray, List.set_cons_zero, List.set_cons_succ])
                        (refine Rr.wr_y (by simp only [List.getElem?_toArray, List.getElem?_cons_succ, List.getElem?_cons_zero]; rfl) (by rfl) ?_
                         refine ⟨_, fun wz hw _ => up_lo0 (by rfl) (by rfl), ?_⟩
                         simp only [Act.put, List.setIfInBounds_toArray, List.set_cons_zero, List.set_cons_succ])
                        refine Rr.wr_m (by simp only [List.getElem?_toArray, List.getElem?_cons_succ, List.getElem?_cons_zero]; rfl) (by rfl) (fun wz => by go_simp) (fun p hp => ?_)
                        simp only [Act.put, List.setIfInBounds_toArray, List.set_cons_zero, List.set_cons_succ]
                        refine Rr.wr_z (fun v w' => IRd w' v (id :: ([] : List Int).drop 0)) (by simp only [List.getElem?_toArray, List.getElem?_cons_succ, List.getElem?_cons_zero]; rfl) (by rfl) (fun v w1 w2 h e => h.ext e) (fun wz hw hh => ?_) (fun u => ?_)
                        · have hbp := (hh _ List.mem_cons_self).2
                          refine upR_prepend (p := p) (us := ([] : List Int).drop 0) (by rfl) hbp (by rw [HDL.out]; rfl) ?_ HID.out (fun x hx => HI.out.2 x (List.mem_of_mem_drop hx)) (by have := HDL.out; omega)
                          exact .inl rfl
                        simp only [Act.put, List.setIfInBounds_toArray, List.set_cons_zero, List.set_cons_succ]
                        refine Rr.wr_nil ?_
                        intro wy hy hh
                        have hsrc := hh _ List.mem_cons_self
                        simp only [List.filterMap_cons, List.filterMap_nil, List.getElem?_cons_succ, List.getElem?_cons_zero]
                        obtain ⟨sa, sc, hsv, -, -, hsc⟩ := hsrc
                        refine append_any rfl (.tmp 84) (.tmp 90) rfl w.heap.size _ (([] : List Int).take 0) (by rfl) (row_cut (row_ext HOW.out hy) hk) sa sc (id :: ([] : List Int).drop 0) hsv hsc (by have := HDL.out; simp only [List.length_cons, List.length_take]; omega) (by have := hxq.size; have := hy.size; omega) ?_
                        intro v' w' hr' hg' hv' _
                        obtain ⟨g', cap', rfl⟩ := hv' (by simp)
                        have hxe : Ext w w' := grown_ext (hxq.trans hy) (row_cut (row_ext HOW.out hy) hk) (Nat.le_refl _) hg'
                        have HR' := Lib.hid hr'; clear hr' hg' hv' hsc hh hsv
                        generalize (([] : List Int).take 0).length + (id :: ([] : List Int).drop 0).length = n' at *
                        go_wp2_with (fail)
                        refine ⟨⟨i + 1, ([] : List Int).take 0 ++ id :: ([] : List Int).drop 0, by simp, by omega, Lib.hid ⟨?_, ?_⟩, ?_, HR'.out, hxe⟩, by simp; omega⟩
                        · rw [Htq.out, ← List.append_assoc]
                          exact HI.out.1.ins hk HK.out HLO.out
                        · intro x hx
                          rcases List.mem_append.1 hx with hx | hx
                          · exact HI.out.2 x (List.mem_of_mem_take hx)
                          · rcases List.mem_cons.1 hx with rfl | hx
                            · exact HID.out
                            · exact HI.out.2 x (List.mem_of_mem_drop hx)
                        · have := HDL.out
                          simp only [List.length_append, List.length_cons, List.length_take]
                          omega
                      · have HGC := Lib.hid hgc; clear hgc
                        have HLO := Lib.hid (HI.out.1.lt hk (.inl rfl) HNM.out)
                        have hdl : (l.drop 0).length = l.length - 0 := List.length_drop
                        have HDL := Lib.hid hdl; clear hdl
                        go_upto_region 14 with (fail)
                        refine Rp.wp_regionT [(0, .y), (1, .y), (2, .y), (3, .y), (5, .y), (6, .y), (7, .y), (4, .m), (8, .z)] [9, 10] (fun _ => (.cells #[.int .i64 id] 3, fun p => .slice (some ⟨p, 0, none⟩) 1 1)) (by kernel_rfl) (by kernel_rfl) ?_
                        (refine Rr.wr_y (by simp only [List.getElem?_toArray, List.getElem?_cons_succ, List.getElem?_cons_zero]; rfl) (by rfl) ?_
                         apply Exists.intro
                         refine ⟨fun wz hw _ => ?_, ?_⟩
                         · have hcz := hw.cells.1
                           go_simp
                           (with_reducible exact Rg.up_value)
                         simp only [Act.put, List.setIfInBounds_toArray, List.set_cons_zero, List.set_cons_succ])
                        (refine Rr.wr_y (by simp only [List.getElem?_toArray, List.getElem?_cons_succ, List.getElem?_cons_zero]; rfl) (by rfl) ?_
                         apply Exists.intro
                         refine ⟨fun wz hw _ => ?_, ?_⟩
                         · have hcz := hw.cells.1
                           go_simp
                           (with_reducible exact Rg.up_value)
                         simp only [Act.put, List.setIfInBounds_toArray, List.set_cons_zero, List.set_cons_succ])
                        (refine Rr.wr_y (by simp only [List.getElem?_toArray, List.getElem?_cons_succ, List.getElem?_cons_zero]; rfl) (by rfl) ?_
                         refine ⟨_, fun wz hw _ => up_hi (k := 0) (by rfl) (by rfl) hk hoc hoc2, ?_⟩
                         simp only [Act.put, List.setIfInBounds_toArray, List.set_cons_zero, List.set_cons_succ])
                        (refine Rr.wr_y (by simp only [List.getElem?_toArray, List.getElem?_cons_succ, List.getElem?_cons_zero]; rfl) (by rfl) ?_
                         apply Exists.intro
                         refine ⟨fun wz hw _ => ?_, ?_⟩
                         · have hcz := hw.cells.1
                           go_simp
                           (with_reducible exact Rg.up_value)
                         simp only [Act.put, List.setIfInBounds_toArray, List.set_cons_zero, List.set_cons_succ])
                        (refine Rr.wr_y (by simp only [List.getElem?_toArray, List.getElem?_cons_succ, List.getElem?_cons_zero]; rfl) (by rfl) ?_
                         apply Exists.intro
                         refine ⟨fun wz hw _ => ?_, ?_⟩
                         · have hcz := hw.cells.1
                           go_simp
                           (with_reducible exact Rg.up_value)
                         simp only [Act.put, List.setIfInBounds_toArray, List.set_cons_zero, List.set_cons_succ])
                        (refine Rr.wr_y (by simp only [List.getElem?_toArray, List.getElem?_cons_succ, List.getElem?_cons_zero]; rfl) (by rfl) ?_
                         apply Exists.intro
                         refine ⟨fun wz hw _ => ?_, ?_⟩
                         · have hcz := hw.cells.1
                           go_simp
                           (with_reducible exact Rg.up_value)
                         simp only [Act.put, List.setIfInBounds_toArray, List.set_cons_zero, List.set_cons_succ])
                        (refine Rr.wr_y (by simp only [List.getElem?_toArray, List.getElem?_cons_succ, List.getElem?_cons_zero]; rfl) (by rfl) ?_
                         refine ⟨_, fun wz hw _ => up_lo (k := 0) (by rfl) (by rfl) hk hoc hoc2, ?_⟩
                         simp only [Act.put, List.setIfInBounds_toArray, List.set_cons_zero, List.set_cons_succ])
                        refine Rr.wr_m (by simp only [List.getElem?_toArray, List.getElem?_cons_succ, List.getElem?_cons_zero]; rfl) (by rfl) (fun wz => by go_simp) (fun p hp => ?_)
                        simp only [Act.put, List.setIfInBounds_toArray, List.set_cons_zero, List.set_cons_succ]
                        refine Rr.wr_z (fun v w' => IRd w' v (id :: l.drop 0)) (by simp only [List.getElem?_toArray, List.getElem?_cons_succ, List.getElem?_cons_zero]; rfl) (by rfl) (fun v w1 w2 h e => h.ext e) (fun wz hw hh => ?_) (fun u => ?_)
                        · have hbp := (hh _ List.mem_cons_self).2
                          refine upR_prepend (p := p) (us := l.drop 0) (by rfl) hbp (by rw [HDL.out]; rfl) ?_ HID.out (fun x hx => HI.out.2 x (List.mem_of_mem_drop hx)) (by have := HDL.out; omega)
                          exact src_drop hw HGC.out hoc
                        simp only [Act.put, List.setIfInBounds_toArray, List.set_cons_zero, List.set_cons_succ]
                        refine Rr.wr_nil ?_
                        intro wy hy hh
                        have hsrc := hh _ List.mem_cons_self
                        simp only [List.filterMap_cons, List.filterMap_nil, List.getElem?_cons_succ, List.getElem?_cons_zero]
                        obtain ⟨sa, sc, hsv, -, -, hsc⟩ := hsrc
                        refine append_any rfl (.tmp 84) (.tmp 90) rfl w.heap.size _ (l.take 0) (by rfl) (row_cut (row_ext HOW.out hy) hk) sa sc (id :: l.drop 0) hsv hsc (by have := HDL.out; simp only [List.length_cons, List.length_take]; omega) (by have := hxq.size; have := hy.size; omega) ?_
                        intro v' w' hr' hg' hv' _
                        obtain ⟨g', cap', rfl⟩ := hv' (by simp)
                        have hxe : Ext w w' := grown_ext (hxq.trans hy) (row_cut (row_ext HOW.out hy) hk) (Nat.le_refl _) hg'
                        have HR' := Lib.hid hr'; clear hr' hg' hv' hsc hh hsv
                        generalize (l.take 0).length + (id :: l.drop 0).length = n' at *
                        go_wp2_with (fail)
                        refine ⟨⟨i + 1, l.take 0 ++ id :: l.drop 0, by simp, by omega, Lib.hid ⟨?_, ?_⟩, ?_, HR'.out, hxe⟩, by simp; omega⟩
                        · rw [Htq.out, ← List.append_assoc]
                          exact HI.out.1.ins hk HK.out HLO.out
                        · intro x hx
                          rcases List.mem_append.1 hx with hx | hx
                          · exact HI.out.2 x (List.mem_of_mem_take hx)
                          · rcases List.mem_cons.1 hx with rfl | hx
                            · exact HID.out
                            · exact HI.out.2 x (List.mem_of_mem_drop hx)
                        · have := HDL.out
                          simp only [List.length_append, List.length_cons, List.length_take]
                          omega
                    · obtain ⟨g, rfl, hgb, hgc⟩ := HCL.out.resolve_left (by rintro ⟨rfl, -, -⟩; simp at hk)
                      have cm := hgc m (by omega)
                      have HGC := Lib.hid hgc; clear hgc
                      by_cases hgt : id < l[m]
                      · have HDN : Hid (∀ i (hi : i < l.length), m ≤ i → id < l[i]) := Lib.hid fun i hi hmi => by
                          by_cases e : i = m
                          · subst e; exact hgt
                          · exact HK.out i hi (by omega)
                        generalize l[m] = y at *
                        go_wp2_with (fail)
                        exact ⟨⟨m, by simp, by omega, Lib.hid (fun i hi hmi => HDN.out i hi hmi), trivial⟩, by simp⟩
                      · have HNG : Hid (∃ hi : m + 1 - 1 < l.length, ¬ id < l[m + 1 - 1]) := Lib.hid ⟨by omega, hgt⟩
                        generalize l[m] = y at *
                        have HLO := Lib.hid (HI.out.1.lt hk (.inr HNG.out) HNM.out)
                        have hdl : (l.drop (m + 1)).length = l.length - (m + 1) := List.length_drop
                        have HDL := Lib.hid hdl; clear hdl
                        go_upto_region 14 with (fail)
                        refine Rp.wp_regionT [(0, .y), (1, .y), (2, .y), (3, .y), (5, .y), (6, .y), (7, .y), (4, .m), (8, .z)] [9, 10] (fun _ => (.cells #[.int .i64 id] 3, fun p => .slice (some ⟨p, 0, none⟩) 1 1)) (by kernel_rfl) (by kernel_rfl) ?_
                        (refine Rr.wr_y (by simp only [List.getElem?_toArray, List.getElem?_cons_succ, List.getElem?_cons_zero]; rfl) (by rfl) ?_
                         apply Exists.intro
                         refine ⟨fun wz hw _ => ?_, ?_⟩
                         · have hcz := hw.cells.1
                           go_simp
                           (with_reducible exact Rg.up_value)
                         simp only [Act.put, List.setIfInBounds_toArray, List.set_cons_zero, List.set_cons_succ])
                        (refine Rr.wr_y (by simp only [List.getElem?_toArray, List.getElem?_cons_succ, List.getElem?_cons_zero]; rfl) (by rfl) ?_
                         apply Exists.intro
                         refine ⟨fun wz hw _ => ?_, ?_⟩
                         · have hcz := hw.cells.1
                           go_simp
                           (with_reducible exact Rg.up_value)
                         simp only [Act.put, List.setIfInBounds_toArray, List.set_cons_zero, List.set_cons_succ])
                        (refine Rr.wr_y (by simp only [List.getElem?_toArray, List.getElem?_cons_succ, List.getElem?_cons_zero]; rfl) (by rfl) ?_
                         refine ⟨_, fun wz hw _ => up_hi (k := m + 1) (by rfl) (by rfl) hk hoc hoc2, ?_⟩
                         simp only [Act.put, List.setIfInBounds_toArray, List.set_cons_zero, List.set_cons_succ])
                        (refine Rr.wr_y (by simp only [List.getElem?_toArray, List.getElem?_cons_succ, List.getElem?_cons_zero]; rfl) (by rfl) ?_
                         apply Exists.intro
                         refine ⟨fun wz hw _ => ?_, ?_⟩
                         · have hcz := hw.cells.1
                           go_simp
                           (with_reducible exact Rg.up_value)
                         simp only [Act.put, List.setIfInBounds_toArray, List.set_cons_zero, List.set_cons_succ])
                        (refine Rr.wr_y (by simp only [List.getElem?_toArray, List.getElem?_cons_succ, List.getElem?_cons_zero]; rfl) (by rfl) ?_
                         apply Exists.intro
                         refine ⟨fun wz hw _ => ?_, ?_⟩
                         · have hcz := hw.cells.1
                           go_simp
                           (with_reducible exact Rg.up_value)
                         simp only [Act.put, List.setIfInBounds_toArray, List.set_cons_zero, List.set_cons_succ])
                        (refine Rr.wr_y (by simp only [List.getElem?_toArray, List.getElem?_cons_succ, List.getElem?_cons_zero]; rfl) (by rfl) ?_
                         apply Exists.intro
                         refine ⟨fun wz hw _ => ?_, ?_⟩
                         · have hcz := hw.cells.1
                           go_simp
                           (with_reducible exact Rg.up_value)
                         simp only [Act.put, List.setIfInBounds_toArray, List.set_cons_zero, List.set_cons_succ])
                        (refine Rr.wr_y (by simp only [List.getElem?_toArray, List.getElem?_cons_succ, List.getElem?_cons_zero]; rfl) (by rfl) ?_
                         refine ⟨_, fun wz hw _ => up_lo (k := m + 1) (by rfl) (by rfl) hk hoc hoc2, ?_⟩
                         simp only [Act.put, List.setIfInBounds_toArray, List.set_cons_zero, List.set_cons_succ])
                        refine Rr.wr_m (by simp only [List.getElem?_toArray, List.getElem?_cons_succ, List.getElem?_cons_zero]; rfl) (by rfl) (fun wz => by go_simp) (fun p hp => ?_)
                        simp only [Act.put, List.setIfInBounds_toArray, List.set_cons_zero, List.set_cons_succ]
                        refine Rr.wr_z (fun v w' => IRd w' v (id :: l.drop (m + 1))) (by simp only [List.getElem?_toArray, List.getElem?_cons_succ, List.getElem?_cons_zero]; rfl) (by rfl) (fun v w1 w2 h e => h.ext e) (fun wz hw hh => ?_) (fun u => ?_)
                        · have hbp := (hh _ List.mem_cons_self).2
                          refine upR_prepend (p := p) (us := l.drop (m + 1)) (by rfl) hbp (by rw [HDL.out]; rfl) ?_ HID.out (fun x hx => HI.out.2 x (List.mem_of_mem_drop hx)) (by have := HDL.out; omega)
                          exact src_drop hw HGC.out hoc
                        simp only [Act.put, List.setIfInBounds_toArray, List.set_cons_zero, List.set_cons_succ]
                        refine Rr.wr_nil ?_
                        intro wy hy hh
                        have hsrc := hh _ List.mem_cons_self
                        simp only [List.filterMap_cons, List.filterMap_nil, List.getElem?_cons_succ, List.getElem?_cons_zero]
                        obtain ⟨sa, sc, hsv, -, -, hsc⟩ := hsrc
                        refine append_any rfl (.tmp 84) (.tmp 90) rfl w.heap.size _ (l.take (m + 1)) (by rfl) (row_cut (row_ext HOW.out hy) hk) sa sc (id :: l.drop (m + 1)) hsv hsc (by have := HDL.out; simp only [List.length_cons, List.length_take]; omega) (by have := hxq.size; have := hy.size; omega) ?_
                        intro v' w' hr' hg' hv' _
                        obtain ⟨g', cap', rfl⟩ := hv' (by simp)
                        have hxe : Ext w w' := grown_ext (hxq.trans hy) (row_cut (row_ext HOW.out hy) hk) (Nat.le_refl _) hg'
                        have HR' := Lib.hid hr'; clear hr' hg' hv' hsc hh hsv
                        generalize (l.take (m + 1)).length + (id :: l.drop (m + 1)).length = n' at *
                        go_wp2_with (fail)
                        refine ⟨⟨i + 1, l.take (m + 1) ++ id :: l.drop (m + 1), by simp, by omega, Lib.hid ⟨?_, ?_⟩, ?_, HR'.out, hxe⟩, by simp; omega⟩
                        · rw [Htq.out, ← List.append_assoc]
                          exact HI.out.1.ins hk HK.out HLO.out
                        · intro x hx
                          rcases List.mem_append.1 hx with hx | hx
                          · exact HI.out.2 x (List.mem_of_mem_take hx)
                          · rcases List.mem_cons.1 hx with rfl | hx
                            · exact HID.out
                            · exact HI.out.2 x (List.mem_of_mem_drop hx)
                        · have := HDL.out
                          simp only [List.length_append, List.length_cons, List.length_take]
                          omega
              · have HIN : Hid (id ∈ l) := Lib.hid (by have := HBB.out; simpa using this)
                have Htq := Lib.hid htq; clear htq
                go_wp2_with (go_at_call 38; (with_reducible refine (HAM.out _ HRD.out).mono ?_); rintro e w9 ⟨rfl, hw9⟩; have h9 := hw9.symm; clear hw9; subst h9)
                exact ⟨⟨i + 1, l, by simp, by omega, Lib.hid ⟨by rw [Htq.out, ← List.append_assoc]; exact HI.out.1.more HIN.out _ (ite_mem _ _), HI.out.2⟩, by omega, HOW.out, hxq⟩, by simp; omega⟩
            · obtain rfl : i = qi.length := by omega
              rw [List.take_length] at HI
              go_wp2_with (fail)
              exact ⟨⟨j + 1, l, by simp, by omega, Lib.hid (by rw [Htk.out]; exact HI.out), by omega, hrow, hxq⟩, by simp; omega⟩
        · rw [decide_eq_true rfl, decide_eq_false hB, Bool.and_false, if_neg (by simp), List.append_nil] at htk
          have Htk := Lib.hid htk; clear htk
          go_upto_region 6 with (fail)
          obtain ⟨w4, hw4⟩ : ∃ w4, w4 = wr := ⟨wr, rfl⟩
          subst hw4
          obtain ⟨oa, oc, hoe, -, -, -⟩ := row_form hrow
          subst hoe
          go_loopw [9, 11] (fun o k wq => k = .int .i64 (0 : Nat) ∧ o = .slice oa l.length oc ∧ wq = w4) (fun _ _ _ => 0)
          case atStart => exact ⟨rfl, rfl, rfl⟩
          case round =>
            obtain ⟨rfl, rfl, rfl⟩ := hrel
            have c1 := (hxr.cells.1 _ _ (World.block_lt_of_cell? w _ C1.out)).trans C1.out
            have c2 := (hxr.cells.1 _ _ (World.block_lt_of_cell? w _ C2.out)).trans C2.out
            have c3 := (hxr.cells.1 _ _ (World.block_lt_of_cell? w _ C3.out)).trans C3.out
            by_cases hq0 : 0 < qi.length
            · go_wp2_with (fail)
              exact ⟨⟨j + 1, l, by simp, by omega, Lib.hid (by rw [Htk.out]; exact HI.out), by omega, hrow, hxr⟩, by simp; omega⟩
            · go_wp2_with (fail)
              exact ⟨⟨j + 1, l, by simp, by omega, Lib.hid (by rw [Htk.out]; exact HI.out), by omega, hrow, hxr⟩, by simp; omega⟩
      · rw [decide_eq_false hA, Bool.false_and, if_neg (by simp), List.append_nil] at htk
        have Htk := Lib.hid htk; clear htk
        go_upto_region 6 with (fail)
        obtain ⟨w4, hw4⟩ : ∃ w4, w4 = wr := ⟨wr, rfl⟩
        subst hw4
        obtain ⟨oa, oc, hoe, -, -, -⟩ := row_form hrow
        subst hoe
        go_loopw [9, 11] (fun o k wq => k = .int .i64 (0 : Nat) ∧ o = .slice oa l.length oc ∧ wq = w4) (fun _ _ _ => 0)
        case atStart => exact ⟨rfl, rfl, rfl⟩
        case round =>
          obtain ⟨rfl, rfl, rfl⟩ := hrel
          have c1 := (hxr.cells.1 _ _ (World.block_lt_of_cell? w _ C1.out)).trans C1.out
          have c2 := (hxr.cells.1 _ _ (World.block_lt_of_cell? w _ C2.out)).trans C2.out
          have c3 := (hxr.cells.1 _ _ (World.block_lt_of_cell? w _ C3.out)).trans C3.out
          by_cases hq0 : 0 < qi.length
          · go_wp2_with (fail)
            exact ⟨⟨j + 1, l, by simp, by omega, Lib.hid (by rw [Htk.out]; exact HI.out), by omega, hrow, hxr⟩, by simp; omega⟩
          · go_wp2_with (fail)
            exact ⟨⟨j + 1, l, by simp, by omega, Lib.hid (by rw [Htk.out]; exact HI.out), by omega, hrow, hxr⟩, by simp; omega⟩
    · obtain rfl : j = ms.length := by omega
      rw [List.take_length] at HI
      have hird := Lib.hid (ird_row hrow HI.out.2 (by omega))
      go_wp2_with (fail)
      go_ret
      refine ⟨_, rfl, ?_, hxr⟩
      have h1 := srt_spec (knowL xs who tm ms)
      rw [← incr_eq HI.out.1.1 h1.1 (fun x => (HI.out.1.2 x).trans (h1.2 x).symm)]
      exact hird.out

end Go.Proofs.Ythdhlocoiipbaaa
