/-
  A value hangs only on what its names mean. Nothing is asked.
-/
import Derived.Test.YtgkdeknfmmgbdaaVa
import Derived.Laws.AppendOwnNone
namespace Go.Proofs.Ytgkdeknfmmgbdaa
set_option linter.unusedVariables false
set_option linter.unusedSimpArgs false
open Go.RowKit

mutual
/-- All names of the tree have N. -/
def namesIn (N : ByteArray → Prop) : Ex → Prop
  | .mk op _ nm ts => ((op.toList == [110, 97, 109, 101]) = true → N nm) ∧ namesL N ts
def namesL (N : ByteArray → Prop) : List Ex → Prop
  | [] => True
  | t :: ts => namesIn N t ∧ namesL N ts
end
mutual
theorem valueE_congr {vs vs' : Vals} {N : ByteArray → Prop} (h : ∀ nm, N nm → look vs' nm = look vs nm) : ∀ t, namesIn N t → valueE vs' t = valueE vs t
  | .mk op n nm ts, hn => by
    unfold namesIn at hn
    unfold valueE
    by_cases h1 : (op.toList == [110, 117, 109]) = true
    · rw [if_pos h1, if_pos h1]
    · rw [if_neg h1, if_neg h1]
      by_cases h2 : (op.toList == [110, 97, 109, 101]) = true
      · rw [if_pos h2, if_pos h2, h nm (hn.1 h2)]
      · rw [if_neg h2, if_neg h2, valueL_congr h ts hn.2]
theorem valueL_congr {vs vs' : Vals} {N : ByteArray → Prop} (h : ∀ nm, N nm → look vs' nm = look vs nm) : ∀ ts, namesL N ts → valueL vs' ts = valueL vs ts
  | [], _ => by unfold valueL; rfl
  | t :: ts, hn => by
    unfold namesL at hn
    unfold valueL
    rw [valueE_congr h t hn.1, valueL_congr h ts hn.2]
end
theorem evalI_congr {vs vs' : Vals} {N : ByteArray → Prop} (h : ∀ nm, N nm → look vs' nm = look vs nm) (t : Ex) (hn : namesIn N t) : evalI vs' t = evalI vs t := by
  unfold evalI
  rw [valueE_congr h t hn]

abbrev isName (nm : ByteArray) : Prop := ∃ i, i < 4 ∧ nm = nameB4 i
abbrev otherB : ByteArray := ⟨#[111, 116, 104, 101, 114]⟩
def otherV (n : Int) (vs : Vals) : Vals := (otherB, n) :: (vs ++ (otherB, 1) :: vs.map fun x => (x.1, n))
theorem look_app (a b : Vals) (nm : ByteArray) : look (a ++ b) nm = (match look a nm with | some k => some k | none => look b nm) := by
  induction a with
  | nil => rfl
  | cons x a ih =>
    rw [List.cons_append, look, look]
    split
    · rfl
    · exact ih
theorem look_map (a : Vals) (nm : ByteArray) (n : Int) (h : look a nm = none) : look (a.map fun x => (x.1, n)) nm = none := by
  induction a with
  | nil => rfl
  | cons x a ih =>
    rw [look] at h
    rw [List.map_cons, look]
    split at h
    · cases h
    · rename_i hx
      rw [if_neg hx]
      exact ih h
theorem on0 : (otherB.toList == (nameB4 0).toList) = false := by kernel_rfl
theorem on1 : (otherB.toList == (nameB4 1).toList) = false := by kernel_rfl
theorem on2 : (otherB.toList == (nameB4 2).toList) = false := by kernel_rfl
theorem on3 : (otherB.toList == (nameB4 3).toList) = false := by kernel_rfl
theorem oo0 : ((opNm 0).toList == [110, 97, 109, 101]) = false := by kernel_rfl
theorem oo1 : ((opNm 1).toList == [110, 97, 109, 101]) = false := by kernel_rfl
theorem oo2 : ((opNm 2).toList == [110, 97, 109, 101]) = false := by kernel_rfl
theorem oo3 : ((opNm 3).toList == [110, 97, 109, 101]) = false := by kernel_rfl
theorem oo4 : ((opNm 4).toList == [110, 97, 109, 101]) = false := by kernel_rfl
theorem oo5 : ((opNm 5).toList == [110, 97, 109, 101]) = false := by kernel_rfl
theorem look_other (n : Int) (vs : Vals) (nm : ByteArray) (h : isName nm) : look (otherV n vs) nm = look vs nm := by
  have ho : (otherB.toList == nm.toList) = false := by
    obtain ⟨i, hi, rfl⟩ := h
    match i, hi with
    | 0, _ => exact on0
    | 1, _ => exact on1
    | 2, _ => exact on2
    | 3, _ => exact on3
  rw [otherV, look, if_neg (by rw [ho]; decide), look_app]
  cases hl : look vs nm
  · show look ((otherB, 1) :: _) nm = none
    rw [look, if_neg (by rw [ho]; decide)]
    exact look_map vs nm n hl
  · rfl
theorem names_op {s : ByteArray} {a b : Ex} (hs : (s.toList == [110, 97, 109, 101]) = false) (ha : namesIn isName a) (hb : namesIn isName b) : namesIn isName (opE' s a b) := by
  unfold namesIn
  refine ⟨fun h => absurd (hs.symm.trans h) (by decide), ?_⟩
  unfold namesL
  refine ⟨ha, ?_⟩
  unfold namesL
  refine ⟨hb, ?_⟩
  unfold namesL
  trivial
theorem names_leaf {op : ByteArray} {n : Int × Int} {nm : ByteArray} (h : (op.toList == [110, 97, 109, 101]) = true → isName nm) : namesIn isName (leaf op n nm) := by
  unfold leaf namesIn
  refine ⟨h, ?_⟩
  unfold namesL
  trivial
theorem madeStep_names (st : List Ex) (z : Int) (h : ∀ t ∈ st, namesIn isName t) : ∀ t ∈ madeStep st z, namesIn isName t := by
  obtain ⟨n, hn⟩ : ∃ n, n = modZ z 1000 := ⟨_, rfl⟩
  have hb := modZ_bd z (m := 1000) (by omega)
  rw [← hn] at hb
  rcases (show (n % 10 = 0 ∨ n % 10 = 1) ∨ (n % 10 = 2 ∨ n % 10 = 3 ∨ n % 10 = 4) ∨ 5 ≤ n % 10 by omega) with hr | hr | hr
  · rw [madeStep_num hn hr]
    intro t ht
    rcases List.mem_append.1 ht with ht | ht
    · exact h t ht
    · rw [List.mem_singleton.1 ht]; exact names_leaf (fun h => by rw [show (numB.toList == [110, 97, 109, 101]) = false by kernel_rfl] at h; cases h)
  · rw [madeStep_name hn hr]
    intro t ht
    rcases List.mem_append.1 ht with ht | ht
    · exact h t ht
    · rw [List.mem_singleton.1 ht]; exact names_leaf (fun _ => ⟨_, by omega, rfl⟩)
  · rcases Nat.lt_or_ge 1 st.length with h2 | h2
    · obtain ⟨i, hi⟩ : ∃ i, st.length = i + 2 := ⟨st.length - 2, by omega⟩
      have hst : st = st.take i ++ [st[i]'(by omega), st[i + 1]'(by omega)] := by
        conv => lhs; rw [← List.take_append_drop i st]
        rw [List.drop_eq_getElem_cons (by omega), List.drop_eq_getElem_cons (by omega), List.drop_eq_nil_of_le (by omega)]
      have ha := h _ (List.getElem_mem (show i < st.length by omega))
      have hb := h _ (List.getElem_mem (show i + 1 < st.length by omega))
      rw [hst, madeStep_op hn hr]
      intro t ht
      rcases List.mem_append.1 ht with ht | ht
      · exact h t (List.mem_of_mem_take ht)
      · rw [List.mem_singleton.1 ht]
        refine names_op ?_ ha hb
        match (n / 10 % 6).toNat, (show (n / 10 % 6).toNat < 6 by omega) with
        | 0, _ => exact oo0
        | 1, _ => exact oo1
        | 2, _ => exact oo2
        | 3, _ => exact oo3
        | 4, _ => exact oo4
        | 5, _ => exact oo5
    · rw [madeStep_skip hn hr h2]; exact h
theorem madeJoin_names (t : Ex) (ts : List Ex) (h : namesIn isName t) (hs : ∀ u ∈ ts, namesIn isName u) : namesIn isName (madeJoin t ts) := by
  induction ts generalizing t with
  | nil => exact h
  | cons a ts ih => exact ih _ (names_op (by kernel_rfl) h (hs a List.mem_cons_self)) (fun u hu => hs u (List.mem_cons_of_mem _ hu))
theorem madeE_names (ls : List Int) : namesIn isName (madeE ls) := by
  rw [madeE_fin ls 80 rfl]
  have key : ∀ (l : List Int) (st : List Ex), (∀ t ∈ st, namesIn isName t) → ∀ t ∈ l.foldl madeStep st, namesIn isName t := by
    intro l
    induction l with
    | nil => intro st h; exact h
    | cons z l ih => intro st h; exact ih _ (madeStep_names st z h)
  have h := key (ls.take 80) [] (fun t h => absurd h List.not_mem_nil)
  change ∀ t ∈ madeN ls 80, _ at h
  generalize madeN ls 80 = st at *
  match st with
  | [] => exact names_leaf (fun _ => ⟨0, by decide, rfl⟩)
  | t :: ts => exact madeJoin_names t ts (h t List.mem_cons_self) (fun u hu => h u (List.mem_cons_of_mem _ hu))
/-- A block of one value, just made. -/
theorem PR.fresh {B p : Nat} {w : World} {u : ByteArray × Int} (hb : B ≤ p) (hp : w.heap[p]? = some (.cells #[.string u.1, .int .i64 u.2] 51)) : PR B w (.slice (some ⟨p, 0, none⟩) 1 1) [u] :=
  ⟨rfl, .inr ⟨p, 1, _, rfl, hb, hp, Nat.le_refl _, by unfold maxLen; omega, rfl, rfl⟩⟩
/-- 'append' of a slice of values that is not empty. -/
theorem append_vals {ops : Array Oper} {rest : List Oper} {o : Oper} {a : Act} {Q : Exit → Act → World → Prop} {w : World} (hgd : o.guard = none) (s x : Operand)
    (ho : o.op = .call { callee := .builtin .append, args := #[s, x], argTypes := #[31, 31] }) (B : Nat) (v : Value) (vs : Vals) (hs : a.eval s = v) (hF : PR B w v vs)
    (us : Vals) (xv : Value) (hx : a.eval x = xv) (hX : VRd All w us xv) (hu : us ≠ []) (hn : vs.length + us.length < 1000000) (hB : B ≤ w.heap.size)
    (h : ∀ g cap w', PR B w' (.slice (some ⟨g, 0, none⟩) (vs.length + us.length) cap) (vs ++ us) → Below B w w' → wpList Try.prog ops Q rest (a.put o.dst (.slice (some ⟨g, 0, none⟩) (vs.length + us.length) cap)) w') : wpList Try.prog ops Q (o :: rest) a w := by
  obtain ⟨i0, hi, hz0, hz1, hz2⟩ := info_parts info51
  obtain ⟨base, c, rfl, hl, hr, hcs⟩ := hX
  obtain ⟨b, rfl, -, hcs⟩ := hcs.resolve_left hu
  have hlen : ∀ l : Vals, (l.flatMap cellsP).length = l.length * 2 := by
    intro l
    induction l with
    | nil => rfl
    | cons y l ih => rw [List.flatMap_cons, List.length_append, ih, List.length_cons, show (cellsP y).length = 2 from rfl]; omega
  have hpos : 0 < us.length := List.length_pos_iff.2 hu
  refine wpList_append_lies w hgd s x 31 ho B 51 i0 _ 2 24 (by kernel_rfl) hi hz0 hz1 hz2 rfl (by decide) v vs.length _ hs hF ⟨b, 0, none⟩ us.length c (us.flatMap cellsP) hx (hlen us) ?_ ?_ hpos (by unfold maxLen; omega) (by omega) hB w.heap.size rfl ?_
  · intro j cc hc
    rw [addr_add]
    have hj : j < us.length * 2 := by rw [← hlen us]; exact (List.getElem?_eq_some_iff.1 hc).1
    have hk : j / 2 < us.length := by omega
    have h2 := flat2 us (j / 2) hk
    have h3 := hcs (j / 2) hk
    rcases Nat.mod_two_eq_zero_or_one j with e | e
    · rw [show j = j / 2 * 2 by omega] at hc ⊢
      rw [h2.1] at hc
      rw [h3.1, hc]
    · rw [show j = j / 2 * 2 + 1 by omega] at hc ⊢
      rw [h2.2] at hc
      rw [h3.2, hc]
  · intro cc hc
    obtain ⟨y, -, hy⟩ := List.mem_flatMap.1 hc
    simp [cellsP] at hy
    rcases hy with rfl | rfl <;> rfl
  · intro g cap w' hw hg hat hlt
    refine h g cap w' ?_ ⟨hg.os, hg.tape, hg.output, hg.size, fun k hk => hg.block k (by omega) ?_⟩
    · show w'.ownsRow B 51 2 _ (vs ++ us).length _
      rw [List.flatMap_append, List.length_append]
      exact hw
    · intro e
      have := (hF.lt k e.symm).1
      omega
/-- 'append' of a slice of values, which is nil where it is empty, to one that is not. -/
theorem append_vals' {ops : Array Oper} {rest : List Oper} {o : Oper} {a : Act} {Q : Exit → Act → World → Prop} {w : World} (hgd : o.guard = none) (s x : Operand)
    (ho : o.op = .call { callee := .builtin .append, args := #[s, x], argTypes := #[31, 31] }) (B : Nat) (v : Value) (vs : Vals) (hs : a.eval s = v) (hF : PR B w v vs) (hv : vs ≠ [])
    (us : Vals) (xv : Value) (hx : a.eval x = xv) (hX : VRd All w us xv) (hu : us = [] → xv = .slice none 0 0) (hn : vs.length + us.length < 1000000) (hB : B ≤ w.heap.size)
    (h : ∀ g cap w', PR B w' (.slice (some ⟨g, 0, none⟩) (vs.length + us.length) cap) (vs ++ us) → Below B w w' → wpList Try.prog ops Q rest (a.put o.dst (.slice (some ⟨g, 0, none⟩) (vs.length + us.length) cap)) w') : wpList Try.prog ops Q (o :: rest) a w := by
  by_cases hu0 : us = []
  · obtain ⟨i0, hi, -⟩ := info_parts info51
    refine wpList_append_own_none hgd s x 31 ho B 51 i0 2 (by kernel_rfl) hi v _ _ hs hF (hx.trans (hu hu0)) ?_
    subst hu0
    obtain ⟨g, cap, rfl, -⟩ := hF.form (List.length_pos_iff.2 hv)
    exact h g cap w (by simpa using hF) (Below.refl _ _)
  · exact append_vals hgd s x ho B v vs hs hF us xv hx hX hu0 hn hB h
theorem evalI_other (n : Int) (vs : Vals) (ls : List Int) : evalI (otherV n vs) (madeE ls) = evalI vs (madeE ls) :=
  evalI_congr (fun nm h => look_other n vs nm h) _ (madeE_names ls)
abbrev missB : ByteArray := ⟨#[109, 105, 115, 115, 105, 110, 103]⟩
theorem look_none {vs : Vals} {nm : ByteArray} (h : ∀ x ∈ vs, (x.1.toList == nm.toList) = false) : look vs nm = none := by
  induction vs with
  | nil => rfl
  | cons x l ih =>
    rw [look, if_neg (by rw [h x List.mem_cons_self]; decide)]
    exact ih fun y hy => h y (List.mem_cons_of_mem _ hy)
theorem valN_names (k : Nat) (l : List Int) : ∀ x ∈ valN k l, isName x.1 := by
  induction l generalizing k with
  | nil => intro x hx; cases hx
  | cons z l ih =>
    intro x hx
    rw [valN] at hx
    rcases List.mem_cons.1 hx with rfl | hx
    · exact ⟨k % 4, by omega, rfl⟩
    · exact ih _ x hx
theorem mn0 : ((nameB4 0).toList == missB.toList) = false := by kernel_rfl
theorem mn1 : ((nameB4 1).toList == missB.toList) = false := by kernel_rfl
theorem mn2 : ((nameB4 2).toList == missB.toList) = false := by kernel_rfl
theorem mn3 : ((nameB4 3).toList == missB.toList) = false := by kernel_rfl
theorem miss_name {nm : ByteArray} (h : isName nm) : (nm.toList == missB.toList) = false := by
  obtain ⟨i, hi, rfl⟩ := h
  match i, hi with
  | 0, _ => exact mn0
  | 1, _ => exact mn1
  | 2, _ => exact mn2
  | 3, _ => exact mn3
theorem look_miss (n : Int) (vs : Vals) (h : ∀ x ∈ vs, isName x.1) : look (otherV n vs) missB = none := by
  have ho : (otherB.toList == missB.toList) = false := by kernel_rfl
  refine look_none fun x hx => ?_
  unfold otherV at hx
  simp only [List.mem_cons, List.mem_append, List.mem_map] at hx
  rcases hx with rfl | hx | rfl | ⟨y, hy, rfl⟩
  · exact ho
  · exact miss_name (h x hx)
  · exact ho
  · exact miss_name (h y hy)
abbrev exMiss : Ex := opE' addB (nameE missB) (numE (1, 1))
theorem evalI_miss (n : Int) (vs : Vals) (h : ∀ x ∈ vs, isName x.1) : evalI (otherV n vs) exMiss = ((0, 0), 13) := by
  have hl := look_miss n vs h
  generalize otherV n vs = us at *
  have hw : wrongI exMiss = 0 := by decide +kernel
  have hv : valueE us (nameE missB) = .error 13 := by
    unfold valueE
    rw [if_neg (by decide +kernel), if_pos (by decide +kernel), hl]
  unfold evalI
  rw [if_pos hw]
  have : valueE us exMiss = .error 13 := by
    unfold valueE
    rw [if_neg (by decide +kernel), if_neg (by decide +kernel)]
    unfold valueL valueL valueL
    simp only [hv]
  rw [this]
theorem otherV_range {n : Int} (hn : -9223372036854775808 ≤ n ∧ n ≤ 9223372036854775807) {vs : Vals} (h : VR vs) : VR (otherV n vs) := by
  intro x hx
  unfold otherV at hx
  simp only [List.mem_cons, List.mem_append, List.mem_map] at hx
  rcases hx with rfl | hx | rfl | ⟨y, hy, rfl⟩
  · exact hn
  · exact h x hx
  · exact ⟨by decide, by decide⟩
  · exact hn
end Go.Proofs.Ytgkdeknfmmgbdaa
