/-
  EvalSteep: the plain law. Formulas that are made are well formed; what they give is right; a part that is scaled keeps the order. Nothing is asked.
-/
import Derived.Test.YtgkdeknfmmgbdaaRatX
import Derived.Test.YtgkdeknfmmgbdaaNmP
namespace Go.Proofs.Ytgkdeknfmmgbdaa
set_option linter.unusedVariables false
set_option linter.unusedSimpArgs false
open Go.RowKit

theorem opIx_at0 : opIx (opNm 0) = 0 := by decide +kernel
theorem opIx_at1 : opIx (opNm 1) = 1 := by decide +kernel
theorem opIx_at2 : opIx (opNm 2) = 2 := by decide +kernel
theorem opIx_at3 : opIx (opNm 3) = 3 := by decide +kernel
theorem opIx_at4 : opIx (opNm 4) = 4 := by decide +kernel
theorem opIx_at5 : opIx (opNm 5) = 5 := by decide +kernel
theorem opIx_at (i : Nat) (h : i < 6) : opIx (opNm i) = i := by
  match i, h with
  | 0, _ => exact opIx_at0
  | 1, _ => exact opIx_at1
  | 2, _ => exact opIx_at2
  | 3, _ => exact opIx_at3
  | 4, _ => exact opIx_at4
  | 5, _ => exact opIx_at5
theorem on_num0 : ((opNm 0).toList == [110, 117, 109]) = false := by kernel_rfl
theorem on_num1 : ((opNm 1).toList == [110, 117, 109]) = false := by kernel_rfl
theorem on_num2 : ((opNm 2).toList == [110, 117, 109]) = false := by kernel_rfl
theorem on_num3 : ((opNm 3).toList == [110, 117, 109]) = false := by kernel_rfl
theorem on_num4 : ((opNm 4).toList == [110, 117, 109]) = false := by kernel_rfl
theorem on_num5 : ((opNm 5).toList == [110, 117, 109]) = false := by kernel_rfl
theorem op_not (i : Nat) (h : i < 6) : ((opNm i).toList == [110, 117, 109]) = false ∧ ((opNm i).toList == [110, 97, 109, 101]) = false := by
  match i, h with
  | 0, _ => exact ⟨on_num0, oo0⟩
  | 1, _ => exact ⟨on_num1, oo1⟩
  | 2, _ => exact ⟨on_num2, oo2⟩
  | 3, _ => exact ⟨on_num3, oo3⟩
  | 4, _ => exact ⟨on_num4, oo4⟩
  | 5, _ => exact ⟨on_num5, oo5⟩
theorem num_is : (numB.toList == [110, 117, 109]) = true := by kernel_rfl
theorem name_is : (nameB.toList == [110, 97, 109, 101]) = true := by kernel_rfl
theorem name_not : (nameB.toList == [110, 117, 109]) = false := by kernel_rfl
theorem nil_is : (nilB.toList == ([] : List UInt8)) = true := by kernel_rfl

theorem formed_numE (n : Int × Int) : formedB (numE n) = rightB n.1 n.2 := by
  unfold numE leaf formedB
  rw [if_pos num_is, nil_is]
  rfl
theorem formed_op' (i : Nat) (h : i < 6) (a b : Ex) : formedB (opE' (opNm i) a b) = (formedB a && formedB b) := by
  obtain ⟨h1, h2⟩ := op_not i h
  have hL : formedL [a, b] = (formedB a && formedB b) := by rw [formedL, formedL, formedL, Bool.and_true]
  have hn : (((i : Nat) : Int) == -1) = false := by rw [beq_eq_false_iff_ne]; omega
  unfold opE'
  rw [formedB, if_neg (by rw [h1]; decide), if_neg (by rw [h2]; decide), opIx_at i h, nil_is, hn, hL]
  rfl
theorem gcd_pos' {n d : Int} (hd : 0 < d) : 0 < Int.gcd n d := by
  rcases Nat.eq_zero_or_pos (Int.gcd n d) with h | h
  · have h2 := Int.gcd_dvd_right n d
    rw [h] at h2
    have := Int.zero_dvd.1 h2
    omega
  · exact h
theorem quickZ_right (n d : Int) (hd : 0 < d) : rightB (quickZ n d).1 (quickZ n d).2 = true := by
  obtain ⟨g, x, y, hg, hgp, hx, hy, hc, -, -⟩ := gcd_split n d hd
  have h1 : n.tdiv g = x := by rw [hx, Int.mul_tdiv_cancel_left _ (by omega)]
  have h2 : d.tdiv g = y := by rw [hy, Int.mul_tdiv_cancel_left _ (by omega)]
  unfold quickZ
  simp only [hg, h1, h2]
  exact (rightB_iff _ _).2 ⟨pos_of_mul hgp (by rw [← hy]; exact hd), hc⟩
theorem nb0 : ((nameB4 0).toList == ([] : List UInt8)) = false := by kernel_rfl
theorem nb1 : ((nameB4 1).toList == ([] : List UInt8)) = false := by kernel_rfl
theorem nb2 : ((nameB4 2).toList == ([] : List UInt8)) = false := by kernel_rfl
theorem nb3 : ((nameB4 3).toList == ([] : List UInt8)) = false := by kernel_rfl
theorem formed_nameE (nm : ByteArray) (h : (nm.toList == ([] : List UInt8)) = false) : formedB (nameE nm) = true := by
  unfold nameE leaf formedB
  rw [if_neg (by rw [name_not]; decide), if_pos name_is, h]
  rfl
theorem formed_name4 (i : Nat) (h : i < 4) : formedB (nameE (nameB4 i)) = true := by
  match i, h with
  | 0, _ => exact formed_nameE _ nb0
  | 1, _ => exact formed_nameE _ nb1
  | 2, _ => exact formed_nameE _ nb2
  | 3, _ => exact formed_nameE _ nb3
theorem madeStep_formed (st : List Ex) (z : Int) (h : ∀ t ∈ st, formedB t = true) : ∀ t ∈ madeStep st z, formedB t = true := by
  obtain ⟨n, hn⟩ : ∃ n, n = modZ z 1000 := ⟨_, rfl⟩
  have hb := modZ_bd z (m := 1000) (by omega)
  rw [← hn] at hb
  rcases (show (n % 10 = 0 ∨ n % 10 = 1) ∨ (n % 10 = 2 ∨ n % 10 = 3 ∨ n % 10 = 4) ∨ 5 ≤ n % 10 by omega) with hr | hr | hr
  · rw [madeStep_num hn hr]
    intro t ht
    rcases List.mem_append.1 ht with ht | ht
    · exact h t ht
    · rw [List.mem_singleton.1 ht, formed_numE]; exact quickZ_right _ _ (by omega)
  · rw [madeStep_name hn hr]
    intro t ht
    rcases List.mem_append.1 ht with ht | ht
    · exact h t ht
    · rw [List.mem_singleton.1 ht]; exact formed_name4 _ (by omega)
  · rcases Nat.lt_or_ge 1 st.length with h2 | h2
    · obtain ⟨i, hi⟩ : ∃ i, st.length = i + 2 := ⟨st.length - 2, by omega⟩
      have hst : st = st.take i ++ [st[i]'(by omega), st[i + 1]'(by omega)] := by
        conv => lhs; rw [← List.take_append_drop i st]
        rw [List.drop_eq_getElem_cons (by omega), List.drop_eq_getElem_cons (by omega), List.drop_eq_nil_of_le (by omega)]
      have ha := h _ (List.getElem_mem (show i < st.length by omega))
      have hb := h _ (List.getElem_mem (show i + 1 < st.length by omega))
      rw [hst, madeStep_op hn hr]
      intro t ht
      rcases List.mem_append.1 ht with ht | ht
      · exact h t (List.mem_of_mem_take ht)
      · rw [List.mem_singleton.1 ht, formed_op' _ (by omega), ha, hb]; rfl
    · rw [madeStep_skip hn hr h2]; exact h
theorem madeE_formed (ls : List Int) : formedB (madeE ls) = true := by
  rw [madeE_fin ls 80 rfl]
  have key : ∀ (l : List Int) (st : List Ex), (∀ t ∈ st, formedB t = true) → ∀ t ∈ l.foldl madeStep st, formedB t = true := by
    intro l
    induction l with
    | nil => intro st h; exact h
    | cons z l ih => intro st h; exact ih _ (madeStep_formed st z h)
  have h := key (ls.take 80) [] (fun t h => absurd h List.not_mem_nil)
  change ∀ t ∈ madeN ls 80, _ at h
  generalize madeN ls 80 = st at *
  match st with
  | [] => exact formed_name4 0 (by decide)
  | t :: ts =>
    have hj : ∀ (ts : List Ex) (t : Ex), formedB t = true → (∀ u ∈ ts, formedB u = true) → formedB (madeJoin t ts) = true := by
      intro ts
      induction ts with
      | nil => intro t h _; exact h
      | cons a l ih => intro t h h2; exact ih _ (by rw [show addB = opNm 0 from rfl, formed_op' 0 (by decide), h, h2 a List.mem_cons_self]; rfl) (fun u hu => h2 u (List.mem_cons_of_mem _ hu))
    exact hj ts t (h t List.mem_cons_self) (fun u hu => h u (List.mem_cons_of_mem _ hu))

theorem doI_right (i : Nat) {a b : Int × Int} (ha : rightB a.1 a.2 = true) (hb : rightB b.1 b.2 = true) {x : Int × Int} (h : doI i a b = (x, true)) : rightB x.1 x.2 = true := by
  obtain ⟨a0, a1⟩ := (rightB_iff _ _).1 ha
  obtain ⟨b0, b1⟩ := (rightB_iff _ _).1 hb
  have hD := Int.mul_pos a0 b0
  match i with
  | 0 => exact (normS_right hD ((addI_norm ha hb).symm.trans h)).1
  | 1 => exact (normS_right hD ((subI_norm ha hb).symm.trans h)).1
  | 2 => exact (normS_right hD ((mulI_norm ha hb).symm.trans h)).1
  | 3 =>
    by_cases h0 : b.1 = 0
    · have h' : quoI a b = (x, true) := h
      unfold quoI at h'
      rw [if_pos (by rw [ha, hb]; rfl), if_pos h0] at h'
      cases h'
    · exact (normS_right (Int.mul_pos a0 (by unfold sizeZ; split <;> omega)) ((quoI_norm ha hb h0).symm.trans h)).1
  | 4 =>
    have h' : minI a b = (x, true) := h
    unfold minI at h'
    injection h' with h' _
    subst h'
    split <;> assumption
  | _ + 5 =>
    have h' : maxI a b = (x, true) := h
    unfold maxI at h'
    injection h' with h' _
    subst h'
    split <;> assumption
theorem applyI_right (i : Nat) {a b : Int × Int} (ha : rightB a.1 a.2 = true) (hb : rightB b.1 b.2 = true) {x : Int × Int} (h : appE (applyI i a b) = .ok x) : rightB x.1 x.2 = true ∧ doI i a b = (x, true) := by
  unfold applyI at h
  by_cases h0 : i = 3 ∧ b.1 = 0
  · rw [if_pos h0] at h; cases h
  · rw [if_neg h0] at h
    by_cases h1 : (doI i a b).2 = true
    · rw [if_pos h1] at h
      injection h with h
      have hd : doI i a b = (x, true) := Prod.ext h h1
      exact ⟨doI_right i ha hb hd, hd⟩
    · rw [if_neg h1] at h; cases h
mutual
theorem valueE_right (vs : Vals) : ∀ (t : Ex) (x : Int × Int), formedB t = true → valueE vs t = .ok x → rightB x.1 x.2 = true
  | .mk op n nm ts, x, hf, hv => by
    unfold formedB at hf
    unfold valueE at hv
    by_cases h1 : (op.toList == [110, 117, 109]) = true
    · rw [if_pos h1] at hf hv
      injection hv with hv
      subst hv
      simp only [Bool.and_eq_true] at hf
      exact hf.2.2
    · rw [if_neg h1] at hf hv
      by_cases h2 : (op.toList == [110, 97, 109, 101]) = true
      · rw [if_pos h2] at hv
        split at hv
        · injection hv with hv
          subst hv
          exact (rightB_iff _ _).2 ⟨by show (0 : Int) < 1; decide, by show Int.gcd _ 1 = 1; simp⟩
        · cases hv
      · rw [if_neg h2] at hf hv
        simp only [Bool.and_eq_true, beq_iff_eq] at hf
        have hl := hf.2.2.2.2
        have hV := valueL_right vs ts hl
        generalize valueL vs ts = vl at *
        match vl, hv with
        | [a, b], hv =>
          cases a with
          | error f => cases hv
          | ok xa =>
            cases b with
            | error f => cases hv
            | ok xb => exact (applyI_right _ (hV _ List.mem_cons_self xa rfl) (hV _ (List.mem_cons_of_mem _ List.mem_cons_self) xb rfl) hv).1
        | [], hv => cases hv
        | [_], hv => cases hv
        | _ :: _ :: _ :: _, hv => cases hv
theorem valueL_right (vs : Vals) : ∀ (ts : List Ex), formedL ts = true → ∀ e ∈ valueL vs ts, ∀ x, e = .ok x → rightB x.1 x.2 = true
  | [], _, e, he, _, _ => by unfold valueL at he; cases he
  | t :: ts, hf, e, he, x, hx => by
    unfold formedL at hf
    rw [Bool.and_eq_true] at hf
    unfold valueL at he
    rcases List.mem_cons.1 he with rfl | he
    · exact valueE_right vs t x hf.1 hx
    · exact valueL_right vs ts hf.2 e he x hx
end
end Go.Proofs.Ytgkdeknfmmgbdaa
