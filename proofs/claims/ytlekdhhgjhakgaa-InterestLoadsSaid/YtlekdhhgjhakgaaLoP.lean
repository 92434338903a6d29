/-
  The brute force of InterestLoads: its least load is that of Assign. Nothing is asked.
-/
import Derived.Test.YtlekdhhgjhakgaaAsP
namespace Go.Proofs.Ytlekdhhgjhakgaa
set_option linter.unusedVariables false
set_option linter.unusedSimpArgs false
open Go.RowKit
/-- The places of a set of six. -/
def bitsL (set : Nat) : List Nat := (List.range 6).filter fun k => decide (set / 2 ^ k % 2 = 1)
def okK (s : Su) (b : Int) (k : Nat) : Bool := decide (roleF s.ps (1 + (k : Int)) = 3) && !confF s (1 + (k : Int)) b
def okSet (s : Su) (each : Nat) (b : Int) (set : Nat) : Bool := decide ((bitsL set).length = each) && (bitsL set).all (okK s b)
def dutK (q : List Nat) (b : Int) : List (Int × Int) := q.map fun (k : Nat) => (1 + (k : Int), b)
def leaF (s : Su) (each : Nat) : List Int → List (Int × Int) → Nat
  | [], l => mostF (l.map (·.1))
  | b :: bs, l => (List.range 64).foldl (fun best set => if okSet s each b set then min best (leaF s each bs (l ++ dutK (bitsL set) b)) else best) 100
theorem foldmin (f : Nat → Nat) (p : Nat → Bool) : ∀ (L : List Nat) (a : Nat), L.foldl (fun best x => if p x then min best (f x) else best) a ≤ a ∧ (∀ x ∈ L, p x = true → L.foldl (fun best x => if p x then min best (f x) else best) a ≤ f x) ∧
    (L.foldl (fun best x => if p x then min best (f x) else best) a = a ∨ ∃ x ∈ L, p x = true ∧ L.foldl (fun best x => if p x then min best (f x) else best) a = f x)
  | [], a => ⟨Nat.le_refl _, (fun x hx => by cases hx), .inl rfl⟩
  | y :: L, a => by
    rw [List.foldl_cons]
    obtain ⟨h1, h2, h3⟩ := foldmin f p L (if p y then min a (f y) else a)
    by_cases hy : p y = true
    · rw [if_pos hy] at h1 h2 h3 ⊢
      refine ⟨by omega, fun x hx hp => ?_, ?_⟩
      · rcases List.mem_cons.1 hx with rfl | hx
        · omega
        · exact h2 x hx hp
      · rcases h3 with h3 | ⟨x, hx, hp, h3⟩
        · rcases Nat.le_total a (f y) with e | e
          · exact .inl (by rw [h3]; omega)
          · exact .inr ⟨y, List.mem_cons_self, hy, by rw [h3]; omega⟩
        · exact .inr ⟨x, List.mem_cons_of_mem _ hx, hp, h3⟩
    · rw [if_neg hy] at h1 h2 h3 ⊢
      refine ⟨h1, fun x hx hp => ?_, ?_⟩
      · rcases List.mem_cons.1 hx with rfl | hx
        · exact absurd hp hy
        · exact h2 x hx hp
      · rcases h3 with h3 | ⟨x, hx, hp, h3⟩
        · exact .inl h3
        · exact .inr ⟨x, List.mem_cons_of_mem _ hx, hp, h3⟩
/-- Rows that a brute force may choose. -/
def Vl (s : Su) (each : Nat) : List Int → List (List Nat) → Prop
  | [], [] => True
  | b :: bs, q :: σ => q.Sublist (List.range 6) ∧ q.length = each ∧ (∀ k ∈ q, okK s b k = true) ∧ Vl s each bs σ
  | _, _ => False
def dutS : List Int → List (List Nat) → List (Int × Int)
  | b :: bs, q :: σ => dutK q b ++ dutS bs σ
  | _, _ => []
theorem bits_all : ∀ n, n < 7 → ∀ q ∈ enum (List.range 6) n, ∃ set ∈ List.range 64, bitsL set = q := by decide
theorem bits_of {q : List Nat} (h : q.Sublist (List.range 6)) : ∃ set, set < 64 ∧ bitsL set = q := by
  have h1 : q.length < 7 := by have := h.length_le; simp at this; omega
  obtain ⟨set, h2, h3⟩ := bits_all _ h1 q (mem_enum.2 ⟨h, rfl⟩)
  exact ⟨set, List.mem_range.1 h2, h3⟩
theorem bits_sub (set : Nat) : (bitsL set).Sublist (List.range 6) := List.filter_sublist
theorem leaF_le {s : Su} {each : Nat} : ∀ {bs : List Int} {σ : List (List Nat)} (l : List (Int × Int)), Vl s each bs σ → leaF s each bs l ≤ mostF ((l ++ dutS bs σ).map (·.1))
  | [], [], l, _ => by unfold leaF dutS; rw [List.append_nil]; exact Nat.le_refl _
  | [], _ :: _, _, h => h.elim
  | _ :: _, [], _, h => h.elim
  | b :: bs, q :: σ, l, ⟨h1, h2, h3, h4⟩ => by
    obtain ⟨set, hs, rfl⟩ := bits_of h1
    have h5 := (foldmin (fun set => leaF s each bs (l ++ dutK (bitsL set) b)) (okSet s each b) (List.range 64) 100).2.1 set (List.mem_range.2 hs) (by
      unfold okSet
      rw [h2, decide_eq_true rfl, Bool.true_and]
      exact List.all_eq_true.2 h3)
    have h6 := leaF_le (l ++ dutK (bitsL set) b) h4
    rw [List.append_assoc] at h6
    exact Nat.le_trans h5 h6
theorem leaF_at {s : Su} {each : Nat} : ∀ (bs : List Int) (l : List (Int × Int)), leaF s each bs l = 100 ∨ ∃ σ, Vl s each bs σ ∧ leaF s each bs l = mostF ((l ++ dutS bs σ).map (·.1))
  | [], l => .inr ⟨[], trivial, by unfold leaF dutS; rw [List.append_nil]⟩
  | b :: bs, l => by
    rcases (foldmin (fun set => leaF s each bs (l ++ dutK (bitsL set) b)) (okSet s each b) (List.range 64) 100).2.2 with h | ⟨set, hs, hp, h⟩
    · exact .inl h
    · rcases leaF_at bs (l ++ dutK (bitsL set) b) with h2 | ⟨σ, h2, h3⟩
      · exact .inl (h.trans h2)
      · refine .inr ⟨bitsL set :: σ, ?_, ?_⟩
        · unfold okSet at hp
          rw [Bool.and_eq_true, decide_eq_true_iff] at hp
          exact ⟨bits_sub set, hp.1, List.all_eq_true.1 hp.2, h2⟩
        · have h4 := h.trans h3
          rw [List.append_assoc] at h4
          exact h4
theorem sub_sorted : ∀ {l r : List Nat}, l.Pairwise (· < ·) → r.Pairwise (· < ·) → (∀ x ∈ r, x ∈ l) → r.Sublist l
  | [], r, _, _, h => by
    cases r with
    | nil => exact List.Sublist.refl _
    | cons x r => exact absurd (h x List.mem_cons_self) (by simp)
  | y :: l, [], _, _, _ => List.nil_sublist _
  | y :: l, x :: r, hl, hr, h => by
    obtain ⟨l1, l2⟩ := List.pairwise_cons.1 hl
    obtain ⟨r1, r2⟩ := List.pairwise_cons.1 hr
    by_cases e : x = y
    · subst e
      exact (sub_sorted l2 r2 fun z hz => (List.mem_cons.1 (h z (List.mem_cons_of_mem _ hz))).resolve_left (by have := r1 z hz; omega)).cons_cons _
    · have hx : x ∈ l := (List.mem_cons.1 (h x List.mem_cons_self)).resolve_left e
      have hyx := l1 x hx
      exact (sub_sorted l2 hr fun z hz => (List.mem_cons.1 (h z hz)).resolve_left (by
        rcases List.mem_cons.1 hz with rfl | hz
        · omega
        · have := r1 z hz; omega)).cons _
theorem asr_sorted (ps : List Pe) : (asrF ps).Pairwise (· < ·) := by
  have h1 := srtZ_sorted (asrR ps [])
  have h2 := asrF_nodup ps
  unfold asrF at h2 ⊢
  exact (List.Pairwise.and h1 h2).imp fun ⟨a, b⟩ => by omega
theorem role_asr {ps : List Pe} {i : Int} : i ∈ asrF ps ↔ roleF ps i = 3 := by
  rw [asrF_mem]
  refine ⟨fun h => h.1, fun h => ⟨h, ?_⟩⟩
  unfold roleF at h
  split at h
  · rename_i p hp
    exact ⟨p, List.mem_of_find?_eq_some hp, by simpa using List.find?_some hp⟩
  · cases h
section
variable {s : Su} {each : Nat}
/-- A row of places as a row of the brute force. -/
theorem row_to (hi : ∀ x ∈ asrF s.ps, 1 ≤ x ∧ x ≤ 6) {b : Int} {r : List Nat} (h : r ∈ enum (mayR s (asrF s.ps) b) each) :
    ∃ q : List Nat, q.Sublist (List.range 6) ∧ q.length = each ∧ (∀ k ∈ q, okK s b k = true) ∧ dutK q b = r.map fun k => ((asrF s.ps).getD k 0, b) := by
  obtain ⟨h1, h2⟩ := mem_enum.1 h
  have hlt : ∀ k ∈ r, k < (asrF s.ps).length ∧ confF s ((asrF s.ps).getD k 0) b = false := fun k hk => by
    have := List.mem_filter.1 (h1.subset hk)
    exact ⟨List.mem_range.1 this.1, by simpa using this.2⟩
  have hp : r.Pairwise (· < ·) := (List.pairwise_lt_range.filter _).sublist h1
  have hid : ∀ k ∈ r, 1 ≤ (asrF s.ps).getD k 0 ∧ (asrF s.ps).getD k 0 ≤ 6 ∧ (asrF s.ps).getD k 0 ∈ asrF s.ps := fun k hk => by
    rw [getD_at (hlt k hk).1]
    exact ⟨(hi _ (List.getElem_mem _)).1, (hi _ (List.getElem_mem _)).2, List.getElem_mem _⟩
  refine ⟨r.map fun k => ((asrF s.ps).getD k 0 - 1).toNat, sub_sorted List.pairwise_lt_range ?_ fun x hx => ?_, by simpa using h2, fun x hx => ?_, ?_⟩
  · rw [List.pairwise_map]
    refine (List.pairwise_iff_getElem.2 fun i j h3 h4 h5 => ?_)
    have h6 := List.pairwise_iff_getElem.1 hp i j h3 h4 h5
    have a1 := hid _ (List.getElem_mem h3)
    have a2 := hid _ (List.getElem_mem h4)
    have h7 := List.pairwise_iff_getElem.1 (asr_sorted s.ps) r[i] r[j] (hlt _ (List.getElem_mem h3)).1 (hlt _ (List.getElem_mem h4)).1 h6
    rw [← getD_at (d := 0) (hlt _ (List.getElem_mem h3)).1, ← getD_at (d := 0) (hlt _ (List.getElem_mem h4)).1] at h7
    omega
  · obtain ⟨k, hk, rfl⟩ := List.mem_map.1 hx
    have := hid k hk
    exact List.mem_range.2 (by omega)
  · obtain ⟨k, hk, rfl⟩ := List.mem_map.1 hx
    have a := hid k hk
    unfold okK
    rw [show 1 + (((((asrF s.ps).getD k 0 - 1).toNat : Nat)) : Int) = (asrF s.ps).getD k 0 by omega, (hlt k hk).2, decide_eq_true (role_asr.1 a.2.2)]
    rfl
  · unfold dutK
    rw [List.map_map]
    refine List.map_congr_left fun k hk => ?_
    have a := hid k hk
    show (1 + (((((asrF s.ps).getD k 0 - 1).toNat : Nat)) : Int), b) = _
    rw [show 1 + (((((asrF s.ps).getD k 0 - 1).toNat : Nat)) : Int) = (asrF s.ps).getD k 0 by omega]
/-- A row of the brute force as a row of places. -/
theorem row_of {b : Int} {q : List Nat} (h1 : q.Sublist (List.range 6)) (h2 : q.length = each) (h3 : ∀ k ∈ q, okK s b k = true) :
    ∃ r, r ∈ enum (mayR s (asrF s.ps) b) each ∧ dutK q b = r.map fun k => ((asrF s.ps).getD k 0, b) := by
  have hq : q.Pairwise (· < ·) := List.pairwise_lt_range.sublist h1
  have hk : ∀ k ∈ q, 1 + (k : Int) ∈ asrF s.ps ∧ confF s (1 + (k : Int)) b = false := fun k hk => by
    have := h3 k hk
    unfold okK at this
    rw [Bool.and_eq_true, decide_eq_true_iff] at this
    exact ⟨role_asr.2 this.1, by simpa using this.2⟩
  have hx : ∀ k ∈ q, ∃ h : (asrF s.ps).idxOf (1 + (k : Int)) < (asrF s.ps).length, (asrF s.ps)[(asrF s.ps).idxOf (1 + (k : Int))] = 1 + (k : Int) := fun k h => ⟨List.idxOf_lt_length_of_mem (hk k h).1, List.getElem_idxOf _⟩
  refine ⟨q.map fun (k : Nat) => (asrF s.ps).idxOf (1 + (k : Int)), mem_enum.2 ⟨sub_sorted (List.pairwise_lt_range.filter _) ?_ fun x hx2 => ?_, by simpa using h2⟩, ?_⟩
  · rw [List.pairwise_map]
    refine List.pairwise_iff_getElem.2 fun i j h4 h5 h6 => ?_
    have h7 := List.pairwise_iff_getElem.1 hq i j h4 h5 h6
    obtain ⟨a1, a2⟩ := hx _ (List.getElem_mem h4)
    obtain ⟨b1, b2⟩ := hx _ (List.getElem_mem h5)
    rcases Nat.lt_trichotomy ((asrF s.ps).idxOf (1 + (q[i] : Int))) ((asrF s.ps).idxOf (1 + (q[j] : Int))) with e | e | e
    · exact e
    · have e2 : 1 + (q[i] : Int) = 1 + (q[j] : Int) := by rw [← a2, ← b2]; congr 1
      omega
    · have h8 := List.pairwise_iff_getElem.1 (asr_sorted s.ps) _ _ b1 a1 e
      rw [a2, b2] at h8
      omega
  · obtain ⟨k, h4, rfl⟩ := List.mem_map.1 hx2
    obtain ⟨a1, a2⟩ := hx k h4
    refine List.mem_filter.2 ⟨List.mem_range.2 a1, ?_⟩
    rw [getD_at a1, a2, (hk k h4).2]
    rfl
  · unfold dutK
    rw [List.map_map]
    refine List.map_congr_left fun k h4 => ?_
    obtain ⟨a1, a2⟩ := hx k h4
    show _ = ((asrF s.ps).getD _ 0, b)
    rw [getD_at a1, a2]
theorem rows_to (hi : ∀ x ∈ asrF s.ps, 1 ≤ x ∧ x ≤ 6) : ∀ (bs : List Int) (R : List (List Nat)), R.length = bs.length → (∀ o (h : o < R.length) (h' : o < bs.length), R[o] ∈ enum (mayR s (asrF s.ps) bs[o]) each) → ∃ σ, Vl s each bs σ ∧ dutS bs σ = dutF (asrF s.ps) bs R
  | [], [], _, _ => ⟨[], trivial, rfl⟩
  | [], _ :: _, h, _ => by cases h
  | _ :: _, [], h, _ => by cases h
  | b :: bs, r :: R, h, hr => by
    obtain ⟨q, h1, h2, h3, h4⟩ := row_to hi (hr 0 (by simp) (by simp))
    obtain ⟨σ, h5, h6⟩ := rows_to hi bs R (by simpa using h) fun o h7 h8 => hr (o + 1) (by simpa using h7) (by simpa using h8)
    exact ⟨q :: σ, ⟨h1, h2, h3, h5⟩, by unfold dutS dutF; rw [h6]; exact congrArg (· ++ _) h4⟩
theorem rows_of : ∀ (bs : List Int) (σ : List (List Nat)), Vl s each bs σ → ∃ R : List (List Nat), R.length = bs.length ∧ (∀ o (h : o < R.length) (h' : o < bs.length), R[o] ∈ enum (mayR s (asrF s.ps) bs[o]) each) ∧ dutS bs σ = dutF (asrF s.ps) bs R
  | [], [], _ => ⟨[], rfl, fun o h => absurd h (Nat.not_lt_zero _), rfl⟩
  | [], _ :: _, h => h.elim
  | _ :: _, [], h => h.elim
  | b :: bs, q :: σ, ⟨h1, h2, h3, h4⟩ => by
    obtain ⟨r, h5, h6⟩ := row_of h1 h2 h3
    obtain ⟨R, h7, h8, h9⟩ := rows_of bs σ h4
    refine ⟨r :: R, by simp [h7], fun o h h' => ?_, by unfold dutS dutF; rw [h9, h6]⟩
    cases o with
    | zero => exact h5
    | succ o => exact h8 o (by simpa using h) (by simpa using h')
end
theorem leaF_eq {s : Su} {bs : List Int} {each : Nat} (hi : ∀ x ∈ asrF s.ps, 1 ≤ x ∧ x ≤ 6) (hr : rightF bs each = true) (hb : bs.length ≤ 3) :
    (openE s bs each = 0 → leaF s each bs [] = ldF s bs each ∧ leaF s each bs [] < 100) ∧ (openE s bs each ≠ 0 → leaF s each bs [] = 100) := by
  have hmay : ∀ o (h : o < bs.length), (mayL s bs).getD o [] = mayR s (asrF s.ps) bs[o] := fun o h => by
    rw [getD_at (by rw [mayL_len]; exact h), mayL_at s bs (by rw [mayL_len]; exact h) h]
  have rows : ∀ {σ}, Vl s each bs σ → ∃ R, R.length = bs.length ∧ Rows_ (mayL s bs) each R ∧ dutS bs σ = dutF (asrF s.ps) bs R := fun {σ} hv => by
    obtain ⟨R, h1, h2, h3⟩ := rows_of bs σ hv
    exact ⟨R, h1, ⟨by rw [mayL_len, h1]; exact Nat.le_refl _, fun o ho => by rw [hmay o (by rw [← h1]; exact ho)]; exact h2 o ho (by rw [← h1]; exact ho)⟩, h3⟩
  constructor
  · intro h0
    have hL := ldF_least h0
    have hle := ldF_le h0
    have hcast : ((each : Int)).toNat = each := rfl
    rw [hcast] at hL
    have low : ∀ {σ}, Vl s each bs σ → ldF s bs each ≤ mostF ((dutS bs σ).map (·.1)) := fun {σ} hv => by
      obtain ⟨R, h1, h2, h3⟩ := rows hv
      have hc := CanR.of_rows (load := mostF ((dutS bs σ).map (·.1))) (mayL_ok s bs) h2 (by rw [h1, mayL_len]) fun k hk => by
        rw [h3]
        have h4 := count_fst (asrF_nodup s.ps) hk bs R h1.symm fun r hr => (h2.mem (mayL_ok s bs) hr).2
        rw [mayL_len, ← h1, ← h4]
        by_cases hm : (asrF s.ps)[k] ∈ (dutF (asrF s.ps) bs R).map (·.1)
        · exact mostF_ge hm
        · rw [List.count_eq_zero.2 hm]; exact Nat.zero_le _
      rcases Nat.lt_or_ge (mostF ((dutS bs σ).map (·.1))) (ldF s bs each) with e | e
      · exact absurd hc (hL.no _ e)
      · exact e
    obtain ⟨hP, -⟩ := picks_all hL
    have hpl := picks_len (mayL s bs) (asrF s.ps).length each (ldF s bs each) bs.length
    obtain ⟨σ, hv, hd⟩ := rows_to hi bs (picks (mayL s bs) (asrF s.ps).length each (ldF s bs each) bs.length) hpl fun o h h' => by
      have := hP.at_ o h
      rwa [hmay o h'] at this
    have hup := leaF_le [] hv
    rw [List.nil_append, hd] at hup
    have hmo := most_asg hL
    unfold asgF at hmo
    rw [hmo] at hup
    rcases leaF_at (s := s) (each := each) bs [] with h | ⟨τ, h1, h2⟩
    · omega
    · have := low h1
      rw [List.nil_append] at h2
      exact ⟨by omega, by omega⟩
  · intro h0
    rcases leaF_at (s := s) (each := each) bs [] with h | ⟨τ, h1, h2⟩
    · exact h
    · exfalso
      apply h0
      obtain ⟨R, h3, h4, -⟩ := rows h1
      obtain ⟨r1, -, r3, r4, r5⟩ := right_facts hr
      have hlen : ∀ l ∈ mayL s bs, each ≤ l.length := fun l hl => by
        obtain ⟨o, ho, rfl⟩ := List.getElem_of_mem hl
        have ho2 : o < R.length := by rw [h3, ← mayL_len s bs]; exact ho
        have h5 := mem_enum.1 (h4.at_ o ho2)
        rw [getD_at ho] at h5
        have := h5.1.length_le
        omega
      unfold openE
      rw [hr, if_neg (by decide), if_neg, if_neg]
      · intro h6
        obtain ⟨l, hl, h7⟩ := List.any_eq_true.1 h6
        have h8 := of_decide_eq_true h7
        have := hlen l hl
        omega
      · intro h6
        have h7 : (mayL s bs)[0]'(by rw [mayL_len]; exact r1) ∈ mayL s bs := List.getElem_mem _
        have h8 := hlen _ h7
        have h9 := (mayL_ok s bs).nodup h7 (List.Sublist.refl _)
        have h10 := sm_mem h9.1 h9.2
        have h11 : sm (fun k => (decide (k ∈ (mayL s bs)[0]'(by rw [mayL_len]; exact r1))).toNat) (asrF s.ps).length ≤ sm (fun _ => 1) (asrF s.ps).length := sm_le fun _ _ => Bool.toNat_le _
        rw [sm_const, h10] at h11
        omega
end Go.Proofs.Ytlekdhhgjhakgaa
