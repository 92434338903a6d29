/-
  Lemmas of this claim (JeAR). Nothing is asked.
-/
import Derived.Test.YteomcpplajeidaaGreatJeAP
import Derived.Test.YteomcpplajeidaaGreatJeAQ
namespace Go.Proofs.YteomcpplajeidaaGreat
set_option linter.unusedVariables false
set_option linter.unusedSimpArgs false
set_option maxRecDepth 100000
open Go.RowKit
abbrev erE (b l k : Int) (q : Sl) : ER := (⟨b, l, k, 100, [(comfB, 5)]⟩, q)
theorem er_adm (r : TnR) (hl : r.low = 1) (hh : r.high = 500) (b k : Int) : admF r tpC ⟨b, 1, k, 100, [(comfB, 5)]⟩ = 0 := by
  obtain ⟨a1, a2, a3, a4, low, high, a7, a8, a9, a10, a11, a12, a13, a14, a15, a16, a17, a18, a19, a20⟩ := r
  simp only at hl hh
  subst hl
  subst hh
  kernel_rfl
theorem er_pts (b k : Int) : ptsF tpC 100 ⟨b, 1, k, 100, [(comfB, 5)]⟩ = ((4, 5), 0) := by kernel_rfl
theorem er_cmp (b k b' k' : Int) (q q' : Sl) (hk : k ≤ k') : ¬ cmpS tpC.cs tpC.ts ⟨⟨b', 1, k', 100, [(comfB, 5)]⟩, q', (4, 5)⟩ ⟨⟨b, 1, k, 100, [(comfB, 5)]⟩, q, (4, 5)⟩ < 0 := by
  intro h
  have h1 := cmpS_neg tpC.cs tpC.ts ⟨⟨b', 1, k', 100, [(comfB, 5)]⟩, q', (4, 5)⟩ ⟨⟨b, 1, k, 100, [(comfB, 5)]⟩, q, (4, 5)⟩
  have h2 : ltS tpC.cs tpC.ts ⟨⟨b', 1, k', 100, [(comfB, 5)]⟩, q', (4, 5)⟩ ⟨⟨b, 1, k, 100, [(comfB, 5)]⟩, q, (4, 5)⟩ = decide (k' < k) := by kernel_rfl
  rw [h2, decide_eq_true h] at h1
  have := of_decide_eq_true h1.symm
  omega
def erL (l : List (Int × Int)) (q : Sl) : List ER := l.map fun x => erE x.1 1 x.2 q
theorem er_low (r : TnR) (hl : r.low = 1) (hh : r.high = 500) (q : Sl) : ∀ l : List (Int × Int), l ≠ [] → lowF r tpC (erL l q) = 100 := by
  have key : ∀ l : List (Int × Int), ((erL l q).foldl (lowStep r tpC) (100, true)).1 = 100 := by
    intro l
    induction l with
    | nil => rfl
    | cons x l ih =>
      show ((erL l q).foldl (lowStep r tpC) (lowStep r tpC (100, true) (erE x.1 1 x.2 q))).1 = 100
      have : lowStep r tpC (100, true) (erE x.1 1 x.2 q) = (100, true) := by
        unfold lowStep
        rw [if_neg]
        rintro ⟨-, h | h⟩
        · cases h
        · exact absurd h (Int.lt_irrefl 100)
      rw [this]
      exact ih
  intro l hne
  cases l with
  | nil => exact absurd rfl hne
  | cons x l =>
    show ((erL l q).foldl (lowStep r tpC) (lowStep r tpC (0, false) (erE x.1 1 x.2 q))).1 = 100
    have : lowStep r tpC (0, false) (erE x.1 1 x.2 q) = (100, true) := by
      unfold lowStep
      rw [if_pos ⟨er_adm r hl hh x.1 x.2, .inl rfl⟩]
    rw [this]
    exact key l
theorem er_good (r : TnR) (hl : r.low = 1) (hh : r.high = 500) (q : Sl) (l : List (Int × Int)) : goodF r tpC 100 (erL l q) = l.map fun x => ⟨⟨x.1, 1, x.2, 100, [(comfB, 5)]⟩, q, (4, 5)⟩ := by
  unfold goodF
  rw [List.filter_eq_self.2]
  · unfold erL
    rw [List.map_map]
    refine List.map_congr_left fun x _ => ?_
    show (⟨_, _, (ptsF tpC 100 _).1⟩ : Sc) = _
    rw [er_pts]
  · intro y hy
    obtain ⟨x, -, rfl⟩ := List.mem_map.1 hy
    show (badF r tpC 100 _ == 0) = true
    unfold badF
    rw [if_pos (er_adm r hl hh x.1 x.2), er_pts]
    rfl
theorem er_srt (r : TnR) (hl : r.low = 1) (hh : r.high = 500) (q : Sl) (l : List (Int × Int)) (hs : ∀ i j (hij : i < j) (hj : j < l.length), (l[i]'(by omega)).2 ≤ l[j].2) : SrtS (cmpS tpC.cs tpC.ts) (goodF r tpC (lowF r tpC (erL l q)) (erL l q)) := by
  by_cases h0 : l = []
  · subst h0
    intro i j hij hj
    exact absurd hj (by simp [erL, goodF])
  · rw [er_low r hl hh q l h0, er_good r hl hh q l]
    intro i j hij hj
    have hj' : j < l.length := by simpa using hj
    rw [List.getElem_map, List.getElem_map]
    exact er_cmp _ _ _ _ _ _ (hs i j hij hj')
end Go.Proofs.YteomcpplajeidaaGreat
namespace Go.Proofs.YteomcpplajeidaaGreat
set_option linter.unusedVariables false
set_option linter.unusedSimpArgs false
set_option maxRecDepth 100000
open Go.RowKit
theorem row_put {w : World} {B E sz n c g o : Nat} {u : Value} {xs : List Value} (h : w.ownsRow B E sz (.slice (some ⟨g, 0, none⟩) n c) n xs) : (w.setCell ⟨g, o, none⟩ u).ownsRow B E sz (.slice (some ⟨g, 0, none⟩) n c) n (xs.set o u) := by
  rcases h.2 with ⟨h1, -⟩ | ⟨g', cap, cur, e, hb, hg, h1, h2, h3, h4⟩
  · cases h1
  · injection e with e1 _ e3
    injection e1 with e1
    injection e1 with e1
    subst e1 e3
    refine ⟨by rw [List.length_set]; exact h.1, .inr ⟨g, c, cur.setIfInBounds o u, rfl, hb, heap_put u hg, h1, h2, by rw [Array.size_setIfInBounds]; exact h3, ?_⟩⟩
    rw [← h4, Array.toList_setIfInBounds, List.take_set]
theorem flat_put {α : Type} {cs : α → List Value} {sz : Nat} (hl : ∀ x, (cs x).length = sz) (j : Nat) (hj : j < sz) (u : Value) (x' : α) : ∀ (xs : List α) (k : Nat) (hk : k < xs.length), cs x' = (cs xs[k]).set j u → (xs.flatMap cs).set (k * sz + j) u = (xs.set k x').flatMap cs
  | x :: xs, 0, _, h => by
    rw [Nat.zero_mul, Nat.zero_add, List.set_cons_zero, List.flatMap_cons, List.flatMap_cons, List.set_append_left _ _ (by rw [hl]; exact hj)]
    rw [h]
    rfl
  | x :: xs, k + 1, hk, h => by
    rw [List.set_cons_succ, List.flatMap_cons, List.flatMap_cons, ← flat_put hl j hj u x' xs k (by simpa using hk) (by simpa using h), List.set_append_right _ _ (by rw [hl, Nat.succ_mul]; omega), hl]
    congr 2
    rw [Nat.succ_mul]
    omega
def lst (m : Nat) : List (Int × Int) := (List.range m).map fun (k : Nat) => (100 + (k : Int), 200 + (k : Int))
theorem lst_len (m : Nat) : (lst m).length = m := by simp [lst]
theorem lst_get (m k : Nat) (h : k < (lst m).length) : (lst m)[k] = (100 + (k : Int), 200 + (k : Int)) := by simp [lst]
theorem lst_succ (m : Nat) (q : Sl) : erL (lst (m + 1)) q = erL (lst m) q ++ [erE (100 + (m : Int)) 1 (200 + (m : Int)) q] := by
  unfold erL lst
  rw [List.range_succ, List.map_append, List.map_append]
  rfl
theorem erL_len (l : List (Int × Int)) (q : Sl) : (erL l q).length = l.length := by simp [erL]
theorem erL_get (l : List (Int × Int)) (q : Sl) (k : Nat) (h : k < (erL l q).length) : (erL l q)[k] = erE (l[k]'(by rw [← erL_len l q]; exact h)).1 1 (l[k]'(by rw [← erL_len l q]; exact h)).2 q := by simp [erL]
def ErOk (q : Sl) (x : ER) : Prop := ∃ b l k : Int, (0 ≤ b ∧ b ≤ 1000 ∧ 0 ≤ l ∧ l ≤ 1000 ∧ 0 ≤ k ∧ k ≤ 1000) ∧ x = erE b l k q
theorem lst_ok (m : Nat) (hm : m < 45) (q : Sl) : ∀ x ∈ erL (lst m) q, ErOk q x := by
  intro x hx
  obtain ⟨y, hy, rfl⟩ := List.mem_map.1 hx
  obtain ⟨k, hk, rfl⟩ := List.mem_map.1 hy
  have := List.mem_range.1 hk
  exact ⟨_, _, _, by dsimp only; omega, rfl⟩
theorem er_xr {w : World} {B q c : Nat} {v : Value} {xs : List ER} (h : w.ownsRow B 57 5 v xs.length (xs.flatMap cellsEn)) (hq : w.heap[q]? = some (.cells #[.string comfB, .int .i64 5] 80)) (hn : xs.length ≤ 1000000) (ho : ∀ x ∈ xs, ErOk (some ⟨q, 0, none⟩, 1, c) x) : XR w v xs := by
  refine ⟨SR.of_row (fun x => (one_en x).1) h hn, ?_⟩
  intro x hx
  obtain ⟨b, l, k, hb, rfl⟩ := ho x hx
  refine ⟨⟨by show _ ≤ b ∧ b ≤ _; omega, by show _ ≤ l ∧ l ≤ _; omega, by show _ ≤ k ∧ k ≤ _; omega, by show (_ : Int) ≤ 100 ∧ (100 : Int) ≤ _; decide, by show (1 : Nat) ≤ 999998; decide⟩, ?_⟩
  refine ⟨_, _, rfl, by show (1 : Nat) ≤ 1000000; decide, ?_, .inr ⟨q, rfl, trivial, ?_⟩⟩
  · intro x hx
    rw [List.mem_singleton.1 hx]
    exact ⟨by decide, by decide⟩
  · intro k hk
    have hk0 : k = 0 := by simp at hk; omega
    subst hk0
    exact ⟨(cell_of_row w q 0 _ _ _ hq).trans rfl, (cell_of_row w q 1 _ _ _ hq).trans rfl⟩
theorem own_base (l : List (Int × Int)) (q : Sl) : ownE 1 (erL l q) = erL l q := by
  unfold ownE
  rw [List.filter_eq_self]
  intro x hx
  obtain ⟨y, -, rfl⟩ := List.mem_map.1 hx
  rfl
theorem err_many (xs : List ER) (h : 40 < xs.length) : errE tpC.ls 1 xs = 2 := by
  unfold errE
  rw [if_neg (by decide), if_pos h]
theorem err_none (l : List (Int × Int)) (q : Sl) (m : Nat) (hs : l.Sublist (lst m)) (hm : m ≤ 40) : errE tpC.ls 1 (erL l q) = 0 := by
  have hl : l.length ≤ 40 := by have := hs.length_le; rw [lst_len] at this; omega
  unfold errE
  rw [if_neg (by decide), if_neg (by rw [erL_len]; omega), if_pos]
  have h1 : ((lst m).map fun x => x.1).Nodup := by
    rw [List.Nodup, List.pairwise_map, lst, List.pairwise_map]
    exact List.nodup_range.imp (fun {a b} h e => h (by simp only at e; omega))
  have h2 : ((lst m).map fun x => x.2).Nodup := by
    rw [List.Nodup, List.pairwise_map, lst, List.pairwise_map]
    exact List.nodup_range.imp (fun {a b} h e => h (by simp only at e; omega))
  have e1 : (erL l q).map (fun x => x.1.bid) = l.map fun x => x.1 := by unfold erL; rw [List.map_map]; rfl
  have e2 : (erL l q).map (fun x => x.1.rec_) = l.map fun x => x.2 := by unfold erL; rw [List.map_map]; rfl
  rw [e1, e2]
  exact ⟨h1.sublist (hs.map _), h2.sublist (hs.map _)⟩
theorem err_twice (xs : List ER) (hl : xs.length ≤ 40) (i j : Nat) (hi : i < xs.length) (hj : j < xs.length) (hne : i ≠ j) (h : xs[i].1.bid = xs[j].1.bid ∨ xs[i].1.rec_ = xs[j].1.rec_) : errE tpC.ls 1 xs = 33 := by
  unfold errE
  rw [if_neg (by decide), if_neg (by omega), if_neg]
  rintro ⟨h1, h2⟩
  rw [List.Nodup, List.pairwise_map, List.pairwise_iff_getElem] at h1 h2
  rcases Nat.lt_or_gt_of_ne hne with hlt | hlt
  · rcases h with h | h
    · exact h1 i j hi hj hlt h
    · exact h2 i j hi hj hlt h
  · rcases h with h | h
    · exact h1 j i hj hi hlt h.symm
    · exact h2 j i hj hi hlt h.symm
theorem filter_set_sub {α : Type} (p : α → Bool) (e : α) (he : p e = false) : ∀ (l : List α) (i : Nat), ((l.set i e).filter p).Sublist l
  | [], i => by simp
  | x :: l, 0 => by
    rw [List.set_cons_zero, List.filter_cons, if_neg (by simp [he])]
    exact List.Sublist.cons x List.filter_sublist
  | x :: l, i + 1 => by
    rw [List.set_cons_succ, List.filter_cons]
    split
    · exact (filter_set_sub p e he l i).cons_cons x
    · exact (filter_set_sub p e he l i).cons x
theorem own_gone (m : Nat) (q : Sl) (i : Nat) (b k : Int) : ∃ l, l.Sublist (lst m) ∧ ownE 1 ((erL (lst m) q).set i (erE b 9 k q)) = erL l q := by
  have h := filter_set_sub (fun x : ER => x.1.lot == 1) (erE b 9 k q) rfl (erL (lst m) q) i
  obtain ⟨l, h1, h2⟩ := List.sublist_map_iff.1 h
  exact ⟨l, h1, h2⟩
theorem er_sorts (r : TnR) (hl : r.low = 1) (hh : r.high = 500) (xs : List ER) (l : List (Int × Int)) (q : Sl) (m : Nat) (hm : m < 45) (hs : l.Sublist (lst m)) (he : ownE 1 xs = erL l q) : SortsOk r tpC 1 xs := by
  intro _ w0 recv hC
  rw [he] at hC ⊢
  have hlen : l.length < 50 := by have := hs.length_le; rw [lst_len] at this; omega
  refine sort_order w0 recv _ _ hC ?_ ?_
  · have h2 := List.length_filter_le (fun x : ER => badF r tpC (lowF r tpC (erL l q)) x.1 == 0) (erL l q)
    rw [goodF, List.length_map]
    rw [erL_len] at h2
    omega
  · refine er_srt r hl hh q l ?_
    have hp : l.Pairwise (fun x y => x.2 ≤ y.2) := by
      refine List.Pairwise.sublist hs ?_
      rw [lst, List.pairwise_map, List.pairwise_iff_getElem]
      intro i j hi hj hij
      simp only [List.getElem_range]
      omega
    rw [List.pairwise_iff_getElem] at hp
    exact fun i j hij hj => hp i j (by omega) hj hij
theorem sorts_err (r : TnR) (xs : List ER) (he : errE tpC.ls 1 (ownE 1 xs) = 33) : SortsOk r tpC 1 xs := by
  intro h
  rw [he] at h
  exact absurd h (by decide)
end Go.Proofs.YteomcpplajeidaaGreat
