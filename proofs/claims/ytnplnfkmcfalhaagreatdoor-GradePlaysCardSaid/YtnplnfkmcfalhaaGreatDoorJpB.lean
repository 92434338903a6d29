/-
  The reference's median is grade's. Plain laws; nothing is asked.
  The reference's Give and Final, and what stays true of its lists. Plain laws; nothing is asked.
  The reference's text is grade's. Plain laws; nothing is asked.
  The reference's book with the blocks that may turn; what a call leaves of it. Nothing is asked.
-/
import Derived.Test.YtnplnfkmcfalhaaGreatDoorJpA
import Derived.Test.YtnplnfkmcfalhaaGreatDoorMed
namespace Go.Proofs.YtnplnfkmcfalhaaGreatDoor
set_option linter.unusedVariables false
set_option linter.unusedSimpArgs false
open Go.RowKit

/-- What is true of the reference's lists besides. -/
structure SimX (b : Bk) (L : List Int) (C : List Cr) (D : List Dy) (G : List Gd) (N : List Int) (O : List Gd) : Prop extends Sim b L C D G N O where
  dG : ∀ x ∈ G, (⟨x.ass, x.bid⟩ : Dy) ∈ D
  has : ∀ n ∈ N, ∃ d ∈ D, d.bid = n
  full : ∀ n ∈ N, ∀ d ∈ D, d.bid = n → ∀ l ∈ L, ∀ c ∈ C, ∃ x ∈ G, x.pl = ⟨n, l, c.name, d.ass⟩
  ndN : N.Nodup
/-- The numbers given about a place, in their order. -/
def vals (G : List Gd) (bid lot : Int) (name : ByteArray) : List Int := (G.filter fun x => decide (x.bid = bid ∧ x.lot = lot ∧ x.name = name)).map Gd.n
theorem vals_take (G : List Gd) (bid lot : Int) (name : ByteArray) (i : Nat) (h : i < G.length) : vals (G.take (i + 1)) bid lot name = vals (G.take i) bid lot name ++ if G[i].bid = bid ∧ G[i].lot = lot ∧ G[i].name = name then [G[i].n] else [] := by
  unfold vals
  rw [List.take_add_one, List.getElem?_eq_getElem h, List.filter_append, List.map_append]
  by_cases hc : G[i].bid = bid ∧ G[i].lot = lot ∧ G[i].name = name
  · rw [if_pos hc]
    simp [hc]
  · rw [if_neg hc]
    have : [G[i]].filter (fun x => decide (x.bid = bid ∧ x.lot = lot ∧ x.name = name)) = [] := by rw [List.filter_cons, if_neg (by simpa using hc)]; rfl
    rw [Option.toList_some, this]
    rfl
theorem vals_ok {G : List Gd} (hG : ∀ x ∈ G, x.ok) (bid lot : Int) (name : ByteArray) : ∀ z ∈ vals G bid lot name, OkI z := by
  intro z hz
  obtain ⟨x, hx, rfl⟩ := List.mem_map.1 hz
  exact (hG x (List.mem_filter.1 hx).1).2.2.2.2.1
theorem vals_le (G : List Gd) (bid lot : Int) (name : ByteArray) : (vals G bid lot name).length ≤ G.length := by
  unfold vals
  rw [List.length_map]
  exact List.length_filter_le _ _
theorem find_self : ∀ {G : List Gd} (_ : (G.map Gd.pl).Nodup) (x : Gd), x ∈ G → (G.find? fun y => decide (y.pl = x.pl)) = some x
  | y :: G, hn, x, hx => by
    rw [List.map_cons, List.nodup_cons] at hn
    rw [List.find?_cons]
    rcases List.mem_cons.1 hx with rfl | hx
    · simp
    · have hne : y.pl ≠ x.pl := fun e => hn.1 (List.mem_map.2 ⟨x, hx, e.symm⟩)
      rw [show decide (y.pl = x.pl) = false by simpa using hne]
      exact find_self hn.2 x hx
theorem vals_perm {b : Bk} {L : List Int} {C : List Cr} {D : List Dy} {G : List Gd} {N : List Int} {O : List Gd} (h : SimX b L C D G N O) {bid lot : Int} {name : ByteArray} (hb : bid ∈ N) (hl : lot ∈ L) (hc : (critOf C name).isSome) {l : List Int} (hA : AsI b.dut bid l []) :
    (l.map (nOf b bid lot name)).Perm (vals G bid lot name) := by
  obtain ⟨F, hF⟩ : ∃ F, F = G.filter fun x => decide (x.bid = bid ∧ x.lot = lot ∧ x.name = name) := ⟨_, rfl⟩
  have hFm : ∀ x ∈ F, x ∈ G ∧ x.bid = bid ∧ x.lot = lot ∧ x.name = name := fun x hx => by
    rw [hF, List.mem_filter, decide_eq_true_eq] at hx
    exact ⟨hx.1, hx.2⟩
  have hsub : (F.map Gd.pl).Nodup := by
    rw [hF]
    exact List.Sublist.nodup ((List.filter_sublist (l := G)).map Gd.pl) h.nod
  have hnd : (F.map Gd.ass).Nodup := by
    rw [List.nodup_iff_pairwise_ne, List.pairwise_map] at hsub ⊢
    refine hsub.imp_of_mem fun hx hy hne e => hne ?_
    obtain ⟨-, x1, x2, x3⟩ := hFm _ hx
    obtain ⟨-, y1, y2, y3⟩ := hFm _ hy
    unfold Gd.pl
    rw [x1, x2, x3, y1, y2, y3, e]
  have hmem : ∀ a, a ∈ l ↔ a ∈ F.map Gd.ass := fun a => by
    have hm := hA.mem a
    simp only [List.not_mem_nil, exists_false, or_false] at hm
    rw [← hm, h.dut, decide_eq_true_eq, List.mem_map]
    constructor
    · intro hd
      obtain ⟨c, hcc⟩ := Option.isSome_iff_exists.1 hc
      have hcm := List.mem_of_find?_eq_some hcc
      have hcn : c.name = name := by have := List.find?_some hcc; simpa using this
      obtain ⟨x, hx, hp⟩ := h.full bid hb _ hd rfl lot hl c hcm
      unfold Gd.pl at hp
      injection hp with p1 p2 p3 p4
      refine ⟨x, ?_, p4⟩
      rw [hF, List.mem_filter, decide_eq_true_eq]
      exact ⟨hx, p1, p2, p3.trans hcn⟩
    · rintro ⟨x, hx, rfl⟩
      obtain ⟨hxG, x1, -⟩ := hFm x hx
      have := h.dG x hxG
      rwa [x1] at this
  have hp : l.Perm (F.map Gd.ass) := (List.perm_ext_iff_of_nodup hA.nd hnd).2 hmem
  have h2 : (F.map Gd.ass).map (nOf b bid lot name) = vals G bid lot name := by
    unfold vals
    rw [← hF, List.map_map]
    refine List.map_congr_left fun x hx => ?_
    obtain ⟨hxG, x1, x2, x3⟩ := hFm x hx
    show nOf b bid lot name x.ass = x.n
    unfold nOf
    have : (⟨bid, lot, name, x.ass⟩ : Pl) = x.pl := by unfold Gd.pl; rw [x1, x2, x3]
    rw [this, h.gr, find_self h.nod x hxG]
  rw [← h2]
  exact hp.map _
/-- What the reference's Value gives. -/
def refV (L : List Int) (C : List Cr) (G : List Gd) (N : List Int) (bid lot : Int) (name : ByteArray) : Int × Bool :=
  if bid ∈ N ∧ lot ∈ L ∧ (critOf C name).isSome = true then ((srtI (vals G bid lot name)).getD (((vals G bid lot name).length - 1) / 2) 0, true) else (0, false)
theorem refV_same {b : Bk} {L : List Int} {C : List Cr} {D : List Dy} {G : List Gd} {N : List Int} {O : List Gd} (h : SimX b L C D G N O) {bid lot : Int} {name : ByteArray} {n : Int} {ok : Bool} (hv : ValR b bid lot name n ok) : refV L C G N bid lot name = (n, ok) := by
  unfold ValR at hv
  unfold refV
  simp only [h.fin, h.lots, h.crit, decide_eq_true_eq] at hv
  by_cases hc : bid ∈ N ∧ lot ∈ L ∧ (critOf C name).isSome = true
  · rw [if_pos hc] at hv
    rw [if_pos hc]
    obtain ⟨rfl, l, hA, hg⟩ := hv
    have hp := vals_perm h hc.1 hc.2.1 hc.2.2 hA
    have hlen : l.length = (vals G bid lot name).length := by rw [← hp.length_eq, List.length_map]
    rw [srtI_of_perm hp, hlen] at hg
    rw [List.getD_eq_getElem?_getD, hg]
    rfl
  · rw [if_neg hc] at hv
    rw [if_neg hc, hv.1, hv.2]
theorem vals_pos {b : Bk} {L : List Int} {C : List Cr} {D : List Dy} {G : List Gd} {N : List Int} {O : List Gd} (h : SimX b L C D G N O) {bid lot : Int} {name : ByteArray} (hc : bid ∈ N ∧ lot ∈ L ∧ (critOf C name).isSome = true) : 0 < (vals G bid lot name).length := by
  obtain ⟨h1, h2, h3⟩ := hc
  obtain ⟨c, hcc⟩ := Option.isSome_iff_exists.1 h3
  have hcm := List.mem_of_find?_eq_some hcc
  have hcn : c.name = name := by have := List.find?_some hcc; simpa using this
  obtain ⟨d, hd, hdb⟩ := h.has bid h1
  obtain ⟨x, hx, hp⟩ := h.full bid h1 d hd hdb lot h2 c hcm
  unfold Gd.pl at hp
  injection hp with p1 p2 p3 p4
  refine List.length_pos_iff.2 (List.ne_nil_of_mem (a := x.n) (List.mem_map.2 ⟨x, ?_, rfl⟩))
  rw [List.mem_filter, decide_eq_true_eq]
  exact ⟨hx, p1, p2, p3.trans hcn⟩

/-! ### An insertion into a list in order -/
def insS (l : List Int) (x : Int) : List Int := l.takeWhile (fun y => decide (y < x)) ++ x :: l.dropWhile fun y => decide (y < x)
theorem insS_perm (l : List Int) (x : Int) : (insS l x).Perm (x :: l) := by
  unfold insS
  refine List.perm_middle.trans ?_
  rw [List.takeWhile_append_dropWhile]
theorem insS_sorted {x : Int} : ∀ {l : List Int}, l.Pairwise (· ≤ ·) → (insS l x).Pairwise (· ≤ ·)
  | [], _ => by unfold insS; simp
  | y :: l, h => by
    rw [List.pairwise_cons] at h
    by_cases hy : y < x
    · have ih := insS_sorted (x := x) h.2
      have e : insS (y :: l) x = y :: insS l x := by unfold insS; simp [hy]
      rw [e, List.pairwise_cons]
      refine ⟨fun z hz => ?_, ih⟩
      rcases List.mem_cons.1 ((insS_perm l x).mem_iff.1 hz) with rfl | hz
      · omega
      · exact h.1 z hz
    · have e : insS (y :: l) x = x :: y :: l := by unfold insS; simp [hy]
      rw [e, List.pairwise_cons]
      refine ⟨fun z hz => ?_, List.pairwise_cons.2 h⟩
      rcases List.mem_cons.1 hz with rfl | hz
      · omega
      · have := h.1 z hz; omega
/-- The list in order of the numbers so far. -/
def insL (xs : List Int) : List Int := xs.foldl insS []
theorem insL_spec (xs : List Int) : insL xs = srtI xs := by
  have key : ∀ (xs acc : List Int), acc.Pairwise (· ≤ ·) → (xs.foldl insS acc).Pairwise (· ≤ ·) ∧ (xs.foldl insS acc).Perm (acc ++ xs) := by
    intro xs
    induction xs with
    | nil => intro acc h; simpa using h
    | cons x xs ih =>
      intro acc h
      obtain ⟨h1, h2⟩ := ih _ (insS_sorted (x := x) h)
      refine ⟨h1, h2.trans ?_⟩
      refine ((insS_perm acc x).append_right xs).trans ?_
      simpa using List.perm_middle.symm
  obtain ⟨h1, h2⟩ := key xs [] List.Pairwise.nil
  exact (h2.trans (srtI_perm xs).symm).eq_of_pairwise (fun a b _ _ h1 h2 => by omega) h1 (srtI_sorted xs)
theorem insL_snoc (xs : List Int) (x : Int) : insL (xs ++ [x]) = insS (insL xs) x := by
  unfold insL
  rw [List.foldl_append]
  rfl
theorem insL_len (xs : List Int) : (insL xs).length = xs.length := by rw [insL_spec]; exact (srtI_perm xs).length_eq
/-- Where the number goes: all before are less, and the one there is not. -/
theorem insS_at {l : List Int} {x : Int} {i : Nat} (h1 : ∀ j (hj : j < i) (h : j < l.length), l[j] < x) (hi : i ≤ l.length) (h2 : ∀ h : i < l.length, ¬ l[i] < x) : insS l x = l.take i ++ x :: l.drop i := by
  have key : ∀ (l : List Int) (i : Nat), (∀ j (hj : j < i) (h : j < l.length), l[j] < x) → i ≤ l.length → (∀ h : i < l.length, ¬ l[i] < x) → l.takeWhile (fun y => decide (y < x)) = l.take i ∧ l.dropWhile (fun y => decide (y < x)) = l.drop i := by
    intro l
    induction l with
    | nil => intro i _ _ _; simp
    | cons y l ih =>
      intro i h1 hi h2
      cases i with
      | zero =>
        have hy := h2 (by simp)
        simp only [List.getElem_cons_zero] at hy
        simp [hy]
      | succ i =>
        have hy := h1 0 (by omega) (by simp)
        simp only [List.getElem_cons_zero] at hy
        obtain ⟨e1, e2⟩ := ih i (fun j hj h => by have := h1 (j + 1) (by omega) (by simpa using h); simpa using this) (by simpa using hi) (fun h => by have := h2 (by simpa using h); simpa using this)
        simp [hy, e1, e2]
  obtain ⟨e1, e2⟩ := key l i h1 hi h2
  unfold insS
  rw [e1, e2]
end Go.Proofs.YtnplnfkmcfalhaaGreatDoor
namespace Go.Proofs.YtnplnfkmcfalhaaGreatDoor
set_option linter.unusedVariables false
set_option linter.unusedSimpArgs false
open Go.RowKit

/-- The reference's grades and changed grades behind a grade that is taken. -/
def refG (G O : List Gd) (g : Gd) : List Gd × List Gd :=
  match G.findIdx? fun x => decide (x.pl = g.pl) with
  | none => (G ++ [g], O)
  | some i => (G.set i g, O ++ if (G.getD i gd0).n = g.n then [] else [G.getD i gd0])
theorem refG_new {G O : List Gd} {g : Gd} (h : findP G g.pl = -1) : (∀ x ∈ G, x.pl ≠ g.pl) ∧ refG G O g = (G ++ [g], O) := by
  unfold findP at h
  unfold refG
  cases hf : G.findIdx? fun x => decide (x.pl = g.pl) with
  | none =>
    rw [List.findIdx?_eq_none_iff] at hf
    exact ⟨fun x hx => by simpa using hf x hx, rfl⟩
  | some i => rw [hf] at h; simp only at h; omega
theorem refG_at {G O : List Gd} {g : Gd} {i : Nat} (h : findP G g.pl = (i : Int)) : ∃ hi : i < G.length, G[i].pl = g.pl ∧ refG G O g = (G.set i g, O ++ if G[i].n = g.n then [] else [G[i]]) := by
  unfold findP at h
  unfold refG
  cases hf : G.findIdx? fun x => decide (x.pl = g.pl) with
  | none => rw [hf] at h; simp only at h; omega
  | some j =>
    rw [hf] at h
    simp only at h
    obtain rfl : j = i := by omega
    rw [List.findIdx?_eq_some_iff_getElem] at hf
    obtain ⟨hi, hp, -⟩ := hf
    rw [decide_eq_true_eq] at hp
    refine ⟨hi, hp, ?_⟩
    have : G.getD j gd0 = G[j] := by rw [List.getD_eq_getElem?_getD, List.getElem?_eq_getElem hi]; rfl
    simp only [this]
theorem findP_cases (G : List Gd) (k : Pl) : findP G k = -1 ∨ ∃ i : Nat, findP G k = (i : Int) := by
  unfold findP
  cases G.findIdx? fun x => decide (x.pl = k) with
  | none => exact .inl rfl
  | some i => exact .inr ⟨i, rfl⟩
section
variable {b : Bk} {L : List Int} {C : List Cr} {D : List Dy} {G : List Gd} {N : List Int} {O : List Gd}
theorem refE_0 {g : Gd} (h : refE L C D N g = 0) : g.lot ∈ L ∧ (critOf C g.name).isSome ∧ (⟨g.ass, g.bid⟩ : Dy) ∈ D ∧ g.bid ∉ N := by
  unfold refE at h
  cases hc : critOf C g.name with
  | none => rw [hc] at h; exact absurd (show (34 : Int) = 0 from h) (by decide)
  | some c =>
    rw [hc] at h
    simp only at h
    split at h
    · exact absurd h (by decide)
    · split at h
      · exact absurd h (by decide)
      · split at h
        · exact absurd h (by decide)
        · split at h
          · exact absurd h (by decide)
          · rename_i h1 h2 h3 h4
            exact ⟨Classical.byContradiction h1, rfl, Classical.byContradiction h2, h4⟩
theorem SimX.start (ls : List Lt) (cs : List Cr) (ds : List Dy) : SimX (newB ls cs ds) (lotsW ls) (crisW cs) (dutsW ds) [] [] [] :=
  ⟨Sim.start ls cs ds, by simp, by simp, by simp, by simp⟩
theorem refG_pl {G O : List Gd} {g : Gd} : ∀ x ∈ G, ∃ y ∈ (refG G O g).1, y.pl = x.pl := by
  intro x hx
  rcases findP_cases G g.pl with h | ⟨i, h⟩
  · rw [(refG_new h).2]
    exact ⟨x, List.mem_append_left _ hx, rfl⟩
  · obtain ⟨hi, hp, e⟩ := refG_at (O := O) h
    rw [e]
    obtain ⟨j, hj, rfl⟩ := List.getElem_of_mem hx
    by_cases hji : j = i
    · subst hji
      exact ⟨g, List.mem_iff_getElem.2 ⟨j, by simpa using hi, by simp⟩, hp.symm⟩
    · refine ⟨G[j], List.mem_iff_getElem.2 ⟨j, by simpa using hj, ?_⟩, rfl⟩
      rw [List.getElem_set, if_neg (fun e => hji e.symm)]
theorem refG_mem {G O : List Gd} {g : Gd} : ∀ x ∈ (refG G O g).1, x ∈ G ∨ x = g := by
  intro x hx
  rcases findP_cases G g.pl with h | ⟨i, h⟩
  · rw [(refG_new h).2] at hx
    rcases List.mem_append.1 hx with hx | hx
    · exact .inl hx
    · exact .inr (List.mem_singleton.1 hx)
  · obtain ⟨hi, hp, e⟩ := refG_at (O := O) h
    rw [e] at hx
    exact List.mem_or_eq_of_mem_set hx
theorem refG_old {G O : List Gd} {g : Gd} : ∀ x ∈ (refG G O g).2, x ∈ O ∨ x ∈ G := by
  intro x hx
  rcases findP_cases G g.pl with h | ⟨i, h⟩
  · rw [(refG_new h).2] at hx
    exact .inl hx
  · obtain ⟨hi, hp, e⟩ := refG_at (O := O) h
    rw [e] at hx
    rcases List.mem_append.1 hx with hx | hx
    · exact .inl hx
    · split at hx
      · cases hx
      · rw [List.mem_singleton] at hx
        subst hx
        exact .inr (List.getElem_mem _)
theorem refG_len (G O : List Gd) (g : Gd) : (refG G O g).1.length ≤ G.length + 1 ∧ (refG G O g).2.length ≤ O.length + 1 := by
  rcases findP_cases G g.pl with h | ⟨i, h⟩
  · rw [(refG_new h).2]
    simp
  · obtain ⟨hi, hp, e⟩ := refG_at (O := O) h
    rw [e]
    simp only [List.length_set, List.length_append]
    refine ⟨by omega, ?_⟩
    split <;> simp
theorem SimX.put (h : SimX b L C D G N O) {g : Gd} (he : refE L C D N g = 0) : SimX (b.put g) L C D (refG G O g).1 N (refG G O g).2 := by
  obtain ⟨-, -, hd, -⟩ := refE_0 he
  refine ⟨?_, fun x hx => ?_, h.has, fun n hn d hd' hdn l hl c hc => ?_, h.ndN⟩
  · rcases findP_cases G g.pl with hf | ⟨i, hf⟩
    · obtain ⟨h1, h2⟩ := refG_new (O := O) hf
      rw [h2]
      exact h.toSim.add h1
    · obtain ⟨hi, hp, h2⟩ := refG_at (O := O) hf
      rw [h2]
      exact h.toSim.set hi hp
  · rcases refG_mem x hx with hx | rfl
    · exact h.dG x hx
    · exact hd
  · obtain ⟨x, hx, hp⟩ := h.full n hn d hd' hdn l hl c hc
    obtain ⟨y, hy, hyp⟩ := refG_pl (O := O) (g := g) x hx
    exact ⟨y, hy, hyp.trans hp⟩
/-- The reference's Give: its error, and its lists. -/
noncomputable def refB (L : List Int) (C : List Cr) (D : List Dy) (G : List Gd) (N : List Int) (O : List Gd) (g : Gd) : List Gd × List Gd := if refE L C D N g = 0 then refG G O g else (G, O)
theorem SimX.give (h : SimX b L C D G N O) (g : Gd) : (giveR b g).1 = refE L C D N g ∧ SimX (giveR b g).2 L C D (refB L C D G N O g).1 N (refB L C D G N O g).2 := by
  obtain ⟨h1, h2, h3⟩ := h.toSim.ans g
  refine ⟨h1, ?_⟩
  unfold refB
  by_cases he : refE L C D N g = 0
  · rw [if_pos he, h3 he]
    exact h.put he
  · rw [if_neg he, h2 he]
    exact h
def hasR (D : List Dy) (bid : Int) : Prop := ∃ d ∈ D, d.bid = bid
def fewR (L : List Int) (C : List Cr) (D : List Dy) (G : List Gd) (bid : Int) : Prop := ∃ d ∈ D, d.bid = bid ∧ ∃ l ∈ L, ∃ c ∈ C, ∀ x ∈ G, x.pl ≠ ⟨bid, l, c.name, d.ass⟩
open Classical in
/-- The reference's Final. -/
noncomputable def refF (L : List Int) (C : List Cr) (D : List Dy) (G : List Gd) (N : List Int) (bid : Int) : Int := if ¬ hasR D bid then 34 else if bid ∈ N then 33 else if fewR L C D G bid then 24 else 0
theorem refF_34 {L : List Int} {C : List Cr} {D : List Dy} {G : List Gd} {N : List Int} {bid : Int} (h : ¬ hasR D bid) : refF L C D G N bid = 34 := if_pos h
theorem refF_33 {L : List Int} {C : List Cr} {D : List Dy} {G : List Gd} {N : List Int} {bid : Int} (h : hasR D bid) (h2 : bid ∈ N) : refF L C D G N bid = 33 := by unfold refF; rw [if_neg (fun e => e h), if_pos h2]
theorem refF_24 {L : List Int} {C : List Cr} {D : List Dy} {G : List Gd} {N : List Int} {bid : Int} (h : hasR D bid) (h2 : bid ∉ N) (h3 : fewR L C D G bid) : refF L C D G N bid = 24 := by unfold refF; rw [if_neg (fun e => e h), if_neg h2, if_pos h3]
theorem refF_0 {L : List Int} {C : List Cr} {D : List Dy} {G : List Gd} {N : List Int} {bid : Int} (h : hasR D bid) (h2 : bid ∉ N) (h3 : ¬ fewR L C D G bid) : refF L C D G N bid = 0 := by unfold refF; rw [if_neg (fun e => e h), if_neg h2, if_neg h3]
noncomputable def refN (L : List Int) (C : List Cr) (D : List Dy) (G : List Gd) (N : List Int) (bid : Int) : List Int := if refF L C D G N bid = 0 then N ++ [bid] else N
theorem refN_ne {L : List Int} {C : List Cr} {D : List Dy} {G : List Gd} {N : List Int} {bid : Int} (h : refF L C D G N bid ≠ 0) : refN L C D G N bid = N := if_neg h

theorem SimX.final (h : SimX b L C D G N O) (bid : Int) : finE b bid = refF L C D G N bid ∧ SimX (finB b bid) L C D G (refN L C D G N bid) O := by
  have ha := h.toSim.hasA_iff bid
  have hw := h.toSim.few_iff bid
  have hfi := h.fin bid
  have he : finE b bid = refF L C D G N bid := by
    by_cases h1 : hasA b bid
    · have h1' : hasR D bid := ha.1 h1
      by_cases h2 : bid ∈ N
      · rw [finE_33 h1 (by rw [hfi]; simpa using h2), refF_33 h1' h2]
      · have h2' : b.fin bid = false := by rw [hfi]; simpa using h2
        by_cases h3 : few b bid
        · rw [finE_24 h1 h2' h3, refF_24 h1' h2 (hw.1 h3)]
        · rw [finE_0 h1 h2' h3, refF_0 h1' h2 (fun e => h3 (hw.2 e))]
    · rw [finE_34 h1, refF_34 (fun e => h1 (ha.2 e))]
  refine ⟨he, ?_⟩
  unfold finB refN
  rw [← he]
  by_cases h0 : finE b bid = 0
  · rw [if_pos h0, if_pos h0]
    rw [he] at h0
    unfold refF at h0
    split at h0
    · exact absurd h0 (by decide)
    · split at h0
      · exact absurd h0 (by decide)
      · split at h0
        · exact absurd h0 (by decide)
        · rename_i h1 h2 h3
          have h1' : hasR D bid := Classical.byContradiction h1
          refine ⟨h.toSim.fine bid, h.dG, fun n hn => ?_, fun n hn d hd hdn l hl c hc => ?_, nodup_snoc h.ndN h2⟩
          · rcases List.mem_append.1 hn with hn | hn
            · exact h.has n hn
            · rw [List.mem_singleton] at hn
              subst hn
              exact h1'
          · rcases List.mem_append.1 hn with hn | hn
            · exact h.full n hn d hd hdn l hl c hc
            · rw [List.mem_singleton] at hn
              subst hn
              refine Classical.byContradiction fun hne => h3 ⟨d, hd, hdn, l, hl, c, hc, fun x hx e => hne ⟨x, hx, e⟩⟩
  · rw [if_neg h0, if_neg h0]
    exact h
/-- The parts of the reference's lists are ints and strings of the machine, the names are short. -/
structure OkX (G : List Gd) (N : List Int) (O : List Gd) : Prop where
  g : ∀ x ∈ G, x.ok ∧ x.name.size ≤ 1000
  n : ∀ x ∈ N, OkI x
  o : ∀ x ∈ O, x.ok ∧ x.name.size ≤ 1000
theorem OkX.nil : OkX [] [] [] := ⟨by simp, by simp, by simp⟩
theorem OkX.give (h : OkX G N O) {g : Gd} (hg : g.ok ∧ g.name.size ≤ 1000) : OkX (refB L C D G N O g).1 N (refB L C D G N O g).2 := by
  unfold refB
  split
  · refine ⟨fun x hx => ?_, h.n, fun x hx => ?_⟩
    · rcases refG_mem x hx with hx | rfl
      · exact h.g x hx
      · exact hg
    · rcases refG_old x hx with hx | hx
      · exact h.o x hx
      · exact h.g x hx
  · exact h
theorem OkX.final (h : OkX G N O) {bid : Int} (hb : OkI bid) : OkX G (refN L C D G N bid) O := by
  unfold refN
  split
  · refine ⟨h.g, fun x hx => ?_, h.o⟩
    rcases List.mem_append.1 hx with hx | hx
    · exact h.n x hx
    · rw [List.mem_singleton] at hx
      subst hx
      exact hb
  · exact h
theorem refB_len (g : Gd) : (refB L C D G N O g).1.length ≤ G.length + 1 ∧ (refB L C D G N O g).2.length ≤ O.length + 1 := by
  unfold refB
  split
  · exact refG_len G O g
  · exact ⟨Nat.le_succ _, Nat.le_succ _⟩
theorem refN_len (bid : Int) : (refN L C D G N bid).length ≤ N.length + 1 := by
  unfold refN
  split
  · simp
  · omega
end
end Go.Proofs.YtnplnfkmcfalhaaGreatDoor
namespace Go.Proofs.YtnplnfkmcfalhaaGreatDoor
set_option linter.unusedVariables false
set_option linter.unusedSimpArgs false
open Go.RowKit Go.Sort Go.Shelf

def gdOf (G : List Gd) (k : Pl) : Gd := (G.find? fun x => decide (x.pl = k)).getD gd0
theorem gdOf_self {G : List Gd} (hn : (G.map Gd.pl).Nodup) {i : Nat} (hi : i < G.length) : gdOf G G[i].pl = G[i] := by
  unfold gdOf
  rw [find_self hn _ (List.getElem_mem hi)]
  rfl
def linesG (G : List Gd) (ks : List Pl) : List UInt8 := ks.flatMap fun k => (lineS gradeW (gdOf G k)).data.toList
def linesN (ns : List Int) : List UInt8 := ns.flatMap fun n => (finS n).data.toList
def linesO (O : List Gd) : List UInt8 := O.flatMap fun g => (oldS g).data.toList
/-- The reference's text. -/
def refL (G : List Gd) (N : List Int) (O : List Gd) : List UInt8 := linesG G (srtP (G.map Gd.pl)) ++ linesN (srtI N) ++ linesO O
theorem refL_same {b : Bk} {L : List Int} {C : List Cr} {D : List Dy} {G : List Gd} {N : List Int} {O : List Gd} (h : SimX b L C D G N O) {s : ByteArray} (hs : EncR b s) : s = ⟨(refL G N O).toArray⟩ := by
  refine hs.same (b' := b) ⟨G.map Gd.pl, N, h.nod, fun k => ?_, h.ndN, fun n => ?_, ?_⟩ rfl rfl rfl
  · rw [h.gr, List.find?_isSome, List.mem_map]
    simp
  · rw [h.fin, decide_eq_true_eq]
  · unfold refL encL linesG linesN linesO grS gdOf
    rw [h.old]
    simp only [h.gr]
theorem linesG_snoc (G : List Gd) (ks : List Pl) (k : Pl) : linesG G (ks ++ [k]) = linesG G ks ++ (lineS gradeW (gdOf G k)).data.toList := by
  unfold linesG
  rw [List.flatMap_append]
  simp
theorem linesN_snoc (ns : List Int) (n : Int) : linesN (ns ++ [n]) = linesN ns ++ (finS n).data.toList := by
  unfold linesN
  rw [List.flatMap_append]
  simp
theorem linesO_snoc (O : List Gd) (g : Gd) : linesO (O ++ [g]) = linesO O ++ (oldS g).data.toList := by
  unfold linesO
  rw [List.flatMap_append]
  simp
theorem cat_bytes (l : List UInt8) (s : ByteArray) : (⟨l.toArray⟩ : ByteArray) ++ s = ⟨(l ++ s.data.toList).toArray⟩ := by
  apply Go.WideShapes.bytes_inj
  simp
theorem take_snoc {α : Type} (l : List α) (i : Nat) (h : i < l.length) : l.take (i + 1) = l.take i ++ [l[i]] := by
  rw [List.take_add_one, List.getElem?_eq_getElem h]
  rfl
end Go.Proofs.YtnplnfkmcfalhaaGreatDoor
namespace Go.Proofs.YtnplnfkmcfalhaaGreatDoor
set_option linter.unusedVariables false
set_option linter.unusedSimpArgs false
open Go.RowKit

def rblks (p : Nat) (vl vc vd vg vn vo : Value) : List Nat := p :: (vl.ownBlock.toList ++ (vc.ownBlock.toList ++ (vd.ownBlock.toList ++ (vg.ownBlock.toList ++ (vn.ownBlock.toList ++ vo.ownBlock.toList)))))
theorem mem_rblks {p : Nat} {vl vc vd vg vn vo : Value} {k : Nat} : k ∈ rblks p vl vc vd vg vn vo ↔ k = p ∨ vl.ownBlock = some k ∨ vc.ownBlock = some k ∨ vd.ownBlock = some k ∨ vg.ownBlock = some k ∨ vn.ownBlock = some k ∨ vo.ownBlock = some k := by
  unfold rblks
  simp only [List.mem_cons, List.mem_append, Option.mem_toList]
/-- The rows of the reference's book. -/
structure RR (w : World) (p : Nat) (vl vc vd vg vn vo : Value) (L : List Int) (C : List Cr) (D : List Dy) (G : List Gd) (N : List Int) (O : List Gd) : Prop where
  at0 : w.heap[p]? = some (.cells #[vl, vc, vd, vg, vn, vo] 80)
  rl : w.ownsRow 0 3 1 vl L.length (L.flatMap celI)
  rc : w.ownsRow 0 73 5 vc C.length (C.flatMap Cr.cs)
  rd : w.ownsRow 0 57 2 vd D.length (D.flatMap Dy.cs)
  rg : w.ownsRow 0 23 6 vg G.length (G.flatMap Gd.cs)
  rn : w.ownsRow 0 3 1 vn N.length (N.flatMap celI)
  ro : w.ownsRow 0 23 6 vo O.length (O.flatMap Gd.cs)
  go : ∀ k, vg.ownBlock = some k → vo.ownBlock ≠ some k
  ln : ∀ k, vl.ownBlock = some k → vn.ownBlock ≠ some k
/-- The reference's book at p, in the blocks F. -/
def RWF (F : List Nat) (w : World) (p : Nat) (vl vc vd : Value) (L : List Int) (C : List Cr) (D : List Dy) (G : List Gd) (N : List Int) (O : List Gd) : Prop :=
  ∃ vg vn vo, RR w p vl vc vd vg vn vo L C D G N O ∧ F = rblks p vl vc vd vg vn vo
section
variable {F : List Nat} {w w' : World} {p : Nat} {vl vc vd vg vn vo : Value} {L : List Int} {C : List Cr} {D : List Dy} {G : List Gd} {N : List Int} {O : List Gd}
theorem RR.lt (h : RR w p vl vc vd vg vn vo L C D G N O) : ∀ k ∈ rblks p vl vc vd vg vn vo, k < w.heap.size := by
  intro k hk
  rcases mem_rblks.1 hk with rfl | hk | hk | hk | hk | hk | hk
  · exact Rg.lt_of_heap h.at0
  · exact (h.rl.lt k hk).2
  · exact (h.rc.lt k hk).2
  · exact (h.rd.lt k hk).2
  · exact (h.rg.lt k hk).2
  · exact (h.rn.lt k hk).2
  · exact (h.ro.lt k hk).2
theorem RR.stay (h : RR w p vl vc vd vg vn vo L C D G N O) (hb : ∀ k ∈ rblks p vl vc vd vg vn vo, w'.heap[k]? = w.heap[k]?) : RR w' p vl vc vd vg vn vo L C D G N O := by
  have hb' := fun k hk => hb k (mem_rblks.2 hk)
  exact ⟨(hb' p (.inl rfl)).trans h.at0, row_of_block h.rl (fun k e => hb' k (.inr (.inl e))), row_of_block h.rc (fun k e => hb' k (.inr (.inr (.inl e)))), row_of_block h.rd (fun k e => hb' k (.inr (.inr (.inr (.inl e))))),
    row_of_block h.rg (fun k e => hb' k (.inr (.inr (.inr (.inr (.inl e)))))), row_of_block h.rn (fun k e => hb' k (.inr (.inr (.inr (.inr (.inr (.inl e))))))), row_of_block h.ro (fun k e => hb' k (.inr (.inr (.inr (.inr (.inr (.inr e)))))))  , h.go, h.ln⟩
theorem RR.ext (h : RR w p vl vc vd vg vn vo L C D G N O) (e : Ext w w') : RR w' p vl vc vd vg vn vo L C D G N O := h.stay (fun k hk => e.block k (h.lt k hk))
theorem RR.rw (h : RR w p vl vc vd vg vn vo L C D G N O) : RW 0 w p L C D G N O := ⟨vl, vc, vd, vg, vn, vo, Nat.zero_le _, h.at0, h.rl, h.rc, h.rd, h.rg, h.rn, h.ro, h.go, h.ln⟩
theorem RWF.lt (h : RWF F w p vl vc vd L C D G N O) : ∀ k ∈ F, k < w.heap.size := by
  obtain ⟨vg, vn, vo, h, rfl⟩ := h
  exact h.lt
theorem RWF.stay (h : RWF F w p vl vc vd L C D G N O) (hb : ∀ k ∈ F, w'.heap[k]? = w.heap[k]?) : RWF F w' p vl vc vd L C D G N O := by
  obtain ⟨vg, vn, vo, h, rfl⟩ := h
  exact ⟨vg, vn, vo, h.stay hb, rfl⟩
theorem RWF.ext (h : RWF F w p vl vc vd L C D G N O) (e : Ext w w') : RWF F w' p vl vc vd L C D G N O := h.stay (fun k hk => e.block k (h.lt k hk))
theorem RWF.apart {H : List Nat} (h : RWF F w p vl vc vd L C D G N O) (e : KF H w w') (hd : ∀ k ∈ F, k ∉ H) : RWF F w' p vl vc vd L C D G N O := h.stay (fun k hk => e.block k (h.lt k hk) (hd k hk))
theorem RWF.rw (h : RWF F w p vl vc vd L C D G N O) : RW 0 w p L C D G N O := by
  obtain ⟨vg, vn, vo, h, rfl⟩ := h
  exact h.rw
/-- The book has turned. -/
def RP (F : List Nat) (w : World) (p : Nat) (vl vc vd : Value) (L : List Int) (C : List Cr) (D : List Dy) (G : List Gd) (N : List Int) (O : List Gd) (w' : World) : Prop :=
  ∃ F', RWF F' w' p vl vc vd L C D G N O ∧ (∀ k ∈ F', k ∈ F ∨ w.heap.size ≤ k) ∧ KF F w w'
theorem RP.same (h : RWF F w p vl vc vd L C D G N O) (e : Ext w w') : RP F w p vl vc vd L C D G N O w' := ⟨F, h.ext e, fun _ hk => .inl hk, KF.of e⟩
/-- A slice's own block is the old one, or a new one. -/
def Tb (w : World) (v v' : Value) : Prop := v'.ownBlock = v.ownBlock ∨ ∃ q, v'.ownBlock = some q ∧ w.heap.size ≤ q
theorem Tb.refl (w : World) (v : Value) : Tb w v v := .inl rfl
theorem Tb.le {v v' : Value} (h : Tb w' v v') (e : w.heap.size ≤ w'.heap.size) : Tb w v v' := h.imp id fun ⟨q, h1, h2⟩ => ⟨q, h1, by omega⟩
theorem RP.done {G' : List Gd} {N' : List Int} {O' : List Gd} {vg' vn' vo' : Value} {W : World} (h : RR w p vl vc vd vg vn vo L C D G N O) (hF : F = rblks p vl vc vd vg vn vo)
    (hp : W.heap[p]? = some (.cells #[vl, vc, vd, vg', vn', vo'] 80)) (h4 : W.ownsRow 0 23 6 vg' G'.length (G'.flatMap Gd.cs)) (h5 : W.ownsRow 0 3 1 vn' N'.length (N'.flatMap celI)) (h6 : W.ownsRow 0 23 6 vo' O'.length (O'.flatMap Gd.cs))
    (t4 : Tb w vg vg') (t5 : Tb w vn vn') (t6 : Tb w vo vo') (hne : ∀ k, vg'.ownBlock = some k → vo'.ownBlock ≠ some k) (hos : W.os = w.os) (htp : W.tape = w.tape) (hou : W.output = w.output) (hsz : w.heap.size ≤ W.heap.size)
    (hs : ∀ k, k < w.heap.size → k ≠ p → some k ≠ vg.ownBlock → some k ≠ vn.ownBlock → some k ≠ vo.ownBlock → W.heap[k]? = w.heap[k]?) : RP F w p vl vc vd L C D G' N' O' W := by
  subst hF
  have hbp : ∀ {B E sz n : Nat} {v : Value} {xs : List Value} {k : Nat}, w.ownsRow B E sz v n xs → E ≠ 80 → v.ownBlock = some k → k ≠ p := fun h1 hE hk e => by
    subst e
    obtain ⟨cs, hc⟩ := row_block h1 hk
    rw [h.at0] at hc
    injection hc with hc
    injection hc with _ hc _
    exact hE hc.symm
  have hbb : ∀ {B E sz n B' E' sz' n' : Nat} {v v' : Value} {xs xs' : List Value} {k : Nat}, w.ownsRow B E sz v n xs → w.ownsRow B' E' sz' v' n' xs' → E ≠ E' → v.ownBlock = some k → some k ≠ v'.ownBlock := fun h1 h2 hE hk e => by
    rcases row_ne h1 h2 hE with h0 | h0
    · rw [h0] at hk; cases hk
    · exact h0 (hk.trans e)
  refine ⟨_, ⟨vg', vn', vo', ⟨hp, row_of_block h.rl (fun k e => hs k (h.rl.lt k e).2 (hbp h.rl (by decide) e) (hbb h.rl h.rg (by decide) e) (fun e' => h.ln k e e'.symm) (hbb h.rl h.ro (by decide) e)),
    row_of_block h.rc (fun k e => hs k (h.rc.lt k e).2 (hbp h.rc (by decide) e) (hbb h.rc h.rg (by decide) e) (hbb h.rc h.rn (by decide) e) (hbb h.rc h.ro (by decide) e)),
    row_of_block h.rd (fun k e => hs k (h.rd.lt k e).2 (hbp h.rd (by decide) e) (hbb h.rd h.rg (by decide) e) (hbb h.rd h.rn (by decide) e) (hbb h.rd h.ro (by decide) e)), h4, h5, h6, hne, fun k e e' => ?_⟩, rfl⟩, fun k hk => ?_, hos, htp, hou, hsz, fun k hk hn => ?_⟩
  · rcases t5 with t | ⟨q, t, hq⟩
    · exact h.ln k e (t.symm.trans e')
    · rw [t] at e'
      injection e' with e'
      have := (h.rl.lt k e).2
      omega
  · have ht : ∀ {v v' : Value}, Tb w v v' → v'.ownBlock = some k → v.ownBlock = some k ∨ w.heap.size ≤ k := fun {v v'} t e => by
      rcases t with t | ⟨q, t, hq⟩
      · exact .inl (t.symm.trans e)
      · rw [t] at e
        injection e with e
        exact .inr (by omega)
    rw [mem_rblks] at hk ⊢
    rcases hk with h | h | h | h | h | h | h
    · exact .inl (.inl h)
    · exact .inl (.inr (.inl h))
    · exact .inl (.inr (.inr (.inl h)))
    · exact .inl (.inr (.inr (.inr (.inl h))))
    · exact (ht t4 h).imp (fun h => .inr (.inr (.inr (.inr (.inl h))))) id
    · exact (ht t5 h).imp (fun h => .inr (.inr (.inr (.inr (.inr (.inl h)))))) id
    · exact (ht t6 h).imp (fun h => .inr (.inr (.inr (.inr (.inr (.inr h)))))) id
  · rw [mem_rblks] at hn
    exact hs k hk (fun e => hn (.inl e)) (fun e => hn (.inr (.inr (.inr (.inr (.inl e.symm)))))) (fun e => hn (.inr (.inr (.inr (.inr (.inr (.inl e.symm))))))) (fun e => hn (.inr (.inr (.inr (.inr (.inr (.inr e.symm)))))))
theorem RP.trans {F1 : List Nat} {G' : List Gd} {N' : List Int} {O' : List Gd} {L1 : List Int} {C1 : List Cr} {D1 : List Dy} {w1 w2 : World} (hF : ∀ k ∈ F1, k ∈ F ∨ w.heap.size ≤ k) (hK : KF F w w1) (h : RP F1 w1 p vl vc vd L1 C1 D1 G' N' O' w2) : RP F w p vl vc vd L1 C1 D1 G' N' O' w2 := by
  obtain ⟨F2, h1, h2, h3⟩ := h
  refine ⟨F2, h1, fun k hk => ?_, hK.trans h3 hF⟩
  rcases h2 k hk with h | h
  · exact hF k h
  · exact .inr (by have := hK.size; omega)
theorem RR.np (h : RR w p vl vc vd vg vn vo L C D G N O) {B E sz n : Nat} {v : Value} {xs : List Value} {k : Nat} (h1 : w.ownsRow B E sz v n xs) (hE : E ≠ 80) (hk : v.ownBlock = some k) : k ≠ p := fun e => by
  subst e
  obtain ⟨cs, hc⟩ := row_block h1 hk
  rw [h.at0] at hc
  injection hc with hc
  injection hc with _ hc _
  exact hE hc.symm
theorem row_apart {B E sz n B' E' sz' n' : Nat} {v v' : Value} {xs xs' : List Value} {k : Nat} (h1 : w.ownsRow B E sz v n xs) (h2 : w.ownsRow B' E' sz' v' n' xs') (hE : E ≠ E') (hk : v.ownBlock = some k) : v'.ownBlock ≠ some k := fun e => by
  rcases row_ne h1 h2 hE with h0 | h0
  · rw [h0] at hk; cases hk
  · exact h0 (hk.trans e.symm)
/-- Behind an append to one of the slices, its new value stored. -/
theorem RP.app {i : Nat} {v v' : Value} {wy w9 : World} {E sz n n' g : Nat} {xs xs' : List Value} {G' : List Gd} {N' : List Int} {O' : List Gd} {vg' vn' vo' : Value}
    (h : RR w p vl vc vd vg vn vo L C D G N O) (hF : F = rblks p vl vc vd vg vn vo) (e : Ext w wy) (hv : w.ownsRow 0 E sz v n xs) (hv' : w9.ownsRow 0 E sz v' n' xs') (hE : E ≠ 80) (hv0 : v'.ownBlock = some g) (hg : wy.grownBy w9 v.ownBlock) (hat : v.ownBlock = some g ∨ g = wy.heap.size)
    (hset : (w9.setCell ⟨p, i, none⟩ v').heap[p]? = some (.cells #[vl, vc, vd, vg', vn', vo'] 80))
    (hcase : (v = vg ∧ v' = vg' ∧ vn' = vn ∧ vo' = vo ∧ N' = N ∧ O' = O ∧ E = 23 ∧ sz = 6 ∧ n' = G'.length ∧ xs' = G'.flatMap Gd.cs) ∨ (v = vn ∧ v' = vn' ∧ vg' = vg ∧ vo' = vo ∧ G' = G ∧ O' = O ∧ E = 3 ∧ sz = 1 ∧ n' = N'.length ∧ xs' = N'.flatMap celI) ∨ (v = vo ∧ v' = vo' ∧ vg' = vg ∧ vn' = vn ∧ G' = G ∧ N' = N ∧ E = 23 ∧ sz = 6 ∧ n' = O'.length ∧ xs' = O'.flatMap Gd.cs)) :
    RP F w p vl vc vd L C D G' N' O' (w9.setCell ⟨p, i, none⟩ v') := by
  have hT : Tb w v v' := by
    rcases hat with h | h
    · exact .inl (hv0.trans h.symm)
    · exact .inr ⟨g, hv0, by have := e.size; omega⟩
  have hgp : g ≠ p := by
    rcases hat with h1 | h1
    · exact h.np hv hE h1
    · have := Rg.lt_of_heap h.at0; have := e.size; omega
  have hoth : ∀ k, k ≠ p → (w9.setCell ⟨p, i, none⟩ v').heap[k]? = w9.heap[k]? := fun k hk => heap_setCell_other w9 _ k _ hk
  have hk9 : ∀ k, k < w.heap.size → k ≠ p → some k ≠ v.ownBlock → (w9.setCell ⟨p, i, none⟩ v').heap[k]? = w.heap[k]? := fun k hk hkp hn => (hoth k hkp).trans ((hg.block k (by have := e.size; omega) hn).trans (e.block k hk))
  have hrow : (w9.setCell ⟨p, i, none⟩ v').ownsRow 0 E sz v' n' xs' := row_of_block hv' (fun k hk => hoth k (fun e2 => hgp (by rw [hv0] at hk; injection hk with hk; omega)))
  have hkeep : ∀ {E' sz' n2 : Nat} {u : Value} {ys : List Value}, w.ownsRow 0 E' sz' u n2 ys → E' ≠ 80 → (∀ k, u.ownBlock = some k → v.ownBlock ≠ some k) → (w9.setCell ⟨p, i, none⟩ v').ownsRow 0 E' sz' u n2 ys := fun {E' sz' n2 u ys} hu hE' hn => row_of_block hu (fun k hk => hk9 k (hu.lt k hk).2 (h.np hu hE' hk) (fun e2 => hn k hk e2.symm))
  have hfr : ∀ {u : Value}, (∀ k, u.ownBlock = some k → k < w.heap.size) → (∀ k, u.ownBlock = some k → v.ownBlock ≠ some k) → ∀ k, u.ownBlock = some k → v'.ownBlock ≠ some k := fun {u} hl hn k hk e2 => by
    rcases hT with t | ⟨q, t, hq⟩
    · exact hn k hk (t.symm.trans e2)
    · rw [t] at e2
      injection e2 with e2
      have := hl k hk
      omega
  have hos : (w9.setCell ⟨p, i, none⟩ v').os = w.os := hg.os.trans e.os
  have htp : (w9.setCell ⟨p, i, none⟩ v').tape = w.tape := hg.tape.trans e.tape
  have hou : (w9.setCell ⟨p, i, none⟩ v').output = w.output := hg.output.trans e.output
  have hsz : w.heap.size ≤ (w9.setCell ⟨p, i, none⟩ v').heap.size := by rw [World.size_setCell]; exact Nat.le_trans e.size hg.size
  rcases hcase with ⟨rfl, rfl, rfl, rfl, rfl, rfl, rfl, rfl, rfl, rfl⟩ | ⟨rfl, rfl, rfl, rfl, rfl, rfl, rfl, rfl, rfl, rfl⟩ | ⟨rfl, rfl, rfl, rfl, rfl, rfl, rfl, rfl, rfl, rfl⟩
  · exact RP.done h hF hset hrow (hkeep h.rn (by decide) (fun k hk => row_apart h.rn h.rg (by decide) hk)) (hkeep h.ro (by decide) (fun k hk e2 => h.go k e2 hk)) hT (Tb.refl _ _) (Tb.refl _ _)
      (fun k hk e2 => hfr (fun k hk => (h.ro.lt k hk).2) (fun k hk e2 => h.go k e2 hk) k e2 hk) hos htp hou hsz (fun k hk hkp h1 _ _ => hk9 k hk hkp h1)
  · exact RP.done h hF hset (hkeep h.rg (by decide) (fun k hk => row_apart h.rg h.rn (by decide) hk)) hrow (hkeep h.ro (by decide) (fun k hk => row_apart h.ro h.rn (by decide) hk)) (Tb.refl _ _) hT (Tb.refl _ _) h.go hos htp hou hsz (fun k hk hkp _ h1 _ => hk9 k hk hkp h1)
  · exact RP.done h hF hset (hkeep h.rg (by decide) (fun k hk => h.go k hk)) (hkeep h.rn (by decide) (fun k hk => row_apart h.rn h.ro (by decide) hk)) hrow (Tb.refl _ _) (Tb.refl _ _) hT
      (fun k hk => hfr (fun k hk => (h.rg.lt k hk).2) (fun k hk => h.go k hk) k hk) hos htp hou hsz (fun k hk hkp _ _ h1 => hk9 k hk hkp h1)
/-- Behind a store into the row of grades. -/
theorem RP.store {wy w' : World} {g : Nat} {G' : List Gd} (h : RR w p vl vc vd vg vn vo L C D G N O) (hF : F = rblks p vl vc vd vg vn vo) (e : Ext w wy) (hv : vg.ownBlock = some g) (hr : w'.ownsRow 0 23 6 vg G'.length (G'.flatMap Gd.cs)) (hg : wy.grownBy w' (some g)) : RP F w p vl vc vd L C D G' N O w' := by
  have hk9 : ∀ k, k < w.heap.size → some k ≠ vg.ownBlock → w'.heap[k]? = w.heap[k]? := fun k hk hn => (hg.block k (by have := e.size; omega) (fun e2 => hn (e2.trans hv.symm))).trans (e.block k hk)
  refine RP.done h hF ((hk9 p (Rg.lt_of_heap h.at0) (fun e2 => h.np h.rg (by decide) e2.symm rfl)).trans h.at0) hr (row_of_block h.rn (fun k hk => hk9 k (h.rn.lt k hk).2 (fun e2 => row_apart h.rn h.rg (by decide) hk e2.symm)))
    (row_of_block h.ro (fun k hk => hk9 k (h.ro.lt k hk).2 (fun e2 => h.go k e2.symm hk))) (Tb.refl _ _) (Tb.refl _ _) (Tb.refl _ _) h.go (hg.os.trans e.os) (hg.tape.trans e.tape) (hg.output.trans e.output) (Nat.le_trans e.size hg.size) (fun k hk _ h1 _ _ => hk9 k hk h1)
end
end Go.Proofs.YtnplnfkmcfalhaaGreatDoor
