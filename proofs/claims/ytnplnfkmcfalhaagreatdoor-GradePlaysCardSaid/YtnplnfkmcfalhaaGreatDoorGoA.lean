/-
  Grades given in any order: the book behind them is the same. Two books side by side. Plain laws, and frames; nothing is asked.
-/
import Derived.Test.YtnplnfkmcfalhaaGreatDoorGzH
import Derived.Test.YtnplnfkmcfalhaaGreatDoorGdR
namespace Go.Proofs.YtnplnfkmcfalhaaGreatDoor
set_option linter.unusedVariables false
set_option linter.unusedSimpArgs false
open Go.RowKit

/-- What a grade must be for a book to take it, but for a grade that is there. -/
def okG (b : Bk) (g : Gd) : Prop := ∃ c, b.crit g.name = some c ∧ b.lots g.lot = true ∧ b.dut ⟨g.ass, g.bid⟩ = true ∧ ¬ (g.n < c.low ∨ c.high < g.n) ∧ b.fin g.bid = false
/-- b is b0 with the grades gs given, no two about one place. -/
structure GI (b0 : Bk) (gs : List Gd) (b : Bk) : Prop where
  lots : b.lots = b0.lots
  crit : b.crit = b0.crit
  dut : b.dut = b0.dut
  fin : b.fin = b0.fin
  old : b.old = []
  gr : ∀ k g, b.gr k = some g ↔ g ∈ gs ∧ g.pl = k ∧ okG b0 g
theorem GI.start {b0 : Bk} (hg : b0.gr = fun _ => none) (ho : b0.old = []) : GI b0 [] b0 := ⟨rfl, rfl, rfl, rfl, ho, fun k g => by rw [hg]; simp⟩
theorem GI.put {b0 b : Bk} {gs : List Gd} (h : GI b0 gs b) {g : Gd} (hn : ∀ x ∈ gs, x.pl ≠ g.pl) (hg : okG b0 g) : GI b0 (gs ++ [g]) (b.put g) := by
  have hno : b.gr g.pl = none := by
    cases hh : b.gr g.pl with
    | none => rfl
    | some o =>
      obtain ⟨h1, h2, -⟩ := (h.gr _ _).1 hh
      exact absurd h2 (hn o h1)
  refine ⟨h.lots, h.crit, h.dut, h.fin, by rw [put_old0 b g hno, h.old], fun k x => ?_⟩
  by_cases hk : k = g.pl
  · subst hk
    rw [put_same]
    constructor
    · intro e
      injection e with e
      subst e
      exact ⟨List.mem_append_right _ List.mem_cons_self, rfl, hg⟩
    · rintro ⟨h1, h2, -⟩
      rcases List.mem_append.1 h1 with h1 | h1
      · exact absurd h2 (hn x h1)
      · rw [List.mem_singleton] at h1
        rw [h1]
  · rw [put_ne b g hk, h.gr]
    constructor
    · rintro ⟨h1, h2, h3⟩
      exact ⟨List.mem_append_left _ h1, h2, h3⟩
    · rintro ⟨h1, h2, h3⟩
      rcases List.mem_append.1 h1 with h1 | h1
      · exact ⟨h1, h2, h3⟩
      · rw [List.mem_singleton] at h1
        subst h1
        exact absurd h2.symm hk
theorem GI.skip {b0 b : Bk} {gs : List Gd} (h : GI b0 gs b) {g : Gd} (hg : ¬ okG b0 g) : GI b0 (gs ++ [g]) b := by
  refine ⟨h.lots, h.crit, h.dut, h.fin, h.old, fun k x => ?_⟩
  rw [h.gr]
  constructor
  · rintro ⟨h1, h2, h3⟩
    exact ⟨List.mem_append_left _ h1, h2, h3⟩
  · rintro ⟨h1, h2, h3⟩
    rcases List.mem_append.1 h1 with h1 | h1
    · exact ⟨h1, h2, h3⟩
    · rw [List.mem_singleton] at h1
      subst h1
      exact absurd h3 hg
theorem giveR_ok {b : Bk} {g : Gd} (h : okG b g) : giveR b g = (0, b.put g) := by
  obtain ⟨c, h1, h2, h3, h4, h5⟩ := h
  rw [giveR_some h1, if_neg (by rw [h2]; decide), if_neg (by rw [h3]; decide), if_neg h4, if_neg (by rw [h5]; decide)]
theorem giveR_no {b : Bk} {g : Gd} (h : ¬ okG b g) : (giveR b g).2 = b := by
  rcases give_cases b g with ⟨k, -, e⟩ | ⟨e, hf⟩
  · rw [e]
  · exfalso
    cases hc : b.crit g.name with
    | none => rw [giveR_none hc] at e; injection e with e _; exact absurd e (by decide)
    | some c =>
      rw [giveR_some hc] at e
      split at e
      · injection e with e _; exact absurd e (by decide)
      · split at e
        · injection e with e _; exact absurd e (by decide)
        · split at e
          · injection e with e _; exact absurd e (by decide)
          · rename_i h1 h2 h3
            exact h ⟨c, hc, by simpa using h1, by simpa using h2, h3, hf⟩
theorem okG_same {b b0 : Bk} {g : Gd} (h1 : b.lots = b0.lots) (h2 : b.crit = b0.crit) (h3 : b.dut = b0.dut) (h4 : b.fin = b0.fin) : okG b g ↔ okG b0 g := by unfold okG; rw [h1, h2, h3, h4]
theorem GI.give {b0 b : Bk} {gs : List Gd} (h : GI b0 gs b) {g : Gd} (hn : ∀ x ∈ gs, x.pl ≠ g.pl) : GI b0 (gs ++ [g]) (giveR b g).2 := by
  have hs := okG_same (g := g) h.lots h.crit h.dut h.fin
  by_cases hg : okG b0 g
  · rw [giveR_ok (hs.2 hg)]
    exact h.put hn hg
  · rw [giveR_no (fun e => hg (hs.1 e))]
    exact h.skip hg
theorem GI.eq {b0 b b' : Bk} {gs gs' : List Gd} (h : GI b0 gs b) (h' : GI b0 gs' b') (hm : ∀ g, g ∈ gs ↔ g ∈ gs') : b = b' := by
  have hgr : b.gr = b'.gr := by
    funext k
    cases hh : b.gr k with
    | some g =>
      obtain ⟨h1, h2, h3⟩ := (h.gr k g).1 hh
      exact ((h'.gr k g).2 ⟨(hm g).1 h1, h2, h3⟩).symm
    | none =>
      cases hh' : b'.gr k with
      | none => rfl
      | some g =>
        obtain ⟨h1, h2, h3⟩ := (h'.gr k g).1 hh'
        rw [(h.gr k g).2 ⟨(hm g).2 h1, h2, h3⟩] at hh
        cases hh
  have e1 := h.lots.trans h'.lots.symm
  have e2 := h.crit.trans h'.crit.symm
  have e3 := h.dut.trans h'.dut.symm
  have e4 := h.fin.trans h'.fin.symm
  have e5 := h.old.trans h'.old.symm
  cases b
  cases b'
  simp only at e1 e2 e3 e4 e5 hgr
  subst e1 e2 e3 e4 e5 hgr
  rfl
/-- Another grade about a place that no earlier one is about. -/
theorem pl_apart {l : List Gd} (hn : (l.map Gd.pl).Nodup) (i : Nat) (h : i < l.length) : ∀ x ∈ l.take i, x.pl ≠ l[i].pl := by
  intro x hx e
  obtain ⟨j, hj, hxe⟩ := List.getElem_of_mem hx
  rw [List.length_take] at hj
  have hji : j < i := by omega
  rw [List.getElem_take] at hxe
  have := (List.getElem_inj (xs := l.map Gd.pl) (i := j) (j := i) (h₀ := by simp; omega) (h₁ := by simpa using h) hn).1 (by rw [List.getElem_map, List.getElem_map, hxe, e])
  omega

/-! ### The places of all grades of a bidder -/
theorem nodup_snoc {α : Type} {l : List α} {x : α} (h : l.Nodup) (hx : x ∉ l) : (l ++ [x]).Nodup := by
  rw [List.nodup_append]
  exact ⟨h, by simp, fun a ha b hb e => by rw [List.mem_singleton] at hb; subst hb; subst e; exact hx ha⟩
theorem lotsW_nodup (ls : List Lt) : (lotsW ls).Nodup := foldl_inv (p := fun acc : List Int => acc.Nodup) ls (fun acc a _ h => by
  unfold lotS
  split
  · exact h
  · rename_i hx; exact nodup_snoc h hx) [] (by simp)
theorem dutsW_nodup (ds : List Dy) : (dutsW ds).Nodup := foldl_inv (p := fun acc : List Dy => acc.Nodup) ds (fun acc a _ h => by
  unfold dutS
  split
  · exact h
  · rename_i hx; exact nodup_snoc h hx) [] (by simp)
theorem crisW_nodup (cs : List Cr) : ((crisW cs).map Cr.name).Nodup := foldl_inv (p := fun acc : List Cr => (acc.map Cr.name).Nodup) cs (fun acc a _ h => by
  unfold criS
  split
  · rename_i hx
    rw [List.map_append]
    exact nodup_snoc h (fun hm => by
      obtain ⟨c, hc, hn⟩ := List.mem_map.1 hm
      exact hx.2 (List.any_eq_true.2 ⟨c, hc, by simpa using hn⟩))
  · exact h) [] (by simp)
theorem nodup_map {α β : Type} {f : α → β} {l : List α} (h : l.Nodup) (hf : ∀ a ∈ l, ∀ b ∈ l, f a = f b → a = b) : (l.map f).Nodup := by
  rw [List.nodup_iff_pairwise_ne] at h ⊢
  rw [List.pairwise_map]
  exact h.imp_of_mem fun ha hb hne e => hne (hf _ ha _ hb e)
theorem wholeP_nodup {D : List Dy} {bid : Int} {L : List Int} {C : List Cr} (hD : D.Nodup) (hL : L.Nodup) (hC : (C.map Cr.name).Nodup) : (wholeP D bid L C).Nodup := by
  unfold wholeP
  rw [List.nodup_iff_pairwise_ne, List.pairwise_flatMap]
  have hdm : ∀ d p, p ∈ dutP bid L C d → d = ⟨p.ass, bid⟩ ∧ p.lot ∈ L := by
    intro d p hp
    unfold dutP at hp
    split at hp
    · rename_i hb
      obtain ⟨l, hl, hp⟩ := List.mem_flatMap.1 hp
      obtain ⟨c, hc, rfl⟩ := List.mem_map.1 hp
      exact ⟨by cases d; simp only at hb; subst hb; rfl, hl⟩
    · simp at hp
  refine ⟨fun d _ => ?_, ?_⟩
  · unfold dutP
    split
    · rw [List.pairwise_flatMap]
      refine ⟨fun l _ => ?_, ?_⟩
      · rw [← List.nodup_iff_pairwise_ne]
        rw [List.nodup_iff_pairwise_ne, List.pairwise_map] at hC
        rw [List.nodup_iff_pairwise_ne, List.pairwise_map]
        exact hC.imp fun hne e => hne (by injection e)
      · rw [List.nodup_iff_pairwise_ne] at hL
        exact hL.imp fun hne x hx y hy e => by
          obtain ⟨c, -, rfl⟩ := List.mem_map.1 hx
          obtain ⟨c', -, rfl⟩ := List.mem_map.1 hy
          exact hne (by injection e)
    · exact List.Pairwise.nil
  · rw [List.nodup_iff_pairwise_ne] at hD
    exact hD.imp fun hne x hx y hy e => by
      subst e
      exact hne ((hdm _ _ hx).1.trans (hdm _ _ hy).1.symm)

/-! ### Two books side by side, and a row apart from both -/
def B2 (w0 w : World) (p1 : Nat) (b1 : Bk) (p2 : Nat) (b2 : Bk) (o : Option Nat) : Prop :=
  ∃ F1 F2, BR w p1 b1 F1 ∧ BR w p2 b2 F2 ∧ (∀ k ∈ F1, w0.heap.size ≤ k ∧ k ∉ F2) ∧ (∀ k ∈ F2, w0.heap.size ≤ k) ∧ (∀ k, o = some k → k ∉ F1 ∧ k ∉ F2 ∧ k < w.heap.size) ∧ Ext w0 w
theorem B2.swap {w0 w : World} {p1 p2 : Nat} {b1 b2 : Bk} {o : Option Nat} (h : B2 w0 w p1 b1 p2 b2 o) : B2 w0 w p2 b2 p1 b1 o := by
  obtain ⟨F1, F2, h1, h2, h3, h4, h5, h6⟩ := h
  exact ⟨F2, F1, h2, h1, fun k hk => ⟨h4 k hk, fun hm => (h3 k hm).2 hk⟩, fun k hk => (h3 k hk).1, fun k hk => ⟨(h5 k hk).2.1, (h5 k hk).1, (h5 k hk).2.2⟩, h6⟩
theorem B2.ext {w0 w w' : World} {p1 p2 : Nat} {b1 b2 : Bk} {o : Option Nat} (h : B2 w0 w p1 b1 p2 b2 o) (e : Ext w w') : B2 w0 w' p1 b1 p2 b2 o := by
  obtain ⟨F1, F2, h1, h2, h3, h4, h5, h6⟩ := h
  exact ⟨F1, F2, h1.ext e, h2.ext e, h3, h4, fun k hk => ⟨(h5 k hk).1, (h5 k hk).2.1, Nat.lt_of_lt_of_le (h5 k hk).2.2 e.size⟩, h6.trans e⟩
theorem B2.ex {w0 w : World} {p1 p2 : Nat} {b1 b2 : Bk} {o : Option Nat} (h : B2 w0 w p1 b1 p2 b2 o) : Ext w0 w := by
  obtain ⟨F1, F2, -, -, -, -, -, h6⟩ := h
  exact h6
theorem B2.gp {w0 w w' : World} {p1 p2 : Nat} {b1 b1' b2 : Bk} {o : Option Nat} {F1 F2 : List Nat} (h1 : BR w p1 b1 F1) (h2 : BR w p2 b2 F2) (h3 : ∀ k ∈ F1, w0.heap.size ≤ k ∧ k ∉ F2) (h4 : ∀ k ∈ F2, w0.heap.size ≤ k)
    (h5 : ∀ k, o = some k → k ∉ F1 ∧ k ∉ F2 ∧ k < w.heap.size) (h6 : Ext w0 w) (g : GP F1 w p1 b1' w') : B2 w0 w' p1 b1' p2 b2 o ∧ (∀ k, o = some k → w'.heap[k]? = w.heap[k]?) ∧ Kc w w' ∧ w.heap.size ≤ w'.heap.size := by
  have hkc := h1.kc g.choose_spec.2.2
  obtain ⟨F', g1, g2, g3⟩ := g
  refine ⟨⟨F', F2, g1, h2.apart g3 (fun k hk hm => (h3 k hm).2 hk), fun k hk => ?_, h4, fun k hk => ⟨fun hm => ?_, (h5 k hk).2.1, Nat.lt_of_lt_of_le (h5 k hk).2.2 g3.size⟩, Below.trans h6 (g3.below (fun k hk => (h3 k hk).1) h6.size)⟩, fun k hk => g3.block k (h5 k hk).2.2 (h5 k hk).1, hkc, g3.size⟩
  · rcases g2 k hk with h | h
    · exact h3 k h
    · exact ⟨by have := h6.size; omega, fun hm => by have := h2.lt k hm; omega⟩
  · rcases g2 k hm with h | h
    · exact (h5 k hk).1 h
    · have := (h5 k hk).2.2; omega
theorem give_2 {w0 w : World} {p1 p2 : Nat} {b1 b2 : Bk} {g : Gd} {o : Option Nat} (h : B2 w0 w p1 b1 p2 b2 o) (hg : g.ok) (hol : b1.old.length < 100000) :
    Calls Tryz.prog 10 #[.pointer (some ⟨p1, 0, none⟩), g.v] w fun e w' => e = .returned (.int .i64 (giveR b1 g).1) ∧ B2 w0 w' p1 (giveR b1 g).2 p2 b2 o ∧ (∀ k, o = some k → w'.heap[k]? = w.heap[k]?) ∧ Kc w w' ∧ w.heap.size ≤ w'.heap.size := by
  obtain ⟨F1, F2, h1, h2, h3, h4, h5, h6⟩ := h
  exact (Give_any p1 b1 F1 g hg w h1 hol).mono fun e w' ⟨he, hg⟩ => ⟨he, B2.gp h1 h2 h3 h4 h5 h6 hg⟩
theorem final_2 {w0 w : World} {p1 p2 : Nat} {b1 b2 : Bk} {bid : Int} {o : Option Nat} (h : B2 w0 w p1 b1 p2 b2 o) (hb : OkI bid) :
    Calls Tryz.prog 11 #[.pointer (some ⟨p1, 0, none⟩), .int .i64 bid] w fun e w' => e = .returned (.int .i64 (finE b1 bid)) ∧ B2 w0 w' p1 (finB b1 bid) p2 b2 o ∧ (∀ k, o = some k → w'.heap[k]? = w.heap[k]?) ∧ Kc w w' ∧ w.heap.size ≤ w'.heap.size := by
  obtain ⟨F1, F2, h1, h2, h3, h4, h5, h6⟩ := h
  exact (Final_any p1 b1 F1 bid hb w h1).mono fun e w' ⟨he, hg⟩ => ⟨he, B2.gp h1 h2 h3 h4 h5 h6 hg⟩
theorem changed_2 {w0 w : World} {p1 p2 : Nat} {b1 b2 : Bk} {o : Option Nat} (h : B2 w0 w p1 b1 p2 b2 o) (hl : b1.old.length ≤ 100000) :
    Calls Tryz.prog 13 #[.pointer (some ⟨p1, 0, none⟩)] w fun e w' => ∃ r, e = .returned r ∧ SR Gd.cs 6 w' r b1.old ∧ (∀ B, B ≤ w.heap.size → w'.ownsRow B 23 6 r b1.old.length (b1.old.flatMap Gd.cs)) ∧ Ext w w' := by
  obtain ⟨F1, F2, h1, -⟩ := h
  exact Changed_any p1 b1 F1 w h1 hl
/-- Finals' frame. -/
theorem finB_facts (b : Bk) (i : Int) : (finB b i).gr = b.gr ∧ (finB b i).old = b.old ∧ ∀ n, (finB b i).fin n = true → b.fin n = true ∨ n = i := by
  unfold finB
  split
  · refine ⟨rfl, rfl, fun n hn => ?_⟩
    unfold Bk.fine at hn
    simp only at hn
    split at hn
    · exact .inr (by assumption)
    · exact .inl hn
  · exact ⟨rfl, rfl, fun n hn => .inl hn⟩
end Go.Proofs.YtnplnfkmcfalhaaGreatDoor
