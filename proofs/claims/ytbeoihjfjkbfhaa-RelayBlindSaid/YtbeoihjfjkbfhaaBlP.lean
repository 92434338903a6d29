/-
  Other numbers for the askers, another order within the period: the same batches. Plain.
-/
import Derived.Test.YtbeoihjfjkbfhaaReN
namespace Go.Proofs.Ytbeoihjfjkbfhaa
set_option linter.unusedVariables false
set_option linter.unusedSimpArgs false
open Go.RowKit
/-- What asking q in the period z leaves. -/
def gadd (l : List (Qn × Int)) (q : Qn) (z : Int) : List (Qn × Int) := if q.text.size = 0 ∨ 4000 < q.text.size ∨ q ∈ l.map (·.1) then l else l ++ [(q, z)]
def gA (z : Int) (l : List (Qn × Int)) (qs : List Qn) : List (Qn × Int) := qs.foldl (fun l q => gadd l q z) l
theorem gA_snoc (z : Int) (l : List (Qn × Int)) (qs : List Qn) (q : Qn) : gA z l (qs ++ [q]) = gadd (gA z l qs) q z := by simp [gA]
theorem gadd_len (l : List (Qn × Int)) (q : Qn) (z : Int) : (gadd l q z).length ≤ l.length + 1 := by
  unfold gadd
  split <;> simp
theorem gA_len (z : Int) : ∀ (qs : List Qn) (l : List (Qn × Int)), (gA z l qs).length ≤ l.length + qs.length
  | [], l => Nat.le_refl _
  | q :: qs, l => by
    have h1 := gA_len z qs (gadd l q z)
    have h2 := gadd_len l q z
    show (gA z (gadd l q z) qs).length ≤ _
    simp only [List.length_cons]
    omega
theorem gadd_nd {l : List (Qn × Int)} (q : Qn) (z : Int) (h : (l.map (·.1)).Nodup) : ((gadd l q z).map (·.1)).Nodup := by
  unfold gadd
  split
  · exact h
  · rename_i hc
    rw [List.map_append, List.nodup_append]
    refine ⟨h, by simp, fun a ha b hb => ?_⟩
    simp at hb
    subst hb
    rintro rfl
    exact hc (.inr (.inr ha))
theorem gA_nd (z : Int) : ∀ (qs : List Qn) {l : List (Qn × Int)}, (l.map (·.1)).Nodup → ((gA z l qs).map (·.1)).Nodup
  | [], _, h => h
  | q :: qs, _, h => gA_nd z qs (gadd_nd q z h)
def okT (q : Qn) : Prop := ¬ (q.text.size = 0 ∨ 4000 < q.text.size)
theorem mem_gadd {l : List (Qn × Int)} {q : Qn} {z : Int} {y : Qn × Int} : y ∈ gadd l q z ↔ y ∈ l ∨ (y = (q, z) ∧ okT q ∧ q ∉ l.map (·.1)) := by
  unfold gadd okT
  split
  · rename_i hc
    refine ⟨.inl, fun h => h.elim id ?_⟩
    rintro ⟨-, h1, h2⟩
    exact (hc.elim (fun h => h1 (.inl h)) (fun h => h.elim (fun h => h1 (.inr h)) h2)).elim
  · rename_i hc
    rw [List.mem_append, List.mem_singleton]
    exact ⟨fun h => h.imp id fun h => ⟨h, fun h => hc (h.elim .inl fun h => .inr (.inl h)), fun h => hc (.inr (.inr h))⟩, fun h => h.imp id fun h => h.1⟩
theorem mem_gA (z : Int) : ∀ (qs : List Qn) (l : List (Qn × Int)) (y : Qn × Int), y ∈ gA z l qs ↔ y ∈ l ∨ (y.2 = z ∧ y.1 ∈ qs ∧ okT y.1 ∧ y.1 ∉ l.map (·.1))
  | [], l, y => by simp [gA]
  | q :: qs, l, y => by
    show y ∈ gA z (gadd l q z) qs ↔ _
    rw [mem_gA z qs, mem_gadd]
    have hk : y.1 ∈ (gadd l q z).map (·.1) ↔ y.1 ∈ l.map (·.1) ∨ (y.1 = q ∧ okT q ∧ q ∉ l.map (·.1)) := by
      simp only [List.mem_map]
      constructor
      · rintro ⟨x, h1, h2⟩
        rcases mem_gadd.1 h1 with h1 | ⟨rfl, h3, h4⟩
        · exact .inl ⟨x, h1, h2⟩
        · exact .inr ⟨h2.symm, h3, by simpa using h4⟩
      · rintro (⟨x, h1, h2⟩ | ⟨h1, h2, h3⟩)
        · exact ⟨x, mem_gadd.2 (.inl h1), h2⟩
        · exact ⟨(q, z), mem_gadd.2 (.inr ⟨rfl, h2, by simpa using h3⟩), h1.symm⟩
    rw [hk, List.mem_cons]
    constructor
    · rintro ((h | ⟨rfl, h1, h2⟩) | ⟨h1, h2, h3, h4⟩)
      · exact .inl h
      · exact .inr ⟨rfl, .inl rfl, h1, h2⟩
      · exact .inr ⟨h1, .inr h2, h3, fun h => h4 (.inl h)⟩
    · rintro (h | ⟨h1, h2, h3, h4⟩)
      · exact .inl (.inl h)
      · by_cases he : y.1 = q
        · refine .inl (.inr ⟨Prod.ext he h1, he ▸ h3, he ▸ h4⟩)
        · exact .inr ⟨h1, h2.resolve_left he, h3, fun h => h.elim h4 fun h => he h.1⟩
/-- The other number. -/
def ph (s : Int) (q : Qn) : Qn := ⟨100 + (q.who + s) % 6, q.text⟩
theorem ph_inj {s : Int} {q r : Qn} (hq : 0 ≤ q.who ∧ q.who < 6) (hr : 0 ≤ r.who ∧ r.who < 6) (h : ph s q = ph s r) : q = r := by
  cases q; cases r
  simp only [ph, Qn.mk.injEq] at h
  obtain ⟨h1, rfl⟩ := h
  simp only [Qn.mk.injEq, and_true]
  simp only at hq hr
  omega
/-- The two lists: the same but for the numbers. -/
structure BM (s : Int) (ma mb : List (Qn × Int)) : Prop where
  na : (ma.map (·.1)).Nodup
  nb : (mb.map (·.1)).Nodup
  rng : ∀ x ∈ ma, 0 ≤ x.1.who ∧ x.1.who < 6
  mem : ∀ y, y ∈ mb ↔ ∃ x ∈ ma, y = (ph s x.1, x.2)
theorem nodup_of_keys {l : List (Qn × Int)} (h : (l.map (·.1)).Nodup) : l.Nodup := by
  rw [List.Nodup, List.pairwise_map] at h
  exact h.imp fun h e => h (congrArg (·.1) e)
theorem BM.perm {s : Int} {ma mb : List (Qn × Int)} (h : BM s ma mb) : mb.Perm (ma.map fun x => (ph s x.1, x.2)) := by
  refine (List.perm_ext_iff_of_nodup (nodup_of_keys h.nb) ?_).2 fun y => by
    rw [h.mem, List.mem_map]
    exact ⟨fun ⟨x, h1, h2⟩ => ⟨x, h1, h2.symm⟩, fun ⟨x, h1, h2⟩ => ⟨x, h1, h2.symm⟩⟩
  have hn := nodup_of_keys h.na
  have hr := h.rng
  clear h
  induction ma with
  | nil => simp
  | cons a l ih =>
    rw [List.nodup_cons] at hn
    rw [List.map_cons, List.nodup_cons]
    refine ⟨fun hm => ?_, ih hn.2 fun x hx => hr x (.tail _ hx)⟩
    obtain ⟨x, h1, h2⟩ := List.mem_map.1 hm
    injection h2 with h2 h3
    have := ph_inj (hr x (.tail _ h1)) (hr a (.head _)) h2
    exact hn.1 ((Prod.ext this h3 : x = a) ▸ h1)
theorem BM.len {s : Int} {ma mb : List (Qn × Int)} (h : BM s ma mb) : mb.length = ma.length := by rw [h.perm.length_eq, List.length_map]
theorem BM.asked {s z : Int} {ma mb : List (Qn × Int)} (h : BM s ma mb) {qs : List Qn} (hq : ∀ q ∈ qs, 0 ≤ q.who ∧ q.who < 6) : BM s (gA z ma qs) (gA z mb (qs.reverse.map (ph s))) := by
  refine ⟨gA_nd z _ h.na, gA_nd z _ h.nb, fun x hx => ?_, fun y => ?_⟩
  · rcases (mem_gA z qs ma x).1 hx with h1 | ⟨-, h1, -⟩
    · exact h.rng x h1
    · exact hq _ h1
  · have hkey : ∀ q, 0 ≤ q.who ∧ q.who < 6 → (ph s q ∈ mb.map (·.1) ↔ q ∈ ma.map (·.1)) := fun q hr => by
      simp only [List.mem_map]
      constructor
      · rintro ⟨y, h1, h2⟩
        obtain ⟨x, h3, rfl⟩ := (h.mem y).1 h1
        exact ⟨x, h3, ph_inj (h.rng x h3) hr h2⟩
      · rintro ⟨x, h1, h2⟩
        exact ⟨_, (h.mem _).2 ⟨x, h1, rfl⟩, by rw [← h2]⟩
    rw [mem_gA]
    constructor
    · rintro (h1 | ⟨h1, h2, h3, h4⟩)
      · obtain ⟨x, h2, h3⟩ := (h.mem y).1 h1
        exact ⟨x, (mem_gA z qs ma x).2 (.inl h2), h3⟩
      · obtain ⟨q, h5, h6⟩ := List.mem_map.1 h2
        have h5 := List.mem_reverse.1 h5
        have hk : okT q := by
          rw [← h6] at h3
          exact h3
        exact ⟨(q, z), (mem_gA z qs ma _).2 (.inr ⟨rfl, h5, hk, fun hm => h4 (by rw [← h6]; exact (hkey q (hq q h5)).2 hm)⟩), Prod.ext h6.symm h1⟩
    · rintro ⟨x, h1, rfl⟩
      rcases (mem_gA z qs ma x).1 h1 with h1 | ⟨h1, h2, h3, h4⟩
      · exact .inl ((h.mem _).2 ⟨x, h1, rfl⟩)
      · exact .inr ⟨h1, List.mem_map.2 ⟨_, List.mem_reverse.2 h2, rfl⟩, h3, fun hm => h4 ((hkey _ (hq _ h2)).1 hm)⟩
theorem dis_nd : ∀ l : List Int, (dis l).Nodup
  | [] => List.nodup_nil
  | x :: l => by
    unfold dis
    split
    · exact dis_nd l
    · rename_i h
      exact List.nodup_cons.2 ⟨fun h2 => h (mem_dis.1 h2), dis_nd l⟩
theorem dis_perm {l m : List Int} (h : l.Perm m) : (dis l).length = (dis m).length :=
  ((List.perm_ext_iff_of_nodup (dis_nd l) (dis_nd m)).2 fun a => by rw [mem_dis, mem_dis]; exact h.mem_iff).length_eq
theorem dis_map (s : Int) : ∀ l : List Int, (∀ x ∈ l, 0 ≤ x ∧ x < 6) → (dis (l.map fun x => 100 + (x + s) % 6)).length = (dis l).length
  | [], _ => rfl
  | x :: l, h => by
    have ih := dis_map s l fun y hy => h y (.tail _ hy)
    have hm : 100 + (x + s) % 6 ∈ l.map (fun x => 100 + (x + s) % 6) ↔ x ∈ l := by
      rw [List.mem_map]
      constructor
      · rintro ⟨y, h1, h2⟩
        have := h y (.tail _ h1)
        have := h x (.head _)
        obtain rfl : y = x := by omega
        exact h1
      · exact fun h1 => ⟨x, h1, rfl⟩
    rw [List.map_cons]
    unfold dis
    by_cases hx : x ∈ l
    · rw [if_pos hx, if_pos (hm.2 hx), ih]
    · rw [if_neg hx, if_neg (fun h => hx (hm.1 h)), List.length_cons, List.length_cons, ih]
theorem BM.give {s need every L L' : Int} {T T' c : Bool} {ma mb : List (Qn × Int)} (h : BM s ma mb) (due : Int → Bool) :
    (giveF ⟨need, every, ma, L, T, c⟩ due).1 = (giveF ⟨need, every, mb, L', T', c⟩ due).1 ∧ ∃ ma' mb', (giveF ⟨need, every, ma, L, T, c⟩ due).2 = ⟨need, every, ma', L, T, c⟩ ∧ (giveF ⟨need, every, mb, L', T', c⟩ due).2 = ⟨need, every, mb', L', T', c⟩ ∧ BM s ma' mb' ∧ ma'.length ≤ ma.length := by
  have hp := (h.perm.filter fun p => due p.2)
  have hf : (ma.map fun x => ((ph s x.1, x.2) : Qn × Int)).filter (fun p => due p.2) = (ma.filter fun p => due p.2).map fun x => (ph s x.1, x.2) := by rw [List.filter_map]; rfl
  rw [hf] at hp
  have e1 : (dis (whos (dueL ⟨need, every, mb, L', T', c⟩ due))).length = (dis (whos (dueL ⟨need, every, ma, L, T, c⟩ due))).length := by
    have h1 := dis_perm (hp.map fun p => p.1.who)
    have h2 := dis_map s ((ma.filter fun p => due p.2).map fun p => p.1.who) (fun x hx => by
      obtain ⟨y, hy, rfl⟩ := List.mem_map.1 hx
      exact h.rng y ((List.mem_filter.1 hy).1))
    rw [List.map_map] at h1 h2
    exact h1.trans h2
  have e2 : srtT (texts (dueL ⟨need, every, mb, L', T', c⟩ due)) = srtT (texts (dueL ⟨need, every, ma, L, T, c⟩ due)) := by
    refine srtT_of_perm ?_
    have h1 := hp.map fun p => p.1.text
    rw [List.map_map] at h1
    exact h1
  unfold giveF
  rw [e1, e2]
  split
  · exact ⟨rfl, ma, mb, rfl, rfl, h, Nat.le_refl _⟩
  · refine ⟨rfl, _, _, rfl, rfl, ⟨?_, ?_, fun x hx => h.rng x ((List.mem_filter.1 hx).1), fun y => ?_⟩, List.length_filter_le _ _⟩
    · exact h.na.sublist (List.filter_sublist.map _)
    · exact h.nb.sublist (List.filter_sublist.map _)
    · simp only [List.mem_filter]
      constructor
      · rintro ⟨h1, h2⟩
        obtain ⟨x, h3, rfl⟩ := (h.mem y).1 h1
        exact ⟨x, ⟨h3, h2⟩, rfl⟩
      · rintro ⟨x, ⟨h1, h2⟩, rfl⟩
        exact ⟨(h.mem _).2 ⟨x, h1, rfl⟩, h2⟩
/-- A relay that is open. -/
def Op (need : Int) (r : Rl) (l : List (Qn × Int)) (b : Int) : Prop := ∃ L T, r = ⟨need, 10, l, L, T, false⟩ ∧ L ≤ b
theorem Op.ask {need : Int} {r : Rl} {l : List (Qn × Int)} {b t z : Int} {q : Qn} (h : Op need r l b) (hb : b ≤ t) (hl : l.length < 1000) (hz : t / 10 = z) : Op need (askR r q t) (gadd l q z) t := by
  obtain ⟨L, T, rfl, hL⟩ := h
  unfold askR gadd
  by_cases h1 : q.text.size = 0 ∨ 4000 < q.text.size
  · have e : askE ⟨need, 10, l, L, T, false⟩ q t = 1 := by unfold askE; rw [if_pos h1]
    rw [if_neg (by rw [e]; decide), if_pos (h1.elim .inl fun h => .inr (.inl h))]
    exact ⟨L, T, rfl, by omega⟩
  · have hn : ¬ (T = true ∧ t < L) := by
      rintro ⟨-, h2⟩
      omega
    by_cases h2 : q ∈ l.map (·.1)
    · have e : askE ⟨need, 10, l, L, T, false⟩ q t = 33 := by unfold askE; rw [if_neg h1, if_neg (by simp), if_neg hn, if_pos h2]
      rw [if_neg (by rw [e]; decide), if_pos (.inr (.inr h2))]
      exact ⟨L, T, rfl, by omega⟩
    · have e : askE ⟨need, 10, l, L, T, false⟩ q t = 0 := by unfold askE; rw [if_neg h1, if_neg (by simp), if_neg hn, if_neg h2, if_neg (by simp only; omega)]
      rw [if_pos e, if_neg (fun h => h.elim (fun h => h1 (.inl h)) fun h => h.elim (fun h => h1 (.inr h)) h2)]
      refine ⟨t, true, ?_, Int.le_refl _⟩
      unfold Rl.asked perF
      rw [show max (10 : Int) 1 = 10 from rfl, hz]
theorem Op.tick {need s b t : Int} {ra rb : Rl} {ma mb : List (Qn × Int)} (h1 : Op need ra ma b) (h2 : Op need rb mb b) (h : BM s ma mb) (hb : b ≤ t) :
    (tickF ra t).1 = (tickF rb t).1 ∧ ∃ ma' mb', Op need (tickF ra t).2 ma' t ∧ Op need (tickF rb t).2 mb' t ∧ BM s ma' mb' ∧ ma'.length ≤ ma.length := by
  obtain ⟨L, T, rfl, hL⟩ := h1
  obtain ⟨L', T', rfl, hL'⟩ := h2
  unfold tickF
  rw [if_neg (by simp only; rintro (h | ⟨-, h⟩); cases h; omega), if_neg (by simp only; rintro (h | ⟨-, h⟩); cases h; omega)]
  obtain ⟨e1, ma', mb', e2, e3, e4, e5⟩ := h.give (need := need) (every := 10) (L := t) (L' := t) (T := true) (T' := true) (c := false) (fun z => decide (z < perF 10 t))
  exact ⟨e1, ma', mb', ⟨t, true, e2, Int.le_refl _⟩, ⟨t, true, e3, Int.le_refl _⟩, e4, e5⟩
theorem Op.close {need s b b' : Int} {ra rb : Rl} {ma mb : List (Qn × Int)} (h1 : Op need ra ma b) (h2 : Op need rb mb b') (h : BM s ma mb) : (closeF ra).1 = (closeF rb).1 := by
  obtain ⟨L, T, rfl, hL⟩ := h1
  obtain ⟨L', T', rfl, hL'⟩ := h2
  unfold closeF
  rw [if_neg (by simp), if_neg (by simp)]
  exact (h.give fun _ => true).1
theorem Op.l {need b : Int} {r : Rl} {l : List (Qn × Int)} (h : Op need r l b) : r.l = l := by
  obtain ⟨L, T, rfl, -⟩ := h
  rfl
theorem Op.mono {need b b' : Int} {r : Rl} {l : List (Qn × Int)} (h : Op need r l b) (hb : b ≤ b') : Op need r l b' := by
  obtain ⟨L, T, h1, h2⟩ := h
  exact ⟨L, T, h1, by omega⟩
end Go.Proofs.Ytbeoihjfjkbfhaa
