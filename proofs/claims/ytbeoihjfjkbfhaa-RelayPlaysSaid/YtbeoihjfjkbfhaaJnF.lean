/-
  Joined: the lemmas of this claim that other texts of it use, part 6. Nothing is asked.
-/
import Derived.Test.YtbeoihjfjkbfhaaJnE
import Derived.DeepKeys
import Derived.ArgAppend
import Derived.Deep.Upon
namespace Go.Proofs.Ytbeoihjfjkbfhaa
set_option linter.unusedVariables false
set_option linter.unusedSimpArgs false
open Go.RowKit
structure OI (need : Int) (r : Rl) (acc giv : Nat) : Prop where
  least : r.least = need
  closed : r.closed = false
  sum : acc = giv + r.l.length
theorem OI.ask {need : Int} {r : Rl} {acc giv : Nat} (h : OI need r acc giv) (q : Qn) (t : Int) : OI need (askR r q t) (if askE r q t = 0 then acc + 1 else acc) giv := by
  unfold askR
  by_cases h0 : askE r q t = 0
  · rw [if_pos h0, if_pos h0]
    refine ⟨h.least, h.closed, ?_⟩
    have := h.sum
    simp [Rl.asked]
    omega
  · rw [if_neg h0, if_neg h0]
    exact h
theorem filter_len {α : Type} (p : α → Bool) : ∀ l : List α, (l.filter p).length + (l.filter fun x => !p x).length = l.length
  | [] => rfl
  | x :: l => by
    have := filter_len p l
    cases h : p x <;> simp [h] <;> omega
theorem dis_le : ∀ l : List Int, (dis l).length ≤ l.length
  | [] => Nat.le_refl _
  | x :: l => by
    have := dis_le l
    unfold dis
    split <;> simp <;> omega
theorem give_cases {need : Int} {r : Rl} {acc giv : Nat} (h : OI need r acc giv) (due : Int → Bool) :
    ((giveF r due).1 = none ∧ OI need (giveF r due).2 acc giv) ∨ ∃ ts, (giveF r due).1 = some ts ∧ need ≤ (ts.length : Int) ∧ 1 ≤ ts.length ∧ giv + ts.length ≤ acc ∧ OI need (giveF r due).2 acc (giv + ts.length) := by
  unfold giveF
  by_cases hc : ((dis (whos (dueL r due))).length : Int) < max r.least 1
  · rw [if_pos hc]
    exact .inl ⟨rfl, h⟩
  · rw [if_neg hc]
    have h1 := dis_le (whos (dueL r due))
    have h2 : (whos (dueL r due)).length = (dueL r due).length := by simp [whos]
    have h3 : (srtT (texts (dueL r due))).length = (dueL r due).length := by rw [srtT_len]; simp [texts]
    have h4 := filter_len (fun p : Qn × Int => due p.2) r.l
    have h5 := h.sum
    have h6 := h.least
    have h7 : (dueL r due).length = (r.l.filter fun p => due p.2).length := rfl
    refine .inr ⟨_, rfl, by rw [h3]; omega, by rw [h3]; omega, by rw [h3]; omega, h.least, h.closed, ?_⟩
    show acc = _ + (r.l.filter fun p => !due p.2).length
    rw [h3]
    omega
theorem tick_cases {need : Int} {r : Rl} {acc giv : Nat} (h : OI need r acc giv) (t : Int) :
    ((tickF r t).1 = none ∧ OI need (tickF r t).2 acc giv) ∨ ∃ ts, (tickF r t).1 = some ts ∧ need ≤ (ts.length : Int) ∧ 1 ≤ ts.length ∧ giv + ts.length ≤ acc ∧ OI need (tickF r t).2 acc (giv + ts.length) := by
  unfold tickF
  split
  · exact .inl ⟨rfl, h⟩
  · exact give_cases (r := { r with last := t, timed := true }) ⟨h.least, h.closed, h.sum⟩ _
theorem close_cases {need : Int} {r : Rl} {acc giv : Nat} (h : OI need r acc giv) :
    (closeF r).2.l = [] ∧ ((closeF r).1 = none ∨ ∃ ts, (closeF r).1 = some ts ∧ 1 ≤ ts.length ∧ giv + ts.length ≤ acc) := by
  unfold closeF
  rw [if_neg (by rw [h.closed]; decide)]
  refine ⟨rfl, ?_⟩
  rcases give_cases h (fun _ => true) with ⟨h1, -⟩ | ⟨ts, h1, -, h2, h3, -⟩
  · exact .inl h1
  · exact .inr ⟨ts, h1, h2, h3⟩
theorem batch_form {n : Nat} {w : World} {v : Value} {ts : List ByteArray} (h : BatR n w v (some ts)) : ∃ g a c, v = .slice (some ⟨g, 0, none⟩) 1 1 ∧ g < w.heap.size ∧ w.cell? ⟨g, 0, none⟩ = some (.slice a ts.length c) := by
  obtain ⟨g, u, h1, h2, h3, h4⟩ := h
  obtain ⟨a, c, rfl⟩ := row_slice h4
  exact ⟨g, a, c, h1, Rg.lt_of_heap h3, cell_of_row _ _ 0 _ _ _ h3⟩
theorem mod_x (n m : Int) (hm : 0 < m) (hm2 : m ≤ 1000000) (h : OkI n) (w : World) :
    Calls Try.prog 24 #[.int .i64 n, .int .i64 m] w fun e w' => e = .returned (.int .i64 (n % m)) ∧ Ext w w' :=
  (mod_any n m hm hm2 h w).mono fun _ _ ⟨a, b⟩ => ⟨a, b ▸ Ext.refl _⟩
theorem act_at {w : World} {A : Option Addr} {l c : Nat} {ls : List (List Int)} (h : RN 4 w (.slice A l c) ls) (k : Nat) (hk : k < ls.length) :
    ∃ b off q0 q1 q2 q3, A = some ⟨b, off, none⟩ ∧ b < w.heap.size ∧ w.cell? ⟨b, off + k * 4, none⟩ = some (.int .i64 q0) ∧ w.cell? ⟨b, off + k * 4 + 1, none⟩ = some (.int .i64 q1) ∧ w.cell? ⟨b, off + k * 4 + 2, none⟩ = some (.int .i64 q2) ∧ w.cell? ⟨b, off + k * 4 + 3, none⟩ = some (.int .i64 q3) ∧ OkI q0 ∧ OkI q1 ∧ OkI q2 ∧ OkI q3 ∧ ls[k] = [q0, q1, q2, q3] := by
  obtain ⟨b, off, h1, h2, h3⟩ := h.at k hk
  have h4 : ls[k].length = 4 := by
    obtain ⟨-, -, -, -, h5, -⟩ := h
    exact (h5 _ (List.getElem_mem _)).1
  have h0 := h2 0 (by decide)
  refine ⟨b, off, _, _, _, _, h1, World.block_lt_of_cell? w _ h0, h0, h2 1 (by decide), h2 2 (by decide), h2 3 (by decide), h3 0, h3 1, h3 2, h3 3, ?_⟩
  match hls : ls[k], h4 with
  | [a, b, c, d], _ => rfl
end Go.Proofs.Ytbeoihjfjkbfhaa

namespace Go.Proofs.Ytbeoihjfjkbfhaa
set_option linter.unusedVariables false
set_option linter.unusedSimpArgs false
open Go.RowKit
/-- Two relays at p1 and p2, from B on, apart from each other. -/
structure R2 (B : Nat) (w : World) (p1 p2 : Nat) (r1 r2 : Rl) : Prop where
  base : B ≤ w.heap.size
  apart : p1 ≠ p2
  both : ∃ m1 m2, RW B w p1 m1 r1 ∧ RW B w p2 m2 r2 ∧ ∀ b, m1 = some b → m2 ≠ some b
theorem R2.symm {B : Nat} {w : World} {p1 p2 : Nat} {r1 r2 : Rl} (h : R2 B w p1 p2 r1 r2) : R2 B w p2 p1 r2 r1 := by
  obtain ⟨h0, h1, m1, m2, h2, h3, h4⟩ := h
  exact ⟨h0, h1.symm, m2, m1, h3, h2, fun b e1 e2 => h4 b e2 e1⟩
theorem R2.ext {B : Nat} {w w' : World} {p1 p2 : Nat} {r1 r2 : Rl} (h : R2 B w p1 p2 r1 r2) (x : Ext w w') : R2 B w' p1 p2 r1 r2 := by
  obtain ⟨h0, h1, m1, m2, h2, h3, h4⟩ := h
  exact ⟨Nat.le_trans h0 x.size, h1, m1, m2, h2.ext x, h3.ext x, h4⟩
theorem R2.both_ {B : Nat} {w : World} {p : Nat} {r0 : Rl} (h : RX B w p r0) {w' : World} {r : Rl} (hr : RX w.heap.size w' w.heap.size r) (x : Ext w w') : R2 B w' p w.heap.size r0 r := by
  obtain ⟨hB, m1, h1⟩ := h
  obtain ⟨hB2, m2, h2⟩ := hr
  refine ⟨Nat.le_trans hB x.size, Nat.ne_of_lt h1.lt, m1, m2, h1.ext x, ⟨Nat.le_trans hB h2.at_, h2.row, ?_, h2.ok⟩, fun b e1 e2 => ?_⟩
  · have hm := h2.map
    cases m2 with
    | none => exact hm
    | some b => exact ⟨Nat.le_trans hB hm.1, hm.2⟩
  · have := (h1.map.lt b e1).2
    have := (h2.map.lt b e2).1
    omega
/-- Cells that are not at p stay. -/
def K1 (p : Nat) (w w' : World) : Prop := ∀ k cs t fr, k ≠ p → w.heap[k]? = some (.cells cs t fr) → w'.heap[k]? = some (.cells cs t fr)
theorem KW.k1 {B p : Nat} {mb : Option Nat} {r : Rl} {w w' : World} (h : KW p mb w w') (hr : RW B w p mb r) : K1 p w w' := fun k cs t fr hk hc => by
  refine (h.block k (Rg.lt_of_heap hc) hk (fun e => ?_)).trans hc
  subst e
  obtain ⟨-, -, -, es, ck, hb, -⟩ := hr.map
  rw [hb] at hc
  cases hc
theorem BatR.k1 {n p : Nat} {w w' : World} {v : Value} {o : Option (List ByteArray)} (h : BatR n w v o) (hk : K1 p w w') (hp : p < n) : BatR n w' v o := by
  cases o with
  | none => exact h
  | some ts =>
    obtain ⟨g, u, h1, h2, h3, h4⟩ := h
    refine ⟨g, u, h1, h2, hk _ _ _ _ (by omega) h3, h4.1, h4.2.imp id ?_⟩
    rintro ⟨g, cp, cur, e1, e2, e3, e4⟩
    exact ⟨g, cp, cur, e1, e2, hk _ _ _ _ (by omega) e3, e4⟩
theorem R2.ask1 {B : Nat} {w : World} {p1 p2 : Nat} {r1 r2 : Rl} (h : R2 B w p1 p2 r1 r2) (q : Qn) (t : Int) (hw : OkI q.who) (ht : OkI t) :
    Calls Try.prog 20 #[.pointer (some ⟨p1, 0, none⟩), .int .i64 q.who, .int .i64 t, .string q.text] w fun e w' => e = .returned (.int .i64 (askE r1 q t)) ∧ R2 B w' p1 p2 (askR r1 q t) r2 ∧ Below B w w' := by
  obtain ⟨h0, h1, m1, m2, h2, h3, h4⟩ := h
  refine (ask_any p1 m1 r1 q t w h2 h0 hw ht).mono ?_
  rintro e w' ⟨e1, m1', k1, k2, k3⟩
  refine ⟨e1, ⟨Nat.le_trans h0 k2.size, h1, m1', m2, k1, h3.other h2 k2 h1.symm (fun b e2 e3 => h4 b e3 e2), fun b e2 e3 => ?_⟩, k2.below h0 h2.at_ fun b e => (h2.map.lt b e).1⟩
  rcases k3 with rfl | ⟨b', rfl, hb'⟩
  · exact h4 b e2 e3
  · injection e2 with e2
    subst e2
    have := (h3.map.lt _ e3).2
    omega
theorem R2.tick1 {B : Nat} {w : World} {p1 p2 : Nat} {r1 r2 : Rl} (h : R2 B w p1 p2 r1 r2) (t : Int) (ht : OkI t) :
    Calls Try.prog 16 #[.pointer (some ⟨p1, 0, none⟩), .int .i64 t] w fun e w' => ∃ v, e = .returned v ∧ BatR w.heap.size w' v (tickF r1 t).1 ∧ R2 B w' p1 p2 (tickF r1 t).2 r2 ∧ Below B w w' ∧ K1 p1 w w' := by
  obtain ⟨h0, h1, m1, m2, h2, h3, h4⟩ := h
  refine (tick_any p1 m1 r1 t w h2 ht).mono ?_
  rintro e w' ⟨v, e1, e2, k1, k2⟩
  exact ⟨v, e1, e2, ⟨Nat.le_trans h0 k2.size, h1, m1, m2, k1, h3.other h2 k2 h1.symm (fun b e2 e3 => h4 b e3 e2), h4⟩, k2.below h0 h2.at_ fun b e => (h2.map.lt b e).1, k2.k1 h2⟩
theorem R2.close1 {B : Nat} {w : World} {p1 p2 : Nat} {r1 r2 : Rl} (h : R2 B w p1 p2 r1 r2) :
    Calls Try.prog 18 #[.pointer (some ⟨p1, 0, none⟩)] w fun e w' => ∃ v, e = .returned v ∧ BatR w.heap.size w' v (closeF r1).1 ∧ R2 B w' p1 p2 (closeF r1).2 r2 ∧ Below B w w' ∧ K1 p1 w w' := by
  obtain ⟨h0, h1, m1, m2, h2, h3, h4⟩ := h
  refine (close_any p1 m1 r1 w h2).mono ?_
  rintro e w' ⟨v, e1, e2, ⟨m1', k1, k3⟩, k2⟩
  refine ⟨v, e1, e2, ⟨Nat.le_trans h0 k2.size, h1, m1', m2, k1, h3.other h2 k2 h1.symm (fun b e2 e3 => h4 b e3 e2), ?_⟩, k2.below h0 h2.at_ fun b e => (h2.map.lt b e).1, k2.k1 h2⟩
  rcases k3 with rfl | rfl
  · exact h4
  · exact fun b e => by cases e
theorem R2.wait1 {B : Nat} {w : World} {p1 p2 : Nat} {r1 r2 : Rl} (h : R2 B w p1 p2 r1 r2) (n : Nat) (hn : r1.l.length = n) :
    Calls Try.prog 22 #[.pointer (some ⟨p1, 0, none⟩)] w fun e w' => e = .returned (.int .i64 n) ∧ w' = w := by
  obtain ⟨h0, h1, m1, m2, h2, h3, h4⟩ := h
  subst hn
  exact waiting_any p1 m1 r1 w h2
/-- What lies behind both may be written. -/
theorem R2.keep {B : Nat} {w w' : World} {p1 p2 : Nat} {r1 r2 : Rl} (h : R2 B w p1 p2 r1 r2) (hs : w.heap.size ≤ w'.heap.size) (hk : ∀ k o, w.heap[k]? = some o → k = p1 ∨ k = p2 ∨ (∃ es c, o = .map es c) → w'.heap[k]? = some o) : R2 B w' p1 p2 r1 r2 := by
  obtain ⟨b0, h1, m1, m2, h2, h3, h4⟩ := h
  have hM : ∀ {mb l}, MQ B w mb l → MQ B w' mb l := fun {mb l} hm => hm.of_block fun b e => by
    subst e
    obtain ⟨-, -, -, es, ck, hb, -⟩ := hm
    rw [hb]
    exact hk b _ hb (.inr (.inr ⟨_, _, rfl⟩))
  exact ⟨Nat.le_trans b0 hs, h1, m1, m2, ⟨h2.at_, hk _ _ h2.row (.inl rfl), hM h2.map, h2.ok⟩, ⟨h3.at_, hk _ _ h3.row (.inr (.inl rfl)), hM h3.map, h3.ok⟩, h4⟩
theorem R2.wrote {B : Nat} {w : World} {p1 p2 g o : Nat} {r1 r2 : Rl} {cs : Array Value} {t : TypeId} {fr : Nat × Nat} (h : R2 B w p1 p2 r1 r2) (hg : w.heap[g]? = some (.cells cs t fr)) (h1 : g ≠ p1) (h2 : g ≠ p2) (v : Value) : R2 B (w.setCell ⟨g, o, none⟩ v) p1 p2 r1 r2 :=
  h.keep (by simp) fun k ob hk hc => by
    rw [heap_setCell_other _ ?_]
    · exact hk
    · rintro rfl
      rcases hc with rfl | rfl | ⟨es, c, rfl⟩
      · exact h1 rfl
      · exact h2 rfl
      · rw [hg] at hk
        cases hk
theorem R2.lt {B : Nat} {w : World} {p1 p2 : Nat} {r1 r2 : Rl} (h : R2 B w p1 p2 r1 r2) : B ≤ p1 ∧ p1 < w.heap.size ∧ B ≤ p2 ∧ p2 < w.heap.size := by
  obtain ⟨b0, h1, m1, m2, h2, h3, h4⟩ := h
  exact ⟨h2.at_, h2.lt, h3.at_, h3.lt⟩
theorem R2.len {B : Nat} {w : World} {p1 p2 : Nat} {r1 r2 : Rl} (h : R2 B w p1 p2 r1 r2) : r1.l.length ≤ 1000 ∧ r2.l.length ≤ 1000 := by
  obtain ⟨b0, h1, m1, m2, h2, h3, h4⟩ := h
  exact ⟨h2.ok.len, h3.ok.len⟩
theorem give_len {r : Rl} {due : Int → Bool} {ts : List ByteArray} (h : (giveF r due).1 = some ts) (hl : r.l.length ≤ 1000) : ts.length ≤ 1000000 := by
  unfold giveF at h
  split at h
  · cases h
  · injection h with h
    rw [← h, srtT_len]
    have : (dueL r due).length ≤ r.l.length := List.length_filter_le _ _
    simp [texts]
    omega
theorem give_pos {r : Rl} {due : Int → Bool} {ts : List ByteArray} (h : (giveF r due).1 = some ts) : 0 < ts.length := by
  unfold giveF at h
  split at h
  · cases h
  · rename_i hc
    injection h with h
    rw [← h, srtT_len]
    have h1 := dis_le (whos (dueL r due))
    simp [whos] at h1
    simp [texts]
    simp [whos] at hc
    omega
theorem tick_pos {r : Rl} {t : Int} {ts : List ByteArray} (h : (tickF r t).1 = some ts) : 0 < ts.length := by
  unfold tickF at h
  split at h
  · cases h
  · exact give_pos h
theorem tick_len {r : Rl} {t : Int} {ts : List ByteArray} (h : (tickF r t).1 = some ts) (hl : r.l.length ≤ 1000) : ts.length ≤ 1000000 := by
  unfold tickF at h
  split at h
  · cases h
  · exact give_len h hl
theorem close_len {r : Rl} {ts : List ByteArray} (h : (closeF r).1 = some ts) (hl : r.l.length ≤ 1000) : ts.length ≤ 1000000 := by
  unfold closeF at h
  split at h
  · cases h
  · exact give_len h hl
end Go.Proofs.Ytbeoihjfjkbfhaa

namespace Go.Proofs.Ytbeoihjfjkbfhaa
set_option linter.unusedVariables false
set_option linter.unusedSimpArgs false
open Go.RowKit
/-- What asking q in the period z leaves. -/
def gadd (l : List (Qn × Int)) (q : Qn) (z : Int) : List (Qn × Int) := if q.text.size = 0 ∨ 4000 < q.text.size ∨ q ∈ l.map (·.1) then l else l ++ [(q, z)]
def gA (z : Int) (l : List (Qn × Int)) (qs : List Qn) : List (Qn × Int) := qs.foldl (fun l q => gadd l q z) l
theorem gA_snoc (z : Int) (l : List (Qn × Int)) (qs : List Qn) (q : Qn) : gA z l (qs ++ [q]) = gadd (gA z l qs) q z := by simp [gA]
theorem gadd_len (l : List (Qn × Int)) (q : Qn) (z : Int) : (gadd l q z).length ≤ l.length + 1 := by
  unfold gadd
  split <;> simp
theorem gA_len (z : Int) : ∀ (qs : List Qn) (l : List (Qn × Int)), (gA z l qs).length ≤ l.length + qs.length
  | [], l => Nat.le_refl _
  | q :: qs, l => by
    have h1 := gA_len z qs (gadd l q z)
    have h2 := gadd_len l q z
    show (gA z (gadd l q z) qs).length ≤ _
    simp only [List.length_cons]
    omega
theorem gadd_nd {l : List (Qn × Int)} (q : Qn) (z : Int) (h : (l.map (·.1)).Nodup) : ((gadd l q z).map (·.1)).Nodup := by
  unfold gadd
  split
  · exact h
  · rename_i hc
    rw [List.map_append, List.nodup_append]
    refine ⟨h, by simp, fun a ha b hb => ?_⟩
    simp at hb
    subst hb
    rintro rfl
    exact hc (.inr (.inr ha))
theorem gA_nd (z : Int) : ∀ (qs : List Qn) {l : List (Qn × Int)}, (l.map (·.1)).Nodup → ((gA z l qs).map (·.1)).Nodup
  | [], _, h => h
  | q :: qs, _, h => gA_nd z qs (gadd_nd q z h)
def okT (q : Qn) : Prop := ¬ (q.text.size = 0 ∨ 4000 < q.text.size)
theorem mem_gadd {l : List (Qn × Int)} {q : Qn} {z : Int} {y : Qn × Int} : y ∈ gadd l q z ↔ y ∈ l ∨ (y = (q, z) ∧ okT q ∧ q ∉ l.map (·.1)) := by
  unfold gadd okT
  split
  · rename_i hc
    refine ⟨.inl, fun h => h.elim id ?_⟩
    rintro ⟨-, h1, h2⟩
    exact (hc.elim (fun h => h1 (.inl h)) (fun h => h.elim (fun h => h1 (.inr h)) h2)).elim
  · rename_i hc
    rw [List.mem_append, List.mem_singleton]
    exact ⟨fun h => h.imp id fun h => ⟨h, fun h => hc (h.elim .inl fun h => .inr (.inl h)), fun h => hc (.inr (.inr h))⟩, fun h => h.imp id fun h => h.1⟩
theorem mem_gA (z : Int) : ∀ (qs : List Qn) (l : List (Qn × Int)) (y : Qn × Int), y ∈ gA z l qs ↔ y ∈ l ∨ (y.2 = z ∧ y.1 ∈ qs ∧ okT y.1 ∧ y.1 ∉ l.map (·.1))
  | [], l, y => by simp [gA]
  | q :: qs, l, y => by
    show y ∈ gA z (gadd l q z) qs ↔ _
    rw [mem_gA z qs, mem_gadd]
    have hk : y.1 ∈ (gadd l q z).map (·.1) ↔ y.1 ∈ l.map (·.1) ∨ (y.1 = q ∧ okT q ∧ q ∉ l.map (·.1)) := by
      simp only [List.mem_map]
      constructor
      · rintro ⟨x, h1, h2⟩
        rcases mem_gadd.1 h1 with h1 | ⟨rfl, h3, h4⟩
        · exact .inl ⟨x, h1, h2⟩
        · exact .inr ⟨h2.symm, h3, by simpa using h4⟩
      · rintro (⟨x, h1, h2⟩ | ⟨h1, h2, h3⟩)
        · exact ⟨x, mem_gadd.2 (.inl h1), h2⟩
        · exact ⟨(q, z), mem_gadd.2 (.inr ⟨rfl, h2, by simpa using h3⟩), h1.symm⟩
    rw [hk, List.mem_cons]
    constructor
    · rintro ((h | ⟨rfl, h1, h2⟩) | ⟨h1, h2, h3, h4⟩)
      · exact .inl h
      · exact .inr ⟨rfl, .inl rfl, h1, h2⟩
      · exact .inr ⟨h1, .inr h2, h3, fun h => h4 (.inl h)⟩
    · rintro (h | ⟨h1, h2, h3, h4⟩)
      · exact .inl (.inl h)
      · by_cases he : y.1 = q
        · refine .inl (.inr ⟨Prod.ext he h1, he ▸ h3, he ▸ h4⟩)
        · exact .inr ⟨h1, h2.resolve_left he, h3, fun h => h.elim h4 fun h => he h.1⟩
/-- The other number. -/
def ph (s : Int) (q : Qn) : Qn := ⟨100 + (q.who + s) % 6, q.text⟩
theorem ph_inj {s : Int} {q r : Qn} (hq : 0 ≤ q.who ∧ q.who < 6) (hr : 0 ≤ r.who ∧ r.who < 6) (h : ph s q = ph s r) : q = r := by
  cases q; cases r
  simp only [ph, Qn.mk.injEq] at h
  obtain ⟨h1, rfl⟩ := h
  simp only [Qn.mk.injEq, and_true]
  simp only at hq hr
  omega
/-- The two lists: the same but for the numbers. -/
structure BM (s : Int) (ma mb : List (Qn × Int)) : Prop where
  na : (ma.map (·.1)).Nodup
  nb : (mb.map (·.1)).Nodup
  rng : ∀ x ∈ ma, 0 ≤ x.1.who ∧ x.1.who < 6
  mem : ∀ y, y ∈ mb ↔ ∃ x ∈ ma, y = (ph s x.1, x.2)
theorem nodup_of_keys {l : List (Qn × Int)} (h : (l.map (·.1)).Nodup) : l.Nodup := by
  rw [List.Nodup, List.pairwise_map] at h
  exact h.imp fun h e => h (congrArg (·.1) e)
theorem BM.perm {s : Int} {ma mb : List (Qn × Int)} (h : BM s ma mb) : mb.Perm (ma.map fun x => (ph s x.1, x.2)) := by
  refine (List.perm_ext_iff_of_nodup (nodup_of_keys h.nb) ?_).2 fun y => by
    rw [h.mem, List.mem_map]
    exact ⟨fun ⟨x, h1, h2⟩ => ⟨x, h1, h2.symm⟩, fun ⟨x, h1, h2⟩ => ⟨x, h1, h2.symm⟩⟩
  have hn := nodup_of_keys h.na
  have hr := h.rng
  clear h
  induction ma with
  | nil => simp
  | cons a l ih =>
    rw [List.nodup_cons] at hn
    rw [List.map_cons, List.nodup_cons]
    refine ⟨fun hm => ?_, ih hn.2 fun x hx => hr x (.tail _ hx)⟩
    obtain ⟨x, h1, h2⟩ := List.mem_map.1 hm
    injection h2 with h2 h3
    have := ph_inj (hr x (.tail _ h1)) (hr a (.head _)) h2
    exact hn.1 ((Prod.ext this h3 : x = a) ▸ h1)
theorem BM.len {s : Int} {ma mb : List (Qn × Int)} (h : BM s ma mb) : mb.length = ma.length := by rw [h.perm.length_eq, List.length_map]
theorem BM.asked {s z : Int} {ma mb : List (Qn × Int)} (h : BM s ma mb) {qs : List Qn} (hq : ∀ q ∈ qs, 0 ≤ q.who ∧ q.who < 6) : BM s (gA z ma qs) (gA z mb (qs.reverse.map (ph s))) := by
  refine ⟨gA_nd z _ h.na, gA_nd z _ h.nb, fun x hx => ?_, fun y => ?_⟩
  · rcases (mem_gA z qs ma x).1 hx with h1 | ⟨-, h1, -⟩
    · exact h.rng x h1
    · exact hq _ h1
  · have hkey : ∀ q, 0 ≤ q.who ∧ q.who < 6 → (ph s q ∈ mb.map (·.1) ↔ q ∈ ma.map (·.1)) := fun q hr => by
      simp only [List.mem_map]
      constructor
      · rintro ⟨y, h1, h2⟩
        obtain ⟨x, h3, rfl⟩ := (h.mem y).1 h1
        exact ⟨x, h3, ph_inj (h.rng x h3) hr h2⟩
      · rintro ⟨x, h1, h2⟩
        exact ⟨_, (h.mem _).2 ⟨x, h1, rfl⟩, by rw [← h2]⟩
    rw [mem_gA]
    constructor
    · rintro (h1 | ⟨h1, h2, h3, h4⟩)
      · obtain ⟨x, h2, h3⟩ := (h.mem y).1 h1
        exact ⟨x, (mem_gA z qs ma x).2 (.inl h2), h3⟩
      · obtain ⟨q, h5, h6⟩ := List.mem_map.1 h2
        have h5 := List.mem_reverse.1 h5
        have hk : okT q := by
          rw [← h6] at h3
          exact h3
        exact ⟨(q, z), (mem_gA z qs ma _).2 (.inr ⟨rfl, h5, hk, fun hm => h4 (by rw [← h6]; exact (hkey q (hq q h5)).2 hm)⟩), Prod.ext h6.symm h1⟩
    · rintro ⟨x, h1, rfl⟩
      rcases (mem_gA z qs ma x).1 h1 with h1 | ⟨h1, h2, h3, h4⟩
      · exact .inl ((h.mem _).2 ⟨x, h1, rfl⟩)
      · exact .inr ⟨h1, List.mem_map.2 ⟨_, List.mem_reverse.2 h2, rfl⟩, h3, fun hm => h4 ((hkey _ (hq _ h2)).1 hm)⟩
theorem dis_nd : ∀ l : List Int, (dis l).Nodup
  | [] => List.nodup_nil
  | x :: l => by
    unfold dis
    split
    · exact dis_nd l
    · rename_i h
      exact List.nodup_cons.2 ⟨fun h2 => h (mem_dis.1 h2), dis_nd l⟩
theorem dis_perm {l m : List Int} (h : l.Perm m) : (dis l).length = (dis m).length :=
  ((List.perm_ext_iff_of_nodup (dis_nd l) (dis_nd m)).2 fun a => by rw [mem_dis, mem_dis]; exact h.mem_iff).length_eq
theorem dis_map (s : Int) : ∀ l : List Int, (∀ x ∈ l, 0 ≤ x ∧ x < 6) → (dis (l.map fun x => 100 + (x + s) % 6)).length = (dis l).length
  | [], _ => rfl
  | x :: l, h => by
    have ih := dis_map s l fun y hy => h y (.tail _ hy)
    have hm : 100 + (x + s) % 6 ∈ l.map (fun x => 100 + (x + s) % 6) ↔ x ∈ l := by
      rw [List.mem_map]
      constructor
      · rintro ⟨y, h1, h2⟩
        have := h y (.tail _ h1)
        have := h x (.head _)
        obtain rfl : y = x := by omega
        exact h1
      · exact fun h1 => ⟨x, h1, rfl⟩
    rw [List.map_cons]
    unfold dis
    by_cases hx : x ∈ l
    · rw [if_pos hx, if_pos (hm.2 hx), ih]
    · rw [if_neg hx, if_neg (fun h => hx (hm.1 h)), List.length_cons, List.length_cons, ih]
theorem BM.give {s need every L L' : Int} {T T' c : Bool} {ma mb : List (Qn × Int)} (h : BM s ma mb) (due : Int → Bool) :
    (giveF ⟨need, every, ma, L, T, c⟩ due).1 = (giveF ⟨need, every, mb, L', T', c⟩ due).1 ∧ ∃ ma' mb', (giveF ⟨need, every, ma, L, T, c⟩ due).2 = ⟨need, every, ma', L, T, c⟩ ∧ (giveF ⟨need, every, mb, L', T', c⟩ due).2 = ⟨need, every, mb', L', T', c⟩ ∧ BM s ma' mb' ∧ ma'.length ≤ ma.length := by
  have hp := (h.perm.filter fun p => due p.2)
  have hf : (ma.map fun x => ((ph s x.1, x.2) : Qn × Int)).filter (fun p => due p.2) = (ma.filter fun p => due p.2).map fun x => (ph s x.1, x.2) := by rw [List.filter_map]; rfl
  rw [hf] at hp
  have e1 : (dis (whos (dueL ⟨need, every, mb, L', T', c⟩ due))).length = (dis (whos (dueL ⟨need, every, ma, L, T, c⟩ due))).length := by
    have h1 := dis_perm (hp.map fun p => p.1.who)
    have h2 := dis_map s ((ma.filter fun p => due p.2).map fun p => p.1.who) (fun x hx => by
      obtain ⟨y, hy, rfl⟩ := List.mem_map.1 hx
      exact h.rng y ((List.mem_filter.1 hy).1))
    rw [List.map_map] at h1 h2
    exact h1.trans h2
  have e2 : srtT (texts (dueL ⟨need, every, mb, L', T', c⟩ due)) = srtT (texts (dueL ⟨need, every, ma, L, T, c⟩ due)) := by
    refine srtT_of_perm ?_
    have h1 := hp.map fun p => p.1.text
    rw [List.map_map] at h1
    exact h1
  unfold giveF
  rw [e1, e2]
  split
  · exact ⟨rfl, ma, mb, rfl, rfl, h, Nat.le_refl _⟩
  · refine ⟨rfl, _, _, rfl, rfl, ⟨?_, ?_, fun x hx => h.rng x ((List.mem_filter.1 hx).1), fun y => ?_⟩, List.length_filter_le _ _⟩
    · exact h.na.sublist (List.filter_sublist.map _)
    · exact h.nb.sublist (List.filter_sublist.map _)
    · simp only [List.mem_filter]
      constructor
      · rintro ⟨h1, h2⟩
        obtain ⟨x, h3, rfl⟩ := (h.mem y).1 h1
        exact ⟨x, ⟨h3, h2⟩, rfl⟩
      · rintro ⟨x, ⟨h1, h2⟩, rfl⟩
        exact ⟨(h.mem _).2 ⟨x, h1, rfl⟩, h2⟩
/-- A relay that is open. -/
def Op (need : Int) (r : Rl) (l : List (Qn × Int)) (b : Int) : Prop := ∃ L T, r = ⟨need, 10, l, L, T, false⟩ ∧ L ≤ b
theorem Op.ask {need : Int} {r : Rl} {l : List (Qn × Int)} {b t z : Int} {q : Qn} (h : Op need r l b) (hb : b ≤ t) (hl : l.length < 1000) (hz : t / 10 = z) : Op need (askR r q t) (gadd l q z) t := by
  obtain ⟨L, T, rfl, hL⟩ := h
  unfold askR gadd
  by_cases h1 : q.text.size = 0 ∨ 4000 < q.text.size
  · have e : askE ⟨need, 10, l, L, T, false⟩ q t = 1 := by unfold askE; rw [if_pos h1]
    rw [if_neg (by rw [e]; decide), if_pos (h1.elim .inl fun h => .inr (.inl h))]
    exact ⟨L, T, rfl, by omega⟩
  · have hn : ¬ (T = true ∧ t < L) := by
      rintro ⟨-, h2⟩
      omega
    by_cases h2 : q ∈ l.map (·.1)
    · have e : askE ⟨need, 10, l, L, T, false⟩ q t = 33 := by unfold askE; rw [if_neg h1, if_neg (by simp), if_neg hn, if_pos h2]
      rw [if_neg (by rw [e]; decide), if_pos (.inr (.inr h2))]
      exact ⟨L, T, rfl, by omega⟩
    · have e : askE ⟨need, 10, l, L, T, false⟩ q t = 0 := by unfold askE; rw [if_neg h1, if_neg (by simp), if_neg hn, if_neg h2, if_neg (by simp only; omega)]
      rw [if_pos e, if_neg (fun h => h.elim (fun h => h1 (.inl h)) fun h => h.elim (fun h => h1 (.inr h)) h2)]
      refine ⟨t, true, ?_, Int.le_refl _⟩
      unfold Rl.asked perF
      rw [show max (10 : Int) 1 = 10 from rfl, hz]
theorem Op.tick {need s b t : Int} {ra rb : Rl} {ma mb : List (Qn × Int)} (h1 : Op need ra ma b) (h2 : Op need rb mb b) (h : BM s ma mb) (hb : b ≤ t) :
    (tickF ra t).1 = (tickF rb t).1 ∧ ∃ ma' mb', Op need (tickF ra t).2 ma' t ∧ Op need (tickF rb t).2 mb' t ∧ BM s ma' mb' ∧ ma'.length ≤ ma.length := by
  obtain ⟨L, T, rfl, hL⟩ := h1
  obtain ⟨L', T', rfl, hL'⟩ := h2
  unfold tickF
  rw [if_neg (by simp only; rintro (h | ⟨-, h⟩); cases h; omega), if_neg (by simp only; rintro (h | ⟨-, h⟩); cases h; omega)]
  obtain ⟨e1, ma', mb', e2, e3, e4, e5⟩ := h.give (need := need) (every := 10) (L := t) (L' := t) (T := true) (T' := true) (c := false) (fun z => decide (z < perF 10 t))
  exact ⟨e1, ma', mb', ⟨t, true, e2, Int.le_refl _⟩, ⟨t, true, e3, Int.le_refl _⟩, e4, e5⟩
theorem Op.close {need s b b' : Int} {ra rb : Rl} {ma mb : List (Qn × Int)} (h1 : Op need ra ma b) (h2 : Op need rb mb b') (h : BM s ma mb) : (closeF ra).1 = (closeF rb).1 := by
  obtain ⟨L, T, rfl, hL⟩ := h1
  obtain ⟨L', T', rfl, hL'⟩ := h2
  unfold closeF
  rw [if_neg (by simp), if_neg (by simp)]
  exact (h.give fun _ => true).1
theorem Op.l {need b : Int} {r : Rl} {l : List (Qn × Int)} (h : Op need r l b) : r.l = l := by
  obtain ⟨L, T, rfl, -⟩ := h
  rfl
theorem Op.mono {need b b' : Int} {r : Rl} {l : List (Qn × Int)} (h : Op need r l b) (hb : b ≤ b') : Op need r l b' := by
  obtain ⟨L, T, h1, h2⟩ := h
  exact ⟨L, T, h1, by omega⟩
end Go.Proofs.Ytbeoihjfjkbfhaa

namespace Go.Proofs.Ytbeoihjfjkbfhaa
set_option linter.unusedVariables false
set_option linter.unusedSimpArgs false
open Go.RowKit
/-- The cells of a question that waits: asker, period, text. -/
def qcs (x : Qn × Int) : List Value := [.int .i64 x.1.who, .int .i64 x.2, .string x.1.text]
def Rl.rcells (r : Rl) (v : Value) : Array Value := #[.int .i64 (max r.least 1), .int .i64 (max r.every 1), v, .int .i64 r.last, .bool r.timed, .bool r.closed]
theorem rperiod_any (t m : Int) (w : World) (h1 : 1 ≤ m) (h4 : m ≤ 9223372036854775807) (ht : OkI t) :
    Calls Try.prog 31 #[.int .i64 t, .int .i64 m] w fun e w' => e = .returned (.int .i64 (t / m)) ∧ w' = w := by
  have h2 := tdiv_in ht h1
  have h3 := perF_tdiv m t h1
  have HM : Hid (t / m = if t.tmod m < 0 then t.tdiv m - 1 else t.tdiv m) := Lib.hid h3
  clear h3
  generalize t / m = R at *
  go_enter Try.func31, Try.ntmps31
  obtain ⟨hq1, hq2⟩ := h2
  have hm0 : ¬ m = 0 := by omega
  have hwq : wrap64 (t.tdiv m) = t.tdiv m := wrap64_in hq1
  cases hz : decide (t.tmod m < 0) with
  | true =>
    have hz1 := of_decide_eq_true hz
    have hq3 := hq2 hz1
    have hwq2 : wrap64 (t.tdiv m - 1) = t.tdiv m - 1 := wrap64_in hq3
    have HR : Hid (R = t.tdiv m - 1) := Lib.hid (HM.out.trans (if_pos hz1))
    clear HM hq2
    clear hz
    go_wp2
    go_ret
    exact ⟨by rw [HR.out]; show Ending.returned (.int .i64 (wrap64 (t.tdiv m - 1))) = _; rw [hwq2], rfl⟩
  | false =>
    have hz1 := of_decide_eq_false hz
    have HR : Hid (R = t.tdiv m) := Lib.hid (HM.out.trans (if_neg hz1))
    clear HM hq2
    clear hz
    go_wp2
    go_ret
    exact ⟨by rw [HR.out]; rfl, rfl⟩
/-- The reference's relay at p, its questions in v, both from B on. -/
structure RM (B : Nat) (w : World) (p : Nat) (v : Value) (r : Rl) : Prop where
  at_ : B ≤ p
  row : w.heap[p]? = some (.cells (r.rcells v) 60)
  list : w.ownsRow B 68 3 v r.l.length (r.l.flatMap qcs)
  ok : r.ok
theorem RM.ext {B : Nat} {w w' : World} {p : Nat} {v : Value} {r : Rl} (h : RM B w p v r) (x : Ext w w') : RM B w' p v r :=
  ⟨h.at_, (x.block _ (Rg.lt_of_heap h.row)).trans h.row, row_ext h.list x, h.ok⟩
theorem RM.cells {B : Nat} {w : World} {p : Nat} {v : Value} {r : Rl} (h : RM B w p v r) :
    w.cell? ⟨p, 0, none⟩ = some (.int .i64 (max r.least 1)) ∧ w.cell? ⟨p, 1, none⟩ = some (.int .i64 (max r.every 1)) ∧ w.cell? ⟨p, 2, none⟩ = some v ∧ w.cell? ⟨p, 3, none⟩ = some (.int .i64 r.last) ∧ w.cell? ⟨p, 4, none⟩ = some (.bool r.timed) ∧ w.cell? ⟨p, 5, none⟩ = some (.bool r.closed) ∧ p < w.heap.size :=
  ⟨cell_of_row w p 0 _ _ _ h.row, cell_of_row w p 1 _ _ _ h.row, cell_of_row w p 2 _ _ _ h.row, cell_of_row w p 3 _ _ _ h.row, cell_of_row w p 4 _ _ _ h.row, cell_of_row w p 5 _ _ _ h.row, Rg.lt_of_heap h.row⟩
theorem rnew_any (least every : Int) (w : World) (hl : OkI least) (he : OkI every) :
    Calls Try.prog 13 #[.int .i64 least, .int .i64 every] w fun e w' => e = .returned (.pointer (some ⟨w.heap.size, 0, none⟩)) ∧ RM w.heap.size w' w.heap.size (.slice none 0 0) ⟨least, every, [], 0, false, false⟩ ∧ Ext w w' := by
  go_enter Try.func13, Try.ntmps13
  go_wp2
  go_ret
  exact ⟨rfl, ⟨Nat.le_refl _, alloc_at w _, World.ownsRow_nil _ _ _ _, ⟨hl, he, show OkI 0 from ⟨by decide, by decide⟩, by simp, by simp⟩⟩, Ext.alloc (Ext.refl _) _⟩
theorem rwaiting_any {B : Nat} {p : Nat} {v : Value} {r : Rl} {w : World} (h : RM B w p v r) :
    Calls Try.prog 23 #[.pointer (some ⟨p, 0, none⟩)] w fun e w' => e = .returned (.int .i64 r.l.length) ∧ w' = w := by
  obtain ⟨-, -, c2, -, -, -, hp⟩ := h.cells
  obtain ⟨a, c, rfl⟩ := row_slice h.list
  have hn := h.ok.len
  clear h
  generalize r.l.length = n at *
  go_enter Try.func23, Try.ntmps23
  go_wp2
  go_ret
  exact ⟨rfl, rfl⟩
end Go.Proofs.Ytbeoihjfjkbfhaa

namespace Go.Proofs.Ytbeoihjfjkbfhaa
set_option linter.unusedVariables false
set_option linter.unusedSimpArgs false
open Go.RowKit
theorem u8_lt {x y : Int} (hx : 0 ≤ x ∧ x < 256) (hy : 0 ≤ y ∧ y < 256) : UInt8.ofNat x.toNat < UInt8.ofNat y.toNat ↔ x < y := by
  rw [UInt8.lt_iff_toNat_lt, UInt8.toNat_ofNat', UInt8.toNat_ofNat', Nat.mod_eq_of_lt (by omega), Nat.mod_eq_of_lt (by omega)]
  omega
theorem lessL_cmp : ∀ (xs ys : List Int), xs.length = ys.length → (∀ x ∈ xs, 0 ≤ x ∧ x < 256) → (∀ y ∈ ys, 0 ≤ y ∧ y < 256) → lessL xs ys = decide (Lib.compareBytes (Lib.bytesOf xs) (Lib.bytesOf ys) < 0)
  | [], [], _, _, _ => by simp [lessL, Lib.bytesOf, Lib.compareBytes]
  | x :: xs, y :: ys, hl, hx, hy => by
    have ih := lessL_cmp xs ys (by simpa using hl) (fun z h => hx z (.tail _ h)) (fun z h => hy z (.tail _ h))
    have h1 := hx x (.head _)
    have h2 := hy y (.head _)
    show lessL (x :: xs) (y :: ys) = decide (Lib.compareBytes (UInt8.ofNat x.toNat :: Lib.bytesOf xs) (UInt8.ofNat y.toNat :: Lib.bytesOf ys) < 0)
    unfold lessL Lib.compareBytes
    by_cases hxy : x = y
    · subst hxy
      rw [if_pos rfl, if_neg (by rw [u8_lt h1 h1]; omega), if_neg (by rw [u8_lt h1 h1]; omega), ih]
    · rw [if_neg hxy]
      by_cases hlt : x < y
      · rw [if_pos ((u8_lt h1 h2).2 hlt)]
        simp [hlt]
      · rw [if_neg (by rw [u8_lt h1 h2]; exact hlt), if_pos ((u8_lt h2 h1).2 (by omega))]
        simp [hlt]
theorem cmp_same : ∀ (xs ys : List Int), xs.length = ys.length → (∀ x ∈ xs, 0 ≤ x ∧ x < 256) → (∀ y ∈ ys, 0 ≤ y ∧ y < 256) → (Lib.compareBytes (Lib.bytesOf xs) (Lib.bytesOf ys) = 0 ↔ xs = ys)
  | [], [], _, _, _ => by simp [Lib.bytesOf, Lib.compareBytes]
  | x :: xs, y :: ys, hl, hx, hy => by
    have ih := cmp_same xs ys (by simpa using hl) (fun z h => hx z (.tail _ h)) (fun z h => hy z (.tail _ h))
    have h1 := hx x (.head _)
    have h2 := hy y (.head _)
    show Lib.compareBytes (UInt8.ofNat x.toNat :: Lib.bytesOf xs) (UInt8.ofNat y.toNat :: Lib.bytesOf ys) = 0 ↔ _
    unfold Lib.compareBytes
    by_cases hxy : x = y
    · subst hxy
      rw [if_neg (by rw [u8_lt h1 h1]; omega), if_neg (by rw [u8_lt h1 h1]; omega), ih]
      simp
    · by_cases hlt : x < y
      · rw [if_pos ((u8_lt h1 h2).2 hlt)]
        simp [hxy]
      · rw [if_neg (by rw [u8_lt h1 h2]; exact hlt), if_pos ((u8_lt h2 h1).2 (by omega))]
        simp [hxy]
end Go.Proofs.Ytbeoihjfjkbfhaa

namespace Go.Proofs.Ytbeoihjfjkbfhaa
set_option linter.unusedVariables false
set_option linter.unusedSimpArgs false
open Go.RowKit
theorem up_rowS {ρ : Operand → Value} {d : Option Tmp} {x : Operand} {ty : TypeId} {ps : String} {af : Array Edge} {gd : Option (Nat × Bool)} {w : World} {g : Nat} {T t : TypeId} {cs : Array Value} {n : Nat} {s : TypeId} {fr : Nat × Nat}
    (hx : ρ x = .pointer (some ⟨g, 0, none⟩)) (hg : w.heap[g]? = some (.cells cs t fr))
    (hu : Try.prog.underlying T = some (.array n s)) (hi : (Try.prog.info? T).map (·.size) = some cs.size) :
    Rg.up Try.prog w (.agg cs) ((execOp ρ { dst := d, op := .load T x, type := ty, pos := ps, after := af, guard := gd }).run Try.prog w) := by
  have h := run_loadVar_row (P := Try.prog) w g t T cs _ (.array n s) hg hu rfl hi
  unfold execOp
  simp only [hx, Instr.loadAt, Instr.sureAddr, Sem.run_bind, Sem.run_pure, Result.andThen_ok, h]
  exact Rg.up_value
theorem rowB_at {l : List Int} {j : Nat} (h1 : l.length = j) (h : j < 32) : (rowB l)[j]? = some (.int .u8 0) := by
  unfold rowB
  subst h1
  rw [List.getElem?_toArray, List.getElem?_append_right (by simp), List.length_map, Nat.sub_self, List.getElem?_replicate, if_pos (by omega)]
theorem rowB_put {l : List Int} {j : Nat} (h1 : l.length = 32) (h : j < 32) : (rowB (l.take j)).setIfInBounds j (.int .u8 (l.getD j 0)) = rowB (l.take (j + 1)) := by
  unfold rowB
  have h2 : (l.take j).length = j := by rw [List.length_take]; omega
  rw [List.setIfInBounds_toArray, List.set_append_right _ _ (by simp; omega), List.take_add_one]
  have e1 : l[j]? = some (l.getD j 0) := by rw [List.getD_eq_getElem?_getD, List.getElem?_eq_getElem (by omega)]; rfl
  rw [e1, List.map_append, List.append_assoc]
  congr 2
  rw [List.length_map, h2, List.length_append, h2, show 32 - j = (32 - (j + 1)) + 1 by omega, List.replicate_succ, Nat.sub_self]
  rfl
theorem bytesI_extract (t : ByteArray) (i j : Nat) : bytesI (t.extract i j) = ((bytesI t).drop i).take (j - i) := by
  unfold bytesI
  rw [ByteArray.data_extract, Array.toList_extract, List.extract_eq_take_drop, List.map_take, List.map_drop]
theorem out_cell (S : S8) {i : Nat} (h : i < 32) : (S.l.getD (i / 4) 0) / 2 ^ (8 * (3 - i % 4)) % 256 = (outV S).getD i 0 := by
  have : i = 0 ∨ i = 1 ∨ i = 2 ∨ i = 3 ∨ i = 4 ∨ i = 5 ∨ i = 6 ∨ i = 7 ∨ i = 8 ∨ i = 9 ∨ i = 10 ∨ i = 11 ∨ i = 12 ∨ i = 13 ∨ i = 14 ∨ i = 15 ∨ i = 16 ∨ i = 17 ∨ i = 18 ∨ i = 19 ∨ i = 20 ∨ i = 21 ∨ i = 22 ∨ i = 23 ∨ i = 24 ∨ i = 25 ∨ i = 26 ∨ i = 27 ∨ i = 28 ∨ i = 29 ∨ i = 30 ∨ i = 31 := by omega
  rcases this with rfl | rfl | rfl | rfl | rfl | rfl | rfl | rfl | rfl | rfl | rfl | rfl | rfl | rfl | rfl | rfl | rfl | rfl | rfl | rfl | rfl | rfl | rfl | rfl | rfl | rfl | rfl | rfl | rfl | rfl | rfl | rfl
  all_goals first | rfl | (simp [outV, S8.l, byteS])
set_option maxRecDepth 100000 in
set_option maxHeartbeats 4000000 in
theorem rsum_any (s : ByteArray) (w : World) (hs : s.size ≤ 4000) :
    Calls Try.prog 54 #[.string s] w fun e w' => e = .returned (.agg (rowH (sumV (bytesI s)))) ∧ Ext w w' := by
  have HS1 := Lib.hid hs
  have hs6 : s.size ≤ 1000000 := by omega
  clear hs
  go_enter Try.func54, Try.ntmps54
  go_upto_region 2 with (first
    | (refine wpList_store_row (hgd := rfl) 90 (.tmp 3) (.tmp 8) rfl (w.heap.size + 1) (by rfl) (rowN H8) (by rfl) (rowN [0, 0, 0, 0, 0, 0, 0, 0]) 90 (two_blocks w _ _).2 (by rfl) (by kernel_rfl) (rowN_one _) ?_))
  change Code.wp _ _ _ _ (((w.alloc (.cells (rowB []) 78)).alloc (.cells (rowN [0, 0, 0, 0, 0, 0, 0, 0]) 90)).setRow (w.heap.size + 1) (rowN H8))
  have hx1 : Ext w (((w.alloc (.cells (rowB []) 78)).alloc (.cells (rowN [0, 0, 0, 0, 0, 0, 0, 0]) 90)).setRow (w.heap.size + 1) (rowN H8)) := below_setRow (Ext.alloc (Ext.alloc (Ext.refl _) _) _) (by omega) _
  have hA : (((w.alloc (.cells (rowB []) 78)).alloc (.cells (rowN [0, 0, 0, 0, 0, 0, 0, 0]) 90)).setRow (w.heap.size + 1) (rowN H8)).heap[w.heap.size]? = some (.cells (rowB []) 78) := (setRow_other _ _ _ _ (by omega)).trans (two_blocks w _ _).1
  have hB : (((w.alloc (.cells (rowB []) 78)).alloc (.cells (rowN [0, 0, 0, 0, 0, 0, 0, 0]) 90)).setRow (w.heap.size + 1) (rowN H8)).heap[w.heap.size + 1]? = some (.cells (rowN S0.l) 90) := setRow_heap _ _ _ _ _ _ (two_blocks w _ _).2
  obtain ⟨p, hp⟩ : ∃ p, p = w.heap.size := ⟨_, rfl⟩
  rw [← hp] at hA hB hx1 ⊢
  generalize (((w.alloc (.cells (rowB []) 78)).alloc (.cells (rowN [0, 0, 0, 0, 0, 0, 0, 0]) 90)).setRow (p + 1) (rowN H8)) = W1 at *
  have HP := Lib.hid hp
  clear hp
  have HA := Lib.hid hA; have HB := Lib.hid hB; have HX := Lib.hid hx1
  clear hA hB hx1
  go_upto_region 3 with (go_at_call 71; (with_reducible refine (padded_any s _ hs6).mono ?_); rintro e w2 ⟨t, rfl, ht, hx2⟩)
  have hA2 := (hx2.block _ (Rg.lt_of_heap HA.out)).trans HA.out
  have hB2 := (hx2.block _ (Rg.lt_of_heap HB.out)).trans HB.out
  have hX2 := HX.out.trans hx2
  obtain ⟨n, hn⟩ : ∃ n, t.size = 64 * n := ⟨t.size / 64, by have h1 := padV_mod (bytesI s); rw [← ht, bytesI_len] at h1; omega⟩
  have hn2 : n ≤ 100 := by have h1 := padV_len (bytesI s); rw [← ht, bytesI_len, bytesI_len] at h1; have := HS1.out; omega
  have HT : Hid (sumV (bytesI s) = outV (absorb (bytesI t) n)) := Lib.hid (by
    unfold sumV
    rw [← ht, bytesI_len, hn, Nat.mul_div_cancel_left _ (by omega)])
  have HN := Lib.hid hn; have HA3 := Lib.hid hA2; have HB3 := Lib.hid hB2; have HX3 := Lib.hid hX2
  clear hA2 hB2 hX2 HX HA HB ht hx2 hn HS1 hs6
  go_wp2_with (fail)
  go_loopw [5] (fun kv wr => ∃ (i c : Nat), kv = .int .i64 i ∧ Hid (i = 64 * c) ∧ c ≤ n ∧ Hid (wr.heap[p + 1]? = some (.cells (rowN (absorb (bytesI t) c).l) 90)) ∧ Hid (wr.heap[p]? = some (.cells (rowB []) 78)) ∧ Hid (Ext w wr)) (fun kv _ => 7000 - (iof kv).toNat)
  case atStart => exact ⟨0, 0, rfl, Lib.hid rfl, by omega, HB3, HA3, HX3⟩
  case round =>
    obtain ⟨i, c, rfl, HI, hc, KB, KA, KX⟩ := hrel
    clear HB3 HA3 HX3
    have hi7 : i ≤ 6400 := by have := HI.out; omega
    by_cases hcn : c < n
    · have ht1 : (i : Int) < t.size := by have h1 := HI.out; have h2 := HN.out; omega
      have ht2 : (i : Int) + 64 ≤ t.size := by have h1 := HI.out; have h2 := HN.out; omega
      have ht3 : t.size ≤ 6400 := by have h2 := HN.out; omega
      obtain ⟨b, hb⟩ : ∃ b, b = t.extract i (i + 64) := ⟨_, rfl⟩
      have hbi : bytesI b = ((bytesI t).drop (64 * c)).take 64 := by rw [hb, bytesI_extract, HI.out]; congr 1; omega
      have hbs : b.size = 64 := by rw [← bytesI_len, hbi, List.length_take, List.length_drop, bytesI_len, HN.out]; omega
      have hsl : ∀ wz, (Instr.slice 9 (.string t) (some (.int .i64 i)) (some (.int .i64 (i + 64))) none).run Try.prog wz = .ok (.string b) wz := fun wz => by
        rw [run_slice_string_if wz 9 t _ _ _ _ Try.underlying9, if_pos ⟨by omega, ht2⟩, if_pos ⟨by omega, by omega⟩, hb]
        rfl
      have hw1 : IntKind.i64.wrap ((i : Int) + 64) = i + 64 := by rw [IntKind.wrap_i64]; omega
      have hA4 : absorb (bytesI t) (c + 1) = blockS (absorb (bytesI t) c) (bytesI b) := by rw [hbi]; rfl
      have HBB := Lib.hid (fun S w => rblock_any S b w hbs)
      have HA4 := Lib.hid hA4
      clear hb hbi hbs hA4
      have KB2 := KB.out
      go_upto_region 6 with (fail)
      refine Rr.wp_region [(0, .y), (1, .y), (2, .y), (3, .y), (4, .y), (5, .y), (6, .y)] (fun _ => (.cells #[] 29, Rg.ptr)) (by kernel_rfl) (by kernel_rfl) ?_
      (refine Rr.wr_y (by simp only [List.getElem?_toArray, List.getElem?_cons_succ, List.getElem?_cons_zero]; rfl) (by rfl) ?_
       apply Exists.intro
       refine ⟨fun wz hw _ => ?_, ?_⟩
       · exact up_rowS (by rfl) ((hw.block _ (Rg.lt_of_heap KB2)).trans KB2) Try.underlying90 (by kernel_rfl)
       simp only [Act.put, List.setIfInBounds_toArray, List.set_cons_zero, List.set_cons_succ])
      (refine Rr.wr_y (by simp only [List.getElem?_toArray, List.getElem?_cons_succ, List.getElem?_cons_zero]; rfl) (by rfl) ?_
       apply Exists.intro
       refine ⟨fun wz hw _ => ?_, ?_⟩
       · have hcz := hw.cells.1
         go_simp
         (with_reducible exact Rg.up_value)
       simp only [Act.put, List.setIfInBounds_toArray, List.set_cons_zero, List.set_cons_succ])
      (refine Rr.wr_y (by simp only [List.getElem?_toArray, List.getElem?_cons_succ, List.getElem?_cons_zero]; rfl) (by rfl) ?_
       apply Exists.intro
       refine ⟨fun wz hw _ => ?_, ?_⟩
       · have hcz := hw.cells.1
         go_simp
         (with_reducible exact Rg.up_value)
       simp only [Act.put, List.setIfInBounds_toArray, List.set_cons_zero, List.set_cons_succ])
      (refine Rr.wr_y (by simp only [List.getElem?_toArray, List.getElem?_cons_succ, List.getElem?_cons_zero]; rfl) (by rfl) ?_
       apply Exists.intro
       refine ⟨fun wz hw _ => ?_, ?_⟩
       · have hcz := hw.cells.1
         go_simp
         (with_reducible exact Rg.up_value)
       simp only [Act.put, List.setIfInBounds_toArray, List.set_cons_zero, List.set_cons_succ])
      (refine Rr.wr_y (by simp only [List.getElem?_toArray, List.getElem?_cons_succ, List.getElem?_cons_zero]; rfl) (by rfl) ?_
       apply Exists.intro
       refine ⟨fun wz hw _ => ?_, ?_⟩
       · have hcz := hw.cells.1
         go_simp
         (with_reducible exact Rg.up_value)
       simp only [Act.put, List.setIfInBounds_toArray, List.set_cons_zero, List.set_cons_succ])
      (refine Rr.wr_y (by simp only [List.getElem?_toArray, List.getElem?_cons_succ, List.getElem?_cons_zero]; rfl) (by rfl) ?_
       apply Exists.intro
       refine ⟨fun wz hw _ => ?_, ?_⟩
       · have hcz := hw.cells.1
         go_simp
         (with_reducible exact Rg.up_value)
       simp only [Act.put, List.setIfInBounds_toArray, List.set_cons_zero, List.set_cons_succ])
      (refine Rr.wr_y (by simp only [List.getElem?_toArray, List.getElem?_cons_succ, List.getElem?_cons_zero]; rfl) (by rfl) ?_
       apply Exists.intro
       refine ⟨fun wz hw _ => ?_, ?_⟩
       · have hcz := hw.cells.1
         go_simp
         apply Rg.up_enter
         (with_reducible refine (HBB.out _ _).mono ?_)
         rintro e w3 ⟨rfl, hb3⟩
         exact ⟨rfl, hb3⟩
       simp only [Act.put, List.setIfInBounds_toArray, List.set_cons_zero, List.set_cons_succ])
      refine Rr.wr_nil ?_
      intro wy hy hh
      simp only [List.length_cons, List.length_nil, List.drop_succ_cons, List.drop_zero, Nat.reduceAdd]
      clear hh
      have hrow := (hy.block _ (Rg.lt_of_heap KB2)).trans KB2
      refine wpList_store_row (hgd := rfl) 90 (.tmp 3) (.tmp 23) rfl (p + 1) (by rfl) (rowN (blockS (absorb (bytesI t) c) (bytesI b)).l) (by rfl) _ 90 hrow (by rfl) (by kernel_rfl) (rowN_one _) ?_
      simp only [Act.put, List.setIfInBounds_toArray, List.set_cons_zero, List.set_cons_succ]
      go_wp2_with (fail)
      exact ⟨⟨i + 64, c + 1, by simp, Lib.hid (by rw [HI.out]; omega), by omega, Lib.hid (by rw [HA4.out]; exact setRow_heap _ _ _ _ _ _ hrow), Lib.hid ((setRow_other _ _ _ _ (by omega)).trans ((hy.block _ (Rg.lt_of_heap KA.out)).trans KA.out)), Lib.hid (below_setRow (KX.out.trans hy) (by have := HP.out; omega) _)⟩, by simp [iof]; omega⟩
    · obtain rfl : c = n := by omega
      have ht1 : ¬ (i : Int) < t.size := by have h1 := HI.out; have h2 := HN.out; omega
      generalize absorb (bytesI t) c = S at *
      go_upto_region 8 with (fail)
      change Code.wp _ _ _ _ (wr.alloc (.cells (rowB []) 78))
      have JR := Lib.hid (alloc_at wr (.cells (rowB []) 78))
      have hx3 : Ext wr (wr.alloc (.cells (rowB []) 78)) := Ext.alloc (Ext.refl _) _
      have JB := Lib.hid ((hx3.block _ (Rg.lt_of_heap KB.out)).trans KB.out)
      have JA := Lib.hid ((hx3.block _ (Rg.lt_of_heap KA.out)).trans KA.out)
      have JX := Lib.hid (KX.out.trans hx3)
      have hpr := Rg.lt_of_heap KB.out
      obtain ⟨r, hr⟩ : ∃ r, r = wr.heap.size := ⟨_, rfl⟩
      rw [← hr] at JR hpr ⊢
      generalize wr.alloc (.cells (rowB []) 78) = V1 at *
      have hwr : w.heap.size ≤ r := by rw [hr]; exact KX.out.size
      have HO := Lib.hid (show (outV S).length = 32 from rfl)
      clear KB KA KX hx3 hr
      go_wp2_with (fail)
      go_loopw [7] (fun k wv => ∃ j : Nat, k = .int .i64 j ∧ j ≤ 32 ∧ Hid (wv.heap[r]? = some (.cells (rowB ((outV S).take j)) 78)) ∧ Hid (wv.heap[p + 1]? = some (.cells (rowN S.l) 90)) ∧ Hid (wv.heap[p]? = some (.cells (rowB []) 78)) ∧ Hid (Ext w wv)) (fun k _ => 32 - (iof k).toNat)
      case atStart => exact ⟨0, rfl, by omega, JR, JB, JA, JX⟩
      case round =>
        obtain ⟨j, rfl, hj, LR, LB, LA, LX⟩ := hrel
        clear JR JB JA JX
        by_cases hj2 : j < 32
        · have cs := cell_of_row wr (p + 1) (j / 4) _ _ _ LB.out
          rw [rowN_get (show j / 4 < S.l.length from by show j / 4 < 8; omega)] at cs
          have cj := cell_of_row wr r j _ _ _ LR.out
          rw [rowB_at (by rw [List.length_take, HO.out]; omega) hj2] at cj
          have fj : wr.frozen? ⟨r, j, none⟩ = false := (Rg.cells_of LR.out).2.1 _
          obtain ⟨j1, hj1⟩ : ∃ j1, j1 = j + 1 := ⟨_, rfl⟩
          have HK : Hid (∀ v, v = .int .u8 (S.l.getD (j / 4) 0 / 2 ^ (8 * (3 - j % 4)) % 256) → (wr.setCell ⟨r, j, none⟩ v).heap[r]? = some (.cells (rowB ((outV S).take j1)) 78)) := Lib.hid (fun v hv => by
            rw [hv, hj1, ← rowB_put HO.out hj2, out_cell S hj2]
            exact heap_setCell_row _ LR.out)
          have HE : Hid (∀ v, (wr.setCell ⟨r, j, none⟩ v).heap[p + 1]? = some (.cells (rowN S.l) 90) ∧ (wr.setCell ⟨r, j, none⟩ v).heap[p]? = some (.cells (rowB []) 78) ∧ Ext w (wr.setCell ⟨r, j, none⟩ v)) := Lib.hid (fun v =>
            ⟨(heap_setCell_other _ (by omega)).trans LB.out, (heap_setCell_other _ (by omega)).trans LA.out, Below.setCell LX.out (by simpa using hwr) _⟩)
          have HJ := Lib.hid hj1
          clear LR LB LA LX hj hj1
          generalize S.l.getD (j / 4) 0 = x at *
          have h32 : j = 0 ∨ j = 1 ∨ j = 2 ∨ j = 3 ∨ j = 4 ∨ j = 5 ∨ j = 6 ∨ j = 7 ∨ j = 8 ∨ j = 9 ∨ j = 10 ∨ j = 11 ∨ j = 12 ∨ j = 13 ∨ j = 14 ∨ j = 15 ∨ j = 16 ∨ j = 17 ∨ j = 18 ∨ j = 19 ∨ j = 20 ∨ j = 21 ∨ j = 22 ∨ j = 23 ∨ j = 24 ∨ j = 25 ∨ j = 26 ∨ j = 27 ∨ j = 28 ∨ j = 29 ∨ j = 30 ∨ j = 31 := by omega
          rcases h32 with rfl | rfl | rfl | rfl | rfl | rfl | rfl | rfl | rfl | rfl | rfl | rfl | rfl | rfl | rfl | rfl | rfl | rfl | rfl | rfl | rfl | rfl | rfl | rfl | rfl | rfl | rfl | rfl | rfl | rfl | rfl | rfl
          all_goals
            simp only [Nat.reduceDiv] at cs
            go_wp2_with (fail)
            exact ⟨⟨j1, by rw [HJ.out]; rfl, by rw [HJ.out]; decide, Lib.hid (HK.out _ (by simp)), Lib.hid (HE.out _).1, Lib.hid (HE.out _).2.1, Lib.hid (HE.out _).2.2⟩, by simp [iof]⟩
        · obtain rfl : j = 32 := by omega
          have e32 : (outV S).take 32 = outV S := rfl
          rw [e32] at LR
          go_wp2_with (first
            | (refine wpList_load_row rfl 78 (.tmp 6) rfl r (by rfl) (rowB (outV S)) 78 (0, 0) LR.out 32 5 Try.underlying78 (by kernel_rfl) ?_)
            | (refine wpList_store_row (hgd := rfl) 78 (.tmp 2) (.tmp 40) rfl p (by rfl) (rowB (outV S)) (by rfl) (rowB []) 78 LA.out (by rfl) (by kernel_rfl) (rowB_one _) ?_))
          refine bodyPost_ret (v := .agg (rowB (outV S))) (results_cell_row Try.results54 _ _ p 78 _ _ _ (by rfl) (setRow_heap _ _ _ _ _ _ LA.out) Try.underlying78 rfl (by kernel_rfl)) rfl ⟨by rw [HT.out]; rfl, below_setRow LX.out (by have := HP.out; omega) _⟩
end Go.Proofs.Ytbeoihjfjkbfhaa

namespace Go.Proofs.Ytbeoihjfjkbfhaa
set_option linter.unusedVariables false
set_option linter.unusedSimpArgs false
open Go.RowKit Go.Sort
theorem eqItems_u8 (d : Nat) (xs ys : List Int) (w : World) : ∀ is : List Nat, (∀ i ∈ is, i < xs.length ∧ i < ys.length) →
    (Op.eqItems (d + 1) 5 (Try.prog.cellsOf 5) (rowH xs) (rowH ys) is).run Try.prog w = .ok (is.all fun i => xs.getD i 0 == ys.getD i 0) w
  | [], _ => by simp [Op.eqItems]
  | i :: is, h => by
    have ih := eqItems_u8 d xs ys w is (fun j hj => h j (.tail _ hj))
    obtain ⟨h1, h2⟩ := h i (.head _)
    have e1 : i * Try.prog.cellsOf 5 = i := by rw [show Try.prog.cellsOf 5 = 1 by kernel_rfl, Nat.mul_one]
    have p1 := run_part_plain (P := Try.prog) w (e := 5) (by kernel_rfl) (rowH_at h1)
    have p2 := run_part_plain (P := Try.prog) w (e := 5) (by kernel_rfl) (rowH_at h2)
    have p3 := run_equalIn_int (P := Try.prog) w d 5 .u8 .u8 xs[i] ys[i] Try.underlying5
    have g1 : xs.getD i 0 = xs[i] := by simp [List.getD_eq_getElem?_getD, h1]
    have g2 : ys.getD i 0 = ys[i] := by simp [List.getD_eq_getElem?_getD, h2]
    simp only [Op.eqItems, Sem.run_bind, e1, p1, p2, p3, Result.andThen_ok, List.all_cons, g1, g2]
    cases hb : (xs[i] == ys[i])
    · simp
    · simpa using ih
theorem all32 (xs ys : List Int) (hx : xs.length = 32) (hy : ys.length = 32) : ((List.range 32).all fun i => xs.getD i 0 == ys.getD i 0) = decide (xs = ys) := by
  rw [Bool.eq_iff_iff, List.all_eq_true, decide_eq_true_iff]
  constructor
  · intro h
    apply List.ext_getElem (by omega)
    intro j h1 h2
    have h3 := h j (by rw [List.mem_range]; omega)
    have g1 : xs.getD j 0 = xs[j] := by simp [List.getD_eq_getElem?_getD, h1]
    have g2 : ys.getD j 0 = ys[j] := by simp [List.getD_eq_getElem?_getD, h2]
    rw [g1, g2] at h3
    exact eq_of_beq h3
  · rintro rfl j hj
    exact beq_self_eq_true _
theorem eqH (xs ys : List Int) (hx : xs.length = 32) (hy : ys.length = 32) (w : World) :
    (Op.equalIn 10000 78 (.agg (rowH xs)) (.agg (rowH ys))).run Try.prog w = .ok (decide (xs = ys)) w := by
  have h5 : ∃ i, Try.prog.info? 5 = some i := info_of_underlying Try.underlying5
  obtain ⟨i, hi⟩ := h5
  rw [run_equalIn_array (P := Try.prog) w 9999 (rowH xs) (rowH ys) Try.underlying78 hi, eqItems_u8 9998 xs ys w (List.range 32) (fun i hi => by rw [List.mem_range] at hi; omega), all32 xs ys hx hy]
theorem bless_cmp : ∀ x y : List UInt8, Op.bytesLess x y = decide (Lib.compareBytes x y < 0)
  | [], [] => rfl
  | [], _ :: _ => rfl
  | _ :: _, [] => rfl
  | a :: x, b :: y => by
    have ih := bless_cmp x y
    unfold Op.bytesLess Lib.compareBytes
    by_cases h1 : a < b
    · simp [h1]
    · by_cases h2 : b < a
      · have h3 : ¬ a = b := fun h => h1 (h ▸ h2)
        simp [h1, h2, h3]
      · have h3 : a = b := UInt8.le_antisymm (UInt8.not_lt.1 h2) (UInt8.not_lt.1 h1)
        simp [h1, h2, h3, ih]
theorem orF_two (a b : Int) : orF [a, b] = if a = 0 then b else a := by
  unfold orF
  by_cases h : a = 0
  · subst h
    by_cases hb : b = 0
    · subst hb; rfl
    · simp [hb]
  · simp [h]
/-- What before answers. -/
def befT (a b : ByteArray) : Bool := ltOf cmpT a b
theorem befT_eq (a b : ByteArray) : befT a b = if sumV (bytesI a) = sumV (bytesI b) then Op.bytesLess a.toList b.toList else lessL (sumV (bytesI a)) (sumV (bytesI b)) := by
  have hin : ∀ s : ByteArray, ∀ x ∈ sumV (bytesI s), 0 ≤ x ∧ x < 256 := fun s x hx => by
    unfold sumV outV at hx
    obtain ⟨y, -, hy⟩ := List.mem_flatMap.1 hx
    exact byteS_in y x hy
  have hl : (sumV (bytesI a)).length = (sumV (bytesI b)).length := (sumV_len _).trans (sumV_len _).symm
  have h1 := cmp_same _ _ hl (hin a) (hin b)
  have h2 := lessL_cmp _ _ hl (hin a) (hin b)
  have e1 : Op.bytesLess a.toList b.toList = decide (Lib.compareBytes a.data.toList b.data.toList < 0) := by rw [bless_cmp, Lib.toList_data, Lib.toList_data]
  rw [e1, h2]
  unfold befT ltOf cmpT hashB
  clear hin hl h2 e1
  generalize sumV (bytesI a) = A at *
  generalize sumV (bytesI b) = B at *
  rw [orF_two]
  by_cases e : A = B
  · rw [if_pos (h1.2 e), if_pos e]
  · rw [if_neg (fun h => e (h1.1 h)), if_neg e]
set_option maxRecDepth 100000 in
set_option maxHeartbeats 4000000 in
theorem before_any (a b : ByteArray) (w : World) (ha : a.size ≤ 4000) (hb : b.size ≤ 4000) :
    Calls Try.prog 44 #[.string a, .string b] w fun e w' => e = .returned (.bool (befT a b)) ∧ Ext w w' := by
  have HR := Lib.hid (befT_eq a b)
  have HA := Lib.hid (fun w => rsum_any a w ha); have HB := Lib.hid (fun w => rsum_any b w hb)
  have la := sumV_len (bytesI a); have lb := sumV_len (bytesI b)
  generalize sumV (bytesI a) = A at *
  generalize sumV (bytesI b) = B at *
  generalize befT a b = R at *
  have sa : (rowH A).size = 32 := by unfold rowH; simpa using la
  have sb : (rowH B).size = 32 := by unfold rowH; simpa using lb
  have oh : ∀ L : List Int, ∀ v ∈ (rowH L).toList, v.oneCell' = true := by
    intro L v hv
    obtain ⟨y, -, rfl⟩ := List.mem_map.1 hv
    rfl
  have HQ := Lib.hid (fun w => eqH A B la lb w)
  have HL := Lib.hid (fun w => less_any A B w la lb)
  clear la lb ha hb
  go_enter Try.func44, Try.ntmps44
  go_upto_region 2 with (first
    | (go_at_call 54; (with_reducible refine (HA.out _).mono ?_); rintro e w1 ⟨rfl, hx1⟩)
    | (refine wpList_store_row (hgd := rfl) 78 (.tmp 5) (.tmp 8) rfl w1.heap.size (by rfl) (rowH A) (by rfl) (rowB []) 78 (alloc_at w1 _) (by rw [sa]; rfl) (by rw [sa]; kernel_rfl) (oh A) ?_))
  change Code.wp _ _ _ _ ((w1.alloc (.cells (rowB []) 78)).setRow w1.heap.size (rowH A))
  have hx2 : Ext w ((w1.alloc (.cells (rowB []) 78)).setRow w1.heap.size (rowH A)) := below_setRow (Ext.alloc hx1 _) hx1.size _
  have hP2 : ((w1.alloc (.cells (rowB []) 78)).setRow w1.heap.size (rowH A)).heap[w1.heap.size]? = some (.cells (rowH A) 78) := setRow_heap _ _ _ _ _ _ (alloc_at w1 _)
  obtain ⟨p, hp⟩ : ∃ p, p = w1.heap.size := ⟨_, rfl⟩
  rw [← hp] at hx2 hP2 ⊢
  generalize ((w1.alloc (.cells (rowB []) 78)).setRow p (rowH A)) = W2 at *
  have HX2 := Lib.hid hx2; have HP2 := Lib.hid hP2
  clear hp hx1 hx2 hP2
  go_upto_region 3 with (first
    | (go_at_call 54; (with_reducible refine (HB.out _).mono ?_); rintro e w3 ⟨rfl, hx3⟩)
    | (refine wpList_store_row (hgd := rfl) 78 (.tmp 6) (.tmp 10) rfl w3.heap.size (by rfl) (rowH B) (by rfl) (rowB []) 78 (alloc_at w3 _) (by rw [sb]; rfl) (by rw [sb]; kernel_rfl) (oh B) ?_))
  change Code.wp _ _ _ _ ((w3.alloc (.cells (rowB []) 78)).setRow w3.heap.size (rowH B))
  have hx4 : Ext W2 ((w3.alloc (.cells (rowB []) 78)).setRow w3.heap.size (rowH B)) := below_setRow (Ext.alloc hx3 _) hx3.size _
  have hQ4 : ((w3.alloc (.cells (rowB []) 78)).setRow w3.heap.size (rowH B)).heap[w3.heap.size]? = some (.cells (rowH B) 78) := setRow_heap _ _ _ _ _ _ (alloc_at w3 _)
  obtain ⟨q, hq⟩ : ∃ q, q = w3.heap.size := ⟨_, rfl⟩
  rw [← hq] at hx4 hQ4 ⊢
  generalize ((w3.alloc (.cells (rowB []) 78)).setRow q (rowH B)) = W4 at *
  have JP := Lib.hid ((hx4.block _ (Rg.lt_of_heap HP2.out)).trans HP2.out); have JQ := Lib.hid hQ4; have JX := Lib.hid (HX2.out.trans hx4)
  clear hq hx3 hx4 hQ4 HX2 HP2
  have heq := HQ.out
  have hsa := Lib.hid sa; have hsb := Lib.hid sb
  clear HQ oh HA HB sa sb
  by_cases hAB : A = B
  · have hd : decide (A = B) = true := decide_eq_true hAB
    rw [if_pos hAB] at HR
    simp only [hd] at heq
    clear hAB hd
    go_upto_region 4 with (first
      | (refine wpList_load_row rfl 78 (.tmp 5) rfl p (by rfl) (rowH A) 78 (0, 0) JP.out 32 5 Try.underlying78 (by rw [hsa.out]; kernel_rfl) ?_)
      | (refine wpList_load_row rfl 78 (.tmp 6) rfl q (by rfl) (rowH B) 78 (0, 0) JQ.out 32 5 Try.underlying78 (by rw [hsb.out]; kernel_rfl) ?_))
    clear heq
    go_wp2_with (fail)
    go_ret
    exact ⟨by rw [HR.out]; rfl, JX.out⟩
  · have hd : decide (A = B) = false := decide_eq_false hAB
    rw [if_neg hAB] at HR
    simp only [hd] at heq
    clear hAB hd
    go_wp2_with (first
      | (refine wpList_load_row rfl 78 (.tmp 5) rfl p (by rfl) (rowH A) 78 (0, 0) JP.out 32 5 Try.underlying78 (by rw [hsa.out]; kernel_rfl) ?_)
      | (refine wpList_load_row rfl 78 (.tmp 6) rfl q (by rfl) (rowH B) 78 (0, 0) JQ.out 32 5 Try.underlying78 (by rw [hsb.out]; kernel_rfl) ?_)
      | (go_at_call 55; (with_reducible refine (HL.out _).mono ?_); rintro e w5 ⟨rfl, hx5⟩))
    go_ret
    exact ⟨by rw [HR.out]; rfl, JX.out.trans hx5⟩
end Go.Proofs.Ytbeoihjfjkbfhaa

namespace Go.Proofs.Ytbeoihjfjkbfhaa
set_option linter.unusedVariables false
set_option linter.unusedSimpArgs false
open Go.RowKit Go.Sort

theorem srtT_ins {ts m : List ByteArray} {x : ByteArray} {j : Nat} (hm : m = srtT ts) (hj : j ≤ m.length) (h1 : ∀ q (_ : q < j) (hl : q < m.length), befT x m[q] = false) (h2 : ∀ hl : j < m.length, befT x m[j] = true) :
    srtT (ts ++ [x]) = m.take j ++ x :: m.drop j := by
  symm
  have hs := hm ▸ srtT_sorted ts
  refine srtT_eq ?_ ?_
  · have hp : m.Perm ts := hm ▸ srtT_perm ts
    have e1 : (m.take j ++ x :: m.drop j).Perm (x :: (m.take j ++ m.drop j)) := List.perm_middle
    rw [List.take_append_drop] at e1
    exact e1.trans ((hp.cons x).trans (List.perm_append_singleton x ts).symm)
  · rw [List.pairwise_append]
    refine ⟨hs.sublist (List.take_sublist _ _), ?_, ?_⟩
    · rw [List.pairwise_cons]
      refine ⟨fun y hy => ?_, hs.sublist (List.drop_sublist _ _)⟩
      obtain ⟨k, hk, rfl⟩ := List.mem_iff_getElem.1 hy
      rw [List.length_drop] at hk
      rw [List.getElem_drop]
      have hjl : j < m.length := by omega
      have hb := h2 hjl
      unfold befT at hb
      cases hlt : ltOf cmpT m[j + k] x
      · rfl
      · have h3 := gcT.swo.trans _ _ _ hlt hb
        by_cases hk0 : k = 0
        · subst hk0
          have h4 : ltOf cmpT m[j] m[j] = true := h3
          rw [gcT.swo.irrefl m[j]] at h4
          cases h4
        · rw [(List.pairwise_iff_getElem.1 hs) j (j + k) hjl (by omega) (by omega)] at h3
          cases h3
    · intro a ha b hb
      obtain ⟨q, hq, rfl⟩ := List.mem_iff_getElem.1 ha
      rw [List.length_take] at hq
      rw [List.getElem_take]
      rcases List.mem_cons.1 hb with rfl | hb
      · exact h1 q (by omega) (by omega)
      · obtain ⟨k, hk, rfl⟩ := List.mem_iff_getElem.1 hb
        rw [List.length_drop] at hk
        rw [List.getElem_drop]
        exact (List.pairwise_iff_getElem.1 hs) q (j + k) (by omega) (by omega) (by omega)
theorem row_formS {B : Nat} {w : World} {v : Value} {l : List ByteArray} (h : w.ownsRow B 9 1 v l.length (l.flatMap celS)) :
    ∃ A cap, v = .slice A l.length cap ∧ l.length ≤ cap ∧ cap ≤ 9223372036854775807 ∧ (l = [] ∧ A = none ∧ cap = 0 ∨ ∃ g, A = some ⟨g, 0, none⟩ ∧ B ≤ g ∧ ∀ k (h : k < l.length), w.cell? ⟨g, k, none⟩ = some (.string l[k])) := by
  rcases h.2 with ⟨hn, h0⟩ | ⟨g, cap, cur, hv, hb, hg, h1, h2, h3, h4⟩
  · refine ⟨none, 0, by rw [hn, h0], by omega, by omega, .inl ⟨List.length_eq_zero_iff.1 h0, rfl, rfl⟩⟩
  · refine ⟨_, cap, hv, h1, by unfold maxLen at h2; exact h2, .inr ⟨g, rfl, hb, fun k hk => ?_⟩⟩
    subst hv
    rw [World.ownsRow.cellAt h k (by omega), celS_map]
    simp [hk]
theorem append_anyS {ops : Array Oper} {rest : List Oper} {o : Oper} {a : Act} {Q : Exit → Act → World → Prop} {w : World} (hgd : o.guard = none) (s x : Operand)
    (ho : o.op = .call { callee := .builtin .append, args := #[s, x], argTypes := #[38, 38] }) (B : Nat) (v : Value) (vs : List ByteArray) (hs : a.eval s = v) (hF : w.ownsRow B 9 1 v vs.length (vs.flatMap celS))
    (A : Option Addr) (c : Nat) (us : List ByteArray) (hx : a.eval x = .slice A us.length c) (hu : us = [] ∨ ∃ b off, A = some ⟨b, off, none⟩ ∧ ∀ k (h : k < us.length), w.cell? ⟨b, off + k, none⟩ = some (.string us[k]))
    (hn : vs.length + us.length ≤ 1000000) (hB : B ≤ w.heap.size)
    (h : ∀ v' w', w'.ownsRow B 9 1 v' (vs ++ us).length ((vs ++ us).flatMap celS) → w.grownBy w' v.ownBlock → (us ≠ [] → ∃ g cap, v' = .slice (some ⟨g, 0, none⟩) (vs.length + us.length) cap) → (us = [] → v' = v ∧ w' = w) → wpList Try.prog ops Q rest (a.put o.dst v') w') : wpList Try.prog ops Q (o :: rest) a w := by
  obtain ⟨i0, hi, hz0, hz1, hz2⟩ := info_parts (show (Try.prog.info? 9).map (fun i => (i.zero, i.size, i.bytes)) = some (some (.string ⟨#[]⟩), 1, 16) by kernel_rfl)
  refine wpList_plain hgd fun K hK => ?_
  by_cases h0 : us = []
  · subst h0
    obtain ⟨base, cap, hv, hle⟩ : ∃ base cap, v = .slice base vs.length cap ∧ vs.length ≤ cap := by
      rcases hF.2 with ⟨hn, h0⟩ | ⟨g, cap', cur, hv, hb, hg, h1, h2, h3, h4⟩
      · exact ⟨none, 0, by rw [hn, h0], by omega⟩
      · exact ⟨_, cap', hv, h1⟩
    have hsrc : Src Try.prog i0.size 38 (.slice A 0 c) 0 [] w := by
      rw [hz1]
      cases A with
      | none => exact Src.ofNil w Try.underlying38 c
      | some a => exact Src.ofSlice w Try.underlying38 a 0 c _ (by simp) (by simp) (by simp)
    have hr := run_append_nothing (P := Try.prog) w 38 38 o.type 9 i0 Try.underlying38 hi base vs.length cap hle (.slice A 0 c) hsrc
    rw [← hv] at hr
    unfold Oper.wp execOp
    simp only [List.length_nil] at hx
    simp only [ho, resolve, invoke, builtin, Sem.run_bind, Sem.run_pure, Result.andThen_ok, List.map_toArray, List.map_cons, List.map_nil, hs, hx, hr]
    exact hK _ _ (h v w (by simpa using hF) ⟨rfl, rfl, rfl, Nat.le_refl _, fun _ _ _ => rfl⟩ (fun h => absurd rfl h) (fun _ => ⟨rfl, rfl⟩))
  · obtain ⟨b, off, rfl, hcell⟩ := hu.resolve_left h0
    have hpos : 0 < us.length := List.length_pos_iff.2 h0
    obtain ⟨g, cap', w', hr, h2, h3, h4, h5⟩ := run_append_lies (P := Try.prog) w 38 o.type B 9 i0 _ 1 16 Try.underlying38 hi hz0 hz1 hz2 rfl (by decide) v vs.length _ hF ⟨b, off, none⟩ us.length c (us.map Value.string) (by simp)
      (by
        intro j u hu
        have hj : j < us.length := by have := (List.getElem?_eq_some_iff.1 hu).1; simpa using this
        rw [List.getElem?_eq_getElem (by simpa using hj)] at hu
        simp only [List.getElem_map, Option.some.injEq] at hu
        subst hu
        rw [Go.WideShapes.add_plain]
        exact hcell j hj) (by intro u hu; obtain ⟨z, -, rfl⟩ := List.mem_map.1 hu; rfl) hpos (by unfold maxLen; omega) (by omega) hB w.heap.size rfl
    unfold Oper.wp execOp
    simp only [ho, resolve, invoke, builtin, Sem.run_bind, Sem.run_pure, Result.andThen_ok, List.map_toArray, List.map_cons, List.map_nil, hs, hx, hr] at *
    refine hK _ _ (h _ w' ?_ h3 (fun _ => ⟨g, cap', rfl⟩) (fun e => absurd e h0))
    rw [List.flatMap_append, List.length_append, celS_map us]
    exact h2
theorem srcS_take {w wv : World} {g k : Nat} {l : List ByteArray} (hv : Ext w wv) (hc : ∀ k (h : k < l.length), w.cell? ⟨g, k, none⟩ = some (.string l[k])) :
    l.take k = [] ∨ ∃ b off, some (⟨g, 0, none⟩ : Addr) = some ⟨b, off, none⟩ ∧ ∀ j (h : j < (l.take k).length), wv.cell? ⟨b, off + j, none⟩ = some (.string (l.take k)[j]) := by
  refine .inr ⟨g, 0, rfl, fun j hj => ?_⟩
  rw [List.length_take] at hj
  have := hc j (by omega)
  rw [Nat.zero_add, (hv.cells.1 _ _ (World.block_lt_of_cell? w _ this)), List.getElem_take]
  exact this
theorem srcS_drop {w wz : World} {g k oc : Nat} {l : List ByteArray} (hw : Ext w wz) (hc : ∀ k (h : k < l.length), w.cell? ⟨g, k, none⟩ = some (.string l[k])) (hoc : l.length ≤ oc) :
    l.drop k = [] ∨ ∃ b off, some (if oc = k then (⟨g, 0, none⟩ : Addr) else ⟨g, k, none⟩) = some ⟨b, off, none⟩ ∧ ∀ j (h : j < (l.drop k).length), wz.cell? ⟨b, off + j, none⟩ = some (.string (l.drop k)[j]) := by
  rcases Nat.lt_or_ge k l.length with h | h
  · refine .inr ⟨g, k, by rw [if_neg (by omega)], fun j hj => ?_⟩
    rw [List.length_drop] at hj
    have := hc (k + j) (by omega)
    rw [(hw.cells.1 _ _ (World.block_lt_of_cell? w _ this)), List.getElem_drop]
    exact this
  · exact .inl (List.drop_eq_nil_of_le h)
theorem srcS_all {w wz : World} {A : Option Addr} {B cap : Nat} {l : List ByteArray} (hw : Ext w wz) (h : l = [] ∧ A = none ∧ cap = 0 ∨ ∃ g, A = some ⟨g, 0, none⟩ ∧ B ≤ g ∧ ∀ k (h : k < l.length), w.cell? ⟨g, k, none⟩ = some (.string l[k])) :
    l = [] ∨ ∃ b off, A = some ⟨b, off, none⟩ ∧ ∀ k (h : k < l.length), wz.cell? ⟨b, off + k, none⟩ = some (.string l[k]) := by
  rcases h with h | ⟨g, h1, -, h3⟩
  · exact .inl h.1
  · refine .inr ⟨g, 0, h1, fun k hk => ?_⟩
    rw [Nat.zero_add, hw.cells.1 _ _ (World.block_lt_of_cell? w _ (h3 k hk))]
    exact h3 k hk
theorem row_baseS {B B' E sz n : Nat} {w : World} {v : Value} {xs : List Value} (ho : w.ownsRow B E sz v n xs) (h : B' ≤ B) : w.ownsRow B' E sz v n xs := by
  refine ⟨ho.1, ?_⟩
  rcases ho.2 with hn | ⟨g, cap, cur, hv, hb, hg, rest⟩
  · exact .inl hn
  · exact .inr ⟨g, cap, cur, hv, Nat.le_trans h hb, hg, rest⟩
set_option maxRecDepth 100000 in
set_option maxHeartbeats 8000000 in
theorem rshuf_any (B0 : Nat) (v : Value) (l : List ByteArray) (w : World) (hl : w.ownsRow B0 9 1 v l.length (l.flatMap celS)) (hs : ∀ s ∈ l, s.size ≤ 4000) (hn : l.length ≤ 1000) :
    Calls Try.prog 36 #[v] w fun e w' => ∃ u, e = .returned u ∧ w'.ownsRow w.heap.size 9 1 u l.length ((srtT l).flatMap celS) ∧ Ext w w' := by
  obtain ⟨A0, cap0, rfl, hlc0, hcm0, hrf0⟩ := row_formS hl
  have HS := Lib.hid hs; have HRF0 := Lib.hid hrf0; have HL := Lib.hid hl
  clear hs hl hrf0
  obtain ⟨B, hB⟩ : ∃ B, B = w.heap.size := ⟨_, rfl⟩
  rw [← hB]
  have HB := Lib.hid hB
  clear hB
  go_enter Try.func36, Try.ntmps36
  go_wp2_with (fail)
  go_loopw [3, 4] (fun u k wr => ∃ i : Nat, k = .int .i64 i ∧ i ≤ l.length ∧ Hid (wr.ownsRow B 9 1 u (srtT (l.take i)).length ((srtT (l.take i)).flatMap celS)) ∧ Hid (Ext w wr)) (fun _ k _ => l.length - (iof k).toNat)
  case atStart => exact ⟨0, rfl, Nat.zero_le _, Lib.hid (by rw [List.take_zero, show srtT ([] : List ByteArray) = [] by simp [srtT]]; exact World.ownsRow_nil _ _ _ _), Lib.hid (Ext.refl _)⟩
  case round =>
    obtain ⟨i, rfl, hi, HR, HX⟩ := hrel
    by_cases hil : i < l.length
    · obtain ⟨g0, rfl, -, hc0⟩ := HRF0.out.resolve_left (fun e => by rw [e.1] at hil; simp at hil)
      have c0 := hc0 i hil
      have hts := HS.out l[i] (List.getElem_mem _)
      have HN : Hid (l.take (i + 1) = l.take i ++ [l[i]]) := Lib.hid (List.take_succ_eq_append_getElem hil)
      have HTL : Hid (∀ y ∈ srtT (l.take i), y.size ≤ 4000) := Lib.hid (fun y hy => HS.out y (List.mem_of_mem_take ((srtT_perm _).mem_iff.1 hy)))
      have hml : (srtT (l.take i)).length = i := by rw [srtT_len, List.length_take]; omega
      have hgl0 := World.block_lt_of_cell? w _ c0
      replace c0 := (HX.out.cells.1 _ _ hgl0).trans c0
      replace hgl0 := Nat.lt_of_lt_of_le hgl0 HX.out.size
      generalize l[i] = x at *
      obtain ⟨m, hm⟩ : ∃ m, m = srtT (l.take i) := ⟨_, rfl⟩
      rw [← hm] at HR HTL hml
      have HM := Lib.hid hm
      clear hm hc0
      obtain ⟨A, cap, hu3, hlc, hcm, hrf⟩ := row_formS HR.out
      rw [hml] at hu3 hlc
      subst hu3
      have HRF := Lib.hid hrf; have HML := Lib.hid hml
      clear hrf hml
      go_upto_region 6 with (fail)
      rename World => wq0
      go_loopw [5] (fun k wr => ∃ j : Nat, k = .int .i64 j ∧ j ≤ i ∧ Hid (∀ q (_ : q < j) (hl : q < m.length), befT x m[q] = false) ∧ Hid (Ext wq0 wr)) (fun k _ => i - (iof k).toNat)
      case atStart => exact ⟨0, rfl, Nat.zero_le _, Lib.hid (fun q hq => by omega), Lib.hid (Ext.refl _)⟩
      case round =>
        obtain ⟨j, rfl, hj, HLT, HQ⟩ := hrel
        have cx := (HQ.out.cells.1 _ _ hgl0).trans c0
        have hgx := Nat.lt_of_lt_of_le hgl0 HQ.out.size
        by_cases hji : j < i
        · obtain ⟨g, rfl, -, hc⟩ := HRF.out.resolve_left (fun e => by have := HML.out; rw [e.1] at this; simp at this; omega)
          have hjm : j < m.length := by rw [HML.out]; exact hji
          have cj := (HQ.out.cells.1 _ _ (World.block_lt_of_cell? _ _ (hc j hjm))).trans (hc j hjm)
          have hgj := World.block_lt_of_cell? _ _ cj
          have HBF := Lib.hid (fun w => before_any x m[j] w hts (HTL.out _ (List.getElem_mem _)))
          generalize hbb : befT x m[j] = bb at *
          have HBB := Lib.hid hbb
          clear hbb
          have HBB2 : Hid (∀ q, q = j → ∀ hq : q < m.length, befT x m[q] = bb) := Lib.hid (by rintro q rfl hq; exact HBB.out)
          clear HBB
          generalize m[j] = y at *
          have hcapi : ¬ cap = j := by omega
          go_upto_region 6 with (fail)
          refine Rr.wp_region ((List.range 15).map (fun i => (i, .y))) (fun _ => (.cells #[] 29, Rg.ptr)) (by kernel_rfl) (by kernel_rfl) ?_
          simp only [List.range, List.range.loop, List.map_cons, List.map_nil]
          (refine Rr.wr_y (by simp only [List.getElem?_toArray, List.getElem?_cons_succ, List.getElem?_cons_zero]; rfl) (by rfl) ?_
           apply Exists.intro
           refine ⟨fun wz hw _ => ?_, ?_⟩
           · have hcz := hw.cells.1
             go_simp
             (with_reducible exact Rg.up_value)
           simp only [Act.put, List.setIfInBounds_toArray, List.set_cons_zero, List.set_cons_succ])
          (refine Rr.wr_y (by simp only [List.getElem?_toArray, List.getElem?_cons_succ, List.getElem?_cons_zero]; rfl) (by rfl) ?_
           apply Exists.intro
           refine ⟨fun wz hw _ => ?_, ?_⟩
           · have hcz := hw.cells.1
             go_simp
             (with_reducible exact Rg.up_value)
           simp only [Act.put, List.setIfInBounds_toArray, List.set_cons_zero, List.set_cons_succ])
          (refine Rr.wr_y (by simp only [List.getElem?_toArray, List.getElem?_cons_succ, List.getElem?_cons_zero]; rfl) (by rfl) ?_
           apply Exists.intro
           refine ⟨fun wz hw _ => ?_, ?_⟩
           · have hcz := hw.cells.1
             go_simp
             (with_reducible exact Rg.up_value)
           simp only [Act.put, List.setIfInBounds_toArray, List.set_cons_zero, List.set_cons_succ])
          (refine Rr.wr_y (by simp only [List.getElem?_toArray, List.getElem?_cons_succ, List.getElem?_cons_zero]; rfl) (by rfl) ?_
           apply Exists.intro
           refine ⟨fun wz hw _ => ?_, ?_⟩
           · have hcz := hw.cells.1
             go_simp
             (with_reducible exact Rg.up_value)
           simp only [Act.put, List.setIfInBounds_toArray, List.set_cons_zero, List.set_cons_succ])
          (refine Rr.wr_y (by simp only [List.getElem?_toArray, List.getElem?_cons_succ, List.getElem?_cons_zero]; rfl) (by rfl) ?_
           apply Exists.intro
           refine ⟨fun wz hw _ => ?_, ?_⟩
           · have hcz := hw.cells.1
             go_simp
             (with_reducible exact Rg.up_value)
           simp only [Act.put, List.setIfInBounds_toArray, List.set_cons_zero, List.set_cons_succ])
          (refine Rr.wr_y (by simp only [List.getElem?_toArray, List.getElem?_cons_succ, List.getElem?_cons_zero]; rfl) (by rfl) ?_
           apply Exists.intro
           refine ⟨fun wz hw _ => ?_, ?_⟩
           · have hcz := hw.cells.1
             go_simp
             (with_reducible exact Rg.up_value)
           simp only [Act.put, List.setIfInBounds_toArray, List.set_cons_zero, List.set_cons_succ])
          (refine Rr.wr_y (by simp only [List.getElem?_toArray, List.getElem?_cons_succ, List.getElem?_cons_zero]; rfl) (by rfl) ?_
           apply Exists.intro
           refine ⟨fun wz hw _ => ?_, ?_⟩
           · have hcz := hw.cells.1
             go_simp
             (with_reducible exact Rg.up_value)
           simp only [Act.put, List.setIfInBounds_toArray, List.set_cons_zero, List.set_cons_succ])
          (refine Rr.wr_y (by simp only [List.getElem?_toArray, List.getElem?_cons_succ, List.getElem?_cons_zero]; rfl) (by rfl) ?_
           apply Exists.intro
           refine ⟨fun wz hw _ => ?_, ?_⟩
           · have hcz := hw.cells.1
             go_simp
             (with_reducible exact Rg.up_value)
           simp only [Act.put, List.setIfInBounds_toArray, List.set_cons_zero, List.set_cons_succ])
          (refine Rr.wr_y (by simp only [List.getElem?_toArray, List.getElem?_cons_succ, List.getElem?_cons_zero]; rfl) (by rfl) ?_
           apply Exists.intro
           refine ⟨fun wz hw _ => ?_, ?_⟩
           · have hcz := hw.cells.1
             go_simp
             (with_reducible exact Rg.up_value)
           simp only [Act.put, List.setIfInBounds_toArray, List.set_cons_zero, List.set_cons_succ])
          (refine Rr.wr_y (by simp only [List.getElem?_toArray, List.getElem?_cons_succ, List.getElem?_cons_zero]; rfl) (by rfl) ?_
           apply Exists.intro
           refine ⟨fun wz hw _ => ?_, ?_⟩
           · have hcz := hw.cells.1
             go_simp
             (with_reducible exact Rg.up_value)
           simp only [Act.put, List.setIfInBounds_toArray, List.set_cons_zero, List.set_cons_succ])
          (refine Rr.wr_y (by simp only [List.getElem?_toArray, List.getElem?_cons_succ, List.getElem?_cons_zero]; rfl) (by rfl) ?_
           apply Exists.intro
           refine ⟨fun wz hw _ => ?_, ?_⟩
           · have hcz := hw.cells.1
             go_simp
             (with_reducible exact Rg.up_value)
           simp only [Act.put, List.setIfInBounds_toArray, List.set_cons_zero, List.set_cons_succ])
          (refine Rr.wr_y (by simp only [List.getElem?_toArray, List.getElem?_cons_succ, List.getElem?_cons_zero]; rfl) (by rfl) ?_
           apply Exists.intro
           refine ⟨fun wz hw _ => ?_, ?_⟩
           · have hcz := hw.cells.1
             go_simp
             (with_reducible exact Rg.up_value)
           simp only [Act.put, List.setIfInBounds_toArray, List.set_cons_zero, List.set_cons_succ])
          (refine Rr.wr_y (by simp only [List.getElem?_toArray, List.getElem?_cons_succ, List.getElem?_cons_zero]; rfl) (by rfl) ?_
           apply Exists.intro
           refine ⟨fun wz hw _ => ?_, ?_⟩
           · have hcz := hw.cells.1
             go_simp
             (with_reducible exact Rg.up_value)
           simp only [Act.put, List.setIfInBounds_toArray, List.set_cons_zero, List.set_cons_succ])
          (refine Rr.wr_y (by simp only [List.getElem?_toArray, List.getElem?_cons_succ, List.getElem?_cons_zero]; rfl) (by rfl) ?_
           apply Exists.intro
           refine ⟨fun wz hw _ => ?_, ?_⟩
           · have hcz := hw.cells.1
             go_simp
             apply Rg.up_enter
             (with_reducible refine (HBF.out _).mono ?_)
             rintro e w3 ⟨rfl, hb3⟩
             exact ⟨rfl, hb3⟩
           simp only [Act.put, List.setIfInBounds_toArray, List.set_cons_zero, List.set_cons_succ])
          (refine Rr.wr_y (by simp only [List.getElem?_toArray, List.getElem?_cons_succ, List.getElem?_cons_zero]; rfl) (by rfl) ?_
           apply Exists.intro
           refine ⟨fun wz hw _ => ?_, ?_⟩
           · have hcz := hw.cells.1
             go_simp
             (with_reducible exact Rg.up_value)
           simp only [Act.put, List.setIfInBounds_toArray, List.set_cons_zero, List.set_cons_succ])
          refine Rr.wr_nil ?_
          intro wy hy hh
          simp only [List.length_cons, List.length_nil, List.drop_succ_cons, List.drop_zero, Nat.reduceAdd]
          clear hh
          have HXB := Lib.hid (HQ.out.trans hy)
          have HC := Lib.hid hc
          replace cx := (hy.cells.1 _ _ hgx).trans cx
          replace hgx := Nat.lt_of_lt_of_le hgx hy.size
          clear cj hgj hy hc HQ
          cases bb with
          | false =>
            have HLT2 : Hid (∀ q (_ : q < j + 1) (hl : q < m.length), befT x m[q] = false) := Lib.hid (fun q hq hl => by
              rcases Nat.lt_or_ge q j with h | h
              · exact HLT.out q h hl
              · obtain rfl : q = j := by omega
                exact HBB2.out _ rfl hl)
            go_wp2_with (fail)
            exact ⟨⟨j + 1, by simp, by omega, HLT2, HXB⟩, by simp [iof]; omega⟩
          | true =>
            have HAT : Hid (srtT (l.take (i + 1)) = m.take j ++ x :: m.drop j) := Lib.hid (by
              rw [HN.out]
              exact srtT_ins HM.out (by rw [HML.out]; omega) HLT.out (fun h => HBB2.out _ rfl h))
            have HLEN1 : Hid ((m.take j).length = j) := Lib.hid (by rw [List.length_take, HML.out]; omega)
            have HLEN2 : Hid ((m.drop j).length = (i - j)) := Lib.hid (by rw [List.length_drop, HML.out]; try omega)
            go_upto_region 8 with (fail)
            refine Rr.wp_region [(0, .y), (1, .y), (2, .y), (3, .y), (5, .y), (6, .y), (7, .y), (4, .m)] (fun _ => (.cells #[.string x] 9, fun p => .slice (some ⟨p, 0, none⟩) 1 1)) (by kernel_rfl) (by kernel_rfl) ?_
            (refine Rr.wr_y (by simp only [List.getElem?_toArray, List.getElem?_cons_succ, List.getElem?_cons_zero]; rfl) (by rfl) ?_
             apply Exists.intro
             refine ⟨fun wz hw _ => ?_, ?_⟩
             · have hcz := hw.cells.1
               go_simp
               (with_reducible exact Rg.up_value)
             simp only [Act.put, List.setIfInBounds_toArray, List.set_cons_zero, List.set_cons_succ])
            (refine Rr.wr_y (by simp only [List.getElem?_toArray, List.getElem?_cons_succ, List.getElem?_cons_zero]; rfl) (by rfl) ?_
             apply Exists.intro
             refine ⟨fun wz hw _ => ?_, ?_⟩
             · have hcz := hw.cells.1
               go_simp
               (with_reducible exact Rg.up_value)
             simp only [Act.put, List.setIfInBounds_toArray, List.set_cons_zero, List.set_cons_succ])
            (refine Rr.wr_y (by simp only [List.getElem?_toArray, List.getElem?_cons_succ, List.getElem?_cons_zero]; rfl) (by rfl) ?_
             apply Exists.intro
             refine ⟨fun wz hw _ => ?_, ?_⟩
             · have hcz := hw.cells.1
               go_simp
               (with_reducible exact Rg.up_value)
             simp only [Act.put, List.setIfInBounds_toArray, List.set_cons_zero, List.set_cons_succ])
            (refine Rr.wr_y (by simp only [List.getElem?_toArray, List.getElem?_cons_succ, List.getElem?_cons_zero]; rfl) (by rfl) ?_
             apply Exists.intro
             refine ⟨fun wz hw _ => ?_, ?_⟩
             · have hcz := hw.cells.1
               go_simp
               (with_reducible exact Rg.up_value)
             simp only [Act.put, List.setIfInBounds_toArray, List.set_cons_zero, List.set_cons_succ])
            (refine Rr.wr_y (by simp only [List.getElem?_toArray, List.getElem?_cons_succ, List.getElem?_cons_zero]; rfl) (by rfl) ?_
             apply Exists.intro
             refine ⟨fun wz hw _ => ?_, ?_⟩
             · have hcz := hw.cells.1
               go_simp
               (with_reducible exact Rg.up_value)
             simp only [Act.put, List.setIfInBounds_toArray, List.set_cons_zero, List.set_cons_succ])
            (refine Rr.wr_y (by simp only [List.getElem?_toArray, List.getElem?_cons_succ, List.getElem?_cons_zero]; rfl) (by rfl) ?_
             apply Exists.intro
             refine ⟨fun wz hw _ => ?_, ?_⟩
             · have hcz := hw.cells.1
               go_simp
               (with_reducible exact Rg.up_value)
             simp only [Act.put, List.setIfInBounds_toArray, List.set_cons_zero, List.set_cons_succ])
            (refine Rr.wr_y (by simp only [List.getElem?_toArray, List.getElem?_cons_succ, List.getElem?_cons_zero]; rfl) (by rfl) ?_
             apply Exists.intro
             refine ⟨fun wz hw _ => ?_, ?_⟩
             · have hcz := hw.cells.1
               go_simp
               (with_reducible exact Rg.up_value)
             simp only [Act.put, List.setIfInBounds_toArray, List.set_cons_zero, List.set_cons_succ])
            refine Rr.wr_m (by simp only [List.getElem?_toArray, List.getElem?_cons_succ, List.getElem?_cons_zero]; rfl) (by rfl) (fun wz => by go_simp) (fun pm hpm => ?_)
            simp only [Act.put, List.setIfInBounds_toArray, List.set_cons_zero, List.set_cons_succ]
            refine Rr.wr_nil ?_
            intro wz hz hh
            obtain ⟨hpm1, hpm2⟩ := hh _ List.mem_cons_self
            simp only [List.length_cons, List.length_nil, List.drop_succ_cons, List.drop_zero, Nat.reduceAdd]
            have HOWN : Hid (wz.ownsRow wy.heap.size 9 1 (.slice (some ⟨pm, 0, none⟩) 1 1) [x].length ([x].flatMap celS)) := Lib.hid ⟨rfl, .inr ⟨pm, 1, #[.string x], rfl, hpm1, hpm2, Nat.le_refl _, by unfold maxLen; omega, rfl, rfl⟩⟩
            have HXZ := Lib.hid hz
            clear hh hpm1 hpm2 hz cx hgx
            refine append_anyS rfl (.tmp 35) (.tmp 38) rfl wy.heap.size (.slice (some ⟨pm, 0, none⟩) 1 1) [x] (by rfl) HOWN.out (some ⟨g, j, none⟩) (cap - j) (m.drop j) (by rw [HLEN2.out]; rfl) (by have hs := srcS_drop (k := j) (HXB.out.trans HXZ.out) HC.out (by rw [HML.out]; exact hlc); rw [if_neg hcapi] at hs; exact hs) (by have := HLEN2.out; have h1 : [x].length = 1 := rfl; omega) HXZ.out.size ?_
            intro v1 wA hrA hgA hsA hnA
            have HXA : Hid (Ext wy wA) := Lib.hid (grown_ext HXZ.out HOWN.out (Nat.le_refl _) hgA)
            obtain ⟨rl, hrl⟩ : ∃ rl, rl = [x] ++ m.drop j := ⟨_, rfl⟩
            rw [← hrl] at hrA
            have HRL2 : Hid (rl.length = (i - j) + 1) := Lib.hid (by have h2 := HLEN2.out; have h1 : [x].length = 1 := rfl; rw [hrl, List.length_append]; omega)
            have HRL := Lib.hid hrl
            obtain ⟨A3, c3, hv1, hle3, hcm3, hrf3⟩ := row_formS hrA
            subst hv1
            have HRF3 := Lib.hid hrf3
            clear hrA hgA hsA hnA hrf3 hle3 hrl
            simp only [Act.put, List.setIfInBounds_toArray, List.set_cons_zero, List.set_cons_succ]
            go_upto_region 9 with (fail)
            have HOWN0 : Hid ((wA.alloc (.cells #[] 9)).ownsRow wA.heap.size 9 1 (.slice (some ⟨wA.heap.size, 0, none⟩) 0 0) 0 []) := Lib.hid ⟨rfl, .inr ⟨wA.heap.size, 0, #[], rfl, Nat.le_refl _, World.alloc_heap_new wA _, by simp, by simp, rfl, rfl⟩⟩
            have HXC := Lib.hid (Ext.alloc (Ext.refl wA) (.cells #[] 9))
            go_wp2_with (first
              | (at_builtin; (refine append_anyS rfl (.tmp 40) (.tmp 43) rfl wA.heap.size (.slice (some ⟨wA.heap.size, 0, none⟩) 0 0) [] (by rfl) HOWN0.out (some ⟨g, 0, none⟩) cap (m.take j) (by rw [HLEN1.out]; rfl) (srcS_take (HXB.out.trans (HXA.out.trans HXC.out)) HC.out) (by have := HLEN1.out; have h1 : ([] : List ByteArray).length = 0 := rfl; omega) HXC.out.size ?_; intro v2 wB hrB hgB hsB hnB; have HXB2 : Hid (Ext wA wB) := Lib.hid (grown_ext HXC.out HOWN0.out (Nat.le_refl _) hgB); have HRB : Hid (wB.ownsRow wA.heap.size 9 1 v2 (m.take j).length ((m.take j).flatMap celS)) := Lib.hid hrB; clear hrB hgB hsB hnB))
              | (at_builtin; (refine append_anyS rfl (.tmp 44) (.tmp 45) rfl wA.heap.size v2 (m.take j) (by rfl) HRB.out A3 c3 rl (by rfl) (srcS_all HXB2.out HRF3.out) (by have := HLEN1.out; have := HRL2.out; omega) HXB2.out.size ?_; intro v3 wC hrC hgC hsC hnC)))
            refine ⟨⟨i + 1, by simp, by omega, Lib.hid ?_, Lib.hid (HX.out.trans (HXB.out.trans (HXA.out.trans (grown_ext HXB2.out HRB.out (Nat.le_refl _) hgC))))⟩, by simp [iof]; omega⟩
            rw [HAT.out]
            have hrC2 := row_baseS hrC (show B ≤ wA.heap.size by have := HB.out; have := HX.out.size; have := HXB.out.size; have := HXA.out.size; omega)
            rw [HRL.out] at hrC2
            exact hrC2
        · obtain rfl : j = i := by omega
          go_upto_region 6 with (fail)
          refine Rr.wp_region ((List.range 15).map (fun i => (i, .y))) (fun _ => (.cells #[] 29, Rg.ptr)) (by kernel_rfl) (by kernel_rfl) ?_
          simp only [List.range, List.range.loop, List.map_cons, List.map_nil]
          (refine Rr.wr_y (by simp only [List.getElem?_toArray, List.getElem?_cons_succ, List.getElem?_cons_zero]; rfl) (by rfl) ?_
           apply Exists.intro
           refine ⟨fun wz hw _ => ?_, ?_⟩
           · have hcz := hw.cells.1
             go_simp
             (with_reducible exact Rg.up_value)
           simp only [Act.put, List.setIfInBounds_toArray, List.set_cons_zero, List.set_cons_succ])
          (refine Rr.wr_y (by simp only [List.getElem?_toArray, List.getElem?_cons_succ, List.getElem?_cons_zero]; rfl) (by rfl) ?_
           apply Exists.intro
           refine ⟨fun wz hw _ => ?_, ?_⟩
           · have hcz := hw.cells.1
             go_simp
             (with_reducible exact Rg.up_value)
           simp only [Act.put, List.setIfInBounds_toArray, List.set_cons_zero, List.set_cons_succ])
          (refine Rr.wr_y (by simp only [List.getElem?_toArray, List.getElem?_cons_succ, List.getElem?_cons_zero]; rfl) (by rfl) ?_
           apply Exists.intro
           refine ⟨fun wz hw _ => ?_, ?_⟩
           · have hcz := hw.cells.1
             go_simp
             (with_reducible exact Rg.up_value)
           simp only [Act.put, List.setIfInBounds_toArray, List.set_cons_zero, List.set_cons_succ])
          (refine Rr.wr_y (by simp only [List.getElem?_toArray, List.getElem?_cons_succ, List.getElem?_cons_zero]; rfl) (by rfl) ?_
           apply Exists.intro
           refine ⟨fun wz hw _ => ?_, ?_⟩
           · have hcz := hw.cells.1
             go_simp
             (with_reducible exact Rg.up_value)
           simp only [Act.put, List.setIfInBounds_toArray, List.set_cons_zero, List.set_cons_succ])
          (refine Rr.wr_y (by simp only [List.getElem?_toArray, List.getElem?_cons_succ, List.getElem?_cons_zero]; rfl) (by rfl) ?_
           apply Exists.intro
           refine ⟨fun wz hw _ => ?_, ?_⟩
           · have hcz := hw.cells.1
             go_simp
             (with_reducible exact Rg.up_value)
           simp only [Act.put, List.setIfInBounds_toArray, List.set_cons_zero, List.set_cons_succ])
          refine Rr.wr_skip (by simp only [List.getElem?_toArray, List.getElem?_cons_succ, List.getElem?_cons_zero]; rfl) (by rfl) ?_
          simp only [Act.put, List.setIfInBounds_toArray, List.set_cons_zero, List.set_cons_succ]
          refine Rr.wr_skip (by simp only [List.getElem?_toArray, List.getElem?_cons_succ, List.getElem?_cons_zero]; rfl) (by rfl) ?_
          simp only [Act.put, List.setIfInBounds_toArray, List.set_cons_zero, List.set_cons_succ]
          refine Rr.wr_skip (by simp only [List.getElem?_toArray, List.getElem?_cons_succ, List.getElem?_cons_zero]; rfl) (by rfl) ?_
          simp only [Act.put, List.setIfInBounds_toArray, List.set_cons_zero, List.set_cons_succ]
          refine Rr.wr_skip (by simp only [List.getElem?_toArray, List.getElem?_cons_succ, List.getElem?_cons_zero]; rfl) (by rfl) ?_
          simp only [Act.put, List.setIfInBounds_toArray, List.set_cons_zero, List.set_cons_succ]
          refine Rr.wr_skip (by simp only [List.getElem?_toArray, List.getElem?_cons_succ, List.getElem?_cons_zero]; rfl) (by rfl) ?_
          simp only [Act.put, List.setIfInBounds_toArray, List.set_cons_zero, List.set_cons_succ]
          refine Rr.wr_skip (by simp only [List.getElem?_toArray, List.getElem?_cons_succ, List.getElem?_cons_zero]; rfl) (by rfl) ?_
          simp only [Act.put, List.setIfInBounds_toArray, List.set_cons_zero, List.set_cons_succ]
          refine Rr.wr_skip (by simp only [List.getElem?_toArray, List.getElem?_cons_succ, List.getElem?_cons_zero]; rfl) (by rfl) ?_
          simp only [Act.put, List.setIfInBounds_toArray, List.set_cons_zero, List.set_cons_succ]
          refine Rr.wr_skip (by simp only [List.getElem?_toArray, List.getElem?_cons_succ, List.getElem?_cons_zero]; rfl) (by rfl) ?_
          simp only [Act.put, List.setIfInBounds_toArray, List.set_cons_zero, List.set_cons_succ]
          refine Rr.wr_skip (by simp only [List.getElem?_toArray, List.getElem?_cons_succ, List.getElem?_cons_zero]; rfl) (by rfl) ?_
          simp only [Act.put, List.setIfInBounds_toArray, List.set_cons_zero, List.set_cons_succ]
          refine Rr.wr_skip (by simp only [List.getElem?_toArray, List.getElem?_cons_succ, List.getElem?_cons_zero]; rfl) (by rfl) ?_
          simp only [Act.put, List.setIfInBounds_toArray, List.set_cons_zero, List.set_cons_succ]
          refine Rr.wr_nil ?_
          intro wy hy hh
          simp only [List.length_cons, List.length_nil, List.drop_succ_cons, List.drop_zero, Nat.reduceAdd]
          clear hh
          have HXB := Lib.hid (HQ.out.trans hy)
          replace cx := (hy.cells.1 _ _ hgx).trans cx
          replace hgx := Nat.lt_of_lt_of_le hgx hy.size
          clear hy HQ
          have HAT : Hid (srtT (l.take (j + 1)) = m.take j ++ x :: m.drop j) := Lib.hid (by
            rw [HN.out]
            exact srtT_ins HM.out (by rw [HML.out]; omega) HLT.out (fun h => by rw [HML.out] at h; omega))
          rcases HRF.out with ⟨hl0, rfl, hcap0⟩ | ⟨g, rfl, hgw, hc⟩
          · have HL0 := Lib.hid hl0
            subst hcap0
            clear hl0
            obtain rfl : j = 0 := by omega
            have HLEN1 : Hid ((m.take 0).length = 0) := Lib.hid (by rw [List.length_take, HML.out]; omega)
            have HLEN2 : Hid ((m.drop 0).length = 0) := Lib.hid (by rw [List.length_drop, HML.out]; try omega)
            go_upto_region 8 with (fail)
            refine Rr.wp_region [(0, .y), (1, .y), (2, .y), (3, .y), (5, .y), (6, .y), (7, .y), (4, .m)] (fun _ => (.cells #[.string x] 9, fun p => .slice (some ⟨p, 0, none⟩) 1 1)) (by kernel_rfl) (by kernel_rfl) ?_
            (refine Rr.wr_y (by simp only [List.getElem?_toArray, List.getElem?_cons_succ, List.getElem?_cons_zero]; rfl) (by rfl) ?_
             apply Exists.intro
             refine ⟨fun wz hw _ => ?_, ?_⟩
             · have hcz := hw.cells.1
               go_simp
               (with_reducible exact Rg.up_value)
             simp only [Act.put, List.setIfInBounds_toArray, List.set_cons_zero, List.set_cons_succ])
            (refine Rr.wr_y (by simp only [List.getElem?_toArray, List.getElem?_cons_succ, List.getElem?_cons_zero]; rfl) (by rfl) ?_
             apply Exists.intro
             refine ⟨fun wz hw _ => ?_, ?_⟩
             · have hcz := hw.cells.1
               go_simp
               (with_reducible exact Rg.up_value)
             simp only [Act.put, List.setIfInBounds_toArray, List.set_cons_zero, List.set_cons_succ])
            (refine Rr.wr_y (by simp only [List.getElem?_toArray, List.getElem?_cons_succ, List.getElem?_cons_zero]; rfl) (by rfl) ?_
             apply Exists.intro
             refine ⟨fun wz hw _ => ?_, ?_⟩
             · have hcz := hw.cells.1
               go_simp
               (with_reducible exact Rg.up_value)
             simp only [Act.put, List.setIfInBounds_toArray, List.set_cons_zero, List.set_cons_succ])
            (refine Rr.wr_y (by simp only [List.getElem?_toArray, List.getElem?_cons_succ, List.getElem?_cons_zero]; rfl) (by rfl) ?_
             apply Exists.intro
             refine ⟨fun wz hw _ => ?_, ?_⟩
             · have hcz := hw.cells.1
               go_simp
               (with_reducible exact Rg.up_value)
             simp only [Act.put, List.setIfInBounds_toArray, List.set_cons_zero, List.set_cons_succ])
            (refine Rr.wr_y (by simp only [List.getElem?_toArray, List.getElem?_cons_succ, List.getElem?_cons_zero]; rfl) (by rfl) ?_
             apply Exists.intro
             refine ⟨fun wz hw _ => ?_, ?_⟩
             · have hcz := hw.cells.1
               go_simp
               (with_reducible exact Rg.up_value)
             simp only [Act.put, List.setIfInBounds_toArray, List.set_cons_zero, List.set_cons_succ])
            (refine Rr.wr_y (by simp only [List.getElem?_toArray, List.getElem?_cons_succ, List.getElem?_cons_zero]; rfl) (by rfl) ?_
             apply Exists.intro
             refine ⟨fun wz hw _ => ?_, ?_⟩
             · have hcz := hw.cells.1
               go_simp
               (with_reducible exact Rg.up_value)
             simp only [Act.put, List.setIfInBounds_toArray, List.set_cons_zero, List.set_cons_succ])
            (refine Rr.wr_y (by simp only [List.getElem?_toArray, List.getElem?_cons_succ, List.getElem?_cons_zero]; rfl) (by rfl) ?_
             apply Exists.intro
             refine ⟨fun wz hw _ => ?_, ?_⟩
             · have hcz := hw.cells.1
               go_simp
               (with_reducible exact Rg.up_value)
             simp only [Act.put, List.setIfInBounds_toArray, List.set_cons_zero, List.set_cons_succ])
            refine Rr.wr_m (by simp only [List.getElem?_toArray, List.getElem?_cons_succ, List.getElem?_cons_zero]; rfl) (by rfl) (fun wz => by go_simp) (fun pm hpm => ?_)
            simp only [Act.put, List.setIfInBounds_toArray, List.set_cons_zero, List.set_cons_succ]
            refine Rr.wr_nil ?_
            intro wz hz hh
            obtain ⟨hpm1, hpm2⟩ := hh _ List.mem_cons_self
            simp only [List.length_cons, List.length_nil, List.drop_succ_cons, List.drop_zero, Nat.reduceAdd]
            have HOWN : Hid (wz.ownsRow wy.heap.size 9 1 (.slice (some ⟨pm, 0, none⟩) 1 1) [x].length ([x].flatMap celS)) := Lib.hid ⟨rfl, .inr ⟨pm, 1, #[.string x], rfl, hpm1, hpm2, Nat.le_refl _, by unfold maxLen; omega, rfl, rfl⟩⟩
            have HXZ := Lib.hid hz
            clear hh hpm1 hpm2 hz cx hgx
            refine append_anyS rfl (.tmp 35) (.tmp 38) rfl wy.heap.size (.slice (some ⟨pm, 0, none⟩) 1 1) [x] (by rfl) HOWN.out none _ (m.drop 0) (by rw [HLEN2.out]; rfl) (.inl (by rw [HL0.out]; exact List.drop_nil)) (by have := HLEN2.out; have h1 : [x].length = 1 := rfl; omega) HXZ.out.size ?_
            intro v1 wA hrA hgA hsA hnA
            have HXA : Hid (Ext wy wA) := Lib.hid (grown_ext HXZ.out HOWN.out (Nat.le_refl _) hgA)
            obtain ⟨rl, hrl⟩ : ∃ rl, rl = [x] ++ m.drop 0 := ⟨_, rfl⟩
            rw [← hrl] at hrA
            have HRL2 : Hid (rl.length = 0 + 1) := Lib.hid (by have h2 := HLEN2.out; have h1 : [x].length = 1 := rfl; rw [hrl, List.length_append]; omega)
            have HRL := Lib.hid hrl
            obtain ⟨A3, c3, hv1, hle3, hcm3, hrf3⟩ := row_formS hrA
            subst hv1
            have HRF3 := Lib.hid hrf3
            clear hrA hgA hsA hnA hrf3 hle3 hrl
            simp only [Act.put, List.setIfInBounds_toArray, List.set_cons_zero, List.set_cons_succ]
            go_upto_region 9 with (fail)
            have HOWN0 : Hid ((wA.alloc (.cells #[] 9)).ownsRow wA.heap.size 9 1 (.slice (some ⟨wA.heap.size, 0, none⟩) 0 0) 0 []) := Lib.hid ⟨rfl, .inr ⟨wA.heap.size, 0, #[], rfl, Nat.le_refl _, World.alloc_heap_new wA _, by simp, by simp, rfl, rfl⟩⟩
            have HXC := Lib.hid (Ext.alloc (Ext.refl wA) (.cells #[] 9))
            go_wp2_with (first
              | (at_builtin; (refine append_anyS rfl (.tmp 40) (.tmp 43) rfl wA.heap.size (.slice (some ⟨wA.heap.size, 0, none⟩) 0 0) [] (by rfl) HOWN0.out none _ (m.take 0) (by rw [HLEN1.out]; rfl) (.inl (by rw [HL0.out]; exact List.take_nil)) (by have := HLEN1.out; have h1 : ([] : List ByteArray).length = 0 := rfl; omega) HXC.out.size ?_; intro v2 wB hrB hgB hsB hnB; have HXB2 : Hid (Ext wA wB) := Lib.hid (grown_ext HXC.out HOWN0.out (Nat.le_refl _) hgB); have HRB : Hid (wB.ownsRow wA.heap.size 9 1 v2 (m.take 0).length ((m.take 0).flatMap celS)) := Lib.hid hrB; clear hrB hgB hsB hnB))
              | (at_builtin; (refine append_anyS rfl (.tmp 44) (.tmp 45) rfl wA.heap.size v2 (m.take 0) (by rfl) HRB.out A3 c3 rl (by rfl) (srcS_all HXB2.out HRF3.out) (by have := HLEN1.out; have := HRL2.out; omega) HXB2.out.size ?_; intro v3 wC hrC hgC hsC hnC)))
            refine ⟨⟨0 + 1, by simp, by omega, Lib.hid ?_, Lib.hid (HX.out.trans (HXB.out.trans (HXA.out.trans (grown_ext HXB2.out HRB.out (Nat.le_refl _) hgC))))⟩, by simp [iof]; omega⟩
            rw [HAT.out]
            have hrC2 := row_baseS hrC (show B ≤ wA.heap.size by have := HB.out; have := HX.out.size; have := HXB.out.size; have := HXA.out.size; omega)
            rw [HRL.out] at hrC2
            exact hrC2
          · have HC := Lib.hid hc
            clear hc
            by_cases hcapi : cap = j
            · subst hcapi
              have HLEN1 : Hid ((m.take cap).length = cap) := Lib.hid (by rw [List.length_take, HML.out]; omega)
              have HLEN2 : Hid ((m.drop cap).length = 0) := Lib.hid (by rw [List.length_drop, HML.out]; try omega)
              go_upto_region 8 with (fail)
              refine Rr.wp_region [(0, .y), (1, .y), (2, .y), (3, .y), (5, .y), (6, .y), (7, .y), (4, .m)] (fun _ => (.cells #[.string x] 9, fun p => .slice (some ⟨p, 0, none⟩) 1 1)) (by kernel_rfl) (by kernel_rfl) ?_
              (refine Rr.wr_y (by simp only [List.getElem?_toArray, List.getElem?_cons_succ, List.getElem?_cons_zero]; rfl) (by rfl) ?_
               apply Exists.intro
               refine ⟨fun wz hw _ => ?_, ?_⟩
               · have hcz := hw.cells.1
                 go_simp
                 (with_reducible exact Rg.up_value)
               simp only [Act.put, List.setIfInBounds_toArray, List.set_cons_zero, List.set_cons_succ])
              (refine Rr.wr_y (by simp only [List.getElem?_toArray, List.getElem?_cons_succ, List.getElem?_cons_zero]; rfl) (by rfl) ?_
               apply Exists.intro
               refine ⟨fun wz hw _ => ?_, ?_⟩
               · have hcz := hw.cells.1
                 go_simp
                 (with_reducible exact Rg.up_value)
               simp only [Act.put, List.setIfInBounds_toArray, List.set_cons_zero, List.set_cons_succ])
              (refine Rr.wr_y (by simp only [List.getElem?_toArray, List.getElem?_cons_succ, List.getElem?_cons_zero]; rfl) (by rfl) ?_
               apply Exists.intro
               refine ⟨fun wz hw _ => ?_, ?_⟩
               · have hcz := hw.cells.1
                 go_simp
                 (with_reducible exact Rg.up_value)
               simp only [Act.put, List.setIfInBounds_toArray, List.set_cons_zero, List.set_cons_succ])
              (refine Rr.wr_y (by simp only [List.getElem?_toArray, List.getElem?_cons_succ, List.getElem?_cons_zero]; rfl) (by rfl) ?_
               apply Exists.intro
               refine ⟨fun wz hw _ => ?_, ?_⟩
               · have hcz := hw.cells.1
                 go_simp
                 (with_reducible exact Rg.up_value)
               simp only [Act.put, List.setIfInBounds_toArray, List.set_cons_zero, List.set_cons_succ])
              (refine Rr.wr_y (by simp only [List.getElem?_toArray, List.getElem?_cons_succ, List.getElem?_cons_zero]; rfl) (by rfl) ?_
               apply Exists.intro
               refine ⟨fun wz hw _ => ?_, ?_⟩
               · have hcz := hw.cells.1
                 go_simp
                 (with_reducible exact Rg.up_value)
               simp only [Act.put, List.setIfInBounds_toArray, List.set_cons_zero, List.set_cons_succ])
              (refine Rr.wr_y (by simp only [List.getElem?_toArray, List.getElem?_cons_succ, List.getElem?_cons_zero]; rfl) (by rfl) ?_
               apply Exists.intro
               refine ⟨fun wz hw _ => ?_, ?_⟩
               · have hcz := hw.cells.1
                 go_simp
                 (with_reducible exact Rg.up_value)
               simp only [Act.put, List.setIfInBounds_toArray, List.set_cons_zero, List.set_cons_succ])
              (refine Rr.wr_y (by simp only [List.getElem?_toArray, List.getElem?_cons_succ, List.getElem?_cons_zero]; rfl) (by rfl) ?_
               apply Exists.intro
               refine ⟨fun wz hw _ => ?_, ?_⟩
               · have hcz := hw.cells.1
                 go_simp
                 (with_reducible exact Rg.up_value)
               simp only [Act.put, List.setIfInBounds_toArray, List.set_cons_zero, List.set_cons_succ])
              refine Rr.wr_m (by simp only [List.getElem?_toArray, List.getElem?_cons_succ, List.getElem?_cons_zero]; rfl) (by rfl) (fun wz => by go_simp) (fun pm hpm => ?_)
              simp only [Act.put, List.setIfInBounds_toArray, List.set_cons_zero, List.set_cons_succ]
              refine Rr.wr_nil ?_
              intro wz hz hh
              obtain ⟨hpm1, hpm2⟩ := hh _ List.mem_cons_self
              simp only [List.length_cons, List.length_nil, List.drop_succ_cons, List.drop_zero, Nat.reduceAdd]
              have HOWN : Hid (wz.ownsRow wy.heap.size 9 1 (.slice (some ⟨pm, 0, none⟩) 1 1) [x].length ([x].flatMap celS)) := Lib.hid ⟨rfl, .inr ⟨pm, 1, #[.string x], rfl, hpm1, hpm2, Nat.le_refl _, by unfold maxLen; omega, rfl, rfl⟩⟩
              have HXZ := Lib.hid hz
              clear hh hpm1 hpm2 hz cx hgx
              refine append_anyS rfl (.tmp 35) (.tmp 38) rfl wy.heap.size (.slice (some ⟨pm, 0, none⟩) 1 1) [x] (by rfl) HOWN.out (some ⟨g, 0, none⟩) _ (m.drop cap) (by rw [HLEN2.out]; rfl) (.inl (List.drop_eq_nil_of_le (by rw [HML.out]; exact Nat.le_refl _))) (by have := HLEN2.out; have h1 : [x].length = 1 := rfl; omega) HXZ.out.size ?_
              intro v1 wA hrA hgA hsA hnA
              have HXA : Hid (Ext wy wA) := Lib.hid (grown_ext HXZ.out HOWN.out (Nat.le_refl _) hgA)
              obtain ⟨rl, hrl⟩ : ∃ rl, rl = [x] ++ m.drop cap := ⟨_, rfl⟩
              rw [← hrl] at hrA
              have HRL2 : Hid (rl.length = 0 + 1) := Lib.hid (by have h2 := HLEN2.out; have h1 : [x].length = 1 := rfl; rw [hrl, List.length_append]; omega)
              have HRL := Lib.hid hrl
              obtain ⟨A3, c3, hv1, hle3, hcm3, hrf3⟩ := row_formS hrA
              subst hv1
              have HRF3 := Lib.hid hrf3
              clear hrA hgA hsA hnA hrf3 hle3 hrl
              simp only [Act.put, List.setIfInBounds_toArray, List.set_cons_zero, List.set_cons_succ]
              go_upto_region 9 with (fail)
              have HOWN0 : Hid ((wA.alloc (.cells #[] 9)).ownsRow wA.heap.size 9 1 (.slice (some ⟨wA.heap.size, 0, none⟩) 0 0) 0 []) := Lib.hid ⟨rfl, .inr ⟨wA.heap.size, 0, #[], rfl, Nat.le_refl _, World.alloc_heap_new wA _, by simp, by simp, rfl, rfl⟩⟩
              have HXC := Lib.hid (Ext.alloc (Ext.refl wA) (.cells #[] 9))
              go_wp2_with (first
                | (at_builtin; (refine append_anyS rfl (.tmp 40) (.tmp 43) rfl wA.heap.size (.slice (some ⟨wA.heap.size, 0, none⟩) 0 0) [] (by rfl) HOWN0.out (some ⟨g, 0, none⟩) _ (m.take cap) (by rw [HLEN1.out]; rfl) (srcS_take (HXB.out.trans (HXA.out.trans HXC.out)) HC.out) (by have := HLEN1.out; have h1 : ([] : List ByteArray).length = 0 := rfl; omega) HXC.out.size ?_; intro v2 wB hrB hgB hsB hnB; have HXB2 : Hid (Ext wA wB) := Lib.hid (grown_ext HXC.out HOWN0.out (Nat.le_refl _) hgB); have HRB : Hid (wB.ownsRow wA.heap.size 9 1 v2 (m.take cap).length ((m.take cap).flatMap celS)) := Lib.hid hrB; clear hrB hgB hsB hnB))
                | (at_builtin; (refine append_anyS rfl (.tmp 44) (.tmp 45) rfl wA.heap.size v2 (m.take cap) (by rfl) HRB.out A3 c3 rl (by rfl) (srcS_all HXB2.out HRF3.out) (by have := HLEN1.out; have := HRL2.out; omega) HXB2.out.size ?_; intro v3 wC hrC hgC hsC hnC)))
              refine ⟨⟨cap + 1, by simp, by omega, Lib.hid ?_, Lib.hid (HX.out.trans (HXB.out.trans (HXA.out.trans (grown_ext HXB2.out HRB.out (Nat.le_refl _) hgC))))⟩, by simp [iof]; omega⟩
              rw [HAT.out]
              have hrC2 := row_baseS hrC (show B ≤ wA.heap.size by have := HB.out; have := HX.out.size; have := HXB.out.size; have := HXA.out.size; omega)
              rw [HRL.out] at hrC2
              exact hrC2
            · skip
              have HLEN1 : Hid ((m.take j).length = j) := Lib.hid (by rw [List.length_take, HML.out]; omega)
              have HLEN2 : Hid ((m.drop j).length = 0) := Lib.hid (by rw [List.length_drop, HML.out]; try omega)
              go_upto_region 8 with (fail)
              refine Rr.wp_region [(0, .y), (1, .y), (2, .y), (3, .y), (5, .y), (6, .y), (7, .y), (4, .m)] (fun _ => (.cells #[.string x] 9, fun p => .slice (some ⟨p, 0, none⟩) 1 1)) (by kernel_rfl) (by kernel_rfl) ?_
              (refine Rr.wr_y (by simp only [List.getElem?_toArray, List.getElem?_cons_succ, List.getElem?_cons_zero]; rfl) (by rfl) ?_
               apply Exists.intro
               refine ⟨fun wz hw _ => ?_, ?_⟩
               · have hcz := hw.cells.1
                 go_simp
                 (with_reducible exact Rg.up_value)
               simp only [Act.put, List.setIfInBounds_toArray, List.set_cons_zero, List.set_cons_succ])
              (refine Rr.wr_y (by simp only [List.getElem?_toArray, List.getElem?_cons_succ, List.getElem?_cons_zero]; rfl) (by rfl) ?_
               apply Exists.intro
               refine ⟨fun wz hw _ => ?_, ?_⟩
               · have hcz := hw.cells.1
                 go_simp
                 (with_reducible exact Rg.up_value)
               simp only [Act.put, List.setIfInBounds_toArray, List.set_cons_zero, List.set_cons_succ])
              (refine Rr.wr_y (by simp only [List.getElem?_toArray, List.getElem?_cons_succ, List.getElem?_cons_zero]; rfl) (by rfl) ?_
               apply Exists.intro
               refine ⟨fun wz hw _ => ?_, ?_⟩
               · have hcz := hw.cells.1
                 go_simp
                 (with_reducible exact Rg.up_value)
               simp only [Act.put, List.setIfInBounds_toArray, List.set_cons_zero, List.set_cons_succ])
              (refine Rr.wr_y (by simp only [List.getElem?_toArray, List.getElem?_cons_succ, List.getElem?_cons_zero]; rfl) (by rfl) ?_
               apply Exists.intro
               refine ⟨fun wz hw _ => ?_, ?_⟩
               · have hcz := hw.cells.1
                 go_simp
                 (with_reducible exact Rg.up_value)
               simp only [Act.put, List.setIfInBounds_toArray, List.set_cons_zero, List.set_cons_succ])
              (refine Rr.wr_y (by simp only [List.getElem?_toArray, List.getElem?_cons_succ, List.getElem?_cons_zero]; rfl) (by rfl) ?_
               apply Exists.intro
               refine ⟨fun wz hw _ => ?_, ?_⟩
               · have hcz := hw.cells.1
                 go_simp
                 (with_reducible exact Rg.up_value)
               simp only [Act.put, List.setIfInBounds_toArray, List.set_cons_zero, List.set_cons_succ])
              (refine Rr.wr_y (by simp only [List.getElem?_toArray, List.getElem?_cons_succ, List.getElem?_cons_zero]; rfl) (by rfl) ?_
               apply Exists.intro
               refine ⟨fun wz hw _ => ?_, ?_⟩
               · have hcz := hw.cells.1
                 go_simp
                 (with_reducible exact Rg.up_value)
               simp only [Act.put, List.setIfInBounds_toArray, List.set_cons_zero, List.set_cons_succ])
              (refine Rr.wr_y (by simp only [List.getElem?_toArray, List.getElem?_cons_succ, List.getElem?_cons_zero]; rfl) (by rfl) ?_
               apply Exists.intro
               refine ⟨fun wz hw _ => ?_, ?_⟩
               · have hcz := hw.cells.1
                 go_simp
                 (with_reducible exact Rg.up_value)
               simp only [Act.put, List.setIfInBounds_toArray, List.set_cons_zero, List.set_cons_succ])
              refine Rr.wr_m (by simp only [List.getElem?_toArray, List.getElem?_cons_succ, List.getElem?_cons_zero]; rfl) (by rfl) (fun wz => by go_simp) (fun pm hpm => ?_)
              simp only [Act.put, List.setIfInBounds_toArray, List.set_cons_zero, List.set_cons_succ]
              refine Rr.wr_nil ?_
              intro wz hz hh
              obtain ⟨hpm1, hpm2⟩ := hh _ List.mem_cons_self
              simp only [List.length_cons, List.length_nil, List.drop_succ_cons, List.drop_zero, Nat.reduceAdd]
              have HOWN : Hid (wz.ownsRow wy.heap.size 9 1 (.slice (some ⟨pm, 0, none⟩) 1 1) [x].length ([x].flatMap celS)) := Lib.hid ⟨rfl, .inr ⟨pm, 1, #[.string x], rfl, hpm1, hpm2, Nat.le_refl _, by unfold maxLen; omega, rfl, rfl⟩⟩
              have HXZ := Lib.hid hz
              clear hh hpm1 hpm2 hz cx hgx
              refine append_anyS rfl (.tmp 35) (.tmp 38) rfl wy.heap.size (.slice (some ⟨pm, 0, none⟩) 1 1) [x] (by rfl) HOWN.out (some ⟨g, j, none⟩) _ (m.drop j) (by rw [HLEN2.out]; rfl) (.inl (List.drop_eq_nil_of_le (by rw [HML.out]; exact Nat.le_refl _))) (by have := HLEN2.out; have h1 : [x].length = 1 := rfl; omega) HXZ.out.size ?_
              intro v1 wA hrA hgA hsA hnA
              have HXA : Hid (Ext wy wA) := Lib.hid (grown_ext HXZ.out HOWN.out (Nat.le_refl _) hgA)
              obtain ⟨rl, hrl⟩ : ∃ rl, rl = [x] ++ m.drop j := ⟨_, rfl⟩
              rw [← hrl] at hrA
              have HRL2 : Hid (rl.length = 0 + 1) := Lib.hid (by have h2 := HLEN2.out; have h1 : [x].length = 1 := rfl; rw [hrl, List.length_append]; omega)
              have HRL := Lib.hid hrl
              obtain ⟨A3, c3, hv1, hle3, hcm3, hrf3⟩ := row_formS hrA
              subst hv1
              have HRF3 := Lib.hid hrf3
              clear hrA hgA hsA hnA hrf3 hle3 hrl
              simp only [Act.put, List.setIfInBounds_toArray, List.set_cons_zero, List.set_cons_succ]
              go_upto_region 9 with (fail)
              have HOWN0 : Hid ((wA.alloc (.cells #[] 9)).ownsRow wA.heap.size 9 1 (.slice (some ⟨wA.heap.size, 0, none⟩) 0 0) 0 []) := Lib.hid ⟨rfl, .inr ⟨wA.heap.size, 0, #[], rfl, Nat.le_refl _, World.alloc_heap_new wA _, by simp, by simp, rfl, rfl⟩⟩
              have HXC := Lib.hid (Ext.alloc (Ext.refl wA) (.cells #[] 9))
              go_wp2_with (first
                | (at_builtin; (refine append_anyS rfl (.tmp 40) (.tmp 43) rfl wA.heap.size (.slice (some ⟨wA.heap.size, 0, none⟩) 0 0) [] (by rfl) HOWN0.out (some ⟨g, 0, none⟩) _ (m.take j) (by rw [HLEN1.out]; rfl) (srcS_take (HXB.out.trans (HXA.out.trans HXC.out)) HC.out) (by have := HLEN1.out; have h1 : ([] : List ByteArray).length = 0 := rfl; omega) HXC.out.size ?_; intro v2 wB hrB hgB hsB hnB; have HXB2 : Hid (Ext wA wB) := Lib.hid (grown_ext HXC.out HOWN0.out (Nat.le_refl _) hgB); have HRB : Hid (wB.ownsRow wA.heap.size 9 1 v2 (m.take j).length ((m.take j).flatMap celS)) := Lib.hid hrB; clear hrB hgB hsB hnB))
                | (at_builtin; (refine append_anyS rfl (.tmp 44) (.tmp 45) rfl wA.heap.size v2 (m.take j) (by rfl) HRB.out A3 c3 rl (by rfl) (srcS_all HXB2.out HRF3.out) (by have := HLEN1.out; have := HRL2.out; omega) HXB2.out.size ?_; intro v3 wC hrC hgC hsC hnC)))
              refine ⟨⟨j + 1, by simp, by omega, Lib.hid ?_, Lib.hid (HX.out.trans (HXB.out.trans (HXA.out.trans (grown_ext HXB2.out HRB.out (Nat.le_refl _) hgC))))⟩, by simp [iof]; omega⟩
              rw [HAT.out]
              have hrC2 := row_baseS hrC (show B ≤ wA.heap.size by have := HB.out; have := HX.out.size; have := HXB.out.size; have := HXA.out.size; omega)
              rw [HRL.out] at hrC2
              exact hrC2
    · obtain rfl : i = l.length := by omega
      rw [List.take_length, srtT_len] at HR
      go_wp2_with (fail)
      go_ret
      exact ⟨_, rfl, HR.out, HX.out⟩
end Go.Proofs.Ytbeoihjfjkbfhaa
