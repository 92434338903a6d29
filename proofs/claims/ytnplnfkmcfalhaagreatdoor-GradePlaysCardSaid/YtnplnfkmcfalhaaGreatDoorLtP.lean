/-
  What Value gives for a final bidder stays whatever is given to others. Nothing is asked.
-/
import Derived.Test.YtnplnfkmcfalhaaGreatDoorGdK
import Derived.Test.YtnplnfkmcfalhaaGreatDoorMed
namespace Go.Proofs.YtnplnfkmcfalhaaGreatDoor
set_option linter.unusedVariables false
set_option linter.unusedSimpArgs false
open Go.RowKit

/-- Book b agrees with b0 on what Value of a final bidder reads. -/
structure AG (bid : Int) (b0 b : Bk) : Prop where
  lots : b.lots = b0.lots
  crit : b.crit = b0.crit
  dut : b.dut = b0.dut
  fin0 : b0.fin bid = true
  fin : b.fin bid = true
  gr : ∀ l n a, b.gr ⟨bid, l, n, a⟩ = b0.gr ⟨bid, l, n, a⟩
theorem AG.start {bid : Int} {b : Bk} (h : b.fin bid = true) : AG bid b b := ⟨rfl, rfl, rfl, h, h, fun _ _ _ => rfl⟩
/-- Give: nothing, or one grade more. -/
theorem give_cases (b : Bk) (g : Gd) : (∃ k, k ≠ 0 ∧ giveR b g = (k, b)) ∨ (giveR b g = (0, b.put g) ∧ b.fin g.bid = false) := by
  cases hc : b.crit g.name with
  | none => exact .inl ⟨34, by decide, giveR_none hc⟩
  | some c =>
    rw [giveR_some hc]
    by_cases h1 : b.lots g.lot = false
    · rw [if_pos h1]; exact .inl ⟨34, by decide, rfl⟩
    · rw [if_neg h1]
      by_cases h2 : b.dut ⟨g.ass, g.bid⟩ = false
      · rw [if_pos h2]; exact .inl ⟨35, by decide, rfl⟩
      · rw [if_neg h2]
        by_cases h3 : g.n < c.low ∨ c.high < g.n
        · rw [if_pos h3]; exact .inl ⟨16, by decide, rfl⟩
        · rw [if_neg h3]
          by_cases h4 : b.fin g.bid = true
          · rw [if_pos h4]; exact .inl ⟨31, by decide, rfl⟩
          · rw [if_neg h4]
            exact .inr ⟨rfl, by simpa using h4⟩
theorem AG.put {bid : Int} {b0 b : Bk} (h : AG bid b0 b) {g : Gd} (hg : b.fin g.bid = false) : AG bid b0 (b.put g) := by
  refine ⟨h.lots, h.crit, h.dut, h.fin0, h.fin, fun l n a => ?_⟩
  rw [put_ne b g (k := ⟨bid, l, n, a⟩) (fun e => ?_), h.gr]
  have : bid = g.bid := congrArg Pl.bid e
  rw [← this, h.fin] at hg
  cases hg
theorem AG.fine {bid : Int} {b0 b : Bk} (h : AG bid b0 b) (i : Int) : AG bid b0 (b.fine i) := by
  refine ⟨h.lots, h.crit, h.dut, h.fin0, ?_, h.gr⟩
  show (if bid = i then true else b.fin bid) = true
  rw [h.fin]
  simp
theorem AG.finB {bid : Int} {b0 b : Bk} (h : AG bid b0 b) (i : Int) : AG bid b0 (finB b i) := by
  unfold Proofs.YtnplnfkmcfalhaaGreatDoor.finB
  split
  · exact h.fine i
  · exact h
theorem AsI.perm {dut : Dy → Bool} {bid : Int} {l m : List Int} (h : AsI dut bid l []) (h' : AsI dut bid m []) : l.Perm m :=
  (List.perm_ext_iff_of_nodup h.nd h'.nd).2 fun a => by
    have h1 := h.mem a
    have h2 := h'.mem a
    simp only [List.not_mem_nil, exists_false, or_false] at h1 h2
    rw [← h1, h2]
/-- What the law notes for a lot and a criterion. -/
def VE (b : Bk) (bid : Int) (p : Int × ByteArray) (z : Int) : Prop := ∃ n ok, ValR b bid p.1 p.2 n ok ∧ z = if ok = true then n else -1000000
theorem AG.val {bid : Int} {b0 b : Bk} (h : AG bid b0 b) {p : Int × ByteArray} {z z0 : Int} (hz : VE b bid p z) (hz0 : VE b0 bid p z0) : z = z0 := by
  obtain ⟨n, ok, hv, rfl⟩ := hz
  obtain ⟨n0, ok0, hv0, rfl⟩ := hz0
  unfold ValR at hv hv0
  rw [h.lots, h.crit, h.dut, h.fin] at hv
  rw [h.fin0] at hv0
  have hn : ∀ a, nOf b bid p.1 p.2 a = nOf b0 bid p.1 p.2 a := fun a => by unfold nOf; rw [h.gr]
  split at hv
  · rename_i hc
    rw [if_pos hc] at hv0
    obtain ⟨rfl, l, hI, hg⟩ := hv
    obtain ⟨rfl, l0, hI0, hg0⟩ := hv0
    have hp := hI.perm hI0
    have hm : l.map (nOf b bid p.1 p.2) = l.map (nOf b0 bid p.1 p.2) := List.map_congr_left fun a _ => hn a
    rw [hm, srtI_of_perm (hp.map _), hp.length_eq, hg0] at hg
    injection hg with hg
    rw [hg]
  · rename_i hc
    rw [if_neg hc] at hv0
    rw [hv.1, hv0.1]
    rfl
/-- The list zs notes what the pairs ps have. -/
def VL (b : Bk) (bid : Int) (ps : List (Int × ByteArray)) (zs : List Int) : Prop := zs.length = ps.length ∧ ∀ k (h : k < ps.length) (h' : k < zs.length), VE b bid ps[k] zs[k]
theorem VL.start (b : Bk) (bid : Int) : VL b bid [] [] := ⟨rfl, fun k h => by cases h⟩
theorem VL.step {b : Bk} {bid : Int} {ps : List (Int × ByteArray)} {zs : List Int} (h : VL b bid ps zs) {p : Int × ByteArray} {z : Int} (hz : VE b bid p z) : VL b bid (ps ++ [p]) (zs ++ [z]) := by
  refine ⟨by simp [h.1], fun k hk hk' => ?_⟩
  by_cases e : k < ps.length
  · rw [List.getElem_append_left e, List.getElem_append_left (by rw [h.1]; exact e)]
    exact h.2 k e _
  · have hk2 : k = ps.length := by simp at hk; omega
    subst hk2
    have := h.1
    rw [List.getElem_append_right (by omega), List.getElem_append_right (by omega)]
    simpa [h.1] using hz
theorem AG.vals {bid : Int} {b0 b : Bk} (h : AG bid b0 b) {ps : List (Int × ByteArray)} {zs zs0 : List Int} (hz : VL b bid ps zs) (hz0 : VL b0 bid ps zs0) : zs0 = zs := by
  refine List.ext_getElem (hz0.1.trans hz.1.symm) fun k h1 h2 => ?_
  have hk : k < ps.length := by rw [← hz0.1]; exact h1
  exact (h.val (hz.2 k hk h2) (hz0.2 k hk h1)).symm
def prs (L : List Int) (C : List Cr) : List (Int × ByteArray) := L.flatMap fun l => C.map fun c => (l, c.name)
theorem prs_succ (L : List Int) (C : List Cr) (i : Nat) (h : i < L.length) : prs (L.take (i + 1)) C = prs (L.take i) C ++ C.map fun c => (L[i], c.name) := by
  unfold prs
  rw [List.take_succ_eq_append_getElem h, List.flatMap_append]
  simp
theorem map_take_succ {α β : Type} (f : α → β) (l : List α) (i : Nat) (h : i < l.length) : (l.take (i + 1)).map f = (l.take i).map f ++ [f l[i]] := by
  rw [List.take_succ_eq_append_getElem h, List.map_append]
  rfl
/-- A fold that keeps what holds of all elements. -/
theorem foldl_inv {α β : Type} {f : β → α → β} {p : β → Prop} (l : List α) (hs : ∀ b, ∀ a ∈ l, p b → p (f b a)) : ∀ b, p b → p (l.foldl f b) := by
  induction l with
  | nil => exact fun b h => h
  | cons a l ih => exact fun b h => ih (fun b a ha => hs b a (List.mem_cons_of_mem _ ha)) _ (hs b a List.mem_cons_self h)
theorem foldl_take_succ {α β : Type} (f : β → α → β) (b : β) (l : List α) (i : Nat) (h : i < l.length) : (l.take (i + 1)).foldl f b = f ((l.take i).foldl f b) l[i] := by
  rw [List.take_succ_eq_append_getElem h, List.foldl_append]
  rfl
/-- What the reference's New keeps. -/
def lotS (acc : List Int) (l : Lt) : List Int := if l.id ∈ acc then acc else acc ++ [l.id]
def criS (acc : List Cr) (c : Cr) : List Cr := if c.kind = 1 ∧ ¬ (acc.any fun x => decide (x.name = c.name)) = true then acc ++ [c] else acc
def dutS (acc : List Dy) (d : Dy) : List Dy := if d ∈ acc then acc else acc ++ [d]
def lotsW (ls : List Lt) : List Int := ls.foldl lotS []
def crisW (cs : List Cr) : List Cr := cs.foldl criS []
def dutsW (ds : List Dy) : List Dy := ds.foldl dutS []
theorem fold_ok {α β : Type} {f : List β → α → List β} {p : β → Prop} {g : α → β} (l : List α) (hf : ∀ acc a, f acc a = acc ∨ f acc a = acc ++ [g a]) (hp : ∀ a ∈ l, p (g a)) : (∀ x ∈ l.foldl f [], p x) ∧ (l.foldl f []).length ≤ l.length := by
  have h1 : ∀ x ∈ l.foldl f [], p x := foldl_inv (p := fun acc => ∀ x ∈ acc, p x) l (fun acc a ha h x hx => by
    rcases hf acc a with e | e <;> rw [e] at hx
    · exact h x hx
    · rcases List.mem_append.1 hx with hx | hx
      · exact h x hx
      · rw [List.mem_singleton] at hx; subst hx; exact hp a ha) [] (by simp)
  refine ⟨h1, ?_⟩
  have : ∀ (l : List α) (acc : List β), (l.foldl f acc).length ≤ acc.length + l.length := by
    intro l
    induction l with
    | nil => intro acc; simp
    | cons a l ih =>
      intro acc
      have := ih (f acc a)
      rw [List.foldl_cons]
      have h2 : (f acc a).length ≤ acc.length + 1 := by rcases hf acc a with e | e <;> rw [e] <;> simp
      simp only [List.length_cons]
      omega
  simpa using this l []
theorem lotsW_ok {ls : List Lt} (h : ∀ l ∈ ls, OkI l.id) : (∀ x ∈ lotsW ls, OkI x) ∧ (lotsW ls).length ≤ ls.length :=
  fold_ok (g := Lt.id) ls (fun acc a => by unfold lotS; split; exact .inl rfl; exact .inr rfl) h
theorem crisW_ok {cs : List Cr} (h : ∀ c ∈ cs, c.ok) : (∀ x ∈ crisW cs, x.ok) ∧ (crisW cs).length ≤ cs.length :=
  fold_ok (g := id) cs (fun acc a => by unfold criS; split; exact .inr rfl; exact .inl rfl) h
theorem dutsW_ok {ds : List Dy} (h : ∀ d ∈ ds, OkD d) : (∀ x ∈ dutsW ds, OkD x) ∧ (dutsW ds).length ≤ ds.length :=
  fold_ok (g := id) ds (fun acc a => by unfold dutS; split; exact .inl rfl; exact .inr rfl) h
end Go.Proofs.YtnplnfkmcfalhaaGreatDoor
