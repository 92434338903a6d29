/-
  A book's calls leave all cells alone but grades' and books'. Nothing is asked.
-/
import Derived.Test.YtnplnfkmcfalhaaGreatDoorGdJ
namespace Go.Proofs.YtnplnfkmcfalhaaGreatDoor
set_option linter.unusedVariables false
set_option linter.unusedSimpArgs false
open Go.RowKit

/-- All cells stay, but those of grades and of books. -/
def Kc (w w' : World) : Prop := ∀ (k : Nat) (cs : Array Value) (E : TypeId) (fr : Nat × Nat), w.heap[k]? = some (.cells cs E fr) → E ≠ 23 → E ≠ 40 → w'.heap[k]? = some (.cells cs E fr)
theorem Kc.of {w w' : World} (e : Ext w w') : Kc w w' := fun k cs E fr h _ _ => (e.block k (Rg.lt_of_heap h)).trans h
theorem Kc.trans {w w1 w2 : World} (h : Kc w w1) (h2 : Kc w1 w2) : Kc w w2 := fun k cs E fr hk a b => h2 k cs E fr (h k cs E fr hk a b) a b
theorem Kc.row {w w' : World} (h : Kc w w') {B E sz n : Nat} {v : Value} {xs : List Value} (hr : w.ownsRow B E sz v n xs) (h1 : E ≠ 23) (h2 : E ≠ 40) : w'.ownsRow B E sz v n xs := by
  refine ⟨hr.1, ?_⟩
  rcases hr.2 with hn | ⟨g, cap, cur, hv, hb, hg, rest⟩
  · exact .inl hn
  · exact .inr ⟨g, cap, cur, hv, hb, h g cur E _ hg h1 h2, rest⟩
theorem BR.kc {w w' : World} {p : Nat} {b : Bk} {F : List Nat} (h : BR w p b F) (e : KF F w w') : Kc w w' := fun k cs E fr hk h1 h2 => by
  obtain ⟨ml, mc, md, mg, mf, cv, hp, rfl, -, m1, m2, m3, m4, m5, m6, -⟩ := h
  refine (e.block k (Rg.lt_of_heap hk) (fun hm => ?_)).trans hk
  rw [mem_blks] at hm
  rcases hm with rfl | h | h | h | h | h | h
  · rw [hp] at hk
    injection hk with hk
    injection hk with _ hk
    exact h2 hk.symm
  · exact m1.ne_cells hk h
  · exact m2.ne_cells hk h
  · exact m3.ne_cells hk h
  · exact m4.ne_cells hk h
  · exact m5.ne_cells hk h
  · obtain ⟨cs', hc⟩ := row_block m6 h
    rw [hc] at hk
    injection hk with hk
    injection hk with _ hk
    exact h1 hk.symm
theorem BR.apart_row {w : World} {p : Nat} {b : Bk} {F : List Nat} (h : BR w p b F) {B E sz n : Nat} {v : Value} {xs : List Value} (hr : w.ownsRow B E sz v n xs) (h1 : E ≠ 23) (h2 : E ≠ 40) {k : Nat} (hk : v.ownBlock = some k) : k ∉ F := fun hm => by
  obtain ⟨cs, hc⟩ := row_block hr hk
  obtain ⟨ml, mc, md, mg, mf, cv, hp, rfl, -, m1, m2, m3, m4, m5, m6, -⟩ := h
  rw [mem_blks] at hm
  rcases hm with rfl | h | h | h | h | h | h
  · rw [hp] at hc
    injection hc with hc
    injection hc with _ hc
    exact h2 hc.symm
  · exact m1.ne_cells hc h
  · exact m2.ne_cells hc h
  · exact m3.ne_cells hc h
  · exact m4.ne_cells hc h
  · exact m5.ne_cells hc h
  · obtain ⟨cs', hc'⟩ := row_block m6 h
    rw [hc'] at hc
    injection hc with hc
    injection hc with _ hc
    exact h1 hc.symm
theorem BX.turn {w0 w w' : World} {p : Nat} {b : Bk} (h : BX w0 w p b) {B E sz n : Nat} {v : Value} {xs : List Value} (hr : w.ownsRow B E sz v n xs) (h1 : E ≠ 23) (h2 : E ≠ 40) (hB : w0.heap.size ≤ B) (hg : w.grownBy w' v.ownBlock) : BX w0 w' p b := by
  obtain ⟨F, a1, a2, a3⟩ := h
  refine ⟨F, a1.stay (fun k hk => hg.block k (a1.lt k hk) (fun e => a1.apart_row hr h1 h2 e.symm hk)), a2, grown_ext a3 hr hB hg⟩
theorem give_k {w0 w : World} {p : Nat} {b b' : Bk} {g : Gd} {k : Int} (h : BX w0 w p b) (heq : giveR b g = (k, b')) (hg : g.ok) (hol : b.old.length < 100000) :
    Calls Tryz.prog 10 #[.pointer (some ⟨p, 0, none⟩), g.v] w fun e w' => e = .returned (.int .i64 k) ∧ BX w0 w' p b' ∧ Kc w w' ∧ w.heap.size ≤ w'.heap.size := by
  obtain ⟨F, h1, h2, h3⟩ := h
  exact (give_eq heq hg w h1 hol).mono fun _ _ ⟨he, hg⟩ => ⟨he, BX.gp h2 h3 hg, h1.kc hg.choose_spec.2.2, hg.choose_spec.2.2.size⟩
theorem final_nk {w0 w : World} {p : Nat} {b : Bk} {bid k : Int} (h : BX w0 w p b) (heq : finE b bid = k) (hk : k ≠ 0) (hb : OkI bid) :
    Calls Tryz.prog 11 #[.pointer (some ⟨p, 0, none⟩), .int .i64 bid] w fun e w' => e = .returned (.int .i64 k) ∧ BX w0 w' p b ∧ Kc w w' ∧ w.heap.size ≤ w'.heap.size := by
  obtain ⟨F, h1, h2, h3⟩ := h
  exact (final_no heq hk hb w h1).mono fun _ _ ⟨he, hg⟩ => ⟨he, BX.gp h2 h3 hg, h1.kc hg.choose_spec.2.2, hg.choose_spec.2.2.size⟩
theorem final_k {w0 w : World} {p : Nat} {b : Bk} {bid : Int} (h : BX w0 w p b) (heq : finE b bid = 0) (hb : OkI bid) :
    Calls Tryz.prog 11 #[.pointer (some ⟨p, 0, none⟩), .int .i64 bid] w fun e w' => e = .returned (.int .i64 0) ∧ BX w0 w' p (b.fine bid) ∧ Kc w w' ∧ w.heap.size ≤ w'.heap.size := by
  obtain ⟨F, h1, h2, h3⟩ := h
  exact (final_ok heq hb w h1).mono fun _ _ ⟨he, hg⟩ => ⟨he, BX.gp h2 h3 hg, h1.kc hg.choose_spec.2.2, hg.choose_spec.2.2.size⟩
theorem value_k {w0 w : World} {p : Nat} {b : Bk} (bid lot : Int) (name : ByteArray) (h : BX w0 w p b) (hbid : OkI bid) (hlot : OkI lot) (hname : OkS name) (hf : b.fin bid = true → hasA b bid) :
    Calls Tryz.prog 9 #[.pointer (some ⟨p, 0, none⟩), .int .i64 bid, .int .i64 lot, .string name] w fun e w' => ∃ n ok, e = .returned (.tuple #[.int .i64 n, .bool ok]) ∧ ValR b bid lot name n ok ∧ OkI n ∧ BX w0 w' p b ∧ Ext w w' := by
  obtain ⟨F, h1, h2, h3⟩ := h
  exact (Value_any p b F bid lot name hbid hlot hname w h1 hf).mono fun _ _ ⟨n, ok, he, hv, hn, hx⟩ => ⟨n, ok, he, hv, hn, ⟨F, h1.ext hx, h2, h3.trans hx⟩, hx⟩
theorem changed_k {w0 w : World} {p : Nat} {b : Bk} (h : BX w0 w p b) (hl : b.old.length ≤ 100000) :
    Calls Tryz.prog 13 #[.pointer (some ⟨p, 0, none⟩)] w fun e w' => ∃ r, e = .returned r ∧ SR Gd.cs 6 w' r b.old ∧ BX w0 w' p b ∧ Ext w w' := by
  obtain ⟨F, h1, h2, h3⟩ := h
  exact (Changed_any p b F w h1 hl).mono fun _ _ ⟨r, he, hr, _, hx⟩ => ⟨r, he, hr, ⟨F, h1.ext hx, h2, h3.trans hx⟩, hx⟩
end Go.Proofs.YtnplnfkmcfalhaaGreatDoor
