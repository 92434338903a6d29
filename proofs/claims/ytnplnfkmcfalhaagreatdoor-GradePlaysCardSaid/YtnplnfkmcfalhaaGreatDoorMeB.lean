/-
  The book of the median: one criterion, one lot, n assessors. Nothing is asked.
-/
import Derived.Test.YtnplnfkmcfalhaaGreatDoorGdK
import Derived.Test.YtnplnfkmcfalhaaGreatDoorMed
namespace Go.Proofs.YtnplnfkmcfalhaaGreatDoor
set_option linter.unusedVariables false
set_option linter.unusedSimpArgs false
open Go.RowKit

def planB : ByteArray := ⟨#[112, 108, 97, 110]⟩
theorem planB_ok : OkS planB := by unfold OkS planB maxLen; decide
def pCr : Cr := ⟨planB, 1, 0, 100, false⟩
def mDy (k : Nat) : Dy := ⟨10 + k, 1⟩
def duts (n : Nat) : List Dy := (List.range n).map mDy
theorem duts_succ (n : Nat) : duts (n + 1) = duts n ++ [mDy n] := by unfold duts; rw [List.range_succ, List.map_append]; rfl
theorem duts_len (n : Nat) : (duts n).length = n := by unfold duts; simp
def mG (k : Nat) (x : Int) : Gd := ⟨10 + k, 1, 3, planB, x, 0⟩
/-- The median's book, without grades. -/
def mB (n : Nat) : Bk := newB [⟨3, 0⟩] [pCr] (duts n)
def plm (k : Nat) : Pl := ⟨1, 3, planB, 10 + k⟩
/-- The tender and the duties are the median's. -/
structure MeL (n : Nat) (b : Bk) : Prop where
  lots : ∀ i, b.lots i = true ↔ i = 3
  crit : ∀ m c, b.crit m = some c ↔ m = planB ∧ c = pCr
  dut : ∀ a, b.dut ⟨a, 1⟩ = true ↔ ∃ k, k < n ∧ a = 10 + (k : Int)
theorem meL (n : Nat) : MeL n (mB n) := by
  refine ⟨fun i => ?_, fun m c => ?_, fun a => ?_⟩
  · unfold mB newB
    simp [eq_comm]
  · unfold mB newB
    simp only [List.find?_cons, List.find?_nil]
    by_cases h : m = planB
    · subst h
      have : decide (pCr.kind = 1 ∧ pCr.name = planB) = true := by simp [pCr]
      rw [this]
      simp [eq_comm]
    · have : decide (pCr.kind = 1 ∧ pCr.name = m) = false := by simp [pCr, eq_comm, h]
      rw [this]
      simp [h]
  · show (duts n).contains ⟨a, 1⟩ = true ↔ _
    rw [List.contains_iff_mem]
    unfold duts
    rw [List.mem_map]
    constructor
    · rintro ⟨k, hk, he⟩
      injection he with h1 h2
      exact ⟨k, List.mem_range.1 hk, h1.symm⟩
    · rintro ⟨k, hk, rfl⟩
      exact ⟨k, List.mem_range.2 hk, rfl⟩
theorem MeL.put {n : Nat} {b : Bk} (h : MeL n b) (g : Gd) : MeL n (b.put g) := ⟨h.lots, h.crit, h.dut⟩
theorem MeL.fine {n : Nat} {b : Bk} (h : MeL n b) (i : Int) : MeL n (b.fine i) := ⟨h.lots, h.crit, h.dut⟩
theorem MeL.q {n : Nat} {b : Bk} (h : MeL n b) : b.crit planB = some pCr := (h.crit _ _).2 ⟨rfl, rfl⟩
/-- The first i grades are given. -/
structure MeI (n : Nat) (x : Nat → Int) (i : Nat) (b : Bk) : Prop where
  me : MeL n b
  fin : b.fin 1 = false
  old : b.old = []
  gr : ∀ k, b.gr (plm k) = if k < i then some (mG k (x k)) else none
theorem MeI.start (n : Nat) (x : Nat → Int) : MeI n x 0 (mB n) := ⟨meL n, rfl, rfl, fun k => by rw [if_neg (by omega)]; rfl⟩
theorem MeI.give {n : Nat} {x : Nat → Int} {i : Nat} {b : Bk} (h : MeI n x i b) (hi : i < n) (hx : 0 ≤ x i ∧ x i ≤ 100) : giveR b (mG i (x i)) = (0, b.put (mG i (x i))) := by
  rw [giveR_some (c := pCr) h.me.q, if_neg (by rw [show (mG i (x i)).lot = 3 from rfl, (h.me.lots 3).2 rfl]; decide), if_neg (by rw [show (⟨(mG i (x i)).ass, (mG i (x i)).bid⟩ : Dy) = ⟨10 + (i : Int), 1⟩ from rfl, (h.me.dut (10 + (i : Int))).2 ⟨i, hi, rfl⟩]; decide),
    if_neg (by show ¬ (x i < 0 ∨ 100 < x i); omega), if_neg (by rw [show (mG i (x i)).bid = 1 from rfl, h.fin]; decide)]
theorem MeI.step {n : Nat} {x : Nat → Int} {i : Nat} {b : Bk} (h : MeI n x i b) : MeI n x (i + 1) (b.put (mG i (x i))) := by
  have hg : b.gr (mG i (x i)).pl = none := (h.gr i).trans (if_neg (by omega))
  refine ⟨h.me.put _, h.fin, (put_old0 b _ hg).trans h.old, fun k => ?_⟩
  by_cases e : k = i
  · subst e
    rw [if_pos (by omega)]
    exact put_same b (mG k (x k))
  · rw [put_ne b (mG i (x i)) (k := plm k) (fun he => e (by have := congrArg Pl.ass he; change (10 : Int) + k = 10 + i at this; omega)), h.gr k]
    by_cases h2 : k < i
    · rw [if_pos h2, if_pos (by omega)]
    · rw [if_neg h2, if_neg (by omega)]
theorem MeL.has {n : Nat} {b : Bk} (h : MeL n b) (hn : 0 < n) : hasA b 1 := ⟨10 + ((0 : Nat) : Int), (h.dut _).2 ⟨0, hn, rfl⟩⟩
theorem MeI.final {n : Nat} {x : Nat → Int} {b : Bk} (h : MeI n x n b) (hn : 0 < n) : finE b 1 = 0 := by
  refine finE_0 (h.me.has hn) h.fin ?_
  rintro ⟨lot, name, a, h1, h2, h3, h4⟩
  obtain rfl := (h.me.lots lot).1 h1
  cases hc : b.crit name with
  | none => rw [hc] at h2; cases h2
  | some c =>
    obtain ⟨rfl, -⟩ := (h.me.crit name c).1 hc
    obtain ⟨k, hk, rfl⟩ := (h.me.dut a).1 h3
    have := h.gr k
    rw [if_pos hk] at this
    rw [show b.gr ⟨1, 3, planB, 10 + (k : Int)⟩ = _ from this] at h4
    cases h4
/-- The grades of a round. -/
def xsOf (x : Nat → Int) (n : Nat) : List Int := (List.range n).map x
theorem xsOf_len (x : Nat → Int) (n : Nat) : (xsOf x n).length = n := by unfold xsOf; simp
theorem xsOf_succ (x : Nat → Int) (n : Nat) : xsOf x (n + 1) = xsOf x n ++ [x n] := by unfold xsOf; rw [List.range_succ, List.map_append]; rfl
theorem xsOf_get (x : Nat → Int) (n k : Nat) (h : k < (xsOf x n).length) : (xsOf x n)[k] = x k := by
  have : (xsOf x n)[k]? = some (x k) := by
    have hk : k < n := by rwa [xsOf_len] at h
    unfold xsOf
    rw [List.getElem?_map, List.getElem?_range hk]
    rfl
  rw [List.getElem?_eq_getElem h] at this
  exact Option.some.inj this
theorem perm_of_mem {l m : List Int} (hl : l.Nodup) (hm : m.Nodup) (h : ∀ a, a ∈ l ↔ a ∈ m) : l.Perm m := (List.perm_ext_iff_of_nodup hl hm).2 h
theorem MeI.value {n : Nat} {x : Nat → Int} {b : Bk} (h : MeI n x n b) (hn : 0 < n) {v : Int} {ok : Bool} (hv : ValR (b.fine 1) 1 3 planB v ok) : ok = true ∧ v = med (xsOf x n) := by
  have hm := h.me.fine 1
  unfold ValR at hv
  rw [if_pos ⟨fine_same b 1, (hm.lots 3).2 rfl, by rw [hm.q]; rfl⟩] at hv
  obtain ⟨h1, l, hI, hg⟩ := hv
  refine ⟨h1, ?_⟩
  have hp : l.Perm ((List.range n).map fun k : Nat => (10 : Int) + k) := by
    refine perm_of_mem hI.nd ?_ fun a => ?_
    · refine List.pairwise_map.2 ((List.nodup_range (n := n)).imp fun {a b} h => ?_)
      omega
    · have := hI.mem a
      rw [hm.dut] at this
      simp only [List.not_mem_nil, exists_false, or_false] at this
      rw [← this, List.mem_map]
      constructor
      · rintro ⟨k, hk, rfl⟩; exact ⟨k, List.mem_range.2 hk, rfl⟩
      · rintro ⟨k, hk, rfl⟩; exact ⟨k, List.mem_range.1 hk, rfl⟩
  have hq : (l.map (nOf (b.fine 1) 1 3 planB)).Perm (xsOf x n) := by
    refine (hp.map _).trans (List.Perm.of_eq ?_)
    unfold xsOf
    rw [List.map_map]
    refine List.map_congr_left fun k hk => ?_
    have := h.gr k
    rw [if_pos (List.mem_range.1 hk)] at this
    show nOf (b.fine 1) 1 3 planB (10 + (k : Int)) = x k
    unfold nOf
    rw [show (b.fine 1).gr ⟨1, 3, planB, 10 + (k : Int)⟩ = _ from this]
    rfl
  have hll : l.length = (xsOf x n).length := by have := hq.length_eq; simpa using this
  rw [srtI_of_perm hq, hll, med_get (by rw [xsOf_len]; exact hn)] at hg
  exact (Option.some.inj hg).symm
/-- What the counting gives after i numbers. -/
theorem cnt_step (v : Int) (l : List Int) (z : Int) : nLess v (l ++ [z]) = nLess v l + (if z < v then 1 else 0) ∧ nMore v (l ++ [z]) = nMore v l + (if v < z then 1 else 0) ∧ nEq v (l ++ [z]) = nEq v l + (if z = v then 1 else 0) := by
  unfold nLess nMore nEq
  simp [List.countP_append, List.countP_cons]
end Go.Proofs.YtnplnfkmcfalhaaGreatDoor
