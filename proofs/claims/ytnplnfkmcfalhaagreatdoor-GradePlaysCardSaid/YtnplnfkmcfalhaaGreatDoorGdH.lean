/-
  The book of the examples: what its calls give. Nothing is asked.
-/
import Derived.Test.YtnplnfkmcfalhaaGreatDoorGdC
import Derived.Test.YtnplnfkmcfalhaaGreatDoorGdE
import Derived.Test.YtnplnfkmcfalhaaGreatDoorGdF
import Derived.Test.YtnplnfkmcfalhaaGreatDoorGdG
namespace Go.Proofs.YtnplnfkmcfalhaaGreatDoor
set_option linter.unusedVariables false
set_option linter.unusedSimpArgs false
open Go.RowKit

def quaB : ByteArray := ⟨#[113, 117, 97, 108, 105, 116, 121]⟩
theorem quaB_ok : OkS quaB := by unfold OkS quaB maxLen; decide
def qCr : Cr := ⟨quaB, 1, 0, 10, false⟩
/-- The book of the examples. -/
def exB : Bk := newB [⟨1, 0⟩] [qCr] [⟨8, 5⟩, ⟨9, 5⟩]
def mkG (a l n t : Int) : Gd := ⟨a, 5, l, quaB, n, t⟩
theorem okI_small {z : Int} (h : -1000000 ≤ z ∧ z ≤ 1000000) : OkI z := ⟨by omega, by omega⟩
theorem mk_ok {a l n t : Int} (ha : -1000000 ≤ a ∧ a ≤ 1000000) (hl : -1000000 ≤ l ∧ l ≤ 1000000) (hn : -1000000 ≤ n ∧ n ≤ 1000000) (ht : -1000000 ≤ t ∧ t ≤ 1000000) : (mkG a l n t).ok :=
  ⟨okI_small ha, (okI_small (z := 5) ⟨by decide, by decide⟩), okI_small hl, quaB_ok, okI_small hn, okI_small ht⟩
/-- The tender and the duties are those of the examples. -/
structure ExL (b : Bk) : Prop where
  lots : ∀ i, b.lots i = true ↔ i = 1
  crit : ∀ n c, b.crit n = some c ↔ n = quaB ∧ c = qCr
  dut : ∀ d, b.dut d = true ↔ d.bid = 5 ∧ (d.ass = 8 ∨ d.ass = 9)
theorem exL : ExL exB := by
  refine ⟨fun i => ?_, fun n c => ?_, fun d => ?_⟩
  · unfold exB newB
    simp [eq_comm]
  · unfold exB newB
    simp only [List.find?_cons, List.find?_nil]
    by_cases h : n = quaB
    · subst h
      have : decide (qCr.kind = 1 ∧ qCr.name = quaB) = true := by simp [qCr]
      rw [this]
      simp [eq_comm]
    · have : decide (qCr.kind = 1 ∧ qCr.name = n) = false := by simp [qCr, eq_comm, h]
      rw [this]
      simp [h]
  · unfold exB newB
    obtain ⟨a, b⟩ := d
    simp
    omega
theorem ExL.put {b : Bk} (h : ExL b) (g : Gd) : ExL (b.put g) := ⟨h.lots, h.crit, h.dut⟩
theorem ExL.fine {b : Bk} (h : ExL b) (i : Int) : ExL (b.fine i) := ⟨h.lots, h.crit, h.dut⟩
theorem ExL.q {b : Bk} (h : ExL b) : b.crit quaB = some qCr := (h.crit _ _).2 ⟨rfl, rfl⟩
theorem Bool.of_not {p : Bool} {q : Prop} (h : p = true ↔ q) (hn : ¬ q) : p = false := by
  cases p
  · rfl
  · exact absurd (h.1 rfl) hn
theorem ExL.give {b : Bk} (h : ExL b) {a n t : Int} (ha : a = 8 ∨ a = 9) (hn : 0 ≤ n ∧ n ≤ 10) (hf : b.fin 5 = false) : giveR b (mkG a 1 n t) = (0, b.put (mkG a 1 n t)) := by
  rw [giveR_some (c := qCr) h.q, if_neg (by rw [show (mkG a 1 n t).lot = 1 from rfl, (h.lots 1).2 rfl]; decide), if_neg (by rw [show (⟨(mkG a 1 n t).ass, (mkG a 1 n t).bid⟩ : Dy) = ⟨a, 5⟩ from rfl, (h.dut ⟨a, 5⟩).2 ⟨rfl, ha⟩]; decide),
    if_neg (by show ¬ (n < 0 ∨ 10 < n); omega), if_neg (by rw [show (mkG a 1 n t).bid = 5 from rfl, hf]; decide)]
theorem ExL.late {b : Bk} (h : ExL b) {a n t : Int} (ha : a = 8 ∨ a = 9) (hn : 0 ≤ n ∧ n ≤ 10) (hf : b.fin 5 = true) : giveR b (mkG a 1 n t) = (31, b) := by
  rw [giveR_some (c := qCr) h.q, if_neg (by rw [show (mkG a 1 n t).lot = 1 from rfl, (h.lots 1).2 rfl]; decide), if_neg (by rw [show (⟨(mkG a 1 n t).ass, (mkG a 1 n t).bid⟩ : Dy) = ⟨a, 5⟩ from rfl, (h.dut ⟨a, 5⟩).2 ⟨rfl, ha⟩]; decide),
    if_neg (by show ¬ (n < 0 ∨ 10 < n); omega), if_pos (by rw [show (mkG a 1 n t).bid = 5 from rfl, hf])]
theorem ExL.high {b : Bk} (h : ExL b) {a n t : Int} (ha : a = 8 ∨ a = 9) (hn : 10 < n) : giveR b (mkG a 1 n t) = (16, b) := by
  rw [giveR_some (c := qCr) h.q, if_neg (by rw [show (mkG a 1 n t).lot = 1 from rfl, (h.lots 1).2 rfl]; decide), if_neg (by rw [show (⟨(mkG a 1 n t).ass, (mkG a 1 n t).bid⟩ : Dy) = ⟨a, 5⟩ from rfl, (h.dut ⟨a, 5⟩).2 ⟨rfl, ha⟩]; decide),
    if_pos (by show n < 0 ∨ 10 < n; omega)]
theorem ExL.who {b : Bk} (h : ExL b) {a n t : Int} (ha : ¬ (a = 8 ∨ a = 9)) : giveR b (mkG a 1 n t) = (35, b) := by
  rw [giveR_some (c := qCr) h.q, if_neg (by rw [show (mkG a 1 n t).lot = 1 from rfl, (h.lots 1).2 rfl]; decide), if_pos (by rw [show (⟨(mkG a 1 n t).ass, (mkG a 1 n t).bid⟩ : Dy) = ⟨a, 5⟩ from rfl]; exact Bool.of_not (h.dut ⟨a, 5⟩) (fun x => ha x.2))]
theorem ExL.lot {b : Bk} (h : ExL b) {a l n t : Int} (hl : l ≠ 1) : giveR b (mkG a l n t) = (34, b) := by
  rw [giveR_some (c := qCr) h.q, if_pos (by rw [show (mkG a l n t).lot = l from rfl]; exact Bool.of_not (h.lots l) hl)]
theorem ExL.has {b : Bk} (h : ExL b) : hasA b 5 := ⟨8, (h.dut ⟨8, 5⟩).2 ⟨rfl, .inl rfl⟩⟩
theorem ExL.hasNo {b : Bk} (h : ExL b) {i : Int} (hi : i ≠ 5) : ¬ hasA b i := fun ⟨a, ha⟩ => hi ((h.dut ⟨a, i⟩).1 ha).1
def plq (a : Int) : Pl := ⟨5, 1, quaB, a⟩
theorem ExL.few {b : Bk} (h : ExL b) : few b 5 ↔ b.gr (plq 8) = none ∨ b.gr (plq 9) = none := by
  constructor
  · rintro ⟨lot, name, a, h1, h2, h3, h4⟩
    obtain rfl := (h.lots lot).1 h1
    cases hc : b.crit name with
    | none => rw [hc] at h2; cases h2
    | some c =>
      obtain ⟨rfl, -⟩ := (h.crit name c).1 hc
      rcases ((h.dut ⟨a, 5⟩).1 h3).2 with h5 | h5
      · simp only at h5
        subst h5
        exact .inl h4
      · simp only at h5
        subst h5
        exact .inr h4
  · rintro (h1 | h1)
    · exact ⟨1, quaB, 8, (h.lots 1).2 rfl, by rw [h.q]; rfl, (h.dut ⟨8, 5⟩).2 ⟨rfl, .inl rfl⟩, h1⟩
    · exact ⟨1, quaB, 9, (h.lots 1).2 rfl, by rw [h.q]; rfl, (h.dut ⟨9, 5⟩).2 ⟨rfl, .inr rfl⟩, h1⟩
/-- The assessors are 8 and 9. -/
theorem ExL.as {b : Bk} (h : ExL b) {l : List Int} (hI : AsI b.dut 5 l []) : l = [8, 9] ∨ l = [9, 8] := by
  have hm : ∀ a, a ∈ l ↔ a = 8 ∨ a = 9 := fun a => by
    have h1 := hI.mem a
    rw [h.dut] at h1
    simp at h1
    exact h1.symm
  have hn := hI.nd
  match l, hm, hn with
  | [], hm, _ => exact absurd ((hm 8).2 (.inl rfl)) (by simp)
  | [x], hm, _ =>
    have h8 := (hm 8).2 (.inl rfl)
    have h9 := (hm 9).2 (.inr rfl)
    simp at h8 h9
    omega
  | [x, y], hm, hn =>
    have hx := (hm x).1 (by simp)
    have hy := (hm y).1 (by simp)
    simp at hn
    rcases hx with rfl | rfl <;> rcases hy with rfl | rfl
    · exact absurd rfl hn
    · exact .inl rfl
    · exact .inr rfl
    · exact absurd rfl hn
  | x :: y :: z :: t, hm, hn =>
    have hx := (hm x).1 (by simp)
    have hy := (hm y).1 (by simp)
    have hz := (hm z).1 (by simp)
    simp only [List.nodup_cons, List.mem_cons, not_or] at hn
    omega
theorem srt2 (x y : Int) : srtI [x, y] = [min x y, max x y] := by
  unfold srtI
  by_cases h : x ≤ y
  · rw [List.mergeSort_of_pairwise (by simp [h])]
    simp [Int.min_eq_left h, Int.max_eq_right h]
  · have h1 : List.Perm ([x, y].mergeSort fun x y => decide (x ≤ y)) [y, x] := (List.mergeSort_perm _ _).trans (List.Perm.swap _ _ _)
    have hs := List.pairwise_mergeSort (le := fun x y : Int => decide (x ≤ y)) (fun a b c h1 h2 => by simp only [decide_eq_true_eq] at *; omega) (fun a b => by simp only [Bool.or_eq_true, decide_eq_true_eq]; omega) [x, y]
    have h2 := h1.eq_of_pairwise (le := fun a b => decide (a ≤ b)) (fun a b _ _ h1 h2 => by simp only [decide_eq_true_eq] at *; omega) hs (by simp; omega)
    rw [h2, Int.min_eq_right (by omega), Int.max_eq_left (by omega)]
theorem ExL.val {b : Bk} (h : ExL b) (hf : b.fin 5 = true) {n : Int} {ok : Bool} (hv : ValR b 5 1 quaB n ok) : ok = true ∧ n = min (nOf b 5 1 quaB 8) (nOf b 5 1 quaB 9) := by
  unfold ValR at hv
  rw [if_pos ⟨hf, (h.lots 1).2 rfl, by rw [h.q]; rfl⟩] at hv
  obtain ⟨h1, l, hI, hn⟩ := hv
  refine ⟨h1, ?_⟩
  rcases h.as hI with rfl | rfl
  · simp only [List.map_cons, List.map_nil, srt2] at hn
    simpa using hn.symm
  · simp only [List.map_cons, List.map_nil, srt2] at hn
    have := hn.symm
    simp at this
    omega

theorem give_eq {p : Nat} {b b' : Bk} {F : List Nat} {g : Gd} {k : Int} (heq : giveR b g = (k, b')) (hg : g.ok) (w : World) (h : BR w p b F) (hol : b.old.length < 100000) :
    Calls Tryz.prog 10 #[.pointer (some ⟨p, 0, none⟩), g.v] w fun e w' => e = .returned (.int .i64 k) ∧ GP F w p b' w' := by
  have := Give_any p b F g hg w h hol
  rw [heq] at this
  exact this
theorem final_no {p : Nat} {b : Bk} {F : List Nat} {bid k : Int} (heq : finE b bid = k) (hk : k ≠ 0) (hb : OkI bid) (w : World) (h : BR w p b F) :
    Calls Tryz.prog 11 #[.pointer (some ⟨p, 0, none⟩), .int .i64 bid] w fun e w' => e = .returned (.int .i64 k) ∧ GP F w p b w' := by
  have := Final_any p b F bid hb w h
  rw [finB_ne (by rw [heq]; exact hk), heq] at this
  exact this
theorem final_ok {p : Nat} {b : Bk} {F : List Nat} {bid : Int} (heq : finE b bid = 0) (hb : OkI bid) (w : World) (h : BR w p b F) :
    Calls Tryz.prog 11 #[.pointer (some ⟨p, 0, none⟩), .int .i64 bid] w fun e w' => e = .returned (.int .i64 0) ∧ GP F w p (b.fine bid) w' := by
  have := Final_any p b F bid hb w h
  rw [show finB b bid = b.fine bid from if_pos heq, heq] at this
  exact this

set_option maxRecDepth 100000 in
theorem mark_any (a l n : Int) (w : World) : Calls Tryz.prog 25 #[.int .i64 a, .int .i64 l, .int .i64 n] w fun e w' => e = .returned (mkG a l n 0).v ∧ Ext w w' := by
  unfold mkG Gd.v quaB
  go_enter Tryz.func25, Tryz.ntmps25
  go_wp2_with (fail)
  exact bodyPost_ret (v := .agg #[.int .i64 a, .int .i64 5, .int .i64 l, .string ⟨#[113, 117, 97, 108, 105, 116, 121]⟩, .int .i64 n, .int .i64 0]) (by simp [results, Tryz.results25, go_sem]) rfl ⟨rfl, Ext.alloc (Ext.refl _) _⟩

end Go.Proofs.YtnplnfkmcfalhaaGreatDoor
