/-
  A relay in memory; New, period, old, Waiting. Nothing is asked.
-/
import Derived.Test.YtbeoihjfjkbfhaaMpQ
namespace Go.Proofs.Ytbeoihjfjkbfhaa
set_option linter.unusedVariables false
set_option linter.unusedSimpArgs false
open Go.RowKit

structure Rl where
  least : Int
  every : Int
  l : List (Qn × Int)
  last : Int
  timed : Bool
  closed : Bool
def Rl.cells (r : Rl) (mb : Option Nat) : Array Value := #[.int .i64 r.least, .int .i64 r.every, .map mb, .int .i64 r.last, .bool r.timed, .bool r.closed]
def mapL (l : List (Qn × Int)) : List (Qn × Value) := l.map fun p => (p.1, .int .i64 p.2)
theorem mapL_keys (l : List (Qn × Int)) : (mapL l).map (·.1) = l.map (·.1) := by simp [mapL]
theorem mapL_len (l : List (Qn × Int)) : (mapL l).length = l.length := by simp [mapL]
/-- The questions in the map. -/
def MQ (B : Nat) (w : World) : Option Nat → List (Qn × Int) → Prop
  | none, l => l = []
  | some b, l => B ≤ b ∧ MP encQ OkQ w b (mapL l)
structure Rl.ok (r : Rl) : Prop where
  least : OkI r.least
  every : OkI r.every
  last : OkI r.last
  per : ∀ p ∈ r.l, OkI p.2
  len : r.l.length ≤ 1000
/-- The relay at p, its map at mb, both from B on. -/
structure RW (B : Nat) (w : World) (p : Nat) (mb : Option Nat) (r : Rl) : Prop where
  at_ : B ≤ p
  row : w.heap[p]? = some (.cells (r.cells mb) 56)
  map : MQ B w mb r.l
  ok : r.ok
/-- Nothing that was there has turned but p and mb. -/
structure KW (p : Nat) (mb : Option Nat) (w w' : World) : Prop where
  os : w'.os = w.os
  tape : w'.tape = w.tape
  output : w'.output = w.output
  size : w.heap.size ≤ w'.heap.size
  block : ∀ k, k < w.heap.size → k ≠ p → some k ≠ mb → w'.heap[k]? = w.heap[k]?
theorem KW.refl (p : Nat) (mb : Option Nat) (w : World) : KW p mb w w := ⟨rfl, rfl, rfl, Nat.le_refl _, fun _ _ _ _ => rfl⟩
theorem KW.of_ext {p : Nat} {mb : Option Nat} {w w' : World} (h : Ext w w') : KW p mb w w' := ⟨h.os, h.tape, h.output, h.size, fun k hk _ _ => h.block k hk⟩
theorem KW.trans {p : Nat} {mb : Option Nat} {a b c : World} (h : KW p mb a b) (k : KW p mb b c) : KW p mb a c :=
  ⟨k.os.trans h.os, k.tape.trans h.tape, k.output.trans h.output, Nat.le_trans h.size k.size, fun i hi hp hm => (k.block i (Nat.lt_of_lt_of_le hi h.size) hp hm).trans (h.block i hi hp hm)⟩
theorem KW.setCell {p o : Nat} {mb : Option Nat} {a b : World} (h : KW p mb a b) (v : Value) : KW p mb a (b.setCell ⟨p, o, none⟩ v) :=
  ⟨h.os, h.tape, h.output, by simpa using h.size, fun i hi hp hm => (heap_setCell_other _ hp).trans (h.block i hi hp hm)⟩
theorem KW.grown {p b : Nat} {a w w' : World} (h : KW p (some b) a w) (g : w.grownBy w' (some b)) : KW p (some b) a w' :=
  ⟨g.os.trans h.os, g.tape.trans h.tape, g.output.trans h.output, Nat.le_trans h.size g.size, fun i hi hp hm => (g.block i (Nat.lt_of_lt_of_le hi h.size) hm).trans (h.block i hi hp hm)⟩
theorem KW.below {p B : Nat} {mb : Option Nat} {w w' : World} (h : KW p mb w w') (hB : B ≤ w.heap.size) (hp : B ≤ p) (hm : ∀ b, mb = some b → B ≤ b) : Below B w w' :=
  ⟨h.os, h.tape, h.output, h.size, fun k hk => h.block k (by omega) (by omega) (fun e => by have := hm k e.symm; omega)⟩
theorem MQ.lt {B : Nat} {w : World} {mb : Option Nat} {l : List (Qn × Int)} (h : MQ B w mb l) : ∀ b, mb = some b → B ≤ b ∧ b < w.heap.size := by
  rintro b rfl
  exact ⟨h.1, MP.lt h.2⟩
theorem MQ.of_block {B : Nat} {w w' : World} {mb : Option Nat} {l : List (Qn × Int)} (h : MQ B w mb l) (hb : ∀ b, mb = some b → w'.heap[b]? = w.heap[b]?) : MQ B w' mb l := by
  cases mb with
  | none => exact h
  | some b => exact ⟨h.1, MP.of_block h.2 (hb b rfl)⟩
theorem MQ.ext {B : Nat} {w w' : World} {mb : Option Nat} {l : List (Qn × Int)} (h : MQ B w mb l) (x : Ext w w') : MQ B w' mb l := h.of_block fun b e => x.block b (h.lt b e).2
theorem RW.lt {B : Nat} {w : World} {p : Nat} {mb : Option Nat} {r : Rl} (h : RW B w p mb r) : p < w.heap.size := Rg.lt_of_heap h.row
theorem RW.ne {B : Nat} {w : World} {p : Nat} {mb : Option Nat} {r : Rl} (h : RW B w p mb r) : mb ≠ some p := by
  rintro rfl
  obtain ⟨-, -, -, es, clock, hb, -⟩ := h.map
  rw [h.row] at hb
  cases hb
theorem RW.ext {B : Nat} {w w' : World} {p : Nat} {mb : Option Nat} {r : Rl} (h : RW B w p mb r) (x : Ext w w') : RW B w' p mb r := ⟨h.at_, (x.block _ h.lt).trans h.row, h.map.ext x, h.ok⟩
/-- Another relay stays. -/
theorem RW.other {B : Nat} {w w' : World} {p p2 : Nat} {mb mb2 : Option Nat} {r r2 : Rl} (h : RW B w p mb r) (h2 : RW B w p2 mb2 r2) (k : KW p2 mb2 w w') (hp : p ≠ p2) (hm : ∀ b, mb = some b → mb2 ≠ some b) : RW B w' p mb r := by
  have e1 : mb2 ≠ some p := by
    rintro rfl
    obtain ⟨-, -, -, es, clock, hb, -⟩ := h2.map
    rw [h.row] at hb
    cases hb
  refine ⟨h.at_, (k.block p h.lt hp (fun e => e1 e.symm)).trans h.row, h.map.of_block fun b e => k.block b (h.map.lt b e).2 ?_ (fun e2 => hm b e e2.symm), h.ok⟩
  rintro rfl
  subst e
  obtain ⟨-, -, -, es, clock, hb, -⟩ := h.map
  rw [h2.row] at hb
  cases hb
theorem Rl.cells_at {w : World} {p : Nat} {mb : Option Nat} {r : Rl} (h : w.heap[p]? = some (.cells (r.cells mb) 56)) :
    w.cell? ⟨p, 0, none⟩ = some (.int .i64 r.least) ∧ w.cell? ⟨p, 1, none⟩ = some (.int .i64 r.every) ∧ w.cell? ⟨p, 2, none⟩ = some (.map mb) ∧ w.cell? ⟨p, 3, none⟩ = some (.int .i64 r.last) ∧ w.cell? ⟨p, 4, none⟩ = some (.bool r.timed) ∧ w.cell? ⟨p, 5, none⟩ = some (.bool r.closed) :=
  ⟨cell_of_row w p 0 _ _ _ h, cell_of_row w p 1 _ _ _ h, cell_of_row w p 2 _ _ _ h, cell_of_row w p 3 _ _ _ h, cell_of_row w p 4 _ _ _ h, cell_of_row w p 5 _ _ _ h⟩
def perF (every t : Int) : Int := t / max every 1
theorem perF_tdiv (e t : Int) (he : 1 ≤ e) : t / e = if t.tmod e < 0 then t.tdiv e - 1 else t.tdiv e := by
  have h1 := Int.mul_tdiv_add_tmod t e
  have h2 := Int.mul_ediv_add_emod t e
  have h3 := Int.emod_nonneg t (show e ≠ 0 by omega)
  have h4 := Int.emod_lt_of_pos t (show 0 < e by omega)
  by_cases ht : 0 ≤ t
  · have h5 := Int.tmod_nonneg e ht
    rw [if_neg (by omega), Int.tdiv_eq_ediv_of_nonneg ht]
  · have hs : e.sign = 1 := Int.sign_eq_one_of_pos (by omega)
    have ha : (e.natAbs : Int) = e := Int.natAbs_of_nonneg (by omega)
    rw [Int.tdiv_eq_ediv, Int.tmod_eq_emod, hs]
    by_cases hd : e ∣ t
    · have h0 := Int.emod_eq_zero_of_dvd hd
      have hc : (0 ≤ t ∨ e ∣ t) = True := by simp [hd]
      simp only [hc, if_true]
      rw [if_neg (by omega)]
      omega
    · have hc : (0 ≤ t ∨ e ∣ t) = False := by simp [hd, ht]
      simp only [hc, if_false, ha]
      rw [if_pos (by omega)]
      omega
theorem tdiv_in {t e : Int} (ht : OkI t) (he : 1 ≤ e) : OkI (t.tdiv e) ∧ (t.tmod e < 0 → OkI (t.tdiv e - 1)) := by
  obtain ⟨h1, h2⟩ := ht
  have h3 := Int.mul_tdiv_add_tmod t e
  have h5 := perF_tdiv e t he
  have h6 := Int.emod_nonneg t (show e ≠ 0 by omega)
  have h7 := Int.emod_lt_of_pos t (show 0 < e by omega)
  have h8 := Int.mul_ediv_add_emod t e
  have h9 : (-9223372036854775808 : Int) ≤ t / e := by
    rw [Int.le_ediv_iff_mul_le (by omega)]
    have : e * 9223372036854775808 ≥ 1 * 9223372036854775808 := Int.mul_le_mul_of_nonneg_right he (by omega)
    omega
  have h10 : t / e ≤ 9223372036854775807 := by
    by_cases h0 : 0 ≤ t
    · exact Int.le_trans (Int.ediv_le_self _ h0) h2
    · have : t / e < 0 := Int.ediv_neg_of_neg_of_pos (by omega) (by omega)
      omega
  by_cases hm : t.tmod e < 0
  · rw [if_pos hm] at h5
    exact ⟨⟨by omega, by
      by_cases h0 : 0 ≤ t
      · have := Int.tmod_nonneg e h0
        omega
      · have : t / e < 0 := Int.ediv_neg_of_neg_of_pos (by omega) (by omega)
        omega⟩, fun _ => ⟨by omega, by omega⟩⟩
  · rw [if_neg hm] at h5
    exact ⟨⟨by omega, by omega⟩, fun h => absurd h hm⟩
theorem new_any (least every : Int) (w : World) (hl : OkI least) (he : OkI every) :
    Calls Try.prog 12 #[.int .i64 least, .int .i64 every] w fun e w' => e = .returned (.pointer (some ⟨w.heap.size, 0, none⟩)) ∧ RW w.heap.size w' w.heap.size none ⟨least, every, [], 0, false, false⟩ ∧ Ext w w' := by
  go_enter Try.func12, Try.ntmps12
  go_wp2
  go_ret
  exact ⟨rfl, ⟨Nat.le_refl _, alloc_at w _, rfl, ⟨hl, he, show OkI 0 from ⟨by decide, by decide⟩, by simp, by simp⟩⟩, Ext.alloc (Ext.refl _) _⟩
theorem old_any (p : Nat) (mb : Option Nat) (r : Rl) (t : Int) (w : World) (h : w.heap[p]? = some (.cells (r.cells mb) 56)) :
    Calls Try.prog 26 #[.pointer (some ⟨p, 0, none⟩), .int .i64 t] w fun e w' => e = .returned (.bool (r.timed && decide (t < r.last))) ∧ w' = w := by
  obtain ⟨-, -, -, c3, c4, -⟩ := Rl.cells_at h
  clear h
  generalize r.last = la at *
  cases ht : r.timed with
  | true =>
    rw [ht] at c4
    clear ht
    go_enter Try.func26, Try.ntmps26
    go_wp2
    go_ret
    exact ⟨rfl, rfl⟩
  | false =>
    rw [ht] at c4
    clear ht
    go_enter Try.func26, Try.ntmps26
    go_wp2
    go_ret
    exact ⟨rfl, rfl⟩
theorem wrap64_in {x : Int} (h : OkI x) : wrap64 x = x := by
  obtain ⟨h1, h2⟩ := h
  unfold wrap64
  omega
theorem period_any (p : Nat) (mb : Option Nat) (r : Rl) (t : Int) (w : World) (h : w.heap[p]? = some (.cells (r.cells mb) 56)) (hr : OkI r.every) (ht : OkI t) :
    Calls Try.prog 27 #[.pointer (some ⟨p, 0, none⟩), .int .i64 t] w fun e w' => e = .returned (.int .i64 (perF r.every t)) ∧ w' = w := by
  obtain ⟨-, c1, -, -, -, -⟩ := Rl.cells_at h
  clear h
  unfold perF
  generalize r.every = ev at *
  have h1 : 1 ≤ max ev 1 := by omega
  have h2 := tdiv_in ht h1
  have h3 := perF_tdiv (max ev 1) t h1
  have h4 : max ev 1 ≤ 9223372036854775807 := by have := hr.2; omega
  have HM : Hid (t / max ev 1 = if t.tmod (max ev 1) < 0 then t.tdiv (max ev 1) - 1 else t.tdiv (max ev 1)) := Lib.hid h3
  clear h3
  generalize t / max ev 1 = R at *
  go_enter Try.func27, Try.ntmps27
  go_upto_region 2 with (fail)
  clear hr c1
  generalize max ev 1 = m at *
  obtain ⟨hq1, hq2⟩ := h2
  have hm0 : ¬ m = 0 := by omega
  have hwq : wrap64 (t.tdiv m) = t.tdiv m := wrap64_in hq1
  cases hz : decide (t.tmod m < 0) with
  | true =>
    have hz1 := of_decide_eq_true hz
    have hq3 := hq2 hz1
    have hwq2 : wrap64 (t.tdiv m - 1) = t.tdiv m - 1 := wrap64_in hq3
    have HR : Hid (R = t.tdiv m - 1) := Lib.hid (HM.out.trans (if_pos hz1))
    clear HM hq2
    clear hz
    go_wp2
    go_ret
    exact ⟨by rw [HR.out]; show Ending.returned (.int .i64 (wrap64 (t.tdiv m - 1))) = _; rw [hwq2], rfl⟩
  | false =>
    have hz1 := of_decide_eq_false hz
    have HR : Hid (R = t.tdiv m) := Lib.hid (HM.out.trans (if_neg hz1))
    clear HM hq2
    clear hz
    go_wp2
    go_ret
    exact ⟨by rw [HR.out]; rfl, rfl⟩
end Go.Proofs.Ytbeoihjfjkbfhaa
