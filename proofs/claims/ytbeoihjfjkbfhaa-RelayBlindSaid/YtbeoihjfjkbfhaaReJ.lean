/-
  One relay: its calls, with all that lies below it kept; the examples. Nothing is asked.
-/
import Derived.Test.YtbeoihjfjkbfhaaReI
namespace Go.Proofs.Ytbeoihjfjkbfhaa
set_option linter.unusedVariables false
set_option linter.unusedSimpArgs false
open Go.RowKit
/-- A relay at p, from B on. -/
def RX (B : Nat) (w : World) (p : Nat) (r : Rl) : Prop := B ≤ w.heap.size ∧ ∃ mb, RW B w p mb r
theorem RX.ext {B : Nat} {w w' : World} {p : Nat} {r : Rl} (h : RX B w p r) (x : Ext w w') : RX B w' p r := by
  obtain ⟨hB, mb, h⟩ := h
  exact ⟨Nat.le_trans hB x.size, mb, h.ext x⟩
theorem new_x (least every : Int) (w : World) (hl : OkI least) (he : OkI every) :
    Calls Try.prog 12 #[.int .i64 least, .int .i64 every] w fun e w' => e = .returned (.pointer (some ⟨w.heap.size, 0, none⟩)) ∧ RX w.heap.size w' w.heap.size ⟨least, every, [], 0, false, false⟩ ∧ Ext w w' :=
  (new_any least every w hl he).mono fun _ _ ⟨h1, h2, h3⟩ => ⟨h1, ⟨h3.size, none, h2⟩, h3⟩
theorem ask_x {B : Nat} {p : Nat} {r : Rl} {w : World} (h : RX B w p r) (q : Qn) (t : Int) (hw : OkI q.who) (ht : OkI t) (n : Int) (r' : Rl) (hn : askE r q t = n) (hr : askR r q t = r') :
    Calls Try.prog 20 #[.pointer (some ⟨p, 0, none⟩), .int .i64 q.who, .int .i64 t, .string q.text] w fun e w' => e = .returned (.int .i64 n) ∧ RX B w' p r' ∧ Below B w w' := by
  obtain ⟨hB, mb, h⟩ := h
  subst hn hr
  refine (ask_any p mb r q t w h hB hw ht).mono ?_
  rintro e w' ⟨h1, mb', h2, h3, h4⟩
  exact ⟨h1, ⟨Nat.le_trans hB h3.size, mb', h2⟩, h3.below hB h.at_ fun b e => (h.map.lt b e).1⟩
theorem tick_x {B : Nat} {p : Nat} {r : Rl} {w : World} (h : RX B w p r) (t : Int) (ht : OkI t) (o : Option (List ByteArray)) (r' : Rl) (ho : (tickF r t).1 = o) (hr : (tickF r t).2 = r') :
    Calls Try.prog 16 #[.pointer (some ⟨p, 0, none⟩), .int .i64 t] w fun e w' => ∃ v, e = .returned v ∧ BatR w.heap.size w' v o ∧ RX B w' p r' ∧ Below B w w' := by
  obtain ⟨hB, mb, h⟩ := h
  subst ho hr
  refine (tick_any p mb r t w h ht).mono ?_
  rintro e w' ⟨v, h1, h2, h3, h4⟩
  exact ⟨v, h1, h2, ⟨Nat.le_trans hB h4.size, mb, h3⟩, h4.below hB h.at_ fun b e => (h.map.lt b e).1⟩
theorem close_x {B : Nat} {p : Nat} {r : Rl} {w : World} (h : RX B w p r) (o : Option (List ByteArray)) (r' : Rl) (ho : (closeF r).1 = o) (hr : (closeF r).2 = r') :
    Calls Try.prog 18 #[.pointer (some ⟨p, 0, none⟩)] w fun e w' => ∃ v, e = .returned v ∧ BatR w.heap.size w' v o ∧ RX B w' p r' ∧ Below B w w' := by
  obtain ⟨hB, mb, h⟩ := h
  subst ho hr
  refine (close_any p mb r w h).mono ?_
  rintro e w' ⟨v, h1, h2, ⟨mb', h3, -⟩, h4⟩
  exact ⟨v, h1, h2, ⟨Nat.le_trans hB h4.size, mb', h3⟩, h4.below hB h.at_ fun b e => (h.map.lt b e).1⟩
theorem waiting_x {B : Nat} {p : Nat} {r : Rl} {w : World} (h : RX B w p r) (n : Nat) (hn : r.l.length = n) :
    Calls Try.prog 22 #[.pointer (some ⟨p, 0, none⟩)] w fun e w' => e = .returned (.int .i64 n) ∧ w' = w := by
  obtain ⟨hB, mb, h⟩ := h
  subst hn
  exact waiting_any p mb r w h
theorem Below.then {B : Nat} {a b c : World} (h : Below B a b) (k : Below B b c) : Below B a c := Below.trans h k
def tA : ByteArray := ⟨#[97, 63]⟩
def tB : ByteArray := ⟨#[98, 63]⟩
def tC : ByteArray := ⟨#[99, 63]⟩
def tD : ByteArray := ⟨#[100, 63]⟩
def tE : ByteArray := ⟨#[101, 63]⟩
def s0 : Rl := ⟨2, 10, [], 0, false, false⟩
def s1 : Rl := ⟨2, 10, [(⟨1, tA⟩, 0)], 3, true, false⟩
def s2 : Rl := ⟨2, 10, [(⟨1, tA⟩, 0), (⟨1, tB⟩, 0)], 4, true, false⟩
def s3 : Rl := ⟨2, 10, [(⟨1, tA⟩, 0), (⟨1, tB⟩, 0)], 12, true, false⟩
def s4 : Rl := ⟨2, 10, [(⟨1, tA⟩, 0), (⟨1, tB⟩, 0), (⟨2, tC⟩, 1)], 13, true, false⟩
def s5 : Rl := ⟨2, 10, [(⟨1, tA⟩, 0), (⟨1, tB⟩, 0), (⟨2, tC⟩, 1)], 19, true, false⟩
def s6 : Rl := ⟨2, 10, [], 20, true, false⟩
def s7 : Rl := ⟨2, 10, [(⟨3, tD⟩, 2)], 21, true, false⟩
def s8 : Rl := ⟨2, 10, [], 21, true, true⟩
theorem e1 : askE s0 ⟨1, tA⟩ 3 = 0 := by decide
theorem e2 : askE s1 ⟨1, tB⟩ 4 = 0 := by
  unfold askE
  rw [if_neg (by decide), if_neg (by decide), if_neg (by decide), if_neg (by simp [s1, tA, tB]), if_neg (by decide)]
theorem e4 : askE s3 ⟨2, tC⟩ 13 = 0 := by
  unfold askE
  rw [if_neg (by decide), if_neg (by decide), if_neg (by decide), if_neg (by simp [s3, tA, tB, tC]), if_neg (by decide)]
theorem e6 : askE s6 ⟨3, tD⟩ 19 = 32 := by decide
theorem e7 : askE s6 ⟨3, ⟨#[]⟩⟩ 21 = 1 := by decide
theorem e8 : askE s6 ⟨3, tD⟩ 21 = 0 := by decide
theorem e9 : askE s8 ⟨4, tE⟩ 30 = 31 := by decide
theorem r1 : askR s0 ⟨1, tA⟩ 3 = s1 := by unfold askR; rw [if_pos e1]; rfl
theorem r2 : askR s1 ⟨1, tB⟩ 4 = s2 := by unfold askR; rw [if_pos e2]; rfl
theorem r4 : askR s3 ⟨2, tC⟩ 13 = s4 := by unfold askR; rw [if_pos e4]; rfl
theorem r6 : askR s6 ⟨3, tD⟩ 19 = s6 := by unfold askR; rw [if_neg (by rw [e6]; decide)]
theorem r7 : askR s6 ⟨3, ⟨#[]⟩⟩ 21 = s6 := by unfold askR; rw [if_neg (by rw [e7]; decide)]
theorem r8 : askR s6 ⟨3, tD⟩ 21 = s7 := by unfold askR; rw [if_pos e8]; rfl
theorem r9 : askR s8 ⟨4, tE⟩ 30 = s8 := by unfold askR; rw [if_neg (by rw [e9]; decide)]
theorem k3 : tickF s2 12 = (none, s3) := by
  unfold tickF
  rw [if_neg (by decide)]
  unfold giveF
  rw [if_pos (by decide)]
  rfl
theorem k5 : tickF s4 19 = (none, s5) := by
  unfold tickF
  rw [if_neg (by decide)]
  unfold giveF
  rw [if_pos (by decide)]
  rfl
theorem k6 : tickF s5 20 = (some (srtT [tA, tB, tC]), s6) := by
  unfold tickF
  rw [if_neg (by decide)]
  unfold giveF
  rw [if_neg (by decide)]
  rfl
theorem k8 : closeF s7 = (none, s8) := by
  unfold closeF
  rw [if_neg (by decide)]
  unfold giveF
  rw [if_pos (by decide)]
  rfl
end Go.Proofs.Ytbeoihjfjkbfhaa
