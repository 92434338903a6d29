/-
  The small functions of the hash: rotations, words, bytes. Nothing is asked.
-/
import Derived.Test.YtbeoihjfjkbfhaaRp
import Derived.Test.YtbeoihjfjkbfhaaDrn
namespace Go.Proofs.Ytbeoihjfjkbfhaa
set_option linter.unusedVariables false
set_option linter.unusedSimpArgs false
open Go.RowKit

/-- A rotation to the right. -/
def rotr (x : Int) (n : Nat) : Int := bits BinOp.or IntKind.u32 (x * 2 ^ (32 - n) % 4294967296) (x / 2 ^ n)
def xor32 (a b : Int) : Int := bits BinOp.xor IntKind.u32 a b
def and32 (a b : Int) : Int := bits BinOp.and IntKind.u32 a b
def mix3 (x : Int) (a b c : Nat) : Int := xor32 (xor32 (rotr x a) (rotr x b)) (rotr x c)
def wordE (a b c d : Int) : Int :=
  bits BinOp.or IntKind.u32 (bits BinOp.or IntKind.u32 (bits BinOp.or IntKind.u32 (a * 16777216) (b * 65536)) (c * 256)) d
def byteS (x : Int) : List Int := [x / 16777216 % 256, x / 65536 % 256, x / 256 % 256, x % 256]

theorem rotl_at (x k : Int) (n : Nat) (h : (k, n) ∈ [(-2, 2), (-6, 6), (-7, 7), (-11, 11), (-13, 13), (-17, 17), (-18, 18), (-19, 19), (-22, 22), (-25, 25)]) (w : World) :
    Calls Try.prog 79 #[.int .u32 x, .int .i64 k] w fun e w' => e = .returned (.int .u32 (rotr x n)) ∧ w' = w := by
  simp only [List.mem_cons, Prod.mk.injEq, List.not_mem_nil, or_false] at h
  rcases h with ⟨rfl, rfl⟩ | ⟨rfl, rfl⟩ | ⟨rfl, rfl⟩ | ⟨rfl, rfl⟩ | ⟨rfl, rfl⟩ | ⟨rfl, rfl⟩ | ⟨rfl, rfl⟩ | ⟨rfl, rfl⟩ | ⟨rfl, rfl⟩ | ⟨rfl, rfl⟩
  · have hb : bits BinOp.and IntKind.u64 (IntKind.u64.wrap (-2)) 31 = 30 := by decide
    go_enter Try.func79, Try.ntmps79
    go_wp2
    go_ret
    exact ⟨rfl, rfl⟩
  · have hb : bits BinOp.and IntKind.u64 (IntKind.u64.wrap (-6)) 31 = 26 := by decide
    go_enter Try.func79, Try.ntmps79
    go_wp2
    go_ret
    exact ⟨rfl, rfl⟩
  · have hb : bits BinOp.and IntKind.u64 (IntKind.u64.wrap (-7)) 31 = 25 := by decide
    go_enter Try.func79, Try.ntmps79
    go_wp2
    go_ret
    exact ⟨rfl, rfl⟩
  · have hb : bits BinOp.and IntKind.u64 (IntKind.u64.wrap (-11)) 31 = 21 := by decide
    go_enter Try.func79, Try.ntmps79
    go_wp2
    go_ret
    exact ⟨rfl, rfl⟩
  · have hb : bits BinOp.and IntKind.u64 (IntKind.u64.wrap (-13)) 31 = 19 := by decide
    go_enter Try.func79, Try.ntmps79
    go_wp2
    go_ret
    exact ⟨rfl, rfl⟩
  · have hb : bits BinOp.and IntKind.u64 (IntKind.u64.wrap (-17)) 31 = 15 := by decide
    go_enter Try.func79, Try.ntmps79
    go_wp2
    go_ret
    exact ⟨rfl, rfl⟩
  · have hb : bits BinOp.and IntKind.u64 (IntKind.u64.wrap (-18)) 31 = 14 := by decide
    go_enter Try.func79, Try.ntmps79
    go_wp2
    go_ret
    exact ⟨rfl, rfl⟩
  · have hb : bits BinOp.and IntKind.u64 (IntKind.u64.wrap (-19)) 31 = 13 := by decide
    go_enter Try.func79, Try.ntmps79
    go_wp2
    go_ret
    exact ⟨rfl, rfl⟩
  · have hb : bits BinOp.and IntKind.u64 (IntKind.u64.wrap (-22)) 31 = 10 := by decide
    go_enter Try.func79, Try.ntmps79
    go_wp2
    go_ret
    exact ⟨rfl, rfl⟩
  · have hb : bits BinOp.and IntKind.u64 (IntKind.u64.wrap (-25)) 31 = 7 := by decide
    go_enter Try.func79, Try.ntmps79
    go_wp2
    go_ret
    exact ⟨rfl, rfl⟩
theorem or32_comm (a b : Int) : bits BinOp.or IntKind.u32 a b = bits BinOp.or IntKind.u32 b a := by
  simp [bits, BitVec.or_comm]
theorem rot_at (x : Int) (n : Nat) (h : n ∈ [2, 6, 7, 11, 13, 17, 18, 19, 22, 25]) (w : World) :
    Calls Try.prog 81 #[.int .u32 x, .int .i64 n] w fun e w' => e = .returned (.int .u32 (rotr x n)) ∧ ∃ k, w' = w.drewN k := by
  have hc := or32_comm
  simp only [List.mem_cons, List.not_mem_nil, or_false] at h
  rcases h with rfl | rfl | rfl | rfl | rfl | rfl | rfl | rfl | rfl | rfl
  all_goals
    unfold rotr
    rw [hc]
    clear hc
    go_enter Try.func81, Try.ntmps81
    go_wp2
    go_quiet (fail)
    go_wp2
    go_ret
    exact ⟨rfl, _, rfl⟩
theorem mixed_e (x : Int) (w : World) : Calls Try.prog 69 #[.int .u32 x, .int .i64 6, .int .i64 11, .int .i64 25] w fun e w' => e = .returned (.int .u32 (mix3 x 6 11 25)) ∧ w' = w := by
  have H1 := Lib.hid (rotl_at x (-6) 6 (by decide)); have H2 := Lib.hid (rotl_at x (-11) 11 (by decide)); have H3 := Lib.hid (rotl_at x (-25) 25 (by decide))
  unfold mix3 xor32
  generalize rotr x 6 = r1 at *; generalize rotr x 11 = r2 at *; generalize rotr x 25 = r3 at *
  go_enter Try.func69, Try.ntmps69
  go_wp2_with (go_at_call 79; (with_reducible first | refine (H1.out _).mono ?_ | refine (H2.out _).mono ?_ | refine (H3.out _).mono ?_); rintro e w2 ⟨rfl, hw2⟩; have h9 := hw2.symm; clear hw2; subst h9)
  go_ret
  exact ⟨rfl, rfl⟩
theorem mixed_a (x : Int) (w : World) : Calls Try.prog 69 #[.int .u32 x, .int .i64 2, .int .i64 13, .int .i64 22] w fun e w' => e = .returned (.int .u32 (mix3 x 2 13 22)) ∧ w' = w := by
  have H1 := Lib.hid (rotl_at x (-2) 2 (by decide)); have H2 := Lib.hid (rotl_at x (-13) 13 (by decide)); have H3 := Lib.hid (rotl_at x (-22) 22 (by decide))
  unfold mix3 xor32
  generalize rotr x 2 = r1 at *; generalize rotr x 13 = r2 at *; generalize rotr x 22 = r3 at *
  go_enter Try.func69, Try.ntmps69
  go_wp2_with (go_at_call 79; (with_reducible first | refine (H1.out _).mono ?_ | refine (H2.out _).mono ?_ | refine (H3.out _).mono ?_); rintro e w2 ⟨rfl, hw2⟩; have h9 := hw2.symm; clear hw2; subst h9)
  go_ret
  exact ⟨rfl, rfl⟩
theorem bytes_any (x : Int) (w : World) :
    Calls Try.prog 48 #[.int .u32 x] w fun e w' => e = .returned (.slice (some ⟨w.heap.size, 0, none⟩) 4 4) ∧ w' = w.alloc (.cells ((byteS x).map (Value.int .u8)).toArray 5) := by
  go_enter Try.func48, Try.ntmps48
  go_wp2
  go_ret
  exact ⟨rfl, rfl⟩
theorem word_any (b off len cap : Nat) (b0 b1 b2 b3 : Int) (w : World) (h4 : 4 ≤ len) (h0 : 0 ≤ b0 ∧ b0 < 256) (h1 : 0 ≤ b1 ∧ b1 < 256) (h2 : 0 ≤ b2 ∧ b2 < 256) (h3 : 0 ≤ b3 ∧ b3 < 256)
    (c0 : w.cell? ⟨b, off, none⟩ = some (.int .u8 b0)) (c1 : w.cell? ⟨b, off + 1, none⟩ = some (.int .u8 b1)) (c2 : w.cell? ⟨b, off + 2, none⟩ = some (.int .u8 b2)) (c3 : w.cell? ⟨b, off + 3, none⟩ = some (.int .u8 b3)) :
    Calls Try.prog 78 #[.slice (some ⟨b, off, none⟩) len cap] w fun e w' => e = .returned (.int .u32 (wordE b0 b1 b2 b3)) ∧ ∃ k, w' = w.drewN k := by
  go_enter Try.func78, Try.ntmps78
  go_wp2
  go_quiet (fail)
  go_wp2
  go_ret
  exact ⟨rfl, _, rfl⟩
end Go.Proofs.Ytbeoihjfjkbfhaa
