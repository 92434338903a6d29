/-
  Lemmas of this claim (JtU). Nothing is asked.
-/
import Derived.Test.YteomcpplajeidaaGreatJtT
import Derived.Test.YteomcpplajeidaaGreatJtS
namespace Go.Proofs.YteomcpplajeidaaGreat
set_option linter.unusedVariables false
set_option linter.unusedSimpArgs false
set_option maxRecDepth 100000
open Go.RowKit
def litS : ByteArray := ⟨#[116, 101, 110, 100, 101, 114, 32, 67, 104, 97, 105, 114, 115, 10, 108, 111, 116, 32, 49, 32, 109, 111, 115, 116, 32, 53, 48, 48, 10, 99, 114, 105, 116, 101, 114, 105, 111, 110, 32, 99, 111, 109, 102, 111, 114, 116, 32, 103, 114, 97, 100, 101, 32, 48, 32, 49, 48, 10, 112, 114, 105, 99, 101, 32, 49, 32, 53, 48, 48, 10, 102, 111, 114, 109, 117, 108, 97, 32, 48, 46, 54, 32, 42, 32, 108, 111, 119, 32, 47, 32, 112, 114, 105, 99, 101, 32, 43, 32, 48, 46, 48, 52, 32, 42, 32, 99, 111, 109, 102, 111, 114, 116, 10, 116, 105, 101, 32, 99, 111, 109, 102, 111, 114, 116, 10, 98, 117, 100, 103, 101, 116, 32, 53, 48, 48, 10, 116, 105, 109, 101, 115, 32, 49, 48, 32, 50, 48, 32, 51, 48, 32, 52, 48, 32, 53, 10]⟩
theorem litS_size : litS.size = 156 := by kernel_rfl
abbrev tokL0 : List (ByteArray × Int) := [(⟨#[116, 101, 110, 100, 101, 114]⟩, 0), (⟨#[67, 104, 97, 105, 114, 115]⟩, 7), (⟨#[]⟩, 13)]
theorem tokL0_eq : splL litS 0 13 = tokL0 := by kernel_rfl
abbrev tokL1 : List (ByteArray × Int) := [(⟨#[108, 111, 116]⟩, 14), (⟨#[49]⟩, 18), (⟨#[109, 111, 115, 116]⟩, 20), (⟨#[53, 48, 48]⟩, 25), (⟨#[]⟩, 28)]
theorem tokL1_eq : splL litS 14 28 = tokL1 := by kernel_rfl
abbrev tokL2 : List (ByteArray × Int) := [(⟨#[99, 114, 105, 116, 101, 114, 105, 111, 110]⟩, 29), (⟨#[99, 111, 109, 102, 111, 114, 116]⟩, 39), (⟨#[103, 114, 97, 100, 101]⟩, 47), (⟨#[48]⟩, 53), (⟨#[49, 48]⟩, 55), (⟨#[]⟩, 57)]
theorem tokL2_eq : splL litS 29 57 = tokL2 := by kernel_rfl
abbrev tokL3 : List (ByteArray × Int) := [(⟨#[112, 114, 105, 99, 101]⟩, 58), (⟨#[49]⟩, 64), (⟨#[53, 48, 48]⟩, 66), (⟨#[]⟩, 69)]
theorem tokL3_eq : splL litS 58 69 = tokL3 := by kernel_rfl
abbrev tokL4 : List (ByteArray × Int) := [(⟨#[102, 111, 114, 109, 117, 108, 97]⟩, 70), (⟨#[48, 46, 54]⟩, 78), (⟨#[42]⟩, 82), (⟨#[108, 111, 119]⟩, 84), (⟨#[47]⟩, 88), (⟨#[112, 114, 105, 99, 101]⟩, 90), (⟨#[43]⟩, 96), (⟨#[48, 46, 48, 52]⟩, 98), (⟨#[42]⟩, 103), (⟨#[99, 111, 109, 102, 111, 114, 116]⟩, 105), (⟨#[]⟩, 112)]
theorem tokL4_eq : splL litS 70 112 = tokL4 := by kernel_rfl
abbrev tokL5 : List (ByteArray × Int) := [(⟨#[116, 105, 101]⟩, 113), (⟨#[99, 111, 109, 102, 111, 114, 116]⟩, 117), (⟨#[]⟩, 124)]
theorem tokL5_eq : splL litS 113 124 = tokL5 := by kernel_rfl
abbrev tokL6 : List (ByteArray × Int) := [(⟨#[98, 117, 100, 103, 101, 116]⟩, 125), (⟨#[53, 48, 48]⟩, 132), (⟨#[]⟩, 135)]
theorem tokL6_eq : splL litS 125 135 = tokL6 := by kernel_rfl
abbrev tokL7 : List (ByteArray × Int) := [(⟨#[116, 105, 109, 101, 115]⟩, 136), (⟨#[49, 48]⟩, 142), (⟨#[50, 48]⟩, 145), (⟨#[51, 48]⟩, 148), (⟨#[52, 48]⟩, 151), (⟨#[53]⟩, 154), (⟨#[]⟩, 155)]
theorem tokL7_eq : splL litS 136 155 = tokL7 := by kernel_rfl
theorem tokL8_eq : splL litS 156 156 = [((⟨#[]⟩ : ByteArray), (156 : Int))] := by kernel_rfl
abbrev tokF : List (ByteArray × Int) := [(⟨#[48, 46, 54]⟩, 78), (⟨#[42]⟩, 82), (⟨#[108, 111, 119]⟩, 84), (⟨#[47]⟩, 88), (⟨#[112, 114, 105, 99, 101]⟩, 90), (⟨#[43]⟩, 96), (⟨#[48, 46, 48, 52]⟩, 98), (⟨#[42]⟩, 103), (⟨#[99, 111, 109, 102, 111, 114, 116]⟩, 105), (⟨#[]⟩, 112)]
theorem tokF_eq : parL litS 77 112 = tokF := by kernel_rfl
def frL : Nat → Nat
  | 0 => 0
  | 1 => 14
  | 2 => 29
  | 3 => 58
  | 4 => 70
  | 5 => 113
  | 6 => 125
  | 7 => 136
  | 8 => 156
  | _ => 157
def edL : Nat → Nat
  | 0 => 13
  | 1 => 28
  | 2 => 57
  | 3 => 69
  | 4 => 112
  | 5 => 124
  | 6 => 135
  | 7 => 155
  | _ => 156
theorem line_bytes : ∀ i, i < 8 → ∀ k, k ≤ 156 → frL i ≤ k → k ≤ edL i → (byZ litS k = 10 ↔ k = edL i) := by decide +kernel
theorem line_next : ∀ i, i < 9 → frL (i + 1) = edL i + 1 ∧ frL i ≤ edL i ∧ edL i ≤ 156 := by decide
end Go.Proofs.YteomcpplajeidaaGreat
namespace Go.Proofs.YteomcpplajeidaaGreat
set_option linter.unusedVariables false
set_option linter.unusedSimpArgs false
set_option maxRecDepth 100000
open Go.RowKit
abbrev restOf (S : ByteArray) (r : TnR) (sv : Value) : List Value := [.string S, .string r.nm, slV r.ls, slV r.cs, slV r.rs, .int .i64 r.low, .int .i64 r.high, .string r.fo, .int .i64 r.f1, .int .i64 r.f2, .string r.fn, slV r.fa, slV r.ts, .int .i64 r.most, slV r.ks, .int .i64 r.budget, .int .i64 r.t0, .int .i64 r.t1, .int .i64 r.t2, .int .i64 r.t3, .int .i64 r.t4, sv]
structure NumT (s : ByteArray) (least n : Int) : Prop where
  sz : s.size ≤ 1000000
  num : numS s = true
  val : valU s s.size = n
  lo : least ≤ n
  hi : n ≤ 1000000000
theorem numT_any {s : ByteArray} {least n : Int} (hn : NumT s least n) (T : TypeId) (p : Nat) (tv : Value) (l : List (ByteArray × Int)) (k : Nat) (rest : List Value) (w : World) (h : PX T w p tv l k rest) (hk : k < l.length) (hs : l[k].1 = s) (hkb : k ≤ 1000000) :
    Calls Tryz.prog 181 #[.pointer (some ⟨p, 0, none⟩), .int .i64 least] w fun e w' => e = .returned (.int .i64 n) ∧ PX T w' p tv l (k + 1) rest ∧ KX p w w' := by
  have := number_any T p tv l k rest least w h hk s hs hn.sz hn.num (by rw [hn.val]; exact hn.lo) (by rw [hn.val]; exact hn.hi) hkb
  rw [hn.val] at this
  exact this
set_option maxHeartbeats 8000000 in
theorem line_tender (p : Nat) (tv : Value) (l : List (ByteArray × Int)) (S : ByteArray) (r : TnR) (sv : Value) (ed : Int) (w : World) (h : PX 166 w p tv l 1 (restOf S r sv)) (hl : 2 < l.length) (s : ByteArray) (hs : l[1].1 = s) (hsz : s.size ≤ 1000) (hn : namS s = true) (hz0 : l[2].1 = ⟨#[]⟩) :
    Calls Tryz.prog 144 #[.pointer (some ⟨p, 0, none⟩), .string ⟨#[116, 101, 110, 100, 101, 114]⟩, .int .i64 ed] w fun e w' => e = .returned (.tuple #[]) ∧ PX 166 w' p tv l 2 (restOf S { r with nm := s } sv) ∧ KX p w w' := by
  have HW0 : Hid (∀ wz rest (hz : PX 166 wz p tv l 2 rest), Calls Tryz.prog 140 #[.pointer (some ⟨p, 0, none⟩)] wz fun e w' => e = .returned (.string ⟨#[]⟩) ∧ Ext wz w') := Lib.hid (fun wz rest hz => by have := text_any p tv l 2 wz hz.c.1 hz.c.2.1 hz.tok (by omega); rw [hz0] at this; exact this)
  have HT := Lib.hid (fun wz rest (hz : PX 166 wz p tv l 1 rest) => text_any p tv l 1 wz hz.c.1 hz.c.2.1 hz.tok (by omega))
  rw [hs] at HT
  have HN := Lib.hid (fun wz => IsName_any s (by omega) wz)
  rw [hn] at HN
  have HP := Lib.hid h
  have hpl := Rg.lt_of_heap h.at_
  clear h hs hn hz0
  go_enter Tryz.func144, Tryz.ntmps144
  go_upto_region 3 with (go_at_call 140; (with_reducible refine (HT.out _ _ HP.out).mono ?_); rintro e w1 ⟨rfl, hx1⟩; have HP1 := Lib.hid (HP.out.ext hx1); have HX1 := Lib.hid (KX.of_ext (bn := p) hx1); clear hx1; have r1 : w1.cell? ⟨p, 5, none⟩ = some (.string r.nm) := HP1.out.r 1; have f1 : w1.frozen? ⟨p, 5, none⟩ = false := put_frozen HP1.out.at_)
  have HP2 : Hid (PX 166 (w1.setCell ⟨p, 5, none⟩ (.string s)) p tv l 1 (restOf S { r with nm := s } sv)) := Lib.hid (HP1.out.put 1 (.string s))
  have HX2 := Lib.hid (HX1.out.set (j := 5) (.string s))
  generalize w1.setCell ⟨p, 5, none⟩ (.string s) = w2 at *
  clear r1 f1 HP1 HX1
  have r1 : w2.cell? ⟨p, 5, none⟩ = some (.string s) := HP2.out.r 1
  obtain ⟨c0, c1, c2, c3⟩ := HP2.out.c
  have f1 : w2.frozen? ⟨p, 1, none⟩ = false := put_frozen HP2.out.at_
  have hp2 := Rg.lt_of_heap HP2.out.at_
  go_upto_region 39 with (go_at_call 93; (with_reducible refine (HN.out _).mono ?_); rintro e w2 ⟨rfl, rfl⟩)
  have HP3 : Hid (PX 166 (w2.setCell ⟨p, 1, none⟩ (.int .i64 2)) p tv l 2 (restOf S { r with nm := s } sv)) := Lib.hid (HP2.out.step 2)
  have HX3 := Lib.hid (HX2.out.set (j := 1) (.int .i64 2))
  clear r1 c0 c1 c2 c3 f1
  generalize w2.setCell ⟨p, 1, none⟩ (.int .i64 2) = w3 at *
  obtain ⟨c0, c1, c2, c3⟩ := HP3.out.c
  have hp3 := Rg.lt_of_heap HP3.out.at_
  go_wp2_with (go_at_call 140; (with_reducible refine (HW0.out _ _ HP3.out).mono ?_); rintro e w4 ⟨rfl, hx4⟩; have HX4 := Lib.hid hx4; clear hx4)
  go_end0
  exact ⟨rfl, HP3.out.ext HX4.out, HX3.out.ext HX4.out⟩
set_option maxHeartbeats 8000000 in
theorem line_price (p : Nat) (tv : Value) (l : List (ByteArray × Int)) (S : ByteArray) (r : TnR) (sv : Value) (ed : Int) (w : World) (h : PX 166 w p tv l 1 (restOf S r sv)) (hl : 3 < l.length) (s1 s2 : ByteArray) (n1 n2 : Int) (hs1 : l[1].1 = s1) (hn1 : NumT s1 0 n1) (hs2 : l[2].1 = s2) (hn2 : NumT s2 0 n2) (hz0 : l[3].1 = ⟨#[]⟩) :
    Calls Tryz.prog 144 #[.pointer (some ⟨p, 0, none⟩), .string ⟨#[112, 114, 105, 99, 101]⟩, .int .i64 ed] w fun e w' => e = .returned (.tuple #[]) ∧ PX 166 w' p tv l 3 (restOf S { r with low := n1, high := n2 } sv) ∧ KX p w w' := by
  have HW0 : Hid (∀ wz rest (hz : PX 166 wz p tv l 3 rest), Calls Tryz.prog 140 #[.pointer (some ⟨p, 0, none⟩)] wz fun e w' => e = .returned (.string ⟨#[]⟩) ∧ Ext wz w') := Lib.hid (fun wz rest hz => by have := text_any p tv l 3 wz hz.c.1 hz.c.2.1 hz.tok (by omega); rw [hz0] at this; exact this)
  have HN1 := Lib.hid (fun wz rest (hz : PX 166 wz p tv l 1 rest) => numT_any hn1 166 p tv l 1 rest wz hz (by omega) hs1 (by omega))
  have HN2 := Lib.hid (fun wz rest (hz : PX 166 wz p tv l 2 rest) => numT_any hn2 166 p tv l 2 rest wz hz (by omega) hs2 (by omega))
  have HP := Lib.hid h
  have HX := Lib.hid (KX.of_ext (bn := p) (Ext.refl w))
  have hpl := Rg.lt_of_heap h.at_
  clear h hz0 hs1 hn1 hs2 hn2
  go_enter Tryz.func144, Tryz.ntmps144
  go_upto_region 18 with (go_at_call 181; (with_reducible refine (HN1.out _ _ HP.out).mono ?_); rintro e wq ⟨rfl, hpq, hxq⟩; have HP := Lib.hid hpq; have HX := Lib.hid (HX.out.trans hxq); clear hpq hxq; have r1 : wq.cell? ⟨p, 9, none⟩ = some (.int .i64 r.low) := HP.out.r 5; have f1 : wq.frozen? ⟨p, 9, none⟩ = false := put_frozen HP.out.at_; have hp1 := Rg.lt_of_heap HP.out.at_)
  have HP : Hid (PX 166 (wq.setCell ⟨p, 9, none⟩ (.int .i64 n1)) p tv l 2 (restOf S { r with low := n1 } sv)) := Lib.hid (HP.out.put 5 (.int .i64 n1))
  have HX := Lib.hid (HX.out.set (j := 9) (.int .i64 n1))
  clear r1 f1 hp1
  generalize wq.setCell ⟨p, 9, none⟩ (.int .i64 n1) = wq at *
  have hp1 := Rg.lt_of_heap HP.out.at_
  go_upto_region 39 with (go_at_call 181; (with_reducible refine (HN2.out _ _ HP.out).mono ?_); rintro e wq ⟨rfl, hpq, hxq⟩; have HP := Lib.hid hpq; have HX := Lib.hid (HX.out.trans hxq); clear hpq hxq; have r1 : wq.cell? ⟨p, 10, none⟩ = some (.int .i64 r.high) := HP.out.r 6; have f1 : wq.frozen? ⟨p, 10, none⟩ = false := put_frozen HP.out.at_; have hp1 := Rg.lt_of_heap HP.out.at_)
  have HP : Hid (PX 166 (wq.setCell ⟨p, 10, none⟩ (.int .i64 n2)) p tv l 3 (restOf S { r with low := n1, high := n2 } sv)) := Lib.hid (HP.out.put 6 (.int .i64 n2))
  have HX := Lib.hid (HX.out.set (j := 10) (.int .i64 n2))
  clear r1 f1 hp1
  generalize wq.setCell ⟨p, 10, none⟩ (.int .i64 n2) = wq at *
  have hp1 := Rg.lt_of_heap HP.out.at_
  obtain ⟨c0, c1, c2, c3⟩ := HP.out.c
  go_wp2_with (go_at_call 140; (with_reducible refine (HW0.out _ _ HP.out).mono ?_); rintro e w4 ⟨rfl, hx4⟩; have HX4 := Lib.hid hx4; clear hx4)
  go_end0
  exact ⟨rfl, HP.out.ext HX4.out, HX.out.ext HX4.out⟩
set_option maxHeartbeats 8000000 in
theorem line_budget (p : Nat) (tv : Value) (l : List (ByteArray × Int)) (S : ByteArray) (r : TnR) (sv : Value) (ed : Int) (w : World) (h : PX 166 w p tv l 1 (restOf S r sv)) (hl : 2 < l.length) (s1 : ByteArray) (n1 : Int) (hs1 : l[1].1 = s1) (hn1 : NumT s1 0 n1) (hz0 : l[2].1 = ⟨#[]⟩) :
    Calls Tryz.prog 144 #[.pointer (some ⟨p, 0, none⟩), .string ⟨#[98, 117, 100, 103, 101, 116]⟩, .int .i64 ed] w fun e w' => e = .returned (.tuple #[]) ∧ PX 166 w' p tv l 2 (restOf S { r with budget := n1 } sv) ∧ KX p w w' := by
  have HW0 : Hid (∀ wz rest (hz : PX 166 wz p tv l 2 rest), Calls Tryz.prog 140 #[.pointer (some ⟨p, 0, none⟩)] wz fun e w' => e = .returned (.string ⟨#[]⟩) ∧ Ext wz w') := Lib.hid (fun wz rest hz => by have := text_any p tv l 2 wz hz.c.1 hz.c.2.1 hz.tok (by omega); rw [hz0] at this; exact this)
  have HN1 := Lib.hid (fun wz rest (hz : PX 166 wz p tv l 1 rest) => numT_any hn1 166 p tv l 1 rest wz hz (by omega) hs1 (by omega))
  have HP := Lib.hid h
  have HX := Lib.hid (KX.of_ext (bn := p) (Ext.refl w))
  have hpl := Rg.lt_of_heap h.at_
  clear h hz0 hs1 hn1
  go_enter Tryz.func144, Tryz.ntmps144
  go_upto_region 39 with (go_at_call 181; (with_reducible refine (HN1.out _ _ HP.out).mono ?_); rintro e wq ⟨rfl, hpq, hxq⟩; have HP := Lib.hid hpq; have HX := Lib.hid (HX.out.trans hxq); clear hpq hxq; have r1 : wq.cell? ⟨p, 19, none⟩ = some (.int .i64 r.budget) := HP.out.r 15; have f1 : wq.frozen? ⟨p, 19, none⟩ = false := put_frozen HP.out.at_; have hp1 := Rg.lt_of_heap HP.out.at_)
  have HP : Hid (PX 166 (wq.setCell ⟨p, 19, none⟩ (.int .i64 n1)) p tv l 2 (restOf S { r with budget := n1 } sv)) := Lib.hid (HP.out.put 15 (.int .i64 n1))
  have HX := Lib.hid (HX.out.set (j := 19) (.int .i64 n1))
  clear r1 f1 hp1
  generalize wq.setCell ⟨p, 19, none⟩ (.int .i64 n1) = wq at *
  have hp1 := Rg.lt_of_heap HP.out.at_
  obtain ⟨c0, c1, c2, c3⟩ := HP.out.c
  go_wp2_with (go_at_call 140; (with_reducible refine (HW0.out _ _ HP.out).mono ?_); rintro e w4 ⟨rfl, hx4⟩; have HX4 := Lib.hid hx4; clear hx4)
  go_end0
  exact ⟨rfl, HP.out.ext HX4.out, HX.out.ext HX4.out⟩
set_option maxHeartbeats 8000000 in
theorem line_times (p : Nat) (tv : Value) (l : List (ByteArray × Int)) (S : ByteArray) (r : TnR) (sv : Value) (ed : Int) (w : World) (h : PX 166 w p tv l 1 (restOf S r sv)) (hl : 6 < l.length) (s1 s2 s3 s4 s5 : ByteArray) (n1 n2 n3 n4 n5 : Int) (hs1 : l[1].1 = s1) (hn1 : NumT s1 0 n1) (hs2 : l[2].1 = s2) (hn2 : NumT s2 0 n2) (hs3 : l[3].1 = s3) (hn3 : NumT s3 0 n3) (hs4 : l[4].1 = s4) (hn4 : NumT s4 0 n4) (hs5 : l[5].1 = s5) (hn5 : NumT s5 0 n5) (hz0 : l[6].1 = ⟨#[]⟩) :
    Calls Tryz.prog 144 #[.pointer (some ⟨p, 0, none⟩), .string ⟨#[116, 105, 109, 101, 115]⟩, .int .i64 ed] w fun e w' => e = .returned (.tuple #[]) ∧ PX 166 w' p tv l 6 (restOf S { r with t0 := n1, t1 := n2, t2 := n3, t3 := n4, t4 := n5 } sv) ∧ KX p w w' := by
  have HW0 : Hid (∀ wz rest (hz : PX 166 wz p tv l 6 rest), Calls Tryz.prog 140 #[.pointer (some ⟨p, 0, none⟩)] wz fun e w' => e = .returned (.string ⟨#[]⟩) ∧ Ext wz w') := Lib.hid (fun wz rest hz => by have := text_any p tv l 6 wz hz.c.1 hz.c.2.1 hz.tok (by omega); rw [hz0] at this; exact this)
  have HN1 := Lib.hid (fun wz rest (hz : PX 166 wz p tv l 1 rest) => numT_any hn1 166 p tv l 1 rest wz hz (by omega) hs1 (by omega))
  have HN2 := Lib.hid (fun wz rest (hz : PX 166 wz p tv l 2 rest) => numT_any hn2 166 p tv l 2 rest wz hz (by omega) hs2 (by omega))
  have HN3 := Lib.hid (fun wz rest (hz : PX 166 wz p tv l 3 rest) => numT_any hn3 166 p tv l 3 rest wz hz (by omega) hs3 (by omega))
  have HN4 := Lib.hid (fun wz rest (hz : PX 166 wz p tv l 4 rest) => numT_any hn4 166 p tv l 4 rest wz hz (by omega) hs4 (by omega))
  have HN5 := Lib.hid (fun wz rest (hz : PX 166 wz p tv l 5 rest) => numT_any hn5 166 p tv l 5 rest wz hz (by omega) hs5 (by omega))
  have HP := Lib.hid h
  have HX := Lib.hid (KX.of_ext (bn := p) (Ext.refl w))
  have hpl := Rg.lt_of_heap h.at_
  clear h hz0 hs1 hn1 hs2 hn2 hs3 hn3 hs4 hn4 hs5 hn5
  go_enter Tryz.func144, Tryz.ntmps144
  go_upto_region 35 with (go_at_call 181; (with_reducible refine (HN1.out _ _ HP.out).mono ?_); rintro e wq ⟨rfl, hpq, hxq⟩; have HP := Lib.hid hpq; have HX := Lib.hid (HX.out.trans hxq); clear hpq hxq; have r1 : wq.cell? ⟨p, 20, none⟩ = some (.int .i64 r.t0) := HP.out.r 16; have f1 : wq.frozen? ⟨p, 20, none⟩ = false := put_frozen HP.out.at_; have hp1 := Rg.lt_of_heap HP.out.at_)
  have HP : Hid (PX 166 (wq.setCell ⟨p, 20, none⟩ (.int .i64 n1)) p tv l 2 (restOf S { r with t0 := n1 } sv)) := Lib.hid (HP.out.put 16 (.int .i64 n1))
  have HX := Lib.hid (HX.out.set (j := 20) (.int .i64 n1))
  clear r1 f1 hp1
  generalize wq.setCell ⟨p, 20, none⟩ (.int .i64 n1) = wq at *
  have hp1 := Rg.lt_of_heap HP.out.at_
  go_upto_region 36 with (go_at_call 181; (with_reducible refine (HN2.out _ _ HP.out).mono ?_); rintro e wq ⟨rfl, hpq, hxq⟩; have HP := Lib.hid hpq; have HX := Lib.hid (HX.out.trans hxq); clear hpq hxq; have r1 : wq.cell? ⟨p, 21, none⟩ = some (.int .i64 r.t1) := HP.out.r 17; have f1 : wq.frozen? ⟨p, 21, none⟩ = false := put_frozen HP.out.at_; have hp1 := Rg.lt_of_heap HP.out.at_)
  have HP : Hid (PX 166 (wq.setCell ⟨p, 21, none⟩ (.int .i64 n2)) p tv l 3 (restOf S { r with t0 := n1, t1 := n2 } sv)) := Lib.hid (HP.out.put 17 (.int .i64 n2))
  have HX := Lib.hid (HX.out.set (j := 21) (.int .i64 n2))
  clear r1 f1 hp1
  generalize wq.setCell ⟨p, 21, none⟩ (.int .i64 n2) = wq at *
  have hp1 := Rg.lt_of_heap HP.out.at_
  go_upto_region 37 with (go_at_call 181; (with_reducible refine (HN3.out _ _ HP.out).mono ?_); rintro e wq ⟨rfl, hpq, hxq⟩; have HP := Lib.hid hpq; have HX := Lib.hid (HX.out.trans hxq); clear hpq hxq; have r1 : wq.cell? ⟨p, 22, none⟩ = some (.int .i64 r.t2) := HP.out.r 18; have f1 : wq.frozen? ⟨p, 22, none⟩ = false := put_frozen HP.out.at_; have hp1 := Rg.lt_of_heap HP.out.at_)
  have HP : Hid (PX 166 (wq.setCell ⟨p, 22, none⟩ (.int .i64 n3)) p tv l 4 (restOf S { r with t0 := n1, t1 := n2, t2 := n3 } sv)) := Lib.hid (HP.out.put 18 (.int .i64 n3))
  have HX := Lib.hid (HX.out.set (j := 22) (.int .i64 n3))
  clear r1 f1 hp1
  generalize wq.setCell ⟨p, 22, none⟩ (.int .i64 n3) = wq at *
  have hp1 := Rg.lt_of_heap HP.out.at_
  go_upto_region 38 with (go_at_call 181; (with_reducible refine (HN4.out _ _ HP.out).mono ?_); rintro e wq ⟨rfl, hpq, hxq⟩; have HP := Lib.hid hpq; have HX := Lib.hid (HX.out.trans hxq); clear hpq hxq; have r1 : wq.cell? ⟨p, 23, none⟩ = some (.int .i64 r.t3) := HP.out.r 19; have f1 : wq.frozen? ⟨p, 23, none⟩ = false := put_frozen HP.out.at_; have hp1 := Rg.lt_of_heap HP.out.at_)
  have HP : Hid (PX 166 (wq.setCell ⟨p, 23, none⟩ (.int .i64 n4)) p tv l 5 (restOf S { r with t0 := n1, t1 := n2, t2 := n3, t3 := n4 } sv)) := Lib.hid (HP.out.put 19 (.int .i64 n4))
  have HX := Lib.hid (HX.out.set (j := 23) (.int .i64 n4))
  clear r1 f1 hp1
  generalize wq.setCell ⟨p, 23, none⟩ (.int .i64 n4) = wq at *
  have hp1 := Rg.lt_of_heap HP.out.at_
  go_upto_region 39 with (go_at_call 181; (with_reducible refine (HN5.out _ _ HP.out).mono ?_); rintro e wq ⟨rfl, hpq, hxq⟩; have HP := Lib.hid hpq; have HX := Lib.hid (HX.out.trans hxq); clear hpq hxq; have r1 : wq.cell? ⟨p, 24, none⟩ = some (.int .i64 r.t4) := HP.out.r 20; have f1 : wq.frozen? ⟨p, 24, none⟩ = false := put_frozen HP.out.at_; have hp1 := Rg.lt_of_heap HP.out.at_)
  have HP : Hid (PX 166 (wq.setCell ⟨p, 24, none⟩ (.int .i64 n5)) p tv l 6 (restOf S { r with t0 := n1, t1 := n2, t2 := n3, t3 := n4, t4 := n5 } sv)) := Lib.hid (HP.out.put 20 (.int .i64 n5))
  have HX := Lib.hid (HX.out.set (j := 24) (.int .i64 n5))
  clear r1 f1 hp1
  generalize wq.setCell ⟨p, 24, none⟩ (.int .i64 n5) = wq at *
  have hp1 := Rg.lt_of_heap HP.out.at_
  obtain ⟨c0, c1, c2, c3⟩ := HP.out.c
  go_wp2_with (go_at_call 140; (with_reducible refine (HW0.out _ _ HP.out).mono ?_); rintro e w4 ⟨rfl, hx4⟩; have HX4 := Lib.hid hx4; clear hx4)
  go_end0
  exact ⟨rfl, HP.out.ext HX4.out, HX.out.ext HX4.out⟩
end Go.Proofs.YteomcpplajeidaaGreat
