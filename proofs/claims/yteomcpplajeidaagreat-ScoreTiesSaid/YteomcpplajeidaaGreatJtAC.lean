/-
  Lemmas of this claim (JtAC). Nothing is asked.
-/
import Derived.Test.YteomcpplajeidaaGreatJtAB
import Derived.Test.YteomcpplajeidaaGreatJtL
import Derived.Laws.Rows
import Derived.Laws.CopyRow
namespace Go.Proofs.YteomcpplajeidaaGreat
set_option linter.unusedVariables false
set_option linter.unusedSimpArgs false
set_option maxRecDepth 100000
open Go.RowKit
theorem numT (s : ByteArray) (least n : Int) (h1 : decide (s.size ≤ 1000000) = true) (h2 : numS s = true) (h3 : valU s s.size = n) (h4 : (decide (least ≤ n) && decide (n ≤ 1000000000)) = true) : NumT s least n := by
  simp only [Bool.and_eq_true, decide_eq_true_eq] at h1 h4
  exact ⟨h1, h2, h3, h4.1, h4.2⟩
theorem lineAt0 : LineAt litS (wordL 0) 13 tokL0 (dD 0) (dD 1) := by
  intro p tv wz sv r A B hp ht hA hN hB
  refine (line_tender p tv tokL0 litS r sv 13 wz hp (by decide) chaiB rfl (by decide) (by kernel_rfl) rfl).mono ?_
  rintro e w' ⟨rfl, h1, h2⟩
  have ht' := ht.kx h2 hA
  exact ⟨rfl, _, _, h1, h2, { ht' with nm_ := rfl }⟩
theorem lineAt1 : LineAt litS (wordL 1) 28 tokL1 (dD 1) (dD 2) := by
  intro p tv wz sv r A B hp ht hA hN hB
  refine (line_lot p tv tokL1 litS r sv 28 wz hp (by decide) ⟨#[49]⟩ ⟨#[109, 111, 115, 116]⟩ ⟨#[53, 48, 48]⟩ 1 500 rfl (numT ⟨#[49]⟩ 1 1 (by kernel_rfl) (by kernel_rfl) (by kernel_rfl) (by kernel_rfl)) rfl (by kernel_rfl) rfl (numT ⟨#[53, 48, 48]⟩ 0 500 (by kernel_rfl) (by kernel_rfl) (by kernel_rfl) (by kernel_rfl)) rfl (ht.l0 rfl)).mono ?_
  rintro e w' ⟨rfl, g, cap, hg, h1, h2, h3⟩
  have ht' := ht.kx h2 hA
  exact ⟨rfl, _, _, h1, h2, { ht' with ls_ := row_base h3 hB, la := fun b hb => by injection hb with hb; rw [← hb]; exact hN g hg, l0 := fun h => by cases h }⟩
theorem lineAt2 : LineAt litS (wordL 2) 57 tokL2 (dD 2) (dD 3) := by
  intro p tv wz sv r A B hp ht hA hN hB
  refine (line_criterion p tv tokL2 litS r sv 57 wz hp (by decide) comfB ⟨#[103, 114, 97, 100, 101]⟩ ⟨#[48]⟩ ⟨#[49, 48]⟩ 0 10 rfl (by decide) (by kernel_rfl) rfl (by kernel_rfl) (by kernel_rfl) rfl (numT ⟨#[48]⟩ 0 0 (by kernel_rfl) (by kernel_rfl) (by kernel_rfl) (by kernel_rfl)) rfl (numT ⟨#[49, 48]⟩ 0 10 (by kernel_rfl) (by kernel_rfl) (by kernel_rfl) (by kernel_rfl)) rfl (ht.c0 rfl)).mono ?_
  rintro e w' ⟨rfl, g, cap, hg, h1, h2, h3⟩
  have ht' := ht.kx h2 hA
  exact ⟨rfl, _, _, h1, h2, { ht' with cs_ := row_base h3 hB, ca := fun b hb => by injection hb with hb; rw [← hb]; exact hN g hg, c0 := fun h => by cases h }⟩
theorem lineAt3 : LineAt litS (wordL 3) 69 tokL3 (dD 3) (dD 4) := by
  intro p tv wz sv r A B hp ht hA hN hB
  refine (line_price p tv tokL3 litS r sv 69 wz hp (by decide) ⟨#[49]⟩ ⟨#[53, 48, 48]⟩ 1 500 rfl (numT ⟨#[49]⟩ 0 1 (by kernel_rfl) (by kernel_rfl) (by kernel_rfl) (by kernel_rfl)) rfl (numT ⟨#[53, 48, 48]⟩ 0 500 (by kernel_rfl) (by kernel_rfl) (by kernel_rfl) (by kernel_rfl)) rfl).mono ?_
  rintro e w' ⟨rfl, h1, h2⟩
  have ht' := ht.kx h2 hA
  exact ⟨rfl, _, _, h1, h2, { ht' with low_ := rfl, high_ := rfl }⟩
theorem lineAt4 : LineAt litS (wordL 4) 112 tokL4 (dD 4) (dD 5) := by
  intro p tv wz sv r A B hp ht hA hN hB
  refine (line_formula p tv tokL4 litS r sv 112 wz hp (by decide) 70 77 rfl rfl (by decide) fT rfl (fun wy => read_any litS 77 112 (by rw [litS_size]; decide) (by decide) (by rw [litS_size]; decide) tokF tokF_eq fT 9 (by decide) (by kernel_rfl) (by decide +kernel) (by decide +kernel) formL (by decide) wy)).mono ?_
  rintro e w' ⟨rfl, op, n1, n2, nm, fa, fn, fc, h1, h2, h3⟩
  have ht' := ht.kx h3 hA
  exact ⟨rfl, _, _, h1, h3, { ht' with fo := Rd.frame (fun _ _ _ _ => rfl) (fun b hb => hN b (Nat.le_of_lt hb)) _ _ h2 }⟩
theorem lineAt5 : LineAt litS (wordL 5) 124 tokL5 (dD 5) (dD 6) := by
  intro p tv wz sv r A B hp ht hA hN hB
  refine (line_tie p tv tokL5 litS r sv 124 wz hp (by decide) comfB rfl (by decide) (by kernel_rfl) rfl (ht.s0 rfl)).mono ?_
  rintro e w' ⟨rfl, g, cap, hg, h1, h2, h3⟩
  have ht' := ht.kx h2 hA
  exact ⟨rfl, _, _, h1, h2, { ht' with ts_ := row_base h3 hB, ta := fun b hb => by injection hb with hb; rw [← hb]; exact hN g hg, s0 := fun h => by cases h }⟩
theorem lineAt6 : LineAt litS (wordL 6) 135 tokL6 (dD 6) (dD 7) := by
  intro p tv wz sv r A B hp ht hA hN hB
  refine (line_budget p tv tokL6 litS r sv 135 wz hp (by decide) ⟨#[53, 48, 48]⟩ 500 rfl (numT ⟨#[53, 48, 48]⟩ 0 500 (by kernel_rfl) (by kernel_rfl) (by kernel_rfl) (by kernel_rfl)) rfl).mono ?_
  rintro e w' ⟨rfl, h1, h2⟩
  have ht' := ht.kx h2 hA
  exact ⟨rfl, _, _, h1, h2, { ht' with budget_ := rfl }⟩
theorem lineAt7 : LineAt litS (wordL 7) 155 tokL7 (dD 7) (dD 8) := by
  intro p tv wz sv r A B hp ht hA hN hB
  refine (line_times p tv tokL7 litS r sv 155 wz hp (by decide) ⟨#[49, 48]⟩ ⟨#[50, 48]⟩ ⟨#[51, 48]⟩ ⟨#[52, 48]⟩ ⟨#[53]⟩ 10 20 30 40 5 rfl (numT ⟨#[49, 48]⟩ 0 10 (by kernel_rfl) (by kernel_rfl) (by kernel_rfl) (by kernel_rfl)) rfl (numT ⟨#[50, 48]⟩ 0 20 (by kernel_rfl) (by kernel_rfl) (by kernel_rfl) (by kernel_rfl)) rfl (numT ⟨#[51, 48]⟩ 0 30 (by kernel_rfl) (by kernel_rfl) (by kernel_rfl) (by kernel_rfl)) rfl (numT ⟨#[52, 48]⟩ 0 40 (by kernel_rfl) (by kernel_rfl) (by kernel_rfl) (by kernel_rfl)) rfl (numT ⟨#[53]⟩ 0 5 (by kernel_rfl) (by kernel_rfl) (by kernel_rfl) (by kernel_rfl)) rfl).mono ?_
  rintro e w' ⟨rfl, h1, h2⟩
  have ht' := ht.kx h2 hA
  exact ⟨rfl, _, _, h1, h2, { ht' with t0_ := rfl, t1_ := rfl, t2_ := rfl, t3_ := rfl, t4_ := rfl }⟩
end Go.Proofs.YteomcpplajeidaaGreat
namespace Go.Proofs.YteomcpplajeidaaGreat
set_option linter.unusedVariables false
set_option linter.unusedSimpArgs false
set_option maxRecDepth 100000
open Go.RowKit
set_option maxHeartbeats 8000000 in
theorem next_nil {w0 w : World} {p k : Nat} {tv : Value} {l : List (ByteArray × Int)} {S : ByteArray} {r : TnR} {sv : Value} {sn : List ByteArray} {d : TD} (h : NX w0 w p tv l k S r sv sn d) (fr ed : Nat) (hS : S.size ≤ 900000) (hfe : fr ≤ ed) (hed : ed ≤ S.size)
    (L : List (ByteArray × Int)) (hL : splL S fr ed = L) (hLl : L.length ≤ 100000) (h0 : 0 < L.length) (word : ByteArray) (hw0 : L[0].1 = word) (hne : (word.toList == []) = true) :
    Calls Tryz.prog 91 #[.pointer (some ⟨p, 0, none⟩), .int .i64 fr, .int .i64 ed] w fun e w' => e = .returned (.tuple #[]) ∧ ∃ tv', NX w0 w' p tv' L 0 S r sv sn d := by
  have HSP := Lib.hid (fun wz => split_any S fr ed hS hfe hed wz)
  rw [hL] at HSP
  have HLL := Lib.hid hLl
  have HT := Lib.hid (fun tv wz rest (hz : PX 166 wz p tv L 0 rest) => text_any p tv L 0 wz hz.c.1 hz.c.2.1 hz.tok h0)
  rw [hw0] at HT
  have HN := Lib.hid h
  have hpl := Rg.lt_of_heap h.px.at_
  have r0 : w.cell? ⟨p, 4, none⟩ = some (.string S) := h.px.r 0
  obtain ⟨c0, c1, c2, c3⟩ := h.px.c
  clear h hL hLl h0 hw0
  go_enter Tryz.func91, Tryz.ntmps91
  go_upto_region 1 with (go_at_call 139; (with_reducible refine (HSP.out _).mono ?_); rintro e w1 ⟨g, cap, rfl, hx1, hr1⟩; have HX1 := Lib.hid hx1; have HR1 := Lib.hid hr1; have HN1 := Lib.hid (HN.out.ext hx1); clear hx1 hr1 c0 c1 c2 c3; obtain ⟨c0, c1, c2, c3⟩ := HN1.out.px.c; have f0 : w1.frozen? ⟨p, 0, none⟩ = false := put_frozen HN1.out.px.at_; have hpl1 := Rg.lt_of_heap HN1.out.px.at_)
  have hgp : g ≠ p := by
    have h1 := (HR1.out.lt g rfl).1
    omega
  have HN2 := Lib.hid (HN1.out.kx (HN1.out.px.newtok (SR.of_row (cs := tokC) (fun _ => rfl) HR1.out (by have := HLL.out; omega)) (fun b n c e => by injection e with e; injection e with e; injection e with e; omega)) ((KX.of_ext (bn := p) (Ext.refl w1)).set (j := 0) _))
  clear c0 c1 c2 c3 f0 hpl1 HR1 HN1 HX1
  generalize (Value.slice (some ⟨g, 0, none⟩) L.length cap) = tv' at *
  generalize w1.setCell ⟨p, 0, none⟩ tv' = w2 at *
  obtain ⟨c0, c1, c2, c3⟩ := HN2.out.px.c
  have f1 : w2.frozen? ⟨p, 1, none⟩ = false := put_frozen HN2.out.px.at_
  have hpl2 := Rg.lt_of_heap HN2.out.px.at_
  go_upto_region 2 with (fail)
  have HN3 : Hid (NX w0 (w2.setCell ⟨p, 1, none⟩ (.int .i64 0)) p tv' L 0 S r sv sn d) := Lib.hid (HN2.out.step 0)
  clear c0 c1 c2 c3 f1 hpl2 HN2
  generalize w2.setCell ⟨p, 1, none⟩ (.int .i64 0) = w3 at *
  have hpl3 := Rg.lt_of_heap HN3.out.px.at_
  go_wp2_with (go_at_call 140; (with_reducible refine (HT.out _ _ _ HN3.out.px).mono ?_); rintro e w4 ⟨rfl, hx4⟩; have HN := Lib.hid (HN3.out.ext hx4); clear hx4)
  exact bodyPost_ret (v := .tuple #[]) (by simp [results, Tryz.results91, go_sem]) rfl ⟨rfl, tv', HN.out⟩
def snL : Nat → List ByteArray
  | 0 => []
  | 1 => [wordL 0]
  | 2 => [wordL 0, wordL 1]
  | 3 => [wordL 0, wordL 1, wordL 2]
  | 4 => [wordL 0, wordL 1, wordL 2, wordL 3]
  | 5 => [wordL 0, wordL 1, wordL 2, wordL 3, wordL 4]
  | 6 => [wordL 0, wordL 1, wordL 2, wordL 3, wordL 4, wordL 5]
  | 7 => [wordL 0, wordL 1, wordL 2, wordL 3, wordL 4, wordL 5, wordL 6]
  | _ => [wordL 0, wordL 1, wordL 2, wordL 3, wordL 4, wordL 5, wordL 6, wordL 7]
def NXe (w0 w : World) (p i : Nat) : Prop := ∃ tv l k r sv, NX w0 w p tv l k litS r sv (snL i) (dD i)
theorem nextL0 {w0 : World} {p : Nat} (wz : World) (hz : NXe w0 wz p 0) : Calls Tryz.prog 91 #[.pointer (some ⟨p, 0, none⟩), .int .i64 (0 : Nat), .int .i64 (13 : Nat)] wz fun e w' => e = .returned (.tuple #[]) ∧ NXe w0 w' p 1 := by
  obtain ⟨tv, l, k, r, sv, h⟩ := hz
  have h1 : litS.size ≤ 900000 := by rw [litS_size]; decide
  have h2 : 13 ≤ litS.size := by rw [litS_size]; decide
  have h3 : amoS singles (wordL 0) = true := by kernel_rfl
  have h4 : amoS manys (wordL 0) = false := by kernel_rfl
  have h5 : amoS (snL 0) (wordL 0) = false := by kernel_rfl
  have h6 : ((wordL 0).toList == []) = false := by kernel_rfl
  refine (next_any h 0 13 h1 (by decide) h2 tokL0 tokL0_eq (by decide) (by decide) (wordL 0) rfl h6 true false h3 h4 rfl h5 (by decide) (by decide) (by decide) lineAt0).mono ?_
  rintro e w' ⟨rfl, tv', k', r', sv', hn⟩
  exact ⟨rfl, tv', _, k', r', sv', hn⟩
theorem nextL1 {w0 : World} {p : Nat} (wz : World) (hz : NXe w0 wz p 1) : Calls Tryz.prog 91 #[.pointer (some ⟨p, 0, none⟩), .int .i64 (14 : Nat), .int .i64 (28 : Nat)] wz fun e w' => e = .returned (.tuple #[]) ∧ NXe w0 w' p 2 := by
  obtain ⟨tv, l, k, r, sv, h⟩ := hz
  have h1 : litS.size ≤ 900000 := by rw [litS_size]; decide
  have h2 : 28 ≤ litS.size := by rw [litS_size]; decide
  have h3 : amoS singles (wordL 1) = false := by kernel_rfl
  have h4 : amoS manys (wordL 1) = true := by kernel_rfl
  have h5 : amoS (snL 1) (wordL 1) = false := by kernel_rfl
  have h6 : ((wordL 1).toList == []) = false := by kernel_rfl
  refine (next_any h 14 28 h1 (by decide) h2 tokL1 tokL1_eq (by decide) (by decide) (wordL 1) rfl h6 false true h3 h4 rfl h5 (by decide) (by decide) (by decide) lineAt1).mono ?_
  rintro e w' ⟨rfl, tv', k', r', sv', hn⟩
  exact ⟨rfl, tv', _, k', r', sv', hn⟩
theorem nextL2 {w0 : World} {p : Nat} (wz : World) (hz : NXe w0 wz p 2) : Calls Tryz.prog 91 #[.pointer (some ⟨p, 0, none⟩), .int .i64 (29 : Nat), .int .i64 (57 : Nat)] wz fun e w' => e = .returned (.tuple #[]) ∧ NXe w0 w' p 3 := by
  obtain ⟨tv, l, k, r, sv, h⟩ := hz
  have h1 : litS.size ≤ 900000 := by rw [litS_size]; decide
  have h2 : 57 ≤ litS.size := by rw [litS_size]; decide
  have h3 : amoS singles (wordL 2) = false := by kernel_rfl
  have h4 : amoS manys (wordL 2) = true := by kernel_rfl
  have h5 : amoS (snL 2) (wordL 2) = false := by kernel_rfl
  have h6 : ((wordL 2).toList == []) = false := by kernel_rfl
  refine (next_any h 29 57 h1 (by decide) h2 tokL2 tokL2_eq (by decide) (by decide) (wordL 2) rfl h6 false true h3 h4 rfl h5 (by decide) (by decide) (by decide) lineAt2).mono ?_
  rintro e w' ⟨rfl, tv', k', r', sv', hn⟩
  exact ⟨rfl, tv', _, k', r', sv', hn⟩
theorem nextL3 {w0 : World} {p : Nat} (wz : World) (hz : NXe w0 wz p 3) : Calls Tryz.prog 91 #[.pointer (some ⟨p, 0, none⟩), .int .i64 (58 : Nat), .int .i64 (69 : Nat)] wz fun e w' => e = .returned (.tuple #[]) ∧ NXe w0 w' p 4 := by
  obtain ⟨tv, l, k, r, sv, h⟩ := hz
  have h1 : litS.size ≤ 900000 := by rw [litS_size]; decide
  have h2 : 69 ≤ litS.size := by rw [litS_size]; decide
  have h3 : amoS singles (wordL 3) = true := by kernel_rfl
  have h4 : amoS manys (wordL 3) = false := by kernel_rfl
  have h5 : amoS (snL 3) (wordL 3) = false := by kernel_rfl
  have h6 : ((wordL 3).toList == []) = false := by kernel_rfl
  refine (next_any h 58 69 h1 (by decide) h2 tokL3 tokL3_eq (by decide) (by decide) (wordL 3) rfl h6 true false h3 h4 rfl h5 (by decide) (by decide) (by decide) lineAt3).mono ?_
  rintro e w' ⟨rfl, tv', k', r', sv', hn⟩
  exact ⟨rfl, tv', _, k', r', sv', hn⟩
theorem nextL4 {w0 : World} {p : Nat} (wz : World) (hz : NXe w0 wz p 4) : Calls Tryz.prog 91 #[.pointer (some ⟨p, 0, none⟩), .int .i64 (70 : Nat), .int .i64 (112 : Nat)] wz fun e w' => e = .returned (.tuple #[]) ∧ NXe w0 w' p 5 := by
  obtain ⟨tv, l, k, r, sv, h⟩ := hz
  have h1 : litS.size ≤ 900000 := by rw [litS_size]; decide
  have h2 : 112 ≤ litS.size := by rw [litS_size]; decide
  have h3 : amoS singles (wordL 4) = true := by kernel_rfl
  have h4 : amoS manys (wordL 4) = false := by kernel_rfl
  have h5 : amoS (snL 4) (wordL 4) = false := by kernel_rfl
  have h6 : ((wordL 4).toList == []) = false := by kernel_rfl
  refine (next_any h 70 112 h1 (by decide) h2 tokL4 tokL4_eq (by decide) (by decide) (wordL 4) rfl h6 true false h3 h4 rfl h5 (by decide) (by decide) (by decide) lineAt4).mono ?_
  rintro e w' ⟨rfl, tv', k', r', sv', hn⟩
  exact ⟨rfl, tv', _, k', r', sv', hn⟩
theorem nextL5 {w0 : World} {p : Nat} (wz : World) (hz : NXe w0 wz p 5) : Calls Tryz.prog 91 #[.pointer (some ⟨p, 0, none⟩), .int .i64 (113 : Nat), .int .i64 (124 : Nat)] wz fun e w' => e = .returned (.tuple #[]) ∧ NXe w0 w' p 6 := by
  obtain ⟨tv, l, k, r, sv, h⟩ := hz
  have h1 : litS.size ≤ 900000 := by rw [litS_size]; decide
  have h2 : 124 ≤ litS.size := by rw [litS_size]; decide
  have h3 : amoS singles (wordL 5) = true := by kernel_rfl
  have h4 : amoS manys (wordL 5) = false := by kernel_rfl
  have h5 : amoS (snL 5) (wordL 5) = false := by kernel_rfl
  have h6 : ((wordL 5).toList == []) = false := by kernel_rfl
  refine (next_any h 113 124 h1 (by decide) h2 tokL5 tokL5_eq (by decide) (by decide) (wordL 5) rfl h6 true false h3 h4 rfl h5 (by decide) (by decide) (by decide) lineAt5).mono ?_
  rintro e w' ⟨rfl, tv', k', r', sv', hn⟩
  exact ⟨rfl, tv', _, k', r', sv', hn⟩
theorem nextL6 {w0 : World} {p : Nat} (wz : World) (hz : NXe w0 wz p 6) : Calls Tryz.prog 91 #[.pointer (some ⟨p, 0, none⟩), .int .i64 (125 : Nat), .int .i64 (135 : Nat)] wz fun e w' => e = .returned (.tuple #[]) ∧ NXe w0 w' p 7 := by
  obtain ⟨tv, l, k, r, sv, h⟩ := hz
  have h1 : litS.size ≤ 900000 := by rw [litS_size]; decide
  have h2 : 135 ≤ litS.size := by rw [litS_size]; decide
  have h3 : amoS singles (wordL 6) = true := by kernel_rfl
  have h4 : amoS manys (wordL 6) = false := by kernel_rfl
  have h5 : amoS (snL 6) (wordL 6) = false := by kernel_rfl
  have h6 : ((wordL 6).toList == []) = false := by kernel_rfl
  refine (next_any h 125 135 h1 (by decide) h2 tokL6 tokL6_eq (by decide) (by decide) (wordL 6) rfl h6 true false h3 h4 rfl h5 (by decide) (by decide) (by decide) lineAt6).mono ?_
  rintro e w' ⟨rfl, tv', k', r', sv', hn⟩
  exact ⟨rfl, tv', _, k', r', sv', hn⟩
theorem nextL7 {w0 : World} {p : Nat} (wz : World) (hz : NXe w0 wz p 7) : Calls Tryz.prog 91 #[.pointer (some ⟨p, 0, none⟩), .int .i64 (136 : Nat), .int .i64 (155 : Nat)] wz fun e w' => e = .returned (.tuple #[]) ∧ NXe w0 w' p 8 := by
  obtain ⟨tv, l, k, r, sv, h⟩ := hz
  have h1 : litS.size ≤ 900000 := by rw [litS_size]; decide
  have h2 : 155 ≤ litS.size := by rw [litS_size]; decide
  have h3 : amoS singles (wordL 7) = true := by kernel_rfl
  have h4 : amoS manys (wordL 7) = false := by kernel_rfl
  have h5 : amoS (snL 7) (wordL 7) = false := by kernel_rfl
  have h6 : ((wordL 7).toList == []) = false := by kernel_rfl
  refine (next_any h 136 155 h1 (by decide) h2 tokL7 tokL7_eq (by decide) (by decide) (wordL 7) rfl h6 true false h3 h4 rfl h5 (by decide) (by decide) (by decide) lineAt7).mono ?_
  rintro e w' ⟨rfl, tv', k', r', sv', hn⟩
  exact ⟨rfl, tv', _, k', r', sv', hn⟩
theorem nextL8 {w0 : World} {p : Nat} (wz : World) (hz : NXe w0 wz p 8) : Calls Tryz.prog 91 #[.pointer (some ⟨p, 0, none⟩), .int .i64 (156 : Nat), .int .i64 (156 : Nat)] wz fun e w' => e = .returned (.tuple #[]) ∧ NXe w0 w' p 9 := by
  obtain ⟨tv, l, k, r, sv, h⟩ := hz
  have h1 : litS.size ≤ 900000 := by rw [litS_size]; decide
  have h2 : 156 ≤ litS.size := by rw [litS_size]; decide
  refine (next_nil h 156 156 h1 (by decide) h2 _ tokL8_eq (by decide) (by decide) ⟨#[]⟩ rfl (by kernel_rfl)).mono ?_
  rintro e w' ⟨rfl, tv', hn⟩
  exact ⟨rfl, tv', _, _, r, sv, hn⟩
theorem nextL {w0 : World} {p : Nat} (i : Nat) (hi : i < 9) (wz : World) (hz : NXe w0 wz p i) : Calls Tryz.prog 91 #[.pointer (some ⟨p, 0, none⟩), .int .i64 (frL i), .int .i64 (edL i)] wz fun e w' => e = .returned (.tuple #[]) ∧ NXe w0 w' p (i + 1) := by
  have h : i = 0 ∨ i = 1 ∨ i = 2 ∨ i = 3 ∨ i = 4 ∨ i = 5 ∨ i = 6 ∨ i = 7 ∨ i = 8 := by omega
  rcases h with rfl | rfl | rfl | rfl | rfl | rfl | rfl | rfl | rfl
  · exact nextL0 wz hz
  · exact nextL1 wz hz
  · exact nextL2 wz hz
  · exact nextL3 wz hz
  · exact nextL4 wz hz
  · exact nextL5 wz hz
  · exact nextL6 wz hz
  · exact nextL7 wz hz
  · exact nextL8 wz hz
end Go.Proofs.YteomcpplajeidaaGreat
namespace Go.Proofs.YteomcpplajeidaaGreat
set_option linter.unusedVariables false
set_option linter.unusedSimpArgs false
set_option maxRecDepth 100000
open Go.RowKit
theorem up_row {ρ : Operand → Value} {d : Option Tmp} {x : Operand} {ty : TypeId} {ps : String} {af : Array Edge} {gd : Option (Nat × Bool)} {w : World} {g : Nat} {T t : TypeId} {cs : Array Value} {fs : Array Field} {fr : Nat × Nat}
    (hx : ρ x = .pointer (some ⟨g, 0, none⟩)) (hg : w.heap[g]? = some (.cells cs t fr))
    (hu : Tryz.prog.underlying T = some (.struct fs)) (hi : (Tryz.prog.info? T).map (·.size) = some cs.size) :
    Rg.up Tryz.prog w (.agg cs) ((execOp ρ { dst := d, op := .load T x, type := ty, pos := ps, after := af, guard := gd }).run Tryz.prog w) := by
  have h := run_loadVar_row (P := Tryz.prog) w g t T cs _ (.struct fs) hg hu rfl hi
  unfold execOp
  simp only [hx, Instr.loadAt, Instr.sureAddr, Sem.run_bind, Sem.run_pure, Result.andThen_ok, h]
  exact Rg.up_value
theorem wpList_store_row {ops : Array Oper} {rest : List Oper} {o : Oper} {a : Act} {w : World} {Q : Exit → Act → World → Prop} (hgd : o.guard = none) (T : TypeId) (x y : Operand) (ho : o.op = .store T x y)
    (g : Nat) (hx : a.eval x = .pointer (some ⟨g, 0, none⟩)) (cs : Array Value) (hy : a.eval y = .agg cs) (old : Array Value) (t : TypeId) (hg : w.heap[g]? = some (.cells old t (0, 0))) (hl : old.size = cs.size)
    (hi : (Tryz.prog.info? T).map (·.size) = some cs.size) (h1 : ∀ v ∈ cs.toList, v.oneCell' = true)
    (h : wpList Tryz.prog ops Q rest (a.put o.dst undef) (w.setRow g cs)) : wpList Tryz.prog ops Q (o :: rest) a w := by
  refine wpList_plain hgd fun K hK => ?_
  have hr := run_storeCells_at (P := Tryz.prog) g 0 t cs.toList 0 old w hg (by simp; omega) h1
  have he : (old.toList.take (0 + 0) ++ cs.toList ++ old.toList.drop (0 + 0 + cs.toList.length)).toArray = cs := by
    rw [List.drop_eq_nil_of_le (by simp; omega)]; simp
  rw [he] at hr
  unfold Oper.wp execOp
  have hs : (Go.sizeOf T).run Tryz.prog w = .ok cs.size w := by
    cases hq : Tryz.prog.info? T with
    | none => simp [hq] at hi
    | some i =>
      have hs : i.size = cs.size := by simpa [hq] using hi
      simp [sizeOf, typeInfo, hq, hs]
  have hst : (storeVar T ⟨g, 0, none⟩ (.agg cs)).run Tryz.prog w = .ok () (w.setRow g cs) := by
    unfold storeVar
    simp only [Value.cells, Sem.run_bind, hs, Result.andThen_ok, ne_eq, not_true_eq_false, if_false]
    exact hr
  simp only [ho, hx, hy, Instr.storeAt, Instr.sureAddr, Sem.run_bind, Sem.run_pure, Result.andThen_ok, hst]
  exact hK _ _ h
end Go.Proofs.YteomcpplajeidaaGreat
