/-
  Lemmas of this claim (JtV). Nothing is asked.
-/
import Derived.Test.YteomcpplajeidaaGreatJtU
import Derived.Test.YteomcpplajeidaaGreatJtS
namespace Go.Proofs.YteomcpplajeidaaGreat
set_option linter.unusedVariables false
set_option linter.unusedSimpArgs false
set_option maxRecDepth 100000
open Go.RowKit
set_option maxHeartbeats 8000000 in
theorem line_lot (p : Nat) (tv : Value) (l : List (ByteArray × Int)) (S : ByteArray) (r : TnR) (sv : Value) (ed : Int) (w : World) (h : PX 166 w p tv l 1 (restOf S r sv)) (hl : 4 < l.length) (s u m : ByteArray) (n1 n2 : Int) (hs1 : l[1].1 = s) (hn1 : NumT s 1 n1) (hu : l[2].1 = u) (hue : (u.toList == [109, 111, 115, 116]) = true) (hs3 : l[3].1 = m) (hn3 : NumT m 0 n2) (hz0 : l[4].1 = ⟨#[]⟩) (hr : r.ls = (none, 0, 0)) :
    Calls Tryz.prog 144 #[.pointer (some ⟨p, 0, none⟩), .string ⟨#[108, 111, 116]⟩, .int .i64 ed] w fun e w' => e = .returned (.tuple #[]) ∧ ∃ g cap, w.heap.size ≤ g ∧ PX 166 w' p tv l 4 (restOf S { r with ls := (some ⟨g, 0, none⟩, 1, cap) } sv) ∧ KX p w w' ∧ w'.ownsRow w.heap.size 72 2 (.slice (some ⟨g, 0, none⟩) 1 cap) 1 ([(n1, n2)].flatMap cellsLot) := by
  have HW0 : Hid (∀ wz rest (hz : PX 166 wz p tv l 4 rest), Calls Tryz.prog 140 #[.pointer (some ⟨p, 0, none⟩)] wz fun e w' => e = .returned (.string ⟨#[]⟩) ∧ Ext wz w') := Lib.hid (fun wz rest hz => by have := text_any p tv l 4 wz hz.c.1 hz.c.2.1 hz.tok (by omega); rw [hz0] at this; exact this)
  have hll := lot_any p tv l 1 (restOf S r sv) w h (by omega) s u m hs1 hu hs3 hue hn1.sz hn1.num (by rw [hn1.val]; exact hn1.lo) (by rw [hn1.val]; exact hn1.hi) hn3.sz hn3.num (by rw [hn3.val]; exact hn3.lo) (by rw [hn3.val]; exact hn3.hi) (by omega) (by show some (slV r.ls) = _; rw [hr])
  rw [hn1.val, hn3.val] at hll
  have HL := Lib.hid hll
  clear hll hs1 hu hs3 hr hn1 hn3
  have HP := Lib.hid h
  have hpl := Rg.lt_of_heap h.at_
  obtain ⟨c0, c1, c2, c3⟩ := HP.out.c
  clear h hz0
  go_enter Tryz.func144, Tryz.ntmps144
  go_upto_region 39 with (go_at_call 177; (with_reducible refine HL.out.mono ?_); rintro e w2 ⟨rfl, g, cap, hg, hp2, hx2, ho2⟩; have HP2 := Lib.hid hp2; have HX2 := Lib.hid hx2; have HO2 := Lib.hid ho2; have HG := Lib.hid hg; clear hp2 hx2 ho2 hg)
  clear c0 c1 c2 c3
  obtain ⟨c0, c1, c2, c3⟩ := HP2.out.c
  have hp2 := Rg.lt_of_heap HP2.out.at_
  go_wp2_with (go_at_call 140; (with_reducible refine (HW0.out _ _ HP2.out).mono ?_); rintro e w4 ⟨rfl, hx4⟩; have HX4 := Lib.hid hx4; clear hx4)
  go_end0
  exact ⟨rfl, g, cap, HG.out, HP2.out.ext HX4.out, HX2.out.ext HX4.out, row_ext HO2.out HX4.out⟩
set_option maxHeartbeats 8000000 in
theorem line_criterion (p : Nat) (tv : Value) (l : List (ByteArray × Int)) (S : ByteArray) (r : TnR) (sv : Value) (ed : Int) (w : World) (h : PX 166 w p tv l 1 (restOf S r sv)) (hl : 5 < l.length) (s g' a b : ByteArray) (n1 n2 : Int) (hs1 : l[1].1 = s) (hsz : s.size ≤ 1000000) (hsd : worS s = true) (hg2 : l[2].1 = g') (hge : (g'.toList == [103, 114, 97, 100, 101]) = true) (hgo : (g'.toList == [111, 102, 102, 101, 114]) = false)
    (hs3 : l[3].1 = a) (hn3 : NumT a 0 n1) (hs4 : l[4].1 = b) (hn4 : NumT b 0 n2) (hz0 : l[5].1 = ⟨#[]⟩) (hr : r.cs = (none, 0, 0)) :
    Calls Tryz.prog 144 #[.pointer (some ⟨p, 0, none⟩), .string ⟨#[99, 114, 105, 116, 101, 114, 105, 111, 110]⟩, .int .i64 ed] w fun e w' => e = .returned (.tuple #[]) ∧ ∃ g cap, w.heap.size ≤ g ∧ PX 166 w' p tv l 5 (restOf S { r with cs := (some ⟨g, 0, none⟩, 1, cap) } sv) ∧ KX p w w' ∧ w'.ownsRow w.heap.size 78 5 (.slice (some ⟨g, 0, none⟩) 1 cap) 1 ([⟨s, 1, n1, n2, false⟩].flatMap cellsCr) := by
  have HW0 : Hid (∀ wz rest (hz : PX 166 wz p tv l 5 rest), Calls Tryz.prog 140 #[.pointer (some ⟨p, 0, none⟩)] wz fun e w' => e = .returned (.string ⟨#[]⟩) ∧ Ext wz w') := Lib.hid (fun wz rest hz => by have := text_any p tv l 5 wz hz.c.1 hz.c.2.1 hz.tok (by omega); rw [hz0] at this; exact this)
  have hll := critL_any p tv l 1 (restOf S r sv) w h (by omega) s g' a b ⟨#[]⟩ hs1 hg2 hs3 hs4 hz0 hsz hsd hge hgo (by kernel_rfl) hn3.sz hn3.num (by rw [hn3.val]; exact hn3.lo) (by rw [hn3.val]; exact hn3.hi) hn4.sz hn4.num (by rw [hn4.val]; exact hn4.lo) (by rw [hn4.val]; exact hn4.hi) (by omega) (by show some (slV r.cs) = _; rw [hr])
  rw [hn3.val, hn4.val] at hll
  have HL := Lib.hid hll
  clear hll hs1 hsz hsd hg2 hge hgo hs3 hs4 hr hn3 hn4
  have HP := Lib.hid h
  have hpl := Rg.lt_of_heap h.at_
  obtain ⟨c0, c1, c2, c3⟩ := HP.out.c
  clear h hz0
  go_enter Tryz.func144, Tryz.ntmps144
  go_upto_region 39 with (go_at_call 178; (with_reducible refine HL.out.mono ?_); rintro e w2 ⟨rfl, g, cap, hg, hp2, hx2, ho2⟩; have HP2 := Lib.hid hp2; have HX2 := Lib.hid hx2; have HO2 := Lib.hid ho2; have HG := Lib.hid hg; clear hp2 hx2 ho2 hg)
  clear c0 c1 c2 c3
  obtain ⟨c0, c1, c2, c3⟩ := HP2.out.c
  have hp2 := Rg.lt_of_heap HP2.out.at_
  go_wp2_with (go_at_call 140; (with_reducible refine (HW0.out _ _ HP2.out).mono ?_); rintro e w4 ⟨rfl, hx4⟩; have HX4 := Lib.hid hx4; clear hx4)
  go_end0
  exact ⟨rfl, g, cap, HG.out, HP2.out.ext HX4.out, HX2.out.ext HX4.out, row_ext HO2.out HX4.out⟩
end Go.Proofs.YteomcpplajeidaaGreat
namespace Go.Proofs.YteomcpplajeidaaGreat
set_option linter.unusedVariables false
set_option linter.unusedSimpArgs false
set_option maxRecDepth 100000
open Go.RowKit
def decV (r : ByteArray) (n0 : Int) : Nat → Int
  | 0 => n0
  | j + 1 => 10 * decV r n0 j + (byZ r j - 48)
def tenP : Nat → Int
  | 0 => 1
  | j + 1 => 10 * tenP j
structure DecS (s wh re : ByteArray) (d : Nat) (n0 : Int) : Prop where
  sz : s.size ≤ 1000
  dl : d < s.size
  dot : ∀ j, j < s.size → (byZ s j = 46 ↔ j = d)
  wh_ : s.extract 0 d = wh
  re_ : s.extract (d + 1) s.size = re
  wz : wh.size ≤ 1000
  num : numS wh = true
  val : valU wh wh.size = n0
  n0b : 0 ≤ n0 ∧ n0 ≤ 9
  rz : 0 < re.size ∧ re.size ≤ 2
  rl : ¬ byZ re (re.size - 1) = 48
  rd : allU digB re re.size = true
  ne : (s.toList == []) = false
  ren : (re.toList == []) = false
  d0 : digB (byZ s 0) = true
theorem decV_bd {re : ByteArray} {n0 : Int} (h0 : 0 ≤ n0 ∧ n0 ≤ 9) (hr : re.size ≤ 2) (hd : allU digB re re.size = true) : ∀ j, j ≤ re.size → 0 ≤ decV re n0 j ∧ decV re n0 j ≤ 999 ∧ 1 ≤ tenP j ∧ tenP j ≤ 100 := by
  intro j hj
  match j, hj with
  | 0, _ => unfold decV tenP; omega
  | 1, h1 =>
    have := digB_bd (allU_at hd (show 0 < re.size by omega))
    simp only [decV, tenP]; omega
  | 2, h2 =>
    have h3 := digB_bd (allU_at hd (show 0 < re.size by omega))
    have h4 := digB_bd (allU_at hd (show 1 < re.size by omega))
    simp only [decV, tenP]; omega
  | j + 3, h3 => omega
theorem cells_five {w : World} {q : Nat} {a0 a1 a2 a3 a4 : Value} {t : TypeId} (h : w.heap[q]? = some (.cells #[a0, a1, a2, a3, a4] t)) : w.cell? ⟨q, 0, none⟩ = some a0 ∧ w.cell? ⟨q, 1, none⟩ = some a1 ∧ w.cell? ⟨q, 2, none⟩ = some a2 ∧ w.cell? ⟨q, 3, none⟩ = some a3 ∧ w.cell? ⟨q, 4, none⟩ = some a4 ∧
    w.frozen? ⟨q, 0, none⟩ = false ∧ w.frozen? ⟨q, 1, none⟩ = false ∧ w.frozen? ⟨q, 2, none⟩ = false ∧ w.frozen? ⟨q, 3, none⟩ = false ∧ w.frozen? ⟨q, 4, none⟩ = false :=
  ⟨cell_of_row w q 0 _ _ _ h, cell_of_row w q 1 _ _ _ h, cell_of_row w q 2 _ _ _ h, cell_of_row w q 3 _ _ _ h, cell_of_row w q 4 _ _ _ h, put_frozen h, put_frozen h, put_frozen h, put_frozen h, put_frozen h⟩
abbrev put5 (w : World) (q : Nat) (b0 b1 b2 b3 b4 : Value) : World := ((((w.setCell ⟨q, 0, none⟩ b0).setCell ⟨q, 1, none⟩ b1).setCell ⟨q, 2, none⟩ b2).setCell ⟨q, 3, none⟩ b3).setCell ⟨q, 4, none⟩ b4
theorem put5_at {w : World} {q : Nat} {a0 a1 a2 a3 a4 : Value} {t : TypeId} (h : w.heap[q]? = some (.cells #[a0, a1, a2, a3, a4] t)) (b0 b1 b2 b3 b4 : Value) : (put5 w q b0 b1 b2 b3 b4).heap[q]? = some (.cells #[b0, b1, b2, b3, b4] t) :=
  heap_put _ (heap_put _ (heap_put _ (heap_put _ (heap_put _ h))))
theorem put5_kx {p q : Nat} {w w' : World} (h : KX p w w') (hq : w.heap.size ≤ q) (b0 b1 b2 b3 b4 : Value) : KX p w (put5 w' q b0 b1 b2 b3 b4) :=
  ((((h.new hq).new hq).new hq).new hq).new hq
theorem put5_px {T : TypeId} {w : World} {p k q : Nat} {tv : Value} {l : List (ByteArray × Int)} {rest : List Value} (h : PX T w p tv l k rest) (hq : p ≠ q) (hne : ∀ b n c, tv = .slice (some ⟨b, 0, none⟩) n c → b ≠ q) (b0 b1 b2 b3 b4 : Value) : PX T (put5 w q b0 b1 b2 b3 b4) p tv l k rest :=
  ((((h.away hq hne).away hq hne).away hq hne).away hq hne).away hq hne
theorem put5_size (w : World) (q : Nat) (b0 b1 b2 b3 b4 : Value) : (put5 w q b0 b1 b2 b3 b4).heap.size = w.heap.size := by simp
set_option maxHeartbeats 8000000 in
theorem decimal_any (p : Nat) (tv : Value) (l : List (ByteArray × Int)) (k : Nat) (w : World) (h : PX 164 w p tv l k []) (hk : k < l.length) (s wh re : ByteArray) (d : Nat) (n0 : Int) (hs : l[k].1 = s) (hD : DecS s wh re d n0) (hkb : k ≤ 1000000) :
    Calls Tryz.prog 218 #[.pointer (some ⟨p, 0, none⟩)] w fun e w' => e = .returned (.agg #[.string numB, .int .i64 (quickZ (decV re n0 re.size) (tenP re.size)).1, .int .i64 (quickZ (decV re n0 re.size) (tenP re.size)).2, .string nilB, .slice none 0 0]) ∧ PX 164 w' p tv l (k + 1) [] ∧ KX p w w' := by
  have HT := Lib.hid (fun wz (hz : PX 164 wz p tv l k []) => text_any p tv l k wz hz.c.1 hz.c.2.1 hz.tok hk)
  rw [hs] at HT
  have HN := Lib.hid (fun wz => isNumber_any wh (by have := hD.wz; omega) wz)
  rw [hD.num] at HN
  have hall : allU digB wh wh.size = true := by
    have := hD.num
    unfold numS at this
    rw [Bool.and_eq_true] at this
    exact this.1
  have HV := Lib.hid (fun wz => digits_any wh (by have := hD.wz; omega) hall wz)
  rw [hD.val] at HV
  have hsz := hD.sz; have hdl := hD.dl; have hn0 := hD.n0b; have hrz := hD.rz
  have HDB := Lib.hid (decV_bd hD.n0b hD.rz.2 hD.rd)
  have HRD := Lib.hid (fun j (hj : j < re.size) => digB_bd (allU_at hD.rd hj))
  have HQ := Lib.hid (fun wz => Make_any (decV re n0 re.size) (tenP re.size) (by have := HDB.out re.size (Nat.le_refl _); omega) (by have := HDB.out re.size (Nat.le_refl _); omega) wz)
  generalize quickZ (decV re n0 re.size) (tenP re.size) = q at *
  obtain ⟨q1, q2⟩ := q
  have HD := Lib.hid hD
  have HP := Lib.hid h
  have hw : IntKind.i64.wrap ((k : Int) + 1) = (k : Int) + 1 := by rw [IntKind.wrap_i64]; omega
  have hpl := Rg.lt_of_heap h.at_
  clear h hs hD hall
  go_enter Tryz.func218, Tryz.ntmps218
  go_upto_region 5 with (go_at_call 140; (with_reducible refine (HT.out _ (HP.out.ext (by with_reducible repeat (first | exact Ext.refl _ | assumption | apply Ext.drewN | apply Ext.drew | apply Ext.alloc | (refine Ext.setCell ?_ (by simp <;> omega) _) | (refine Ext.trans ?_ (by assumption)))))).mono ?_); rintro e w1 ⟨rfl, hx1⟩)
  have HX1 : Hid (Ext w w1) := Lib.hid (Ext.trans (by with_reducible repeat (first | exact Ext.refl _ | assumption | apply Ext.drewN | apply Ext.drew | apply Ext.alloc | (refine Ext.setCell ?_ (by simp <;> omega) _) | (refine Ext.trans ?_ (by assumption)))) hx1)
  have HR1 : Hid (w1.heap[w.heap.size]? = some (.cells #[.string nilB, .int .i64 0, .int .i64 0, .string nilB, .slice none 0 0] 33)) := Lib.hid ((hx1.block _ (by simp)).trans (block_new rfl))
  clear hx1
  go_loopw [4, 5, 6] (fun wv rv kv wr => ∃ k : Nat, kv = .int .i64 k ∧ k ≤ s.size ∧ ((k ≤ d ∧ wv = .string s ∧ rv = .string ⟨#[]⟩) ∨ (d < k ∧ wv = .string wh ∧ rv = .string re)) ∧ wr = w1) (fun _ _ kv _ => s.size - (iof kv).toNat)
  case atStart => exact ⟨0, rfl, Nat.zero_le _, .inl ⟨Nat.zero_le _, rfl, rfl⟩, rfl⟩
  case round =>
    obtain ⟨j, rfl, hj, hc, rfl⟩ := hrel
    by_cases hjl : j < s.size
    · have hjli : (j : Int) < (s.size : Int) := by omega
      have HB := Lib.hid (byZ_at hjl)
      by_cases hjd : j = d
      · have hby : ((s[j].toNat : Nat) : Int) = 46 := by rw [← HB.out]; exact (HD.out.dot j hjl).2 hjd
        have HJ := Lib.hid hjd
        clear hjd
        rcases hc with ⟨h1, rfl, rfl⟩ | ⟨h1, rfl, rfl⟩
        · go_wp2_with (fail)
          exact ⟨⟨j + 1, by simp, by omega, .inr ⟨by have := HJ.out; omega, by rw [← HD.out.wh_, HJ.out], by rw [← HD.out.re_, HJ.out]⟩, trivial⟩, by simp [iof]; omega⟩
        · have := HJ.out; omega
      · have hby : ¬ ((s[j].toNat : Nat) : Int) = 46 := by rw [← HB.out]; exact fun h => hjd ((HD.out.dot j hjl).1 h)
        have HJ := Lib.hid hjd
        clear hjd
        rcases hc with ⟨h1, rfl, rfl⟩ | ⟨h1, rfl, rfl⟩
        · go_wp2_with (fail)
          exact ⟨⟨j + 1, by simp, by omega, .inl ⟨by have := HJ.out; omega, rfl, rfl⟩, trivial⟩, by simp [iof]; omega⟩
        · go_wp2_with (fail)
          exact ⟨⟨j + 1, by simp, by omega, .inr ⟨by omega, rfl, rfl⟩, trivial⟩, by simp [iof]; omega⟩
    · obtain ⟨h1, rfl, rfl⟩ : d < j ∧ _ := hc.resolve_left (by omega)
      have hren := HD.out.ren
      have hlast : re.size - 1 < re.size := by omega
      have HLB := Lib.hid (byZ_at hlast)
      have hl48 : ¬ ((re[re.size - 1].toNat : Nat) : Int) = 48 := by rw [← HLB.out]; exact HD.out.rl
      clear hc
      go_upto_region 15 with (first
        | (go_at_call 203; (with_reducible refine (HN.out _).mono ?_); rintro e w2 ⟨rfl, rfl⟩)
        | (go_at_call 204; (with_reducible refine (HV.out _).mono ?_); rintro e w2 ⟨rfl, rfl⟩))
      go_upto_region 20 with (fail)
      go_loopw [8, 9, 10] (fun nv dv kv wq => ∃ j : Nat, nv = .int .i64 (decV re n0 j) ∧ dv = .int .i64 (tenP j) ∧ kv = .int .i64 j ∧ j ≤ re.size ∧ wq = wr) (fun _ _ kv _ => re.size - (iof kv).toNat)
      case atStart => exact ⟨0, rfl, rfl, rfl, Nat.zero_le _, rfl⟩
      case round =>
        obtain ⟨i, rfl, rfl, rfl, hi, rfl⟩ := hrel
        by_cases hil : i < re.size
        · obtain ⟨b1, b2, b3, b4⟩ := HDB.out i hi
          obtain ⟨d1, d2⟩ := HRD.out i hil
          have HS1 : Hid (decV re n0 (i + 1) = 10 * decV re n0 i + (byZ re i - 48)) := Lib.hid rfl
          have HS2 : Hid (tenP (i + 1) = 10 * tenP i) := Lib.hid rfl
          rw [byZ_at hil] at d1 d2 HS1
          have hili : (i : Int) < (re.size : Int) := by omega
          have c1 : IntKind.u8.wrap ((re[i].toNat : Int) - 48) = (re[i].toNat : Int) - 48 := wrap_u8 (by omega) (by omega)
          have c2 : IntKind.i64.wrap ((re[i].toNat : Int) - 48) = (re[i].toNat : Int) - 48 := by rw [IntKind.wrap_i64]; omega
          have c3 : IntKind.i64.wrap (10 * decV re n0 i) = 10 * decV re n0 i := by rw [IntKind.wrap_i64]; omega
          have c4 : IntKind.i64.wrap (10 * decV re n0 i + ((re[i].toNat : Int) - 48)) = 10 * decV re n0 i + ((re[i].toNat : Int) - 48) := by rw [IntKind.wrap_i64]; omega
          have c5 : IntKind.i64.wrap (10 * tenP i) = 10 * tenP i := by rw [IntKind.wrap_i64]; omega
          generalize decV re n0 i = v at *
          generalize tenP i = t at *
          go_wp2_with (fail)
          exact ⟨⟨i + 1, by rw [HS1.out], by rw [HS2.out], by simp, by omega, trivial⟩, by simp [iof]; omega⟩
        · obtain rfl : i = re.size := by omega
          go_upto_region 24 with (fail)
          go_wp2_with (go_at_call 60; (with_reducible refine (HQ.out _).mono ?_); rintro e w3 ⟨rfl, hx3⟩; have HX3 := Lib.hid (HX1.out.trans hx3); have HP3 := Lib.hid (HP.out.ext HX3.out); have HR3 := Lib.hid ((hx3.block _ (Rg.lt_of_heap HR1.out)).trans HR1.out); clear hx3; obtain ⟨c0, c1, c2, c3⟩ := HP3.out.c; have f1 : w3.frozen? ⟨p, 1, none⟩ = false := put_frozen HP3.out.at_; have hl3 := Rg.lt_of_heap HR3.out; have hl4 := Rg.lt_of_heap HP3.out.at_; obtain ⟨e0, e1, e2, e3, e4, g0, g1, g2, g3, g4⟩ := cells_five HR3.out)
          have hp1 := HP3.out.step (k + 1)
          have hq1 : (w3.setCell ⟨p, 1, none⟩ (.int .i64 (k + 1 : Nat))).heap[w.heap.size]? = _ := (RowKit.Below.heap_setCell _ _ _ _ (by show w.heap.size ≠ p; omega)).trans HR3.out
          have hne : ∀ b n c, tv = .slice (some ⟨b, 0, none⟩) n c → b ≠ w.heap.size := fun b n c e => by have := HP.out.lt (by omega) b n c e; omega
          have hp5 := put5_px hp1 (show p ≠ w.heap.size by omega) hne (.string numB) (.int .i64 q1) (.int .i64 q2) (.string nilB) (.slice none 0 0)
          have hq5 := put5_at hq1 (.string numB) (.int .i64 q1) (.int .i64 q2) (.string nilB) (.slice none 0 0)
          have hk5 := put5_kx ((KX.of_ext HX3.out).set (bn := p) (j := 1) (.int .i64 (k + 1 : Nat))) (Nat.le_refl _) (.string numB) (.int .i64 q1) (.int .i64 q2) (.string nilB) (.slice none 0 0)
          have hx5 := Ext.alloc (Ext.refl (put5 (w3.setCell ⟨p, 1, none⟩ (.int .i64 (k + 1 : Nat))) w.heap.size (.string numB) (.int .i64 q1) (.int .i64 q2) (.string nilB) (.slice none 0 0))) (.cells #[.int .i64 q1, .int .i64 q2] 30)
          exact bodyPost_ret (v := .agg #[.string numB, .int .i64 q1, .int .i64 q2, .string nilB, .slice none 0 0]) (results_cell_row Tryz.results218 _ _ w.heap.size 33 _ _ _ (by rfl) ((hx5.block _ (Rg.lt_of_heap hq5)).trans hq5) Tryz.underlying33 rfl (by kernel_rfl)) rfl ⟨rfl, hp5.ext hx5, hk5.ext hx5⟩
end Go.Proofs.YteomcpplajeidaaGreat
