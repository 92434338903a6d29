/-
  sanity: the examples hold. Nothing is asked.
-/
import Derived.Test.YtnplnfkmcfalhaaGreatDoorGdI
namespace Go.Proofs.YtnplnfkmcfalhaaGreatDoor
set_option linter.unusedVariables false
set_option linter.unusedSimpArgs false
open Go.RowKit

/-- A book that was made since a world. -/
def BX (w0 w : World) (p : Nat) (b : Bk) : Prop := ∃ F, BR w p b F ∧ (∀ k ∈ F, w0.heap.size ≤ k) ∧ Ext w0 w
theorem BX.ext {w0 w w' : World} {p : Nat} {b : Bk} (h : BX w0 w p b) (e : Ext w w') : BX w0 w' p b := by
  obtain ⟨F, h1, h2, h3⟩ := h
  exact ⟨F, h1.ext e, h2, h3.trans e⟩
theorem BX.ex {w0 w : World} {p : Nat} {b : Bk} (h : BX w0 w p b) : Ext w0 w := by
  obtain ⟨F, h1, h2, h3⟩ := h
  exact h3
theorem BX.gp {w0 w w' : World} {p : Nat} {b' : Bk} {F : List Nat} (hF : ∀ k ∈ F, w0.heap.size ≤ k) (hx : Ext w0 w) (g : GP F w p b' w') : BX w0 w' p b' := by
  obtain ⟨F', h1, h2, h3⟩ := g
  refine ⟨F', h1, fun k hk => ?_, Below.trans hx (h3.below hF hx.size)⟩
  rcases h2 k hk with h | h
  · exact hF k h
  · have := hx.size; omega
theorem example_x (w : World) : Calls Tryz.prog 24 #[] w fun e w' => ∃ p, e = .returned (.pointer (some ⟨p, 0, none⟩)) ∧ BX w w' p exB :=
  (example_any w).mono fun _ _ ⟨p, F, he, hb, hF, hx⟩ => ⟨p, he, F, hb, hF, hx⟩
theorem give_x {w0 w : World} {p : Nat} {b b' : Bk} {g : Gd} {k : Int} (h : BX w0 w p b) (heq : giveR b g = (k, b')) (hg : g.ok) (hol : b.old.length < 100000) :
    Calls Tryz.prog 10 #[.pointer (some ⟨p, 0, none⟩), g.v] w fun e w' => e = .returned (.int .i64 k) ∧ BX w0 w' p b' := by
  obtain ⟨F, h1, h2, h3⟩ := h
  exact (give_eq heq hg w h1 hol).mono fun _ _ ⟨he, hg⟩ => ⟨he, BX.gp h2 h3 hg⟩
theorem final_nx {w0 w : World} {p : Nat} {b : Bk} {bid k : Int} (h : BX w0 w p b) (heq : finE b bid = k) (hk : k ≠ 0) (hb : OkI bid) :
    Calls Tryz.prog 11 #[.pointer (some ⟨p, 0, none⟩), .int .i64 bid] w fun e w' => e = .returned (.int .i64 k) ∧ BX w0 w' p b := by
  obtain ⟨F, h1, h2, h3⟩ := h
  exact (final_no heq hk hb w h1).mono fun _ _ ⟨he, hg⟩ => ⟨he, BX.gp h2 h3 hg⟩
theorem final_x {w0 w : World} {p : Nat} {b : Bk} {bid : Int} (h : BX w0 w p b) (heq : finE b bid = 0) (hb : OkI bid) :
    Calls Tryz.prog 11 #[.pointer (some ⟨p, 0, none⟩), .int .i64 bid] w fun e w' => e = .returned (.int .i64 0) ∧ BX w0 w' p (b.fine bid) := by
  obtain ⟨F, h1, h2, h3⟩ := h
  exact (final_ok heq hb w h1).mono fun _ _ ⟨he, hg⟩ => ⟨he, BX.gp h2 h3 hg⟩
theorem value_x {w0 w : World} {p : Nat} {b : Bk} (bid lot : Int) (name : ByteArray) (h : BX w0 w p b) (hbid : OkI bid) (hlot : OkI lot) (hname : OkS name) (hf : b.fin bid = true → hasA b bid) :
    Calls Tryz.prog 9 #[.pointer (some ⟨p, 0, none⟩), .int .i64 bid, .int .i64 lot, .string name] w fun e w' => ∃ n ok, e = .returned (.tuple #[.int .i64 n, .bool ok]) ∧ ValR b bid lot name n ok ∧ OkI n ∧ BX w0 w' p b := by
  obtain ⟨F, h1, h2, h3⟩ := h
  exact (Value_any p b F bid lot name hbid hlot hname w h1 hf).mono fun _ _ ⟨n, ok, he, hv, hn, hx⟩ => ⟨n, ok, he, hv, hn, F, h1.ext hx, h2, h3.trans hx⟩
theorem changed_x {w0 w : World} {p : Nat} {b : Bk} (h : BX w0 w p b) (hl : b.old.length ≤ 100000) :
    Calls Tryz.prog 13 #[.pointer (some ⟨p, 0, none⟩)] w fun e w' => ∃ r, e = .returned r ∧ SR Gd.cs 6 w' r b.old ∧ BX w0 w' p b := by
  obtain ⟨F, h1, h2, h3⟩ := h
  exact (Changed_any p b F w h1 hl).mono fun _ _ ⟨r, he, hr, _, hx⟩ => ⟨r, he, hr, F, h1.ext hx, h2, h3.trans hx⟩

theorem fine_same (b : Bk) (i : Int) : (b.fine i).fin i = true := by unfold Bk.fine; simp
theorem put_same (b : Bk) (g : Gd) : (b.put g).gr g.pl = some g := if_pos rfl
theorem put_ne (b : Bk) (g : Gd) {k : Pl} (h : k ≠ g.pl) : (b.put g).gr k = b.gr k := if_neg h
theorem put_old (b : Bk) (g : Gd) {o : Gd} (h : b.gr g.pl = some o) : (b.put g).old = b.old ++ if o.n = g.n then [] else [o] := by
  unfold Bk.put
  simp only [h]
theorem put_old0 (b : Bk) (g : Gd) (h : b.gr g.pl = none) : (b.put g).old = b.old := by
  unfold Bk.put
  simp only [h, List.append_nil]
theorem plq_ne {a a' : Int} (h : a ≠ a') : plq a ≠ plq a' := fun e => h (by injection e)

section
variable {ρ : Operand → Value} {d : Option Tmp} {x : Operand} {ty : TypeId} {ps : String} {af : Array Edge} {gd : Option (Nat × Bool)} {w : World} {b o : Nat}
theorem up_load55 {c0 c1 c2 c3 c4 c5 : Value} (hx : ρ x = .pointer (some ⟨b, o, none⟩)) (h0 : w.cell? ⟨b, o, none⟩ = some c0) (h1 : w.cell? ⟨b, o + 1, none⟩ = some c1) (h2 : w.cell? ⟨b, o + 2, none⟩ = some c2) (h3 : w.cell? ⟨b, o + 3, none⟩ = some c3) (h4 : w.cell? ⟨b, o + 4, none⟩ = some c4) (h5 : w.cell? ⟨b, o + 5, none⟩ = some c5) :
    Rg.up Tryz.prog w (.agg #[c0, c1, c2, c3, c4, c5]) ((execOp ρ { dst := d, op := .load 23 x, type := ty, pos := ps, after := af, guard := gd }).run Tryz.prog w) := by
  simp only [execOp, hx]
  go_simp
  exact Rg.up_value
end

set_option maxRecDepth 100000 in
set_option maxHeartbeats 4000000 in
theorem sanity_any (w : World) : Calls Tryz.prog 8 #[] w fun e w' => e = .returned (.bool true) ∧ Ext w w' := by
  have E0 := exL
  have E1 := Lib.hid (E0.put (mkG 8 1 6 0))
  have E2 := Lib.hid (E1.out.put (mkG 9 1 3 0))
  have E0 := Lib.hid E0
  have n1 : ∀ a, (exB.put (mkG 8 1 6 0)).gr (plq a) = if a = 8 then some (mkG 8 1 6 0) else none := fun a => by
    by_cases h : a = 8
    · subst h; rw [if_pos rfl]; exact put_same exB (mkG 8 1 6 0)
    · rw [if_neg h]; exact put_ne exB (mkG 8 1 6 0) (plq_ne h)
  have n2 : ∀ a, ((exB.put (mkG 8 1 6 0)).put (mkG 9 1 3 0)).gr (plq a) = if a = 9 then some (mkG 9 1 3 0) else if a = 8 then some (mkG 8 1 6 0) else none := fun a => by
    by_cases h : a = 9
    · subst h; rw [if_pos rfl]; exact put_same _ (mkG 9 1 3 0)
    · rw [if_neg h, ← n1]; exact put_ne _ (mkG 9 1 3 0) (plq_ne h)
  have o1 : (exB.put (mkG 8 1 6 0)).old = [] := put_old0 _ _ rfl
  have o2 : ((exB.put (mkG 8 1 6 0)).put (mkG 9 1 3 0)).old = [] := (put_old0 _ _ ((n1 9).trans (if_neg (by decide)))).trans o1
  have f1 : few (exB.put (mkG 8 1 6 0)) 5 := E1.out.few.2 (.inr ((n1 9).trans (if_neg (by decide))))
  have f2 : ¬ few ((exB.put (mkG 8 1 6 0)).put (mkG 9 1 3 0)) 5 := fun h => by
    rcases E2.out.few.1 h with h | h
    · rw [n2] at h; simp at h
    · rw [n2] at h; simp at h
  have F1 := Lib.hid (finE_24 E1.out.has rfl f1)
  have F6 := Lib.hid (finE_34 (E1.out.hasNo (i := 6) (by decide)))
  have F2 := Lib.hid (finE_0 E2.out.has rfl f2)
  have E3 := Lib.hid (E2.out.fine 5)
  have F3 := Lib.hid (finE_33 E3.out.has (fine_same _ 5))
  have V3 : Hid (∀ n ok, ValR (((exB.put (mkG 8 1 6 0)).put (mkG 9 1 3 0)).fine 5) 5 1 quaB n ok → ok = true ∧ n = 3) := Lib.hid fun n ok hv => by
    obtain ⟨h1, h2⟩ := E3.out.val (fine_same _ 5) hv
    refine ⟨h1, ?_⟩
    rw [h2]
    have a8 : nOf (((exB.put (mkG 8 1 6 0)).put (mkG 9 1 3 0)).fine 5) 5 1 quaB 8 = 6 := by
      unfold nOf
      rw [show (((exB.put (mkG 8 1 6 0)).put (mkG 9 1 3 0)).fine 5).gr ⟨5, 1, quaB, 8⟩ = some (mkG 8 1 6 0) from n2 8]
      rfl
    have a9 : nOf (((exB.put (mkG 8 1 6 0)).put (mkG 9 1 3 0)).fine 5) 5 1 quaB 9 = 3 := by
      unfold nOf
      rw [show (((exB.put (mkG 8 1 6 0)).put (mkG 9 1 3 0)).fine 5).gr ⟨5, 1, quaB, 9⟩ = some (mkG 9 1 3 0) from n2 9]
      rfl
    rw [a8, a9]
    decide
  have G1 := Lib.hid (E0.out.give (a := 8) (n := 6) (t := 0) (.inl rfl) (by decide) rfl)
  have G2 := Lib.hid (E1.out.give (a := 9) (n := 3) (t := 0) (.inr rfl) (by decide) rfl)
  have G3 := Lib.hid (E2.out.high (a := 8) (n := 11) (t := 0) (.inl rfl) (by decide))
  have G4 := Lib.hid (E2.out.who (a := 7) (n := 5) (t := 0) (by decide))
  have G5 := Lib.hid (E2.out.lot (a := 8) (l := 2) (n := 5) (t := 0) (by decide))
  have G6 := Lib.hid (E3.out.late (a := 9) (n := 4) (t := 0) (.inr rfl) (by decide) (fine_same _ 5))
  have G7 := Lib.hid (E1.out.give (a := 8) (n := 7) (t := 0) (.inl rfl) (by decide) rfl)
  have G8 := Lib.hid ((E1.out.put (mkG 8 1 7 0)).give (a := 8) (n := 7) (t := 0) (.inl rfl) (by decide) rfl)
  have o7 : ((exB.put (mkG 8 1 6 0)).put (mkG 8 1 7 0)).old = [mkG 8 1 6 0] := by
    rw [put_old _ _ ((n1 8).trans (if_pos rfl)), o1]
    rfl
  have o8 : (((exB.put (mkG 8 1 6 0)).put (mkG 8 1 7 0)).put (mkG 8 1 7 0)).old = [mkG 8 1 6 0] := by
    rw [put_old _ _ (put_same (exB.put (mkG 8 1 6 0)) (mkG 8 1 7 0)), o7]
    rfl
  have O1 := Lib.hid o1; have O2 := Lib.hid o2; have O7 := Lib.hid o7; have O8 := Lib.hid o8
  have O3 : Hid ((((exB.put (mkG 8 1 6 0)).put (mkG 9 1 3 0)).fine 5).old = []) := Lib.hid o2
  have HQ : Hid (OkS ⟨#[113, 117, 97, 108, 105, 116, 121]⟩) := Lib.hid quaB_ok
  clear n1 n2 o1 o2 o7 o8 f1 f2
  have i5 : Hid (OkI 5) := Lib.hid (okI_small (by decide))
  have i6 : Hid (OkI 6) := Lib.hid (okI_small (by decide))
  have i1 : Hid (OkI 1) := Lib.hid (okI_small (by decide))
  go_enter Tryz.func8, Tryz.ntmps8
  go_wp2_with (fail)
  (with_reducible refine (example_x _).mono ?_)
  rintro e w1 ⟨p, rfl, hb⟩
  have B1 := Lib.hid hb; clear hb
  go_wp2_with (fail)
  (with_reducible refine (mark_any 8 1 6 _).mono ?_)
  rintro e w2 ⟨rfl, hx⟩
  have B2 := Lib.hid (B1.out.ext hx); clear hx
  go_wp2_with (fail)
  (with_reducible refine (give_x B2.out G1.out (mk_ok (by decide) (by decide) (by decide) (by decide)) (by decide)).mono ?_)
  rintro e w3 ⟨rfl, hb⟩
  have B3 := Lib.hid hb; clear hb
  go_wp2_with (fail)
  (with_reducible refine (final_nx B3.out F1.out (by decide) i5.out).mono ?_)
  rintro e w4 ⟨rfl, hb⟩
  have B4 := Lib.hid hb; clear hb
  go_wp2_with (fail)
  (with_reducible refine (final_nx B4.out F6.out (by decide) i6.out).mono ?_)
  rintro e w5 ⟨rfl, hb⟩
  have B5 := Lib.hid hb; clear hb
  go_wp2_with (fail)
  (with_reducible refine (mark_any 9 1 3 _).mono ?_)
  rintro e w6 ⟨rfl, hx⟩
  have B6 := Lib.hid (B5.out.ext hx); clear hx
  go_wp2_with (fail)
  (with_reducible refine (give_x B6.out G2.out (mk_ok (by decide) (by decide) (by decide) (by decide)) (by rw [O1.out]; decide)).mono ?_)
  rintro e w7 ⟨rfl, hb⟩
  have B7 := Lib.hid hb; clear hb
  go_wp2_with (fail)
  (with_reducible refine (mark_any 8 1 11 _).mono ?_)
  rintro e w8 ⟨rfl, hx⟩
  have B8 := Lib.hid (B7.out.ext hx); clear hx
  go_wp2_with (fail)
  (with_reducible refine (give_x B8.out G3.out (mk_ok (by decide) (by decide) (by decide) (by decide)) (by rw [O2.out]; decide)).mono ?_)
  rintro e w9 ⟨rfl, hb⟩
  have B9 := Lib.hid hb; clear hb
  go_wp2_with (fail)
  (with_reducible refine (mark_any 7 1 5 _).mono ?_)
  rintro e w10 ⟨rfl, hx⟩
  have B10 := Lib.hid (B9.out.ext hx); clear hx
  go_wp2_with (fail)
  (with_reducible refine (give_x B10.out G4.out (mk_ok (by decide) (by decide) (by decide) (by decide)) (by rw [O2.out]; decide)).mono ?_)
  rintro e w11 ⟨rfl, hb⟩
  have B11 := Lib.hid hb; clear hb
  go_wp2_with (fail)
  (with_reducible refine (mark_any 8 2 5 _).mono ?_)
  rintro e w12 ⟨rfl, hx⟩
  have B12 := Lib.hid (B11.out.ext hx); clear hx
  go_wp2_with (fail)
  (with_reducible refine (give_x B12.out G5.out (mk_ok (by decide) (by decide) (by decide) (by decide)) (by rw [O2.out]; decide)).mono ?_)
  rintro e w13 ⟨rfl, hb⟩
  have B13 := Lib.hid hb; clear hb
  go_wp2_with (fail)
  (with_reducible refine (final_x B13.out F2.out i5.out).mono ?_)
  rintro e w14 ⟨rfl, hb⟩
  have B14 := Lib.hid hb; clear hb
  go_wp2_with (fail)
  (with_reducible refine (value_x 5 1 ⟨#[113, 117, 97, 108, 105, 116, 121]⟩ B14.out i5.out i1.out HQ.out (fun _ => E3.out.has)).mono ?_)
  rintro e w15 ⟨n, ok, rfl, hv, -, hb⟩
  obtain ⟨rfl, rfl⟩ := V3.out n ok hv
  have B15 := Lib.hid hb; clear hb hv
  go_wp2_with (fail)
  (with_reducible refine (mark_any 9 1 4 _).mono ?_)
  rintro e w16 ⟨rfl, hx⟩
  have B16 := Lib.hid (B15.out.ext hx); clear hx
  go_wp2_with (fail)
  (with_reducible refine (give_x B16.out G6.out (mk_ok (by decide) (by decide) (by decide) (by decide)) (by rw [O3.out]; decide)).mono ?_)
  rintro e w17 ⟨rfl, hb⟩
  have B17 := Lib.hid hb; clear hb
  go_wp2_with (fail)
  (with_reducible refine (final_nx B17.out F3.out (by decide) i5.out).mono ?_)
  rintro e w18 ⟨rfl, hb⟩
  have B18 := Lib.hid hb; clear hb
  go_wp2_with (fail)
  (with_reducible refine (example_x _).mono ?_)
  rintro e w19 ⟨p2, rfl, hb⟩
  have B19 := Lib.hid hb; clear hb
  go_wp2_with (fail)
  (with_reducible refine (mark_any 8 1 6 _).mono ?_)
  rintro e w20 ⟨rfl, hx⟩
  have B20 := Lib.hid (B19.out.ext hx); clear hx
  go_wp2_with (fail)
  (with_reducible refine (give_x B20.out G1.out (mk_ok (by decide) (by decide) (by decide) (by decide)) (by decide)).mono ?_)
  rintro e w21 ⟨rfl, hb⟩
  have B21 := Lib.hid hb; clear hb
  go_wp2_with (fail)
  (with_reducible refine (mark_any 8 1 7 _).mono ?_)
  rintro e w22 ⟨rfl, hx⟩
  have B22 := Lib.hid (B21.out.ext hx); clear hx
  go_wp2_with (fail)
  (with_reducible refine (give_x B22.out G7.out (mk_ok (by decide) (by decide) (by decide) (by decide)) (by rw [O1.out]; decide)).mono ?_)
  rintro e w23 ⟨rfl, hb⟩
  have B23 := Lib.hid hb; clear hb
  go_wp2_with (fail)
  (with_reducible refine (mark_any 8 1 7 _).mono ?_)
  rintro e w24 ⟨rfl, hx⟩
  have B24 := Lib.hid (B23.out.ext hx); clear hx
  go_wp2_with (fail)
  (with_reducible refine (give_x B24.out G8.out (mk_ok (by decide) (by decide) (by decide) (by decide)) (by rw [O7.out]; decide)).mono ?_)
  rintro e w25 ⟨rfl, hb⟩
  have B25 := Lib.hid hb; clear hb
  go_wp2_with (fail)
  (with_reducible refine (changed_x B25.out (by rw [O8.out]; decide)).mono ?_)
  rintro e w26 ⟨r, rfl, hr, hb⟩
  have B26 := Lib.hid hb; clear hb
  rw [O8.out] at hr
  obtain ⟨rb, rc, rfl⟩ := hr.form
  obtain ⟨b0, rfl, hc⟩ := row_at hr 0 (by decide)
  have c0 : w26.cell? ⟨b0, 0, none⟩ = some (.int .i64 8) := hc 0 _ rfl
  have c1 : w26.cell? ⟨b0, 0 + 1, none⟩ = some (.int .i64 5) := hc 1 _ rfl
  have c2 : w26.cell? ⟨b0, 0 + 2, none⟩ = some (.int .i64 1) := hc 2 _ rfl
  have c3 : w26.cell? ⟨b0, 0 + 3, none⟩ = some (.string ⟨#[113, 117, 97, 108, 105, 116, 121]⟩) := hc 3 _ rfl
  have c4 : w26.cell? ⟨b0, 0 + 4, none⟩ = some (.int .i64 6) := hc 4 _ rfl
  have c5 : w26.cell? ⟨b0, 0 + 5, none⟩ = some (.int .i64 0) := hc 5 _ rfl
  have l0 := World.block_lt_of_cell? w26 ⟨b0, 0, none⟩ c0
  have hmk : (mkG 8 1 6 0).v = .agg #[.int .i64 8, .int .i64 5, .int .i64 1, .string ⟨#[113, 117, 97, 108, 105, 116, 121]⟩, .int .i64 6, .int .i64 0] := rfl
  have hM := fun wz => mark_any 8 1 6 wz
  rw [hmk] at hM
  have heq : ∀ wz, (binOp .eql 23 (.agg #[.int .i64 8, .int .i64 5, .int .i64 1, .string ⟨#[113, 117, 97, 108, 105, 116, 121]⟩, .int .i64 6, .int .i64 0]) (.agg #[.int .i64 8, .int .i64 5, .int .i64 1, .string ⟨#[113, 117, 97, 108, 105, 116, 121]⟩, .int .i64 6, .int .i64 0])).run Tryz.prog wz = .ok (.bool true) wz := fun wz => by kernel_rfl
  clear hc hr hmk
  go_upto_region 14 with (fail)
  refine Rr.wp_region [(0, .y), (1, .y), (2, .y), (3, .y), (4, .y), (5, .y), (6, .y), (7, .y), (8, .y), (9, .y)] (fun _ => (.cells #[] 23, Rg.ptr)) (by kernel_rfl) (by kernel_rfl) ?_
  (refine Rr.wr_y (by simp only [List.getElem?_toArray, List.getElem?_cons_succ, List.getElem?_cons_zero]; rfl) (by rfl) ?_
   apply Exists.intro
   refine ⟨fun wz hw _ => ?_, ?_⟩
   · have hcz := hw.cells.1
     go_simp
     (with_reducible exact Rg.up_value)
   simp only [Act.put, List.setIfInBounds_toArray, List.set_cons_zero, List.set_cons_succ])
  (refine Rr.wr_y (by simp only [List.getElem?_toArray, List.getElem?_cons_succ, List.getElem?_cons_zero]; rfl) (by rfl) ?_
   apply Exists.intro
   refine ⟨fun wz hw _ => ?_, ?_⟩
   · have hcz := hw.cells.1
     go_simp
     (with_reducible exact Rg.up_value)
   simp only [Act.put, List.setIfInBounds_toArray, List.set_cons_zero, List.set_cons_succ])
  (refine Rr.wr_y (by simp only [List.getElem?_toArray, List.getElem?_cons_succ, List.getElem?_cons_zero]; rfl) (by rfl) ?_
   apply Exists.intro
   refine ⟨fun wz hw _ => ?_, ?_⟩
   · have hcz := hw.cells.1
     go_simp
     (with_reducible exact Rg.up_value)
   simp only [Act.put, List.setIfInBounds_toArray, List.set_cons_zero, List.set_cons_succ])
  (refine Rr.wr_y (by simp only [List.getElem?_toArray, List.getElem?_cons_succ, List.getElem?_cons_zero]; rfl) (by rfl) ?_
   apply Exists.intro
   refine ⟨fun wz hw _ => ?_, ?_⟩
   · have hcz := hw.cells.1
     go_simp
     (with_reducible exact Rg.up_value)
   simp only [Act.put, List.setIfInBounds_toArray, List.set_cons_zero, List.set_cons_succ])
  (refine Rr.wr_y (by simp only [List.getElem?_toArray, List.getElem?_cons_succ, List.getElem?_cons_zero]; rfl) (by rfl) ?_
   apply Exists.intro
   refine ⟨fun wz hw _ => ?_, ?_⟩
   · have hcz := hw.cells.1
     go_simp
     (with_reducible exact Rg.up_value)
   simp only [Act.put, List.setIfInBounds_toArray, List.set_cons_zero, List.set_cons_succ])
  (refine Rr.wr_y (by simp only [List.getElem?_toArray, List.getElem?_cons_succ, List.getElem?_cons_zero]; rfl) (by rfl) ?_
   apply Exists.intro
   refine ⟨fun wz hw _ => ?_, ?_⟩
   · have hcz := hw.cells.1
     go_simp
     (with_reducible exact Rg.up_value)
   simp only [Act.put, List.setIfInBounds_toArray, List.set_cons_zero, List.set_cons_succ])
  (refine Rr.wr_y (by simp only [List.getElem?_toArray, List.getElem?_cons_succ, List.getElem?_cons_zero]; rfl) (by rfl) ?_
   apply Exists.intro
   refine ⟨fun wz hw _ => ?_, ?_⟩
   · have hcz := hw.cells.1
     exact up_load55 (by rfl) ((hcz _ _ l0).trans c0) ((hcz _ _ l0).trans c1) ((hcz _ _ l0).trans c2) ((hcz _ _ l0).trans c3) ((hcz _ _ l0).trans c4) ((hcz _ _ l0).trans c5)
   simp only [Act.put, List.setIfInBounds_toArray, List.set_cons_zero, List.set_cons_succ])
  (refine Rr.wr_y (by simp only [List.getElem?_toArray, List.getElem?_cons_succ, List.getElem?_cons_zero]; rfl) (by rfl) ?_
   apply Exists.intro
   refine ⟨fun wz hw _ => ?_, ?_⟩
   · have hcz := hw.cells.1
     go_simp
     apply Rg.up_enter
     (with_reducible refine (hM _).mono ?_)
     rintro e w3 ⟨rfl, hb3⟩
     exact ⟨rfl, hb3⟩
   simp only [Act.put, List.setIfInBounds_toArray, List.set_cons_zero, List.set_cons_succ])
  (refine Rr.wr_y (by simp only [List.getElem?_toArray, List.getElem?_cons_succ, List.getElem?_cons_zero]; rfl) (by rfl) ?_
   apply Exists.intro
   refine ⟨fun wz hw _ => ?_, ?_⟩
   · have hcz := hw.cells.1
     have hl := heq wz
     go_simp
     (with_reducible exact Rg.up_value)
   simp only [Act.put, List.setIfInBounds_toArray, List.set_cons_zero, List.set_cons_succ])
  (refine Rr.wr_y (by simp only [List.getElem?_toArray, List.getElem?_cons_succ, List.getElem?_cons_zero]; rfl) (by rfl) ?_
   apply Exists.intro
   refine ⟨fun wz hw _ => ?_, ?_⟩
   · have hcz := hw.cells.1
     go_simp
     (with_reducible exact Rg.up_value)
   simp only [Act.put, List.setIfInBounds_toArray, List.set_cons_zero, List.set_cons_succ])
  refine Rr.wr_nil ?_
  intro wy hy hh
  simp only [List.length_cons, List.length_nil, List.drop_succ_cons, List.drop_zero, Nat.reduceAdd]
  go_wp2_with (fail)
  go_ret
  exact ⟨rfl, B18.out.ex.trans (B26.out.ex.trans hy)⟩
end Go.Proofs.YtnplnfkmcfalhaaGreatDoor
