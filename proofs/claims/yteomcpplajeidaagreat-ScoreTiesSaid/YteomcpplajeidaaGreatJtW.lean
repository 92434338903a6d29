/-
  Lemmas of this claim (JtW). Nothing is asked.
-/
import Derived.Test.YteomcpplajeidaaGreatJtV
namespace Go.Proofs.YteomcpplajeidaaGreat
set_option linter.unusedVariables false
set_option linter.unusedSimpArgs false
set_option maxRecDepth 100000
open Go.RowKit
inductive FacT : ByteArray → Ex → Prop
  | dec {s wh re : ByteArray} {d : Nat} {n0 : Int} : DecS s wh re d n0 → I2 (quickZ (decV re n0 re.size) (tenP re.size)) → FacT s (numE (quickZ (decV re n0 re.size) (tenP re.size)))
  | name {s : ByteArray} : s.size ≤ 1000 → 0 < s.size → (s.toList == []) = false → digB (byZ s 0) = false → (s.toList == [40]) = false → (s.toList == [109, 105, 110]) = false → (s.toList == [109, 97, 120]) = false → namS s = true → FacT s (nameE s)
def lfV : Ex → Value
  | .mk op n nm _ => .agg #[.string op, .int .i64 n.1, .int .i64 n.2, .string nm, .slice none 0 0]
theorem FacT.form {s : ByteArray} {t : Ex} (h : FacT s t) : ∃ op n1 n2 nm, t = leaf op (n1, n2) nm ∧ I2 (n1, n2) := by
  cases h with
  | dec hD hI => exact ⟨_, _, _, _, rfl, hI⟩
  | name => exact ⟨_, _, _, _, rfl, I2.zero⟩
set_option maxHeartbeats 8000000 in
theorem factor_dec (p : Nat) (tv : Value) (l : List (ByteArray × Int)) (k : Nat) (w : World) (h : PX 164 w p tv l k []) (hk : k < l.length) (s wh re : ByteArray) (d : Nat) (n0 : Int) (hs : l[k].1 = s) (hD : DecS s wh re d n0) (hkb : k ≤ 1000000) :
    Calls Tryz.prog 216 #[.pointer (some ⟨p, 0, none⟩)] w fun e w' => e = .returned (lfV (numE (quickZ (decV re n0 re.size) (tenP re.size)))) ∧ PX 164 w' p tv l (k + 1) [] ∧ KX p w w' := by
  have HT := Lib.hid (fun wz (hz : PX 164 wz p tv l k []) => text_any p tv l k wz hz.c.1 hz.c.2.1 hz.tok hk)
  rw [hs] at HT
  have HC := Lib.hid (fun wz (hz : PX 164 wz p tv l k []) => decimal_any p tv l k wz hz hk s wh re d n0 hs hD hkb)
  have hne := hD.ne
  have h0 : 0 < s.size := by have := hD.dl; omega
  have HG := Lib.hid (fun wz => digit_any (s[0].toNat : Nat) wz)
  have hd0 := hD.d0
  rw [byZ_at h0] at hd0
  rw [hd0] at HG
  generalize quickZ (decV re n0 re.size) (tenP re.size) = q at *
  obtain ⟨q1, q2⟩ := q
  have HP := Lib.hid h
  have hpl := Rg.lt_of_heap h.at_
  clear h hs hD hd0
  go_enter Tryz.func216, Tryz.ntmps216
  go_upto_region 3 with (first
    | (go_at_call 140; (with_reducible refine (HT.out _ (HP.out.ext (by with_reducible repeat (first | exact Ext.refl _ | assumption | apply Ext.drewN | apply Ext.drew | apply Ext.alloc | (refine Ext.setCell ?_ (by simp <;> omega) _) | (refine Ext.trans ?_ (by assumption)))))).mono ?_); rintro e w1 ⟨rfl, hx1⟩; have HX1 : Hid (Ext w w1) := Lib.hid (Ext.trans (by with_reducible repeat (first | exact Ext.refl _ | assumption | apply Ext.drewN | apply Ext.drew | apply Ext.alloc | (refine Ext.setCell ?_ (by simp <;> omega) _) | (refine Ext.trans ?_ (by assumption)))) hx1); have HR1 : Hid (w1.heap[w.heap.size]? = some (.cells #[.string nilB, .int .i64 0, .int .i64 0, .string nilB, .slice none 0 0] 33)) := Lib.hid ((hx1.block _ (by simp)).trans (block_new rfl)); have HP1 := Lib.hid (HP.out.ext HX1.out); clear hx1)
    | (go_at_call 185; (with_reducible refine (HG.out _).mono ?_); rintro e w2 ⟨rfl, rfl⟩))
  go_wp2_with (go_at_call 218; (with_reducible refine (HC.out _ HP1.out).mono ?_); rintro e w3 ⟨rfl, hp3, hx3⟩; have HP3 := Lib.hid hp3; have HX3 := Lib.hid ((KX.of_ext HX1.out).trans hx3); have HR3 := Lib.hid (hx3.at HR1.out (show w.heap.size ≠ p by omega)); clear hp3 hx3; obtain ⟨e0, e1, e2, e3, e4, g0, g1, g2, g3, g4⟩ := cells_five HR3.out; have hl3 := Rg.lt_of_heap HR3.out)
  have hne : ∀ b n c, tv = .slice (some ⟨b, 0, none⟩) n c → b ≠ w.heap.size := fun b n c e => by have := HP.out.lt (by omega) b n c e; omega
  exact bodyPost_ret (v := .agg #[.string numB, .int .i64 q1, .int .i64 q2, .string nilB, .slice none 0 0]) (results_cell_row Tryz.results216 _ _ w.heap.size 33 _ _ _ (by rfl) (put5_at HR3.out _ _ _ _ _) Tryz.underlying33 rfl (by kernel_rfl)) rfl ⟨rfl, put5_px HP3.out (show p ≠ w.heap.size by omega) hne _ _ _ _ _, put5_kx HX3.out (Nat.le_refl _) _ _ _ _ _⟩
set_option maxHeartbeats 8000000 in
theorem factor_name (p : Nat) (tv : Value) (l : List (ByteArray × Int)) (k : Nat) (w : World) (h : PX 164 w p tv l k []) (hk : k < l.length) (s : ByteArray) (hs : l[k].1 = s) (hsz : s.size ≤ 1000) (h0 : 0 < s.size) (hne : (s.toList == []) = false) (hd0 : digB (byZ s 0) = false) (h1 : (s.toList == [40]) = false) (h2 : (s.toList == [109, 105, 110]) = false) (h3 : (s.toList == [109, 97, 120]) = false) (hn : namS s = true) (hkb : k ≤ 1000000) :
    Calls Tryz.prog 216 #[.pointer (some ⟨p, 0, none⟩)] w fun e w' => e = .returned (lfV (nameE s)) ∧ PX 164 w' p tv l (k + 1) [] ∧ KX p w w' := by
  have HT := Lib.hid (fun wz (hz : PX 164 wz p tv l k []) => text_any p tv l k wz hz.c.1 hz.c.2.1 hz.tok hk)
  rw [hs] at HT
  have HG := Lib.hid (fun wz => digit_any (s[0].toNat : Nat) wz)
  rw [byZ_at h0] at hd0
  rw [hd0] at HG
  have HN := Lib.hid (fun wz => IsName_any s (by omega) wz)
  rw [hn] at HN
  have HP := Lib.hid h
  have hpl := Rg.lt_of_heap h.at_
  have hw : IntKind.i64.wrap ((k : Int) + 1) = (k : Int) + 1 := by rw [IntKind.wrap_i64]; omega
  clear h hs hd0 hn
  go_enter Tryz.func216, Tryz.ntmps216
  go_upto_region 28 with (first
    | (go_at_call 140; (with_reducible refine (HT.out _ (HP.out.ext (by with_reducible repeat (first | exact Ext.refl _ | assumption | apply Ext.drewN | apply Ext.drew | apply Ext.alloc | (refine Ext.setCell ?_ (by simp <;> omega) _) | (refine Ext.trans ?_ (by assumption)))))).mono ?_); rintro e w1 ⟨rfl, hx1⟩; have HX1 : Hid (Ext w w1) := Lib.hid (Ext.trans (by with_reducible repeat (first | exact Ext.refl _ | assumption | apply Ext.drewN | apply Ext.drew | apply Ext.alloc | (refine Ext.setCell ?_ (by simp <;> omega) _) | (refine Ext.trans ?_ (by assumption)))) hx1); have HR1 : Hid (w1.heap[w.heap.size]? = some (.cells #[.string nilB, .int .i64 0, .int .i64 0, .string nilB, .slice none 0 0] 33)) := Lib.hid ((hx1.block _ (by simp)).trans (block_new rfl)); have HP1 := Lib.hid (HP.out.ext HX1.out); clear hx1)
    | (go_at_call 185; (with_reducible refine (HG.out _).mono ?_); rintro e w2 ⟨rfl, rfl⟩)
    | (go_at_call 93; (with_reducible refine (HN.out _).mono ?_); rintro e w2 ⟨rfl, rfl⟩))
  obtain ⟨c0, c1, c2, c3⟩ := HP1.out.c
  have f1 : w1.frozen? ⟨p, 1, none⟩ = false := put_frozen HP1.out.at_
  have hl4 := Rg.lt_of_heap HP1.out.at_
  obtain ⟨e0, e1, e2, e3, e4, g0, g1, g2, g3, g4⟩ := cells_five HR1.out
  have hl3 := Rg.lt_of_heap HR1.out
  go_wp2_with (fail)
  have hp1 := HP1.out.step (k + 1)
  have hq1 : (w1.setCell ⟨p, 1, none⟩ (.int .i64 (k + 1 : Nat))).heap[w.heap.size]? = _ := (RowKit.Below.heap_setCell _ _ _ _ (by show w.heap.size ≠ p; omega)).trans HR1.out
  have hne : ∀ b n c, tv = .slice (some ⟨b, 0, none⟩) n c → b ≠ w.heap.size := fun b n c e => by have := HP.out.lt (by omega) b n c e; omega
  exact bodyPost_ret (v := .agg #[.string nameB, .int .i64 0, .int .i64 0, .string s, .slice none 0 0]) (results_cell_row Tryz.results216 _ _ w.heap.size 33 _ _ _ (by rfl) (put5_at hq1 _ _ _ _ _) Tryz.underlying33 rfl (by kernel_rfl)) rfl ⟨rfl, put5_px hp1 (show p ≠ w.heap.size by omega) hne _ _ _ _ _, put5_kx ((KX.of_ext HX1.out).set (bn := p) (j := 1) (.int .i64 (k + 1 : Nat))) (Nat.le_refl _) _ _ _ _ _⟩
theorem factor_any (p : Nat) (tv : Value) (l : List (ByteArray × Int)) (k : Nat) (w : World) (h : PX 164 w p tv l k []) (hk : k < l.length) (t : Ex) (hF : FacT l[k].1 t) (hkb : k ≤ 1000000) :
    Calls Tryz.prog 216 #[.pointer (some ⟨p, 0, none⟩)] w fun e w' => e = .returned (lfV t) ∧ PX 164 w' p tv l (k + 1) [] ∧ KX p w w' := by
  generalize hs : l[k].1 = s at hF
  cases hF with
  | dec hD _ => exact factor_dec p tv l k w h hk s _ _ _ _ hs hD hkb
  | name h1 h2 h3 h4 h5 h6 h7 h8 => exact factor_name p tv l k w h hk s hs h1 h2 h3 h4 h5 h6 h7 h8 hkb
end Go.Proofs.YteomcpplajeidaaGreat
