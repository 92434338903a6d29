/-
  A book's calls on nil and on the zero book; Encode of the zero book. Nothing is asked.
-/
import Derived.Test.YtnplnfkmcfalhaaGreatDoorGzM
namespace Go.Proofs.YtnplnfkmcfalhaaGreatDoor
set_option linter.unusedVariables false
set_option linter.unusedSimpArgs false
open Go.RowKit

theorem wpList_wanted {ops : Array Oper} {rest : List Oper} {o : Oper} {a : Act} {w : World} {Q : Exit → Act → World → Prop} (hw : Region.wanted o (yielded ops a.tmps) = true) (h : o.wp Tryz.prog a w (wpList Tryz.prog ops Q rest) Q) : wpList Tryz.prog ops Q (o :: rest) a w := by
  unfold wpList
  rw [if_pos hw]
  exact .inl h
theorem wpList_load_w {ops : Array Oper} {rest : List Oper} {o : Oper} {a : Act} {w : World} {Q : Exit → Act → World → Prop} (hw : Region.wanted o (yielded ops a.tmps) = true) (T : TypeId) (x : Operand) (ho : o.op = .load T x)
    (g : Nat) (hx : a.eval x = .pointer (some ⟨g, 0, none⟩)) (t : TypeId) (cs : Array Value) {fr : Nat × Nat} {fs : Array Field} (hg : w.heap[g]? = some (.cells cs t fr)) (hu : Tryz.prog.underlying T = some (.struct fs)) (hi : (Tryz.prog.info? T).map (·.size) = some cs.size)
    (h : wpList Tryz.prog ops Q rest (a.put o.dst (.agg cs)) w) : wpList Tryz.prog ops Q (o :: rest) a w :=
  wpList_wanted hw (wp_load_row T x ho g hx t cs fr _ hg hu rfl hi h)
theorem isFinal_nil (bid : Int) (w : World) : Calls Tryz.prog 12 #[.pointer none, .int .i64 bid] w fun e w' => e = .returned (.bool false) ∧ Ext w w' := by
  go_enter Tryz.func12, Tryz.ntmps12
  go_wp2
  go_ret
  exact ⟨rfl, Ext.refl _⟩
theorem value_nil (bid lot : Int) (name : ByteArray) (w : World) : Calls Tryz.prog 9 #[.pointer none, .int .i64 bid, .int .i64 lot, .string name] w fun e w' => e = .returned (.tuple #[.int .i64 0, .bool false]) ∧ Ext w w' := by
  go_enter Tryz.func9, Tryz.ntmps9
  go_wp2_with (go_at_call 12; (with_reducible refine (isFinal_nil _ _).mono ?_); rintro e w2 ⟨rfl, hx⟩)
  go_ret2
  exact ⟨rfl, hx⟩
theorem give_nil (g0 g1 g2 g4 g5 : Int) (g3 : ByteArray) (w : World) : Calls Tryz.prog 10 #[.pointer none, .agg #[.int .i64 g0, .int .i64 g1, .int .i64 g2, .string g3, .int .i64 g4, .int .i64 g5]] w fun e w' => e = .returned (.int .i64 1) ∧ Ext w w' := by
  go_enter Tryz.func10, Tryz.ntmps10
  go_wp2
  go_ret
  exact ⟨rfl, Ext.alloc (Ext.refl _) _⟩
theorem final_nil (bid : Int) (w : World) : Calls Tryz.prog 11 #[.pointer none, .int .i64 bid] w fun e w' => e = .returned (.int .i64 1) ∧ Ext w w' := by
  go_enter Tryz.func11, Tryz.ntmps11
  go_wp2
  go_ret
  exact ⟨rfl, Ext.refl _⟩
theorem changed_nil (w : World) : Calls Tryz.prog 13 #[.pointer none] w fun e w' => e = .returned (.slice none 0 0) ∧ Ext w w' := by
  go_enter Tryz.func13, Tryz.ntmps13
  go_wp2
  go_ret
  exact ⟨rfl, Ext.refl _⟩
theorem encode_nil (w : World) : Calls Tryz.prog 14 #[.pointer none] w fun e w' => e = .returned (.string ⟨#[]⟩) ∧ Ext w w' := by
  go_enter Tryz.func14, Tryz.ntmps14
  go_wp2
  go_ret
  exact ⟨rfl, Ext.refl _⟩
abbrev nilW : Value := .slice none 0 0
/-- The zero book. -/
def zeroB : Bk := ⟨fun _ => false, fun _ => none, fun _ => false, fun _ => none, fun _ => false, []⟩
theorem zero_br {w : World} {p : Nat} (h : w.heap[p]? = some (.cells #[.map none, .map none, .map none, .map none, .map none, .slice none 0 0] 40)) : BR w p zeroB [p] :=
  ⟨none, none, none, none, none, .slice none 0 0, h, rfl, ⟨fun q e => (by cases e), fun q e => (by cases e)⟩, fun k => rfl, fun k => rfl, fun k => rfl, fun k => rfl, fun k => rfl, World.ownsRow_nil _ _ _ _, fun n c h => (by cases h), fun k g h => (by cases h), by simp [zeroB], fun b es clock e => (by cases e)⟩
theorem srtP_nil : srtP [] = [] := by simp [srtP]
theorem srtI_nil : srtI [] = [] := by simp [srtI]

set_option maxRecDepth 100000 in
set_option maxHeartbeats 2000000 in
theorem encode_zero (p : Nat) (F : List Nat) (w : World) (hbr : BR w p zeroB F) :
    Calls Tryz.prog 14 #[.pointer (some ⟨p, 0, none⟩)] w fun e w' => e = .returned (.string ⟨#[]⟩) ∧ Ext w w' := by
  obtain ⟨ml, mc, md, mg, mf, cv, h, -, -, -, -, -, h4, h5, h6, -⟩ := hbr
  have hcv : w.ownsRow 0 23 6 cv ([] : List Gd).length (([] : List Gd).flatMap Gd.cs) := h6
  obtain ⟨cb, cc, rfl⟩ := (SR.of_row (cs := Gd.cs) gd_len hcv (by simp)).form
  have hno : ∀ {κ : Type} [DecidableEq κ] (m : List (κ × Value)), (∀ k, m.lookup k = none) → m = [] := fun {κ} _ m hm => by
    cases m with
    | nil => rfl
    | cons x m =>
      have := hm x.1
      rw [List.lookup_cons] at this
      simp at this
  obtain ⟨m4, hm4, hl4⟩ := h4.mpo
  obtain ⟨m5, hm5, hl5⟩ := h5.mpo
  obtain rfl := hno m4 (fun k => hl4 k)
  obtain rfl := hno m5 (fun k => hl5 k)
  have HM4 := Lib.hid hm4; have HM5 := Lib.hid hm5
  clear h4 h5 h6 hcv hm4 hm5 hl4 hl5 hno
  have HP := Lib.hid h
  have hbn := heap_alloc_new w (.cells #[.pointer none, .slice none 0 0] 99)
  have hx0 : Ext w (w.alloc (.cells #[.pointer none, .slice none 0 0] 99)) := Ext.alloc (Ext.refl _) _
  have HO := Lib.hid (fun W (hW : Ext w W) => orderedP mg [] W (HM4.out.ext hW) (by simp))
  have HQ := Lib.hid (fun W (hW : Ext w W) => orderedI mf [] W (HM5.out.ext hW) (by simp))
  have c3 := cell_of_row _ p 3 _ _ _ (keep_heap hx0 h)
  have hpl := Rg.lt_of_heap (keep_heap hx0 h)
  clear h
  go_enter Tryz.func14, Tryz.ntmps14
  go_upto_region 5 with (go_at_call 30; (with_reducible refine (HO.out _ (Ext.alloc (Ext.refl w) _)).mono ?_); rintro e w2 ⟨v, rfl, hs, hx2, -⟩; rw [List.map_nil, srtP_nil] at hs; obtain ⟨vb, vc, rfl⟩ := hs.form)
  have HX2 := Lib.hid (hx0.trans hx2)
  have HB2 := Lib.hid (keep_heap hx2 hbn)
  clear c3 hpl hx2 hbn hx0 hs
  go_loopw [18] (fun k wr => k = .int .i64 0 ∧ wr = w2) (fun _ _ => 0)
  case atStart => exact ⟨rfl, rfl⟩
  case round =>
    obtain ⟨rfl, rfl⟩ := hrel
    have c4 := cell_of_row _ p 4 _ _ _ (keep_heap HX2.out HP.out)
    have hpl := Rg.lt_of_heap (keep_heap HX2.out HP.out)
    go_upto_region 10 with (go_at_call 34; (with_reducible refine (HQ.out _ HX2.out).mono ?_); rintro e w3 ⟨v, rfl, hs, hx3, -⟩; rw [List.map_nil, srtI_nil] at hs; obtain ⟨vb', vc', rfl, -⟩ := hs)
    have HX3 := Lib.hid (HX2.out.trans hx3)
    have HB3 := Lib.hid (keep_heap hx3 HB2.out)
    clear c4 hpl hx3
    go_loopw [37] (fun k wr => k = .int .i64 0 ∧ wr = w3) (fun _ _ => 0)
    case atStart => exact ⟨rfl, rfl⟩
    case round =>
      obtain ⟨rfl, rfl⟩ := hrel
      have c5 := cell_of_row _ p 5 _ _ _ (keep_heap HX3.out HP.out)
      have hpl := Rg.lt_of_heap (keep_heap HX3.out HP.out)
      go_upto_region 15 with (fail)
      clear c5 hpl
      rename World => wq
      go_loopw [52] (fun k wr => k = .int .i64 0 ∧ Ext w wr ∧ wr.heap[w.heap.size]? = some (.cells #[.pointer none, .slice none 0 0] 99)) (fun _ _ => 0)
      case atStart => exact ⟨rfl, HX3.out, HB3.out⟩
      case round =>
        obtain ⟨rfl, hxr, hbr⟩ := hrel
        have HS := Lib.hid (builder_String w.heap.size w.heap.size [] wr (.inl ⟨Nat.le_refl _, .slice none 0 0, hbr, World.ownsRow_nil _ _ _ _, by simp [Value.ownBlock]⟩) hxr.size)
        go_wp2_with (go_at_call 37; (with_reducible refine HS.out.mono ?_); rintro e w5 ⟨rfl, hx5⟩)
        go_ret
        exact ⟨rfl, Below.trans hxr hx5⟩

/-- A new book without a tender's lots and criteria. -/
theorem nilB_facts (bid : Int) : (∀ g, giveR (newB [] [] [⟨1, bid⟩]) g = (34, newB [] [] [⟨1, bid⟩])) ∧ finE (newB [] [] [⟨1, bid⟩]) bid = 0 := by
  refine ⟨fun g => giveR_none rfl, finE_0 ⟨1, ?_⟩ rfl ?_⟩
  · show List.contains [(⟨1, bid⟩ : Dy)] ⟨1, bid⟩ = true
    simp
  · rintro ⟨lot, name, a, h, -⟩
    cases h
theorem zeroB_facts (bid : Int) : (∀ g, giveR zeroB g = (34, zeroB)) ∧ finE zeroB bid = 34 := ⟨fun g => giveR_none rfl, finE_34 (by rintro ⟨a, h⟩; cases h)⟩

set_option maxRecDepth 100000 in
set_option maxHeartbeats 4000000 in
theorem nil_walk (g : Gd) (bid : Int) (hg : g.ok) (hb : OkI bid) (w : World) :
    Calls Tryz.prog 3 #[g.v, .int .i64 bid] w fun e w' => e = .returned (.bool true) ∧ Ext w w' := by
  obtain ⟨g0, g1, g2, g3, g4, g5⟩ := g
  have HG := Lib.hid hg; have HB := Lib.hid hb
  clear hg hb
  unfold Gd.v
  go_enter Tryz.func3, Tryz.ntmps3
  go_upto_region 3 with (go_at_call 8; (with_reducible refine (sanity_any _).mono ?_); rintro e w1 ⟨rfl, hx1⟩)
  have hq := keep_heap hx1 (heap_alloc_new w (.cells #[.int .i64 g0, .int .i64 g1, .int .i64 g2, .string g3, .int .i64 g4, .int .i64 g5] 23))
  have hx0 : Ext w w1 := (Ext.alloc (Ext.refl w) _).trans hx1
  obtain ⟨q, hqe⟩ : ∃ q, q = w.heap.size := ⟨_, rfl⟩
  rw [← hqe] at hq ⊢
  have HQ := Lib.hid hq; have HX := Lib.hid hx0
  have q2 := cell_of_row w1 q 2 _ _ _ hq
  have q3 := cell_of_row w1 q 3 _ _ _ hq
  clear hqe hx0 hx1 hq
  go_upto_region 4 with (go_at_call 9; (with_reducible refine (value_nil _ _ _ _).mono ?_); rintro e w2 ⟨rfl, hx2⟩)
  have HQ2 := Lib.hid (keep_heap hx2 HQ.out); have HX2 := Lib.hid (HX.out.trans hx2)
  clear q2 q3 hx2 HQ HX
  go_upto_region 6 with (first
    | (refine wpList_load_row (hgd := rfl) 23 (.tmp 2) rfl q (by rfl) 23 _ _ _ HQ2.out Tryz.underlying23 rfl (by kernel_rfl) ?_)
    | (go_at_call 10; (with_reducible refine (give_nil _ _ _ _ _ _ _).mono ?_); rintro e w3 ⟨rfl, hx3⟩)
    | (go_at_call 11; (with_reducible refine (final_nil _ _).mono ?_); rintro e w4 ⟨rfl, hx4⟩)
    | (go_at_call 12; (with_reducible refine (isFinal_nil _ _).mono ?_); rintro e w5 ⟨rfl, hx5⟩)
    | (go_at_call 13; (with_reducible refine (changed_nil _).mono ?_); rintro e w6 ⟨rfl, hx6⟩)
    | (go_at_call 14; (with_reducible refine (encode_nil _).mono ?_); rintro e w7 ⟨rfl, hx7⟩))
  have HX7 := Lib.hid (((((HX2.out.trans hx3).trans hx4).trans hx5).trans hx6).trans hx7)
  have HQ7 := Lib.hid (keep_heap ((((hx3.trans hx4).trans hx5).trans hx6).trans hx7) HQ2.out)
  clear hx3 hx4 hx5 hx6 hx7 HX2 HQ2
  have hz := heap_alloc_new w7 (.cells #[.map none, .map none, .map none, .map none, .map none, .slice none 0 0] 40)
  have hxa : Ext w7 (w7.alloc (.cells #[.map none, .map none, .map none, .map none, .map none, .slice none 0 0] 40)) := Ext.alloc (Ext.refl _) _
  have HBZ : Hid (BX w7 (w7.alloc (.cells #[.map none, .map none, .map none, .map none, .map none, .slice none 0 0] 40)) w7.heap.size zeroB) := Lib.hid ⟨_, zero_br hz, by simp, hxa⟩
  have HQ8 := Lib.hid (keep_heap hxa HQ7.out)
  have HX8 := Lib.hid (HX7.out.trans hxa)
  obtain ⟨pz, hpz⟩ : ∃ pz, pz = w7.heap.size := ⟨_, rfl⟩
  rw [← hpz] at HBZ
  clear hz hxa
  go_upto_region 7 with (fail)
  rw [← hpz]
  clear hpz
  generalize w7.alloc (.cells #[.map none, .map none, .map none, .map none, .map none, .slice none 0 0] 40) = w8 at *
  have q2 := cell_of_row w8 q 2 _ _ _ HQ8.out
  have q3 := cell_of_row w8 q 3 _ _ _ HQ8.out
  have HV := Lib.hid (value_k bid g2 g3 HBZ.out HB.out HG.out.2.2.1 HG.out.2.2.2.1 (fun h => by cases h))
  have HVN : Hid (∀ n ok, ValR zeroB bid g2 g3 n ok → n = 0 ∧ ok = false) := Lib.hid fun n ok hv => by
    unfold ValR at hv
    rw [if_neg (fun h => by cases h.1)] at hv
    exact ⟨hv.2, hv.1⟩
  go_upto_region 8 with (go_at_call 9; (with_reducible refine HV.out.mono ?_); rintro e w9 ⟨n, ok, rfl, hv, -, hb9, hx9⟩; obtain ⟨rfl, rfl⟩ := HVN.out n ok hv)
  have HQ9 := Lib.hid (keep_heap hx9 HQ8.out)
  have HB9 := Lib.hid hb9
  clear q2 q3 hv hb9 hx9 HV HVN HQ8 HBZ HX8
  have HGZ := Lib.hid (fun W (hW : BX w7 W pz zeroB) => give_k hW ((zeroB_facts bid).1 ⟨g0, g1, g2, g3, g4, g5⟩) HG.out (by decide))
  have HFZ := Lib.hid (fun W (hW : BX w7 W pz zeroB) => final_nk hW (zeroB_facts bid).2 (by decide) HB.out)
  have HIZ : Hid (∀ W, BX w7 W pz zeroB → Calls Tryz.prog 12 #[.pointer (some ⟨pz, 0, none⟩), .int .i64 bid] W fun e w' => e = .returned (.bool false) ∧ w' = W) := Lib.hid fun W ⟨F, h1, _, _⟩ => IsFinal_any pz zeroB F bid HB.out W h1
  have HCZ := Lib.hid (fun W (hW : BX w7 W pz zeroB) => changed_k hW (by decide))
  have HEZ : Hid (∀ W, BX w7 W pz zeroB → Calls Tryz.prog 14 #[.pointer (some ⟨pz, 0, none⟩)] W fun e w' => e = .returned (.string ⟨#[]⟩) ∧ Ext W w') := Lib.hid fun W ⟨F, h1, _, _⟩ => encode_zero pz F W h1
  simp only [Gd.v] at HGZ
  go_upto_region 10 with (first
    | (refine wpList_load_row (hgd := rfl) 23 (.tmp 2) rfl q (by rfl) 23 _ _ _ HQ9.out Tryz.underlying23 rfl (by kernel_rfl) ?_)
    | (go_at_call 10; (with_reducible refine (HGZ.out _ HB9.out).mono ?_); rintro e w10 ⟨rfl, hb10, -, -⟩)
    | (go_at_call 11; (with_reducible refine (HFZ.out _ hb10).mono ?_); rintro e w11 ⟨rfl, hb11, -, -⟩)
    | (go_at_call 12; (with_reducible refine (HIZ.out _ hb11).mono ?_); rintro e w12 ⟨rfl, hw12⟩; have h9 := hw12.symm; clear hw12; subst h9)
    | (go_at_call 13; (with_reducible refine (HCZ.out _ hb11).mono ?_); rintro e w13 ⟨rv, rfl, hr13, hb13, hx13⟩; obtain ⟨rb, rc, rfl⟩ := hr13.form)
    | (go_at_call 14; (with_reducible refine (HEZ.out _ hb13).mono ?_); rintro e w14 ⟨rfl, hx14⟩))
  have hx7 := hb13.ex.trans hx14
  have HQ14 := Lib.hid (keep_heap hx7 HQ7.out)
  have HX14 := Lib.hid (HX7.out.trans hx7)
  clear hb10 hb11 hb13 hr13 hx13 hx14 hx7 HQ7 HX7 HQ9 HB9 HGZ HFZ HIZ HCZ HEZ
  have hd := heap_alloc_new w14 (.cells #[.int .i64 1, .int .i64 bid] 57)
  have hxa : Ext w14 (w14.alloc (.cells #[.int .i64 1, .int .i64 bid] 57)) := Ext.alloc (Ext.refl _) _
  have HN := Lib.hid (New_any [] [] [⟨1, bid⟩] nilW nilW (.slice (some ⟨w14.heap.size, 0, none⟩) 1 1) _ ⟨none, 0, rfl, by simp, .inl rfl⟩ ⟨none, 0, rfl, by simp, .inl rfl⟩
    (sr_block (cs := Dy.cs) (sz := 2) (xs := [(⟨1, bid⟩ : Dy)]) (c := 1) (fun _ => rfl) hd (by simp)) (by simp) (by simp) (by intro d hd; rw [List.mem_singleton] at hd; subst hd; exact ⟨okI_small (z := 1) (by decide), HB.out⟩) (by simp))
  unfold tenC nilW at HN
  have HX15 := Lib.hid (HX14.out.trans hxa)
  have HQ15 := Lib.hid (keep_heap hxa HQ14.out)
  have HXK := HX14
  clear hd HX14 HQ14
  go_upto_region 11 with (go_at_call 15; (with_reducible refine HN.out.mono ?_); rintro e w16 ⟨pb, F, rfl, hbr, hF, hx16⟩)
  have HBB : Hid (BX w14 w16 pb (newB [] [] [⟨1, bid⟩])) := Lib.hid ⟨F, hbr, fun k hk => Nat.le_trans hxa.size (hF k hk), hxa.trans hx16⟩
  have HQ16 := Lib.hid (keep_heap hx16 HQ15.out)
  have HX14 : Hid (Ext w w14) := HXK
  clear hbr hF hx16 hxa HN HX15 HQ15
  have HG5 := Lib.hid (fun W (hW : BX w14 W pb (newB [] [] [⟨1, bid⟩])) => give_k hW ((nilB_facts bid).1 ⟨g0, g1, g2, g3, g4, g5⟩) HG.out (by show ([] : List Gd).length < 100000; decide))
  have HF5 := Lib.hid (fun W (hW : BX w14 W pb (newB [] [] [⟨1, bid⟩])) => final_k hW (nilB_facts bid).2 HB.out)
  have HI5 : Hid (∀ W, BX w14 W pb ((newB [] [] [⟨1, bid⟩]).fine bid) → Calls Tryz.prog 12 #[.pointer (some ⟨pb, 0, none⟩), .int .i64 bid] W fun e w' => e = .returned (.bool true) ∧ w' = W) := Lib.hid fun W ⟨F, h1, _, _⟩ => by
    have := IsFinal_any pb _ F bid HB.out W h1
    rw [fine_same] at this
    exact this
  simp only [Gd.v] at HG5
  generalize newB [] [] [⟨1, bid⟩] = nb at *
  go_wp2_with (first
    | (refine wpList_load_w (by rfl) 23 (.tmp 2) rfl q (by rfl) 23 _ HQ16.out Tryz.underlying23 (by kernel_rfl) ?_)
    | (go_at_call 10; (with_reducible refine (HG5.out _ HBB.out).mono ?_); rintro e w17 ⟨rfl, hb17, -, -⟩)
    | (go_at_call 11; (with_reducible refine (HF5.out _ hb17).mono ?_); rintro e w18 ⟨rfl, hb18, -, -⟩)
    | (go_at_call 12; (with_reducible refine (HI5.out _ hb18).mono ?_); rintro e w19 ⟨rfl, hw19⟩; have h9 := hw19.symm; clear hw19; subst h9))
  go_ret
  exact ⟨rfl, HX14.out.trans hb18.ex⟩
end Go.Proofs.YtnplnfkmcfalhaaGreatDoor
