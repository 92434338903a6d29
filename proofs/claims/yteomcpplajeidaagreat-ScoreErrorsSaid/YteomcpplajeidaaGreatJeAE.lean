/-
  Lemmas of this claim (JeAE). Nothing is asked.
-/
import Derived.Test.YteomcpplajeidaaGreatJeAD
import Derived.Test.YteomcpplajeidaaGreatJeV
import Derived.BigQuiet
import Derived.Deep.QuietTactic
namespace Go.Proofs.YteomcpplajeidaaGreat
set_option linter.unusedVariables false
set_option linter.unusedSimpArgs false
set_option maxRecDepth 100000
open Go.RowKit
theorem same77 (c : Cr) (nm : ByteArray) (p : Nat) (w : World) (hc : w.cell? ⟨p, 0, none⟩ = some (.string nm)) :
    Calls Tryz.prog 77 #[.agg (cellsCr c).toArray, .pointer (some ⟨p, 0, none⟩)] w fun e w' => e = .returned (.bool (c.name.toList == nm.toList)) ∧ Ext w w' := by
  have hb := World.block_lt_of_cell? w _ hc
  have hn : ¬ p = w.heap.size := by have : p < w.heap.size := hb; omega
  unfold cellsCr
  go_enter Tryz.func77, Tryz.ntmps77
  go_wp2
  go_ret
  exact ⟨by simp, (by with_reducible repeat (first | exact Ext.refl _ | assumption | apply Ext.drewN | apply Ext.drew | apply Ext.alloc | (refine Ext.setCell ?_ (by simp <;> omega) _) | (refine Ext.trans ?_ (by assumption))))⟩
theorem place76_any (cs : List Cr) (nm : ByteArray) (x : Sl) (p : Nat) (w : World) (h : SR cellsCr 5 w (slV x) cs) (hc : w.cell? ⟨p, 0, none⟩ = some (.string nm)) :
    Calls Tryz.prog 76 #[slV x, .func (.func 77) #[] #[.pointer (some ⟨p, 0, none⟩)]] w fun e w' => e = .returned (.int .i64 (idxZ (crP cs nm) cs.length)) ∧ Ext w w' := by
  obtain ⟨base, n, c⟩ := x
  have hb := World.block_lt_of_cell? w _ hc
  rcases Nat.eq_zero_or_pos cs.length with h0 | h0
  · obtain ⟨_, _, hf⟩ := h.form
    injection hf with _ hn _
    rw [h0] at hn ⊢
    subst hn
    exact index86_nil base c _ w
  · have hle := h.le
    obtain ⟨b, rfl, rfl, hcs⟩ := h.block 0 h0
    let E : Nat → Nat → Value := fun k j => match cs[k]? with | some c => ((cellsCr c)[j]?).getD undef | none => undef
    have hE : ∀ k (hk : k < cs.length) j, j < 5 → E k j = ((cellsCr cs[k])[j]?).getD undef := fun k hk j _ => by simp only [E, List.getElem?_eq_getElem hk]
    have hcell : ∀ k (hk : k < cs.length) j, j < 5 → w.cell? ⟨b, 0 + k * 5 + j, none⟩ = some (E k j) := fun k hk j hj => by
      rw [Nat.zero_add]
      refine hcs k hk j _ ?_
      rw [hE k hk j hj]
      have : j < (cellsCr cs[k]).length := hj
      rw [List.getElem?_eq_getElem this]
      rfl
    refine index86 b 0 cs.length c hle 77 _ E _ w (fun k hk => hcell k hk 0 (by decide)) (fun k hk => hcell k hk 1 (by decide)) (fun k hk => hcell k hk 2 (by decide)) (fun k hk => hcell k hk 3 (by decide)) (fun k hk => hcell k hk 4 (by decide)) (fun k w' hk hx => ?_) (fun _ _ => by kernel_rfl)
    have := same77 cs[k] nm p w' ((hx.cells.1 _ _ hb).trans hc)
    rw [hE k hk 0 (by decide), hE k hk 1 (by decide), hE k hk 2 (by decide), hE k hk 3 (by decide), hE k hk 4 (by decide)]
    simp only [crP, List.getElem?_eq_getElem hk]
    exact this
def crF (cs : List Cr) (nm : ByteArray) : Option Cr := cs.find? fun c => c.name.toList == nm.toList
theorem cr_place (cs : List Cr) (nm : ByteArray) : (crF cs nm = none ∧ idxZ (crP cs nm) cs.length = -1) ∨ ∃ k, ∃ h : k < cs.length, crF cs nm = some cs[k] ∧ idxZ (crP cs nm) cs.length = k :=
  idx_find (fun c : Cr => c.name.toList == nm.toList) cs (crP cs nm) (fun k hk => by simp [crP, hk])
def tieF (cs : List Cr) (nm : ByteArray) (a b : En) : Int :=
  if (nm.toList == [112, 114, 105, 99, 101]) = true then cmpZ b.price a.price
  else match crF cs nm with
    | none => 0
    | some c => match look a.vs nm, look b.vs nm with
      | some n, some m => (if c.less then -1 else 1) * cmpZ n m
      | _, _ => 0
def TieV (cs : List Cr) (nm : ByteArray) (fv : Value) (w : World) : Prop :=
  ((nm.toList == [112, 114, 105, 99, 101]) = true ∧ fv = .func (.func 75) #[] #[]) ∨
  ((nm.toList == [112, 114, 105, 99, 101]) = false ∧ crF cs nm = none ∧ fv = .func (.func 78) #[] #[]) ∨
  ((nm.toList == [112, 114, 105, 99, 101]) = false ∧ ∃ c p q, crF cs nm = some c ∧ fv = .func (.func 79) #[] #[.pointer (some ⟨p, 0, none⟩), .pointer (some ⟨q, 0, none⟩)] ∧ w.cell? ⟨p, 0, none⟩ = some (.string nm) ∧ w.cell? ⟨q, 0, none⟩ = some (.int .i64 (if c.less then -1 else 1)))
theorem TieV.ext {cs : List Cr} {nm : ByteArray} {fv : Value} {w w' : World} (h : TieV cs nm fv w) (x : Ext w w') : TieV cs nm fv w' := by
  rcases h with h | h | ⟨h, c, p, q, h1, h2, h3, h4⟩
  · exact .inl h
  · exact .inr (.inl h)
  · exact .inr (.inr ⟨h, c, p, q, h1, h2, (x.cells.1 _ _ (World.block_lt_of_cell? w _ h3)).trans h3, (x.cells.1 _ _ (World.block_lt_of_cell? w _ h4)).trans h4⟩)
set_option maxHeartbeats 4000000 in
theorem tie_any (r : TnR) (cs : List Cr) (nm : ByteArray) (w : World) (h : SR cellsCr 5 w (slV r.cs) cs) :
    Calls Tryz.prog 45 #[.agg (tenC r), .string nm] w fun e w' => ∃ fv, e = .returned fv ∧ Ext w w' ∧ TieV cs nm fv w' := by
  obtain ⟨tnm, tls, ⟨ca, cl, cc⟩, trs, low, high, fo, f1, f2, fn, tfa, tts, most, tks, budget, t0, t1, t2, t3, t4⟩ := r
  obtain rfl : cl = cs.length := h.len
  have hle := h.le
  have HC := Lib.hid h
  obtain ⟨W1, hW1⟩ : ∃ W1, W1 = (w.alloc (.cells (tenC ⟨tnm, tls, (ca, cs.length, cc), trs, low, high, fo, f1, f2, fn, tfa, tts, most, tks, budget, t0, t1, t2, t3, t4⟩) 39)).alloc (.cells #[.string nm] 9) := ⟨_, rfl⟩
  have hx1 : Ext w W1 := by rw [hW1]; exact Ext.alloc (Ext.alloc (Ext.refl _) _) _
  have hp0 : W1.heap[w.heap.size]? = some (.cells (tenC ⟨tnm, tls, (ca, cs.length, cc), trs, low, high, fo, f1, f2, fn, tfa, tts, most, tks, budget, t0, t1, t2, t3, t4⟩) 39) := by rw [hW1, Below.heap_alloc _ _ _ (by simp)]; exact heap_alloc_new _ _
  have hp1 : W1.heap[w.heap.size + 1]? = some (.cells #[.string nm] 9) := by rw [hW1]; exact block_new (by simp)
  have c2 : W1.cell? ⟨w.heap.size, 2, none⟩ = some (.slice ca cs.length cc) := cell_of_row W1 w.heap.size 2 _ _ _ hp0
  have c0 : W1.cell? ⟨w.heap.size + 1, 0, none⟩ = some (.string nm) := cell_of_row W1 (w.heap.size + 1) 0 _ _ _ hp1
  have HX1 := Lib.hid hx1
  have HB0 := Lib.hid hp0; have HB1 := Lib.hid hp1
  have hl0 := Rg.lt_of_heap hp0; have hl1 := Rg.lt_of_heap hp1
  have HPL := Lib.hid (fun wz (hw : Ext w wz) q (hq : wz.cell? ⟨q, 0, none⟩ = some (.string nm)) => place76_any cs nm (ca, cs.length, cc) q wz (h.ext hw) hq)
  clear h hx1 hp0 hp1
  go_enter Tryz.func45, Tryz.ntmps45
  go_upto_region 1 with (fail)
  rw [← hW1]
  clear hW1
  generalize w.heap.size + 1 = p1 at *
  generalize w.heap.size = p0 at *
  cases hnp : (nm.toList == [112, 114, 105, 99, 101]) with
  | true =>
    go_wp2_with (fail)
    go_ret
    exact ⟨_, rfl, HX1.out, .inl ⟨hnp, rfl⟩⟩
  | false =>
    have HNP := Lib.hid hnp
    rcases cr_place cs nm with ⟨hf, hi⟩ | ⟨k, hk, hf, hi⟩
    · rw [hi] at HPL
      have HF := Lib.hid hf
      clear hf hi
      go_wp2_with (go_at_call 76; (with_reducible refine (HPL.out _ HX1.out _ c0).mono ?_); rintro e w2 ⟨rfl, hx2⟩)
      go_ret
      exact ⟨_, rfl, HX1.out.trans hx2, .inr (.inl ⟨HNP.out, HF.out, rfl⟩)⟩
    · rw [hi] at HPL
      have HF := Lib.hid hf
      clear hf hi
      obtain ⟨bc, hbc, hcs⟩ := HC.out.at HX1.out k hk
      subst hbc
      have hc4 : W1.cell? ⟨bc, k * 5 + 4, none⟩ = some (.bool cs[k].less) := hcs 4 _ rfl
      have hbl := World.block_lt_of_cell? W1 _ hc4
      have hk1 : ¬ (k : Int) < 0 := by omega
      have hk2 : (k : Int) < (cs.length : Int) := by omega
      generalize cs[k] = c at *
      clear hcs
      cases hls : c.less with
      | true =>
        rw [hls] at hc4
        have HLS := Lib.hid hls
        clear hls
        go_wp2_with (go_at_call 76; (with_reducible refine (HPL.out _ HX1.out _ c0).mono ?_); rintro e w2 ⟨rfl, hx2⟩; have d4 := (hx2.cells.1 _ _ hbl).trans hc4; have d2 := (hx2.cells.1 _ _ hl0).trans c2; have dl := Nat.lt_of_lt_of_le hbl hx2.size; have dl0 := Nat.lt_of_lt_of_le hl0 hx2.size; have HX2 := Lib.hid hx2; have HC0 := Lib.hid ((hx2.cells.1 _ _ hl1).trans c0); clear hx2)
        go_ret
        exact ⟨_, rfl, HX1.out.trans (HX2.out.trans (Ext.alloc (Ext.refl _) _)), .inr (.inr ⟨HNP.out, c, p1, _, HF.out, rfl, ((Ext.alloc (Ext.refl _) _).cells.1 _ _ (World.block_lt_of_cell? w2 _ HC0.out)).trans HC0.out, by rw [HLS.out, cell_of_row _ _ _ _ _ _ (block_new rfl)]; rfl⟩)⟩
      | false =>
        rw [hls] at hc4
        have HLS := Lib.hid hls
        clear hls
        go_wp2_with (go_at_call 76; (with_reducible refine (HPL.out _ HX1.out _ c0).mono ?_); rintro e w2 ⟨rfl, hx2⟩; have d4 := (hx2.cells.1 _ _ hbl).trans hc4; have d2 := (hx2.cells.1 _ _ hl0).trans c2; have dl := Nat.lt_of_lt_of_le hbl hx2.size; have dl0 := Nat.lt_of_lt_of_le hl0 hx2.size; have HX2 := Lib.hid hx2; have HC0 := Lib.hid ((hx2.cells.1 _ _ hl1).trans c0); clear hx2)
        go_ret
        exact ⟨_, rfl, HX1.out.trans (HX2.out.trans (Ext.alloc (Ext.refl _) _)), .inr (.inr ⟨HNP.out, c, p1, _, HF.out, rfl, ((Ext.alloc (Ext.refl _) _).cells.1 _ _ (World.block_lt_of_cell? w2 _ HC0.out)).trans HC0.out, by rw [HLS.out, cell_of_row _ _ _ _ _ _ (block_new rfl)]; rfl⟩)⟩
end Go.Proofs.YteomcpplajeidaaGreat
namespace Go.Proofs.YteomcpplajeidaaGreat
set_option linter.unusedVariables false
set_option linter.unusedSimpArgs false
set_option maxRecDepth 100000
open Go.RowKit
theorem call75 (a b : En) (sa sb : Sl) (w : World) : Calls Tryz.prog 75 #[.agg (enC a sa), .agg (enC b sb)] w fun e w' => e = .returned (.int .i64 (cmpZ b.price a.price)) ∧ Ext w w' := by
  have HC := Lib.hid (fun wz => Compare_i b.price a.price wz)
  obtain ⟨a0, a1, a2, a3, a4⟩ := a
  obtain ⟨b0, b1, b2, b3, b4⟩ := b
  simp only at HC ⊢
  generalize cmpZ b3 a3 = z at *
  go_enter Tryz.func75, Tryz.ntmps75
  go_wp2_with (go_at_call 72; (with_reducible refine (HC.out _).mono ?_); rintro e w1 ⟨rfl, rfl⟩)
  go_ret
  exact ⟨rfl, (by with_reducible repeat (first | exact Ext.refl _ | assumption | apply Ext.drewN | apply Ext.drew | apply Ext.alloc | (refine Ext.setCell ?_ (by simp <;> omega) _) | (refine Ext.trans ?_ (by assumption))))⟩
theorem call78 (a b : En) (sa sb : Sl) (w : World) : Calls Tryz.prog 78 #[.agg (enC a sa), .agg (enC b sb)] w fun e w' => e = .returned (.int .i64 0) ∧ Ext w w' := by
  obtain ⟨a0, a1, a2, a3, a4⟩ := a
  obtain ⟨b0, b1, b2, b3, b4⟩ := b
  go_enter Tryz.func78, Tryz.ntmps78
  go_wp2
  go_ret
  exact ⟨rfl, (by with_reducible repeat (first | exact Ext.refl _ | assumption | apply Ext.drewN | apply Ext.drew | apply Ext.alloc | (refine Ext.setCell ?_ (by simp <;> omega) _) | (refine Ext.trans ?_ (by assumption))))⟩
def val2 (s : Int) (x y : Option Int) : Int :=
  match x, y with
  | some n, some m => s * cmpZ n m
  | _, _ => 0
set_option maxHeartbeats 8000000 in
theorem call79 (a b : En) (sa sb : Sl) (nm : ByteArray) (s : Int) (hs : s = -1 ∨ s = 1) (p q : Nat) (w : World) (ha : VRd All w a.vs (slV sa)) (hb : VRd All w b.vs (slV sb)) (hp : w.cell? ⟨p, 0, none⟩ = some (.string nm)) (hq : w.cell? ⟨q, 0, none⟩ = some (.int .i64 s)) :
    Calls Tryz.prog 79 #[.agg (enC a sa), .agg (enC b sb), .pointer (some ⟨p, 0, none⟩), .pointer (some ⟨q, 0, none⟩)] w fun e w' => e = .returned (.int .i64 (val2 s (look a.vs nm) (look b.vs nm))) ∧ Ext w w' := by
  obtain ⟨a0, a1, a2, a3, va⟩ := a
  obtain ⟨b0, b1, b2, b3, vb⟩ := b
  simp only at ha hb ⊢
  have HA := Lib.hid (fun wz (hw : Ext w wz) => value80_any (.int .i64 a0) (.int .i64 a1) (.int .i64 a2) (.int .i64 a3) sa va nm wz (ha.ext hw))
  have HB := Lib.hid (fun wz (hw : Ext w wz) => value80_any (.int .i64 b0) (.int .i64 b1) (.int .i64 b2) (.int .i64 b3) sb vb nm wz (hb.ext hw))
  have hpl := World.block_lt_of_cell? w _ hp
  have hql := World.block_lt_of_cell? w _ hq
  have HPC := Lib.hid hp; have HQC := Lib.hid hq
  obtain ⟨x, hx⟩ : ∃ x, x = look va nm := ⟨_, rfl⟩
  obtain ⟨y, hy⟩ : ∃ y, y = look vb nm := ⟨_, rfl⟩
  unfold valV at HA HB
  rw [← hx] at HA ⊢
  rw [← hy] at HB ⊢
  clear hx hy ha hb
  have hb1 : ((w.alloc (.cells (enC ⟨a0, a1, a2, a3, va⟩ sa) 57)).alloc (.cells (enC ⟨b0, b1, b2, b3, vb⟩ sb) 57)).heap[w.heap.size]? = some (.cells (enC ⟨a0, a1, a2, a3, va⟩ sa) 57) := by rw [Below.heap_alloc _ _ _ (by simp)]; exact heap_alloc_new _ _
  have hb2 : ((w.alloc (.cells (enC ⟨a0, a1, a2, a3, va⟩ sa) 57)).alloc (.cells (enC ⟨b0, b1, b2, b3, vb⟩ sb) 57)).heap[w.heap.size + 1]? = some (.cells (enC ⟨b0, b1, b2, b3, vb⟩ sb) 57) := block_new (by simp)
  have hx1 : Ext w ((w.alloc (.cells (enC ⟨a0, a1, a2, a3, va⟩ sa) 57)).alloc (.cells (enC ⟨b0, b1, b2, b3, vb⟩ sb) 57)) := Ext.alloc (Ext.alloc (Ext.refl _) _) _
  go_enter Tryz.func79, Tryz.ntmps79
  go_upto_region 1 with (fail)
  have HK : Hid (∀ W, Ext w W → W.cell? ⟨p, 0, none⟩ = some (.string nm) ∧ W.cell? ⟨q, 0, none⟩ = some (.int .i64 s) ∧ p < W.heap.size ∧ q < W.heap.size) := Lib.hid fun W hW => ⟨(hW.cells.1 _ _ hpl).trans HPC.out, (hW.cells.1 _ _ hql).trans HQC.out, Nat.lt_of_lt_of_le hpl hW.size, Nat.lt_of_lt_of_le hql hW.size⟩
  simp only [enC, entC] at hb1 hb2 hx1
  generalize (w.alloc (.cells #[.int .i64 a0, .int .i64 a1, .int .i64 a2, .int .i64 a3, slV sa] 57)).alloc (.cells #[.int .i64 b0, .int .i64 b1, .int .i64 b2, .int .i64 b3, slV sb] 57) = W1 at *
  generalize w.heap.size + 1 = r at *
  generalize w.heap.size = g at *
  have HE : Hid (∀ W, Ext W1 W → W.heap[g]? = some (.cells #[.int .i64 a0, .int .i64 a1, .int .i64 a2, .int .i64 a3, slV sa] 57) ∧ W.heap[r]? = some (.cells #[.int .i64 b0, .int .i64 b1, .int .i64 b2, .int .i64 b3, slV sb] 57)) := Lib.hid fun W hW => ⟨(hW.block _ (Rg.lt_of_heap hb1)).trans hb1, (hW.block _ (Rg.lt_of_heap hb2)).trans hb2⟩
  have HX := Lib.hid hx1
  have HX0 := Lib.hid (Ext.refl W1)
  clear hb1 hb2 hx1 hpl hql hp hq
  obtain ⟨e0, e1, e2, e3, e4, -⟩ := cells_five (HE.out _ HX0.out).1; obtain ⟨f0, f1, f2, f3, f4, -⟩ := cells_five (HE.out _ HX0.out).2; obtain ⟨k0, k1, k2, k3⟩ := HK.out _ (HX.out.trans HX0.out); have l0 := Rg.lt_of_heap (HE.out _ HX0.out).1; have l1 := Rg.lt_of_heap (HE.out _ HX0.out).2
  cases x with
  | none =>
    cases y with
    | none =>
      go_wp2_with (first
    | (go_at_call 80; (with_reducible refine (HA.out _ (HX.out.trans HX0.out)).mono ?_); rintro e W2 ⟨rfl, hx2⟩; have HX0 := Lib.hid (HX0.out.trans hx2); clear hx2; obtain ⟨e0, e1, e2, e3, e4, -⟩ := cells_five (HE.out _ HX0.out).1; obtain ⟨f0, f1, f2, f3, f4, -⟩ := cells_five (HE.out _ HX0.out).2; obtain ⟨k0, k1, k2, k3⟩ := HK.out _ (HX.out.trans HX0.out); have l0 := Rg.lt_of_heap (HE.out _ HX0.out).1; have l1 := Rg.lt_of_heap (HE.out _ HX0.out).2)
    | (go_at_call 80; (with_reducible refine (HB.out _ (HX.out.trans HX0.out)).mono ?_); rintro e W2 ⟨rfl, hx2⟩; have HX0 := Lib.hid (HX0.out.trans hx2); clear hx2; obtain ⟨e0, e1, e2, e3, e4, -⟩ := cells_five (HE.out _ HX0.out).1; obtain ⟨f0, f1, f2, f3, f4, -⟩ := cells_five (HE.out _ HX0.out).2; obtain ⟨k0, k1, k2, k3⟩ := HK.out _ (HX.out.trans HX0.out); have l0 := Rg.lt_of_heap (HE.out _ HX0.out).1; have l1 := Rg.lt_of_heap (HE.out _ HX0.out).2))
      go_ret
      exact ⟨rfl, HX.out.trans HX0.out⟩
    | some m =>
      go_wp2_with (first
    | (go_at_call 80; (with_reducible refine (HA.out _ (HX.out.trans HX0.out)).mono ?_); rintro e W2 ⟨rfl, hx2⟩; have HX0 := Lib.hid (HX0.out.trans hx2); clear hx2; obtain ⟨e0, e1, e2, e3, e4, -⟩ := cells_five (HE.out _ HX0.out).1; obtain ⟨f0, f1, f2, f3, f4, -⟩ := cells_five (HE.out _ HX0.out).2; obtain ⟨k0, k1, k2, k3⟩ := HK.out _ (HX.out.trans HX0.out); have l0 := Rg.lt_of_heap (HE.out _ HX0.out).1; have l1 := Rg.lt_of_heap (HE.out _ HX0.out).2)
    | (go_at_call 80; (with_reducible refine (HB.out _ (HX.out.trans HX0.out)).mono ?_); rintro e W2 ⟨rfl, hx2⟩; have HX0 := Lib.hid (HX0.out.trans hx2); clear hx2; obtain ⟨e0, e1, e2, e3, e4, -⟩ := cells_five (HE.out _ HX0.out).1; obtain ⟨f0, f1, f2, f3, f4, -⟩ := cells_five (HE.out _ HX0.out).2; obtain ⟨k0, k1, k2, k3⟩ := HK.out _ (HX.out.trans HX0.out); have l0 := Rg.lt_of_heap (HE.out _ HX0.out).1; have l1 := Rg.lt_of_heap (HE.out _ HX0.out).2))
      go_ret
      exact ⟨rfl, HX.out.trans HX0.out⟩
  | some n =>
    cases y with
    | none =>
      go_wp2_with (first
    | (go_at_call 80; (with_reducible refine (HA.out _ (HX.out.trans HX0.out)).mono ?_); rintro e W2 ⟨rfl, hx2⟩; have HX0 := Lib.hid (HX0.out.trans hx2); clear hx2; obtain ⟨e0, e1, e2, e3, e4, -⟩ := cells_five (HE.out _ HX0.out).1; obtain ⟨f0, f1, f2, f3, f4, -⟩ := cells_five (HE.out _ HX0.out).2; obtain ⟨k0, k1, k2, k3⟩ := HK.out _ (HX.out.trans HX0.out); have l0 := Rg.lt_of_heap (HE.out _ HX0.out).1; have l1 := Rg.lt_of_heap (HE.out _ HX0.out).2)
    | (go_at_call 80; (with_reducible refine (HB.out _ (HX.out.trans HX0.out)).mono ?_); rintro e W2 ⟨rfl, hx2⟩; have HX0 := Lib.hid (HX0.out.trans hx2); clear hx2; obtain ⟨e0, e1, e2, e3, e4, -⟩ := cells_five (HE.out _ HX0.out).1; obtain ⟨f0, f1, f2, f3, f4, -⟩ := cells_five (HE.out _ HX0.out).2; obtain ⟨k0, k1, k2, k3⟩ := HK.out _ (HX.out.trans HX0.out); have l0 := Rg.lt_of_heap (HE.out _ HX0.out).1; have l1 := Rg.lt_of_heap (HE.out _ HX0.out).2))
      go_ret
      exact ⟨rfl, HX.out.trans HX0.out⟩
    | some m =>
      have HC := Lib.hid (fun wz => Compare_i n m wz)
      have HB3 := Lib.hid (cmpZ_bd n m)
      go_upto_region 4 with (first
        | (go_at_call 80; (with_reducible refine (HA.out _ (HX.out.trans HX0.out)).mono ?_); rintro e W2 ⟨rfl, hx2⟩; have HX0 := Lib.hid (HX0.out.trans hx2); clear hx2; obtain ⟨e0, e1, e2, e3, e4, -⟩ := cells_five (HE.out _ HX0.out).1; obtain ⟨f0, f1, f2, f3, f4, -⟩ := cells_five (HE.out _ HX0.out).2; obtain ⟨k0, k1, k2, k3⟩ := HK.out _ (HX.out.trans HX0.out); have l0 := Rg.lt_of_heap (HE.out _ HX0.out).1; have l1 := Rg.lt_of_heap (HE.out _ HX0.out).2)
        | (go_at_call 80; (with_reducible refine (HB.out _ (HX.out.trans HX0.out)).mono ?_); rintro e W2 ⟨rfl, hx2⟩; have HX0 := Lib.hid (HX0.out.trans hx2); clear hx2; obtain ⟨e0, e1, e2, e3, e4, -⟩ := cells_five (HE.out _ HX0.out).1; obtain ⟨f0, f1, f2, f3, f4, -⟩ := cells_five (HE.out _ HX0.out).2; obtain ⟨k0, k1, k2, k3⟩ := HK.out _ (HX.out.trans HX0.out); have l0 := Rg.lt_of_heap (HE.out _ HX0.out).1; have l1 := Rg.lt_of_heap (HE.out _ HX0.out).2))
      have hwm : IntKind.i64.wrap (s * cmpZ n m) = s * cmpZ n m := by
        have := HB3.out
        rw [IntKind.wrap_i64]
        rcases hs with rfl | rfl <;> omega
      have HV : Hid (val2 s (some n) (some m) = s * cmpZ n m) := Lib.hid rfl
      generalize cmpZ n m = z at *
      go_quiet (first | (go_at_call 72; (with_reducible refine Calls.quiet_of_same ((HC.out _).mono fun _ _ h => ⟨h.1, h.2.symm⟩))))
      go_wp2_with (fail)
      go_ret
      exact ⟨by rw [HV.out]; rfl, HX.out.trans (HX0.out.trans (by with_reducible repeat (first | exact Ext.refl _ | assumption | apply Ext.drewN | apply Ext.drew | apply Ext.alloc | (refine Ext.setCell ?_ (by simp <;> omega) _) | (refine Ext.trans ?_ (by assumption)))))⟩
theorem tie_val (cs : List Cr) (nm : ByteArray) (a b : En) : tieF cs nm a b = if (nm.toList == [112, 114, 105, 99, 101]) = true then cmpZ b.price a.price else match crF cs nm with | none => 0 | some c => val2 (if c.less then -1 else 1) (look a.vs nm) (look b.vs nm) := by
  unfold tieF val2
  split
  · rfl
  · cases crF cs nm with
    | none => rfl
    | some c => cases look a.vs nm <;> cases look b.vs nm <;> rfl
end Go.Proofs.YteomcpplajeidaaGreat
