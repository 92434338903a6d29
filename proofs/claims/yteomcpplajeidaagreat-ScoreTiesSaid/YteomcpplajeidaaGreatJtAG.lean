/-
  Lemmas of this claim (JtAG). Nothing is asked.
-/
import Derived.Test.YteomcpplajeidaaGreatJtAE
import Derived.Test.YteomcpplajeidaaGreatJtAF
namespace Go.Proofs.YteomcpplajeidaaGreat
set_option linter.unusedVariables false
set_option linter.unusedSimpArgs false
set_option maxRecDepth 100000
open Go.RowKit
structure En where
  bid : Int
  lot : Int
  rec_ : Int
  price : Int
  vs : Vals
abbrev enC (e : En) (s : Sl) : Array Value := entC e.bid e.lot e.rec_ e.price s
theorem same127 (s nm : ByteArray) (g : Value) (q : Nat) (w : World) (h : w.cell? ⟨q, 0, none⟩ = some (.string nm)) :
    Calls Tryz.prog 127 #[.agg #[.string s, g], .pointer (some ⟨q, 0, none⟩)] w fun e w' => e = .returned (.bool (s.toList == nm.toList)) ∧ Ext w w' := by
  have hpl : q < w.heap.size := World.block_lt_of_cell? w _ h
  go_enter Tryz.func127, Tryz.ntmps127
  go_wp2
  go_ret
  exact ⟨rfl, (by with_reducible repeat (first | exact Ext.refl _ | assumption | apply Ext.drewN | apply Ext.drew | apply Ext.alloc | (refine Ext.setCell ?_ (by simp <;> omega) _) | (refine Ext.trans ?_ (by assumption))))⟩
theorem enters127 (args : Array Value) (w : World) : (callFunc 127 args).run Tryz.prog w = .ok (.enter 127 args) w := by go_simp
theorem place127_any (S : Nat → Prop) (vs : Vals) (nm : ByteArray) (w : World) (sl : Value) (hs : VRd S w vs sl) (q : Nat) (hq : w.cell? ⟨q, 0, none⟩ = some (.string nm)) :
    Calls Tryz.prog 126 #[sl, .func (.func 127) #[] #[.pointer (some ⟨q, 0, none⟩)]] w fun e w' => e = .returned (.int .i64 (placeI vs nm)) ∧ Ext w w' := by
  obtain ⟨base, cap, rfl, hn, -, hr⟩ := hs
  have hql : q < w.heap.size := World.block_lt_of_cell? w _ hq
  rcases hr with rfl | ⟨b, rfl, -, hc⟩
  · exact index70_nil base cap _ w
  · refine index70 b 0 vs.length cap hn 127 _ (fun k j => if h : k < vs.length then (if j = 0 then .string vs[k].1 else .int .i64 vs[k].2) else undef) _ w ?_ ?_ ?_ enters127
    · intro k hk
      rw [Nat.zero_add, (hc k hk).1]
      simp [hk]
    · intro k hk
      rw [Nat.zero_add, (hc k hk).2]
      simp [hk]
    · intro k w' hk hx
      simp only [hk, dif_pos, if_true]
      exact same127 vs[k].1 nm _ q w' ((hx.cells.1 q 0 hql).trans hq)
def valV (vs : Vals) (nm : ByteArray) : Value :=
  match look vs nm with
  | some n => .tuple #[.int .i64 n, .bool true]
  | none => .tuple #[.int .i64 0, .bool false]
set_option maxHeartbeats 4000000 in
theorem value80_any (e0 e1 e2 e3 : Value) (es : Sl) (vs : Vals) (nm : ByteArray) (w : World) (hv : VRd All w vs (slV es)) :
    Calls Tryz.prog 80 #[.agg #[e0, e1, e2, e3, slV es], .string nm] w fun e w' => e = .returned (valV vs nm) ∧ Ext w w' := by
  have HV := Lib.hid hv
  have HP := Lib.hid (fun wz (hw : Ext w wz) q (hq : wz.cell? ⟨q, 0, none⟩ = some (.string nm)) => place127_any All vs nm wz (slV es) (hv.ext hw) q hq)
  obtain ⟨ea, el, ec⟩ := es
  have hlen : el = vs.length ∧ vs.length ≤ 1000000 := by obtain ⟨_, _, hf, h2, -⟩ := hv; injection hf with _ h1 _; exact ⟨h1, h2⟩
  obtain ⟨rfl, hle⟩ := hlen
  clear hv
  have hb1 : ((w.alloc (.cells #[e0, e1, e2, e3, .slice ea vs.length ec] 57)).alloc (.cells #[.string nm] 9)).cell? ⟨w.heap.size + 1, 0, none⟩ = some (.string nm) := by
    have : ((w.alloc (.cells #[e0, e1, e2, e3, .slice ea vs.length ec] 57)).alloc (.cells #[.string nm] 9)).heap[w.heap.size + 1]? = some (.cells #[.string nm] 9) := block_new (by simp)
    rw [cell_of_row _ _ _ _ _ _ this]; rfl
  have HB1 := Lib.hid hb1
  clear hb1
  cases hl : look vs nm with
  | none =>
    have hpi := place_none hl
    have HR : Hid (valV vs nm = .tuple #[.int .i64 0, .bool false]) := Lib.hid (by unfold valV; rw [hl])
    rw [hpi] at HP
    clear hpi hl
    go_enter Tryz.func80, Tryz.ntmps80
    go_upto_region 2 with (go_at_call 126; (with_reducible refine (HP.out _ ?_ _ HB1.out).mono ?_); (exact (by with_reducible repeat (first | exact Ext.refl _ | assumption | apply Ext.drewN | apply Ext.drew | apply Ext.alloc | (refine Ext.setCell ?_ (by simp <;> omega) _) | (refine Ext.trans ?_ (by assumption))))); rintro e w1 ⟨rfl, hx1⟩)
    have hr : Ext w w1 := (by with_reducible repeat (first | exact Ext.refl _ | assumption | apply Ext.drewN | apply Ext.drew | apply Ext.alloc | (refine Ext.setCell ?_ (by simp <;> omega) _) | (refine Ext.trans ?_ (by assumption))))
    have hc4 : w1.cell? ⟨w.heap.size, 4, none⟩ = some (.slice ea vs.length ec) := (hx1.cells.1 _ _ (by simp; omega)).trans (by go_simp)
    have hl4 : w.heap.size < w1.heap.size := Nat.lt_of_lt_of_le (by simp; omega) hx1.size
    go_wp2_with (fail)
    go_ret2
    exact ⟨by rw [HR.out]; rfl, hr⟩
  | some n =>
    obtain ⟨k, hk, hpi, hn⟩ := place_some hl
    have HR : Hid (valV vs nm = .tuple #[.int .i64 n, .bool true]) := Lib.hid (by unfold valV; rw [hl])
    rw [hpi] at HP
    have HN := Lib.hid hn
    clear hpi hl hn
    go_enter Tryz.func80, Tryz.ntmps80
    go_upto_region 2 with (go_at_call 126; (with_reducible refine (HP.out _ ?_ _ HB1.out).mono ?_); (exact (by with_reducible repeat (first | exact Ext.refl _ | assumption | apply Ext.drewN | apply Ext.drew | apply Ext.alloc | (refine Ext.setCell ?_ (by simp <;> omega) _) | (refine Ext.trans ?_ (by assumption))))); rintro e w1 ⟨rfl, hx1⟩)
    have hr : Ext w w1 := (by with_reducible repeat (first | exact Ext.refl _ | assumption | apply Ext.drewN | apply Ext.drew | apply Ext.alloc | (refine Ext.setCell ?_ (by simp <;> omega) _) | (refine Ext.trans ?_ (by assumption))))
    have hc4 : w1.cell? ⟨w.heap.size, 4, none⟩ = some (.slice ea vs.length ec) := (hx1.cells.1 _ _ (by simp; omega)).trans (by go_simp)
    have hl4 : w.heap.size < w1.heap.size := Nat.lt_of_lt_of_le (by simp; omega) hx1.size
    obtain ⟨b, rfl, -, hs1⟩ := VRd.at HV.out hr k hk
    rw [HN.out] at hs1
    have hbl := World.block_lt_of_cell? w1 _ hs1
    have hk1 : ¬ (k : Int) < 0 := by omega
    have hk2 : (k : Int) < (vs.length : Int) := by omega
    go_wp2_with (fail)
    go_ret2
    exact ⟨by rw [HR.out]; rfl, hr⟩
end Go.Proofs.YteomcpplajeidaaGreat
namespace Go.Proofs.YteomcpplajeidaaGreat
set_option linter.unusedVariables false
set_option linter.unusedSimpArgs false
set_option maxRecDepth 100000
open Go.RowKit
theorem same77 (c : Cr) (nm : ByteArray) (p : Nat) (w : World) (hc : w.cell? ⟨p, 0, none⟩ = some (.string nm)) :
    Calls Tryz.prog 77 #[.agg (cellsCr c).toArray, .pointer (some ⟨p, 0, none⟩)] w fun e w' => e = .returned (.bool (c.name.toList == nm.toList)) ∧ Ext w w' := by
  have hb := World.block_lt_of_cell? w _ hc
  have hn : ¬ p = w.heap.size := by have : p < w.heap.size := hb; omega
  unfold cellsCr
  go_enter Tryz.func77, Tryz.ntmps77
  go_wp2
  go_ret
  exact ⟨by simp, (by with_reducible repeat (first | exact Ext.refl _ | assumption | apply Ext.drewN | apply Ext.drew | apply Ext.alloc | (refine Ext.setCell ?_ (by simp <;> omega) _) | (refine Ext.trans ?_ (by assumption))))⟩
theorem place76_any (cs : List Cr) (nm : ByteArray) (x : Sl) (p : Nat) (w : World) (h : SR cellsCr 5 w (slV x) cs) (hc : w.cell? ⟨p, 0, none⟩ = some (.string nm)) :
    Calls Tryz.prog 76 #[slV x, .func (.func 77) #[] #[.pointer (some ⟨p, 0, none⟩)]] w fun e w' => e = .returned (.int .i64 (idxZ (crP cs nm) cs.length)) ∧ Ext w w' := by
  obtain ⟨base, n, c⟩ := x
  have hb := World.block_lt_of_cell? w _ hc
  rcases Nat.eq_zero_or_pos cs.length with h0 | h0
  · obtain ⟨_, _, hf⟩ := h.form
    injection hf with _ hn _
    rw [h0] at hn ⊢
    subst hn
    exact index86_nil base c _ w
  · have hle := h.le
    obtain ⟨b, rfl, rfl, hcs⟩ := h.block 0 h0
    let E : Nat → Nat → Value := fun k j => match cs[k]? with | some c => ((cellsCr c)[j]?).getD undef | none => undef
    have hE : ∀ k (hk : k < cs.length) j, j < 5 → E k j = ((cellsCr cs[k])[j]?).getD undef := fun k hk j _ => by simp only [E, List.getElem?_eq_getElem hk]
    have hcell : ∀ k (hk : k < cs.length) j, j < 5 → w.cell? ⟨b, 0 + k * 5 + j, none⟩ = some (E k j) := fun k hk j hj => by
      rw [Nat.zero_add]
      refine hcs k hk j _ ?_
      rw [hE k hk j hj]
      have : j < (cellsCr cs[k]).length := hj
      rw [List.getElem?_eq_getElem this]
      rfl
    refine index86 b 0 cs.length c hle 77 _ E _ w (fun k hk => hcell k hk 0 (by decide)) (fun k hk => hcell k hk 1 (by decide)) (fun k hk => hcell k hk 2 (by decide)) (fun k hk => hcell k hk 3 (by decide)) (fun k hk => hcell k hk 4 (by decide)) (fun k w' hk hx => ?_) (fun _ _ => by kernel_rfl)
    have := same77 cs[k] nm p w' ((hx.cells.1 _ _ hb).trans hc)
    rw [hE k hk 0 (by decide), hE k hk 1 (by decide), hE k hk 2 (by decide), hE k hk 3 (by decide), hE k hk 4 (by decide)]
    simp only [crP, List.getElem?_eq_getElem hk]
    exact this
def crF (cs : List Cr) (nm : ByteArray) : Option Cr := cs.find? fun c => c.name.toList == nm.toList
theorem cr_place (cs : List Cr) (nm : ByteArray) : (crF cs nm = none ∧ idxZ (crP cs nm) cs.length = -1) ∨ ∃ k, ∃ h : k < cs.length, crF cs nm = some cs[k] ∧ idxZ (crP cs nm) cs.length = k :=
  idx_find (fun c : Cr => c.name.toList == nm.toList) cs (crP cs nm) (fun k hk => by simp [crP, hk])
def tieF (cs : List Cr) (nm : ByteArray) (a b : En) : Int :=
  if (nm.toList == [112, 114, 105, 99, 101]) = true then cmpZ b.price a.price
  else match crF cs nm with
    | none => 0
    | some c => match look a.vs nm, look b.vs nm with
      | some n, some m => (if c.less then -1 else 1) * cmpZ n m
      | _, _ => 0
def TieV (cs : List Cr) (nm : ByteArray) (fv : Value) (w : World) : Prop :=
  ((nm.toList == [112, 114, 105, 99, 101]) = true ∧ fv = .func (.func 75) #[] #[]) ∨
  ((nm.toList == [112, 114, 105, 99, 101]) = false ∧ crF cs nm = none ∧ fv = .func (.func 78) #[] #[]) ∨
  ((nm.toList == [112, 114, 105, 99, 101]) = false ∧ ∃ c p q, crF cs nm = some c ∧ fv = .func (.func 79) #[] #[.pointer (some ⟨p, 0, none⟩), .pointer (some ⟨q, 0, none⟩)] ∧ w.cell? ⟨p, 0, none⟩ = some (.string nm) ∧ w.cell? ⟨q, 0, none⟩ = some (.int .i64 (if c.less then -1 else 1)))
theorem TieV.ext {cs : List Cr} {nm : ByteArray} {fv : Value} {w w' : World} (h : TieV cs nm fv w) (x : Ext w w') : TieV cs nm fv w' := by
  rcases h with h | h | ⟨h, c, p, q, h1, h2, h3, h4⟩
  · exact .inl h
  · exact .inr (.inl h)
  · exact .inr (.inr ⟨h, c, p, q, h1, h2, (x.cells.1 _ _ (World.block_lt_of_cell? w _ h3)).trans h3, (x.cells.1 _ _ (World.block_lt_of_cell? w _ h4)).trans h4⟩)
set_option maxHeartbeats 4000000 in
theorem tie_any (r : TnR) (cs : List Cr) (nm : ByteArray) (w : World) (h : SR cellsCr 5 w (slV r.cs) cs) :
    Calls Tryz.prog 45 #[.agg (tenC r), .string nm] w fun e w' => ∃ fv, e = .returned fv ∧ Ext w w' ∧ TieV cs nm fv w' := by
  obtain ⟨tnm, tls, ⟨ca, cl, cc⟩, trs, low, high, fo, f1, f2, fn, tfa, tts, most, tks, budget, t0, t1, t2, t3, t4⟩ := r
  obtain rfl : cl = cs.length := h.len
  have hle := h.le
  have HC := Lib.hid h
  obtain ⟨W1, hW1⟩ : ∃ W1, W1 = (w.alloc (.cells (tenC ⟨tnm, tls, (ca, cs.length, cc), trs, low, high, fo, f1, f2, fn, tfa, tts, most, tks, budget, t0, t1, t2, t3, t4⟩) 39)).alloc (.cells #[.string nm] 9) := ⟨_, rfl⟩
  have hx1 : Ext w W1 := by rw [hW1]; exact Ext.alloc (Ext.alloc (Ext.refl _) _) _
  have hp0 : W1.heap[w.heap.size]? = some (.cells (tenC ⟨tnm, tls, (ca, cs.length, cc), trs, low, high, fo, f1, f2, fn, tfa, tts, most, tks, budget, t0, t1, t2, t3, t4⟩) 39) := by rw [hW1, Below.heap_alloc _ _ _ (by simp)]; exact heap_alloc_new _ _
  have hp1 : W1.heap[w.heap.size + 1]? = some (.cells #[.string nm] 9) := by rw [hW1]; exact block_new (by simp)
  have c2 : W1.cell? ⟨w.heap.size, 2, none⟩ = some (.slice ca cs.length cc) := cell_of_row W1 w.heap.size 2 _ _ _ hp0
  have c0 : W1.cell? ⟨w.heap.size + 1, 0, none⟩ = some (.string nm) := cell_of_row W1 (w.heap.size + 1) 0 _ _ _ hp1
  have HX1 := Lib.hid hx1
  have HB0 := Lib.hid hp0; have HB1 := Lib.hid hp1
  have hl0 := Rg.lt_of_heap hp0; have hl1 := Rg.lt_of_heap hp1
  have HPL := Lib.hid (fun wz (hw : Ext w wz) q (hq : wz.cell? ⟨q, 0, none⟩ = some (.string nm)) => place76_any cs nm (ca, cs.length, cc) q wz (h.ext hw) hq)
  clear h hx1 hp0 hp1
  go_enter Tryz.func45, Tryz.ntmps45
  go_upto_region 1 with (fail)
  rw [← hW1]
  clear hW1
  generalize w.heap.size + 1 = p1 at *
  generalize w.heap.size = p0 at *
  cases hnp : (nm.toList == [112, 114, 105, 99, 101]) with
  | true =>
    go_wp2_with (fail)
    go_ret
    exact ⟨_, rfl, HX1.out, .inl ⟨hnp, rfl⟩⟩
  | false =>
    have HNP := Lib.hid hnp
    rcases cr_place cs nm with ⟨hf, hi⟩ | ⟨k, hk, hf, hi⟩
    · rw [hi] at HPL
      have HF := Lib.hid hf
      clear hf hi
      go_wp2_with (go_at_call 76; (with_reducible refine (HPL.out _ HX1.out _ c0).mono ?_); rintro e w2 ⟨rfl, hx2⟩)
      go_ret
      exact ⟨_, rfl, HX1.out.trans hx2, .inr (.inl ⟨HNP.out, HF.out, rfl⟩)⟩
    · rw [hi] at HPL
      have HF := Lib.hid hf
      clear hf hi
      obtain ⟨bc, hbc, hcs⟩ := HC.out.at HX1.out k hk
      subst hbc
      have hc4 : W1.cell? ⟨bc, k * 5 + 4, none⟩ = some (.bool cs[k].less) := hcs 4 _ rfl
      have hbl := World.block_lt_of_cell? W1 _ hc4
      have hk1 : ¬ (k : Int) < 0 := by omega
      have hk2 : (k : Int) < (cs.length : Int) := by omega
      generalize cs[k] = c at *
      clear hcs
      cases hls : c.less with
      | true =>
        rw [hls] at hc4
        have HLS := Lib.hid hls
        clear hls
        go_wp2_with (go_at_call 76; (with_reducible refine (HPL.out _ HX1.out _ c0).mono ?_); rintro e w2 ⟨rfl, hx2⟩; have d4 := (hx2.cells.1 _ _ hbl).trans hc4; have d2 := (hx2.cells.1 _ _ hl0).trans c2; have dl := Nat.lt_of_lt_of_le hbl hx2.size; have dl0 := Nat.lt_of_lt_of_le hl0 hx2.size; have HX2 := Lib.hid hx2; have HC0 := Lib.hid ((hx2.cells.1 _ _ hl1).trans c0); clear hx2)
        go_ret
        exact ⟨_, rfl, HX1.out.trans (HX2.out.trans (Ext.alloc (Ext.refl _) _)), .inr (.inr ⟨HNP.out, c, p1, _, HF.out, rfl, ((Ext.alloc (Ext.refl _) _).cells.1 _ _ (World.block_lt_of_cell? w2 _ HC0.out)).trans HC0.out, by rw [HLS.out, cell_of_row _ _ _ _ _ _ (block_new rfl)]; rfl⟩)⟩
      | false =>
        rw [hls] at hc4
        have HLS := Lib.hid hls
        clear hls
        go_wp2_with (go_at_call 76; (with_reducible refine (HPL.out _ HX1.out _ c0).mono ?_); rintro e w2 ⟨rfl, hx2⟩; have d4 := (hx2.cells.1 _ _ hbl).trans hc4; have d2 := (hx2.cells.1 _ _ hl0).trans c2; have dl := Nat.lt_of_lt_of_le hbl hx2.size; have dl0 := Nat.lt_of_lt_of_le hl0 hx2.size; have HX2 := Lib.hid hx2; have HC0 := Lib.hid ((hx2.cells.1 _ _ hl1).trans c0); clear hx2)
        go_ret
        exact ⟨_, rfl, HX1.out.trans (HX2.out.trans (Ext.alloc (Ext.refl _) _)), .inr (.inr ⟨HNP.out, c, p1, _, HF.out, rfl, ((Ext.alloc (Ext.refl _) _).cells.1 _ _ (World.block_lt_of_cell? w2 _ HC0.out)).trans HC0.out, by rw [HLS.out, cell_of_row _ _ _ _ _ _ (block_new rfl)]; rfl⟩)⟩
end Go.Proofs.YteomcpplajeidaaGreat
