/-
  Lemmas of this claim (JtAE). Nothing is asked.
-/
import Derived.Test.YteomcpplajeidaaGreatJtQ
namespace Go.Proofs.YteomcpplajeidaaGreat
set_option linter.unusedVariables false
set_option linter.unusedSimpArgs false
set_option maxRecDepth 100000
open Go.RowKit
theorem SR.len {α : Type} {cs : α → List Value} {sz : Nat} {w : World} {base : Option Addr} {n c : Nat} {xs : List α} (h : SR cs sz w (.slice base n c) xs) : n = xs.length := by
  obtain ⟨_, _, hf⟩ := h.form
  injection hf
theorem SR.at {α : Type} {cs : α → List Value} {sz : Nat} {w wr : World} {base : Option Addr} {n c : Nat} {xs : List α} (h : SR cs sz w (.slice base n c) xs) (hx : Ext w wr) (k : Nat) (hk : k < xs.length) :
    ∃ b, base = some ⟨b, 0, none⟩ ∧ ∀ j u, (cs xs[k])[j]? = some u → wr.cell? ⟨b, k * sz + j, none⟩ = some u := by
  obtain ⟨b, hb, -, hc⟩ := (h.ext hx).block k hk
  exact ⟨b, hb, hc k hk⟩
theorem VRd.at {w wr : World} {base : Option Addr} {n c : Nat} {vs : Vals} (h : VRd All w vs (.slice base n c)) (hx : Ext w wr) (k : Nat) (hk : k < vs.length) :
    ∃ b, base = some ⟨b, 0, none⟩ ∧ wr.cell? ⟨b, k * 2, none⟩ = some (.string vs[k].1) ∧ wr.cell? ⟨b, k * 2 + 1, none⟩ = some (.int .i64 vs[k].2) := by
  obtain ⟨base', cap, hf, -, -, hc⟩ := h.ext hx
  injection hf with e1 _ _
  subst e1
  obtain ⟨b, hb, -, hcs⟩ := hc.resolve_left (by intro e; rw [e] at hk; simp at hk)
  exact ⟨b, hb, hcs k hk⟩
theorem reqE_none {vs : Vals} {rn rl : ByteArray} {rv n : Int} {m : Nat} (h : lkv vs rn = (n, m)) (hm : m = 0) : reqE vs ⟨rn, rl, rv⟩ = 13 := by
  unfold reqE; rw [h]; exact if_pos hm
theorem reqE_arg {vs : Vals} {rn rl : ByteArray} {rv n : Int} {m : Nat} (h : lkv vs rn = (n, m)) (hm : ¬ m = 0) (h1 : (rl.toList == [60, 61]) = false) (h2 : (rl.toList == [62, 61]) = false) : reqE vs ⟨rn, rl, rv⟩ = 1 := by
  unfold reqE; rw [h]; simp only; rw [if_neg hm, if_pos ⟨h1, h2⟩]
theorem reqE_out {vs : Vals} {rn rl : ByteArray} {rv n : Int} {m : Nat} (h : lkv vs rn = (n, m)) (hm : ¬ m = 0) (h1 : ((rl.toList == [60, 61]) = true ∧ rv < n) ∨ ((rl.toList == [62, 61]) = true ∧ n < rv)) : reqE vs ⟨rn, rl, rv⟩ = 37 := by
  unfold reqE; rw [h]; simp only; rw [if_neg hm, if_neg (fun h => by rcases h1 with ⟨h1, -⟩ | ⟨h1, -⟩ <;> rw [h1] at h <;> simp at h), if_pos h1]
theorem reqE_zero {vs : Vals} {rn rl : ByteArray} {rv n : Int} {m : Nat} (h : lkv vs rn = (n, m)) (hm : ¬ m = 0) (h0 : ¬ ((rl.toList == [60, 61]) = false ∧ (rl.toList == [62, 61]) = false))
    (h1 : ¬ (((rl.toList == [60, 61]) = true ∧ rv < n) ∨ ((rl.toList == [62, 61]) = true ∧ n < rv))) : reqE vs ⟨rn, rl, rv⟩ = 0 := by
  unfold reqE; rw [h]; simp only; rw [if_neg hm, if_neg h0, if_neg h1]
theorem tcells {w : World} {p : Nat} {r : TnR} (h : w.heap[p]? = some (.cells (tenC r) 39)) :
    w.cell? ⟨p, 1, none⟩ = some (slV r.ls) ∧ w.cell? ⟨p, 2, none⟩ = some (slV r.cs) ∧ w.cell? ⟨p, 3, none⟩ = some (slV r.rs) ∧ w.cell? ⟨p, 4, none⟩ = some (.int .i64 r.low) ∧ w.cell? ⟨p, 5, none⟩ = some (.int .i64 r.high) ∧ p < w.heap.size := by
  obtain ⟨hc, -, hl⟩ := Rg.cells_of h
  exact ⟨hc 1, hc 2, hc 3, hc 4, hc 5, hl⟩
theorem ecells {w : World} {p : Nat} {b l c q : Int} {es : Sl} (h : w.heap[p]? = some (.cells (entC b l c q es) 57)) :
    w.cell? ⟨p, 1, none⟩ = some (.int .i64 l) ∧ w.cell? ⟨p, 3, none⟩ = some (.int .i64 q) ∧ w.cell? ⟨p, 4, none⟩ = some (slV es) ∧ p < w.heap.size := by
  obtain ⟨hc, -, hl⟩ := Rg.cells_of h
  exact ⟨hc 1, hc 3, hc 4, hl⟩
set_option maxHeartbeats 400000 in
theorem admit1 (a b lot : Int) (p : Nat) (w : World) (hc : w.cell? ⟨p, 1, none⟩ = some (.int .i64 lot)) :
    Calls Tryz.prog 49 #[.agg #[.int .i64 a, .int .i64 b], .pointer (some ⟨p, 0, none⟩)] w fun e w' => e = .returned (.bool (a == lot)) ∧ Ext w w' := by
  have hb := World.block_lt_of_cell? w _ hc
  have hn : ¬ p = w.heap.size := by have : p < w.heap.size := hb; omega
  go_enter Tryz.func49, Tryz.ntmps49
  go_wp2
  go_ret
  exact ⟨by simp, (by with_reducible repeat (first | exact Ext.refl _ | assumption | apply Ext.drewN | apply Ext.drew | apply Ext.alloc | (refine Ext.setCell ?_ (by simp <;> omega) _) | (refine Ext.trans ?_ (by assumption))))⟩
set_option maxHeartbeats 400000 in
theorem admit2 (c : Cr) (nm : ByteArray) (p : Nat) (w : World) (hc : w.cell? ⟨p, 0, none⟩ = some (.string nm)) :
    Calls Tryz.prog 52 #[.agg (cellsCr c).toArray, .pointer (some ⟨p, 0, none⟩)] w fun e w' => e = .returned (.bool (c.name.toList == nm.toList)) ∧ Ext w w' := by
  have hb := World.block_lt_of_cell? w _ hc
  have hn : ¬ p = w.heap.size := by have : p < w.heap.size := hb; omega
  unfold cellsCr
  go_enter Tryz.func52, Tryz.ntmps52
  go_wp2
  go_ret
  exact ⟨by simp, (by with_reducible repeat (first | exact Ext.refl _ | assumption | apply Ext.drewN | apply Ext.drew | apply Ext.alloc | (refine Ext.setCell ?_ (by simp <;> omega) _) | (refine Ext.trans ?_ (by assumption))))⟩
theorem idx_any {α : Type} (q : α → Bool) (xs : List α) (p : Nat → Bool) (hp : ∀ k (h : k < xs.length), p k = q xs[k]) : decide (0 ≤ idxZ p xs.length) = xs.any q := by
  rcases idx_find q xs p hp with ⟨h1, h2⟩ | ⟨k, hk, h1, h2⟩
  · rw [h2]
    symm
    have := List.find?_eq_none.1 h1
    rw [List.any_eq_false.2 (fun x hx => by simpa using this x hx)]
    decide
  · rw [h2]
    symm
    rw [List.any_eq_true.2 ⟨xs[k], List.getElem_mem hk, List.find?_some h1⟩]
    symm
    simp
def lotP (ls : List (Int × Int)) (lot : Int) (k : Nat) : Bool := (ls.getD k (0, 0)).1 == lot
def crP (cs : List Cr) (nm : ByteArray) (k : Nat) : Bool := match cs[k]? with | some c => c.name.toList == nm.toList | none => false
theorem lots_idx (ls : List (Int × Int)) (lot : Int) (x : Sl) (p : Nat) (w : World) (h : SR cellsLot 2 w (slV x) ls) (hc : w.cell? ⟨p, 1, none⟩ = some (.int .i64 lot)) :
    Calls Tryz.prog 48 #[slV x, .func (.func 49) #[] #[.pointer (some ⟨p, 0, none⟩)]] w fun e w' => e = .returned (.int .i64 (idxZ (lotP ls lot) ls.length)) ∧ Ext w w' := by
  obtain ⟨base, n, c⟩ := x
  have hb := World.block_lt_of_cell? w _ hc
  rcases Nat.eq_zero_or_pos ls.length with h0 | h0
  · obtain ⟨_, _, hf⟩ := h.form
    injection hf with _ hn _
    rw [h0] at hn ⊢
    subst hn
    exact index59_nil base c _ w
  · have hle := h.le
    obtain ⟨b, rfl, rfl, hcs⟩ := h.block 0 h0
    refine index59 b 0 ls.length c hle 49 _ (fun k j => if j = 0 then .int .i64 (ls.getD k (0, 0)).1 else .int .i64 (ls.getD k (0, 0)).2) _ w (fun k hk => ?_) (fun k hk => ?_) (fun k w' hk hx => ?_) (fun _ _ => by kernel_rfl)
    · rw [Nat.zero_add]; exact hcs k hk 0 _ (by simp [cellsLot, List.getD_eq_getElem?_getD, hk])
    · rw [Nat.zero_add]; exact hcs k hk 1 _ (by simp [cellsLot, List.getD_eq_getElem?_getD, hk])
    · exact admit1 _ _ lot p w' ((hx.cells.1 _ _ hb).trans hc)
theorem lotP_spec (ls : List (Int × Int)) (lot : Int) (k : Nat) (h : k < ls.length) : lotP ls lot k = (ls[k].1 == lot) := by
  simp [lotP, List.getD_eq_getElem?_getD, h]
set_option maxHeartbeats 400000 in
theorem known_any (cs : List Cr) (nm : ByteArray) (x : Sl) (p : Nat) (w : World) (h : SR cellsCr 5 w (slV x) cs) (hc : w.cell? ⟨p, 0, none⟩ = some (.string nm)) :
    Calls Tryz.prog 51 #[slV x, .func (.func 52) #[] #[.pointer (some ⟨p, 0, none⟩)]] w fun e w' => e = .returned (.bool (knownC cs nm)) ∧ Ext w w' := by
  have key : Calls Tryz.prog 76 #[slV x, .func (.func 52) #[] #[.pointer (some ⟨p, 0, none⟩)]] w fun e w' => e = .returned (.int .i64 (idxZ (crP cs nm) cs.length)) ∧ Ext w w' := by
    obtain ⟨base, n, c⟩ := x
    have hb := World.block_lt_of_cell? w _ hc
    rcases Nat.eq_zero_or_pos cs.length with h0 | h0
    · obtain ⟨_, _, hf⟩ := h.form
      injection hf with _ hn _
      rw [h0] at hn ⊢
      subst hn
      exact index86_nil base c _ w
    · have hle := h.le
      obtain ⟨b, rfl, rfl, hcs⟩ := h.block 0 h0
      let E : Nat → Nat → Value := fun k j => match cs[k]? with | some c => ((cellsCr c)[j]?).getD undef | none => undef
      have hE : ∀ k (hk : k < cs.length) j, j < 5 → E k j = ((cellsCr cs[k])[j]?).getD undef := fun k hk j _ => by simp only [E, List.getElem?_eq_getElem hk]
      have hcell : ∀ k (hk : k < cs.length) j, j < 5 → w.cell? ⟨b, 0 + k * 5 + j, none⟩ = some (E k j) := fun k hk j hj => by
        rw [Nat.zero_add]
        refine hcs k hk j _ ?_
        rw [hE k hk j hj]
        have : j < (cellsCr cs[k]).length := hj
        rw [List.getElem?_eq_getElem this]
        rfl
      refine index86 b 0 cs.length c hle 52 _ E _ w (fun k hk => hcell k hk 0 (by decide)) (fun k hk => hcell k hk 1 (by decide)) (fun k hk => hcell k hk 2 (by decide)) (fun k hk => hcell k hk 3 (by decide)) (fun k hk => hcell k hk 4 (by decide)) (fun k w' hk hx => ?_) (fun _ _ => by kernel_rfl)
      have := admit2 cs[k] nm p w' ((hx.cells.1 _ _ hb).trans hc)
      rw [hE k hk 0 (by decide), hE k hk 1 (by decide), hE k hk 2 (by decide), hE k hk 3 (by decide), hE k hk 4 (by decide)]
      simp only [crP, List.getElem?_eq_getElem hk]
      exact this
  have hany := idx_any (fun c : Cr => c.name.toList == nm.toList) cs (crP cs nm) (fun k hk => by simp [crP, hk])
  change _ = knownC cs nm at hany
  have HK := Lib.hid key
  have HY := Lib.hid hany
  clear key hany
  generalize idxZ (crP cs nm) cs.length = z at *
  obtain ⟨x1, x2, x3⟩ := x
  go_enter Tryz.func51, Tryz.ntmps51
  go_wp2_with (go_at_call 76; (with_reducible refine HK.out.mono ?_); rintro e w1 ⟨rfl, hx1⟩)
  go_ret
  exact ⟨by rw [← HY.out]; rfl, (by with_reducible repeat (first | exact Ext.refl _ | assumption | apply Ext.drewN | apply Ext.drew | apply Ext.alloc | (refine Ext.setCell ?_ (by simp <;> omega) _) | (refine Ext.trans ?_ (by assumption))))⟩
set_option maxRecDepth 100000 in
set_option maxHeartbeats 4000000 in
theorem Admit_any (r : TnR) (bidder lot receipt price : Int) (es : Sl) (ls : List (Int × Int)) (cs : List Cr) (rs : List Rq) (vs : Vals) (w : World)
    (h1 : SR cellsLot 2 w (slV r.ls) ls) (h2 : SR cellsCr 5 w (slV r.cs) cs) (h3 : SR cellsRq 3 w (slV r.rs) rs) (h4 : VRd All w vs (slV es)) :
    Calls Tryz.prog 22 #[.agg (tenC r), .agg (entC bidder lot receipt price es)] w fun e w' => e = .returned (.int .i64 (admitI ls cs rs r.low r.high lot price vs)) ∧ Ext w w' := by
  obtain ⟨nm, ⟨la, ll, lc⟩, ⟨ca, cl, cc⟩, ⟨ra, rl, rc⟩, low, high, fo, f1, f2, fn, ⟨fa, fl, fc⟩, ⟨ta, tl, tc⟩, most0, ⟨ka, kl, kc⟩, budget, t0, t1, t2, t3, t4⟩ := r
  obtain ⟨ea, el, ec⟩ := es
  obtain rfl : ll = ls.length := h1.len
  obtain rfl : cl = cs.length := h2.len
  obtain rfl : rl = rs.length := h3.len
  obtain rfl : el = vs.length := by obtain ⟨_, _, hf, -⟩ := h4; injection hf
  have H1 := Lib.hid h1
  have H2 := Lib.hid h2
  have H3 := Lib.hid h3
  have H4 := Lib.hid h4
  have hle1 : (ls.length : Int) ≤ 1000000 := by have := h1.le; omega
  have hle2 : (cs.length : Int) ≤ 1000000 := by have := h2.le; omega
  have hle3 : (rs.length : Int) ≤ 1000000 := by have := h3.le; omega
  have hle4 : (vs.length : Int) ≤ 1000000 := by obtain ⟨_, _, -, h, -⟩ := h4; omega
  clear h1 h2 h3 h4
  generalize hr : (TnR.mk nm (la, ls.length, lc) (ca, cs.length, cc) (ra, rs.length, rc) low high fo f1 f2 fn (fa, fl, fc) (ta, tl, tc) most0 (ka, kl, kc) budget t0 t1 t2 t3 t4) = r
  have HRR := Lib.hid hr
  have r1 : r.ls = (la, ls.length, lc) := by rw [← hr]
  have r2 : r.cs = (ca, cs.length, cc) := by rw [← hr]
  have r3 : r.rs = (ra, rs.length, rc) := by rw [← hr]
  have r4 : r.low = low := by rw [← hr]
  have r5 : r.high = high := by rw [← hr]
  have T1 := Lib.hid (fun (w : World) (p : Nat) (h : w.heap[p]? = some (.cells (tenC r) 39)) => (show w.cell? ⟨p, 1, none⟩ = some (.slice la ls.length lc) ∧ w.cell? ⟨p, 2, none⟩ = some (.slice ca cs.length cc) ∧ w.cell? ⟨p, 3, none⟩ = some (.slice ra rs.length rc) ∧ w.cell? ⟨p, 4, none⟩ = some (.int .i64 low) ∧ w.cell? ⟨p, 5, none⟩ = some (.int .i64 high) ∧ p < w.heap.size by
    have := tcells h
    rw [r1, r2, r3, r4, r5] at this
    exact this))
  rw [r4, r5]
  clear hr r1 r2 r3 r4 r5 HRR
  go_enter Tryz.func22, Tryz.ntmps22
  go_upto_region 1 with (fail)
  have hx0 : Ext w ((w.alloc (.cells (tenC r) 39)).alloc (.cells (entC bidder lot receipt price (ea, vs.length, ec)) 57)) := (by with_reducible repeat (first | exact Ext.refl _ | assumption | apply Ext.drewN | apply Ext.drew | apply Ext.alloc | (refine Ext.setCell ?_ (by simp <;> omega) _) | (refine Ext.trans ?_ (by assumption))))
  have hT : ((w.alloc (.cells (tenC r) 39)).alloc (.cells (entC bidder lot receipt price (ea, vs.length, ec)) 57)).heap[w.heap.size]? = some (.cells (tenC r) 39) := by
    rw [Below.heap_alloc _ _ _ (by simp)]; exact block_new rfl
  have hE : ((w.alloc (.cells (tenC r) 39)).alloc (.cells (entC bidder lot receipt price (ea, vs.length, ec)) 57)).heap[w.heap.size + 1]? = some (.cells (entC bidder lot receipt price (ea, vs.length, ec)) 57) := block_new (by simp)
  obtain ⟨d1, d2, d3, d4, d5, dl⟩ := T1.out _ _ hT
  obtain ⟨e1, e3, e4, el⟩ := ecells hE
  replace e4 : _ = some (Value.slice ea vs.length ec) := e4
  have HT := Lib.hid hT
  have HE := Lib.hid hE
  clear hT hE
  generalize (w.alloc (.cells (tenC r) 39)).alloc (.cells (entC bidder lot receipt price (ea, vs.length, ec)) 57) = W at *
  generalize w.heap.size + 1 = pe at *
  generalize w.heap.size = pt at *
  have HL := Lib.hid (lots_idx ls lot (la, ls.length, lc) pe W (H1.out.ext hx0) e1)
  rcases idx_find (fun l => l.1 == lot) ls (lotP ls lot) (lotP_spec ls lot) with ⟨hf, hz⟩ | ⟨k, hk, hf, hz⟩
  · have HA := Lib.hid (show admitI ls cs rs low high lot price vs = 34 by unfold admitI lotAt; rw [hf])
    rw [hz] at HL
    clear hf hz
    go_wp2_with (go_at_call 48; (with_reducible refine HL.out.mono ?_); rintro e w1 ⟨rfl, hx1⟩)
    go_ret
    exact ⟨by rw [HA.out]; rfl, (by with_reducible repeat (first | exact Ext.refl _ | assumption | apply Ext.drewN | apply Ext.drew | apply Ext.alloc | (refine Ext.setCell ?_ (by simp <;> omega) _) | (refine Ext.trans ?_ (by assumption))))⟩
  · rw [hz] at HL
    have HA := Lib.hid (show admitI ls cs rs low high lot price vs = if price < low ∨ high < price ∨ ls[k].2 < price then 16 else restE cs rs vs by unfold admitI lotAt; rw [hf])
    obtain ⟨b, rfl, hcs⟩ := H1.out.at hx0 k hk
    have hc1 : W.cell? ⟨b, k * 2 + 1, none⟩ = some (.int .i64 ls[k].2) := hcs 1 _ rfl
    have hkn : (k : Int) < (ls.length : Int) := by omega
    have hk6 : (k : Int) ≤ 1000000 := by omega
    have hbl := World.block_lt_of_cell? W _ hc1
    generalize ls[k].2 = most at *
    clear hf hz hcs
    go_upto_region 4 with (go_at_call 48; (with_reducible refine HL.out.mono ?_); rintro e w1 ⟨rfl, hx1⟩)
    have c4 := (hx1.cells.1 _ _ dl).trans d4
    have c5 := (hx1.cells.1 _ _ dl).trans d5
    have c1 := (hx1.cells.1 _ _ dl).trans d1
    have q3 := (hx1.cells.1 _ _ el).trans e3
    have m1 := (hx1.cells.1 _ _ hbl).trans hc1
    have lt := Nat.lt_of_lt_of_le dl hx1.size
    have le' := Nat.lt_of_lt_of_le el hx1.size
    have lb := Nat.lt_of_lt_of_le hbl hx1.size
    clear d1 d2 d3 d4 d5 e1 e3 e4 HL
    by_cases hlo : price < low
    · have HA' := Lib.hid (HA.out.trans (if_pos (.inl hlo)))
      refine Rr.wp_region ((List.range 18).map (fun i => (i, .y))) (fun _ => (.cells #[] 29, Rg.ptr)) (by kernel_rfl) (by kernel_rfl) ?_
      simp only [List.range, List.range.loop, List.map_cons, List.map_nil]
      (refine Rr.wr_y (by simp only [List.getElem?_toArray, List.getElem?_cons_succ, List.getElem?_cons_zero]; rfl) (by rfl) ?_
       apply Exists.intro
       refine ⟨fun wz hw _ => ?_, ?_⟩
       · have hcz := hw.cells.1
         go_simp
         (with_reducible exact Rg.up_value)
       simp only [Act.put, List.setIfInBounds_toArray, List.set_cons_zero, List.set_cons_succ])
      (refine Rr.wr_y (by simp only [List.getElem?_toArray, List.getElem?_cons_succ, List.getElem?_cons_zero]; rfl) (by rfl) ?_
       apply Exists.intro
       refine ⟨fun wz hw _ => ?_, ?_⟩
       · have hcz := hw.cells.1
         go_simp
         (with_reducible exact Rg.up_value)
       simp only [Act.put, List.setIfInBounds_toArray, List.set_cons_zero, List.set_cons_succ])
      (refine Rr.wr_y (by simp only [List.getElem?_toArray, List.getElem?_cons_succ, List.getElem?_cons_zero]; rfl) (by rfl) ?_
       apply Exists.intro
       refine ⟨fun wz hw _ => ?_, ?_⟩
       · have hcz := hw.cells.1
         go_simp
         (with_reducible exact Rg.up_value)
       simp only [Act.put, List.setIfInBounds_toArray, List.set_cons_zero, List.set_cons_succ])
      (refine Rr.wr_y (by simp only [List.getElem?_toArray, List.getElem?_cons_succ, List.getElem?_cons_zero]; rfl) (by rfl) ?_
       apply Exists.intro
       refine ⟨fun wz hw _ => ?_, ?_⟩
       · have hcz := hw.cells.1
         go_simp
         (with_reducible exact Rg.up_value)
       simp only [Act.put, List.setIfInBounds_toArray, List.set_cons_zero, List.set_cons_succ])
      (refine Rr.wr_y (by simp only [List.getElem?_toArray, List.getElem?_cons_succ, List.getElem?_cons_zero]; rfl) (by rfl) ?_
       apply Exists.intro
       refine ⟨fun wz hw _ => ?_, ?_⟩
       · have hcz := hw.cells.1
         go_simp
         (with_reducible exact Rg.up_value)
       simp only [Act.put, List.setIfInBounds_toArray, List.set_cons_zero, List.set_cons_succ])
      (refine Rr.wr_y (by simp only [List.getElem?_toArray, List.getElem?_cons_succ, List.getElem?_cons_zero]; rfl) (by rfl) ?_
       apply Exists.intro
       refine ⟨fun wz hw _ => ?_, ?_⟩
       · have hcz := hw.cells.1
         go_simp
         (with_reducible exact Rg.up_value)
       simp only [Act.put, List.setIfInBounds_toArray, List.set_cons_zero, List.set_cons_succ])
      refine Rr.wr_skip (by simp only [List.getElem?_toArray, List.getElem?_cons_succ, List.getElem?_cons_zero]; rfl) (by rfl) ?_
      simp only [Act.put, List.setIfInBounds_toArray, List.set_cons_zero, List.set_cons_succ]
      refine Rr.wr_skip (by simp only [List.getElem?_toArray, List.getElem?_cons_succ, List.getElem?_cons_zero]; rfl) (by rfl) ?_
      simp only [Act.put, List.setIfInBounds_toArray, List.set_cons_zero, List.set_cons_succ]
      refine Rr.wr_skip (by simp only [List.getElem?_toArray, List.getElem?_cons_succ, List.getElem?_cons_zero]; rfl) (by rfl) ?_
      simp only [Act.put, List.setIfInBounds_toArray, List.set_cons_zero, List.set_cons_succ]
      refine Rr.wr_skip (by simp only [List.getElem?_toArray, List.getElem?_cons_succ, List.getElem?_cons_zero]; rfl) (by rfl) ?_
      simp only [Act.put, List.setIfInBounds_toArray, List.set_cons_zero, List.set_cons_succ]
      refine Rr.wr_skip (by simp only [List.getElem?_toArray, List.getElem?_cons_succ, List.getElem?_cons_zero]; rfl) (by rfl) ?_
      simp only [Act.put, List.setIfInBounds_toArray, List.set_cons_zero, List.set_cons_succ]
      refine Rr.wr_skip (by simp only [List.getElem?_toArray, List.getElem?_cons_succ, List.getElem?_cons_zero]; rfl) (by rfl) ?_
      simp only [Act.put, List.setIfInBounds_toArray, List.set_cons_zero, List.set_cons_succ]
      refine Rr.wr_skip (by simp only [List.getElem?_toArray, List.getElem?_cons_succ, List.getElem?_cons_zero]; rfl) (by rfl) ?_
      simp only [Act.put, List.setIfInBounds_toArray, List.set_cons_zero, List.set_cons_succ]
      refine Rr.wr_skip (by simp only [List.getElem?_toArray, List.getElem?_cons_succ, List.getElem?_cons_zero]; rfl) (by rfl) ?_
      simp only [Act.put, List.setIfInBounds_toArray, List.set_cons_zero, List.set_cons_succ]
      refine Rr.wr_skip (by simp only [List.getElem?_toArray, List.getElem?_cons_succ, List.getElem?_cons_zero]; rfl) (by rfl) ?_
      simp only [Act.put, List.setIfInBounds_toArray, List.set_cons_zero, List.set_cons_succ]
      refine Rr.wr_skip (by simp only [List.getElem?_toArray, List.getElem?_cons_succ, List.getElem?_cons_zero]; rfl) (by rfl) ?_
      simp only [Act.put, List.setIfInBounds_toArray, List.set_cons_zero, List.set_cons_succ]
      refine Rr.wr_skip (by simp only [List.getElem?_toArray, List.getElem?_cons_succ, List.getElem?_cons_zero]; rfl) (by rfl) ?_
      simp only [Act.put, List.setIfInBounds_toArray, List.set_cons_zero, List.set_cons_succ]
      refine Rr.wr_skip (by simp only [List.getElem?_toArray, List.getElem?_cons_succ, List.getElem?_cons_zero]; rfl) (by rfl) ?_
      simp only [Act.put, List.setIfInBounds_toArray, List.set_cons_zero, List.set_cons_succ]
      refine Rr.wr_nil ?_
      intro wy hy hh
      simp only [List.length_cons, List.length_nil, List.drop_succ_cons, List.drop_zero, Nat.reduceAdd]
      clear hh
      go_wp2
      go_ret
      exact ⟨by rw [HA'.out]; rfl, (by with_reducible repeat (first | exact Ext.refl _ | assumption | apply Ext.drewN | apply Ext.drew | apply Ext.alloc | (refine Ext.setCell ?_ (by simp <;> omega) _) | (refine Ext.trans ?_ (by assumption))))⟩
    · by_cases hhi : high < price ∨ most < price
      · have HA' := Lib.hid (HA.out.trans (if_pos (.inr hhi)))
        have hmin : min high most < price := by omega
        refine Rr.wp_region ((List.range 18).map (fun i => (i, .y))) (fun _ => (.cells #[] 29, Rg.ptr)) (by kernel_rfl) (by kernel_rfl) ?_
        simp only [List.range, List.range.loop, List.map_cons, List.map_nil]
        (refine Rr.wr_y (by simp only [List.getElem?_toArray, List.getElem?_cons_succ, List.getElem?_cons_zero]; rfl) (by rfl) ?_
         apply Exists.intro
         refine ⟨fun wz hw _ => ?_, ?_⟩
         · have hcz := hw.cells.1
           go_simp
           (with_reducible exact Rg.up_value)
         simp only [Act.put, List.setIfInBounds_toArray, List.set_cons_zero, List.set_cons_succ])
        (refine Rr.wr_y (by simp only [List.getElem?_toArray, List.getElem?_cons_succ, List.getElem?_cons_zero]; rfl) (by rfl) ?_
         apply Exists.intro
         refine ⟨fun wz hw _ => ?_, ?_⟩
         · have hcz := hw.cells.1
           go_simp
           (with_reducible exact Rg.up_value)
         simp only [Act.put, List.setIfInBounds_toArray, List.set_cons_zero, List.set_cons_succ])
        (refine Rr.wr_y (by simp only [List.getElem?_toArray, List.getElem?_cons_succ, List.getElem?_cons_zero]; rfl) (by rfl) ?_
         apply Exists.intro
         refine ⟨fun wz hw _ => ?_, ?_⟩
         · have hcz := hw.cells.1
           go_simp
           (with_reducible exact Rg.up_value)
         simp only [Act.put, List.setIfInBounds_toArray, List.set_cons_zero, List.set_cons_succ])
        (refine Rr.wr_y (by simp only [List.getElem?_toArray, List.getElem?_cons_succ, List.getElem?_cons_zero]; rfl) (by rfl) ?_
         apply Exists.intro
         refine ⟨fun wz hw _ => ?_, ?_⟩
         · have hcz := hw.cells.1
           go_simp
           (with_reducible exact Rg.up_value)
         simp only [Act.put, List.setIfInBounds_toArray, List.set_cons_zero, List.set_cons_succ])
        (refine Rr.wr_y (by simp only [List.getElem?_toArray, List.getElem?_cons_succ, List.getElem?_cons_zero]; rfl) (by rfl) ?_
         apply Exists.intro
         refine ⟨fun wz hw _ => ?_, ?_⟩
         · have hcz := hw.cells.1
           go_simp
           (with_reducible exact Rg.up_value)
         simp only [Act.put, List.setIfInBounds_toArray, List.set_cons_zero, List.set_cons_succ])
        (refine Rr.wr_y (by simp only [List.getElem?_toArray, List.getElem?_cons_succ, List.getElem?_cons_zero]; rfl) (by rfl) ?_
         apply Exists.intro
         refine ⟨fun wz hw _ => ?_, ?_⟩
         · have hcz := hw.cells.1
           go_simp
           (with_reducible exact Rg.up_value)
         simp only [Act.put, List.setIfInBounds_toArray, List.set_cons_zero, List.set_cons_succ])
        (refine Rr.wr_y (by simp only [List.getElem?_toArray, List.getElem?_cons_succ, List.getElem?_cons_zero]; rfl) (by rfl) ?_
         apply Exists.intro
         refine ⟨fun wz hw _ => ?_, ?_⟩
         · have hcz := hw.cells.1
           go_simp
           (with_reducible exact Rg.up_value)
         simp only [Act.put, List.setIfInBounds_toArray, List.set_cons_zero, List.set_cons_succ])
        (refine Rr.wr_y (by simp only [List.getElem?_toArray, List.getElem?_cons_succ, List.getElem?_cons_zero]; rfl) (by rfl) ?_
         apply Exists.intro
         refine ⟨fun wz hw _ => ?_, ?_⟩
         · have hcz := hw.cells.1
           go_simp
           (with_reducible exact Rg.up_value)
         simp only [Act.put, List.setIfInBounds_toArray, List.set_cons_zero, List.set_cons_succ])
        (refine Rr.wr_y (by simp only [List.getElem?_toArray, List.getElem?_cons_succ, List.getElem?_cons_zero]; rfl) (by rfl) ?_
         apply Exists.intro
         refine ⟨fun wz hw _ => ?_, ?_⟩
         · have hcz := hw.cells.1
           go_simp
           (with_reducible exact Rg.up_value)
         simp only [Act.put, List.setIfInBounds_toArray, List.set_cons_zero, List.set_cons_succ])
        (refine Rr.wr_y (by simp only [List.getElem?_toArray, List.getElem?_cons_succ, List.getElem?_cons_zero]; rfl) (by rfl) ?_
         apply Exists.intro
         refine ⟨fun wz hw _ => ?_, ?_⟩
         · have hcz := hw.cells.1
           go_simp
           (with_reducible exact Rg.up_value)
         simp only [Act.put, List.setIfInBounds_toArray, List.set_cons_zero, List.set_cons_succ])
        (refine Rr.wr_y (by simp only [List.getElem?_toArray, List.getElem?_cons_succ, List.getElem?_cons_zero]; rfl) (by rfl) ?_
         apply Exists.intro
         refine ⟨fun wz hw _ => ?_, ?_⟩
         · have hcz := hw.cells.1
           go_simp
           (with_reducible exact Rg.up_value)
         simp only [Act.put, List.setIfInBounds_toArray, List.set_cons_zero, List.set_cons_succ])
        (refine Rr.wr_y (by simp only [List.getElem?_toArray, List.getElem?_cons_succ, List.getElem?_cons_zero]; rfl) (by rfl) ?_
         apply Exists.intro
         refine ⟨fun wz hw _ => ?_, ?_⟩
         · have hcz := hw.cells.1
           go_simp
           (with_reducible exact Rg.up_value)
         simp only [Act.put, List.setIfInBounds_toArray, List.set_cons_zero, List.set_cons_succ])
        (refine Rr.wr_y (by simp only [List.getElem?_toArray, List.getElem?_cons_succ, List.getElem?_cons_zero]; rfl) (by rfl) ?_
         apply Exists.intro
         refine ⟨fun wz hw _ => ?_, ?_⟩
         · have hcz := hw.cells.1
           go_simp
           (with_reducible exact Rg.up_value)
         simp only [Act.put, List.setIfInBounds_toArray, List.set_cons_zero, List.set_cons_succ])
        (refine Rr.wr_y (by simp only [List.getElem?_toArray, List.getElem?_cons_succ, List.getElem?_cons_zero]; rfl) (by rfl) ?_
         apply Exists.intro
         refine ⟨fun wz hw _ => ?_, ?_⟩
         · have hcz := hw.cells.1
           go_simp
           (with_reducible exact Rg.up_value)
         simp only [Act.put, List.setIfInBounds_toArray, List.set_cons_zero, List.set_cons_succ])
        (refine Rr.wr_y (by simp only [List.getElem?_toArray, List.getElem?_cons_succ, List.getElem?_cons_zero]; rfl) (by rfl) ?_
         apply Exists.intro
         refine ⟨fun wz hw _ => ?_, ?_⟩
         · have hcz := hw.cells.1
           go_simp
           (with_reducible exact Rg.up_value)
         simp only [Act.put, List.setIfInBounds_toArray, List.set_cons_zero, List.set_cons_succ])
        (refine Rr.wr_y (by simp only [List.getElem?_toArray, List.getElem?_cons_succ, List.getElem?_cons_zero]; rfl) (by rfl) ?_
         apply Exists.intro
         refine ⟨fun wz hw _ => ?_, ?_⟩
         · have hcz := hw.cells.1
           go_simp
           (with_reducible exact Rg.up_value)
         simp only [Act.put, List.setIfInBounds_toArray, List.set_cons_zero, List.set_cons_succ])
        (refine Rr.wr_y (by simp only [List.getElem?_toArray, List.getElem?_cons_succ, List.getElem?_cons_zero]; rfl) (by rfl) ?_
         apply Exists.intro
         refine ⟨fun wz hw _ => ?_, ?_⟩
         · have hcz := hw.cells.1
           go_simp
           (with_reducible exact Rg.up_value)
         simp only [Act.put, List.setIfInBounds_toArray, List.set_cons_zero, List.set_cons_succ])
        (refine Rr.wr_y (by simp only [List.getElem?_toArray, List.getElem?_cons_succ, List.getElem?_cons_zero]; rfl) (by rfl) ?_
         apply Exists.intro
         refine ⟨fun wz hw _ => ?_, ?_⟩
         · have hcz := hw.cells.1
           go_simp
           (with_reducible exact Rg.up_value)
         simp only [Act.put, List.setIfInBounds_toArray, List.set_cons_zero, List.set_cons_succ])
        refine Rr.wr_nil ?_
        intro wy hy hh
        simp only [List.length_cons, List.length_nil, List.drop_succ_cons, List.drop_zero, Nat.reduceAdd]
        clear hh
        go_wp2
        go_ret
        exact ⟨by rw [HA'.out]; rfl, (by with_reducible repeat (first | exact Ext.refl _ | assumption | apply Ext.drewN | apply Ext.drew | apply Ext.alloc | (refine Ext.setCell ?_ (by simp <;> omega) _) | (refine Ext.trans ?_ (by assumption))))⟩
      · have HA' := Lib.hid (HA.out.trans (if_neg (fun h => h.elim hlo hhi)))
        have hmin : ¬ min high most < price := by omega
        refine Rr.wp_region ((List.range 18).map (fun i => (i, .y))) (fun _ => (.cells #[] 29, Rg.ptr)) (by kernel_rfl) (by kernel_rfl) ?_
        simp only [List.range, List.range.loop, List.map_cons, List.map_nil]
        (refine Rr.wr_y (by simp only [List.getElem?_toArray, List.getElem?_cons_succ, List.getElem?_cons_zero]; rfl) (by rfl) ?_
         apply Exists.intro
         refine ⟨fun wz hw _ => ?_, ?_⟩
         · have hcz := hw.cells.1
           go_simp
           (with_reducible exact Rg.up_value)
         simp only [Act.put, List.setIfInBounds_toArray, List.set_cons_zero, List.set_cons_succ])
        (refine Rr.wr_y (by simp only [List.getElem?_toArray, List.getElem?_cons_succ, List.getElem?_cons_zero]; rfl) (by rfl) ?_
         apply Exists.intro
         refine ⟨fun wz hw _ => ?_, ?_⟩
         · have hcz := hw.cells.1
           go_simp
           (with_reducible exact Rg.up_value)
         simp only [Act.put, List.setIfInBounds_toArray, List.set_cons_zero, List.set_cons_succ])
        (refine Rr.wr_y (by simp only [List.getElem?_toArray, List.getElem?_cons_succ, List.getElem?_cons_zero]; rfl) (by rfl) ?_
         apply Exists.intro
         refine ⟨fun wz hw _ => ?_, ?_⟩
         · have hcz := hw.cells.1
           go_simp
           (with_reducible exact Rg.up_value)
         simp only [Act.put, List.setIfInBounds_toArray, List.set_cons_zero, List.set_cons_succ])
        (refine Rr.wr_y (by simp only [List.getElem?_toArray, List.getElem?_cons_succ, List.getElem?_cons_zero]; rfl) (by rfl) ?_
         apply Exists.intro
         refine ⟨fun wz hw _ => ?_, ?_⟩
         · have hcz := hw.cells.1
           go_simp
           (with_reducible exact Rg.up_value)
         simp only [Act.put, List.setIfInBounds_toArray, List.set_cons_zero, List.set_cons_succ])
        (refine Rr.wr_y (by simp only [List.getElem?_toArray, List.getElem?_cons_succ, List.getElem?_cons_zero]; rfl) (by rfl) ?_
         apply Exists.intro
         refine ⟨fun wz hw _ => ?_, ?_⟩
         · have hcz := hw.cells.1
           go_simp
           (with_reducible exact Rg.up_value)
         simp only [Act.put, List.setIfInBounds_toArray, List.set_cons_zero, List.set_cons_succ])
        (refine Rr.wr_y (by simp only [List.getElem?_toArray, List.getElem?_cons_succ, List.getElem?_cons_zero]; rfl) (by rfl) ?_
         apply Exists.intro
         refine ⟨fun wz hw _ => ?_, ?_⟩
         · have hcz := hw.cells.1
           go_simp
           (with_reducible exact Rg.up_value)
         simp only [Act.put, List.setIfInBounds_toArray, List.set_cons_zero, List.set_cons_succ])
        (refine Rr.wr_y (by simp only [List.getElem?_toArray, List.getElem?_cons_succ, List.getElem?_cons_zero]; rfl) (by rfl) ?_
         apply Exists.intro
         refine ⟨fun wz hw _ => ?_, ?_⟩
         · have hcz := hw.cells.1
           go_simp
           (with_reducible exact Rg.up_value)
         simp only [Act.put, List.setIfInBounds_toArray, List.set_cons_zero, List.set_cons_succ])
        (refine Rr.wr_y (by simp only [List.getElem?_toArray, List.getElem?_cons_succ, List.getElem?_cons_zero]; rfl) (by rfl) ?_
         apply Exists.intro
         refine ⟨fun wz hw _ => ?_, ?_⟩
         · have hcz := hw.cells.1
           go_simp
           (with_reducible exact Rg.up_value)
         simp only [Act.put, List.setIfInBounds_toArray, List.set_cons_zero, List.set_cons_succ])
        (refine Rr.wr_y (by simp only [List.getElem?_toArray, List.getElem?_cons_succ, List.getElem?_cons_zero]; rfl) (by rfl) ?_
         apply Exists.intro
         refine ⟨fun wz hw _ => ?_, ?_⟩
         · have hcz := hw.cells.1
           go_simp
           (with_reducible exact Rg.up_value)
         simp only [Act.put, List.setIfInBounds_toArray, List.set_cons_zero, List.set_cons_succ])
        (refine Rr.wr_y (by simp only [List.getElem?_toArray, List.getElem?_cons_succ, List.getElem?_cons_zero]; rfl) (by rfl) ?_
         apply Exists.intro
         refine ⟨fun wz hw _ => ?_, ?_⟩
         · have hcz := hw.cells.1
           go_simp
           (with_reducible exact Rg.up_value)
         simp only [Act.put, List.setIfInBounds_toArray, List.set_cons_zero, List.set_cons_succ])
        (refine Rr.wr_y (by simp only [List.getElem?_toArray, List.getElem?_cons_succ, List.getElem?_cons_zero]; rfl) (by rfl) ?_
         apply Exists.intro
         refine ⟨fun wz hw _ => ?_, ?_⟩
         · have hcz := hw.cells.1
           go_simp
           (with_reducible exact Rg.up_value)
         simp only [Act.put, List.setIfInBounds_toArray, List.set_cons_zero, List.set_cons_succ])
        (refine Rr.wr_y (by simp only [List.getElem?_toArray, List.getElem?_cons_succ, List.getElem?_cons_zero]; rfl) (by rfl) ?_
         apply Exists.intro
         refine ⟨fun wz hw _ => ?_, ?_⟩
         · have hcz := hw.cells.1
           go_simp
           (with_reducible exact Rg.up_value)
         simp only [Act.put, List.setIfInBounds_toArray, List.set_cons_zero, List.set_cons_succ])
        (refine Rr.wr_y (by simp only [List.getElem?_toArray, List.getElem?_cons_succ, List.getElem?_cons_zero]; rfl) (by rfl) ?_
         apply Exists.intro
         refine ⟨fun wz hw _ => ?_, ?_⟩
         · have hcz := hw.cells.1
           go_simp
           (with_reducible exact Rg.up_value)
         simp only [Act.put, List.setIfInBounds_toArray, List.set_cons_zero, List.set_cons_succ])
        (refine Rr.wr_y (by simp only [List.getElem?_toArray, List.getElem?_cons_succ, List.getElem?_cons_zero]; rfl) (by rfl) ?_
         apply Exists.intro
         refine ⟨fun wz hw _ => ?_, ?_⟩
         · have hcz := hw.cells.1
           go_simp
           (with_reducible exact Rg.up_value)
         simp only [Act.put, List.setIfInBounds_toArray, List.set_cons_zero, List.set_cons_succ])
        (refine Rr.wr_y (by simp only [List.getElem?_toArray, List.getElem?_cons_succ, List.getElem?_cons_zero]; rfl) (by rfl) ?_
         apply Exists.intro
         refine ⟨fun wz hw _ => ?_, ?_⟩
         · have hcz := hw.cells.1
           go_simp
           (with_reducible exact Rg.up_value)
         simp only [Act.put, List.setIfInBounds_toArray, List.set_cons_zero, List.set_cons_succ])
        (refine Rr.wr_y (by simp only [List.getElem?_toArray, List.getElem?_cons_succ, List.getElem?_cons_zero]; rfl) (by rfl) ?_
         apply Exists.intro
         refine ⟨fun wz hw _ => ?_, ?_⟩
         · have hcz := hw.cells.1
           go_simp
           (with_reducible exact Rg.up_value)
         simp only [Act.put, List.setIfInBounds_toArray, List.set_cons_zero, List.set_cons_succ])
        (refine Rr.wr_y (by simp only [List.getElem?_toArray, List.getElem?_cons_succ, List.getElem?_cons_zero]; rfl) (by rfl) ?_
         apply Exists.intro
         refine ⟨fun wz hw _ => ?_, ?_⟩
         · have hcz := hw.cells.1
           go_simp
           (with_reducible exact Rg.up_value)
         simp only [Act.put, List.setIfInBounds_toArray, List.set_cons_zero, List.set_cons_succ])
        (refine Rr.wr_y (by simp only [List.getElem?_toArray, List.getElem?_cons_succ, List.getElem?_cons_zero]; rfl) (by rfl) ?_
         apply Exists.intro
         refine ⟨fun wz hw _ => ?_, ?_⟩
         · have hcz := hw.cells.1
           go_simp
           (with_reducible exact Rg.up_value)
         simp only [Act.put, List.setIfInBounds_toArray, List.set_cons_zero, List.set_cons_succ])
        refine Rr.wr_nil ?_
        intro wy hy hh
        simp only [List.length_cons, List.length_nil, List.drop_succ_cons, List.drop_zero, Nat.reduceAdd]
        clear hh
        have hxz := hx1.trans hy
        have hxy := hx0.trans hxz
        have HT2 := Lib.hid ((hxz.block _ (Rg.lt_of_heap HT.out)).trans HT.out)
        have HE2 := Lib.hid ((hxz.block _ (Rg.lt_of_heap HE.out)).trans HE.out)
        have HC := Lib.hid (H2.out.ext hxy)
        have HR := Lib.hid (H3.out.ext hxy)
        have HV := Lib.hid (H4.out.ext hxy)
        obtain ⟨d1, d2, d3, d4, d5, dl'⟩ := T1.out _ _ HT2.out
        obtain ⟨e1, e3, e4, el'⟩ := ecells HE2.out
        replace e4 : _ = some (Value.slice ea vs.length ec) := e4
        clear H1 H2 H3 H4 HT HE HA hlo hhi hmin c1 c4 c5 q3 m1 lt le' lb hx0 hx1 hxz hy hc1 hkn hk6 hbl dl el hk d1 d3 d4 d5 e1 e3
        generalize wy = W2 at *
        clear w1 W
        go_wp2_with (fail)
        go_loopw [44] (fun k wr => ∃ j : Nat, k = .int .i64 j ∧ j ≤ cs.length ∧ Hid (cs.all (okC vs) = (cs.drop j).all (okC vs)) ∧ Ext W2 wr) (fun k _ => cs.length - (intOf k).toNat)
        case atStart => exact ⟨0, by go_num, Nat.zero_le _, Lib.hid rfl, Ext.refl _⟩
        case round =>
          obtain ⟨j, rfl, hj, hall, hx⟩ := hrel
          rcases Nat.lt_or_ge j cs.length with hlt | hge
          · obtain ⟨bc, rfl, hcs⟩ := HC.out.at hx j hlt
            have hs0 : wr.cell? ⟨bc, j * 5, none⟩ = some (.string cs[j].name) := hcs 0 _ rfl
            have hs1 : wr.cell? ⟨bc, j * 5 + 1, none⟩ = some (.int .i64 cs[j].kind) := hcs 1 _ rfl
            have hs2 : wr.cell? ⟨bc, j * 5 + 2, none⟩ = some (.int .i64 cs[j].low) := hcs 2 _ rfl
            have hs3 : wr.cell? ⟨bc, j * 5 + 3, none⟩ = some (.int .i64 cs[j].high) := hcs 3 _ rfl
            have hs4 : wr.cell? ⟨bc, j * 5 + 4, none⟩ = some (.bool cs[j].less) := hcs 4 _ rfl
            have hbc := World.block_lt_of_cell? wr _ hs1
            have HD := Lib.hid (hall.out.trans (all_drop cs (okC vs) j hlt))
            have hjl : (j : Int) < (cs.length : Int) := by omega
            have g4 := (hx.cells.1 _ _ el').trans e4
            have lE := Nat.lt_of_lt_of_le el' hx.size
            have HVr := Lib.hid (HV.out.ext hx)
            generalize cs[j] = c at *
            obtain ⟨cn, ck, clo, chi, cle⟩ := c
            have HK := Lib.hid (lookup_any vs cn)
            obtain ⟨n, m, hnm⟩ : ∃ n m, lkv vs cn = (n, m) := ⟨_, _, rfl⟩
            have HO : Hid (okC vs ⟨cn, ck, clo, chi, cle⟩ = (decide (m = 1) && decide (clo ≤ n) && decide (n ≤ chi))) := Lib.hid (by unfold okC; simp only [hnm])
            have hm6 : (m : Int) ≤ 1000000 := by have := lkv_le vs cn; rw [hnm] at this; simp only at this; omega
            rw [hnm] at HK
            clear hcs hall hnm e4
            rcases (show (¬ m = 1) ∨ (m = 1 ∧ n < clo) ∨ (m = 1 ∧ ¬ n < clo ∧ chi < n) ∨ (m = 1 ∧ ¬ n < clo ∧ ¬ chi < n) by omega) with hm | ⟨hm, h1⟩ | ⟨hm, h1, h2⟩ | ⟨hm, h1, h2⟩
            · have HB := Lib.hid (show admitI ls cs rs low high lot price vs = 16 by rw [HA'.out]; unfold restE; rw [HD.out, HO.out, decide_eq_false hm]; rfl)
              have hd : ((m : Int) == 1) = false := by rw [beq_eq_false_iff_ne]; omega
              have hd' : ((m : Int) != 1) = true := by rw [bne_iff_ne]; omega
              go_wp2_with (go_at_call 50; (with_reducible refine (HK.out _ _ (HVr.out.ext (by with_reducible repeat (first | exact Ext.refl _ | assumption | apply Ext.drewN | apply Ext.drew | apply Ext.alloc | (refine Ext.setCell ?_ (by simp <;> omega) _) | (refine Ext.trans ?_ (by assumption)))))).mono ?_); rintro e w5 ⟨rfl, hx5⟩; have b2 : w5.cell? ⟨wr.heap.size, 2, none⟩ = some (.int .i64 clo) := (hx5.cells.1 _ _ (by simp)).trans (by go_simp); have b3 : w5.cell? ⟨wr.heap.size, 3, none⟩ = some (.int .i64 chi) := (hx5.cells.1 _ _ (by simp)).trans (by go_simp))
              go_ret
              exact ⟨by rw [HB.out]; rfl, (by with_reducible repeat (first | exact Ext.refl _ | assumption | apply Ext.drewN | apply Ext.drew | apply Ext.alloc | (refine Ext.setCell ?_ (by simp <;> omega) _) | (refine Ext.trans ?_ (by assumption))))⟩
            · subst hm
              have HB := Lib.hid (show admitI ls cs rs low high lot price vs = 16 by rw [HA'.out]; unfold restE; rw [HD.out, HO.out, decide_eq_false (show ¬ clo ≤ n by omega)]; rfl)
              go_wp2_with (go_at_call 50; (with_reducible refine (HK.out _ _ (HVr.out.ext (by with_reducible repeat (first | exact Ext.refl _ | assumption | apply Ext.drewN | apply Ext.drew | apply Ext.alloc | (refine Ext.setCell ?_ (by simp <;> omega) _) | (refine Ext.trans ?_ (by assumption)))))).mono ?_); rintro e w5 ⟨rfl, hx5⟩; have b2 : w5.cell? ⟨wr.heap.size, 2, none⟩ = some (.int .i64 clo) := (hx5.cells.1 _ _ (by simp)).trans (by go_simp); have b3 : w5.cell? ⟨wr.heap.size, 3, none⟩ = some (.int .i64 chi) := (hx5.cells.1 _ _ (by simp)).trans (by go_simp))
              go_ret
              exact ⟨by rw [HB.out]; rfl, (by with_reducible repeat (first | exact Ext.refl _ | assumption | apply Ext.drewN | apply Ext.drew | apply Ext.alloc | (refine Ext.setCell ?_ (by simp <;> omega) _) | (refine Ext.trans ?_ (by assumption))))⟩
            · subst hm
              have HB := Lib.hid (show admitI ls cs rs low high lot price vs = 16 by rw [HA'.out]; unfold restE; rw [HD.out, HO.out, decide_eq_true (show clo ≤ n by omega), decide_eq_false (show ¬ n ≤ chi by omega)]; rfl)
              go_wp2_with (go_at_call 50; (with_reducible refine (HK.out _ _ (HVr.out.ext (by with_reducible repeat (first | exact Ext.refl _ | assumption | apply Ext.drewN | apply Ext.drew | apply Ext.alloc | (refine Ext.setCell ?_ (by simp <;> omega) _) | (refine Ext.trans ?_ (by assumption)))))).mono ?_); rintro e w5 ⟨rfl, hx5⟩; have b2 : w5.cell? ⟨wr.heap.size, 2, none⟩ = some (.int .i64 clo) := (hx5.cells.1 _ _ (by simp)).trans (by go_simp); have b3 : w5.cell? ⟨wr.heap.size, 3, none⟩ = some (.int .i64 chi) := (hx5.cells.1 _ _ (by simp)).trans (by go_simp))
              go_ret
              exact ⟨by rw [HB.out]; rfl, (by with_reducible repeat (first | exact Ext.refl _ | assumption | apply Ext.drewN | apply Ext.drew | apply Ext.alloc | (refine Ext.setCell ?_ (by simp <;> omega) _) | (refine Ext.trans ?_ (by assumption))))⟩
            · subst hm
              have HB := Lib.hid (show cs.all (okC vs) = (cs.drop (j + 1)).all (okC vs) by rw [HD.out, HO.out, decide_eq_true (show clo ≤ n by omega), decide_eq_true (show n ≤ chi by omega)]; rfl)
              go_wp2_with (go_at_call 50; (with_reducible refine (HK.out _ _ (HVr.out.ext (by with_reducible repeat (first | exact Ext.refl _ | assumption | apply Ext.drewN | apply Ext.drew | apply Ext.alloc | (refine Ext.setCell ?_ (by simp <;> omega) _) | (refine Ext.trans ?_ (by assumption)))))).mono ?_); rintro e w5 ⟨rfl, hx5⟩; have b2 : w5.cell? ⟨wr.heap.size, 2, none⟩ = some (.int .i64 clo) := (hx5.cells.1 _ _ (by simp)).trans (by go_simp); have b3 : w5.cell? ⟨wr.heap.size, 3, none⟩ = some (.int .i64 chi) := (hx5.cells.1 _ _ (by simp)).trans (by go_simp))
              go_roundw
              case rel => exact ⟨j + 1, by go_num, by omega, HB, (by with_reducible repeat (first | exact Ext.refl _ | assumption | apply Ext.drewN | apply Ext.drew | apply Ext.alloc | (refine Ext.setCell ?_ (by simp <;> omega) _) | (refine Ext.trans ?_ (by assumption))))⟩
              case measure => simp [intOf]; omega
          · have HA2 : Hid (admitI ls cs rs low high lot price vs = if vs.all (fun v => knownC cs v.1) = false then 13 else reqsE vs rs) := Lib.hid (by
              have h : cs.all (okC vs) = true := by rw [hall.out, List.drop_eq_nil_of_le hge]; rfl
              rw [HA'.out]; unfold restE; rw [if_neg (by rw [h]; decide)])
            have hjl : ¬ (j : Int) < (cs.length : Int) := by omega
            obtain ⟨W3, rfl⟩ : ∃ W3 : World, W3 = wr := ⟨_, rfl⟩
            have HT3 := Lib.hid ((hx.block _ dl').trans HT2.out)
            have HE3 := Lib.hid ((hx.block _ el').trans HE2.out)
            have HC3 := Lib.hid (HC.out.ext hx)
            have HR3 := Lib.hid (HR.out.ext hx)
            have HV3 := Lib.hid (HV.out.ext hx)
            have hxy3 := hxy.trans hx
            have t2' := (T1.out _ _ HT3.out).2.1
            have t3' := (T1.out _ _ HT3.out).2.2.1
            have tl' := (T1.out _ _ HT3.out).2.2.2.2.2
            obtain ⟨-, -, e4', el3⟩ := ecells HE3.out
            replace e4' : _ = some (Value.slice ea vs.length ec) := e4'
            clear HT2 HE2 HC HR HV HA' hall hx hxy hge dl' el' e4 HT3 HE3
            go_wp2_with (fail)
            go_loopw [74] (fun k wr => ∃ j : Nat, k = .int .i64 j ∧ j ≤ vs.length ∧ Hid (vs.all (fun v => knownC cs v.1) = (vs.drop j).all (fun v => knownC cs v.1)) ∧ Ext W3 wr) (fun k _ => vs.length - (intOf k).toNat)
            case atStart => exact ⟨0, by go_num, Nat.zero_le _, Lib.hid rfl, Ext.refl _⟩
            case round =>
              obtain ⟨i, rfl, hi, hall, hx⟩ := hrel
              have t2r := (hx.cells.1 _ _ tl').trans t2'
              have ltr := Nat.lt_of_lt_of_le tl' hx.size
              rcases Nat.lt_or_ge i vs.length with hlt | hge
              · obtain ⟨bv, rfl, hs0, hs1⟩ := VRd.at HV3.out hx i hlt
                have hbv := World.block_lt_of_cell? wr _ hs1
                have HD := Lib.hid (hall.out.trans (all_drop vs (fun v => knownC cs v.1) i hlt))
                have hil : (i : Int) < (vs.length : Int) := by omega
                have HCr := Lib.hid (HC3.out.ext hx)
                generalize vs[i] = u at *
                obtain ⟨un, uz⟩ := u
                have HK := Lib.hid (known_any cs un (ca, cs.length, cc))
                clear hall t2'
                cases hkn : knownC cs un
                · rw [hkn] at HK
                  have HB := Lib.hid (show admitI ls cs rs low high lot price vs = 13 by rw [HA2.out, HD.out]; simp only [hkn]; rfl)
                  clear hkn
                  go_wp2_with (go_at_call 51; (with_reducible refine (HK.out _ _ (HCr.out.ext (by with_reducible repeat (first | exact Ext.refl _ | assumption | apply Ext.drewN | apply Ext.drew | apply Ext.alloc | (refine Ext.setCell ?_ (by simp <;> omega) _) | (refine Ext.trans ?_ (by assumption))))) (by go_simp)).mono ?_); rintro e w5 ⟨rfl, hx5⟩)
                  go_ret
                  exact ⟨by rw [HB.out]; rfl, (by with_reducible repeat (first | exact Ext.refl _ | assumption | apply Ext.drewN | apply Ext.drew | apply Ext.alloc | (refine Ext.setCell ?_ (by simp <;> omega) _) | (refine Ext.trans ?_ (by assumption))))⟩
                · rw [hkn] at HK
                  have HB := Lib.hid (show vs.all (fun v => knownC cs v.1) = (vs.drop (i + 1)).all (fun v => knownC cs v.1) by rw [HD.out]; simp only [hkn]; rfl)
                  clear hkn
                  go_wp2_with (go_at_call 51; (with_reducible refine (HK.out _ _ (HCr.out.ext (by with_reducible repeat (first | exact Ext.refl _ | assumption | apply Ext.drewN | apply Ext.drew | apply Ext.alloc | (refine Ext.setCell ?_ (by simp <;> omega) _) | (refine Ext.trans ?_ (by assumption))))) (by go_simp)).mono ?_); rintro e w5 ⟨rfl, hx5⟩)
                  go_roundw
                  case rel => exact ⟨i + 1, by go_num, by omega, HB, (by with_reducible repeat (first | exact Ext.refl _ | assumption | apply Ext.drewN | apply Ext.drew | apply Ext.alloc | (refine Ext.setCell ?_ (by simp <;> omega) _) | (refine Ext.trans ?_ (by assumption))))⟩
                  case measure => simp [intOf]; omega
              · have HA3 : Hid (admitI ls cs rs low high lot price vs = reqsE vs rs) := Lib.hid (by
                  have h : vs.all (fun v => knownC cs v.1) = true := by rw [hall.out, List.drop_eq_nil_of_le hge]; rfl
                  rw [HA2.out, if_neg (by rw [h]; decide)])
                have hil : ¬ (i : Int) < (vs.length : Int) := by omega
                obtain ⟨W4, rfl⟩ : ∃ W4 : World, W4 = wr := ⟨_, rfl⟩
                have HR4 := Lib.hid (HR3.out.ext hx)
                have HV4 := Lib.hid (HV3.out.ext hx)
                have hxy4 := hxy3.trans hx
                have t3r := (hx.cells.1 _ _ tl').trans t3'
                have e4r := (hx.cells.1 _ _ el3).trans e4'
                have elr := Nat.lt_of_lt_of_le el3 hx.size
                clear HC3 HR3 HV3 HA2 hall hx hxy3 hge t2r t2' t3' e4' el3 tl'
                go_wp2_with (fail)
                go_loopw [87] (fun k wr => ∃ j : Nat, k = .int .i64 j ∧ j ≤ rs.length ∧ Hid (reqsE vs rs = reqsE vs (rs.drop j)) ∧ Ext W4 wr) (fun k _ => rs.length - (intOf k).toNat)
                case atStart => exact ⟨0, by go_num, Nat.zero_le _, Lib.hid rfl, Ext.refl _⟩
                case round =>
                  obtain ⟨i, rfl, hi, hall, hx⟩ := hrel
                  rcases Nat.lt_or_ge i rs.length with hlt | hge
                  · obtain ⟨br, rfl, hcs⟩ := HR4.out.at hx i hlt
                    have hs0 : wr.cell? ⟨br, i * 3, none⟩ = some (.string rs[i].name) := hcs 0 _ rfl
                    have hs1 : wr.cell? ⟨br, i * 3 + 1, none⟩ = some (.string rs[i].rel) := hcs 1 _ rfl
                    have hs2 : wr.cell? ⟨br, i * 3 + 2, none⟩ = some (.int .i64 rs[i].value) := hcs 2 _ rfl
                    have hbr := World.block_lt_of_cell? wr _ hs1
                    have HD := Lib.hid (HA3.out.trans (hall.out.trans (reqs_drop vs rs i hlt)))
                    have HD' := Lib.hid (hall.out.trans (reqs_drop vs rs i hlt))
                    have hil' : (i : Int) < (rs.length : Int) := by omega
                    have g4 := (hx.cells.1 _ _ elr).trans e4r
                    have lE := Nat.lt_of_lt_of_le elr hx.size
                    have HVr := Lib.hid (HV4.out.ext hx)
                    generalize rs[i] = q at *
                    obtain ⟨rn, rl, rv⟩ := q
                    have HK := Lib.hid (lookup_any vs rn)
                    obtain ⟨n, m, hnm⟩ : ∃ n m, lkv vs rn = (n, m) := ⟨_, _, rfl⟩
                    have hm6 : (m : Int) ≤ 1000000 := by have := lkv_le vs rn; rw [hnm] at this; simp only at this; omega
                    have HN := Lib.hid hnm
                    rw [hnm] at HK
                    clear hcs hall hnm
                    by_cases hm : m = 0
                    · have HB := Lib.hid (show admitI ls cs rs low high lot price vs = 13 by rw [HD.out, reqE_none HN.out hm]; rfl)
                      subst hm
                      go_wp2_with (go_at_call 50; (with_reducible refine (HK.out _ _ (HVr.out.ext (by with_reducible repeat (first | exact Ext.refl _ | assumption | apply Ext.drewN | apply Ext.drew | apply Ext.alloc | (refine Ext.setCell ?_ (by simp <;> omega) _) | (refine Ext.trans ?_ (by assumption)))))).mono ?_); rintro e w5 ⟨rfl, hx5⟩; have b1 : w5.cell? ⟨wr.heap.size, 1, none⟩ = some (.string rl) := (hx5.cells.1 _ _ (by simp)).trans (by go_simp); have b2 : w5.cell? ⟨wr.heap.size, 2, none⟩ = some (.int .i64 rv) := (hx5.cells.1 _ _ (by simp)).trans (by go_simp))
                      go_ret
                      exact ⟨by rw [HB.out]; rfl, (by with_reducible repeat (first | exact Ext.refl _ | assumption | apply Ext.drewN | apply Ext.drew | apply Ext.alloc | (refine Ext.setCell ?_ (by simp <;> omega) _) | (refine Ext.trans ?_ (by assumption))))⟩
                    · have hd : ((m : Int) == 0) = false := by rw [beq_eq_false_iff_ne]; omega
                      have Hm := Lib.hid hm
                      clear hm
                      cases q1 : (rl.toList == [60, 61])
                      · have q1' : (rl.toList != [60, 61]) = true := by rw [bne, q1]; rfl
                        cases q2 : (rl.toList == [62, 61])
                        · have q2' : (rl.toList != [62, 61]) = true := by rw [bne, q2]; rfl
                          have HB := Lib.hid (show admitI ls cs rs low high lot price vs = 1 by rw [HD.out, reqE_arg HN.out Hm.out q1 q2]; rfl)
                          go_wp2_with (go_at_call 50; (with_reducible refine (HK.out _ _ (HVr.out.ext (by with_reducible repeat (first | exact Ext.refl _ | assumption | apply Ext.drewN | apply Ext.drew | apply Ext.alloc | (refine Ext.setCell ?_ (by simp <;> omega) _) | (refine Ext.trans ?_ (by assumption)))))).mono ?_); rintro e w5 ⟨rfl, hx5⟩; have b1 : w5.cell? ⟨wr.heap.size, 1, none⟩ = some (.string rl) := (hx5.cells.1 _ _ (by simp)).trans (by go_simp); have b2 : w5.cell? ⟨wr.heap.size, 2, none⟩ = some (.int .i64 rv) := (hx5.cells.1 _ _ (by simp)).trans (by go_simp))
                          go_ret
                          exact ⟨by rw [HB.out]; rfl, (by with_reducible repeat (first | exact Ext.refl _ | assumption | apply Ext.drewN | apply Ext.drew | apply Ext.alloc | (refine Ext.setCell ?_ (by simp <;> omega) _) | (refine Ext.trans ?_ (by assumption))))⟩
                        · have q2' : (rl.toList != [62, 61]) = false := by rw [bne, q2]; rfl
                          by_cases hv : n < rv
                          · have HB := Lib.hid (show admitI ls cs rs low high lot price vs = 37 by rw [HD.out, reqE_out HN.out Hm.out (.inr ⟨q2, hv⟩)]; rfl)
                            go_wp2_with (go_at_call 50; (with_reducible refine (HK.out _ _ (HVr.out.ext (by with_reducible repeat (first | exact Ext.refl _ | assumption | apply Ext.drewN | apply Ext.drew | apply Ext.alloc | (refine Ext.setCell ?_ (by simp <;> omega) _) | (refine Ext.trans ?_ (by assumption)))))).mono ?_); rintro e w5 ⟨rfl, hx5⟩; have b1 : w5.cell? ⟨wr.heap.size, 1, none⟩ = some (.string rl) := (hx5.cells.1 _ _ (by simp)).trans (by go_simp); have b2 : w5.cell? ⟨wr.heap.size, 2, none⟩ = some (.int .i64 rv) := (hx5.cells.1 _ _ (by simp)).trans (by go_simp))
                            go_ret
                            exact ⟨by rw [HB.out]; rfl, (by with_reducible repeat (first | exact Ext.refl _ | assumption | apply Ext.drewN | apply Ext.drew | apply Ext.alloc | (refine Ext.setCell ?_ (by simp <;> omega) _) | (refine Ext.trans ?_ (by assumption))))⟩
                          · have HB := Lib.hid (show reqsE vs rs = reqsE vs (rs.drop (i + 1)) by rw [HD'.out, if_pos (reqE_zero HN.out Hm.out (fun h => by rw [q2] at h; simp at h) (fun h => h.elim (fun h => by rw [q1] at h; simp at h) (fun h => hv h.2)))])
                            go_wp2_with (go_at_call 50; (with_reducible refine (HK.out _ _ (HVr.out.ext (by with_reducible repeat (first | exact Ext.refl _ | assumption | apply Ext.drewN | apply Ext.drew | apply Ext.alloc | (refine Ext.setCell ?_ (by simp <;> omega) _) | (refine Ext.trans ?_ (by assumption)))))).mono ?_); rintro e w5 ⟨rfl, hx5⟩; have b1 : w5.cell? ⟨wr.heap.size, 1, none⟩ = some (.string rl) := (hx5.cells.1 _ _ (by simp)).trans (by go_simp); have b2 : w5.cell? ⟨wr.heap.size, 2, none⟩ = some (.int .i64 rv) := (hx5.cells.1 _ _ (by simp)).trans (by go_simp))
                            go_roundw
                            case rel => exact ⟨i + 1, by go_num, by omega, HB, (by with_reducible repeat (first | exact Ext.refl _ | assumption | apply Ext.drewN | apply Ext.drew | apply Ext.alloc | (refine Ext.setCell ?_ (by simp <;> omega) _) | (refine Ext.trans ?_ (by assumption))))⟩
                            case measure => simp [intOf]; omega
                      · have q1' : (rl.toList != [60, 61]) = false := by rw [bne, q1]; rfl
                        have q2 : (rl.toList == [62, 61]) = false := by rw [eq_of_beq q1]; decide
                        by_cases hv : rv < n
                        · have HB := Lib.hid (show admitI ls cs rs low high lot price vs = 37 by rw [HD.out, reqE_out HN.out Hm.out (.inl ⟨q1, hv⟩)]; rfl)
                          go_wp2_with (go_at_call 50; (with_reducible refine (HK.out _ _ (HVr.out.ext (by with_reducible repeat (first | exact Ext.refl _ | assumption | apply Ext.drewN | apply Ext.drew | apply Ext.alloc | (refine Ext.setCell ?_ (by simp <;> omega) _) | (refine Ext.trans ?_ (by assumption)))))).mono ?_); rintro e w5 ⟨rfl, hx5⟩; have b1 : w5.cell? ⟨wr.heap.size, 1, none⟩ = some (.string rl) := (hx5.cells.1 _ _ (by simp)).trans (by go_simp); have b2 : w5.cell? ⟨wr.heap.size, 2, none⟩ = some (.int .i64 rv) := (hx5.cells.1 _ _ (by simp)).trans (by go_simp))
                          go_ret
                          exact ⟨by rw [HB.out]; rfl, (by with_reducible repeat (first | exact Ext.refl _ | assumption | apply Ext.drewN | apply Ext.drew | apply Ext.alloc | (refine Ext.setCell ?_ (by simp <;> omega) _) | (refine Ext.trans ?_ (by assumption))))⟩
                        · have HB := Lib.hid (show reqsE vs rs = reqsE vs (rs.drop (i + 1)) by rw [HD'.out, if_pos (reqE_zero HN.out Hm.out (fun h => by rw [q1] at h; simp at h) (fun h => h.elim (fun h => hv h.2) (fun h => by rw [q2] at h; simp at h)))])
                          go_wp2_with (go_at_call 50; (with_reducible refine (HK.out _ _ (HVr.out.ext (by with_reducible repeat (first | exact Ext.refl _ | assumption | apply Ext.drewN | apply Ext.drew | apply Ext.alloc | (refine Ext.setCell ?_ (by simp <;> omega) _) | (refine Ext.trans ?_ (by assumption)))))).mono ?_); rintro e w5 ⟨rfl, hx5⟩; have b1 : w5.cell? ⟨wr.heap.size, 1, none⟩ = some (.string rl) := (hx5.cells.1 _ _ (by simp)).trans (by go_simp); have b2 : w5.cell? ⟨wr.heap.size, 2, none⟩ = some (.int .i64 rv) := (hx5.cells.1 _ _ (by simp)).trans (by go_simp))
                          go_roundw
                          case rel => exact ⟨i + 1, by go_num, by omega, HB, (by with_reducible repeat (first | exact Ext.refl _ | assumption | apply Ext.drewN | apply Ext.drew | apply Ext.alloc | (refine Ext.setCell ?_ (by simp <;> omega) _) | (refine Ext.trans ?_ (by assumption))))⟩
                          case measure => simp [intOf]; omega
                  · have HB := Lib.hid (show admitI ls cs rs low high lot price vs = 0 by rw [HA3.out, hall.out, List.drop_eq_nil_of_le hge]; rfl)
                    have hil' : ¬ (i : Int) < (rs.length : Int) := by omega
                    go_wp2
                    go_ret
                    exact ⟨by rw [HB.out]; rfl, (by with_reducible repeat (first | exact Ext.refl _ | assumption | apply Ext.drewN | apply Ext.drew | apply Ext.alloc | (refine Ext.setCell ?_ (by simp <;> omega) _) | (refine Ext.trans ?_ (by assumption))))⟩
end Go.Proofs.YteomcpplajeidaaGreat
