/-
  The reference's possible. Conditions: the rows lie in memory.
-/
import Derived.Test.YtlekdhhgjhakgaaRiH
import Derived.Test.YtlekdhhgjhakgaaIyH
import Derived.Test.YtlekdhhgjhakgaaJnE
namespace Go.Proofs.Ytlekdhhgjhakgaa
set_option linter.unusedVariables false
set_option linter.unusedSimpArgs false
open Go.RowKit
def celB (b : Bool) : List Value := [.bool b]
theorem celB_map (l : List Bool) : l.flatMap celB = l.map Value.bool := by
  induction l with
  | nil => rfl
  | cons x l ih => rw [List.flatMap_cons, ih]; rfl
/-- The bools that a function says. -/
def bls (g : Nat → Bool) (m : Nat) : List Bool := (List.range m).map g
theorem bls_len (g : Nat → Bool) (m : Nat) : (bls g m).length = m := by simp [bls]
theorem bls_get (g : Nat → Bool) {m k : Nat} (h : k < m) : (bls g m)[k]? = some (g k) := by simp [bls, h]
theorem own_bools {B m : Nat} {w : World} {v : Value} {g : Nat → Bool} (h : w.ownsRow B 4 1 v (bls g m).length ((bls g m).flatMap celB)) (hm : 0 < m) :
    ∃ b cap, v = .slice (some ⟨b, 0, none⟩) m cap ∧ B ≤ b ∧ m ≤ cap ∧ ∃ cs, w.heap[b]? = some (.cells cs 4) ∧ ∀ k, k < m → cs[k]? = some (.bool (g k)) := by
  rw [bls_len] at h
  rcases h.2 with ⟨hn, h0⟩ | ⟨b, cap, cur, rfl, hb, hg, h1, h2, h3, h4⟩
  · omega
  · refine ⟨b, cap, rfl, hb, h1, cur, hg, fun k hk => ?_⟩
    have := World.ownsRow.cellAt h k (by omega)
    rw [cell_of_row w b k _ _ _ hg, celB_map, List.getElem?_map, bls_get g hk] at this
    exact this
/-- A plan that is being made: i rows. -/
structure PB (w0 : World) (p : Nat) (mv : Value) (L m : Nat) (F : Nat → Nat → Bool) (i : Nat) (W : World) (dv : Value) (us : List Value) (dr rc : Nat → Nat) : Prop where
  low : Ext w0 W
  pb : W.heap[p]? = some (.cells #[mv, dv, .int .i64 L] 111)
  pl : w0.heap.size ≤ p
  row : W.ownsRow w0.heap.size 87 1 dv us.length (us.flatMap cel1)
  len : us.length = i
  el : ∀ o (h : o < us.length), us[o] = .slice (some ⟨dr o, 0, none⟩) m (rc o) ∧ m ≤ rc o ∧ w0.heap.size ≤ dr o ∧ ∃ cs, W.heap[dr o]? = some (.cells cs 4) ∧ ∀ k, k < m → cs[k]? = some (.bool (F o k))
  inj : ∀ o q, o < i → q < i → dr o = dr q → o = q
section
variable {w0 W W' : World} {p L m i : Nat} {mv dv : Value} {F : Nat → Nat → Bool} {us : List Value} {dr rc : Nat → Nat}
theorem PB.ext (h : PB w0 p mv L m F i W dv us dr rc) (x : Ext W W') : PB w0 p mv L m F i W' dv us dr rc :=
  ⟨h.low.trans x, (x.block _ (Rg.lt_of_heap h.pb)).trans h.pb, h.pl, row_ext h.row x, h.len, fun o ho => by
    obtain ⟨h1, h2, h3, cs, h4, h5⟩ := h.el o ho
    exact ⟨h1, h2, h3, cs, (x.block _ (Rg.lt_of_heap h4)).trans h4, h5⟩, h.inj⟩
theorem PB.lt (h : PB w0 p mv L m F i W dv us dr rc) {o : Nat} (ho : o < i) : dr o < W.heap.size := by
  obtain ⟨-, -, -, cs, h4, -⟩ := h.el o (by rw [h.len]; exact ho)
  exact Rg.lt_of_heap h4
theorem PB.push (h : PB w0 p mv L m F i W dv us dr rc) {g cap : Nat} {cs : Array Value} (hc : m ≤ cap) (hgl : w0.heap.size ≤ g) (hf : ∀ o, o < i → dr o ≠ g) (hgc : W.heap[g]? = some (.cells cs 4)) (hcs : ∀ k, k < m → cs[k]? = some (.bool (F i k)))
    {dv' : Value} (hg : W.grownBy W' dv.ownBlock) (hr : W'.ownsRow w0.heap.size 87 1 dv' (us ++ [Value.slice (some ⟨g, 0, none⟩) m cap]).length ((us ++ [Value.slice (some ⟨g, 0, none⟩) m cap]).flatMap cel1)) :
    PB w0 p mv L m F (i + 1) (W'.setCell ⟨p, 1, none⟩ dv') dv' (us ++ [Value.slice (some ⟨g, 0, none⟩) m cap]) (fun o => if o = i then g else dr o) (fun o => if o = i then cap else rc o) := by
  have hp := row_other h.row (by decide) hg h.pb
  have kb : ∀ b ds, W.heap[b]? = some (Obj.cells ds 4) → (W'.setCell ⟨p, 1, none⟩ dv').heap[b]? = some (Obj.cells ds 4) := fun b ds hb => by
    have h1 := row_other h.row (by decide) hg hb
    exact (heap_setCell_other _ (cells_ne h1 hp (by decide))).trans h1
  refine ⟨Ext.setCell (row_grown h.low h.row (Nat.le_refl _) hg) h.pl _, (heap_setCell_row _ hp).trans rfl, h.pl, own_cell hr hp (by decide) _, by simp [h.len], fun o ho => ?_, fun o q ho hq => ?_⟩
  · by_cases e : o = i
    · subst e
      have hl := h.len
      subst hl
      refine ⟨?_, ?_, ?_, cs, ?_, hcs⟩
      · rw [if_pos rfl, if_pos rfl, List.getElem_append_right (by omega)]
        simp
      · rw [if_pos rfl]; exact hc
      · rw [if_pos rfl]; exact hgl
      · rw [if_pos rfl]; exact kb _ _ hgc
    · have ho' : o < us.length := by simp at ho; have := h.len; omega
      obtain ⟨h1, h2, h3, ds, h4, h5⟩ := h.el o ho'
      rw [if_neg e, if_neg e, List.getElem_append_left ho']
      exact ⟨h1, h2, h3, ds, kb _ _ h4, h5⟩
  · by_cases e1 : o = i
    · by_cases e2 : q = i
      · intro _; omega
      · rw [if_pos e1, if_neg e2]
        intro e
        exact absurd e.symm (hf q (by omega))
    · by_cases e2 : q = i
      · rw [if_neg e1, if_pos e2]
        intro e
        exact absurd e (hf o (by omega))
      · rw [if_neg e1, if_neg e2]
        exact h.inj o q (by omega) (by omega)
end
theorem PB.ps {w0 W : World} {p L m n f : Nat} {mv dv : Value} {F B : Nat → Nat → Bool} {us : List Value} {dr rc : Nat → Nat} (h : PB w0 p mv L m F n W dv us dr rc) (hn : 0 < n) :
    ∃ dg dc, dv = .slice (some ⟨dg, 0, none⟩) n dc ∧ n ≤ dc ∧ PS ⟨w0, p, mv, n, m, L, f, B, dg, dc, dr, rc⟩ W F := by
  have hl := h.len
  rcases h.row.2 with ⟨h1, h0⟩ | ⟨dg, dc, cur, rfl, hb, hg, h1, h2, h3, h4⟩
  · omega
  · refine ⟨dg, dc, by rw [hl], by omega, h.low, by rw [← hl]; exact h.pb, ⟨cur, hg, fun o ho => ?_⟩, fun o ho => ?_⟩
    · have := World.ownsRow.cellAt h.row o (by simp only at ho; omega)
      rw [cell_of_row W dg o _ _ _ hg, cel1_map] at this
      rw [this]
      simp only at ho
      rw [List.getElem?_eq_getElem (by omega), (h.el o (by omega)).1]
    · simp only at ho
      obtain ⟨-, -, -, cs, h5, h6⟩ := h.el o (by omega)
      exact ⟨cs, h5, h6⟩
set_option maxRecDepth 100000 in
set_option maxHeartbeats 8000000 in
open Classical in
theorem possible_any (mv fv : Value) (ms R : List (List Nat)) (m each L : Nat) (w : World) (hmv : TB w mv ms.length m (mayF ms)) (hfv : TB w fv R.length m (rowF R)) (hM : May ms m) (hR : Rows_ ms each R) (hn : 0 < ms.length ∧ ms.length ≤ 1000) (hm : 0 < m ∧ m ≤ 1000) (he : each ≤ 13) (hL : L ≤ 1000) :
    Calls Try.prog 56 #[mv, fv, .int .i64 each, .int .i64 L] w fun e w' => e = .returned (.bool (decide (CanR ms m each L R))) ∧ Ext w w' := by
  have HMV := Lib.hid hmv; have HFV := Lib.hid hfv; have HM := Lib.hid hM; have HR := Lib.hid hR
  have hrl : R.length ≤ ms.length := hR.len
  obtain ⟨mg, mc, mr, mrc, rfl, hmc, -, -, -⟩ := hmv.at hn.1
  obtain ⟨fA, fc, rfl, hfc, -⟩ := id hfv
  clear hmv hfv hM hR
  go_enter Try.func56, Try.ntmps56
  go_upto_region 2 with (fail)
  have hp0 := alloc_at w (.cells #[.slice (some ⟨mg, 0, none⟩) ms.length mc, .slice none 0 0, .int .i64 L] 111)
  have hx0 : Ext w (w.alloc (.cells #[.slice (some ⟨mg, 0, none⟩) ms.length mc, .slice none 0 0, .int .i64 L] 111)) := Ext.alloc (Ext.refl _) _
  obtain ⟨p, hp⟩ : ∃ p, p = w.heap.size := ⟨_, rfl⟩
  rw [← hp] at hp0 ⊢
  have HPB : Hid (PB w p (.slice (some ⟨mg, 0, none⟩) ms.length mc) L m (rowF R) 0 (w.alloc (.cells #[.slice (some ⟨mg, 0, none⟩) ms.length mc, .slice none 0 0, .int .i64 L] 111)) (.slice none 0 0) [] (fun _ => 0) (fun _ => 0)) := Lib.hid ⟨hx0, hp0, Nat.le_of_eq hp.symm, ⟨rfl, .inl ⟨rfl, rfl⟩⟩, rfl, fun o ho => by simp at ho, fun o q ho => by omega⟩
  clear hp hp0 hx0
  generalize w.alloc (.cells #[.slice (some ⟨mg, 0, none⟩) ms.length mc, .slice none 0 0, .int .i64 L] 111) = W0 at *
  go_upto_region 3 with (fail)
  go_loopw [10] (fun iv wr => ∃ (i : Nat) (dv : Value) (us : List Value) (dr rc : Nat → Nat), iv = .int .i64 i ∧ i ≤ ms.length ∧ Hid (PB w p (.slice (some ⟨mg, 0, none⟩) ms.length mc) L m (rowF R) i wr dv us dr rc)) (fun iv _ => ms.length - (iof iv).toNat)
  case atStart => exact ⟨0, _, _, _, _, rfl, by omega, HPB⟩
  case round =>
    obtain ⟨i, dv, us, dr, rc, rfl, hi, HP⟩ := hrel
    clear HPB
    by_cases hil : i < ms.length
    · obtain ⟨g', c', r, rr, e', -, hrow, hrr, -⟩ := HMV.out.at hil
      injection e' with e' _ e''
      injection e' with e'
      injection e' with e'
      subst e' e''
      have c2 := (HP.out.low.cells.1 _ _ (World.block_lt_of_cell? w _ hrow)).trans hrow
      have hmk := make_87 wr m (by omega)
      obtain ⟨dA, dc, rfl⟩ := row_formG HP.out.row
      have hl := HP.out.len
      subst hl
      have hus : us.length < 1000000 := by omega
      by_cases hif : us.length < R.length
      · go_upto_region 7 with (fail)
        obtain ⟨fg, fc', fr, frc, e', -, hfrow, hfrc, hfel⟩ := HFV.out.at hif
        injection e' with e' _ e''
        subst e' e''
        have hx1 : Ext wr (wr.alloc (.cells (tabV (fun _ => .bool false) m) 4)) := Ext.alloc (Ext.refl _) _
        have HX1 := Lib.hid hx1
        clear hx1 c2 hmk
        obtain ⟨w1, hw1⟩ : ∃ w1, w1 = wr.alloc (.cells (tabV (fun _ => .bool false) m) 4) := ⟨_, rfl⟩
        rw [← hw1] at HX1 ⊢
        clear hw1
        have HP2 := Lib.hid (HP.out.ext HX1.out)
        have hx2 : Ext w1 (w1.alloc (.cells #[] 4)) := Ext.alloc (Ext.refl _) _
        have c3 := (HP2.out.low.cells.1 _ _ (World.block_lt_of_cell? w _ hfrow)).trans hfrow
        have HP3 := Lib.hid (HP2.out.ext hx2)
        have c4 := (HP3.out.low.cells.1 _ _ (World.block_lt_of_cell? w _ hfrow)).trans hfrow
        have hown := own_lit (B := w1.heap.size) (n := 0) (sz := 1) (xs := [].append (([] : List Bool).flatMap celB)) (Nat.le_refl _) (alloc_at w1 (.cells #[] 4)) rfl (by decide)
        have hsrc : bls (rowF R us.length) m = [] ∨ ∃ b off, some (⟨fr, 0, none⟩ : Addr) = some ⟨b, off, none⟩ ∧ ∀ j u, ((bls (rowF R us.length) m).flatMap celB)[j]? = some u → (w1.alloc (.cells #[] 4)).cell? ⟨b, off + j, none⟩ = some u := .inr ⟨fr, 0, rfl, fun j u hj => by
          rw [celB_map, List.getElem?_map] at hj
          have hjm : j < m := by
            rcases Nat.lt_or_ge j m with h | h
            · exact h
            · rw [List.getElem?_eq_none (by rw [bls_len]; exact h)] at hj
              cases hj
          rw [bls_get _ hjm] at hj
          injection hj with hj
          rw [Nat.zero_add, (HP3.out.low.cells.1 _ _ (World.block_lt_of_cell? w _ (hfel j hjm))).trans (hfel j hjm), hj]⟩
        have HB := Lib.hid (bls_len (rowF R us.length) m)
        have hsz2 : w1.heap.size ≤ (w1.alloc (.cells #[] 4)).heap.size := hx2.size
        have HX2 := Lib.hid hx2
        have hll : ([] : List Bool).length + (bls (rowF R us.length) m).length ≤ 1000000 := by rw [HB.out]; simp; omega
        clear hx2 hfel hfrow
        go_upto_region 8 with (at_builtin; (refine append_rows (cs := celB) (z := .bool false) 87 4 1 Try.underlying87 (by kernel_rfl) (by rfl) (by decide) (by decide) rfl (.tmp 36) (.tmp 40) rfl w1.heap.size (.slice (some ⟨w1.heap.size, 0, none⟩) 0 0) [] (by rfl) hown (fun _ => ⟨rfl, by simp [celB, Value.oneCell']⟩) (some ⟨fr, 0, none⟩) frc (bls (rowF R us.length) m) (by rw [HB.out]; rfl) hsrc hll hsz2 ?_; intro v7 w7 hr7 hg7; obtain ⟨gb, cap, rfl, hgb, hcap, cs, hgc, hcs⟩ := own_bools hr7 hm.1; have HX7 : Hid (Ext w1 w7) := Lib.hid (row_grown HX2.out hown (Nat.le_refl _) hg7); have HGB := Lib.hid hgb; have HGC := Lib.hid hgc; have HCS := Lib.hid hcs; clear hr7 hg7 hgb hgc hcs))
        have HG : Hid (w.heap.size ≤ gb) := Lib.hid (by have := HP2.out.low.size; have := HGB.out; omega)
        have HF : Hid (∀ o, o < us.length → dr o ≠ gb) := Lib.hid fun o ho => by have := HP2.out.lt ho; have := HGB.out; omega
        have HP1 := Lib.hid (HP2.out.ext HX7.out)
        clear HP HP2 HP3 HX2 HX7 hown hsrc HB hsz2 hll c3 c4 HX1 HGB
        generalize w7 = W1 at *
        have hxa : Ext W1 (W1.alloc (.cells #[.slice (some ⟨gb, 0, none⟩) m cap] 87)) := Ext.alloc (Ext.refl _) _
        have HP4 := Lib.hid (HP1.out.ext hxa)
        have hgc4 := (hxa.block _ (Rg.lt_of_heap HGC.out)).trans HGC.out
        have c1 := cell_of_row W1 p 1 _ _ _ HP1.out.pb
        change W1.cell? _ = some (.slice dA us.length dc) at c1
        have hsz : w.heap.size ≤ (W1.alloc (.cells #[.slice (some ⟨gb, 0, none⟩) m cap] 87)).heap.size := HP4.out.low.size
        clear hxa HP1
        go_wp2_with (at_builtin; (refine append_g (cs := cel1) (z := .slice none 0 0) 84 87 24 Try.underlying84 (by kernel_rfl) (by rfl) (by decide) (by decide) rfl (.tmp 46) (.tmp 48) rfl w.heap.size (.slice dA us.length dc) us (by rfl) HP4.out.row W1.heap.size (.slice (some ⟨gb, 0, none⟩) m cap) ⟨rfl, by simp [cel1, Value.oneCell']⟩ (by rfl) (alloc_at W1 _) hus hsz ?_; intro g7 cap7 w7 hr7 hg7 hat7; have hp7 := row_other HP4.out.row (by decide) hg7 HP4.out.pb; have f7 : w7.frozen? ⟨p, 1, none⟩ = false := tab_frozen hp7; have c7 := cell_of_row w7 p 1 _ _ _ hp7; change w7.cell? _ = some (.slice dA us.length dc) at c7; have HPN := Lib.hid (HP4.out.push hcap HG.out HF.out hgc4 HCS.out hg7 hr7); clear hr7 hg7 hat7 hp7))
        exact ⟨⟨us.length + 1, _, _, _, _, by simp, by omega, HPN⟩, by simp [iof]; omega⟩
      · have HG : Hid (w.heap.size ≤ wr.heap.size) := Lib.hid HP.out.low.size
        have HF : Hid (∀ o, o < us.length → dr o ≠ wr.heap.size) := Lib.hid fun o ho => by have := HP.out.lt ho; omega
        have HGC := Lib.hid (alloc_at wr (.cells (tabV (fun _ => .bool false) m) 4))
        have HCS : Hid (∀ k, k < m → (tabV (fun _ => .bool false) m)[k]? = some (.bool (rowF R us.length k))) := Lib.hid fun k hk => by rw [tabV_get _ hk, rowF_out R (by omega)]
        have HP1 := Lib.hid (HP.out.ext (Ext.alloc (Ext.refl _) (.cells (tabV (fun _ => .bool false) m) 4)))
        have hcap : m ≤ m := Nat.le_refl _
        go_upto_region 8 with (fail)
        clear HP c2 hmk
        obtain ⟨gb, hgb⟩ : ∃ gb, gb = wr.heap.size := ⟨_, rfl⟩
        rw [← hgb] at HG HF HGC ⊢
        clear hgb
        generalize wr.alloc (.cells (tabV (fun _ => .bool false) m) 4) = W1 at *
        have hxa : Ext W1 (W1.alloc (.cells #[.slice (some ⟨gb, 0, none⟩) m m] 87)) := Ext.alloc (Ext.refl _) _
        have HP4 := Lib.hid (HP1.out.ext hxa)
        have hgc4 := (hxa.block _ (Rg.lt_of_heap HGC.out)).trans HGC.out
        have c1 := cell_of_row W1 p 1 _ _ _ HP1.out.pb
        change W1.cell? _ = some (.slice dA us.length dc) at c1
        have hsz : w.heap.size ≤ (W1.alloc (.cells #[.slice (some ⟨gb, 0, none⟩) m m] 87)).heap.size := HP4.out.low.size
        clear hxa HP1
        go_wp2_with (at_builtin; (refine append_g (cs := cel1) (z := .slice none 0 0) 84 87 24 Try.underlying84 (by kernel_rfl) (by rfl) (by decide) (by decide) rfl (.tmp 46) (.tmp 48) rfl w.heap.size (.slice dA us.length dc) us (by rfl) HP4.out.row W1.heap.size (.slice (some ⟨gb, 0, none⟩) m m) ⟨rfl, by simp [cel1, Value.oneCell']⟩ (by rfl) (alloc_at W1 _) hus hsz ?_; intro g7 cap7 w7 hr7 hg7 hat7; have hp7 := row_other HP4.out.row (by decide) hg7 HP4.out.pb; have f7 : w7.frozen? ⟨p, 1, none⟩ = false := tab_frozen hp7; have c7 := cell_of_row w7 p 1 _ _ _ hp7; change w7.cell? _ = some (.slice dA us.length dc) at c7; have HPN := Lib.hid (HP4.out.push hcap HG.out HF.out hgc4 HCS.out hg7 hr7); clear hr7 hg7 hat7 hp7))
        exact ⟨⟨us.length + 1, _, _, _, _, by simp, by omega, HPN⟩, by simp [iof]; omega⟩
    · obtain rfl : i = ms.length := by omega
      obtain ⟨dg, dc, rfl, hdc, hps⟩ := HP.out.ps (f := R.length) (B := mayF ms) hn.1
      have HOK : Hid ((⟨w, p, .slice (some ⟨mg, 0, none⟩) ms.length mc, ms.length, m, L, R.length, mayF ms, dg, dc, dr, rc⟩ : PC).ok) := Lib.hid ⟨HMV.out, fun o ho => (HP.out.el o (by rw [HP.out.len]; exact ho)).2.2.1, HP.out.inj, hm.2, hn.2, hL, hrl, hdc, fun o ho => (HP.out.el o (by rw [HP.out.len]; exact ho)).2.1⟩
      have HPS := Lib.hid hps
      have HRM : Hid (∀ o, o < ms.length → ∀ wz D, PS ⟨w, p, .slice (some ⟨mg, 0, none⟩) ms.length mc, ms.length, m, L, R.length, mayF ms, dg, dc, dr, rc⟩ wz D → ∃ r rr, wz.cell? ⟨mg, o, none⟩ = some (.slice (some ⟨r, 0, none⟩) m rr)) := Lib.hid fun o ho wz D hz => by
        obtain ⟨g', c', r, rr, e', -, hrow, hrr, -⟩ := HMV.out.at ho
        injection e' with e' _ e''
        injection e' with e'
        injection e' with e'
        subst e' e''
        exact ⟨r, rr, (hz.low.cells.1 _ _ (World.block_lt_of_cell? _ _ hrow)).trans hrow⟩
      clear HP hps hdc
      generalize hCe : (⟨w, p, .slice (some ⟨mg, 0, none⟩) ms.length mc, ms.length, m, L, R.length, mayF ms, dg, dc, dr, rc⟩ : PC) = C at *
      have e1 : C.n = ms.length := by rw [← hCe]
      have e2 : C.m = m := by rw [← hCe]
      have e3 : C.L = L := by rw [← hCe]
      have e4 : C.f = R.length := by rw [← hCe]
      have e5 : C.B = mayF ms := by rw [← hCe]
      have e6 : C.p = p := by rw [← hCe]
      have e7 : C.w0 = w := by rw [← hCe]
      clear hCe
      have HDU := Lib.hid (fun wz D k (hz : PS C wz D) (hk : k < m) => duties_any62 C HOK.out D wz hz k (by rw [e2]; exact hk))
      have HFI := Lib.hid (fun N S D sb b wz => rfind_any C HOK.out N S D sb b wz)
      have HLW : Hid (∀ wz D, PS C wz D → Ext w wz) := Lib.hid fun wz D hz => by have := hz.low; rwa [e7] at this
      have HDR : Hid (∀ wz D o, PS C wz D → o < ms.length → C.dr o < wz.heap.size) := Lib.hid fun wz D o hz ho => by
        obtain ⟨cs, h1, -⟩ := hz.row o (by rw [e1]; exact ho)
        exact Rg.lt_of_heap h1
      simp only [e1, e2, e3, e4, e5, e6] at HDU HFI
      have HN1 := Lib.hid e1; have HM2 := Lib.hid e2; have HW7 := Lib.hid e7
      clear e1 e2 e3 e4 e5 e6 e7
      have hn0 : (0 : Int) < (ms.length : Int) := by omega
      go_upto_region 10 with (fail)
      go_loopw [12] (fun kv wq => ∃ k : Nat, kv = .int .i64 k ∧ k ≤ m ∧ Hid (PS C wq (rowF R)) ∧ Hid (∀ j, j < k → cnt (rowF R) R.length j ≤ L)) (fun kv _ => m - (iof kv).toNat)
      case atStart => exact ⟨0, rfl, by omega, HPS, Lib.hid fun j hj => by omega⟩
      case round =>
        rename World => wo
        obtain ⟨k, rfl, hk, HP, HCL⟩ := hrel
        clear HPS
        obtain ⟨r0, rr0, c0⟩ := HRM.out 0 hn.1 wo _ HP.out
        by_cases hkm : k < m
        · have HD := Lib.hid (HDU.out wo (rowF R) k HP.out hkm)
          have HCE := Lib.hid (cnt_rowF R ms.length k hrl)
          rw [HCE.out] at HD
          generalize hq : cnt (rowF R) R.length k = q at *
          have HQ := Lib.hid hq
          clear hq
          have HPX := Lib.hid (fun wz (hz : Ext wo wz) => HP.out.ext hz)
          by_cases hqL : (L : Int) < (q : Int)
          · have HNO : Hid (¬ CanR ms m each L R) := Lib.hid (no_room hrl hkm (by have := HQ.out; omega))
            go_wp2_with (first | (go_at_call 62; (with_reducible refine HD.out.mono ?_); rintro e w6 ⟨rfl, hx6⟩))
            go_ret
            exact ⟨by rw [decide_eq_false HNO.out]; rfl, HLW.out _ _ (HPX.out _ hx6)⟩
          · go_wp2_with (first | (go_at_call 62; (with_reducible refine HD.out.mono ?_); rintro e w6 ⟨rfl, hx6⟩))
            exact ⟨⟨k + 1, by simp, by omega, Lib.hid (HPX.out _ hx6), Lib.hid fun j hj => by
              by_cases e : j = k
              · subst e; rw [HQ.out]; omega
              · exact HCL.out j (by omega)⟩, by simp [iof]; omega⟩
        · obtain rfl : k = m := by omega
          have HPT := Lib.hid (part_start (M := ms) (R := R) (m := k) (each := each) (L := L) HCL.out hrl)
          clear HCL
          go_upto_region 15 with (fail)
          clear c0
          go_loopw [13] (fun bv wq => ∃ (b : Nat) (D : Nat → Nat → Bool), bv = .int .i64 b ∧ R.length ≤ b ∧ b ≤ ms.length ∧ Hid (PS C wq D) ∧ Hid (Part (mayF ms) ms.length k each L R.length (rowF R) b 0 D)) (fun bv _ => ms.length - (iof bv).toNat)
          case atStart => exact ⟨R.length, _, rfl, by omega, hrl, HP, HPT⟩
          case round =>
            rename World => wo
            obtain ⟨b, D, rfl, hfb, hb, HP, HPT⟩ := hrel
            by_cases hbl : b < ms.length
            · go_upto_region 18 with (fail)
              try rw [show decide ((b : Int) < (ms.length : Int)) = true from decide_eq_true (by omega)]
              go_loopw [14] (fun cv wq => ∃ (c : Nat) (D : Nat → Nat → Bool), cv = .int .i64 c ∧ c ≤ each ∧ Hid (PS C wq D) ∧ Hid (Part (mayF ms) ms.length k each L R.length (rowF R) b c D)) (fun cv _ => each - (iof cv).toNat)
              case atStart => exact ⟨0, D, rfl, by omega, HP, HPT⟩
              case round =>
                clear HP HPT
                obtain ⟨c, D, rfl, hc, HP, HPT⟩ := hrel
                by_cases hcl : c < each
                · obtain ⟨r0, rr0, c0⟩ := HRM.out b hbl wr _ HP.out
                  have hmk := make_87 wr k (by omega)
                  have hxa : Ext wr (wr.alloc (.cells (tabV (fun _ => .bool false) k) 4)) := Ext.alloc (Ext.refl _) _
                  have HPT0 : Hid (PT C (wr.alloc (.cells (tabV (fun _ => .bool false) k) 4)) wr.heap.size D (fun _ => false)) := Lib.hid ⟨HP.out.ext hxa, by rw [HM2.out]; exact alloc_at wr _, HP.out.low.size, fun o ho => by
                    have := HDR.out wr D o HP.out (by rw [← HN1.out]; exact ho)
                    omega⟩
                  have HF := Lib.hid (HFI.out _ (fun _ => false) D wr.heap.size b (wr.alloc (.cells (tabV (fun _ => .bool false) k) 4)) (Nat.lt_succ_self _) HPT0.out HPT.out.cnt hfb hbl)
                  clear hxa HPT0
                  go_wp2_with (first | (go_at_call 63; (with_reducible refine HF.out.mono ?_); rintro e w5 ⟨res, E, T5, rfl, hF5, hFn⟩; cases res))
                  · have HNO : Hid (¬ CanR ms k each L R) := Lib.hid (HPT.out.stuck hbl hfb hcl hFn)
                    go_ret
                    exact ⟨by rw [decide_eq_false HNO.out]; rfl, HLW.out _ _ hF5.ps⟩
                  · exact ⟨⟨c + 1, E, by simp, by omega, Lib.hid hF5.ps, Lib.hid (HPT.out.step hbl hfb hFn)⟩, by simp [iof]; omega⟩
                · obtain rfl : c = each := by omega
                  go_wp2_with (fail)
                  exact ⟨⟨b + 1, D, by simp, by omega, by omega, HP, Lib.hid (HPT.out.next hbl)⟩, by simp [iof]; omega⟩
            · obtain rfl : b = ms.length := by omega
              have HYES : Hid (CanR ms k each L R) := Lib.hid (HPT.out.can (fun o ho k _ h => HR.out.may o ho k h) (fun o ho => HR.out.deg HM.out o ho))
              have HLX := Lib.hid (HLW.out _ _ HP.out)
              go_wp2_with (fail)
              go_ret
              exact ⟨by rw [decide_eq_true HYES.out]; rfl, HLX.out⟩
end Go.Proofs.Ytlekdhhgjhakgaa
