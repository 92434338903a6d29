/-
  The reference's bend, at its start: a copy of the formula whose parts lie in a row of its own. Conditions: a tree of at most 1000 parts, whose lists have no or at least two elements.
-/
import Derived.Test.YtgkdeknfmmgbdaaBeA
import Derived.Test.YtgkdeknfmmgbdaaJnI
namespace Go.Proofs.Ytgkdeknfmmgbdaa
set_option linter.unusedVariables false
set_option linter.unusedSimpArgs false
open Go.RowKit

theorem Mod_x (n m : Int) (hm : 0 < m) (hm2 : m ≤ 1000000) (h1 : -9223372036854775808 ≤ n) (h2 : n ≤ 9223372036854775807) (w : World) :
    Calls Try.prog 39 #[.int .i64 n, .int .i64 m] w fun e w' => e = .returned (.int .i64 (modZ n m)) ∧ Ext w w' :=
  (Mod_any n m hm hm2 h1 h2 w).mono fun e w' ⟨h1, h2⟩ => ⟨h1, h2 ▸ Ext.refl w⟩
theorem FS.lt {S : Nat → Prop} {B : Nat} {w : World} {v : Value} {ts : List Ex} (h : FS S B w v ts) (h0 : 2 ≤ ts.length) : ∃ g cap cs, v = .slice (some ⟨g, 0, none⟩) ts.length cap ∧ w.heap[g]? = some (.cells cs 29) ∧ 10 ≤ cs.size := by
  obtain ⟨us, hl, ho, hr⟩ := h
  rcases ho.2 with ⟨hn, e⟩ | ⟨g, cap, cur, e, hb, hg, h1, h2, h3, h4⟩
  · omega
  · exact ⟨g, cap, cur, e, hg, by omega⟩

theorem FS.nil (S : Nat → Prop) (B : Nat) (w : World) : FS S B w (.slice none 0 0) [] := ⟨[], rfl, World.ownsRow_nil w B 29 5, fun i h => absurd h (Nat.not_lt_zero _)⟩
theorem partsL_set : ∀ (ts : List Ex) (k : Nat) (h : k < ts.length) (t : Ex), Ex.partsL (ts.set k t) + ts[k].parts = Ex.partsL ts + t.parts
  | u :: ts, 0, _, t => by rw [List.set_cons_zero, Ex.partsL, Ex.partsL, List.getElem_cons_zero]; omega
  | u :: ts, k + 1, h, t => by
    have ih := partsL_set ts k (by simpa using h) t
    rw [List.set_cons_succ, Ex.partsL, Ex.partsL, List.getElem_cons_succ]
    omega
theorem partsL_app' : ∀ (a b : List Ex), Ex.partsL (a ++ b) = Ex.partsL a + Ex.partsL b
  | [], b => by rw [List.nil_append, Ex.partsL]; omega
  | t :: a, b => by rw [List.cons_append, Ex.partsL, Ex.partsL, partsL_app' a b]; omega
theorem partsL_len : ∀ (ts : List Ex), ts.length ≤ Ex.partsL ts
  | [] => Nat.zero_le _
  | .mk _ _ _ us :: ts => by rw [List.length_cons, Ex.partsL, Ex.parts]; have := partsL_len ts; omega
theorem twoL_get : ∀ (ts : List Ex) (k : Nat) (h : k < ts.length), twoL ts = true → twoB ts[k] = true
  | u :: ts, 0, _, h2 => by rw [twoL, Bool.and_eq_true] at h2; exact h2.1
  | u :: ts, k + 1, h, h2 => by rw [twoL, Bool.and_eq_true] at h2; exact twoL_get ts k (by simpa using h) h2.2
/-- The answer, copied into its block p6. -/
theorem bend_fin {S : Nat → Prop} {w W : World} {p6 p7 B : Nat} {o m : ByteArray} {x y : Int} {sl : Value} {ts : List Ex} (hx : Ext w W) (hp6 : w.heap.size ≤ p6) (hB : p6 < B) (hF : FS (fun b => S b ∧ b ≠ p6 ∧ b ≠ p7) B W sl ts) (hown : sl.ownBlock ≠ some p7) (hS : ∀ b, w.heap.size ≤ b → S b) (hI : I2 (x, y)) (hl : ts.length ≤ 1000000) {P : Nat} (hP : 1 + Ex.partsL ts ≤ P) :
    Ext w (((((W.setCell ⟨p6, 0, none⟩ (.string o)).setCell ⟨p6, 1, none⟩ (.int .i64 x)).setCell ⟨p6, 2, none⟩ (.int .i64 y)).setCell ⟨p6, 3, none⟩ (.string m)).setCell ⟨p6, 4, none⟩ sl) ∧
    ∃ t', Rd S (((((W.setCell ⟨p6, 0, none⟩ (.string o)).setCell ⟨p6, 1, none⟩ (.int .i64 x)).setCell ⟨p6, 2, none⟩ (.int .i64 y)).setCell ⟨p6, 3, none⟩ (.string m)).setCell ⟨p6, 4, none⟩ sl) t' (.agg #[.string o, .int .i64 x, .int .i64 y, .string m, sl]) ∧ t'.parts ≤ P := by
  refine ⟨Ext.setCell (Ext.setCell (Ext.setCell (Ext.setCell (Ext.setCell hx hp6 _) hp6 _) hp6 _) hp6 _) hp6 _, .mk o (x, y) m ts, ?_, by rw [Ex.parts]; exact hP⟩
  have hk : ∀ b, b ≠ p6 → (((((W.setCell ⟨p6, 0, none⟩ (.string o)).setCell ⟨p6, 1, none⟩ (.int .i64 x)).setCell ⟨p6, 2, none⟩ (.int .i64 y)).setCell ⟨p6, 3, none⟩ (.string m)).setCell ⟨p6, 4, none⟩ sl).heap[b]? = W.heap[b]? := fun b hb =>
    (heap_setCell_other _ _ _ _ hb).trans ((heap_setCell_other _ _ _ _ hb).trans ((heap_setCell_other _ _ _ _ hb).trans ((heap_setCell_other _ _ _ _ hb).trans (heap_setCell_other _ _ _ _ hb))))
  have ho6 : sl.ownBlock ≠ some p6 := fun e => by have := (hF.own p6 e).1; omega
  have h := (hF.other ho6 (fun b hb => hb.2.1) hk).rd (fun k e => ⟨hS k (by have := (hF.own k e).1; omega), fun e' => ho6 (by rw [e, e']), fun e' => hown (by rw [e, e'])⟩) o (x, y) m hI hl
  exact Rd.frame (fun _ _ _ _ => rfl) (fun _ h => h.1) _ _ h

abbrev zero29 : Array Value := #[.string ⟨#[]⟩, .int .i64 0, .int .i64 0, .string ⟨#[]⟩, .slice none 0 0]
set_option maxRecDepth 100000 in
set_option maxHeartbeats 4000000 in
theorem bend_any (S : Nat → Prop) : ∀ (d : Nat) (t : Ex) (_ : t.depth ≤ d) (_ : t.parts ≤ 1000) (_ : twoB t = true) (w : World) (v : Value) (at_ how : Int) (_ : 0 ≤ at_ ∧ at_ ≤ 100000) (_ : -9223372036854775808 ≤ how ∧ how ≤ 9223372036854775807) (_ : Rd S w t v) (_ : ∀ b, w.heap.size ≤ b → S b),
    Calls Try.prog 42 #[v, .int .i64 at_, .int .i64 how] w fun e w' => ∃ u, e = .returned u ∧ Ext w w' ∧ ∃ t', Rd S w' t' u ∧ t'.parts ≤ t.parts + 1
  | 0, .mk op n nm ts, hd, _, _, _, _, _, _, _, _, _, _ => by rw [Ex.depth] at hd; omega
  | d + 1, .mk op n nm ts, hd, hp, h2, w, v, at_, how, hat, hhow, hv, hS => by
    obtain ⟨n1, n2⟩ := n
    have IH := Lib.hid (fun S' t ht hp h2 w v a h ha hv hS => bend_any S' d t ht hp h2 w v a how ha h hv hS)
    have hv0 := hv
    unfold Rd at hv
    obtain ⟨base, cap, rfl, hI, hlen, hr⟩ := hv
    rw [Ex.depth] at hd
    have hps := hp
    rw [Ex.parts] at hp
    rw [twoB] at h2
    simp only [Bool.and_eq_true, bne_iff_ne, ne_eq] at h2
    have HT2 := Lib.hid h2
    have HI := Lib.hid hI; have HLEN := Lib.hid hlen
    have HD := Lib.hid hd; have HP := Lib.hid hp
    have HS := Lib.hid hS; have HHO := Lib.hid hhow
    -- what was there stays
    have HRA := Lib.hid hr
    obtain ⟨W1, hW1⟩ : ∃ W1, W1 = (w.alloc (.cells #[.string op, .int .i64 n1, .int .i64 n2, .string nm, .slice base ts.length cap] 29)).alloc (.cells zero29 29) := ⟨_, rfl⟩
    have hx1 : Ext w W1 := by rw [hW1]; exact Ext.alloc (Ext.alloc (Ext.refl _) _) _
    have h3 : W1.heap[w.heap.size]? = some (.cells #[.string op, .int .i64 n1, .int .i64 n2, .string nm, .slice base ts.length cap] 29) := by rw [hW1, Below.heap_alloc _ _ _ (by simp)]; exact block_new rfl
    have h6 : W1.heap[w.heap.size + 1]? = some (.cells zero29 29) := by rw [hW1]; exact block_new (by simp)
    go_enter Try.func42, Try.ntmps42
    go_upto_region 1 with (fail)
    rw [← hW1]
    clear hW1 hv0 hr h2 hI hlen hS hhow hd hp hps
    obtain ⟨p3, hp3⟩ : ∃ p, p = w.heap.size := ⟨_, rfl⟩
    obtain ⟨p6, hp6⟩ : ∃ p, p = w.heap.size + 1 := ⟨_, rfl⟩
    have hp6w : w.heap.size ≤ p6 := by omega
    have HP6 := Lib.hid hp6w
    rw [← hp6] at h6 ⊢
    rw [← hp3] at h3 ⊢
    have H6 := Lib.hid h6
    have HX1 := Lib.hid hx1
    have hB1 : W1.heap.size = W1.heap.size := rfl
    clear hp6 hp3 h6 hp6w hx1 hB1
    obtain ⟨c3, -, l3⟩ := Rg.cells_of h3
    have a0 : W1.cell? ⟨p3, 0, none⟩ = some (.string op) := c3 0
    have a1 : W1.cell? ⟨p3, 1, none⟩ = some (.int .i64 n1) := c3 1
    have a2 : W1.cell? ⟨p3, 2, none⟩ = some (.int .i64 n2) := c3 2
    have a3 : W1.cell? ⟨p3, 3, none⟩ = some (.string nm) := c3 3
    have a4 : W1.cell? ⟨p3, 4, none⟩ = some (.slice base ts.length cap) := c3 4
    clear c3 h3
    refine Rr.wp_region [(0, .y), (1, .y), (2, .y), (3, .y), (4, .y), (5, .y), (7, .y), (8, .y), (6, .m), (9, .z), (10, .y), (11, .m)] (fun i => if i = 6 then (.cells #[] 29, fun p => .slice (some ⟨p, 0, none⟩) 0 0) else (.cells zero29 29, Rg.ptr)) (by kernel_rfl) (by kernel_rfl) ?_
    (refine Rr.wr_y (by simp only [List.getElem?_toArray, List.getElem?_cons_succ, List.getElem?_cons_zero]; rfl) (by rfl) ?_
     apply Exists.intro
     refine ⟨fun wz hw _ => ?_, ?_⟩
     · have hcz := hw.cells.1
       go_simp
       (with_reducible exact Rg.up_value)
     simp only [Act.put, List.setIfInBounds_toArray, List.set_cons_zero, List.set_cons_succ])
    (refine Rr.wr_y (by simp only [List.getElem?_toArray, List.getElem?_cons_succ, List.getElem?_cons_zero]; rfl) (by rfl) ?_
     apply Exists.intro
     refine ⟨fun wz hw _ => ?_, ?_⟩
     · have hcz := hw.cells.1
       go_simp
       (with_reducible exact Rg.up_value)
     simp only [Act.put, List.setIfInBounds_toArray, List.set_cons_zero, List.set_cons_succ])
    (refine Rr.wr_y (by simp only [List.getElem?_toArray, List.getElem?_cons_succ, List.getElem?_cons_zero]; rfl) (by rfl) ?_
     apply Exists.intro
     refine ⟨fun wz hw _ => ?_, ?_⟩
     · have hcz := hw.cells.1
       go_simp
       (with_reducible exact Rg.up_value)
     simp only [Act.put, List.setIfInBounds_toArray, List.set_cons_zero, List.set_cons_succ])
    (refine Rr.wr_y (by simp only [List.getElem?_toArray, List.getElem?_cons_succ, List.getElem?_cons_zero]; rfl) (by rfl) ?_
     apply Exists.intro
     refine ⟨fun wz hw _ => ?_, ?_⟩
     · have hcz := hw.cells.1
       go_simp
       (with_reducible exact Rg.up_value)
     simp only [Act.put, List.setIfInBounds_toArray, List.set_cons_zero, List.set_cons_succ])
    (refine Rr.wr_y (by simp only [List.getElem?_toArray, List.getElem?_cons_succ, List.getElem?_cons_zero]; rfl) (by rfl) ?_
     apply Exists.intro
     refine ⟨fun wz hw _ => ?_, ?_⟩
     · have hcz := hw.cells.1
       go_simp
       (with_reducible exact Rg.up_value)
     simp only [Act.put, List.setIfInBounds_toArray, List.set_cons_zero, List.set_cons_succ])
    (refine Rr.wr_y (by simp only [List.getElem?_toArray, List.getElem?_cons_succ, List.getElem?_cons_zero]; rfl) (by rfl) ?_
     apply Exists.intro
     refine ⟨fun wz hw _ => ?_, ?_⟩
     · have hcz := hw.cells.1
       go_simp
       (with_reducible exact Rg.up_value)
     simp only [Act.put, List.setIfInBounds_toArray, List.set_cons_zero, List.set_cons_succ])
    (refine Rr.wr_y (by simp only [List.getElem?_toArray, List.getElem?_cons_succ, List.getElem?_cons_zero]; rfl) (by rfl) ?_
     apply Exists.intro
     refine ⟨fun wz hw _ => ?_, ?_⟩
     · have hcz := hw.cells.1
       go_simp
       (with_reducible exact Rg.up_value)
     simp only [Act.put, List.setIfInBounds_toArray, List.set_cons_zero, List.set_cons_succ])
    (refine Rr.wr_y (by simp only [List.getElem?_toArray, List.getElem?_cons_succ, List.getElem?_cons_zero]; rfl) (by rfl) ?_
     apply Exists.intro
     refine ⟨fun wz hw _ => ?_, ?_⟩
     · have hcz := hw.cells.1
       go_simp
       (with_reducible exact Rg.up_value)
     simp only [Act.put, List.setIfInBounds_toArray, List.set_cons_zero, List.set_cons_succ])
    refine Rr.wr_m (by simp only [List.getElem?_toArray, List.getElem?_cons_succ, List.getElem?_cons_zero]; rfl) (by rfl) (fun wz => by go_simp) (fun pz hpz => ?_)
    simp only [Act.put, List.setIfInBounds_toArray, List.set_cons_zero, List.set_cons_succ]
    refine Rr.wr_z (fun v w' => FS (fun b => S b ∧ b < w.heap.size) W1.heap.size w' v ts ∧ (ts = [] → v = .slice (some ⟨pz, 0, none⟩) 0 0)) (by simp only [List.getElem?_toArray, List.getElem?_cons_succ, List.getElem?_cons_zero]; rfl) (by rfl) (fun v w1 w2 h e => ⟨h.1.ext e, h.2⟩) (fun wz hw hh => ?_) (fun u => ?_)
    · obtain ⟨hb1, hb2⟩ := hold0 hh
      have hra : ts = [] ∨ ∃ b, base = some ⟨b, 0, none⟩ ∧ RdL (fun b => S b ∧ b < w.heap.size) wz b 0 ts := by
        rcases HRA.out with h | ⟨b, hb, hsb, hl⟩
        · exact .inl h
        · by_cases h0 : ts = []
          · exact .inl h0
          · have hbl : b < w.heap.size := by
              obtain ⟨c, hc, -⟩ := hl.get 0 (List.length_pos_iff.2 h0)
              exact World.block_lt_of_cell? w _ (hc 0 (by decide))
            refine .inr ⟨b, hb, ?_⟩
            exact RdL.frame (S := fun b => S b ∧ b < w.heap.size) (w := w) (w' := wz) (fun b' o _ hb' => (HX1.out.trans hw).cells.1 b' o hb') (fun _ h => h) b ⟨hsb, hbl⟩ ts 0 (RdL.alive ts b 0 hl)
      obtain ⟨v', w', hrun, hx, hf, he⟩ := append_args_run (fun b => S b ∧ b < w.heap.size) wz 27 W1.heap.size pz hb2 hb1 base cap ts HLEN.out hra
      unfold execOp
      simp only [resolve, invoke, builtin, Sem.run_bind, Sem.run_pure, Result.andThen_ok, List.map_toArray, List.map_cons, List.map_nil]
      show Rr.upR _ _ _ _ (((Builtin.append_ #[27, 27] 27 #[.slice (some ⟨pz, 0, none⟩) 0 0, .slice base ts.length cap]).run Try.prog wz).andThen _)
      rw [hrun]
      exact ⟨hx, hf, he⟩
    simp only [Act.put, List.setIfInBounds_toArray, List.set_cons_zero, List.set_cons_succ]
    refine Rr.wr_y (by simp only [List.getElem?_toArray, List.getElem?_cons_succ, List.getElem?_cons_zero]; rfl) (by rfl) ⟨.agg #[.string op, .int .i64 n1, .int .i64 n2, .string nm, u], fun wz hw hh => ?_, ?_⟩
    · obtain ⟨A, cp, rfl⟩ := (hold0 hh).1.shape
      go_simp
      (with_reducible exact Rg.up_value)
    simp only [Act.put, List.setIfInBounds_toArray, List.set_cons_zero, List.set_cons_succ]
    refine Rr.wr_m (by simp only [List.getElem?_toArray, List.getElem?_cons_succ, List.getElem?_cons_zero]; rfl) (by rfl) (fun wz => by go_simp) (fun p7 hp7 => ?_)
    simp only [Act.put, List.setIfInBounds_toArray, List.set_cons_zero, List.set_cons_succ]
    refine Rr.wr_nil ?_
    intro wy hy hh
    simp only [List.length_cons, List.length_nil, List.drop_succ_cons, List.drop_zero, Nat.reduceAdd]
    obtain ⟨hb7, hh7⟩ := hh _ List.mem_cons_self
    obtain ⟨hF, hFe⟩ := hold1 hh
    have hne7 : p7 ≠ pz := by simpa using hp7
    have hown : u.ownBlock ≠ some p7 := by
      by_cases h0 : ts = []
      · rw [hFe h0, Ne, own_sl]; exact fun e => hne7 e.symm
      · have h2l : 2 ≤ ts.length := by
          have := HT2.out.1
          have : 0 < ts.length := List.length_pos_iff.2 h0
          omega
        obtain ⟨g, cp, cs, e, hg, hsz⟩ := hF.lt h2l
        rw [e, Ne, own_sl]
        rintro rfl
        rw [hh7] at hg
        injection hg with hg
        injection hg with hg _ _
        rw [← hg] at hsz
        exact absurd hsz (by decide)
    obtain ⟨A, cp, rfl⟩ := hF.shape
    have hw1 := HX1.out.size
    have hp6 := HP6.out
    have hp6' := Rg.lt_of_heap H6.out
    have hF2 : FS (fun b => S b ∧ b ≠ p6 ∧ b ≠ p7) W1.heap.size wy (.slice A ts.length cp) ts := hF.mono fun b hb => ⟨hb.1, by omega, by omega⟩
    have h66 := (hy.block _ hp6').trans H6.out
    clear hh hF hFe hne7 hpz hp7 a0 a1 a2 a3 a4 l3
    refine wpList_store_row (hgd := rfl) 29 (.tmp 7) (.tmp 20) rfl p7 (by rfl) #[.string op, .int .i64 n1, .int .i64 n2, .string nm, .slice A ts.length cp] (by rfl) _ 29 hh7 (by rfl) (by kernel_rfl) (by intro v hv; simp at hv; rcases hv with rfl | rfl | rfl | rfl | rfl <;> rfl) ?_
    have h7 := setRow_heap wy p7 _ #[.string op, .int .i64 n1, .int .i64 n2, .string nm, .slice A ts.length cp] 29 _ hh7
    have hx2 : Ext W1 (wy.setRow p7 #[.string op, .int .i64 n1, .int .i64 n2, .string nm, .slice A ts.length cp]) := below_setRow hy hb7 _
    have hF3 := hF2.other hown (fun b hb => hb.2.2) (fun b hb => setRow_other wy p7 b #[.string op, .int .i64 n1, .int .i64 n2, .string nm, .slice A ts.length cp] hb)
    have h62 := (setRow_other wy p7 p6 #[.string op, .int .i64 n1, .int .i64 n2, .string nm, .slice A ts.length cp] (by omega)).trans h66
    generalize wy.setRow p7 #[.string op, .int .i64 n1, .int .i64 n2, .string nm, .slice A ts.length cp] = W2 at *
    have HF := Lib.hid hF3; have H7 := Lib.hid h7; have H62 := Lib.hid h62; have HX2 := Lib.hid hx2; have HOWN := Lib.hid hown
    have HB7 : Hid (W1.heap.size ≤ p7 ∧ p6 < W1.heap.size) := Lib.hid ⟨hb7, hp6'⟩
    clear hF2 hF3 h7 h62 h66 hx2 hown hb7 hh7 hy hw1 hp6 hp6' H6 HRA
    -- the answer: the cells of p7 copied into p6
    have hlen2 : (ts.length : Int) ≤ 9223372036854775807 := by have := HLEN.out; omega
    have hlen0 : (0 : Int) ≤ (ts.length : Int) := by omega
    by_cases hz : 0 < at_
    · have hz1 : IntKind.i64.wrap (at_ - 1) = at_ - 1 := by rw [IntKind.wrap_i64]; omega
      go_wp2_with (fail)
      go_loopw [1, 8] (fun a k wr => ∃ (j : Nat) (z : Int), k = .int .i64 j ∧ a = .int .i64 z ∧ 0 ≤ z ∧ z ≤ 100000 ∧ j ≤ ts.length ∧ Ext W2 wr) (fun _ k _ => ts.length - (intOf k).toNat)
      case atStart => exact ⟨0, at_ - 1, rfl, rfl, by omega, by omega, Nat.zero_le _, Ext.refl _⟩
      case round =>
        obtain ⟨j, z, rfl, rfl, hz0, hz9, hj, hx⟩ := hrel
        have HX := Lib.hid hx
        obtain ⟨c7, f7, l7⟩ := Rg.cells_of ((hx.block _ (Rg.lt_of_heap H7.out)).trans H7.out)
        have b0 : wr.cell? ⟨p7, 0, none⟩ = some (.string op) := c7 0
        have b1 : wr.cell? ⟨p7, 1, none⟩ = some (.int .i64 n1) := c7 1
        have b2 : wr.cell? ⟨p7, 2, none⟩ = some (.int .i64 n2) := c7 2
        have b3 : wr.cell? ⟨p7, 3, none⟩ = some (.string nm) := c7 3
        have b4 : wr.cell? ⟨p7, 4, none⟩ = some (.slice A ts.length cp) := c7 4
        clear c7
        clear hx f7
        rcases Nat.lt_or_ge j ts.length with hlt | hge
        · obtain ⟨g, cp', ⟨x0, x1, x2, x3, x4⟩, e, hg, hc, hrd⟩ := (HF.out.ext HX.out).get j hlt
          injection e with e1 e2 e3
          subst e1 e3
          replace hrd : Rd (OffS (fun b => S b ∧ b ≠ p6 ∧ b ≠ p7) (.slice (some ⟨g, 0, none⟩) ts.length cp)) wr ts[j] (.agg #[x0, x1, x2, x3, x4]) := hrd
          have y0 : wr.cell? ⟨g, j * 5, none⟩ = some x0 := hc 0 (by decide)
          have y1 : wr.cell? ⟨g, j * 5 + 1, none⟩ = some x1 := hc 1 (by decide)
          have y2 : wr.cell? ⟨g, j * 5 + 2, none⟩ = some x2 := hc 2 (by decide)
          have y3 : wr.cell? ⟨g, j * 5 + 3, none⟩ = some x3 := hc 3 (by decide)
          have y4 : wr.cell? ⟨g, j * 5 + 4, none⟩ = some x4 := hc 4 (by decide)
          have hpj := (Ex.parts_get ts j hlt).2.1
          have hpp := HP.out
          obtain ⟨P, hP⟩ : ∃ P, P = ts[j].parts := ⟨_, rfl⟩
          have HPA : Hid (∀ W, Ext wr W → Calls Try.prog 22 #[.agg #[x0, x1, x2, x3, x4]] W fun e w' => e = .returned (.int .i64 (P : Nat)) ∧ Ext W w') := Lib.hid (fun W (hW : Ext wr W) => by
            subst hP
            exact rparts_any ts[j].depth ts[j] (Nat.le_refl _) (by omega) W (.agg #[x0, x1, x2, x3, x4]) (Rd.ext hW (Rd.frame (fun _ _ _ _ => rfl) (fun _ _ => trivial) _ _ hrd)))
          have HRD := Lib.hid hrd
          have HG := Lib.hid hg
          have HLT := Lib.hid hlt
          have hP0 : P ≤ 1000 := by omega
          have HPE := Lib.hid hP
          have hlt' : (j : Int) < (ts.length : Int) := by omega
          have hj0 : (0 : Int) ≤ (j : Int) := by omega
          have kw : IntKind.i64.wrap ((j : Int) + 1) = (j : Int) + 1 := by rw [IntKind.wrap_i64]; omega
          clear hc hrd hpj hpp hP
          by_cases hzp : z < (P : Int)
          · go_upto_region 9 with (go_at_call 22; (with_reducible refine (HPA.out _ (Ext.refl _)).mono ?_); rintro e w7 ⟨rfl, hx7⟩)
            have k4 := (hx7.cells.1 _ _ l7).trans b4
            have m0 := (hx7.cells.1 _ _ hg).trans y0
            have m1 := (hx7.cells.1 _ _ hg).trans y1
            have m2 := (hx7.cells.1 _ _ hg).trans y2
            have m3 := (hx7.cells.1 _ _ hg).trans y3
            have m4 := (hx7.cells.1 _ _ hg).trans y4
            have mg := Nat.lt_of_lt_of_le hg hx7.size
            have ml := Nat.lt_of_lt_of_le l7 hx7.size
            have HX7 := Lib.hid (HX.out.trans hx7)
            have HXr7 := Lib.hid hx7
            clear hx7 b0 b1 b2 b3 b4 y0 y1 y2 y3 y4 hg l7
            refine Rr.wp_region [(0, .y), (1, .y), (2, .y), (3, .y), (4, .y), (5, .y), (6, .y), (7, .y), (8, .y), (9, .y), (10, .z), (11, .y)] (fun _ => (.cells zero29 29, Rg.ptr)) (by kernel_rfl) (by kernel_rfl) ?_
            (refine Rr.wr_y (by simp only [List.getElem?_toArray, List.getElem?_cons_succ, List.getElem?_cons_zero]; rfl) (by rfl) ?_
             apply Exists.intro
             refine ⟨fun wz hw _ => ?_, ?_⟩
             · have hcz := hw.cells.1
               go_simp
               (with_reducible exact Rg.up_value)
             simp only [Act.put, List.setIfInBounds_toArray, List.set_cons_zero, List.set_cons_succ])
            (refine Rr.wr_y (by simp only [List.getElem?_toArray, List.getElem?_cons_succ, List.getElem?_cons_zero]; rfl) (by rfl) ?_
             apply Exists.intro
             refine ⟨fun wz hw _ => ?_, ?_⟩
             · have hcz := hw.cells.1
               go_simp
               (with_reducible exact Rg.up_value)
             simp only [Act.put, List.setIfInBounds_toArray, List.set_cons_zero, List.set_cons_succ])
            (refine Rr.wr_y (by simp only [List.getElem?_toArray, List.getElem?_cons_succ, List.getElem?_cons_zero]; rfl) (by rfl) ?_
             apply Exists.intro
             refine ⟨fun wz hw _ => ?_, ?_⟩
             · have hcz := hw.cells.1
               go_simp
               (with_reducible exact Rg.up_value)
             simp only [Act.put, List.setIfInBounds_toArray, List.set_cons_zero, List.set_cons_succ])
            (refine Rr.wr_y (by simp only [List.getElem?_toArray, List.getElem?_cons_succ, List.getElem?_cons_zero]; rfl) (by rfl) ?_
             apply Exists.intro
             refine ⟨fun wz hw _ => ?_, ?_⟩
             · have hcz := hw.cells.1
               go_simp
               (with_reducible exact Rg.up_value)
             simp only [Act.put, List.setIfInBounds_toArray, List.set_cons_zero, List.set_cons_succ])
            (refine Rr.wr_y (by simp only [List.getElem?_toArray, List.getElem?_cons_succ, List.getElem?_cons_zero]; rfl) (by rfl) ?_
             apply Exists.intro
             refine ⟨fun wz hw _ => ?_, ?_⟩
             · have hcz := hw.cells.1
               go_simp
               (with_reducible exact Rg.up_value)
             simp only [Act.put, List.setIfInBounds_toArray, List.set_cons_zero, List.set_cons_succ])
            (refine Rr.wr_y (by simp only [List.getElem?_toArray, List.getElem?_cons_succ, List.getElem?_cons_zero]; rfl) (by rfl) ?_
             apply Exists.intro
             refine ⟨fun wz hw _ => ?_, ?_⟩
             · have hcz := hw.cells.1
               go_simp
               (with_reducible exact Rg.up_value)
             simp only [Act.put, List.setIfInBounds_toArray, List.set_cons_zero, List.set_cons_succ])
            (refine Rr.wr_y (by simp only [List.getElem?_toArray, List.getElem?_cons_succ, List.getElem?_cons_zero]; rfl) (by rfl) ?_
             apply Exists.intro
             refine ⟨fun wz hw _ => ?_, ?_⟩
             · have hcz := hw.cells.1
               go_simp
               (with_reducible exact Rg.up_value)
             simp only [Act.put, List.setIfInBounds_toArray, List.set_cons_zero, List.set_cons_succ])
            (refine Rr.wr_y (by simp only [List.getElem?_toArray, List.getElem?_cons_succ, List.getElem?_cons_zero]; rfl) (by rfl) ?_
             apply Exists.intro
             refine ⟨fun wz hw _ => ?_, ?_⟩
             · have hcz := hw.cells.1
               exact up_load29 (by rfl) ((hcz _ _ mg).trans m0) ((hcz _ _ mg).trans m1) ((hcz _ _ mg).trans m2) ((hcz _ _ mg).trans m3) ((hcz _ _ mg).trans m4)
             simp only [Act.put, List.setIfInBounds_toArray, List.set_cons_zero, List.set_cons_succ])
            (refine Rr.wr_y (by simp only [List.getElem?_toArray, List.getElem?_cons_succ, List.getElem?_cons_zero]; rfl) (by rfl) ?_
             apply Exists.intro
             refine ⟨fun wz hw _ => ?_, ?_⟩
             · have hcz := hw.cells.1
               go_simp
               (with_reducible exact Rg.up_value)
             simp only [Act.put, List.setIfInBounds_toArray, List.set_cons_zero, List.set_cons_succ])
            (refine Rr.wr_y (by simp only [List.getElem?_toArray, List.getElem?_cons_succ, List.getElem?_cons_zero]; rfl) (by rfl) ?_
             apply Exists.intro
             refine ⟨fun wz hw _ => ?_, ?_⟩
             · have hcz := hw.cells.1
               go_simp
               (with_reducible exact Rg.up_value)
             simp only [Act.put, List.setIfInBounds_toArray, List.set_cons_zero, List.set_cons_succ])
            refine Rr.wr_z (fun v w' => ∃ t', Rd (fun b => (S b ∧ b ≠ p6 ∧ b ≠ p7) ∧ b ≠ g) w' t' v ∧ t'.parts ≤ ts[j].parts + 1) (by simp only [List.getElem?_toArray, List.getElem?_cons_succ, List.getElem?_cons_zero]; rfl) (by rfl) (fun v w1 w2 h e => by obtain ⟨t', h1, h2⟩ := h; exact ⟨t', h1.ext e, h2⟩) (fun wz hw hh => ?_) (fun u => ?_)
            · go_simp
              apply Rr.upR_enter
              have hdj := Ex.depth_get ts j HLT.out
              have hdd := HD.out
              have hpj := (Ex.parts_get ts j HLT.out).2.1
              have hpp := HP.out
              have hsz := (HX1.out.trans (HX2.out.trans (HX7.out.trans hw))).size
              have hs7 := Rg.lt_of_heap H7.out
              have hs72 := (HX7.out.trans hw).size
              have hs6 := HB7.out
              have hgl := HG.out
              have hgl2 := (HXr7.out.trans hw).size
              (with_reducible refine (IH.out (fun b => (S b ∧ b ≠ p6 ∧ b ≠ p7) ∧ b ≠ g) ts[j] (by omega) (by omega) (twoL_get ts j HLT.out HT2.out.2) wz (.agg #[x0, x1, x2, x3, x4]) z HHO.out ⟨hz0, hz9⟩ (Rd.ext (HXr7.out.trans hw) (Rd.frame (fun _ _ _ _ => rfl) (fun b hb => ⟨hb.1, fun e => absurd (own_sl.2 e.symm) hb.2⟩) _ _ HRD.out)) (fun b hb => ⟨⟨HS.out b (by omega), by omega, by omega⟩, by omega⟩)).mono ?_)
              rintro e w3 ⟨u3, rfl, hx3, hr3⟩
              exact ⟨u3, rfl, hx3, hr3⟩
            simp only [Act.put, List.setIfInBounds_toArray, List.set_cons_zero, List.set_cons_succ]
            (refine Rr.wr_y (by simp only [List.getElem?_toArray, List.getElem?_cons_succ, List.getElem?_cons_zero]; rfl) (by rfl) ?_
             apply Exists.intro
             refine ⟨fun wz hw _ => ?_, ?_⟩
             · have hcz := hw.cells.1
               go_simp
               (with_reducible exact Rg.up_value)
             simp only [Act.put, List.setIfInBounds_toArray, List.set_cons_zero, List.set_cons_succ])
            refine Rr.wr_nil ?_
            intro wy hy hh
            simp only [List.length_cons, List.length_nil, List.drop_succ_cons, List.drop_zero, Nat.reduceAdd]
            obtain ⟨t', hrt, hpt⟩ := hold0 hh
            clear hh
            refine wpList_store_tree (hgd := rfl) (.tmp 52) (.tmp 51) rfl (fun b => S b ∧ b ≠ p6 ∧ b ≠ p7) g j ts.length cp W1.heap.size ts t' u (by rfl) (by rfl) (HF.out.ext (HX7.out.trans hy)) hrt HLT.out ?_
            intro W9 hF9 hk9 hb9
            have hgB := (HF.out.own g (own_sl.2 rfl)).1
            have hg7 : g ≠ p7 := fun e => HOWN.out (own_sl.2 e)
            have hp6 := HP6.out
            have hb7 := HB7.out
            have hw1 := HX1.out.size
            have hx9 : Ext w W9 := Below.trans (HX1.out.trans (HX2.out.trans (HX7.out.trans hy))) (hb9 _ (by omega))
            have h79 := (hk9 p7 (Ne.symm hg7)).trans (((HX7.out.trans hy).block _ (Rg.lt_of_heap H7.out)).trans H7.out)
            have h69 := (hk9 p6 (by omega)).trans (((HX7.out.trans hy).block _ (Rg.lt_of_heap H62.out)).trans H62.out)
            have HFIN := Lib.hid (bend_fin (o := op) (m := nm) (P := (Ex.mk op (n1, n2) nm ts).parts + 1) hx9 hp6 hb7.2 hF9 HOWN.out HS.out HI.out (by rw [List.length_set]; exact HLEN.out) (by
              have := partsL_set ts j HLT.out t'
              rw [Ex.parts]; omega))
            clear hrt hpt hF9 hk9 hb9 hgB hg7 hp6 hb7 hw1 hx9 hy k4 m0 m1 m2 m3 m4 mg ml
            obtain ⟨c7, f7, l7⟩ := Rg.cells_of h79
            have b0 : W9.cell? ⟨p7, 0, none⟩ = some (.string op) := c7 0
            have b1 : W9.cell? ⟨p7, 1, none⟩ = some (.int .i64 n1) := c7 1
            have b2 : W9.cell? ⟨p7, 2, none⟩ = some (.int .i64 n2) := c7 2
            have b3 : W9.cell? ⟨p7, 3, none⟩ = some (.string nm) := c7 3
            have b4 : W9.cell? ⟨p7, 4, none⟩ = some (.slice (some ⟨g, 0, none⟩) ts.length cp) := c7 4
            clear c7
            obtain ⟨c6, f6, l6⟩ := Rg.cells_of h69
            clear f7 h79 h69
            go_wp2_with (fail)
            exact bodyPost_ret (v := .agg #[.string op, .int .i64 n1, .int .i64 n2, .string nm, .slice (some ⟨g, 0, none⟩) ts.length cp]) (by simp [results, Try.results42, go_sem, c6, l6]) rfl ⟨_, rfl, HFIN.out⟩
          · have hzw : IntKind.i64.wrap (z - P) = z - P := by rw [IntKind.wrap_i64]; omega
            go_wp2_with (go_at_call 22; (with_reducible refine (HPA.out _ (Ext.refl _)).mono ?_); rintro e w7 ⟨rfl, hx7⟩)
            go_roundw
            case rel => exact ⟨j + 1, z - P, by go_num, rfl, by omega, by omega, by omega, HX.out.trans hx7⟩
            case measure => simp [intOf]; omega
        · have hge' : ¬ (j : Int) < (ts.length : Int) := by omega
          obtain ⟨c6, f6, l6⟩ := Rg.cells_of ((HX.out.block _ (Rg.lt_of_heap H62.out)).trans H62.out)
          have hb7 := HB7.out
          have HFIN := Lib.hid (bend_fin (o := op) (m := nm) (P := (Ex.mk op (n1, n2) nm ts).parts + 1) (HX1.out.trans (HX2.out.trans HX.out)) HP6.out hb7.2 (HF.out.ext HX.out) HOWN.out HS.out HI.out HLEN.out (by rw [Ex.parts]; omega))
          clear hb7
          go_wp2_with (fail)
          exact bodyPost_ret (v := .agg #[.string op, .int .i64 n1, .int .i64 n2, .string nm, .slice A ts.length cp]) (by simp [results, Try.results42, go_sem, c6, l6]) rfl ⟨_, rfl, HFIN.out⟩
    · obtain rfl : at_ = 0 := by omega
      clear hz hat
      have HMO := Lib.hid (fun W => Mod_x how 8 (by omega) (by omega) HHO.out.1 HHO.out.2 W)
      have hmb := modZ_bd how (m := 8) (by omega)
      obtain ⟨M, hM⟩ : ∃ M, M = modZ how 8 := ⟨_, rfl⟩
      rw [← hM] at HMO hmb
      clear hM
      have hp7w : w.heap.size ≤ p7 := by have := HB7.out; have := HX1.out.size; omega
      have HP7W := Lib.hid hp7w
      clear hp7w
      rcases (show M = 0 ∨ M = 1 ∨ M = 2 ∨ M = 3 ∨ M = 4 ∨ M = 5 ∨ M = 6 ∨ M = 7 by omega) with rfl | rfl | rfl | rfl | rfl | rfl | rfl | rfl
      all_goals clear hmb
      · skip
        go_upto_region 30 with (go_at_call 39; (with_reducible refine (HMO.out _).mono ?_); rintro e w8 ⟨rfl, hx8⟩; obtain ⟨c7, f7, l7⟩ := Rg.cells_of ((hx8.block _ (Rg.lt_of_heap H7.out)).trans H7.out))
        have h78 := (hx8.block _ (Rg.lt_of_heap H7.out)).trans H7.out
        have hx9 : Ext w (w8.setCell ⟨p7, 0, none⟩ (.string ⟨#[37]⟩)) := (Ext.setCell (HX1.out.trans (HX2.out.trans hx8)) HP7W.out _)
        have h79 : ((w8.setCell ⟨p7, 0, none⟩ (.string ⟨#[37]⟩))).heap[p7]? = some (.cells #[.string ⟨#[37]⟩, .int .i64 n1, .int .i64 n2, .string nm, (.slice A ts.length cp)] 29) := (heap_setCell_same w8 p7 0 _ 29 _ h78)
        have hk9 : ∀ b, b ≠ p7 → ((w8.setCell ⟨p7, 0, none⟩ (.string ⟨#[37]⟩))).heap[b]? = w8.heap[b]? := fun b hb => (heap_setCell_other _ _ _ _ hb)
        have HF8 := Lib.hid (HF.out.ext hx8)
        have h69 := (hk9 p6 (by have := HB7.out; omega)).trans ((hx8.block _ (Rg.lt_of_heap H62.out)).trans H62.out)
        have HK9 := Lib.hid hk9
        clear h78 c7 f7 l7 hk9 hx8
        try change Code.wp _ _ _ _ (w8.setCell ⟨p7, 0, none⟩ (.string ⟨#[37]⟩))
        generalize (w8.setCell ⟨p7, 0, none⟩ (.string ⟨#[37]⟩)) = W9 at *
        have HFIN := Lib.hid (bend_fin (o := ⟨#[37]⟩) (m := nm) (x := n1) (y := n2) (P := (Ex.mk op (n1, n2) nm ts).parts + 1) hx9 HP6.out HB7.out.2 (HF8.out.other HOWN.out (fun b hb => hb.2.2) HK9.out) HOWN.out HS.out HI.out HLEN.out (by rw [Ex.parts]; omega))
        clear hx9
        skip
        obtain ⟨c6, f6, l6⟩ := Rg.cells_of h69
        obtain ⟨c7, f7, l7⟩ := Rg.cells_of h79
        clear h69 h79 f7
        have e0 := c7 0
        have e1 := c7 1
        have e2 := c7 2
        have e3 := c7 3
        have e4 := c7 4
        simp only [List.getElem?_toArray, List.getElem?_cons_succ, List.getElem?_cons_zero] at e0 e1 e2 e3 e4
        clear c7
        go_wp2_with (fail)
        exact bodyPost_ret (v := .agg #[.string ⟨#[37]⟩, .int .i64 n1, .int .i64 n2, .string nm, (.slice A ts.length cp)]) (by simp [results, Try.results42, go_sem, c6, l6]) rfl ⟨_, rfl, HFIN.out⟩
      · skip
        go_upto_region 30 with (go_at_call 39; (with_reducible refine (HMO.out _).mono ?_); rintro e w8 ⟨rfl, hx8⟩; obtain ⟨c7, f7, l7⟩ := Rg.cells_of ((hx8.block _ (Rg.lt_of_heap H7.out)).trans H7.out))
        have h78 := (hx8.block _ (Rg.lt_of_heap H7.out)).trans H7.out
        have hx9 : Ext w (w8.setCell ⟨p7, 3, none⟩ (.string ⟨#[120]⟩)) := (Ext.setCell (HX1.out.trans (HX2.out.trans hx8)) HP7W.out _)
        have h79 : ((w8.setCell ⟨p7, 3, none⟩ (.string ⟨#[120]⟩))).heap[p7]? = some (.cells #[.string op, .int .i64 n1, .int .i64 n2, .string ⟨#[120]⟩, (.slice A ts.length cp)] 29) := (heap_setCell_same w8 p7 3 _ 29 _ h78)
        have hk9 : ∀ b, b ≠ p7 → ((w8.setCell ⟨p7, 3, none⟩ (.string ⟨#[120]⟩))).heap[b]? = w8.heap[b]? := fun b hb => (heap_setCell_other _ _ _ _ hb)
        have HF8 := Lib.hid (HF.out.ext hx8)
        have h69 := (hk9 p6 (by have := HB7.out; omega)).trans ((hx8.block _ (Rg.lt_of_heap H62.out)).trans H62.out)
        have HK9 := Lib.hid hk9
        clear h78 c7 f7 l7 hk9 hx8
        try change Code.wp _ _ _ _ (w8.setCell ⟨p7, 3, none⟩ (.string ⟨#[120]⟩))
        generalize (w8.setCell ⟨p7, 3, none⟩ (.string ⟨#[120]⟩)) = W9 at *
        have HFIN := Lib.hid (bend_fin (o := op) (m := ⟨#[120]⟩) (x := n1) (y := n2) (P := (Ex.mk op (n1, n2) nm ts).parts + 1) hx9 HP6.out HB7.out.2 (HF8.out.other HOWN.out (fun b hb => hb.2.2) HK9.out) HOWN.out HS.out HI.out HLEN.out (by rw [Ex.parts]; omega))
        clear hx9
        skip
        obtain ⟨c6, f6, l6⟩ := Rg.cells_of h69
        obtain ⟨c7, f7, l7⟩ := Rg.cells_of h79
        clear h69 h79 f7
        have e0 := c7 0
        have e1 := c7 1
        have e2 := c7 2
        have e3 := c7 3
        have e4 := c7 4
        simp only [List.getElem?_toArray, List.getElem?_cons_succ, List.getElem?_cons_zero] at e0 e1 e2 e3 e4
        clear c7
        go_wp2_with (fail)
        exact bodyPost_ret (v := .agg #[.string op, .int .i64 n1, .int .i64 n2, .string ⟨#[120]⟩, (.slice A ts.length cp)]) (by simp [results, Try.results42, go_sem, c6, l6]) rfl ⟨_, rfl, HFIN.out⟩
      · skip
        go_upto_region 30 with (go_at_call 39; (with_reducible refine (HMO.out _).mono ?_); rintro e w8 ⟨rfl, hx8⟩; obtain ⟨c7, f7, l7⟩ := Rg.cells_of ((hx8.block _ (Rg.lt_of_heap H7.out)).trans H7.out))
        have h78 := (hx8.block _ (Rg.lt_of_heap H7.out)).trans H7.out
        have hx9 : Ext w ((w8.setCell ⟨p7, 1, none⟩ (.int .i64 how)).setCell ⟨p7, 2, none⟩ (.int .i64 2)) := (Ext.setCell (Ext.setCell (HX1.out.trans (HX2.out.trans hx8)) HP7W.out _) HP7W.out _)
        have h79 : (((w8.setCell ⟨p7, 1, none⟩ (.int .i64 how)).setCell ⟨p7, 2, none⟩ (.int .i64 2))).heap[p7]? = some (.cells #[.string op, .int .i64 how, .int .i64 2, .string nm, (.slice A ts.length cp)] 29) := (heap_setCell_same _ p7 2 _ 29 _ (heap_setCell_same w8 p7 1 _ 29 _ h78))
        have hk9 : ∀ b, b ≠ p7 → (((w8.setCell ⟨p7, 1, none⟩ (.int .i64 how)).setCell ⟨p7, 2, none⟩ (.int .i64 2))).heap[b]? = w8.heap[b]? := fun b hb => ((heap_setCell_other _ _ _ _ hb).trans (heap_setCell_other _ _ _ _ hb))
        have HF8 := Lib.hid (HF.out.ext hx8)
        have h69 := (hk9 p6 (by have := HB7.out; omega)).trans ((hx8.block _ (Rg.lt_of_heap H62.out)).trans H62.out)
        have HK9 := Lib.hid hk9
        clear h78 c7 f7 l7 hk9 hx8
        try change Code.wp _ _ _ _ ((w8.setCell ⟨p7, 1, none⟩ (.int .i64 how)).setCell ⟨p7, 2, none⟩ (.int .i64 2))
        generalize ((w8.setCell ⟨p7, 1, none⟩ (.int .i64 how)).setCell ⟨p7, 2, none⟩ (.int .i64 2)) = W9 at *
        have HFIN := Lib.hid (bend_fin (o := op) (m := nm) (x := how) (y := 2) (P := (Ex.mk op (n1, n2) nm ts).parts + 1) hx9 HP6.out HB7.out.2 (HF8.out.other HOWN.out (fun b hb => hb.2.2) HK9.out) HOWN.out HS.out ⟨HHO.out.1, HHO.out.2, by show (-9223372036854775808 : Int) ≤ 2; decide, by show (2 : Int) ≤ 9223372036854775807; decide⟩ HLEN.out (by rw [Ex.parts]; omega))
        clear hx9
        skip
        obtain ⟨c6, f6, l6⟩ := Rg.cells_of h69
        obtain ⟨c7, f7, l7⟩ := Rg.cells_of h79
        clear h69 h79 f7
        have e0 := c7 0
        have e1 := c7 1
        have e2 := c7 2
        have e3 := c7 3
        have e4 := c7 4
        simp only [List.getElem?_toArray, List.getElem?_cons_succ, List.getElem?_cons_zero] at e0 e1 e2 e3 e4
        clear c7
        go_wp2_with (fail)
        exact bodyPost_ret (v := .agg #[.string op, .int .i64 how, .int .i64 2, .string nm, (.slice A ts.length cp)]) (by simp [results, Try.results42, go_sem, c6, l6]) rfl ⟨_, rfl, HFIN.out⟩
      · have HTL : Hid (ts.length < 1000000) := Lib.hid (by have := partsL_len ts; have := HP.out; omega)
        have HSB : Hid (∀ W, Ext W2 W → ∀ b, W.heap.size ≤ b → S b ∧ b ≠ p6 ∧ b ≠ p7) := Lib.hid fun W hW b hb => by
          have h1 := HX1.out.size
          have h2 := HX2.out.size
          have h3 := hW.size
          have h4 := HB7.out
          have h5 := Rg.lt_of_heap H7.out
          exact ⟨HS.out b (by omega), by omega, by omega⟩
        go_upto_region 30 with (first
          | (go_at_call 39; (with_reducible refine (HMO.out _).mono ?_); rintro e w8 ⟨rfl, hx8⟩; obtain ⟨c7, f7, l7⟩ := Rg.cells_of ((hx8.block _ (Rg.lt_of_heap H7.out)).trans H7.out))
          | (at_builtin; refine append_tree_s rfl (.tmp 74) (.tmp 76) rfl (fun b => S b ∧ b ≠ p6 ∧ b ≠ p7) W1.heap.size (.slice A ts.length cp) ts (by rfl) (HF.out.ext (Ext.alloc hx8 _)) (HSB.out _ (Ext.alloc hx8 _)) w8.heap.size (.string nameB, .int .i64 0, .int .i64 0, .string priceB, .slice none 0 0) (nameE priceB) (by rfl) (block_new rfl) (Rd.leaf I2.zero) HTL.out ((HX2.out.trans (Ext.alloc hx8 _)).size) ?_; intro g9 cp9 w9 hF9 hb9 hk9 hat9; have hx89 : Ext W2 (w8.alloc (.cells #[.string nameB, .int .i64 0, .int .i64 0, .string priceB, .slice none 0 0] 29)) := Ext.alloc hx8 _; have h79 := (hk9 p7 (Nat.lt_of_lt_of_le (Rg.lt_of_heap H7.out) hx89.size) HOWN.out).trans ((hx89.block _ (Rg.lt_of_heap H7.out)).trans H7.out); clear c7 f7 l7; obtain ⟨c7, f7, l7⟩ := Rg.cells_of h79))
        have hs7 := Rg.lt_of_heap H7.out
        have hs89 := hx89.size
        simp at hs89
        have hg9 : g9 ≠ p7 := by
          rcases hat9 with h | h
          · intro e; exact HOWN.out (by rw [h, e])
          · simp at h; omega
        have hown9 : (Value.slice (some ⟨g9, 0, none⟩) (ts.length + 1) cp9).ownBlock ≠ some p7 := fun e => hg9 (own_sl.1 e)
        have hp6 := HP6.out
        have hb7 := HB7.out
        have h69 : (w9.setCell ⟨p7, 4, none⟩ (.slice (some ⟨g9, 0, none⟩) (ts.length + 1) cp9)).heap[p6]? = some (.cells zero29 29) := by
          rw [heap_setCell_other _ _ _ _ (by show p6 ≠ p7; omega)]
          have hl62 := Rg.lt_of_heap H62.out
          exact (hk9 p6 (by simp; omega) (fun e => by have := ((HF.out.own p6 e).1); omega)).trans ((hx89.block _ hl62).trans H62.out)
        have h79' : (w9.setCell ⟨p7, 4, none⟩ (.slice (some ⟨g9, 0, none⟩) (ts.length + 1) cp9)).heap[p7]? = some (.cells #[.string op, .int .i64 n1, .int .i64 n2, .string nm, .slice (some ⟨g9, 0, none⟩) (ts.length + 1) cp9] 29) := heap_setCell_same w9 p7 4 _ 29 _ h79
        have hx9 : Ext w (w9.setCell ⟨p7, 4, none⟩ (.slice (some ⟨g9, 0, none⟩) (ts.length + 1) cp9)) := by
          have hw1 := HX1.out.size
          exact Ext.setCell (Below.trans (HX1.out.trans (HX2.out.trans hx89)) (hb9.mono hw1)) HP7W.out _
        have hF99 := hF9.other hown9 (fun b hb => hb.2.2) (fun b hb => heap_setCell_other w9 ⟨p7, 4, none⟩ b (.slice (some ⟨g9, 0, none⟩) (ts.length + 1) cp9) hb)
        clear h79
        have h79 := h79'
        clear h79' c7 f7 l7
        try change Code.wp _ _ _ _ (w9.setCell ⟨p7, 4, none⟩ (.slice (some ⟨g9, 0, none⟩) (ts.length + 1) cp9))
        generalize w9.setCell ⟨p7, 4, none⟩ (.slice (some ⟨g9, 0, none⟩) (ts.length + 1) cp9) = W9 at *
        have HFIN := Lib.hid (bend_fin (o := op) (m := nm) (x := n1) (y := n2) (P := (Ex.mk op (n1, n2) nm ts).parts + 1) hx9 hp6 hb7.2 hF99 hown9 HS.out HI.out (by have := HTL.out; rw [List.length_append]; simp; omega) (by rw [Ex.parts, partsL_app', Ex.partsL, Ex.partsL]; unfold nameE leaf; rw [Ex.parts, Ex.partsL]; omega))
        clear hs7 hs89 hg9 hown9 hp6 hb7 hx9 hF99 hF9 hb9 hk9 hat9 hx89 hx8
        skip
        obtain ⟨c6, f6, l6⟩ := Rg.cells_of h69
        obtain ⟨c7, f7, l7⟩ := Rg.cells_of h79
        clear h69 h79 f7
        have e0 := c7 0
        have e1 := c7 1
        have e2 := c7 2
        have e3 := c7 3
        have e4 := c7 4
        simp only [List.getElem?_toArray, List.getElem?_cons_succ, List.getElem?_cons_zero] at e0 e1 e2 e3 e4
        clear c7
        go_wp2_with (fail)
        exact bodyPost_ret (v := .agg #[.string op, .int .i64 n1, .int .i64 n2, .string nm, (.slice (some ⟨g9, 0, none⟩) (ts.length + 1) cp9)]) (by simp [results, Try.results42, go_sem, c6, l6]) rfl ⟨_, rfl, HFIN.out⟩
      · skip
        go_upto_region 30 with (go_at_call 39; (with_reducible refine (HMO.out _).mono ?_); rintro e w8 ⟨rfl, hx8⟩; obtain ⟨c7, f7, l7⟩ := Rg.cells_of ((hx8.block _ (Rg.lt_of_heap H7.out)).trans H7.out))
        have h78 := (hx8.block _ (Rg.lt_of_heap H7.out)).trans H7.out
        have hx9 : Ext w (w8.setCell ⟨p7, 4, none⟩ (.slice none 0 0)) := (Ext.setCell (HX1.out.trans (HX2.out.trans hx8)) HP7W.out _)
        have h79 : ((w8.setCell ⟨p7, 4, none⟩ (.slice none 0 0))).heap[p7]? = some (.cells #[.string op, .int .i64 n1, .int .i64 n2, .string nm, (.slice none 0 0)] 29) := (heap_setCell_same w8 p7 4 _ 29 _ h78)
        have hk9 : ∀ b, b ≠ p7 → ((w8.setCell ⟨p7, 4, none⟩ (.slice none 0 0))).heap[b]? = w8.heap[b]? := fun b hb => (heap_setCell_other _ _ _ _ hb)
        have HF8 := Lib.hid (HF.out.ext hx8)
        have h69 := (hk9 p6 (by have := HB7.out; omega)).trans ((hx8.block _ (Rg.lt_of_heap H62.out)).trans H62.out)
        have HK9 := Lib.hid hk9
        clear h78 c7 f7 l7 hk9 hx8
        try change Code.wp _ _ _ _ (w8.setCell ⟨p7, 4, none⟩ (.slice none 0 0))
        generalize (w8.setCell ⟨p7, 4, none⟩ (.slice none 0 0)) = W9 at *
        have HFIN := Lib.hid (bend_fin (o := op) (m := nm) (x := n1) (y := n2) (P := (Ex.mk op (n1, n2) nm ts).parts + 1) hx9 HP6.out HB7.out.2 (FS.nil (fun b => S b ∧ b ≠ p6 ∧ b ≠ p7) _ _) (by intro e; cases e) HS.out HI.out (Nat.zero_le _) (by rw [Ex.parts, Ex.partsL]; omega))
        clear hx9
        skip
        obtain ⟨c6, f6, l6⟩ := Rg.cells_of h69
        obtain ⟨c7, f7, l7⟩ := Rg.cells_of h79
        clear h69 h79 f7
        have e0 := c7 0
        have e1 := c7 1
        have e2 := c7 2
        have e3 := c7 3
        have e4 := c7 4
        simp only [List.getElem?_toArray, List.getElem?_cons_succ, List.getElem?_cons_zero] at e0 e1 e2 e3 e4
        clear c7
        go_wp2_with (fail)
        exact bodyPost_ret (v := .agg #[.string op, .int .i64 n1, .int .i64 n2, .string nm, (.slice none 0 0)]) (by simp [results, Try.results42, go_sem, c6, l6]) rfl ⟨_, rfl, HFIN.out⟩
      · skip
        go_upto_region 30 with (go_at_call 39; (with_reducible refine (HMO.out _).mono ?_); rintro e w8 ⟨rfl, hx8⟩; obtain ⟨c7, f7, l7⟩ := Rg.cells_of ((hx8.block _ (Rg.lt_of_heap H7.out)).trans H7.out))
        have h78 := (hx8.block _ (Rg.lt_of_heap H7.out)).trans H7.out
        have hx9 : Ext w (w8.setCell ⟨p7, 0, none⟩ (.string ⟨#[110, 117, 109]⟩)) := (Ext.setCell (HX1.out.trans (HX2.out.trans hx8)) HP7W.out _)
        have h79 : ((w8.setCell ⟨p7, 0, none⟩ (.string ⟨#[110, 117, 109]⟩))).heap[p7]? = some (.cells #[.string ⟨#[110, 117, 109]⟩, .int .i64 n1, .int .i64 n2, .string nm, (.slice A ts.length cp)] 29) := (heap_setCell_same w8 p7 0 _ 29 _ h78)
        have hk9 : ∀ b, b ≠ p7 → ((w8.setCell ⟨p7, 0, none⟩ (.string ⟨#[110, 117, 109]⟩))).heap[b]? = w8.heap[b]? := fun b hb => (heap_setCell_other _ _ _ _ hb)
        have HF8 := Lib.hid (HF.out.ext hx8)
        have h69 := (hk9 p6 (by have := HB7.out; omega)).trans ((hx8.block _ (Rg.lt_of_heap H62.out)).trans H62.out)
        have HK9 := Lib.hid hk9
        clear h78 c7 f7 l7 hk9 hx8
        try change Code.wp _ _ _ _ (w8.setCell ⟨p7, 0, none⟩ (.string ⟨#[110, 117, 109]⟩))
        generalize (w8.setCell ⟨p7, 0, none⟩ (.string ⟨#[110, 117, 109]⟩)) = W9 at *
        have HFIN := Lib.hid (bend_fin (o := ⟨#[110, 117, 109]⟩) (m := nm) (x := n1) (y := n2) (P := (Ex.mk op (n1, n2) nm ts).parts + 1) hx9 HP6.out HB7.out.2 (HF8.out.other HOWN.out (fun b hb => hb.2.2) HK9.out) HOWN.out HS.out HI.out HLEN.out (by rw [Ex.parts]; omega))
        clear hx9
        skip
        obtain ⟨c6, f6, l6⟩ := Rg.cells_of h69
        obtain ⟨c7, f7, l7⟩ := Rg.cells_of h79
        clear h69 h79 f7
        have e0 := c7 0
        have e1 := c7 1
        have e2 := c7 2
        have e3 := c7 3
        have e4 := c7 4
        simp only [List.getElem?_toArray, List.getElem?_cons_succ, List.getElem?_cons_zero] at e0 e1 e2 e3 e4
        clear c7
        go_wp2_with (fail)
        exact bodyPost_ret (v := .agg #[.string ⟨#[110, 117, 109]⟩, .int .i64 n1, .int .i64 n2, .string nm, (.slice A ts.length cp)]) (by simp [results, Try.results42, go_sem, c6, l6]) rfl ⟨_, rfl, HFIN.out⟩
      · skip
        go_upto_region 30 with (go_at_call 39; (with_reducible refine (HMO.out _).mono ?_); rintro e w8 ⟨rfl, hx8⟩; obtain ⟨c7, f7, l7⟩ := Rg.cells_of ((hx8.block _ (Rg.lt_of_heap H7.out)).trans H7.out))
        have h78 := (hx8.block _ (Rg.lt_of_heap H7.out)).trans H7.out
        have hx9 : Ext w ((w8.setCell ⟨p7, 1, none⟩ (.int .i64 how)).setCell ⟨p7, 2, none⟩ (.int .i64 1)) := (Ext.setCell (Ext.setCell (HX1.out.trans (HX2.out.trans hx8)) HP7W.out _) HP7W.out _)
        have h79 : (((w8.setCell ⟨p7, 1, none⟩ (.int .i64 how)).setCell ⟨p7, 2, none⟩ (.int .i64 1))).heap[p7]? = some (.cells #[.string op, .int .i64 how, .int .i64 1, .string nm, (.slice A ts.length cp)] 29) := (heap_setCell_same _ p7 2 _ 29 _ (heap_setCell_same w8 p7 1 _ 29 _ h78))
        have hk9 : ∀ b, b ≠ p7 → (((w8.setCell ⟨p7, 1, none⟩ (.int .i64 how)).setCell ⟨p7, 2, none⟩ (.int .i64 1))).heap[b]? = w8.heap[b]? := fun b hb => ((heap_setCell_other _ _ _ _ hb).trans (heap_setCell_other _ _ _ _ hb))
        have HF8 := Lib.hid (HF.out.ext hx8)
        have h69 := (hk9 p6 (by have := HB7.out; omega)).trans ((hx8.block _ (Rg.lt_of_heap H62.out)).trans H62.out)
        have HK9 := Lib.hid hk9
        clear h78 c7 f7 l7 hk9 hx8
        try change Code.wp _ _ _ _ ((w8.setCell ⟨p7, 1, none⟩ (.int .i64 how)).setCell ⟨p7, 2, none⟩ (.int .i64 1))
        generalize ((w8.setCell ⟨p7, 1, none⟩ (.int .i64 how)).setCell ⟨p7, 2, none⟩ (.int .i64 1)) = W9 at *
        have HFIN := Lib.hid (bend_fin (o := op) (m := nm) (x := how) (y := 1) (P := (Ex.mk op (n1, n2) nm ts).parts + 1) hx9 HP6.out HB7.out.2 (HF8.out.other HOWN.out (fun b hb => hb.2.2) HK9.out) HOWN.out HS.out ⟨HHO.out.1, HHO.out.2, by show (-9223372036854775808 : Int) ≤ 1; decide, by show (1 : Int) ≤ 9223372036854775807; decide⟩ HLEN.out (by rw [Ex.parts]; omega))
        clear hx9
        skip
        obtain ⟨c6, f6, l6⟩ := Rg.cells_of h69
        obtain ⟨c7, f7, l7⟩ := Rg.cells_of h79
        clear h69 h79 f7
        have e0 := c7 0
        have e1 := c7 1
        have e2 := c7 2
        have e3 := c7 3
        have e4 := c7 4
        simp only [List.getElem?_toArray, List.getElem?_cons_succ, List.getElem?_cons_zero] at e0 e1 e2 e3 e4
        clear c7
        go_wp2_with (fail)
        exact bodyPost_ret (v := .agg #[.string op, .int .i64 how, .int .i64 1, .string nm, (.slice A ts.length cp)]) (by simp [results, Try.results42, go_sem, c6, l6]) rfl ⟨_, rfl, HFIN.out⟩
      · skip
        go_upto_region 30 with (go_at_call 39; (with_reducible refine (HMO.out _).mono ?_); rintro e w8 ⟨rfl, hx8⟩; obtain ⟨c7, f7, l7⟩ := Rg.cells_of ((hx8.block _ (Rg.lt_of_heap H7.out)).trans H7.out))
        have h78 := (hx8.block _ (Rg.lt_of_heap H7.out)).trans H7.out
        have hx9 : Ext w (w8.setCell ⟨p7, 0, none⟩ (.string ⟨#[47]⟩)) := (Ext.setCell (HX1.out.trans (HX2.out.trans hx8)) HP7W.out _)
        have h79 : ((w8.setCell ⟨p7, 0, none⟩ (.string ⟨#[47]⟩))).heap[p7]? = some (.cells #[.string ⟨#[47]⟩, .int .i64 n1, .int .i64 n2, .string nm, (.slice A ts.length cp)] 29) := (heap_setCell_same w8 p7 0 _ 29 _ h78)
        have hk9 : ∀ b, b ≠ p7 → ((w8.setCell ⟨p7, 0, none⟩ (.string ⟨#[47]⟩))).heap[b]? = w8.heap[b]? := fun b hb => (heap_setCell_other _ _ _ _ hb)
        have HF8 := Lib.hid (HF.out.ext hx8)
        have h69 := (hk9 p6 (by have := HB7.out; omega)).trans ((hx8.block _ (Rg.lt_of_heap H62.out)).trans H62.out)
        have HK9 := Lib.hid hk9
        clear h78 c7 f7 l7 hk9 hx8
        try change Code.wp _ _ _ _ (w8.setCell ⟨p7, 0, none⟩ (.string ⟨#[47]⟩))
        generalize (w8.setCell ⟨p7, 0, none⟩ (.string ⟨#[47]⟩)) = W9 at *
        have HFIN := Lib.hid (bend_fin (o := ⟨#[47]⟩) (m := nm) (x := n1) (y := n2) (P := (Ex.mk op (n1, n2) nm ts).parts + 1) hx9 HP6.out HB7.out.2 (HF8.out.other HOWN.out (fun b hb => hb.2.2) HK9.out) HOWN.out HS.out HI.out HLEN.out (by rw [Ex.parts]; omega))
        clear hx9
        skip
        obtain ⟨c6, f6, l6⟩ := Rg.cells_of h69
        obtain ⟨c7, f7, l7⟩ := Rg.cells_of h79
        clear h69 h79 f7
        have e0 := c7 0
        have e1 := c7 1
        have e2 := c7 2
        have e3 := c7 3
        have e4 := c7 4
        simp only [List.getElem?_toArray, List.getElem?_cons_succ, List.getElem?_cons_zero] at e0 e1 e2 e3 e4
        clear c7
        go_wp2_with (fail)
        exact bodyPost_ret (v := .agg #[.string ⟨#[47]⟩, .int .i64 n1, .int .i64 n2, .string nm, (.slice A ts.length cp)]) (by simp [results, Try.results42, go_sem, c6, l6]) rfl ⟨_, rfl, HFIN.out⟩
end Go.Proofs.Ytgkdeknfmmgbdaa
