/-
  New makes a book of a tender's lots and criteria and of duties. Conditions: what the slices hold.
-/
import Derived.Test.YtnplnfkmcfalhaaGreatDoorGdU
import Derived.Laws.Tables
namespace Go.Proofs.YtnplnfkmcfalhaaGreatDoor
set_option linter.unusedVariables false
set_option linter.unusedSimpArgs false
open Go.RowKit

structure Lt where
  id : Int
  most : Int
def Lt.cs (l : Lt) : List Value := [.int .i64 l.id, .int .i64 l.most]
def Dy.cs (d : Dy) : List Value := [.int .i64 d.ass, .int .i64 d.bid]
def tenC (vl vc : Value) : Array Value := #[.string ⟨#[]⟩, vl, vc, .slice none 0 0, .int .i64 0, .int .i64 0, .string ⟨#[]⟩, .int .i64 0, .int .i64 0, .string ⟨#[]⟩, .slice none 0 0, .slice none 0 0, .int .i64 0, .slice none 0 0, .int .i64 0, .int .i64 0, .int .i64 0, .int .i64 0, .int .i64 0, .int .i64 0]
/-- A new book. -/
def newB (ls : List Lt) (cs : List Cr) (ds : List Dy) : Bk where
  lots := fun i => ls.any fun l => decide (l.id = i)
  crit := fun n => cs.find? fun c => decide (c.kind = 1 ∧ c.name = n)
  dut := fun d => ds.contains d
  gr := fun _ => none
  fin := fun _ => false
  old := []
theorem row_at {α : Type} {cs : α → List Value} {sz : Nat} {w : World} {base : Option Addr} {n c : Nat} {xs : List α} (h : SR cs sz w (.slice base n c) xs) (k : Nat) (hk : k < xs.length) : ∃ b, base = some ⟨b, 0, none⟩ ∧ ∀ j u, (cs xs[k])[j]? = some u → w.cell? ⟨b, k * sz + j, none⟩ = some u := by
  obtain ⟨b, h1, -, h3⟩ := h.block k hk
  exact ⟨b, h1, h3 k hk⟩
/-- A look-up, by the keys' own equality. -/
def lkp {κ : Type} [DecidableEq κ] (m : List (κ × Value)) (k : κ) : Option Value := m.lookup k
theorem lkp_put {κ : Type} [DecidableEq κ] (m : List (κ × Value)) (x : κ) (v : Value) (y : κ) : lkp (putL m x v) y = if y = x then some v else lkp m y := lookup_put m x v y
def LotM (ls : List Lt) (m : List (Int × Value)) : Prop := ∀ k, m.lookup k = boolF (fun i => ls.any fun l => decide (l.id = i)) k
theorem LotM.step {ls : List Lt} {m : List (Int × Value)} (h : LotM ls m) (l : Lt) : LotM (ls ++ [l]) (putL m l.id (.bool true)) := fun k => by
  rw [lookup_put, h k]
  show (if k = l.id then some (Value.bool true) else (if (ls.any fun l => decide (l.id = k)) = true then some (.bool true) else none)) = if ((ls ++ [l]).any fun l => decide (l.id = k)) = true then some (.bool true) else none
  rw [List.any_append]
  by_cases e : k = l.id
  · subst e; simp
  · have : ¬ l.id = k := fun h => e h.symm
    simp [e, this]
def CrM (cs : List Cr) (m : List (ByteArray × Value)) : Prop := ∀ n, lkp m n = (cs.find? fun c => decide (c.kind = 1 ∧ c.name = n)).map Cr.v
theorem CrM.step {cs : List Cr} {m : List (ByteArray × Value)} (h : CrM cs m) (c : Cr) : CrM (cs ++ [c]) (if c.kind = 1 ∧ (lkp m c.name).isNone = true then putL m c.name c.v else m) := fun n => by
  rw [List.find?_append]
  by_cases hk : c.kind = 1
  · by_cases hs : (lkp m c.name).isNone = true
    · rw [if_pos ⟨hk, hs⟩, lkp_put, h n]
      by_cases e : n = c.name
      · subst e
        rw [h c.name] at hs
        simp only [Option.isNone_map, Option.isNone_iff_eq_none] at hs
        rw [hs]
        simp [hk]
      · have : ¬ c.name = n := fun h => e h.symm
        rw [if_neg e]
        simp [this]
    · rw [if_neg (fun h => hs h.2), h n]
      by_cases e : n = c.name
      · subst e
        rw [h c.name] at hs
        simp only [Option.isNone_map, Option.isNone_iff_eq_none] at hs
        cases hf : cs.find? (fun x => decide (x.kind = 1 ∧ x.name = c.name)) with
        | none => exact absurd hf hs
        | some y => rfl
      · have : ¬ c.name = n := fun h => e h.symm
        simp [this]
  · rw [if_neg (fun h => hk h.1), h n]
    simp [hk]
def DyM (ds : List Dy) (m : List (Dy × Value)) : Prop := ∀ k, m.lookup k = boolF (fun d => ds.contains d) k
theorem DyM.step {ds : List Dy} {m : List (Dy × Value)} (h : DyM ds m) (d : Dy) : DyM (ds ++ [d]) (putL m d (.bool true)) := fun k => by
  rw [lookup_put, h k]
  unfold boolF
  by_cases e : k = d
  · subst e; simp
  · simp [e]

theorem putL_len {κ : Type} [DecidableEq κ] (m : List (κ × Value)) (x : κ) (v : Value) : (putL m x v).length ≤ m.length + 1 := by
  unfold putL
  split <;> simp
theorem gro_ext {W w w' : World} {row : Option Nat} (h : W.grownBy w row) (e : Ext w w') : W.grownBy w' row :=
  ⟨e.os.trans h.os, e.tape.trans h.tape, e.output.trans h.output, Nat.le_trans h.size e.size, fun k hk hn => (e.block k (Nat.lt_of_lt_of_le hk h.size)).trans (h.block k hk hn)⟩
theorem gro_base {w W w' : World} {q : Nat} (h : W.grownBy w' (some q)) (e : Ext w W) (hq : w.heap.size ≤ q) : Ext w w' :=
  Below.trans e ⟨h.os, h.tape, h.output, h.size, fun k hk => h.block k (by have := e.size; omega) (by simp; omega)⟩

set_option maxRecDepth 100000 in
set_option maxHeartbeats 4000000 in
theorem New_any (ls : List Lt) (cs : List Cr) (ds : List Dy) (vl vc vd : Value) (w : World) (hl : SR Lt.cs 2 w vl ls) (hc : SR Cr.cs 5 w vc cs) (hd : SR Dy.cs 2 w vd ds)
    (hlo : ∀ l ∈ ls, OkI l.id) (hco : ∀ c ∈ cs, c.ok) (hdo : ∀ d ∈ ds, OkD d) (hdl : ds.length ≤ 1000) :
    Calls Tryz.prog 15 #[.agg (tenC vl vc), vd] w fun e w' => ∃ p F, e = .returned (.pointer (some ⟨p, 0, none⟩)) ∧ BR w' p (newB ls cs ds) F ∧ (∀ k ∈ F, w.heap.size ≤ k) ∧ Ext w w' := by
  obtain ⟨bl, cl, rfl⟩ := hl.form
  obtain ⟨bc, cc, rfl⟩ := hc.form
  obtain ⟨bd, cd, rfl⟩ := hd.form
  have hll := hl.le
  have hcl := hc.le
  have HL := Lib.hid hl; have HC := Lib.hid hc; have HD := Lib.hid hd; have HLO := Lib.hid hlo; have HCO := Lib.hid hco; have HDO := Lib.hid hdo
  clear hl hc hd hlo hco hdo
  have hmm := @run_makeMap Tryz.prog
  unfold tenC
  go_enter Tryz.func15, Tryz.ntmps15
  go_upto_region 3 with (fail)
  obtain ⟨W, hW⟩ : ∃ W, W = ((((w.alloc (.cells (tenC (.slice bl ls.length cl) (.slice bc cs.length cc)) 55)).alloc (.map #[] 0)).alloc (.map #[] 0)).alloc (.map #[] 0)).alloc (.cells #[.map (some (w.heap.size + 1)), .map (some (w.heap.size + 1 + 1)), .map (some (w.heap.size + 1 + 1 + 1)), .map none, .map none, .slice none 0 0] 40) := ⟨_, rfl⟩
  have hx : Ext w W := by rw [hW]; exact Ext.alloc (Ext.alloc (Ext.alloc (Ext.alloc (Ext.alloc (Ext.refl _) _) _) _) _) _
  have ht : W.heap[w.heap.size]? = some (.cells (tenC (.slice bl ls.length cl) (.slice bc cs.length cc)) 55) := by
    rw [hW]
    exact (((Ext.alloc (Ext.alloc (Ext.alloc (Ext.alloc (Ext.refl _) _) _) _) _) : Ext (w.alloc _) _).block _ (by simp)).trans (heap_alloc_new w _)
  have hm1 : MP encI OkI W (w.heap.size + 1) [] := by
    rw [hW]
    have := (MP.made (enc := encI) (good := OkI) (w.alloc (.cells (tenC (.slice bl ls.length cl) (.slice bc cs.length cc)) 55)))
    rw [World.size_alloc] at this
    exact this.ext (Ext.alloc (Ext.alloc (Ext.alloc (Ext.refl _) _) _) _)
  have hm2 : MP encS OkS W (w.heap.size + 1 + 1) [] := by
    rw [hW]
    have := (MP.made (enc := encS) (good := OkS) ((w.alloc (.cells (tenC (.slice bl ls.length cl) (.slice bc cs.length cc)) 55)).alloc (.map #[] 0)))
    rw [World.size_alloc, World.size_alloc] at this
    exact this.ext (Ext.alloc (Ext.alloc (Ext.refl _) _) _)
  have hm3 : MP encD OkD W (w.heap.size + 1 + 1 + 1) [] := by
    rw [hW]
    have := (MP.made (enc := encD) (good := OkD) (((w.alloc (.cells (tenC (.slice bl ls.length cl) (.slice bc cs.length cc)) 55)).alloc (.map #[] 0)).alloc (.map #[] 0)))
    rw [World.size_alloc, World.size_alloc, World.size_alloc] at this
    exact this.ext (Ext.alloc (Ext.refl _) _)
  have hb : W.heap[w.heap.size + 1 + 1 + 1 + 1]? = some (.cells #[.map (some (w.heap.size + 1)), .map (some (w.heap.size + 1 + 1)), .map (some (w.heap.size + 1 + 1 + 1)), .map none, .map none, .slice none 0 0] 40) := by
    rw [hW]
    have := heap_alloc_new ((((w.alloc (.cells (tenC (.slice bl ls.length cl) (.slice bc cs.length cc)) 55)).alloc (.map #[] 0)).alloc (.map #[] 0)).alloc (.map #[] 0)) (.cells #[.map (some (w.heap.size + 1)), .map (some (w.heap.size + 1 + 1)), .map (some (w.heap.size + 1 + 1 + 1)), .map none, .map none, .slice none 0 0] 40)
    rw [World.size_alloc, World.size_alloc, World.size_alloc, World.size_alloc] at this
    exact this
  unfold tenC at hW
  rw [← hW]
  clear hW
  obtain ⟨pl, hpl⟩ : ∃ q, q = w.heap.size + 1 := ⟨_, rfl⟩
  obtain ⟨pc, hpc⟩ : ∃ q, q = w.heap.size + 1 + 1 := ⟨_, rfl⟩
  obtain ⟨pd, hpd⟩ : ∃ q, q = w.heap.size + 1 + 1 + 1 := ⟨_, rfl⟩
  obtain ⟨p, hpp⟩ : ∃ q, q = w.heap.size + 1 + 1 + 1 + 1 := ⟨_, rfl⟩
  rw [← hpp, ← hpd, ← hpc, ← hpl] at hb ⊢
  rw [← hpl] at hm1
  rw [← hpc] at hm2
  rw [← hpd] at hm3
  have HN := Lib.hid (show w.heap.size < pl ∧ pl < pc ∧ pc < pd ∧ pd < p by omega)
  clear hpl hpc hpd hpp
  have HX := Lib.hid hx
  unfold tenC at ht
  have HT := Lib.hid ht; have HM2 := Lib.hid hm2; have HM3 := Lib.hid hm3; have HBP := Lib.hid hb
  clear ht hm2 hm3
  go_loopw [22] (fun k wr => ∃ (i : Nat) (m : List (Int × Value)), k = .int .i64 i ∧ i ≤ ls.length ∧ MP encI OkI wr pl m ∧ Hid (LotM (ls.take i) m) ∧ W.grownBy wr (some pl)) (fun k _ => ls.length - (iof k).toNat)
  case atStart => exact ⟨0, [], rfl, by omega, hm1, Lib.hid (fun k => rfl), ⟨rfl, rfl, rfl, Nat.le_refl _, fun _ _ _ => rfl⟩⟩
  case round =>
    obtain ⟨i, m, rfl, hi, hm, HI, hgr⟩ := hrel
    have hxr : Ext w wr := gro_base hgr hx (by have := HN.out; omega)
    have bp : wr.heap[p]? = _ := (hgr.block p (Rg.lt_of_heap hb) (by have := HN.out; simp; omega)).trans hb
    by_cases hil : i < ls.length
    · obtain ⟨b, rfl, hcell⟩ := row_at (HL.out.ext hxr) i hil
      have c0 := hcell 0 _ rfl
      have c1 := hcell 1 _ rfl
      have htk := List.take_succ_eq_append_getElem hil
      have hid := HLO.out ls[i] (List.getElem_mem _)
      have Htk := Lib.hid htk
      clear hcell htk
      generalize ls[i] = l at *
      obtain ⟨lid, lmost⟩ := l
      simp only [Nat.add_zero] at c0 c1 hid
      go_upto_region 5 with (fail)
      have hxa : Ext wr (wr.alloc (.cells #[.int .i64 lid, .int .i64 lmost] 71)) := Ext.alloc (Ext.refl _) _
      have hq := heap_alloc_new wr (.cells #[.int .i64 lid, .int .i64 lmost] 71)
      have bp5 := (hxa.block p (Rg.lt_of_heap bp)).trans bp
      have hm5 := hm.ext hxa
      have hgr5 := gro_ext hgr hxa
      generalize wr.alloc (.cells #[.int .i64 lid, .int .i64 lmost] 71) = w5 at *
      have d0 := cell_of_row w5 p 0 _ _ _ bp5
      have d1 := cell_of_row w5 wr.heap.size 0 _ _ _ hq
      have l0 := Rg.lt_of_heap bp5
      have l1 := Rg.lt_of_heap hq
      have HID := Lib.hid hid; clear hid
      clear c0 c1 hm hgr bp hxa
      refine Rr.wp_region [(0, .y), (1, .y), (2, .y), (3, .y), (4, .y), (5, .y)] (fun _ => (.cells #[] 23, Rg.ptr)) (by kernel_rfl) (by kernel_rfl) ?_
      (refine Rr.wr_y (by simp only [List.getElem?_toArray, List.getElem?_cons_succ, List.getElem?_cons_zero]; rfl) (by rfl) ?_
       apply Exists.intro
       refine ⟨fun wz hw _ => ?_, ?_⟩
       · have hcz := hw.cells.1
         go_simp
         (with_reducible exact Rg.up_value)
       simp only [Act.put, List.setIfInBounds_toArray, List.set_cons_zero, List.set_cons_succ])
      (refine Rr.wr_y (by simp only [List.getElem?_toArray, List.getElem?_cons_succ, List.getElem?_cons_zero]; rfl) (by rfl) ?_
       apply Exists.intro
       refine ⟨fun wz hw _ => ?_, ?_⟩
       · have hcz := hw.cells.1
         go_simp
         (with_reducible exact Rg.up_value)
       simp only [Act.put, List.setIfInBounds_toArray, List.set_cons_zero, List.set_cons_succ])
      (refine Rr.wr_y (by simp only [List.getElem?_toArray, List.getElem?_cons_succ, List.getElem?_cons_zero]; rfl) (by rfl) ?_
       apply Exists.intro
       refine ⟨fun wz hw _ => ?_, ?_⟩
       · have hcz := hw.cells.1
         go_simp
         (with_reducible exact Rg.up_value)
       simp only [Act.put, List.setIfInBounds_toArray, List.set_cons_zero, List.set_cons_succ])
      (refine Rr.wr_y (by simp only [List.getElem?_toArray, List.getElem?_cons_succ, List.getElem?_cons_zero]; rfl) (by rfl) ?_
       apply Exists.intro
       refine ⟨fun wz hw _ => ?_, ?_⟩
       · have hcz := hw.cells.1
         go_simp
         (with_reducible exact Rg.up_value)
       simp only [Act.put, List.setIfInBounds_toArray, List.set_cons_zero, List.set_cons_succ])
      (refine Rr.wr_y (by simp only [List.getElem?_toArray, List.getElem?_cons_succ, List.getElem?_cons_zero]; rfl) (by rfl) ?_
       apply Exists.intro
       refine ⟨fun wz hw _ => ?_, ?_⟩
       · have hcz := hw.cells.1
         go_simp
         (with_reducible exact Rg.up_value)
       simp only [Act.put, List.setIfInBounds_toArray, List.set_cons_zero, List.set_cons_succ])
      (refine Rr.wr_y (by simp only [List.getElem?_toArray, List.getElem?_cons_succ, List.getElem?_cons_zero]; rfl) (by rfl) ?_
       apply Exists.intro
       refine ⟨fun wz hw _ => ?_, ?_⟩
       · have hcz := hw.cells.1
         go_simp
         (with_reducible exact Rg.up_value)
       simp only [Act.put, List.setIfInBounds_toArray, List.set_cons_zero, List.set_cons_succ])
      refine Rr.wr_nil ?_
      intro wy hy hh
      simp only [List.length_cons, List.length_nil, List.drop_succ_cons, List.drop_zero, Nat.reduceAdd]
      refine wpList_store rfl (.tmp 29) (.tmp 31) (.const (.bool true)) 35 rfl 3 4 keI Tryz.underlying35 pl m (by rfl) (hm5.ext hy) lid (by rfl) HID.out (.bool true) (by rfl) ?_
      intro w6 hm6 hg6
      have hgr6 := World.grownBy.trans (gro_ext hgr5 hy) hg6
      clear hg6 hgr5 hy hh hm5 d0 d1 l0 l1
      go_wp2_with (fail)
      exact ⟨⟨i + 1, _, by simp, by omega, hm6, Lib.hid (by rw [Htk.out]; exact HI.out.step ⟨lid, lmost⟩), hgr6⟩, by simp; omega⟩
    · obtain rfl : i = ls.length := by omega
      rw [List.take_length] at HI
      have ht2 : wr.heap[w.heap.size]? = _ := (hgr.block _ (Rg.lt_of_heap HT.out) (by have := HN.out; simp; omega)).trans HT.out
      have t2 := cell_of_row wr w.heap.size 2 _ _ _ ht2
      have hm2 := HM2.out.kept hgr (by have := HN.out; simp; omega)
      have HM3b := Lib.hid (HM3.out.kept hgr (by have := HN.out; simp; omega))
      have HM1b := Lib.hid hm
      have HXW := Lib.hid hxr
      clear ht2
      go_upto_region 8 with (fail)
      obtain ⟨V, hV⟩ : ∃ V, V = wr := ⟨_, rfl⟩
      clear hm hgr
      subst hV
      have HBP2 := Lib.hid bp
      have HM2b := Lib.hid hm2
      go_loopw [36] (fun k wr => ∃ (i : Nat) (m : List (ByteArray × Value)), k = .int .i64 i ∧ i ≤ cs.length ∧ MP encS OkS wr pc m ∧ Hid (CrM (cs.take i) m) ∧ V.grownBy wr (some pc)) (fun k _ => cs.length - (iof k).toNat)
      case atStart => exact ⟨0, [], rfl, by omega, hm2, Lib.hid (fun k => rfl), ⟨rfl, rfl, rfl, Nat.le_refl _, fun _ _ _ => rfl⟩⟩
      case round =>
        clear hm2
        obtain ⟨i, m, rfl, hi, hm, HI2, hgr⟩ := hrel
        have hxr : Ext w wr := gro_base hgr HXW.out (by have := HN.out; omega)
        have bp : wr.heap[p]? = _ := (hgr.block p (Rg.lt_of_heap HBP2.out) (by have := HN.out; simp; omega)).trans HBP2.out
        by_cases hil : i < cs.length
        · obtain ⟨b, rfl, hcell⟩ := row_at (HC.out.ext hxr) i hil
          have c0 := hcell 0 _ rfl
          have c1 := hcell 1 _ rfl
          have c2 := hcell 2 _ rfl
          have c3 := hcell 3 _ rfl
          have c4 := hcell 4 _ rfl
          have htk := List.take_succ_eq_append_getElem hil
          have hco := HCO.out cs[i] (List.getElem_mem _)
          have Htk := Lib.hid htk
          clear hcell htk
          generalize cs[i] = c at *
          obtain ⟨cn, ck, cl', ch, cb⟩ := c
          simp only [Nat.add_zero] at c0 c1 c2 c3 c4 hco
          go_upto_region 10 with (fail)
          have hxa : Ext wr (wr.alloc (.cells #[.string cn, .int .i64 ck, .int .i64 cl', .int .i64 ch, .bool cb] 73)) := Ext.alloc (Ext.refl _) _
          have hq := heap_alloc_new wr (.cells #[.string cn, .int .i64 ck, .int .i64 cl', .int .i64 ch, .bool cb] 73)
          have bp5 := (hxa.block p (Rg.lt_of_heap bp)).trans bp
          have hm5 := hm.ext hxa
          have hgr5 := gro_ext hgr hxa
          generalize wr.alloc (.cells #[.string cn, .int .i64 ck, .int .i64 cl', .int .i64 ch, .bool cb] 73) = w5 at *
          have d0 := cell_of_row w5 p 1 _ _ _ bp5
          have d1 := cell_of_row w5 wr.heap.size 0 _ _ _ hq
          have l0 := Rg.lt_of_heap bp5
          have l1 := Rg.lt_of_heap hq
          have HOK := Lib.hid hco; clear hco
          clear c0 c1 c2 c3 c4 hm hgr bp hxa
          obtain ⟨qv, hqv⟩ : ∃ qv, qv = wr.heap.size := ⟨_, rfl⟩
          rw [← hqv] at hq d1 l1 ⊢
          clear hqv
          have hL : ∀ wz, Ext w5 wz → (Instr.lookup 36 (.map (some pc)) (.string cn) true).run Tryz.prog wz = .ok (.tuple #[(lkp m cn).getD (.agg #[.string ⟨#[]⟩, .int .i64 0, .int .i64 0, .int .i64 0, .bool false]), .bool (lkp m cn).isSome]) wz := fun wz hz => by
            have := (hm5.ext hz).look keS Tryz.underlying36 (z := .agg #[.string ⟨#[]⟩, .int .i64 0, .int .i64 0, .int .i64 0, .bool false]) (by rfl) HOK.out.1 true
            simpa [lkp] using this
          obtain ⟨o, th, hov, hth, hoc⟩ : ∃ (o : Cr) (th : Bool), (lkp m cn).getD (.agg #[.string ⟨#[]⟩, .int .i64 0, .int .i64 0, .int .i64 0, .bool false]) = o.v ∧ (lkp m cn).isSome = th ∧ (lkp m cn).isNone = !th := by
            have hI := HI2.out cn
            cases hf : (cs.take i).find? (fun c => decide (c.kind = 1 ∧ c.name = cn)) with
            | none => rw [hf] at hI; rw [hI]; exact ⟨⟨⟨#[]⟩, 0, 0, 0, false⟩, false, rfl, rfl, rfl⟩
            | some y => rw [hf] at hI; rw [hI]; exact ⟨y, true, rfl, rfl, rfl⟩
          rw [hov, hth] at hL
          have HOC := Lib.hid hoc
          clear hov hth hoc
          obtain ⟨on, ok, ol, oh, ob⟩ := o
          simp only [Cr.v] at hL
          refine Rr.wp_regionE [9] [(0, .y), (1, .y), (2, .y), (3, .y), (4, .y), (5, .y), (6, .y), (7, .y), (8, .y), (9, .y), (10, .m)] (fun _ => (.cells #[.string ⟨#[]⟩, .int .i64 0, .int .i64 0, .int .i64 0, .bool false] 73, Rg.ptr)) (fun c a d v w h => by have h' : _ ∧ _ := h; exact ⟨(Rr.put_defers a d v).symm.trans h'.1, h'.2⟩) (by kernel_rfl) (by kernel_rfl) ?_
          (refine Rr.wr_y (by simp only [List.getElem?_toArray, List.getElem?_cons_succ, List.getElem?_cons_zero]; rfl) (by rfl) ?_
           apply Exists.intro
           refine ⟨fun wz hw _ => ?_, ?_⟩
           · have hcz := hw.cells.1
             go_simp
             (with_reducible exact Rg.up_value)
           simp only [Act.put, List.setIfInBounds_toArray, List.set_cons_zero, List.set_cons_succ])
          (refine Rr.wr_y (by simp only [List.getElem?_toArray, List.getElem?_cons_succ, List.getElem?_cons_zero]; rfl) (by rfl) ?_
           apply Exists.intro
           refine ⟨fun wz hw _ => ?_, ?_⟩
           · have hcz := hw.cells.1
             go_simp
             (with_reducible exact Rg.up_value)
           simp only [Act.put, List.setIfInBounds_toArray, List.set_cons_zero, List.set_cons_succ])
          (refine Rr.wr_y (by simp only [List.getElem?_toArray, List.getElem?_cons_succ, List.getElem?_cons_zero]; rfl) (by rfl) ?_
           apply Exists.intro
           refine ⟨fun wz hw _ => ?_, ?_⟩
           · have hcz := hw.cells.1
             go_simp
             (with_reducible exact Rg.up_value)
           simp only [Act.put, List.setIfInBounds_toArray, List.set_cons_zero, List.set_cons_succ])
          (refine Rr.wr_y (by simp only [List.getElem?_toArray, List.getElem?_cons_succ, List.getElem?_cons_zero]; rfl) (by rfl) ?_
           apply Exists.intro
           refine ⟨fun wz hw _ => ?_, ?_⟩
           · have hcz := hw.cells.1
             go_simp
             (with_reducible exact Rg.up_value)
           simp only [Act.put, List.setIfInBounds_toArray, List.set_cons_zero, List.set_cons_succ])
          (refine Rr.wr_y (by simp only [List.getElem?_toArray, List.getElem?_cons_succ, List.getElem?_cons_zero]; rfl) (by rfl) ?_
           apply Exists.intro
           refine ⟨fun wz hw _ => ?_, ?_⟩
           · have hcz := hw.cells.1
             go_simp
             (with_reducible exact Rg.up_value)
           simp only [Act.put, List.setIfInBounds_toArray, List.set_cons_zero, List.set_cons_succ])
          (refine Rr.wr_y (by simp only [List.getElem?_toArray, List.getElem?_cons_succ, List.getElem?_cons_zero]; rfl) (by rfl) ?_
           apply Exists.intro
           refine ⟨fun wz hw _ => ?_, ?_⟩
           · have hcz := hw.cells.1
             go_simp
             (with_reducible exact Rg.up_value)
           simp only [Act.put, List.setIfInBounds_toArray, List.set_cons_zero, List.set_cons_succ])
          (refine Rr.wr_y (by simp only [List.getElem?_toArray, List.getElem?_cons_succ, List.getElem?_cons_zero]; rfl) (by rfl) ?_
           apply Exists.intro
           refine ⟨fun wz hw _ => ?_, ?_⟩
           · have hcz := hw.cells.1
             have hl := hL wz hw
             go_simp
             (with_reducible exact Rg.up_value)
           simp only [Act.put, List.setIfInBounds_toArray, List.set_cons_zero, List.set_cons_succ])
          (refine Rr.wr_y (by simp only [List.getElem?_toArray, List.getElem?_cons_succ, List.getElem?_cons_zero]; rfl) (by rfl) ?_
           apply Exists.intro
           refine ⟨fun wz hw _ => ?_, ?_⟩
           · have hcz := hw.cells.1
             go_simp
             (with_reducible exact Rg.up_value)
           simp only [Act.put, List.setIfInBounds_toArray, List.set_cons_zero, List.set_cons_succ])
          (refine Rr.wr_y (by simp only [List.getElem?_toArray, List.getElem?_cons_succ, List.getElem?_cons_zero]; rfl) (by rfl) ?_
           apply Exists.intro
           refine ⟨fun wz hw _ => ?_, ?_⟩
           · have hcz := hw.cells.1
             go_simp
             (with_reducible exact Rg.up_value)
           simp only [Act.put, List.setIfInBounds_toArray, List.set_cons_zero, List.set_cons_succ])
          (refine Rr.wr_y (by simp only [List.getElem?_toArray, List.getElem?_cons_succ, List.getElem?_cons_zero]; rfl) (by rfl) ?_
           apply Exists.intro
           refine ⟨fun wz hw _ => ?_, ?_⟩
           · have hcz := hw.cells.1
             go_simp
             (with_reducible exact Rg.up_value)
           simp only [Act.put, List.setIfInBounds_toArray, List.set_cons_zero, List.set_cons_succ])
          refine Rr.wr_m (by simp only [List.getElem?_toArray, List.getElem?_cons_succ, List.getElem?_cons_zero]; rfl) (by rfl) (fun wz => by go_simp) (fun po hpo => ?_)
          simp only [Act.put, List.setIfInBounds_toArray, List.set_cons_zero, List.set_cons_succ]
          refine Rr.wr_nil ?_
          intro wy hy hh
          obtain ⟨hb1, hb2⟩ := hh _ List.mem_cons_self
          simp only [List.length_cons, List.length_nil, List.drop_succ_cons, List.drop_zero, Nat.reduceAdd]
          refine wpList_store_row (hgd := rfl) 73 (.tmp 10) (.tmp 48) rfl po (by rfl) #[.string on, .int .i64 ok, .int .i64 ol, .int .i64 oh, .bool ob] (by rfl) #[.string ⟨#[]⟩, .int .i64 0, .int .i64 0, .int .i64 0, .bool false] 73 hb2 (by rfl) (by kernel_rfl) (by simp [Value.oneCell']) ?_
          have hx7 : Ext w5 (wy.setRow po #[.string on, .int .i64 ok, .int .i64 ol, .int .i64 oh, .bool ob]) := below_setRow hy hb1 _
          clear hh hb2 hy hL d0 d1 l0 l1
          generalize wy.setRow po #[.string on, .int .i64 ok, .int .i64 ol, .int .i64 oh, .bool ob] = w7 at *
          have bp7 := (hx7.block p (Rg.lt_of_heap bp5)).trans bp5
          have q7 := (hx7.block _ (Rg.lt_of_heap hq)).trans hq
          have hm7 := hm5.ext hx7
          have hgr7 := gro_ext hgr5 hx7
          clear hx7 bp5 hq hm5 hgr5
          have e1 := cell_of_row w7 _ 1 _ _ _ q7
          by_cases hk : ck = 1
          · have HK := Lib.hid hk
            rw [hk] at e1
            clear hk
            cases th
            · have l0 := Rg.lt_of_heap bp7
              have l1 := Rg.lt_of_heap q7
              go_upto_region 12 with (fail)
              clear e1
              have d0 := cell_of_row w7 p 1 _ _ _ bp7
              have d1 := cell_of_row w7 _ 0 _ _ _ q7
              refine Rr.wp_region [(0, .y), (1, .y), (2, .y), (3, .y), (4, .y), (5, .y), (6, .y)] (fun _ => (.cells #[] 23, Rg.ptr)) (by kernel_rfl) (by kernel_rfl) ?_
              (refine Rr.wr_y (by simp only [List.getElem?_toArray, List.getElem?_cons_succ, List.getElem?_cons_zero]; rfl) (by rfl) ?_
               apply Exists.intro
               refine ⟨fun wz hw _ => ?_, ?_⟩
               · have hcz := hw.cells.1
                 go_simp
                 (with_reducible exact Rg.up_value)
               simp only [Act.put, List.setIfInBounds_toArray, List.set_cons_zero, List.set_cons_succ])
              (refine Rr.wr_y (by simp only [List.getElem?_toArray, List.getElem?_cons_succ, List.getElem?_cons_zero]; rfl) (by rfl) ?_
               apply Exists.intro
               refine ⟨fun wz hw _ => ?_, ?_⟩
               · have hcz := hw.cells.1
                 go_simp
                 (with_reducible exact Rg.up_value)
               simp only [Act.put, List.setIfInBounds_toArray, List.set_cons_zero, List.set_cons_succ])
              (refine Rr.wr_y (by simp only [List.getElem?_toArray, List.getElem?_cons_succ, List.getElem?_cons_zero]; rfl) (by rfl) ?_
               apply Exists.intro
               refine ⟨fun wz hw _ => ?_, ?_⟩
               · have hcz := hw.cells.1
                 go_simp
                 (with_reducible exact Rg.up_value)
               simp only [Act.put, List.setIfInBounds_toArray, List.set_cons_zero, List.set_cons_succ])
              (refine Rr.wr_y (by simp only [List.getElem?_toArray, List.getElem?_cons_succ, List.getElem?_cons_zero]; rfl) (by rfl) ?_
               apply Exists.intro
               refine ⟨fun wz hw _ => ?_, ?_⟩
               · have hcz := hw.cells.1
                 go_simp
                 (with_reducible exact Rg.up_value)
               simp only [Act.put, List.setIfInBounds_toArray, List.set_cons_zero, List.set_cons_succ])
              (refine Rr.wr_y (by simp only [List.getElem?_toArray, List.getElem?_cons_succ, List.getElem?_cons_zero]; rfl) (by rfl) ?_
               apply Exists.intro
               refine ⟨fun wz hw _ => ?_, ?_⟩
               · have hcz := hw.cells.1
                 go_simp
                 (with_reducible exact Rg.up_value)
               simp only [Act.put, List.setIfInBounds_toArray, List.set_cons_zero, List.set_cons_succ])
              (refine Rr.wr_y (by simp only [List.getElem?_toArray, List.getElem?_cons_succ, List.getElem?_cons_zero]; rfl) (by rfl) ?_
               apply Exists.intro
               refine ⟨fun wz hw _ => ?_, ?_⟩
               · have hcz := hw.cells.1
                 go_simp
                 (with_reducible exact Rg.up_value)
               simp only [Act.put, List.setIfInBounds_toArray, List.set_cons_zero, List.set_cons_succ])
              (refine Rr.wr_y (by simp only [List.getElem?_toArray, List.getElem?_cons_succ, List.getElem?_cons_zero]; rfl) (by rfl) ?_
               apply Exists.intro
               refine ⟨fun wz hw _ => ?_, ?_⟩
               · have hcz := hw.cells.1
                 exact up_row (by rfl) ((hw.block _ (Rg.lt_of_heap q7)).trans q7) Tryz.underlying73 (by kernel_rfl)
               simp only [Act.put, List.setIfInBounds_toArray, List.set_cons_zero, List.set_cons_succ])
              refine Rr.wr_nil ?_
              intro wy hy hh
              simp only [List.length_cons, List.length_nil, List.drop_succ_cons, List.drop_zero, Nat.reduceAdd]
              refine wpList_store rfl (.tmp 60) (.tmp 62) (.tmp 63) 36 rfl 9 73 keS Tryz.underlying36 pc m (by rfl) (hm7.ext hy) cn (by rfl) HOK.out.1 (.agg #[.string cn, .int .i64 ck, .int .i64 cl', .int .i64 ch, .bool cb]) (by rfl) ?_
              intro w6 hm6 hg6
              have hgr6 := World.grownBy.trans (gro_ext hgr7 hy) hg6
              clear hg6 hgr7 hy hh hm7 d0 d1 l0 l1
              go_wp2_with (fail)
              exact ⟨⟨i + 1, _, by simp, by omega, hm6, Lib.hid (by
                have := HI2.out.step ⟨cn, ck, cl', ch, cb⟩
                rw [if_pos ⟨HK.out, by rw [HOC.out]; rfl⟩] at this
                rw [Htk.out]
                exact this), hgr6⟩, by simp; omega⟩
            · go_wp2_with (fail)
              exact ⟨⟨i + 1, m, by simp, by omega, hm7, Lib.hid (by
                have := HI2.out.step ⟨cn, ck, cl', ch, cb⟩
                rw [if_neg (fun h => by have h2 := h.2; rw [HOC.out] at h2; cases h2)] at this
                rw [Htk.out]
                exact this), hgr7⟩, by simp; omega⟩
          · have HK := Lib.hid hk
            go_wp2_with (fail)
            exact ⟨⟨i + 1, m, by simp, by omega, hm7, Lib.hid (by
              have := HI2.out.step ⟨cn, ck, cl', ch, cb⟩
              rw [if_neg (fun h => HK.out h.1)] at this
              rw [Htk.out]
              exact this), hgr7⟩, by simp; omega⟩
        · obtain rfl : i = cs.length := by omega
          rw [List.take_length] at HI2
          have hm3 := HM3b.out.kept hgr (by have := HN.out; simp; omega)
          have HM1c := Lib.hid (HM1b.out.kept hgr (by have := HN.out; simp; omega))
          have HM2c := Lib.hid hm
          have HXV := Lib.hid hxr
          have HBP3 := Lib.hid bp
          go_upto_region 15 with (fail)
          obtain ⟨U, hU⟩ : ∃ U, U = wr := ⟨_, rfl⟩
          clear hm hgr
          subst hU
          go_loopw [67] (fun k wr => ∃ (i : Nat) (m : List (Dy × Value)), k = .int .i64 i ∧ i ≤ ds.length ∧ MP encD OkD wr pd m ∧ Hid (DyM (ds.take i) m) ∧ m.length ≤ i ∧ U.grownBy wr (some pd)) (fun k _ => ds.length - (iof k).toNat)
          case atStart => exact ⟨0, [], rfl, by omega, hm3, Lib.hid (fun k => rfl), by simp, ⟨rfl, rfl, rfl, Nat.le_refl _, fun _ _ _ => rfl⟩⟩
          case round =>
            clear hm3
            obtain ⟨i, m, rfl, hi, hm, HI3, hml, hgr⟩ := hrel
            have hxr : Ext w wr := gro_base hgr HXV.out (by have := HN.out; omega)
            have bp : wr.heap[p]? = _ := (hgr.block p (Rg.lt_of_heap HBP3.out) (by have := HN.out; simp; omega)).trans HBP3.out
            by_cases hil : i < ds.length
            · obtain ⟨b, rfl, hcell⟩ := row_at (HD.out.ext hxr) i hil
              have c0 := hcell 0 _ rfl
              have c1 := hcell 1 _ rfl
              have htk := List.take_succ_eq_append_getElem hil
              have hid := HDO.out ds[i] (List.getElem_mem _)
              have Htk := Lib.hid htk
              clear hcell htk
              generalize ds[i] = d at *
              obtain ⟨da, db⟩ := d
              simp only [Nat.add_zero] at c0 c1
              go_upto_region 17 with (fail)
              have hxa : Ext wr (wr.alloc (.cells #[.int .i64 da, .int .i64 db] 57)) := Ext.alloc (Ext.refl _) _
              have hq := heap_alloc_new wr (.cells #[.int .i64 da, .int .i64 db] 57)
              have bp5 := (hxa.block p (Rg.lt_of_heap bp)).trans bp
              have hm5 := hm.ext hxa
              have hgr5 := gro_ext hgr hxa
              generalize wr.alloc (.cells #[.int .i64 da, .int .i64 db] 57) = w5 at *
              have d0 := cell_of_row w5 p 2 _ _ _ bp5
              have l0 := Rg.lt_of_heap bp5
              have HID := Lib.hid hid; clear hid
              clear c0 c1 hm hgr bp hxa
              refine Rr.wp_region [(0, .y), (1, .y), (2, .y), (3, .y), (4, .y)] (fun _ => (.cells #[] 23, Rg.ptr)) (by kernel_rfl) (by kernel_rfl) ?_
              (refine Rr.wr_y (by simp only [List.getElem?_toArray, List.getElem?_cons_succ, List.getElem?_cons_zero]; rfl) (by rfl) ?_
               apply Exists.intro
               refine ⟨fun wz hw _ => ?_, ?_⟩
               · have hcz := hw.cells.1
                 go_simp
                 (with_reducible exact Rg.up_value)
               simp only [Act.put, List.setIfInBounds_toArray, List.set_cons_zero, List.set_cons_succ])
              (refine Rr.wr_y (by simp only [List.getElem?_toArray, List.getElem?_cons_succ, List.getElem?_cons_zero]; rfl) (by rfl) ?_
               apply Exists.intro
               refine ⟨fun wz hw _ => ?_, ?_⟩
               · have hcz := hw.cells.1
                 go_simp
                 (with_reducible exact Rg.up_value)
               simp only [Act.put, List.setIfInBounds_toArray, List.set_cons_zero, List.set_cons_succ])
              (refine Rr.wr_y (by simp only [List.getElem?_toArray, List.getElem?_cons_succ, List.getElem?_cons_zero]; rfl) (by rfl) ?_
               apply Exists.intro
               refine ⟨fun wz hw _ => ?_, ?_⟩
               · have hcz := hw.cells.1
                 go_simp
                 (with_reducible exact Rg.up_value)
               simp only [Act.put, List.setIfInBounds_toArray, List.set_cons_zero, List.set_cons_succ])
              (refine Rr.wr_y (by simp only [List.getElem?_toArray, List.getElem?_cons_succ, List.getElem?_cons_zero]; rfl) (by rfl) ?_
               apply Exists.intro
               refine ⟨fun wz hw _ => ?_, ?_⟩
               · have hcz := hw.cells.1
                 go_simp
                 (with_reducible exact Rg.up_value)
               simp only [Act.put, List.setIfInBounds_toArray, List.set_cons_zero, List.set_cons_succ])
              (refine Rr.wr_y (by simp only [List.getElem?_toArray, List.getElem?_cons_succ, List.getElem?_cons_zero]; rfl) (by rfl) ?_
               apply Exists.intro
               refine ⟨fun wz hw _ => ?_, ?_⟩
               · have hcz := hw.cells.1
                 exact up_row (by rfl) ((hw.block _ (Rg.lt_of_heap hq)).trans hq) Tryz.underlying57 (by kernel_rfl)
               simp only [Act.put, List.setIfInBounds_toArray, List.set_cons_zero, List.set_cons_succ])
              refine Rr.wr_nil ?_
              intro wy hy hh
              simp only [List.length_cons, List.length_nil, List.drop_succ_cons, List.drop_zero, Nat.reduceAdd]
              refine wpList_store rfl (.tmp 74) (.tmp 75) (.const (.bool true)) 37 rfl 57 4 keD Tryz.underlying37 pd m (by rfl) (hm5.ext hy) ⟨da, db⟩ (by rfl) HID.out (.bool true) (by rfl) ?_
              intro w6 hm6 hg6
              have hgr6 := World.grownBy.trans (gro_ext hgr5 hy) hg6
              clear hg6 hgr5 hy hh hm5 d0 l0
              go_wp2_with (fail)
              exact ⟨⟨i + 1, _, by simp, by omega, hm6, Lib.hid (by rw [Htk.out]; exact HI3.out.step ⟨da, db⟩), Nat.le_trans (putL_len _ _ _) (by omega), hgr6⟩, by simp; omega⟩
            · obtain rfl : i = ds.length := by omega
              rw [List.take_length] at HI3
              go_wp2_with (fail)
              go_ret
              have h1 := HM1c.out.kept hgr (by have := HN.out; simp; omega)
              have h2 := HM2c.out.kept hgr (by have := HN.out; simp; omega)
              refine ⟨p, _, rfl, ⟨some pl, some pc, some pd, none, none, .slice none 0 0, bp, rfl, ⟨fun q e => (by cases e), fun q e => (by cases e)⟩, ⟨_, h1, HI.out⟩, ⟨_, h2, HI2.out⟩, ⟨m, hm, HI3.out⟩, fun k => rfl, fun k => rfl, World.ownsRow_nil _ _ _ _, fun n c hc => ?_, fun k g h => (by cases h), by simp [newB], fun b es clock e hb' => ?_⟩, fun k hk => ?_, hxr⟩
              · have hc' : cs.find? (fun c => decide (c.kind = 1 ∧ c.name = n)) = some c := hc
                have h3 := List.find?_some hc'
                simp only [decide_eq_true_eq] at h3
                exact ⟨HCO.out c (List.mem_of_find?_eq_some hc'), h3.2⟩
              · injection e with e
                subst e
                obtain ⟨-, -, es', clock', hb2, hes, -⟩ := hm
                rw [hb'] at hb2
                injection hb2 with hb2
                injection hb2 with hb2 hb3
                subst hb2
                have := congrArg List.length hes
                simp only [List.length_map, Array.length_toList] at this
                omega
              · have hn := HN.out
                rw [mem_blks] at hk
                rcases hk with h | h | h | h | h | h | h
                · omega
                · injection h with h; omega
                · injection h with h; omega
                · injection h with h; omega
                · cases h
                · cases h
                · cases h
end Go.Proofs.YtnplnfkmcfalhaaGreatDoor
