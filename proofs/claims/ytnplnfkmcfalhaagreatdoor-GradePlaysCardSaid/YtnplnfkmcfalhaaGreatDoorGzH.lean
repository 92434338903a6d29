/-
  (*grade.Book).Encode: the text of a book. Conditions: what the book holds, the table of powers of ten, and sizes.
-/
import Derived.Test.YtnplnfkmcfalhaaGreatDoorGzG
import Derived.Test.YtnplnfkmcfalhaaGreatDoorGzN
namespace Go.Proofs.YtnplnfkmcfalhaaGreatDoor
set_option linter.unusedVariables false
set_option linter.unusedSimpArgs false
open Go.RowKit Go.Sort Go.Shelf

theorem nodup_le {α : Type} [DecidableEq α] : ∀ {l m : List α}, l.Nodup → (∀ x ∈ l, x ∈ m) → l.length ≤ m.length
  | [], _, _, _ => Nat.zero_le _
  | x :: l, m, hn, hs => by
    have hx := hs x List.mem_cons_self
    rw [List.nodup_cons] at hn
    have := nodup_le (m := m.erase x) hn.2 (fun y hy => (List.mem_erase_of_ne (fun e => hn.1 (by rw [← e]; exact hy))).2 (hs y (List.mem_cons_of_mem _ hy)))
    rw [List.length_erase_of_mem hx] at this
    have := List.length_pos_of_mem hx
    simp only [List.length_cons]
    omega
theorem MPO.len {κ : Type} [DecidableEq κ] {enc : κ → Value} {good : κ → Prop} {w : World} {o : Option Nat} {m : List (κ × Value)} (h : MPO enc good w o m) (l : List κ) (hl : ∀ p ∈ m, p.1 ∈ l) : m.length ≤ l.length := by
  have := nodup_le h.nodup (m := l) (fun x hx => by
    obtain ⟨p, hp, rfl⟩ := List.mem_map.1 hx
    exact hl p hp)
  simpa using this
theorem MPO.keys {κ : Type} [DecidableEq κ] {enc : κ → Value} {good : κ → Prop} {w : World} {o : Option Nat} {m : List (κ × Value)} (h : MPO enc good w o m) {f : κ → Option Value} (hf : ∀ k, m.lookup k = f k) (k : κ) : k ∈ m.map (·.1) ↔ (f k).isSome := by
  rw [← hf]
  constructor
  · intro hk
    by_cases hn : m.lookup k = none
    · exact absurd hk (lookup_none.1 hn)
    · cases hh : m.lookup k with
      | none => exact absurd hh hn
      | some v => rfl
  · intro hk
    cases hh : m.lookup k with
    | none => rw [hh] at hk; cases hk
    | some v => exact List.mem_map.2 ⟨_, lookup_mem hh, rfl⟩
theorem MPO.gd {κ : Type} {enc : κ → Value} {good : κ → Prop} {w : World} {o : Option Nat} {m : List (κ × Value)} (h : MPO enc good w o m) : ∀ p ∈ m, good p.1 := by
  cases o with
  | none => rw [show m = [] from h]; simp
  | some b => exact MP.gd (show MP enc good w b m from h)
theorem ird_get {w : World} {v : Value} {ls : List Int} (h : IRd w v ls) (i : Nat) (hi : i < ls.length) : ∃ b off cap, v = .slice (some ⟨b, off, none⟩) ls.length cap ∧ w.cell? ⟨b, off + i, none⟩ = some (.int .i64 ls[i]) := by
  obtain ⟨A, cap, h1, h2, h3, h4⟩ := h
  obtain ⟨b, off, hA, hc⟩ := h4.resolve_left (by intro e; rw [e] at hi; simp at hi)
  subst hA
  exact ⟨b, off, cap, h1, hc i hi⟩

set_option maxRecDepth 100000 in
set_option maxHeartbeats 4000000 in
theorem encode_any (p : Nat) (b : Bk) (F : List Nat) (w : World) (hbr : BR w p b F) (ht : TabW w) (ps : List Pl) (hps : ∀ k, (b.gr k).isSome → k ∈ ps) (hpl : ps.length ≤ 100000)
    (fs : List Int) (hfs : ∀ n, b.fin n = true → n ∈ fs) (hfl : fs.length ≤ 100000) (hol : b.old.length ≤ 100000) (hnm : ∀ k g, b.gr k = some g → g.name.size ≤ 1000) (hno : ∀ g ∈ b.old, g.name.size ≤ 1000) :
    Calls Tryz.prog 14 #[.pointer (some ⟨p, 0, none⟩)] w fun e w' => ∃ s, e = .returned (.string s) ∧ EncR b s ∧ Ext w w' := by
  obtain ⟨ml, mc, md, mg, mf, cv, h, -, -, -, -, -, h4, h5, h6, -, hgo, hoo, -⟩ := hbr
  obtain ⟨cb, cc, rfl⟩ := (SR.of_row (cs := Gd.cs) gd_len h6 (by omega)).form
  obtain ⟨m4, hm4, hl4⟩ := h4.mpo
  obtain ⟨m5, hm5, hl5⟩ := h5.mpo
  have hk4 : ∀ k, k ∈ m4.map (·.1) ↔ (b.gr k).isSome := fun k => by rw [hm4.keys hl4 k]; simp
  have hk5 : ∀ n, n ∈ m5.map (·.1) ↔ b.fin n = true := fun n => by
    rw [hm5.keys hl5 n]
    unfold boolF
    cases b.fin n <;> simp
  have hn4 : m4.length ≤ 100000 := Nat.le_trans (hm4.len ps fun q hq => hps _ ((hk4 _).1 (List.mem_map.2 ⟨q, hq, rfl⟩))) hpl
  have hn5 : m5.length ≤ 100000 := Nat.le_trans (hm5.len fs fun q hq => hfs _ ((hk5 _).1 (List.mem_map.2 ⟨q, hq, rfl⟩))) hfl
  have HE : Hid (∀ s, s = (⟨(encL b (srtP (m4.map (·.1))) (srtI (m5.map (·.1)))).toArray⟩ : ByteArray) → EncR b s) := Lib.hid fun s hs => ⟨_, _, hm4.nodup, hk4, hm5.nodup, hk5, hs⟩
  have HKS : Hid (∀ k ∈ srtP (m4.map (·.1)), ∃ g, b.gr k = some g ∧ g.ok ∧ g.name.size ≤ 1000 ∧ OkP k) := Lib.hid fun k hk => by
    have h1 := (hk4 k).1 ((srtP_perm _).mem_iff.1 hk)
    obtain ⟨g, hg⟩ := Option.isSome_iff_exists.1 h1
    refine ⟨g, hg, (hgo k g hg).1, hnm k g hg, ?_⟩
    have := Gd.okP (hgo k g hg).1
    rw [(hgo k g hg).2] at this
    exact this
  have HNS : Hid (∀ n ∈ srtI (m5.map (·.1)), OkI n) := Lib.hid fun n hn => by
    obtain ⟨q, hq, rfl⟩ := List.mem_map.1 (mem_srtI.1 hn)
    exact hm5.gd q hq
  have hkl : (srtP (m4.map (·.1))).length ≤ 100000 := by rw [(srtP_perm _).length_eq]; simpa using hn4
  have hnl : (srtI (m5.map (·.1))).length ≤ 100000 := by rw [srtI_len]; simpa using hn5
  have HO := Lib.hid (fun W (hW : Ext w W) => orderedP mg m4 W (hm4.ext hW) (by omega))
  have HQ := Lib.hid (fun W (hW : Ext w W) => orderedI mf m5 W (hm5.ext hW) (by omega))
  have H4 : Hid (∀ W, Ext w W → ∀ k, OkP k → (Instr.lookup 38 (.map mg) (encP k) false).run Tryz.prog W = .ok (((b.gr k).map Gd.v).getD (.agg #[.int .i64 0, .int .i64 0, .int .i64 0, .string ⟨#[]⟩, .int .i64 0, .int .i64 0])) W) := Lib.hid fun W hW k hk => by
    have := (h4.of_block (fun k hk => hW.block k (h4.lt k hk))).look keP Tryz.underlying38 (z := .agg #[.int .i64 0, .int .i64 0, .int .i64 0, .string ⟨#[]⟩, .int .i64 0, .int .i64 0]) (by rfl) (x := k) hk false
    simpa using this
  have HOO := Lib.hid hoo; have HNO := Lib.hid hno; have HROW := Lib.hid h6; have HP := Lib.hid h; have HT := Lib.hid ht; have HOL := Lib.hid hol; have HKL := Lib.hid hkl; have HNL := Lib.hid hnl
  clear hm4 hm5 hl4 hl5 h4 h5 h6 hk4 hk5 hgo hoo hno hnm hfs hps hpl hfl ht hol
  generalize srtP (m4.map (·.1)) = ks at *
  generalize srtI (m5.map (·.1)) = ns at *
  clear hn4 hn5
  have hbu := BU.new w
  have hx0 : Ext w (w.alloc (.cells #[.pointer none, .slice none 0 0] 99)) := Ext.alloc (Ext.refl _) _
  have c3 := cell_of_row _ p 3 _ _ _ (keep_heap hx0 h)
  have hpl := Rg.lt_of_heap (keep_heap hx0 h)
  clear h
  go_enter Tryz.func14, Tryz.ntmps14
  go_upto_region 5 with (go_at_call 30; (with_reducible refine (HO.out _ (Ext.alloc (Ext.refl w) _)).mono ?_); rintro e w2 ⟨v, rfl, hs, hx2, htg⟩; obtain ⟨vb, vc, rfl⟩ := hs.form)
  have HX2 := Lib.hid (hx0.trans hx2)
  have HB2 := Lib.hid (hbu.ext hx2)
  have HS := Lib.hid hs; have HTG := Lib.hid htg
  clear c3 hpl hx2 hbu hx0 hs htg HO
  obtain ⟨q, hqe⟩ : ∃ q, q = w.heap.size := ⟨_, rfl⟩
  have HQE : Hid (q = w.heap.size) := Lib.hid hqe
  rw [← hqe] at HB2 ⊢
  clear hqe
  go_loopw [18] (fun k wr => ∃ i : Nat, k = .int .i64 i ∧ i ≤ ks.length ∧ KB q w2 wr ∧ BU q ((ks.take i).flatMap fun k => (grS b k).data.toList) wr) (fun k _ => ks.length - (iof k).toNat)
  case atStart => exact ⟨0, rfl, Nat.zero_le _, KB.refl _ _, HB2.out⟩
  case round =>
    obtain ⟨i, rfl, hi, hkb, hbu⟩ := hrel
    have hxw : Ext w wr := by
      have := Below.trans (show Below q w w2 by rw [HQE.out]; exact HX2.out) hkb.below
      rw [HQE.out] at this
      exact this
    have hqlt := hbu.lt
    by_cases hil : i < ks.length
    · obtain ⟨cq, fq, hq9⟩ := HB2.out.at
      obtain ⟨qb, rfl, hcell⟩ := row_at (HS.out.kb HTG.out (by decide) (by decide) hq9 hkb) i hil
      clear hq9
      have c0 := hcell 0 _ rfl
      have c1 := hcell 1 _ rfl
      have c2 := hcell 2 _ rfl
      have c3 := hcell 3 _ rfl
      obtain ⟨g, hgr, hgok, hgn, hkok⟩ := HKS.out _ (List.getElem_mem hil)
      have hlook := H4.out
      have HLN : Hid (∀ W, TabW W → Calls Tryz.prog 33 #[.string ⟨#[103, 114, 97, 100, 101]⟩, g.v] W fun e w' => e = .returned (.string (grS b ks[i])) ∧ Ext W w') := Lib.hid fun W hW => by
        have := line_any gradeW g (by decide) hgok hgn W hW
        unfold grS
        rw [hgr]
        exact this
      have HLK : Hid (∀ W, Ext w W → (Instr.lookup 38 (.map mg) (encP ks[i]) false).run Tryz.prog W = .ok g.v W) := Lib.hid fun W hW => by
        have := hlook W hW _ hkok
        rw [hgr] at this
        exact this
      have HSZ : Hid ((grS b ks[i]).size ≤ 3000) := Lib.hid (by
        unfold grS
        rw [hgr]
        exact lineS_size _ _ (by decide) hgok hgn)
      have HFL : Hid (((ks.take i).flatMap fun k => (grS b k).data.toList).length ≤ 300000000) := Lib.hid (by
        have := flat_le (grS b) (ks.take i) (fun k hk => by
          obtain ⟨g', hg', hok', hn', -⟩ := HKS.out k (List.mem_of_mem_take hk)
          unfold grS
          rw [hg']
          exact lineS_size _ _ (by decide) hok' hn')
        have h2 : (ks.take i).length ≤ 100000 := by rw [List.length_take]; have := HKL.out; omega
        omega)
      have HTK : Hid (((ks.take i).flatMap fun k => (grS b k).data.toList) ++ (grS b ks[i]).data.toList = (ks.take (i + 1)).flatMap fun k => (grS b k).data.toList) := Lib.hid (flat_take (grS b) ks i hil)
      clear hcell hlook hgr hgok hgn hkok
      generalize ((ks.take i).flatMap fun k => (grS b k).data.toList) = tx at *
      generalize grS b ks[i] = ln at *
      generalize ks[i] = kk at *
      obtain ⟨kb, kl, kn, ka⟩ := kk
      obtain ⟨ga, gb, gl, gn, gN, gt⟩ := g
      simp only [Nat.add_zero] at c0 c1 c2 c3
      simp only [Gd.v, encP] at HLN HLK
      go_upto_region 7 with (fail)
      have hxa : Ext wr (wr.alloc (.cells #[.int .i64 kb, .int .i64 kl, .string kn, .int .i64 ka] 91)) := Ext.alloc (Ext.refl _) _
      have hq := heap_alloc_new wr (.cells #[.int .i64 kb, .int .i64 kl, .string kn, .int .i64 ka] 91)
      obtain ⟨qv, hqv⟩ : ∃ qv, qv = wr.heap.size := ⟨_, rfl⟩
      rw [← hqv] at hq ⊢
      have HK6 := Lib.hid (hkb.trans (KB.of_ext hxa (Nat.le_of_lt hqlt)))
      have HB6 := Lib.hid (hbu.ext hxa)
      have HX6 := Lib.hid (hxw.trans hxa)
      clear c0 c1 c2 c3 hkb hbu hxw hxa hqv hqlt
      generalize wr.alloc (.cells #[.int .i64 kb, .int .i64 kl, .string kn, .int .i64 ka] 91) = w6 at *
      have hp3 := cell_of_row _ p 3 _ _ _ (keep_heap HX6.out HP.out)
      have hpl := Rg.lt_of_heap (keep_heap HX6.out HP.out)
      have HT6 := Lib.hid (TabW.ext HT.out HX6.out)
      have hL4 : ∀ wz, Ext w6 wz → (Instr.lookup 38 (.map mg) (.agg #[.int .i64 kb, .int .i64 kl, .string kn, .int .i64 ka]) false).run Tryz.prog wz = .ok (.agg #[.int .i64 ga, .int .i64 gb, .int .i64 gl, .string gn, .int .i64 gN, .int .i64 gt]) wz := fun wz hz => HLK.out wz (HX6.out.trans hz)
      refine Rr.wp_region [(0, .y), (1, .y), (2, .y), (3, .y), (4, .y), (5, .y), (6, .y)] (fun _ => (.cells #[] 23, Rg.ptr)) (by kernel_rfl) (by kernel_rfl) ?_
      (refine Rr.wr_y (by simp only [List.getElem?_toArray, List.getElem?_cons_succ, List.getElem?_cons_zero]; rfl) (by rfl) ?_
       apply Exists.intro
       refine ⟨fun wz hw _ => ?_, ?_⟩
       · have hcz := hw.cells.1
         go_simp
         (with_reducible exact Rg.up_value)
       simp only [Act.put, List.setIfInBounds_toArray, List.set_cons_zero, List.set_cons_succ])
      (refine Rr.wr_y (by simp only [List.getElem?_toArray, List.getElem?_cons_succ, List.getElem?_cons_zero]; rfl) (by rfl) ?_
       apply Exists.intro
       refine ⟨fun wz hw _ => ?_, ?_⟩
       · have hcz := hw.cells.1
         go_simp
         (with_reducible exact Rg.up_value)
       simp only [Act.put, List.setIfInBounds_toArray, List.set_cons_zero, List.set_cons_succ])
      (refine Rr.wr_y (by simp only [List.getElem?_toArray, List.getElem?_cons_succ, List.getElem?_cons_zero]; rfl) (by rfl) ?_
       apply Exists.intro
       refine ⟨fun wz hw _ => ?_, ?_⟩
       · have hcz := hw.cells.1
         go_simp
         (with_reducible exact Rg.up_value)
       simp only [Act.put, List.setIfInBounds_toArray, List.set_cons_zero, List.set_cons_succ])
      (refine Rr.wr_y (by simp only [List.getElem?_toArray, List.getElem?_cons_succ, List.getElem?_cons_zero]; rfl) (by rfl) ?_
       apply Exists.intro
       refine ⟨fun wz hw _ => ?_, ?_⟩
       · have hcz := hw.cells.1
         go_simp
         (with_reducible exact Rg.up_value)
       simp only [Act.put, List.setIfInBounds_toArray, List.set_cons_zero, List.set_cons_succ])
      (refine Rr.wr_y (by simp only [List.getElem?_toArray, List.getElem?_cons_succ, List.getElem?_cons_zero]; rfl) (by rfl) ?_
       apply Exists.intro
       refine ⟨fun wz hw _ => ?_, ?_⟩
       · have hcz := hw.cells.1
         exact up_row (by rfl) ((hw.block _ (Rg.lt_of_heap hq)).trans hq) Tryz.underlying91 (by kernel_rfl)
       simp only [Act.put, List.setIfInBounds_toArray, List.set_cons_zero, List.set_cons_succ])
      (refine Rr.wr_y (by simp only [List.getElem?_toArray, List.getElem?_cons_succ, List.getElem?_cons_zero]; rfl) (by rfl) ?_
       apply Exists.intro
       refine ⟨fun wz hw _ => ?_, ?_⟩
       · have hcz := hw.cells.1
         have hl := hL4 wz hw
         go_simp
         (with_reducible exact Rg.up_value)
       simp only [Act.put, List.setIfInBounds_toArray, List.set_cons_zero, List.set_cons_succ])
      (refine Rr.wr_y (by simp only [List.getElem?_toArray, List.getElem?_cons_succ, List.getElem?_cons_zero]; rfl) (by rfl) ?_
       apply Exists.intro
       refine ⟨fun wz hw _ => ?_, ?_⟩
       · have hcz := hw.cells.1
         go_simp
         apply Rg.up_enter
         (with_reducible refine (HLN.out _ (TabW.ext HT6.out hw)).mono ?_)
         rintro e w3 ⟨rfl, hb3⟩
         exact ⟨rfl, hb3⟩
       simp only [Act.put, List.setIfInBounds_toArray, List.set_cons_zero, List.set_cons_succ])
      refine Rr.wr_nil ?_
      intro wy hy hh
      clear hh
      have HWS := Lib.hid (ws_any ln (HB6.out.ext hy) (by have := HSZ.out; have := HFL.out; omega))
      have HKY := Lib.hid (HK6.out.trans (KB.of_ext hy (Nat.le_of_lt HB6.out.lt)))
      clear hp3 hpl hL4 hq hy
      simp only [List.length_cons, List.length_nil, List.drop_succ_cons, List.drop_zero, Nat.reduceAdd]
      go_wp2_with (go_at_call 32; (with_reducible refine HWS.out.mono ?_); rintro e w7 ⟨rfl, hb7, hk7⟩)
      exact ⟨⟨i + 1, by simp, by omega, HKY.out.trans hk7, by rw [← HTK.out]; exact hb7⟩, by simp [iof]; omega⟩
    · obtain rfl : i = ks.length := by omega
      rw [List.take_length] at hbu
      have HFL : Hid ((ks.flatMap fun k => (grS b k).data.toList).length ≤ 300000000) := Lib.hid (by
        have := flat_le (grS b) ks (fun k hk => by
          obtain ⟨g', hg', hok', hn', -⟩ := HKS.out k hk
          unfold grS
          rw [hg']
          exact lineS_size _ _ (by decide) hok' hn')
        have := HKL.out; omega)
      have HE1 : Hid (∀ s, s = (⟨((ks.flatMap fun k => (grS b k).data.toList) ++ (ns.flatMap fun n => (finS n).data.toList) ++ (b.old.flatMap fun g => (oldS g).data.toList)).toArray⟩ : ByteArray) → EncR b s) := HE
      clear HE hi hil hkl
      have HKN : Hid (ks.length ≤ 100000) := HKL
      clear HKS HS HTG HKL
      generalize (ks.flatMap fun k => (grS b k).data.toList) = t1 at *
      have c4 := cell_of_row _ p 4 _ _ _ (keep_heap hxw HP.out)
      have hpl := Rg.lt_of_heap (keep_heap hxw HP.out)
      have HQ1 := Lib.hid (HQ.out wr hxw)
      clear hkb
      go_upto_region 10 with (go_at_call 34; (with_reducible refine HQ1.out.mono ?_); rintro e w3 ⟨v, rfl, hs, hx3, htg⟩; obtain ⟨vb', vc', rfl, hnl1⟩ := id hs)
      have HX3 := Lib.hid (hxw.trans hx3)
      have HB3 := Lib.hid (hbu.ext hx3)
      have HS := Lib.hid hs; have HTG := Lib.hid htg
      clear c4 hpl hx3 hbu hs htg HQ1 HQ hnl1 hxw HB2 HX2 hqlt
      go_loopw [37] (fun k wr => ∃ i : Nat, k = .int .i64 i ∧ i ≤ ns.length ∧ KB q w3 wr ∧ BU q (t1 ++ (ns.take i).flatMap fun n => (finS n).data.toList) wr) (fun k _ => ns.length - (iof k).toNat)
      case atStart => exact ⟨0, rfl, Nat.zero_le _, KB.refl _ _, by rw [List.take_zero, List.flatMap_nil, List.append_nil]; exact HB3.out⟩
      case round =>
        obtain ⟨i, rfl, hi, hkb, hbu⟩ := hrel
        have hxw : Ext w wr := by
          have := Below.trans (show Below q w w3 by rw [HQE.out]; exact HX3.out) hkb.below
          rw [HQE.out] at this
          exact this
        have hqlt := hbu.lt
        by_cases hil : i < ns.length
        · obtain ⟨cq, fq, hq9⟩ := HB3.out.at
          obtain ⟨qb, qo, qc, hqv, hcell⟩ := ird_get (HS.out.kb HTG.out (by decide) (by decide) hq9 hkb) i hil
          injection hqv with hq1 hq2 hq3
          subst hq1
          clear hq9 hq2 hq3
          have hlt := World.block_lt_of_cell? wr _ hcell
          have hok := HNS.out _ (List.getElem_mem hil)
          have HIT := Lib.hid (itoa_any hok wr (TabW.ext HT.out hxw))
          have HSZ : Hid ((finS ns[i]).size ≤ 3000) := Lib.hid (finS_size hok)
          have HF2 : Hid (((ns.take i).flatMap fun n => (finS n).data.toList).length ≤ 300000000) := Lib.hid (by
            have := flat_le finS (ns.take i) (fun n hn => finS_size (HNS.out n (List.mem_of_mem_take hn)))
            have h2 : (ns.take i).length ≤ 100000 := by rw [List.length_take]; have := HNL.out; omega
            omega)
          have HTK : Hid (t1 ++ (ns.take (i + 1)).flatMap (fun n => (finS n).data.toList) = (t1 ++ (ns.take i).flatMap fun n => (finS n).data.toList) ++ (finS ns[i]).data.toList) := Lib.hid (by rw [List.append_assoc, flat_take finS ns i hil])
          have HLT : Hid ((t1 ++ (ns.take i).flatMap fun n => (finS n).data.toList).length ≤ 600000000) := Lib.hid (by rw [List.length_append]; have := HFL.out; have := HF2.out; omega)
          have HWS : Hid (∀ W, Ext wr W → Calls Tryz.prog 32 #[.pointer (some ⟨q, 0, none⟩), .string (((⟨#[102, 105, 110, 97, 108, 32]⟩ : ByteArray) ++ itoaS ns[i]) ++ ⟨#[10]⟩)] W fun e w' => e = .returned (.tuple #[.int .i64 (finS ns[i]).size, .nilIface]) ∧ BU q ((t1 ++ (ns.take i).flatMap fun n => (finS n).data.toList) ++ (finS ns[i]).data.toList) w' ∧ KB q W w') := Lib.hid fun W hW => ws_any (finS ns[i]) (hbu.ext hW) (by have := HSZ.out; have := HLT.out; omega)
          rw [← HTK.out] at HWS
          have HKR := Lib.hid hkb
          have hsn := itoaS_size hok
          have hsn2 : ((⟨#[102, 105, 110, 97, 108, 32]⟩ : ByteArray) ++ itoaS ns[i]).size ≤ 30 := by
            rw [ByteArray.size_append]
            have h2 : (⟨#[102, 105, 110, 97, 108, 32]⟩ : ByteArray).size = 6 := rfl
            omega
          clear hok hbu hkb hxw HTK
          generalize ns[i] = n at *
          generalize itoaS n = sn at *
          generalize (t1 ++ (ns.take i).flatMap fun n => (finS n).data.toList) = tx at *
          go_wp2_with (first
            | (go_at_call 36; (with_reducible refine HIT.out.mono ?_); rintro e w7 ⟨rfl, hx7⟩)
            | (go_at_call 32; (with_reducible refine (HWS.out _ hx7).mono ?_); rintro e w8 ⟨rfl, hb8, hk8⟩))
          exact ⟨⟨i + 1, by simp, by omega, HKR.out.trans ((KB.of_ext hx7 (Nat.le_of_lt hqlt)).trans hk8), hb8⟩, by simp [iof]; omega⟩
        · obtain rfl : i = ns.length := by omega
          rw [List.take_length] at hbu
          have HF2 : Hid ((ns.flatMap fun n => (finS n).data.toList).length ≤ 300000000) := Lib.hid (by
            have := flat_le finS ns (fun n hn => finS_size (HNS.out n hn))
            have := HNL.out; omega)
          have HLT : Hid ((t1 ++ ns.flatMap fun n => (finS n).data.toList).length ≤ 600000000) := Lib.hid (by rw [List.length_append]; have := HFL.out; have := HF2.out; omega)
          clear hi hil hnl HNS HS HTG HF2 HFL
          generalize (t1 ++ ns.flatMap fun n => (finS n).data.toList) = t2 at *
          have c5 := cell_of_row _ p 5 _ _ _ (keep_heap hxw HP.out)
          have hpl := Rg.lt_of_heap (keep_heap hxw HP.out)
          go_upto_region 15 with (fail)
          have HXW := Lib.hid hxw
          have HBW := Lib.hid hbu
          clear c5 hpl hkb hbu hxw hqlt HB3 HX3
          obtain ⟨w5, hw5⟩ : ∃ w5, w5 = wr := ⟨_, rfl⟩
          rw [← hw5] at HXW HBW ⊢
          clear hw5
          have HOI : Hid (∀ i (h : i < b.old.length), (b.old[i]).ok ∧ (b.old[i]).name.size ≤ 1000) := Lib.hid fun i h => ⟨HOO.out _ (List.getElem_mem h), HNO.out _ (List.getElem_mem h)⟩
          have HOA : Hid (∀ g ∈ b.old, g.ok ∧ g.name.size ≤ 1000) := Lib.hid fun g h => ⟨HOO.out _ h, HNO.out _ h⟩
          clear HOO HNO
          generalize b.old = ol at *
          have hol := HOL.out
          go_loopw [52] (fun k wr => ∃ i : Nat, k = .int .i64 i ∧ i ≤ ol.length ∧ KB q w5 wr ∧ BU q (t2 ++ (ol.take i).flatMap fun n => (oldS n).data.toList) wr) (fun k _ => ol.length - (iof k).toNat)
          case atStart => exact ⟨0, rfl, Nat.zero_le _, KB.refl _ _, by rw [List.take_zero, List.flatMap_nil, List.append_nil]; exact HBW.out⟩
          case round =>
            obtain ⟨i, rfl, hi, hkb, hbu⟩ := hrel
            have hxw : Ext w wr := by
              have := Below.trans (show Below q w w5 by rw [HQE.out]; exact HXW.out) hkb.below
              rw [HQE.out] at this
              exact this
            have hqlt := hbu.lt
            by_cases hil : i < ol.length
            · obtain ⟨qb, rfl, hcell⟩ := row_at (SR.of_row (cs := Gd.cs) gd_len (row_ext HROW.out hxw) (by omega)) i hil
              have c0 := hcell 0 _ rfl
              have c1 := hcell 1 _ rfl
              have c2 := hcell 2 _ rfl
              have c3 := hcell 3 _ rfl
              have c4 := hcell 4 _ rfl
              have c5 := hcell 5 _ rfl
              obtain ⟨hgok, hgn⟩ := HOI.out i hil
              have HLN : Hid (∀ W, TabW W → Calls Tryz.prog 33 #[.string ⟨#[99, 104, 97, 110, 103, 101, 100]⟩, (ol[i]).v] W fun e w' => e = .returned (.string (oldS ol[i])) ∧ Ext W w') := Lib.hid fun W hW => line_any changedW ol[i] (by decide) hgok hgn W hW
              have HSZ : Hid ((oldS ol[i]).size ≤ 3000) := Lib.hid (lineS_size _ _ (by decide) hgok hgn)
              have HF2 : Hid (((ol.take i).flatMap fun n => (oldS n).data.toList).length ≤ 300000000) := Lib.hid (by
                have := flat_le oldS (ol.take i) (fun n hn => lineS_size _ _ (by decide) (HOA.out n (List.mem_of_mem_take hn)).1 (HOA.out n (List.mem_of_mem_take hn)).2)
                have h2 : (ol.take i).length ≤ 100000 := by rw [List.length_take]; omega
                omega)
              have HTK : Hid (t2 ++ (ol.take (i + 1)).flatMap (fun n => (oldS n).data.toList) = (t2 ++ (ol.take i).flatMap fun n => (oldS n).data.toList) ++ (oldS ol[i]).data.toList) := Lib.hid (by rw [List.append_assoc, flat_take oldS ol i hil])
              have HL2 : Hid ((t2 ++ (ol.take i).flatMap fun n => (oldS n).data.toList).length ≤ 900000000) := Lib.hid (by rw [List.length_append]; have := HLT.out; have := HF2.out; omega)
              have HWS : Hid (∀ W, Ext wr W → Calls Tryz.prog 32 #[.pointer (some ⟨q, 0, none⟩), .string (oldS ol[i])] W fun e w' => e = .returned (.tuple #[.int .i64 (oldS ol[i]).size, .nilIface]) ∧ BU q ((t2 ++ (ol.take i).flatMap fun n => (oldS n).data.toList) ++ (oldS ol[i]).data.toList) w' ∧ KB q W w') := Lib.hid fun W hW => ws_any (oldS ol[i]) (hbu.ext hW) (by have := HSZ.out; have := HL2.out; omega)
              rw [← HTK.out] at HWS
              clear hcell hgok hgn hbu HTK HF2 HL2
              generalize oldS ol[i] = ln at *
              generalize ol[i] = g at *
              obtain ⟨ga, gb, gl, gn, gN, gt⟩ := g
              simp only [Nat.add_zero] at c0 c1 c2 c3 c4 c5
              simp only [Gd.v] at HLN
              go_upto_region 17 with (fail)
              have hxa : Ext wr (wr.alloc (.cells #[.int .i64 ga, .int .i64 gb, .int .i64 gl, .string gn, .int .i64 gN, .int .i64 gt] 23)) := Ext.alloc (Ext.refl _) _
              have hq := heap_alloc_new wr (.cells #[.int .i64 ga, .int .i64 gb, .int .i64 gl, .string gn, .int .i64 gN, .int .i64 gt] 23)
              obtain ⟨qv, hqv⟩ : ∃ qv, qv = wr.heap.size := ⟨_, rfl⟩
              rw [← hqv] at hq ⊢
              have HK6 := Lib.hid (hkb.trans (KB.of_ext hxa (Nat.le_of_lt hqlt)))
              have HT6 := Lib.hid (TabW.ext HT.out (hxw.trans hxa))
              have HXA := Lib.hid hxa
              have HQ6 := Lib.hid hq
              have HLT6 : Hid (q ≤ (wr.alloc (.cells #[.int .i64 ga, .int .i64 gb, .int .i64 gl, .string gn, .int .i64 gN, .int .i64 gt] 23)).heap.size) := Lib.hid (Nat.le_trans (Nat.le_of_lt hqlt) hxa.size)
              clear c0 c1 c2 c3 c4 c5 hkb hxw hxa hqv hqlt hq
              generalize wr.alloc (.cells #[.int .i64 ga, .int .i64 gb, .int .i64 gl, .string gn, .int .i64 gN, .int .i64 gt] 23) = w6 at *
              go_wp2_with (first
                | (refine wpList_load_row (hgd := rfl) 23 (.tmp 9) rfl qv (by rfl) 23 _ _ _ HQ6.out Tryz.underlying23 rfl (by kernel_rfl) ?_)
                | (go_at_call 33; (with_reducible refine (HLN.out _ HT6.out).mono ?_); rintro e w7 ⟨rfl, hx7⟩)
                | (go_at_call 32; (with_reducible refine (HWS.out _ (HXA.out.trans hx7)).mono ?_); rintro e w8 ⟨rfl, hb8, hk8⟩))
              exact ⟨⟨i + 1, by simp, by omega, HK6.out.trans ((KB.of_ext hx7 HLT6.out).trans hk8), hb8⟩, by simp [iof]; omega⟩
            · obtain rfl : i = ol.length := by omega
              rw [List.take_length] at hbu
              have HS := Lib.hid (str_any hbu)
              have HXL := Lib.hid hxw
              clear hbu hkb hxw
              go_wp2_with (go_at_call 37; (with_reducible refine HS.out.mono ?_); rintro e w7 ⟨rfl, hk7⟩)
              go_ret
              refine ⟨_, rfl, HE1.out _ rfl, ?_⟩
              have := hk7.below
              rw [HQE.out] at this
              exact Below.trans HXL.out this
end Go.Proofs.YtnplnfkmcfalhaaGreatDoor
