/-
  give: a batch is given out, if there are enough askers. Condition: a relay lies at p; what 'due' answers.
-/
import Derived.Test.YtbeoihjfjkbfhaaReG
namespace Go.Proofs.Ytbeoihjfjkbfhaa
set_option linter.unusedVariables false
set_option linter.unusedSimpArgs false
open Go.RowKit
theorem MQ.mpo {B : Nat} {w : World} {mb : Option Nat} {l : List (Qn × Int)} (h : MQ B w mb l) : MPO encQ OkQ w mb (mapL l) := by
  cases mb with
  | none => rw [show l = [] from h]; rfl
  | some b => exact h.2
theorem put_mem {l : List (Int × Value)} (x : Int) (v : Value) (k : Int) : k ∈ (putL l x v).map (·.1) ↔ k = x ∨ k ∈ l.map (·.1) := by
  rw [putL_keys]
  by_cases h : x ∈ l.map (·.1)
  · rw [if_pos h]
    exact ⟨.inr, fun e => e.elim (fun e => e ▸ h) id⟩
  · rw [if_neg h, List.mem_append, List.mem_singleton]
    exact Or.comm
theorem row_form {B E sz n : Nat} {w : World} {v : Value} {xs : List Value} (h : w.ownsRow B E sz v n xs) : ∃ a m c, v = .slice a m c := by
  rcases h.2 with ⟨rfl, -⟩ | ⟨g, cap, cur, rfl, -⟩
  · exact ⟨_, _, _, rfl⟩
  · exact ⟨_, _, _, rfl⟩
theorem under69 : Try.prog.underlying 69 = some (.map 3 4) := Try.underlying69
set_option maxRecDepth 100000 in
set_option maxHeartbeats 8000000 in
theorem give_any {B : Nat} (p : Nat) (mb : Option Nat) (r : Rl) (f : Nat) (cap : Array Value) (due : Int → Bool) (w : World) (h : RW B w p mb r) (hf : DueF f cap due w) :
    Calls Try.prog 28 #[.pointer (some ⟨p, 0, none⟩), .func (.func f) #[] cap] w fun e w' => ∃ v, e = .returned v ∧ BatR w.heap.size w' v (giveF r due).1 ∧ RW B w' p mb (giveF r due).2 ∧ KW p mb w w' := by
  have hmm := @run_makeMap Try.prog
  have HH := Lib.hid h; have HF := Lib.hid hf
  have hE := hf.ent
  have c2 := (Rl.cells_at h.row).2.2.1
  have hpl := h.lt
  obtain ⟨bx, hbx⟩ : ∃ bx, bx = w.heap.size := ⟨_, rfl⟩
  clear h hf
  go_enter Try.func28, Try.ntmps28
  go_upto_region 2 with (fail)
  have hX0 : Ext w ((w.alloc (.cells #[.func (.func f) #[] cap] 61)).alloc (.map #[] 0)) := Ext.alloc (Ext.alloc (Ext.refl _) _) _
  have hS0 : ((w.alloc (.cells #[.func (.func f) #[] cap] 61)).alloc (.map #[] 0)).heap.size = w.heap.size + 2 := by simp
  have hBx : ((w.alloc (.cells #[.func (.func f) #[] cap] 61)).alloc (.map #[] 0)).heap[w.heap.size]? = some (.cells #[.func (.func f) #[] cap] 61) := (two_blocks w _ _).1
  have hMa : MP encI OkI ((w.alloc (.cells #[.func (.func f) #[] cap] 61)).alloc (.map #[] 0)) (w.alloc (.cells #[.func (.func f) #[] cap] 61)).heap.size [] := MP.made _
  rw [show (w.alloc (.cells #[.func (.func f) #[] cap] 61)).heap.size = w.heap.size + 1 by simp] at hMa
  obtain ⟨ba, hba⟩ : ∃ ba, ba = w.heap.size + 1 := ⟨_, rfl⟩
  rw [← hba] at hMa ⊢
  rw [← hbx] at hBx ⊢
  generalize (w.alloc (.cells #[.func (.func f) #[] cap] 61)).alloc (.map #[] 0) = W0 at *
  have HBX := Lib.hid hbx; have HBA := Lib.hid hba
  have hMO := (HH.out.map.ext hX0).mpo
  have c2' : W0.cell? ⟨p, 2, none⟩ = some (.map mb) := (hX0.cells.1 _ _ hpl).trans c2
  have hpl0 : p < W0.heap.size := Nat.lt_of_lt_of_le hpl hX0.size
  have HX0 := Lib.hid hX0; have HS0 := Lib.hid hS0; have HB0 := Lib.hid hBx; have HMA := Lib.hid hMa
  clear hbx hba hX0 hS0 hBx hMa c2 hmm
  go_upto_region 3 with (refine wpList_rangeO rfl _ 54 rfl 66 3 under54 mb (mapL r.l) (by rfl) hMO ?_; intro w1 hrg hx1 hs1)
  go_frame
  obtain ⟨rr, hrr⟩ : ∃ rr, rr = W0.heap.size := ⟨_, rfl⟩
  rw [← hrr] at hrg ⊢
  have HR := Lib.hid hrr; have HX1 := Lib.hid hx1
  have HG1 := Lib.hid hrg
  have HST : Hid (∀ k, (k ∈ (([] : List (Int × Value)).map (fun x => x.1)) ∨ k ∈ ((mapL r.l).filter (dueV due)).map (fun p => p.1.who)) ↔ k ∈ whos (dueL r due)) := Lib.hid (by
    intro k
    rw [mapL_whos]
    simp [dueL])
  have HBX1 : Hid (w1.heap[bx]? = some (.cells #[.func (.func f) #[] cap] 61)) := Lib.hid ((hx1.block _ (Rg.lt_of_heap HB0.out)).trans HB0.out)
  have HMA1 := Lib.hid (HMA.out.ext hx1)
  have HEX1 : Hid (Ext w w1) := Lib.hid (HX0.out.trans hx1)
  clear hrr hx1 hs1 hrg hMO c2' hpl0
  go_loopw [7] (fun _ wr => ∃ (left : List (Qn × Value)) (am : List (Int × Value)), RGO encQ OkQ wr mb rr (mapL r.l) left ∧ Hid (MP encI OkI wr ba am) ∧ Hid (∀ k, (k ∈ am.map (fun x => x.1) ∨ k ∈ (left.filter (dueV due)).map (fun p => p.1.who)) ↔ k ∈ whos (dueL r due)) ∧ Hid (wr.heap[bx]? = some (.cells #[.func (.func f) #[] cap] 61)) ∧ Hid (Ext w wr)) (fun _ wr => leftO wr mb rr)
  case atStart => exact ⟨mapL r.l, [], HG1.out, HMA1, HST, HBX1, HEX1⟩
  case round =>
    obtain ⟨left, am, hrgr, HMI, HKI, HBI, HXI⟩ := hrel
    go_upto_region 4 with (refine wpList_nextO rfl _ rfl mb rr (mapL r.l) left (by rfl) hrgr ?_ ?_)
    · intro hl
      subst hl
      have hkeys : ∀ k, k ∈ am.map (fun x => x.1) ↔ k ∈ whos (dueL r due) := fun k => by
        have := HKI.out k
        simpa using this
      have hlen := len_dis HMI.out.nodup hkeys
      rw [List.length_map] at hlen
      have hrowp : wr.heap[p]? = some (.cells (r.cells mb) 56) := (HXI.out.block _ hpl).trans HH.out.row
      have d0 := (Rl.cells_at hrowp).1
      have d2 := (Rl.cells_at hrowp).2.2.1
      have hplw : p < wr.heap.size := Rg.lt_of_heap hrowp
      obtain ⟨n, hn⟩ : ∃ n, n = (dis (whos (dueL r due))).length := ⟨_, rfl⟩
      rw [← hn] at hlen
      have HN := Lib.hid hn
      have HLN : Hid (∀ wz, Ext wr wz → (Builtin.len_ #[69] 3 #[.map (some ba)]).run Try.prog wz = .ok (.int .i64 (n : Nat)) wz) := Lib.hid (fun wz hz => by
        have := (HMI.out.ext hz).len under69 3
        rw [hlen] at this
        exact this)
      clear hkeys hlen hn hrowp hrgr HKI HMI
      generalize hle : r.least = least at *
      have HLE := Lib.hid hle
      clear hle
      go_upto_region 7 with (fail)
      refine Rr.wp_region [(0, .y), (1, .y), (2, .y), (3, .y), (4, .y), (5, .y), (6, .y)] (fun _ => (.cells #[] 29, Rg.ptr)) (by kernel_rfl) (by kernel_rfl) ?_
      (refine Rr.wr_y (by simp only [List.getElem?_toArray, List.getElem?_cons_succ, List.getElem?_cons_zero]; rfl) (by rfl) ?_
       apply Exists.intro
       refine ⟨fun wz hw _ => ?_, ?_⟩
       · have hcz := hw.cells.1
         go_simp
         (with_reducible exact Rg.up_value)
       simp only [Act.put, List.setIfInBounds_toArray, List.set_cons_zero, List.set_cons_succ])
      (refine Rr.wr_y (by simp only [List.getElem?_toArray, List.getElem?_cons_succ, List.getElem?_cons_zero]; rfl) (by rfl) ?_
       apply Exists.intro
       refine ⟨fun wz hw _ => ?_, ?_⟩
       · have hcz := hw.cells.1
         have hl := HLN.out wz hw
         go_simp
         (with_reducible exact Rg.up_value)
       simp only [Act.put, List.setIfInBounds_toArray, List.set_cons_zero, List.set_cons_succ])
      (refine Rr.wr_y (by simp only [List.getElem?_toArray, List.getElem?_cons_succ, List.getElem?_cons_zero]; rfl) (by rfl) ?_
       apply Exists.intro
       refine ⟨fun wz hw _ => ?_, ?_⟩
       · have hcz := hw.cells.1
         go_simp
         (with_reducible exact Rg.up_value)
       simp only [Act.put, List.setIfInBounds_toArray, List.set_cons_zero, List.set_cons_succ])
      (refine Rr.wr_y (by simp only [List.getElem?_toArray, List.getElem?_cons_succ, List.getElem?_cons_zero]; rfl) (by rfl) ?_
       apply Exists.intro
       refine ⟨fun wz hw _ => ?_, ?_⟩
       · have hcz := hw.cells.1
         go_simp
         (with_reducible exact Rg.up_value)
       simp only [Act.put, List.setIfInBounds_toArray, List.set_cons_zero, List.set_cons_succ])
      (refine Rr.wr_y (by simp only [List.getElem?_toArray, List.getElem?_cons_succ, List.getElem?_cons_zero]; rfl) (by rfl) ?_
       apply Exists.intro
       refine ⟨fun wz hw _ => ?_, ?_⟩
       · have hcz := hw.cells.1
         go_simp
         (with_reducible exact Rg.up_value)
       simp only [Act.put, List.setIfInBounds_toArray, List.set_cons_zero, List.set_cons_succ])
      (refine Rr.wr_y (by simp only [List.getElem?_toArray, List.getElem?_cons_succ, List.getElem?_cons_zero]; rfl) (by rfl) ?_
       apply Exists.intro
       refine ⟨fun wz hw _ => ?_, ?_⟩
       · have hcz := hw.cells.1
         go_simp
         (with_reducible exact Rg.up_value)
       simp only [Act.put, List.setIfInBounds_toArray, List.set_cons_zero, List.set_cons_succ])
      (refine Rr.wr_y (by simp only [List.getElem?_toArray, List.getElem?_cons_succ, List.getElem?_cons_zero]; rfl) (by rfl) ?_
       apply Exists.intro
       refine ⟨fun wz hw _ => ?_, ?_⟩
       · have hcz := hw.cells.1
         go_simp
         (with_reducible exact Rg.up_value)
       simp only [Act.put, List.setIfInBounds_toArray, List.set_cons_zero, List.set_cons_succ])
      refine Rr.wr_nil ?_
      intro wy hy hh
      clear hh
      simp only [List.length_cons, List.length_nil, List.drop_succ_cons, List.drop_zero, Nat.reduceAdd]
      obtain ⟨q, hq⟩ : ∃ q, q = max least 1 := ⟨_, rfl⟩
      rw [← hq]
      have HQ : Hid (q = max r.least 1) := Lib.hid (by rw [hq, HLE.out])
      clear hq
      have d2y := (hy.cells.1 _ _ hplw).trans d2
      have hpy : p < wy.heap.size := Nat.lt_of_lt_of_le hplw hy.size
      have HXY : Hid (Ext w wy) := Lib.hid (HXI.out.trans hy)
      have HBY : Hid (wy.heap[bx]? = some (.cells #[.func (.func f) #[] cap] 61)) := Lib.hid ((hy.block _ (Rg.lt_of_heap HBI.out)).trans HBI.out)
      clear d0 d2 hplw hy HXI HBI HLN
      by_cases hlt : (n : Int) < q
      · have hgv : giveF r due = (none, r) := by
          unfold giveF
          rw [if_pos (by rw [← HN.out, ← HQ.out]; exact hlt)]
        have HV := Lib.hid hgv
        clear hgv
        go_wp2_with (fail)
        go_ret
        exact ⟨_, rfl, by rw [HV.out]; rfl, by rw [HV.out]; exact HH.out.ext HXY.out, KW.of_ext HXY.out⟩
      · have hgv : giveF r due = (some (srtT (texts (dueL r due))), { r with l := r.l.filter fun p => !due p.2 }) := by
          unfold giveF
          rw [if_neg (by rw [← HN.out, ← HQ.out]; exact hlt)]
        have hne : r.l ≠ [] := by
          intro e
          have h1 := HN.out
          have h2 := HQ.out
          rw [show dueL r due = [] by unfold dueL; rw [e]; rfl] at h1
          simp [whos, dis] at h1
          omega
        obtain ⟨b, rfl⟩ : ∃ b, mb = some b := by
          cases mb with
          | none => exact absurd HH.out.map hne
          | some b => exact ⟨b, rfl⟩
        have HV := Lib.hid hgv
        clear hgv hne
        have hT := take_any b bx f cap due r.l wy (MP.ext HH.out.map.2 HXY.out) (HF.out.ext HXY.out) (cell_of_row _ _ 0 _ _ _ HBY.out) HH.out.ok.len
        have HT := Lib.hid hT
        have HSH := Lib.hid (fun v l w hl hs => shuffled_any v l w hl hs)
        clear hT
        have HOQ : Hid (∀ q ∈ (r.l.filter (fun p => due p.2)).map (fun p => p.1), q.text.size ≤ 4000) := Lib.hid (fun q hq => by
          obtain ⟨p, hp, rfl⟩ := List.mem_map.1 hq
          exact (HH.out.map.2.gd (p.1, .int .i64 p.2) (List.mem_map.2 ⟨p, (List.mem_filter.1 hp).1, rfl⟩)).2)
        go_wp2_with (first
          | (go_at_call 34; (with_reducible refine HT.out.mono ?_); rintro e w5 ⟨v, out, rfl, hsr, hperm, hM5, hg5⟩)
          | (go_at_call 33; (with_reducible refine (HSH.out _ out w5 hsr (fun q hq => HOQ.out q (hperm.mem_iff.1 hq))).mono ?_); rintro e w6 ⟨u, rfl, hu6, hx6⟩; obtain ⟨ua, un, uc, rfl⟩ := row_form hu6))
        go_ret
        have hxw5 : w.heap.size ≤ w5.heap.size := Nat.le_trans HXY.out.size hg5.size
        have htx : srtT (out.map (fun x => x.text)) = srtT (texts (dueL r due)) := srtT_of_perm (by
          have := hperm.map (fun q : Qn => q.text)
          rw [List.map_map] at this
          exact this)
        have hol : out.length = (srtT (texts (dueL r due))).length := by
          rw [← htx, srtT_len, List.length_map]
        rw [htx, hol] at hu6
        have hx7 : Ext w6 (w6.alloc (.cells #[.slice ua un uc] 38)) := Ext.alloc (Ext.refl _) _
        refine ⟨_, rfl, ?_, ?_, ?_⟩
        · rw [HV.out]
          refine ⟨w6.heap.size, _, rfl, Nat.le_trans hxw5 hx6.size, alloc_at w6 _, ?_⟩
          have h8 := row_ext hu6 hx7
          refine ⟨h8.1, h8.2.imp id ?_⟩
          rintro ⟨g, cp, cur, e1, e2, e3⟩
          exact ⟨g, cp, cur, e1, Nat.le_trans hxw5 e2, e3⟩
        · rw [HV.out]
          have hbp : b ≠ p := fun e => HH.out.ne (by rw [e])
          have hbl := (HH.out.map.lt b rfl).2
          refine ⟨HH.out.at_, ?_, ⟨HH.out.map.1, hM5.ext (hx6.trans hx7)⟩, ⟨HH.out.ok.least, HH.out.ok.every, HH.out.ok.last, fun x hx => HH.out.ok.per x (List.mem_filter.1 hx).1, Nat.le_trans (List.length_filter_le _ _) HH.out.ok.len⟩⟩
          exact ((hx6.trans hx7).block _ (Nat.lt_of_lt_of_le hpy hg5.size)).trans ((hg5.block p hpy (fun e => hbp (by injection e with e; exact e.symm))).trans ((HXY.out.block _ hpl).trans HH.out.row))
        · exact ((KW.of_ext HXY.out).grown hg5).trans (KW.of_ext (hx6.trans hx7))
    · intro b pre x v post w2 hmb hl hrg2 hg2 hs2 hen hms
      subst hl
      have hvm : ∃ z, v = .int .i64 z := by
        obtain ⟨p, hp, he⟩ := List.mem_map.1 (hrgr.sub (x, v) (List.mem_append_right _ List.mem_cons_self))
        simp only [Prod.mk.injEq] at he
        exact ⟨p.2, he.2.symm⟩
      obtain ⟨z, rfl⟩ := hvm
      have hxg := hrgr.good (x, .int .i64 z) (List.mem_append_right _ List.mem_cons_self)
      have hstep : Hid (∀ k, ((if due z = true then k = x.who ∨ k ∈ am.map (fun x => x.1) else k ∈ am.map (fun x => x.1)) ∨ k ∈ ((pre ++ post).filter (dueV due)).map (fun p => p.1.who)) ↔ k ∈ whos (dueL r due)) := Lib.hid (who_step (due := due) HKI.out)
      have hlr := hrgr.lt
      have hra : ba < rr := by have := HBA.out; have := HS0.out; have := HR.out; omega
      have hrb : bx < rr := by have := HBX.out; have := HS0.out; have := HR.out; omega
      have hrw : w.heap.size < rr := by have := HS0.out; have := HR.out; omega
      have HMS : Hid (∀ wz, RGO encQ OkQ wz mb rr (mapL r.l) (pre ++ post) → leftO wz mb rr < leftO wr mb rr) := Lib.hid (fun wz hz => by
        rw [leftO_eq hz, leftO_eq hrgr]
        simp)
      have HM2 := Lib.hid (HMI.out.kept hg2 (by simp; omega))
      have HB2 : Hid (w2.heap[bx]? = some (.cells #[.func (.func f) #[] cap] 61)) := Lib.hid ((hg2.block _ (Rg.lt_of_heap HBI.out) (by simp; omega)).trans HBI.out)
      have HX2 : Hid (Ext w w2) := Lib.hid (Below.trans HXI.out ⟨hg2.os, hg2.tape, hg2.output, hg2.size, fun k hk => hg2.block k (by have := HXI.out.size; omega) (by simp; omega)⟩)
      have HG2 := Lib.hid hrg2
      obtain ⟨xw, xt⟩ := x
      have HOW := Lib.hid hxg.1
      unfold encQ at hen
      simp only at hen hstep HOW
      clear hrgr hrg2 hg2 hs2 hms HMI HKI HBI HXI hxg hmb
      go_upto_region 5 with (fail)
      have hxa : Ext w2 (w2.alloc (.cells #[.int .i64 xw, .string xt] 66)) := Ext.alloc (Ext.refl _) _
      have hp6 : (w2.alloc (.cells #[.int .i64 xw, .string xt] 66)).heap[w2.heap.size]? = some (.cells #[.int .i64 xw, .string xt] 66) := alloc_at w2 _
      obtain ⟨p6, hpe⟩ : ∃ p6, p6 = w2.heap.size := ⟨_, rfl⟩
      rw [← hpe] at hp6 ⊢
      generalize w2.alloc (.cells #[.int .i64 xw, .string xt] 66) = Wa at *
      have a0 : Wa.cell? ⟨p6, 0, none⟩ = some (.int .i64 xw) := cell_of_row _ _ 0 _ _ _ hp6
      have hpl6 := Rg.lt_of_heap hp6
      have ab : Wa.cell? ⟨bx, 0, none⟩ = some (.func (.func f) #[] cap) := cell_of_row _ _ 0 _ _ _ ((hxa.block _ (Rg.lt_of_heap HB2.out)).trans HB2.out)
      have habl : bx < Wa.heap.size := Nat.lt_of_lt_of_le (Rg.lt_of_heap HB2.out) hxa.size
      have hGz := HF.out.run z Wa (HX2.out.trans hxa)
      have HXA := Lib.hid hxa
      clear hp6 hxa hpe hen
      cases hd : due z with
      | true =>
        rw [hd] at hGz
        rw [hd] at hstep
        simp only [if_true] at hstep
        clear hd
        go_upto_region 6 with (with_reducible refine hGz.mono ?_; rintro e' w3 ⟨rfl, hx3⟩)
        have b0 := (hx3.cells.1 _ _ hpl6).trans a0
        have hpl63 : p6 < w3.heap.size := Nat.lt_of_lt_of_le hpl6 hx3.size
        have HX3 : Hid (Ext w2 w3) := Lib.hid (HXA.out.trans hx3)
        clear hx3 a0 ab hGz habl hpl6
        go_wp2_with (refine wpList_store rfl (.tmp 22) (.tmp 24) (.const (.bool true)) 69 rfl 3 4 keI under69 ba am (by rfl) (HM2.out.ext HX3.out) xw (by rfl) HOW.out (.bool true) (by rfl) ?_; intro w4 hm4 hg4)
        have hrg4 : RGO encQ OkQ w4 mb rr (mapL r.l) (pre ++ post) := (HG2.out.ext HX3.out).kept hg4 (by
          rintro b rfl e
          injection e with e
          have h1 := HG2.out
          have h2 := h1.1.lt
          obtain ⟨-, -, es, ck, hb, -⟩ := HH.out.map.2
          have := HBA.out
          have := HH.out.map.lt b rfl
          omega) (by simp; omega)
        refine ⟨⟨_, _, _, _, _, _, _, _, _, _, _, _, _, ⟨pre ++ post, _, hrg4, Lib.hid hm4, Lib.hid (fun k => ?_), Lib.hid ((hg4.block _ (Nat.lt_of_lt_of_le (Rg.lt_of_heap HB2.out) HX3.out.size) (by have := HBX.out; have := HBA.out; simp; omega)).trans ((HX3.out.block _ (Rg.lt_of_heap HB2.out)).trans HB2.out)), Lib.hid (Below.trans (HX2.out.trans HX3.out) ⟨hg4.os, hg4.tape, hg4.output, hg4.size, fun k hk => hg4.block k (by have := (HX2.out.trans HX3.out).size; omega) (by have := HBA.out; simp; omega)⟩)⟩, rfl⟩, HMS.out _ hrg4⟩
        have := hstep.out k
        rw [put_mem]
        exact this
      | false =>
        rw [hd] at hGz
        rw [hd] at hstep
        simp only [Bool.false_eq_true, if_false] at hstep
        clear hd
        go_wp2_with (with_reducible refine hGz.mono ?_; rintro e' w3 ⟨rfl, hx3⟩)
        have hx23 := HXA.out.trans hx3
        have hrg3 := HG2.out.ext hx23
        exact ⟨⟨pre ++ post, am, hrg3, Lib.hid (HM2.out.ext hx23), hstep, Lib.hid ((hx23.block _ (Rg.lt_of_heap HB2.out)).trans HB2.out), Lib.hid (HX2.out.trans hx23)⟩, HMS.out _ hrg3⟩
end Go.Proofs.Ytbeoihjfjkbfhaa
