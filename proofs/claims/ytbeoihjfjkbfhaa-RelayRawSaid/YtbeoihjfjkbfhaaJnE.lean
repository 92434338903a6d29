/-
  Joined: the lemmas of this claim that other texts of it use, part 5. Nothing is asked.
-/
import Derived.Test.YtbeoihjfjkbfhaaJnD
import Derived.OpenShut
import Derived.DeepKeys
namespace Go.Proofs.Ytbeoihjfjkbfhaa
set_option linter.unusedVariables false
set_option linter.unusedSimpArgs false
open Go.RowKit
theorem MQ.mpo {B : Nat} {w : World} {mb : Option Nat} {l : List (Qn × Int)} (h : MQ B w mb l) : MPO encQ OkQ w mb (mapL l) := by
  cases mb with
  | none => rw [show l = [] from h]; rfl
  | some b => exact h.2
theorem put_mem {l : List (Int × Value)} (x : Int) (v : Value) (k : Int) : k ∈ (putL l x v).map (·.1) ↔ k = x ∨ k ∈ l.map (·.1) := by
  rw [putL_keys]
  by_cases h : x ∈ l.map (·.1)
  · rw [if_pos h]
    exact ⟨.inr, fun e => e.elim (fun e => e ▸ h) id⟩
  · rw [if_neg h, List.mem_append, List.mem_singleton]
    exact Or.comm
theorem row_form {B E sz n : Nat} {w : World} {v : Value} {xs : List Value} (h : w.ownsRow B E sz v n xs) : ∃ a m c, v = .slice a m c := by
  rcases h.2 with ⟨rfl, -⟩ | ⟨g, cap, cur, rfl, -⟩
  · exact ⟨_, _, _, rfl⟩
  · exact ⟨_, _, _, rfl⟩
theorem under69 : Try.prog.underlying 69 = some (.map 3 4) := Try.underlying69
set_option maxRecDepth 100000 in
set_option maxHeartbeats 8000000 in
theorem give_any {B : Nat} (p : Nat) (mb : Option Nat) (r : Rl) (f : Nat) (cap : Array Value) (due : Int → Bool) (w : World) (h : RW B w p mb r) (hf : DueF f cap due w) :
    Calls Try.prog 28 #[.pointer (some ⟨p, 0, none⟩), .func (.func f) #[] cap] w fun e w' => ∃ v, e = .returned v ∧ BatR w.heap.size w' v (giveF r due).1 ∧ RW B w' p mb (giveF r due).2 ∧ KW p mb w w' := by
  have hmm := @run_makeMap Try.prog
  have HH := Lib.hid h; have HF := Lib.hid hf
  have hE := hf.ent
  have c2 := (Rl.cells_at h.row).2.2.1
  have hpl := h.lt
  obtain ⟨bx, hbx⟩ : ∃ bx, bx = w.heap.size := ⟨_, rfl⟩
  clear h hf
  go_enter Try.func28, Try.ntmps28
  go_upto_region 2 with (fail)
  have hX0 : Ext w ((w.alloc (.cells #[.func (.func f) #[] cap] 61)).alloc (.map #[] 0)) := Ext.alloc (Ext.alloc (Ext.refl _) _) _
  have hS0 : ((w.alloc (.cells #[.func (.func f) #[] cap] 61)).alloc (.map #[] 0)).heap.size = w.heap.size + 2 := by simp
  have hBx : ((w.alloc (.cells #[.func (.func f) #[] cap] 61)).alloc (.map #[] 0)).heap[w.heap.size]? = some (.cells #[.func (.func f) #[] cap] 61) := (two_blocks w _ _).1
  have hMa : MP encI OkI ((w.alloc (.cells #[.func (.func f) #[] cap] 61)).alloc (.map #[] 0)) (w.alloc (.cells #[.func (.func f) #[] cap] 61)).heap.size [] := MP.made _
  rw [show (w.alloc (.cells #[.func (.func f) #[] cap] 61)).heap.size = w.heap.size + 1 by simp] at hMa
  obtain ⟨ba, hba⟩ : ∃ ba, ba = w.heap.size + 1 := ⟨_, rfl⟩
  rw [← hba] at hMa ⊢
  rw [← hbx] at hBx ⊢
  generalize (w.alloc (.cells #[.func (.func f) #[] cap] 61)).alloc (.map #[] 0) = W0 at *
  have HBX := Lib.hid hbx; have HBA := Lib.hid hba
  have hMO := (HH.out.map.ext hX0).mpo
  have c2' : W0.cell? ⟨p, 2, none⟩ = some (.map mb) := (hX0.cells.1 _ _ hpl).trans c2
  have hpl0 : p < W0.heap.size := Nat.lt_of_lt_of_le hpl hX0.size
  have HX0 := Lib.hid hX0; have HS0 := Lib.hid hS0; have HB0 := Lib.hid hBx; have HMA := Lib.hid hMa
  clear hbx hba hX0 hS0 hBx hMa c2 hmm
  go_upto_region 3 with (refine wpList_rangeO rfl _ 54 rfl 66 3 under54 mb (mapL r.l) (by rfl) hMO ?_; intro w1 hrg hx1 hs1)
  go_frame
  obtain ⟨rr, hrr⟩ : ∃ rr, rr = W0.heap.size := ⟨_, rfl⟩
  rw [← hrr] at hrg ⊢
  have HR := Lib.hid hrr; have HX1 := Lib.hid hx1
  have HG1 := Lib.hid hrg
  have HST : Hid (∀ k, (k ∈ (([] : List (Int × Value)).map (fun x => x.1)) ∨ k ∈ ((mapL r.l).filter (dueV due)).map (fun p => p.1.who)) ↔ k ∈ whos (dueL r due)) := Lib.hid (by
    intro k
    rw [mapL_whos]
    simp [dueL])
  have HBX1 : Hid (w1.heap[bx]? = some (.cells #[.func (.func f) #[] cap] 61)) := Lib.hid ((hx1.block _ (Rg.lt_of_heap HB0.out)).trans HB0.out)
  have HMA1 := Lib.hid (HMA.out.ext hx1)
  have HEX1 : Hid (Ext w w1) := Lib.hid (HX0.out.trans hx1)
  clear hrr hx1 hs1 hrg hMO c2' hpl0
  go_loopw [7] (fun _ wr => ∃ (left : List (Qn × Value)) (am : List (Int × Value)), RGO encQ OkQ wr mb rr (mapL r.l) left ∧ Hid (MP encI OkI wr ba am) ∧ Hid (∀ k, (k ∈ am.map (fun x => x.1) ∨ k ∈ (left.filter (dueV due)).map (fun p => p.1.who)) ↔ k ∈ whos (dueL r due)) ∧ Hid (wr.heap[bx]? = some (.cells #[.func (.func f) #[] cap] 61)) ∧ Hid (Ext w wr)) (fun _ wr => leftO wr mb rr)
  case atStart => exact ⟨mapL r.l, [], HG1.out, HMA1, HST, HBX1, HEX1⟩
  case round =>
    obtain ⟨left, am, hrgr, HMI, HKI, HBI, HXI⟩ := hrel
    go_upto_region 4 with (refine wpList_nextO rfl _ rfl mb rr (mapL r.l) left (by rfl) hrgr ?_ ?_)
    · intro hl
      subst hl
      have hkeys : ∀ k, k ∈ am.map (fun x => x.1) ↔ k ∈ whos (dueL r due) := fun k => by
        have := HKI.out k
        simpa using this
      have hlen := len_dis HMI.out.nodup hkeys
      rw [List.length_map] at hlen
      have hrowp : wr.heap[p]? = some (.cells (r.cells mb) 56) := (HXI.out.block _ hpl).trans HH.out.row
      have d0 := (Rl.cells_at hrowp).1
      have d2 := (Rl.cells_at hrowp).2.2.1
      have hplw : p < wr.heap.size := Rg.lt_of_heap hrowp
      obtain ⟨n, hn⟩ : ∃ n, n = (dis (whos (dueL r due))).length := ⟨_, rfl⟩
      rw [← hn] at hlen
      have HN := Lib.hid hn
      have HLN : Hid (∀ wz, Ext wr wz → (Builtin.len_ #[69] 3 #[.map (some ba)]).run Try.prog wz = .ok (.int .i64 (n : Nat)) wz) := Lib.hid (fun wz hz => by
        have := (HMI.out.ext hz).len under69 3
        rw [hlen] at this
        exact this)
      clear hkeys hlen hn hrowp hrgr HKI HMI
      generalize hle : r.least = least at *
      have HLE := Lib.hid hle
      clear hle
      go_upto_region 7 with (fail)
      refine Rr.wp_region [(0, .y), (1, .y), (2, .y), (3, .y), (4, .y), (5, .y), (6, .y)] (fun _ => (.cells #[] 29, Rg.ptr)) (by kernel_rfl) (by kernel_rfl) ?_
      (refine Rr.wr_y (by simp only [List.getElem?_toArray, List.getElem?_cons_succ, List.getElem?_cons_zero]; rfl) (by rfl) ?_
       apply Exists.intro
       refine ⟨fun wz hw _ => ?_, ?_⟩
       · have hcz := hw.cells.1
         go_simp
         (with_reducible exact Rg.up_value)
       simp only [Act.put, List.setIfInBounds_toArray, List.set_cons_zero, List.set_cons_succ])
      (refine Rr.wr_y (by simp only [List.getElem?_toArray, List.getElem?_cons_succ, List.getElem?_cons_zero]; rfl) (by rfl) ?_
       apply Exists.intro
       refine ⟨fun wz hw _ => ?_, ?_⟩
       · have hcz := hw.cells.1
         have hl := HLN.out wz hw
         go_simp
         (with_reducible exact Rg.up_value)
       simp only [Act.put, List.setIfInBounds_toArray, List.set_cons_zero, List.set_cons_succ])
      (refine Rr.wr_y (by simp only [List.getElem?_toArray, List.getElem?_cons_succ, List.getElem?_cons_zero]; rfl) (by rfl) ?_
       apply Exists.intro
       refine ⟨fun wz hw _ => ?_, ?_⟩
       · have hcz := hw.cells.1
         go_simp
         (with_reducible exact Rg.up_value)
       simp only [Act.put, List.setIfInBounds_toArray, List.set_cons_zero, List.set_cons_succ])
      (refine Rr.wr_y (by simp only [List.getElem?_toArray, List.getElem?_cons_succ, List.getElem?_cons_zero]; rfl) (by rfl) ?_
       apply Exists.intro
       refine ⟨fun wz hw _ => ?_, ?_⟩
       · have hcz := hw.cells.1
         go_simp
         (with_reducible exact Rg.up_value)
       simp only [Act.put, List.setIfInBounds_toArray, List.set_cons_zero, List.set_cons_succ])
      (refine Rr.wr_y (by simp only [List.getElem?_toArray, List.getElem?_cons_succ, List.getElem?_cons_zero]; rfl) (by rfl) ?_
       apply Exists.intro
       refine ⟨fun wz hw _ => ?_, ?_⟩
       · have hcz := hw.cells.1
         go_simp
         (with_reducible exact Rg.up_value)
       simp only [Act.put, List.setIfInBounds_toArray, List.set_cons_zero, List.set_cons_succ])
      (refine Rr.wr_y (by simp only [List.getElem?_toArray, List.getElem?_cons_succ, List.getElem?_cons_zero]; rfl) (by rfl) ?_
       apply Exists.intro
       refine ⟨fun wz hw _ => ?_, ?_⟩
       · have hcz := hw.cells.1
         go_simp
         (with_reducible exact Rg.up_value)
       simp only [Act.put, List.setIfInBounds_toArray, List.set_cons_zero, List.set_cons_succ])
      (refine Rr.wr_y (by simp only [List.getElem?_toArray, List.getElem?_cons_succ, List.getElem?_cons_zero]; rfl) (by rfl) ?_
       apply Exists.intro
       refine ⟨fun wz hw _ => ?_, ?_⟩
       · have hcz := hw.cells.1
         go_simp
         (with_reducible exact Rg.up_value)
       simp only [Act.put, List.setIfInBounds_toArray, List.set_cons_zero, List.set_cons_succ])
      refine Rr.wr_nil ?_
      intro wy hy hh
      clear hh
      simp only [List.length_cons, List.length_nil, List.drop_succ_cons, List.drop_zero, Nat.reduceAdd]
      obtain ⟨q, hq⟩ : ∃ q, q = max least 1 := ⟨_, rfl⟩
      rw [← hq]
      have HQ : Hid (q = max r.least 1) := Lib.hid (by rw [hq, HLE.out])
      clear hq
      have d2y := (hy.cells.1 _ _ hplw).trans d2
      have hpy : p < wy.heap.size := Nat.lt_of_lt_of_le hplw hy.size
      have HXY : Hid (Ext w wy) := Lib.hid (HXI.out.trans hy)
      have HBY : Hid (wy.heap[bx]? = some (.cells #[.func (.func f) #[] cap] 61)) := Lib.hid ((hy.block _ (Rg.lt_of_heap HBI.out)).trans HBI.out)
      clear d0 d2 hplw hy HXI HBI HLN
      by_cases hlt : (n : Int) < q
      · have hgv : giveF r due = (none, r) := by
          unfold giveF
          rw [if_pos (by rw [← HN.out, ← HQ.out]; exact hlt)]
        have HV := Lib.hid hgv
        clear hgv
        go_wp2_with (fail)
        go_ret
        exact ⟨_, rfl, by rw [HV.out]; rfl, by rw [HV.out]; exact HH.out.ext HXY.out, KW.of_ext HXY.out⟩
      · have hgv : giveF r due = (some (srtT (texts (dueL r due))), { r with l := r.l.filter fun p => !due p.2 }) := by
          unfold giveF
          rw [if_neg (by rw [← HN.out, ← HQ.out]; exact hlt)]
        have hne : r.l ≠ [] := by
          intro e
          have h1 := HN.out
          have h2 := HQ.out
          rw [show dueL r due = [] by unfold dueL; rw [e]; rfl] at h1
          simp [whos, dis] at h1
          omega
        obtain ⟨b, rfl⟩ : ∃ b, mb = some b := by
          cases mb with
          | none => exact absurd HH.out.map hne
          | some b => exact ⟨b, rfl⟩
        have HV := Lib.hid hgv
        clear hgv hne
        have hT := take_any b bx f cap due r.l wy (MP.ext HH.out.map.2 HXY.out) (HF.out.ext HXY.out) (cell_of_row _ _ 0 _ _ _ HBY.out) HH.out.ok.len
        have HT := Lib.hid hT
        have HSH := Lib.hid (fun v l w hl hs => shuffled_any v l w hl hs)
        clear hT
        have HOQ : Hid (∀ q ∈ (r.l.filter (fun p => due p.2)).map (fun p => p.1), q.text.size ≤ 4000) := Lib.hid (fun q hq => by
          obtain ⟨p, hp, rfl⟩ := List.mem_map.1 hq
          exact (HH.out.map.2.gd (p.1, .int .i64 p.2) (List.mem_map.2 ⟨p, (List.mem_filter.1 hp).1, rfl⟩)).2)
        go_wp2_with (first
          | (go_at_call 34; (with_reducible refine HT.out.mono ?_); rintro e w5 ⟨v, out, rfl, hsr, hperm, hM5, hg5⟩)
          | (go_at_call 33; (with_reducible refine (HSH.out _ out w5 hsr (fun q hq => HOQ.out q (hperm.mem_iff.1 hq))).mono ?_); rintro e w6 ⟨u, rfl, hu6, hx6⟩; obtain ⟨ua, un, uc, rfl⟩ := row_form hu6))
        go_ret
        have hxw5 : w.heap.size ≤ w5.heap.size := Nat.le_trans HXY.out.size hg5.size
        have htx : srtT (out.map (fun x => x.text)) = srtT (texts (dueL r due)) := srtT_of_perm (by
          have := hperm.map (fun q : Qn => q.text)
          rw [List.map_map] at this
          exact this)
        have hol : out.length = (srtT (texts (dueL r due))).length := by
          rw [← htx, srtT_len, List.length_map]
        rw [htx, hol] at hu6
        have hx7 : Ext w6 (w6.alloc (.cells #[.slice ua un uc] 38)) := Ext.alloc (Ext.refl _) _
        refine ⟨_, rfl, ?_, ?_, ?_⟩
        · rw [HV.out]
          refine ⟨w6.heap.size, _, rfl, Nat.le_trans hxw5 hx6.size, alloc_at w6 _, ?_⟩
          have h8 := row_ext hu6 hx7
          refine ⟨h8.1, h8.2.imp id ?_⟩
          rintro ⟨g, cp, cur, e1, e2, e3⟩
          exact ⟨g, cp, cur, e1, Nat.le_trans hxw5 e2, e3⟩
        · rw [HV.out]
          have hbp : b ≠ p := fun e => HH.out.ne (by rw [e])
          have hbl := (HH.out.map.lt b rfl).2
          refine ⟨HH.out.at_, ?_, ⟨HH.out.map.1, hM5.ext (hx6.trans hx7)⟩, ⟨HH.out.ok.least, HH.out.ok.every, HH.out.ok.last, fun x hx => HH.out.ok.per x (List.mem_filter.1 hx).1, Nat.le_trans (List.length_filter_le _ _) HH.out.ok.len⟩⟩
          exact ((hx6.trans hx7).block _ (Nat.lt_of_lt_of_le hpy hg5.size)).trans ((hg5.block p hpy (fun e => hbp (by injection e with e; exact e.symm))).trans ((HXY.out.block _ hpl).trans HH.out.row))
        · exact ((KW.of_ext HXY.out).grown hg5).trans (KW.of_ext (hx6.trans hx7))
    · intro b pre x v post w2 hmb hl hrg2 hg2 hs2 hen hms
      subst hl
      have hvm : ∃ z, v = .int .i64 z := by
        obtain ⟨p, hp, he⟩ := List.mem_map.1 (hrgr.sub (x, v) (List.mem_append_right _ List.mem_cons_self))
        simp only [Prod.mk.injEq] at he
        exact ⟨p.2, he.2.symm⟩
      obtain ⟨z, rfl⟩ := hvm
      have hxg := hrgr.good (x, .int .i64 z) (List.mem_append_right _ List.mem_cons_self)
      have hstep : Hid (∀ k, ((if due z = true then k = x.who ∨ k ∈ am.map (fun x => x.1) else k ∈ am.map (fun x => x.1)) ∨ k ∈ ((pre ++ post).filter (dueV due)).map (fun p => p.1.who)) ↔ k ∈ whos (dueL r due)) := Lib.hid (who_step (due := due) HKI.out)
      have hlr := hrgr.lt
      have hra : ba < rr := by have := HBA.out; have := HS0.out; have := HR.out; omega
      have hrb : bx < rr := by have := HBX.out; have := HS0.out; have := HR.out; omega
      have hrw : w.heap.size < rr := by have := HS0.out; have := HR.out; omega
      have HMS : Hid (∀ wz, RGO encQ OkQ wz mb rr (mapL r.l) (pre ++ post) → leftO wz mb rr < leftO wr mb rr) := Lib.hid (fun wz hz => by
        rw [leftO_eq hz, leftO_eq hrgr]
        simp)
      have HM2 := Lib.hid (HMI.out.kept hg2 (by simp; omega))
      have HB2 : Hid (w2.heap[bx]? = some (.cells #[.func (.func f) #[] cap] 61)) := Lib.hid ((hg2.block _ (Rg.lt_of_heap HBI.out) (by simp; omega)).trans HBI.out)
      have HX2 : Hid (Ext w w2) := Lib.hid (Below.trans HXI.out ⟨hg2.os, hg2.tape, hg2.output, hg2.size, fun k hk => hg2.block k (by have := HXI.out.size; omega) (by simp; omega)⟩)
      have HG2 := Lib.hid hrg2
      obtain ⟨xw, xt⟩ := x
      have HOW := Lib.hid hxg.1
      unfold encQ at hen
      simp only at hen hstep HOW
      clear hrgr hrg2 hg2 hs2 hms HMI HKI HBI HXI hxg hmb
      go_upto_region 5 with (fail)
      have hxa : Ext w2 (w2.alloc (.cells #[.int .i64 xw, .string xt] 66)) := Ext.alloc (Ext.refl _) _
      have hp6 : (w2.alloc (.cells #[.int .i64 xw, .string xt] 66)).heap[w2.heap.size]? = some (.cells #[.int .i64 xw, .string xt] 66) := alloc_at w2 _
      obtain ⟨p6, hpe⟩ : ∃ p6, p6 = w2.heap.size := ⟨_, rfl⟩
      rw [← hpe] at hp6 ⊢
      generalize w2.alloc (.cells #[.int .i64 xw, .string xt] 66) = Wa at *
      have a0 : Wa.cell? ⟨p6, 0, none⟩ = some (.int .i64 xw) := cell_of_row _ _ 0 _ _ _ hp6
      have hpl6 := Rg.lt_of_heap hp6
      have ab : Wa.cell? ⟨bx, 0, none⟩ = some (.func (.func f) #[] cap) := cell_of_row _ _ 0 _ _ _ ((hxa.block _ (Rg.lt_of_heap HB2.out)).trans HB2.out)
      have habl : bx < Wa.heap.size := Nat.lt_of_lt_of_le (Rg.lt_of_heap HB2.out) hxa.size
      have hGz := HF.out.run z Wa (HX2.out.trans hxa)
      have HXA := Lib.hid hxa
      clear hp6 hxa hpe hen
      cases hd : due z with
      | true =>
        rw [hd] at hGz
        rw [hd] at hstep
        simp only [if_true] at hstep
        clear hd
        go_upto_region 6 with (with_reducible refine hGz.mono ?_; rintro e' w3 ⟨rfl, hx3⟩)
        have b0 := (hx3.cells.1 _ _ hpl6).trans a0
        have hpl63 : p6 < w3.heap.size := Nat.lt_of_lt_of_le hpl6 hx3.size
        have HX3 : Hid (Ext w2 w3) := Lib.hid (HXA.out.trans hx3)
        clear hx3 a0 ab hGz habl hpl6
        go_wp2_with (refine wpList_store rfl (.tmp 22) (.tmp 24) (.const (.bool true)) 69 rfl 3 4 keI under69 ba am (by rfl) (HM2.out.ext HX3.out) xw (by rfl) HOW.out (.bool true) (by rfl) ?_; intro w4 hm4 hg4)
        have hrg4 : RGO encQ OkQ w4 mb rr (mapL r.l) (pre ++ post) := (HG2.out.ext HX3.out).kept hg4 (by
          rintro b rfl e
          injection e with e
          have h1 := HG2.out
          have h2 := h1.1.lt
          obtain ⟨-, -, es, ck, hb, -⟩ := HH.out.map.2
          have := HBA.out
          have := HH.out.map.lt b rfl
          omega) (by simp; omega)
        refine ⟨⟨_, _, _, _, _, _, _, _, _, _, _, _, _, ⟨pre ++ post, _, hrg4, Lib.hid hm4, Lib.hid (fun k => ?_), Lib.hid ((hg4.block _ (Nat.lt_of_lt_of_le (Rg.lt_of_heap HB2.out) HX3.out.size) (by have := HBX.out; have := HBA.out; simp; omega)).trans ((HX3.out.block _ (Rg.lt_of_heap HB2.out)).trans HB2.out)), Lib.hid (Below.trans (HX2.out.trans HX3.out) ⟨hg4.os, hg4.tape, hg4.output, hg4.size, fun k hk => hg4.block k (by have := (HX2.out.trans HX3.out).size; omega) (by have := HBA.out; simp; omega)⟩)⟩, rfl⟩, HMS.out _ hrg4⟩
        have := hstep.out k
        rw [put_mem]
        exact this
      | false =>
        rw [hd] at hGz
        rw [hd] at hstep
        simp only [Bool.false_eq_true, if_false] at hstep
        clear hd
        go_wp2_with (with_reducible refine hGz.mono ?_; rintro e' w3 ⟨rfl, hx3⟩)
        have hx23 := HXA.out.trans hx3
        have hrg3 := HG2.out.ext hx23
        exact ⟨⟨pre ++ post, am, hrg3, Lib.hid (HM2.out.ext hx23), hstep, Lib.hid ((hx23.block _ (Rg.lt_of_heap HB2.out)).trans HB2.out), Lib.hid (HX2.out.trans hx23)⟩, HMS.out _ hrg3⟩
end Go.Proofs.Ytbeoihjfjkbfhaa

namespace Go.Proofs.Ytbeoihjfjkbfhaa
set_option linter.unusedVariables false
set_option linter.unusedSimpArgs false
open Go.RowKit
def askE (r : Rl) (q : Qn) (t : Int) : Int :=
  if q.text.size = 0 ∨ 4000 < q.text.size then 1 else if r.closed = true then 31 else if r.timed = true ∧ t < r.last then 32 else if q ∈ r.l.map (·.1) then 33 else if 1000 ≤ r.l.length then 2 else 0
def askR (r : Rl) (q : Qn) (t : Int) : Rl := if askE r q t = 0 then r.asked q t else r
theorem ask_any {B : Nat} (p : Nat) (mb : Option Nat) (r : Rl) (q : Qn) (t : Int) (w : World) (h : RW B w p mb r) (hB : B ≤ w.heap.size) (hw : OkI q.who) (ht : OkI t) :
    Calls Try.prog 20 #[.pointer (some ⟨p, 0, none⟩), .int .i64 q.who, .int .i64 t, .string q.text] w fun e w' => e = .returned (.int .i64 (askE r q t)) ∧ ∃ mb', RW B w' p mb' (askR r q t) ∧ KW p mb w w' ∧ (mb' = mb ∨ ∃ b, mb' = some b ∧ w.heap.size ≤ b) := by
  have hcl : ∀ (n : Int), n ≠ 0 → askE r q t = n → (Calls Try.prog 20 #[.pointer (some ⟨p, 0, none⟩), .int .i64 q.who, .int .i64 t, .string q.text] w fun e w' => e = .returned (.int .i64 n) ∧ Ext w w') →
      Calls Try.prog 20 #[.pointer (some ⟨p, 0, none⟩), .int .i64 q.who, .int .i64 t, .string q.text] w fun e w' => e = .returned (.int .i64 (askE r q t)) ∧ ∃ mb', RW B w' p mb' (askR r q t) ∧ KW p mb w w' ∧ (mb' = mb ∨ ∃ b, mb' = some b ∧ w.heap.size ≤ b) := fun n hn he hc =>
    hc.mono fun _ _ ⟨h1, h2⟩ => ⟨by rw [h1, he], mb, by unfold askR; rw [if_neg (by rw [he]; exact hn)]; exact h.ext h2, KW.of_ext h2, .inl rfl⟩
  by_cases h1 : q.text.size = 0 ∨ 4000 < q.text.size
  · exact hcl 1 (by decide) (by unfold askE; rw [if_pos h1]) (ask_bad p q.who t q.text w h1)
  have hs : ¬ q.text.size = 0 := fun e => h1 (.inl e)
  have hs4 : q.text.size ≤ 4000 := by omega
  by_cases h2 : r.closed = true
  · exact hcl 31 (by decide) (by unfold askE; rw [if_neg h1, if_pos h2]) (ask_closed p mb r q t w h hs hs4 h2)
  have hc : r.closed = false := by simpa using h2
  by_cases h3 : r.timed = true ∧ t < r.last
  · exact hcl 32 (by decide) (by unfold askE; rw [if_neg h1, if_neg h2, if_pos h3]) (ask_old p mb r q t w h hs hs4 hc h3)
  by_cases h4 : q ∈ r.l.map (·.1)
  · exact hcl 33 (by decide) (by unfold askE; rw [if_neg h1, if_neg h2, if_neg h3, if_pos h4]) (ask_twice p mb r q t w h hs ⟨hw, hs4⟩ hc h3 h4)
  by_cases h5 : 1000 ≤ r.l.length
  · exact hcl 2 (by decide) (by unfold askE; rw [if_neg h1, if_neg h2, if_neg h3, if_neg h4, if_pos h5]) (ask_many p mb r q t w h hs ⟨hw, hs4⟩ hc h3 h4 h5)
  have he : askE r q t = 0 := by unfold askE; rw [if_neg h1, if_neg h2, if_neg h3, if_neg h4, if_neg h5]
  refine (ask_ok p mb r q t w h hB hs ⟨hw, hs4⟩ ht hc h3 h4 h5).mono ?_
  rintro e w' ⟨rfl, mb', k1, k2, k3⟩
  exact ⟨by rw [he], mb', by unfold askR; rw [if_pos he]; exact k1, k2, k3⟩
theorem BatR.mono {n n' : Nat} {w : World} {v : Value} {o : Option (List ByteArray)} (h : BatR n w v o) (hn : n' ≤ n) : BatR n' w v o := by
  cases o with
  | none => exact h
  | some ts =>
    obtain ⟨g, u, h1, h2, h3, h4⟩ := h
    refine ⟨g, u, h1, Nat.le_trans hn h2, h3, h4.1, h4.2.imp id ?_⟩
    rintro ⟨g, cp, cur, e1, e2, e3⟩
    exact ⟨g, cp, cur, e1, Nat.le_trans hn e2, e3⟩
theorem BatR.keep {n : Nat} {w w' : World} {v : Value} {o : Option (List ByteArray)} (h : BatR n w v o) (hk : ∀ k, n ≤ k → k < w.heap.size → w'.heap[k]? = w.heap[k]?) : BatR n w' v o := by
  cases o with
  | none => exact h
  | some ts =>
    obtain ⟨g, u, h1, h2, h3, h4⟩ := h
    refine ⟨g, u, h1, h2, (hk _ h2 (Rg.lt_of_heap h3)).trans h3, h4.1, h4.2.imp id ?_⟩
    rintro ⟨g, cp, cur, e1, e2, e3, e4⟩
    exact ⟨g, cp, cur, e1, e2, (hk _ e2 (Rg.lt_of_heap e3)).trans e3, e4⟩
noncomputable def tickF (r : Rl) (t : Int) : Option (List ByteArray) × Rl :=
  if r.closed = true ∨ r.timed = true ∧ t < r.last then (none, r) else giveF { r with last := t, timed := true } (fun z => decide (z < perF r.every t))
noncomputable def closeF (r : Rl) : Option (List ByteArray) × Rl :=
  if r.closed = true then (none, r) else ((giveF r fun _ => true).1, { (giveF r fun _ => true).2 with l := [], closed := true })
theorem tick_nil (t : Int) (w : World) : Calls Try.prog 16 #[.pointer none, .int .i64 t] w fun e w' => e = .returned (.slice none 0 0) ∧ w' = w := by
  go_enter Try.func16, Try.ntmps16
  go_wp2
  go_ret
  exact ⟨rfl, rfl⟩
theorem close_nil (w : World) : Calls Try.prog 18 #[.pointer none] w fun e w' => e = .returned (.slice none 0 0) ∧ w' = w := by
  go_enter Try.func18, Try.ntmps18
  go_wp2
  go_ret
  exact ⟨rfl, rfl⟩
set_option maxRecDepth 100000 in
set_option maxHeartbeats 4000000 in
theorem tick_any {B : Nat} (p : Nat) (mb : Option Nat) (r : Rl) (t : Int) (w : World) (h : RW B w p mb r) (ht : OkI t) :
    Calls Try.prog 16 #[.pointer (some ⟨p, 0, none⟩), .int .i64 t] w fun e w' => ∃ v, e = .returned v ∧ BatR w.heap.size w' v (tickF r t).1 ∧ RW B w' p mb (tickF r t).2 ∧ KW p mb w w' := by
  obtain ⟨-, -, c2, c3, c4, c5⟩ := Rl.cells_at h.row
  have f3 := (Rg.cells_of h.row).2.1 3
  have f4 := (Rg.cells_of h.row).2.1 4
  have hO := old_any p mb r t w h.row
  have hpl := h.lt
  have HH := Lib.hid h; have HT := Lib.hid ht
  cases hc : r.closed with
  | true =>
    have HV : Hid (tickF r t = (none, r)) := Lib.hid (by unfold tickF; rw [if_pos (.inl hc)])
    rw [hc] at c5
    clear h ht hc hO
    go_enter Try.func16, Try.ntmps16
    go_wp2
    go_ret
    exact ⟨_, rfl, by rw [HV.out]; rfl, by rw [HV.out]; exact HH.out, KW.refl _ _ _⟩
  | false =>
    rw [hc] at c5
    cases ho : (r.timed && decide (t < r.last)) with
    | true =>
      have HV : Hid (tickF r t = (none, r)) := Lib.hid (by unfold tickF; rw [if_pos (.inr (by simpa using ho))])
      rw [ho] at hO
      clear h ht hc ho
      go_enter Try.func16, Try.ntmps16
      go_wp2_with (go_at_call 26; (with_reducible refine hO.mono ?_); rintro e w1 ⟨rfl, rfl⟩)
      go_ret
      exact ⟨_, rfl, by rw [HV.out]; rfl, by rw [HV.out]; exact HH.out, KW.refl _ _ _⟩
    | false =>
      have hno : ¬ (r.closed = true ∨ r.timed = true ∧ t < r.last) := by
        rw [hc]
        rintro (h | ⟨h1, h2⟩)
        · cases h
        · simp [h1, h2] at ho
      have HV : Hid (tickF r t = giveF { r with last := t, timed := true } (fun z => decide (z < perF r.every t))) := Lib.hid (by unfold tickF; rw [if_neg hno])
      rw [ho] at hO
      clear h ht hc ho hno
      go_enter Try.func16, Try.ntmps16
      go_upto_region 4 with (go_at_call 26; (with_reducible refine hO.mono ?_); rintro e w1 ⟨rfl, rfl⟩)
      have hVrow : ((w1.setCell ⟨p, 3, none⟩ (.int .i64 t)).setCell ⟨p, 4, none⟩ (.bool true)).heap[p]? = some (.cells (({ r with last := t, timed := true } : Rl).cells mb) 56) := by
        have h1 := heap_setCell_row (o := 3) (.int .i64 t) HH.out.row
        exact heap_setCell_row (o := 4) (.bool true) h1
      have hVK : KW p mb w1 ((w1.setCell ⟨p, 3, none⟩ (.int .i64 t)).setCell ⟨p, 4, none⟩ (.bool true)) := ((KW.refl _ _ _).setCell _).setCell _
      have hVM : MQ B ((w1.setCell ⟨p, 3, none⟩ (.int .i64 t)).setCell ⟨p, 4, none⟩ (.bool true)) mb r.l := HH.out.map.of_block fun b e => by
        have hb : b ≠ p := fun e2 => HH.out.ne (by rw [e, e2])
        rw [heap_setCell_other _ hb, heap_setCell_other _ hb]
      have hVR : RW B ((w1.setCell ⟨p, 3, none⟩ (.int .i64 t)).setCell ⟨p, 4, none⟩ (.bool true)) p mb { r with last := t, timed := true } := ⟨HH.out.at_, hVrow, hVM, ⟨HH.out.ok.least, HH.out.ok.every, HT.out, HH.out.ok.per, HH.out.ok.len⟩⟩
      generalize (w1.setCell ⟨p, 3, none⟩ (.int .i64 t)).setCell ⟨p, 4, none⟩ (.bool true) = V at *
      have hPer := period_any p mb _ t V hVrow HH.out.ok.every HT.out
      change Calls Try.prog 27 _ _ (fun e w' => e = .returned (.int .i64 (perF r.every t)) ∧ w' = V) at hPer
      generalize perF r.every t = per at *
      have hxb : Ext V (V.alloc (.cells #[.int .i64 per] 3)) := Ext.alloc (Ext.refl _) _
      have hcb : (V.alloc (.cells #[.int .i64 per] 3)).cell? ⟨V.heap.size, 0, none⟩ = some (.int .i64 per) := cell_of_row _ _ 0 _ _ _ (alloc_at V _)
      have hG := give_any p mb _ 29 #[.pointer (some ⟨V.heap.size, 0, none⟩)] _ (V.alloc (.cells #[.int .i64 per] 3)) (hVR.ext hxb) (due_before V.heap.size per _ hcb)
      have HG := Lib.hid hG; have HP := Lib.hid hPer; have HVK := Lib.hid hVK; have HXB := Lib.hid hxb
      clear hVrow hVM hVR hPer hG hVK hxb hcb c2 c3 c4 c5 f3 f4 hO
      go_wp2_with (first
        | (go_at_call 27; (with_reducible refine HP.out.mono ?_); rintro e w5 ⟨rfl, hw5⟩; have h9 := hw5.symm; clear hw5; subst h9)
        | (go_at_call 28; (with_reducible refine HG.out.mono ?_); rintro e w6 ⟨v, rfl, hb6, hr6, hk6⟩))
      go_ret
      refine ⟨_, rfl, ?_, ?_, (HVK.out.trans (KW.of_ext HXB.out)).trans hk6⟩
      · rw [HV.out]
        exact hb6.mono (Nat.le_trans HVK.out.size HXB.out.size)
      · rw [HV.out]
        exact hr6
set_option maxRecDepth 100000 in
set_option maxHeartbeats 4000000 in
theorem close_any {B : Nat} (p : Nat) (mb : Option Nat) (r : Rl) (w : World) (h : RW B w p mb r) :
    Calls Try.prog 18 #[.pointer (some ⟨p, 0, none⟩)] w fun e w' => ∃ v, e = .returned v ∧ BatR w.heap.size w' v (closeF r).1 ∧ (∃ mb', RW B w' p mb' (closeF r).2 ∧ (mb' = mb ∨ mb' = none)) ∧ KW p mb w w' := by
  obtain ⟨-, -, -, -, -, c5⟩ := Rl.cells_at h.row
  have hpl := h.lt
  have HH := Lib.hid h
  cases hc : r.closed with
  | true =>
    have HV : Hid (closeF r = (none, r)) := Lib.hid (by unfold closeF; rw [if_pos hc])
    rw [hc] at c5
    clear h hc
    go_enter Try.func18, Try.ntmps18
    go_wp2
    go_ret
    exact ⟨_, rfl, by rw [HV.out]; rfl, ⟨mb, by rw [HV.out]; exact HH.out, .inl rfl⟩, KW.refl _ _ _⟩
  | false =>
    have HV : Hid (closeF r = ((giveF r fun _ => true).1, { (giveF r fun _ => true).2 with l := [], closed := true })) := Lib.hid (by unfold closeF; rw [if_neg (by rw [hc]; decide)])
    rw [hc] at c5
    have HG := Lib.hid (give_any p mb r 32 #[] _ w h (due_all w))
    clear h hc
    obtain ⟨G, hG⟩ : ∃ G, G = giveF r fun _ => true := ⟨_, rfl⟩
    rw [← hG] at HG HV
    clear hG
    go_enter Try.func18, Try.ntmps18
    go_upto_region 4 with (go_at_call 28; (with_reducible refine HG.out.mono ?_); rintro e w6 ⟨v, rfl, hb6, hr6, hk6⟩)
    have f2 := (Rg.cells_of hr6.row).2.1 2
    have f5 := (Rg.cells_of hr6.row).2.1 5
    obtain ⟨-, -, d2, -, -, d5⟩ := Rl.cells_at hr6.row
    have hpl6 := hr6.lt
    have HB6 := Lib.hid hb6; have HR6 := Lib.hid hr6; have HK6 := Lib.hid hk6
    clear hb6 hr6 hk6
    go_wp2
    go_ret
    refine ⟨_, rfl, ?_, ⟨none, ?_, .inr rfl⟩, (HK6.out.setCell _).setCell _⟩
    · rw [HV.out]
      exact HB6.out.keep fun k hk _ => by rw [heap_setCell_other _ (by omega), heap_setCell_other _ (by omega)]
    · rw [HV.out]
      have h1 := heap_setCell_row (o := 2) (.map none) HR6.out.row
      have h2 := heap_setCell_row (o := 5) (.bool true) h1
      exact ⟨HR6.out.at_, h2, rfl, ⟨HR6.out.ok.least, HR6.out.ok.every, HR6.out.ok.last, by simp, by simp⟩⟩
end Go.Proofs.Ytbeoihjfjkbfhaa

namespace Go.Proofs.Ytbeoihjfjkbfhaa
set_option linter.unusedVariables false
set_option linter.unusedSimpArgs false
open Go.RowKit
/-- A relay at p, from B on. -/
def RX (B : Nat) (w : World) (p : Nat) (r : Rl) : Prop := B ≤ w.heap.size ∧ ∃ mb, RW B w p mb r
theorem RX.ext {B : Nat} {w w' : World} {p : Nat} {r : Rl} (h : RX B w p r) (x : Ext w w') : RX B w' p r := by
  obtain ⟨hB, mb, h⟩ := h
  exact ⟨Nat.le_trans hB x.size, mb, h.ext x⟩
theorem new_x (least every : Int) (w : World) (hl : OkI least) (he : OkI every) :
    Calls Try.prog 12 #[.int .i64 least, .int .i64 every] w fun e w' => e = .returned (.pointer (some ⟨w.heap.size, 0, none⟩)) ∧ RX w.heap.size w' w.heap.size ⟨least, every, [], 0, false, false⟩ ∧ Ext w w' :=
  (new_any least every w hl he).mono fun _ _ ⟨h1, h2, h3⟩ => ⟨h1, ⟨h3.size, none, h2⟩, h3⟩
theorem ask_x {B : Nat} {p : Nat} {r : Rl} {w : World} (h : RX B w p r) (q : Qn) (t : Int) (hw : OkI q.who) (ht : OkI t) (n : Int) (r' : Rl) (hn : askE r q t = n) (hr : askR r q t = r') :
    Calls Try.prog 20 #[.pointer (some ⟨p, 0, none⟩), .int .i64 q.who, .int .i64 t, .string q.text] w fun e w' => e = .returned (.int .i64 n) ∧ RX B w' p r' ∧ Below B w w' := by
  obtain ⟨hB, mb, h⟩ := h
  subst hn hr
  refine (ask_any p mb r q t w h hB hw ht).mono ?_
  rintro e w' ⟨h1, mb', h2, h3, h4⟩
  exact ⟨h1, ⟨Nat.le_trans hB h3.size, mb', h2⟩, h3.below hB h.at_ fun b e => (h.map.lt b e).1⟩
theorem tick_x {B : Nat} {p : Nat} {r : Rl} {w : World} (h : RX B w p r) (t : Int) (ht : OkI t) (o : Option (List ByteArray)) (r' : Rl) (ho : (tickF r t).1 = o) (hr : (tickF r t).2 = r') :
    Calls Try.prog 16 #[.pointer (some ⟨p, 0, none⟩), .int .i64 t] w fun e w' => ∃ v, e = .returned v ∧ BatR w.heap.size w' v o ∧ RX B w' p r' ∧ Below B w w' := by
  obtain ⟨hB, mb, h⟩ := h
  subst ho hr
  refine (tick_any p mb r t w h ht).mono ?_
  rintro e w' ⟨v, h1, h2, h3, h4⟩
  exact ⟨v, h1, h2, ⟨Nat.le_trans hB h4.size, mb, h3⟩, h4.below hB h.at_ fun b e => (h.map.lt b e).1⟩
theorem close_x {B : Nat} {p : Nat} {r : Rl} {w : World} (h : RX B w p r) (o : Option (List ByteArray)) (r' : Rl) (ho : (closeF r).1 = o) (hr : (closeF r).2 = r') :
    Calls Try.prog 18 #[.pointer (some ⟨p, 0, none⟩)] w fun e w' => ∃ v, e = .returned v ∧ BatR w.heap.size w' v o ∧ RX B w' p r' ∧ Below B w w' := by
  obtain ⟨hB, mb, h⟩ := h
  subst ho hr
  refine (close_any p mb r w h).mono ?_
  rintro e w' ⟨v, h1, h2, ⟨mb', h3, -⟩, h4⟩
  exact ⟨v, h1, h2, ⟨Nat.le_trans hB h4.size, mb', h3⟩, h4.below hB h.at_ fun b e => (h.map.lt b e).1⟩
theorem waiting_x {B : Nat} {p : Nat} {r : Rl} {w : World} (h : RX B w p r) (n : Nat) (hn : r.l.length = n) :
    Calls Try.prog 22 #[.pointer (some ⟨p, 0, none⟩)] w fun e w' => e = .returned (.int .i64 n) ∧ w' = w := by
  obtain ⟨hB, mb, h⟩ := h
  subst hn
  exact waiting_any p mb r w h
theorem Below.then {B : Nat} {a b c : World} (h : Below B a b) (k : Below B b c) : Below B a c := Below.trans h k
def tA : ByteArray := ⟨#[97, 63]⟩
def tB : ByteArray := ⟨#[98, 63]⟩
def tC : ByteArray := ⟨#[99, 63]⟩
def tD : ByteArray := ⟨#[100, 63]⟩
def tE : ByteArray := ⟨#[101, 63]⟩
def s0 : Rl := ⟨2, 10, [], 0, false, false⟩
def s1 : Rl := ⟨2, 10, [(⟨1, tA⟩, 0)], 3, true, false⟩
def s2 : Rl := ⟨2, 10, [(⟨1, tA⟩, 0), (⟨1, tB⟩, 0)], 4, true, false⟩
def s3 : Rl := ⟨2, 10, [(⟨1, tA⟩, 0), (⟨1, tB⟩, 0)], 12, true, false⟩
def s4 : Rl := ⟨2, 10, [(⟨1, tA⟩, 0), (⟨1, tB⟩, 0), (⟨2, tC⟩, 1)], 13, true, false⟩
def s5 : Rl := ⟨2, 10, [(⟨1, tA⟩, 0), (⟨1, tB⟩, 0), (⟨2, tC⟩, 1)], 19, true, false⟩
def s6 : Rl := ⟨2, 10, [], 20, true, false⟩
def s7 : Rl := ⟨2, 10, [(⟨3, tD⟩, 2)], 21, true, false⟩
def s8 : Rl := ⟨2, 10, [], 21, true, true⟩
theorem e1 : askE s0 ⟨1, tA⟩ 3 = 0 := by decide
theorem e2 : askE s1 ⟨1, tB⟩ 4 = 0 := by
  unfold askE
  rw [if_neg (by decide), if_neg (by decide), if_neg (by decide), if_neg (by simp [s1, tA, tB]), if_neg (by decide)]
theorem e4 : askE s3 ⟨2, tC⟩ 13 = 0 := by
  unfold askE
  rw [if_neg (by decide), if_neg (by decide), if_neg (by decide), if_neg (by simp [s3, tA, tB, tC]), if_neg (by decide)]
theorem e6 : askE s6 ⟨3, tD⟩ 19 = 32 := by decide
theorem e7 : askE s6 ⟨3, ⟨#[]⟩⟩ 21 = 1 := by decide
theorem e8 : askE s6 ⟨3, tD⟩ 21 = 0 := by decide
theorem e9 : askE s8 ⟨4, tE⟩ 30 = 31 := by decide
theorem r1 : askR s0 ⟨1, tA⟩ 3 = s1 := by unfold askR; rw [if_pos e1]; rfl
theorem r2 : askR s1 ⟨1, tB⟩ 4 = s2 := by unfold askR; rw [if_pos e2]; rfl
theorem r4 : askR s3 ⟨2, tC⟩ 13 = s4 := by unfold askR; rw [if_pos e4]; rfl
theorem r6 : askR s6 ⟨3, tD⟩ 19 = s6 := by unfold askR; rw [if_neg (by rw [e6]; decide)]
theorem r7 : askR s6 ⟨3, ⟨#[]⟩⟩ 21 = s6 := by unfold askR; rw [if_neg (by rw [e7]; decide)]
theorem r8 : askR s6 ⟨3, tD⟩ 21 = s7 := by unfold askR; rw [if_pos e8]; rfl
theorem r9 : askR s8 ⟨4, tE⟩ 30 = s8 := by unfold askR; rw [if_neg (by rw [e9]; decide)]
theorem k3 : tickF s2 12 = (none, s3) := by
  unfold tickF
  rw [if_neg (by decide)]
  unfold giveF
  rw [if_pos (by decide)]
  rfl
theorem k5 : tickF s4 19 = (none, s5) := by
  unfold tickF
  rw [if_neg (by decide)]
  unfold giveF
  rw [if_pos (by decide)]
  rfl
theorem k6 : tickF s5 20 = (some (srtT [tA, tB, tC]), s6) := by
  unfold tickF
  rw [if_neg (by decide)]
  unfold giveF
  rw [if_neg (by decide)]
  rfl
theorem k8 : closeF s7 = (none, s8) := by
  unfold closeF
  rw [if_neg (by decide)]
  unfold giveF
  rw [if_pos (by decide)]
  rfl
end Go.Proofs.Ytbeoihjfjkbfhaa

namespace Go.Proofs.Ytbeoihjfjkbfhaa
set_option linter.unusedVariables false
set_option linter.unusedSimpArgs false
open Go.RowKit
theorem row_slice {B E sz n : Nat} {w : World} {v : Value} {xs : List Value} (h : w.ownsRow B E sz v n xs) : ∃ a c, v = .slice a n c := by
  rcases h.2 with ⟨rfl, rfl⟩ | ⟨g, cap, cur, rfl, -⟩
  · exact ⟨_, _, rfl⟩
  · exact ⟨_, _, rfl⟩
theorem okI_small {z : Int} (h : -1000000 ≤ z ∧ z ≤ 1000000) : OkI z := ⟨by omega, by omega⟩
set_option maxRecDepth 100000 in
set_option maxHeartbeats 4000000 in
theorem sanity_any (w : World) : Calls Try.prog 11 #[] w fun e w' => e = .returned (.bool true) ∧ Ext w w' := by
  obtain ⟨p, hp⟩ : ∃ p, p = w.heap.size := ⟨_, rfl⟩
  have hN := new_x 2 10 w (okI_small (by omega)) (okI_small (by omega))
  rw [← hp] at hN
  have HP := Lib.hid hp
  clear hp
  go_enter Try.func11, Try.ntmps11
  go_upto_region 7 with (first
    | (go_at_call 12; refine hN.mono ?_; rintro e w1 ⟨rfl, hr0, hx0⟩)
    | (go_at_call 20; refine (ask_x hr0 ⟨1, tA⟩ 3 (okI_small (by decide)) (okI_small (by decide)) 0 s1 e1 r1).mono ?_; rintro e w2 ⟨rfl, hr1, hb1⟩; clear hr0)
    | (go_at_call 20; refine (ask_x hr1 ⟨1, tB⟩ 4 (okI_small (by decide)) (okI_small (by decide)) 0 s2 e2 r2).mono ?_; rintro e w3 ⟨rfl, hr2, hb2⟩; clear hr1)
    | (go_at_call 16; refine (tick_x hr2 12 (okI_small (by decide)) none s3 (by rw [k3]) (by rw [k3])).mono ?_; rintro e w4 ⟨v4, rfl, hv4, hr3, hb3⟩; have h9 : v4 = .slice none 0 0 := hv4; clear hv4; subst h9; clear hr2)
    | (go_at_call 20; refine (ask_x hr3 ⟨2, tC⟩ 13 (okI_small (by decide)) (okI_small (by decide)) 0 s4 e4 r4).mono ?_; rintro e w5 ⟨rfl, hr4, hb4⟩; clear hr3)
    | (go_at_call 16; refine (tick_x hr4 19 (okI_small (by decide)) none s5 (by rw [k5]) (by rw [k5])).mono ?_; rintro e w6 ⟨v6, rfl, hv6, hr5, hb5⟩; have h9 : v6 = .slice none 0 0 := hv6; clear hv6; subst h9; clear hr4)
    | (go_at_call 22; refine (waiting_x hr5 3 rfl).mono ?_; rintro e w7 ⟨rfl, hw7⟩; have h9 := hw7.symm; clear hw7; subst h9)
    | (go_at_call 16; refine (tick_x hr5 20 (okI_small (by decide)) _ s6 (by rw [k6]) (by rw [k6])).mono ?_; rintro e w8 ⟨v8, rfl, ⟨g8, u8, rfl, hg8, hc8, hu8⟩, hr6, hb6⟩; clear hr5))
  obtain ⟨ua, uc, rfl⟩ : ∃ a c, u8 = .slice a 3 c := by
    obtain ⟨a, c, h⟩ := row_slice hu8
    rw [srtT_len] at h
    exact ⟨a, c, h⟩
  have c8 : World.cell? _ ⟨g8, 0, none⟩ = some (Value.slice ua 3 uc) := cell_of_row _ _ 0 _ _ _ hc8
  have hl8 := Rg.lt_of_heap hc8
  clear hu8 hc8
  go_wp2_with (first
    | (go_at_call 22; refine (waiting_x hr6 0 rfl).mono ?_; rintro e w9 ⟨rfl, hw9⟩; have h9 := hw9.symm; clear hw9; subst h9)
    | (go_at_call 20; refine (ask_x hr6 ⟨3, tD⟩ 19 (okI_small (by decide)) (okI_small (by decide)) 32 s6 e6 r6).mono ?_; rintro e w10 ⟨rfl, hr7, hb7⟩; clear hr6)
    | (go_at_call 20; refine (ask_x hr7 ⟨3, ⟨#[]⟩⟩ 21 (okI_small (by decide)) (okI_small (by decide)) 1 s6 e7 r7).mono ?_; rintro e w11 ⟨rfl, hr8, hb8⟩; clear hr7)
    | (go_at_call 20; refine (ask_x hr8 ⟨3, tD⟩ 21 (okI_small (by decide)) (okI_small (by decide)) 0 s7 e8 r8).mono ?_; rintro e w12 ⟨rfl, hr9, hb9⟩; clear hr8)
    | (go_at_call 18; refine (close_x hr9 none s8 (by rw [k8]) (by rw [k8])).mono ?_; rintro e w13 ⟨v13, rfl, hv13, hr10, hb10⟩; have h9 : v13 = .slice none 0 0 := hv13; clear hv13; subst h9; clear hr9)
    | (go_at_call 20; refine (ask_x hr10 ⟨4, tE⟩ 30 (okI_small (by decide)) (okI_small (by decide)) 31 s8 e9 r9).mono ?_; rintro e w14 ⟨rfl, hr11, hb11⟩; clear hr10))
  go_ret
  refine ⟨rfl, ?_⟩
  have hall := Below.trans hb1 (Below.trans hb2 (Below.trans hb3 (Below.trans hb4 (Below.trans hb5 (Below.trans hb6 (Below.trans hb7 (Below.trans hb8 (Below.trans hb9 (Below.trans hb10 hb11)))))))))
  exact hx0.below_trans (HP.out ▸ hall)
end Go.Proofs.Ytbeoihjfjkbfhaa

namespace Go.Proofs.Ytbeoihjfjkbfhaa
set_option linter.unusedVariables false
set_option linter.unusedSimpArgs false
open Go.RowKit
theorem tmod_bd (n : Int) {m : Int} (hm : 0 < m) : -m < n.tmod m ∧ n.tmod m < m := by
  have h1 := Int.tmod_lt_of_pos n hm
  have h2 := Int.tmod_lt_of_pos (-n) hm
  rw [Int.neg_tmod] at h2
  exact ⟨by omega, h1⟩
theorem modZ_eq (n m : Int) : (n.tmod m + m) % m = n % m := by
  rw [Int.add_emod_right]
  conv => rhs; rw [← Int.tmod_add_mul_tdiv n m]
  rw [Int.add_mul_emod_self_left]
theorem modZ_bd (n : Int) {m : Int} (hm : 0 < m) : 0 ≤ n % m ∧ n % m < m :=
  ⟨Int.emod_nonneg _ (by omega), Int.emod_lt_of_pos _ hm⟩

set_option maxHeartbeats 400000 in
theorem mod_any (n m : Int) (hm : 0 < m) (hm2 : m ≤ 1000000) (h : OkI n) (w : World) :
    Calls Try.prog 24 #[.int .i64 n, .int .i64 m] w fun e w' => e = .returned (.int .i64 (n % m)) ∧ w = w' := by
  obtain ⟨h1, h2⟩ := h
  have hm0 : ¬ m = 0 := by omega
  have b := tmod_bd n hm
  have HE := Lib.hid (modZ_eq n m)
  go_enter Try.func24, Try.ntmps24
  go_wp2
  go_ret
  exact ⟨by rw [HE.out]; rfl, rfl⟩

def txtF (n : Int) : ByteArray := if n % 12 = 11 then ⟨#[]⟩ else ⟨#[UInt8.ofNat (97 + n % 12).toNat, 63]⟩
set_option maxRecDepth 100000 in
set_option maxHeartbeats 1000000 in
theorem text_any (n : Int) (w : World) (h : OkI n) : Calls Try.prog 25 #[.int .i64 n] w fun e w' => e = .returned (.string (txtF n)) ∧ Ext w w' := by
  have hM := mod_any n 12 (by decide) (by decide) h w
  obtain ⟨k, hk⟩ : ∃ k, k = n % 12 := ⟨_, rfl⟩
  have k0 : 0 ≤ k := by omega
  have k1 : k < 12 := by omega
  have HT : Hid (txtF n = if k = 11 then ⟨#[]⟩ else ⟨#[UInt8.ofNat (97 + k).toNat, 63]⟩) := Lib.hid (by rw [hk]; rfl)
  rw [← hk] at hM
  clear hk
  by_cases hk11 : k = 11
  · subst hk11
    rw [HT.out, if_pos rfl]
    go_enter Try.func25, Try.ntmps25
    go_wp2_with (go_at_call 24; (with_reducible refine hM.mono ?_); rintro e w1 ⟨rfl, rfl⟩)
    go_ret
    exact ⟨rfl, Ext.refl _⟩
  · have HK := Lib.hid hk11
    have hcv := run_convert_bytes_arg (P := Try.prog) (w.alloc (.cells #[.int .u8 (97 + k)] 5)) 51 5 Try.underlying51 Try.underlying5 w.heap.size 0 1 1 [97 + k] rfl (fun i hi => by
      obtain rfl : i = 0 := by omega
      exact cell_of_row _ _ 0 _ _ _ (alloc_at w _)) 9 Try.underlying9
    obtain ⟨s1, hs1⟩ : ∃ s1, s1 = strOfNums [97 + k] := ⟨_, rfl⟩
    rw [← hs1] at hcv
    have hsz : s1.size = 1 := by rw [hs1, strOfNums_size]; rfl
    have HS1 : Hid (s1 ++ ⟨#[63]⟩ = txtF n) := Lib.hid (by
      rw [HT.out, if_neg hk11, hs1]
      rfl)
    clear hs1
    go_enter Try.func25, Try.ntmps25
    go_wp2_with (go_at_call 24; (with_reducible refine hM.mono ?_); rintro e w1 ⟨rfl, rfl⟩)
    go_ret
    exact ⟨by rw [← HS1.out]; rfl, Ext.alloc (Ext.refl _) _⟩
end Go.Proofs.Ytbeoihjfjkbfhaa

namespace Go.Proofs.Ytbeoihjfjkbfhaa
set_option linter.unusedVariables false
set_option linter.unusedSimpArgs false
open Go.RowKit
theorem str_at {w : World} {base : Option Addr} {n c : Nat} {l : List ByteArray} (h : SR celS 1 w (.slice base n c) l) (k : Nat) (hk : k < l.length) :
    ∃ b, base = some ⟨b, 0, none⟩ ∧ b < w.heap.size ∧ w.cell? ⟨b, k, none⟩ = some (.string l[k]) := by
  obtain ⟨b, h1, h2, h3⟩ := h.block k hk
  have h4 := h3 k hk 0 _ rfl
  rw [Nat.mul_one, Nat.add_zero] at h4
  exact ⟨b, h1, World.block_lt_of_cell? w _ h4, h4⟩
theorem same_none (w : World) : Calls Try.prog 15 #[.slice none 0 0, .slice none 0 0] w fun e w' => e = .returned (.bool true) ∧ Ext w w' := by
  go_enter Try.func15, Try.ntmps15
  go_wp2_with (fail)
  go_loopw [5] (fun k wr => k = .int .i64 0 ∧ w = wr) (fun _ _ => 0)
  case atStart => exact ⟨rfl, rfl⟩
  case round =>
    obtain ⟨rfl, rfl⟩ := hrel
    go_wp2_with (fail)
    go_ret
    exact ⟨rfl, Ext.refl _⟩
theorem same_n1 (a : Option Addr) (w : World) : Calls Try.prog 15 #[.slice none 0 0, .slice a 1 1] w fun e w' => e = .returned (.bool false) ∧ Ext w w' := by
  go_enter Try.func15, Try.ntmps15
  go_wp2
  go_ret
  exact ⟨rfl, Ext.refl _⟩
theorem same_1n (a : Option Addr) (w : World) : Calls Try.prog 15 #[.slice a 1 1, .slice none 0 0] w fun e w' => e = .returned (.bool false) ∧ Ext w w' := by
  go_enter Try.func15, Try.ntmps15
  go_wp2
  go_ret
  exact ⟨rfl, Ext.refl _⟩
theorem take_eq_step {α : Type} {l m : List α} {k : Nat} (hl : k < l.length) (hm : k < m.length) (h : l.take k = m.take k) (he : l[k] = m[k]) : l.take (k + 1) = m.take (k + 1) := by
  rw [List.take_succ_eq_append_getElem hl, List.take_succ_eq_append_getElem hm, h, he]
set_option maxRecDepth 100000 in
set_option maxHeartbeats 4000000 in
theorem same_some (g1 g2 : Nat) (u1 u2 : Value) (l m : List ByteArray) (w : World) (h1 : w.cell? ⟨g1, 0, none⟩ = some u1) (h2 : w.cell? ⟨g2, 0, none⟩ = some u2) (hl : SR celS 1 w u1 l) (hm : SR celS 1 w u2 m) :
    Calls Try.prog 15 #[.slice (some ⟨g1, 0, none⟩) 1 1, .slice (some ⟨g2, 0, none⟩) 1 1] w fun e w' => e = .returned (.bool (decide (l = m))) ∧ Ext w w' := by
  obtain ⟨a1, c1, rfl⟩ := hl.form
  obtain ⟨a2, c2, rfl⟩ := hm.form
  have hle1 := hl.le; have hle2 := hm.le
  have b1 := World.block_lt_of_cell? w _ h1; have b2 := World.block_lt_of_cell? w _ h2
  obtain ⟨R, hR⟩ : ∃ R, R = decide (l = m) := ⟨_, rfl⟩
  rw [← hR]
  have HR := Lib.hid hR
  clear hR
  go_enter Try.func15, Try.ntmps15
  go_wp2_with (fail)
  go_loopw [5] (fun k wr => ∃ i : Nat, k = .int .i64 i ∧ i ≤ 1 ∧ Hid (i = 1 → l = m) ∧ Ext w wr) (fun k _ => 1 - (iof k).toNat)
  case atStart => exact ⟨0, rfl, by omega, Lib.hid (by omega), Ext.refl _⟩
  case round =>
    obtain ⟨i, rfl, hi, HI, hx⟩ := hrel
    by_cases hi1 : i = 1
    · subst hi1
      have hlm := HI.out rfl
      have HLM := Lib.hid hlm
      clear hlm
      go_wp2_with (fail)
      go_ret
      exact ⟨by rw [HR.out, decide_eq_true HLM.out]; rfl, hx⟩
    · obtain rfl : i = 0 := by omega
      have d1 := (hx.cells.1 _ _ b1).trans h1
      have d2 := (hx.cells.1 _ _ b2).trans h2
      have e1 : g1 < wr.heap.size := Nat.lt_of_lt_of_le b1 hx.size
      have e2 : g2 < wr.heap.size := Nat.lt_of_lt_of_le b2 hx.size
      have HX := Lib.hid hx
      clear HI hi hi1 hx
      by_cases hlen : l.length = m.length
      · have HLEN := Lib.hid hlen
        have hlz : (l.length : Int) = (m.length : Int) := by omega
        go_upto_region 6 with (fail)
        go_quiet (fail)
        have HX1 := Lib.hid (HX.out.drewN nq)
        have JD1 : Hid ((wr.drewN nq).cell? ⟨g1, 0, none⟩ = some (.slice a1 l.length c1)) := Lib.hid d1
        have JD2 : Hid ((wr.drewN nq).cell? ⟨g2, 0, none⟩ = some (.slice a2 m.length c2)) := Lib.hid d2
        clear d1 d2 e1 e2 hlen
        generalize wr.drewN nq = W1 at *
        go_wp2_with (fail)
        clear hlz
        go_loopw [6] (fun k wq => ∃ j : Nat, k = .int .i64 j ∧ j ≤ l.length ∧ Hid (l.take j = m.take j) ∧ Ext W1 wq) (fun k _ => l.length - (iof k).toNat)
        case atStart => exact ⟨0, rfl, Nat.zero_le _, Lib.hid rfl, Ext.refl _⟩
        case round =>
          obtain ⟨j, rfl, hj, HJ, hxq⟩ := hrel
          rename World => wq
          have f1 : g1 < W1.heap.size := World.block_lt_of_cell? _ _ JD1.out
          have f2 : g2 < W1.heap.size := World.block_lt_of_cell? _ _ JD2.out
          have d1 := (hxq.cells.1 _ _ f1).trans JD1.out
          have d2 := (hxq.cells.1 _ _ f2).trans JD2.out
          have e1 : g1 < wq.heap.size := Nat.lt_of_lt_of_le f1 hxq.size
          have e2 : g2 < wq.heap.size := Nat.lt_of_lt_of_le f2 hxq.size
          clear f1 f2
          by_cases hjl : j < l.length
          · have hjm : j < m.length := by rw [← HLEN.out]; exact hjl
            obtain ⟨p1, rfl, q1, x1⟩ := str_at (hl.ext (HX1.out.trans hxq)) j hjl
            obtain ⟨p2, rfl, q2, x2⟩ := str_at (hm.ext (HX1.out.trans hxq)) j hjm
            have HST := Lib.hid (take_eq_step hjl hjm HJ.out)
            have HNE : Hid (l[j] ≠ m[j] → l ≠ m) := Lib.hid (fun h e => h (by subst e; rfl))
            have HXQ := Lib.hid hxq
            clear HJ hxq
            generalize l[j] = s1 at *
            generalize m[j] = s2 at *
            by_cases hs : s1 = s2
            · subst hs
              have HST2 := Lib.hid (HST.out rfl)
              clear HST HNE
              go_upto_region 11 with (fail)
              go_quiet (fail)
              go_wp2_with (fail)
              exact ⟨⟨j + 1, by simp, by omega, HST2, HXQ.out.drewN _⟩, by simp [iof]; omega⟩
            · have hs2 : ¬ s1.toList = s2.toList := fun e => hs (by rw [ByteArray.toList_eq, ByteArray.toList_eq] at e; exact Go.WideShapes.bytes_inj e)
              have hs3 : (s1.toList == s2.toList) = false := by simpa using hs2
              have HNE2 := Lib.hid (HNE.out hs)
              clear HST HNE hs
              go_upto_region 11 with (fail)
              go_quiet (fail)
              go_wp2_with (fail)
              go_ret
              exact ⟨by rw [HR.out, decide_eq_false HNE2.out]; rfl, (HX1.out.trans HXQ.out).drewN _⟩
          · obtain rfl : j = l.length := by omega
            have hlm : l = m := by
              have := HJ.out
              rw [List.take_length, HLEN.out, List.take_length] at this
              exact this
            have HLM := Lib.hid hlm
            have HXF := Lib.hid (HX1.out.trans hxq)
            clear hlm HJ hxq hjl
            obtain ⟨p1, q1⟩ : ∃ p1, a1 = p1 := ⟨_, rfl⟩
            go_wp2_with (fail)
            exact ⟨⟨1, by simp, by omega, Lib.hid (fun _ => HLM.out), HXF.out⟩, by simp [iof]⟩
      · have hlz : ¬ ((l.length : Int) = (m.length : Int)) := by omega
        go_upto_region 6 with (fail)
        go_quiet (fail)
        go_wp2_with (fail)
        go_ret
        exact ⟨by rw [HR.out, decide_eq_false (fun e => hlen (by rw [e]))]; rfl, HX.out.drewN _⟩
end Go.Proofs.Ytbeoihjfjkbfhaa

namespace Go.Proofs.Ytbeoihjfjkbfhaa
set_option linter.unusedVariables false
set_option linter.unusedSimpArgs false
open Go.RowKit
theorem same_any {n1 n2 : Nat} (v1 v2 : Value) (o1 o2 : Option (List ByteArray)) (w : World) (h1 : BatR n1 w v1 o1) (h2 : BatR n2 w v2 o2) (l1 : ∀ ts, o1 = some ts → ts.length ≤ 1000000) (l2 : ∀ ts, o2 = some ts → ts.length ≤ 1000000) :
    Calls Try.prog 15 #[v1, v2] w fun e w' => e = .returned (.bool (decide (o1 = o2))) ∧ Ext w w' := by
  cases o1 with
  | none =>
    have e1 : v1 = .slice none 0 0 := h1
    subst e1
    cases o2 with
    | none =>
      have e2 : v2 = .slice none 0 0 := h2
      subst e2
      simpa using same_none w
    | some ts =>
      obtain ⟨g, u, rfl, -⟩ := h2
      simpa using same_n1 (some ⟨g, 0, none⟩) w
  | some ts =>
    obtain ⟨g1, u1, rfl, a1, a2, a3⟩ := h1
    cases o2 with
    | none =>
      have e2 : v2 = .slice none 0 0 := h2
      subst e2
      simpa using same_1n (some ⟨g1, 0, none⟩) w
    | some ts2 =>
      obtain ⟨g2, u2, rfl, b1, b2, b3⟩ := h2
      have h := same_some g1 g2 u1 u2 ts ts2 w (cell_of_row _ _ 0 _ _ _ a2) (cell_of_row _ _ 0 _ _ _ b2) (SR.of_row (cs := celS) (fun _ => rfl) a3 (l1 _ rfl)) (SR.of_row (cs := celS) (fun _ => rfl) b3 (l2 _ rfl))
      have e : decide (some ts = some ts2) = decide (ts = ts2) := by simp
      rw [e]
      exact h
structure WI (need n : Int) (r : Rl) : Prop where
  least : r.least = need
  every : r.every = 1
  closed : r.closed = false
  who : ∀ p ∈ r.l, 0 ≤ p.1.who ∧ p.1.who < n
theorem WI.ask {need n : Int} {r : Rl} (h : WI need n r) (q : Qn) (t : Int) (h1 : 0 ≤ q.who) (h2 : q.who < n) : WI need n (askR r q t) := by
  unfold askR
  split
  · refine ⟨h.least, h.every, h.closed, fun p hp => ?_⟩
    rcases List.mem_append.1 hp with hp | hp
    · exact h.who p hp
    · rw [List.mem_singleton] at hp
      subst hp
      exact ⟨h1, h2⟩
  · exact h
theorem dis_few {n : Int} {L : List (Qn × Int)} (h : ∀ p ∈ L, 0 ≤ p.1.who ∧ p.1.who < n) (hn : 0 ≤ n) : ((dis (whos L)).length : Int) ≤ n := by
  have h1 := nodup_le (m := (List.range n.toNat).map (fun k : Nat => (k : Int))) (nodup_dis (whos L)) (fun x hx => by
    obtain ⟨p, hp, rfl⟩ := List.mem_map.1 (mem_dis.1 hx)
    have := h p hp
    exact List.mem_map.2 ⟨p.1.who.toNat, by simp; omega, by omega⟩)
  simp at h1
  omega
theorem give_few {need n : Int} {r : Rl} (h : WI need n r) (hn : 0 ≤ n) (hl : n < need) (due : Int → Bool) : giveF r due = (none, r) := by
  unfold giveF
  rw [if_pos]
  have := dis_few (L := dueL r due) (fun p hp => h.who p (List.mem_filter.1 hp).1) hn
  rw [h.least]
  omega
theorem tick_few {need n : Int} {r : Rl} (h : WI need n r) (hn : 0 ≤ n) (hl : n < need) (t : Int) : (tickF r t).1 = none ∧ WI need n (tickF r t).2 := by
  unfold tickF
  split
  · exact ⟨rfl, h⟩
  · have h2 : WI need n { r with last := t, timed := true } := ⟨h.least, h.every, h.closed, h.who⟩
    rw [give_few h2 hn hl]
    exact ⟨rfl, h2⟩
theorem close_few {need n : Int} {r : Rl} (h : WI need n r) (hn : 0 ≤ n) (hl : n < need) : (closeF r).1 = none ∧ (closeF r).2.l = [] := by
  unfold closeF
  rw [if_neg (by rw [h.closed]; decide), give_few h hn hl]
  exact ⟨rfl, rfl⟩
theorem ird_at {w : World} {base : Option Addr} {n c : Nat} {ls : List Int} (h : IRd w (.slice base n c) ls) (k : Nat) (hk : k < ls.length) :
    ∃ b off, base = some ⟨b, off, none⟩ ∧ b < w.heap.size ∧ w.cell? ⟨b, off + k, none⟩ = some (.int .i64 ls[k]) ∧ OkI ls[k] := by
  obtain ⟨A, cap, h1, h2, h3, h4⟩ := h
  injection h1 with e1 e2 e3
  subst e1
  obtain ⟨b, off, hb, hc⟩ := h4.resolve_left (by intro e; rw [e] at hk; simp at hk)
  exact ⟨b, off, hb, World.block_lt_of_cell? w _ (hc k hk), hc k hk, h3 _ (List.getElem_mem _)⟩
end Go.Proofs.Ytbeoihjfjkbfhaa

namespace Go.Proofs.Ytbeoihjfjkbfhaa
set_option linter.unusedVariables false
set_option linter.unusedSimpArgs false
open Go.RowKit Go.WideShapes Go.ChangeShapes
set_option maxRecDepth 100000

def RN (n : Nat) (w : World) (v : Value) (ls : List (List Int)) : Prop :=
  ∃ A cap, v = .slice A ls.length cap ∧ ls.length ≤ 9223372036854775807 ∧ (∀ z ∈ ls, z.length = n ∧ ∀ i ∈ z, OkI i) ∧
    (ls = [] ∨ ∃ b off, A = some ⟨b, off, none⟩ ∧ ∀ k (h : k < ls.length) j, j < n → w.cell? ⟨b, off + k * n + j, none⟩ = some (.int .i64 (ls[k].getD j 0)))
theorem RN.ext {n : Nat} {w w' : World} {v : Value} {ls : List (List Int)} (h : RN n w v ls) (e : Ext w w') : RN n w' v ls := by
  obtain ⟨A, cap, h1, h2, h3, h4⟩ := h
  exact ⟨A, cap, h1, h2, h3, h4.imp id fun ⟨b, off, ha, hc⟩ => ⟨b, off, ha, fun k hk j hj => (e.cells.1 _ _ (World.block_lt_of_cell? w _ (hc k hk j hj))).trans (hc k hk j hj)⟩⟩
theorem RN.form {n : Nat} {w : World} {v : Value} {ls : List (List Int)} (h : RN n w v ls) : ∃ A cap, v = .slice A ls.length cap ∧ ls.length ≤ 9223372036854775807 := by
  obtain ⟨A, cap, h1, h2, -⟩ := h
  exact ⟨A, cap, h1, h2⟩
theorem RN.at {n : Nat} {w : World} {A : Option Addr} {l c : Nat} {ls : List (List Int)} (h : RN n w (.slice A l c) ls) (k : Nat) (hk : k < ls.length) :
    ∃ b off, A = some ⟨b, off, none⟩ ∧ (∀ j, j < n → w.cell? ⟨b, off + k * n + j, none⟩ = some (.int .i64 (ls[k].getD j 0))) ∧ ∀ j, OkI (ls[k].getD j 0) := by
  obtain ⟨A', cap, h1, h2, h3, h4⟩ := h
  injection h1 with e1 e2 e3
  subst e1
  obtain ⟨b, off, ha, hc⟩ := h4.resolve_left (by intro e; rw [e] at hk; simp at hk)
  refine ⟨b, off, ha, hc k hk, fun j => ?_⟩
  rw [List.getD_eq_getElem?_getD]
  rcases Nat.lt_or_ge j ls[k].length with hj | hj
  · rw [List.getElem?_eq_getElem hj]
    exact (h3 _ (List.getElem_mem _)).2 _ (List.getElem_mem _)
  · rw [List.getElem?_eq_none hj]
    exact okI_small (by decide)

section
variable {H : Type} {enc : TypeId × Value → H} {W : World}
theorem i64_of_wf' {n : Int} (h : (Lit.int .i64 n).wf = true) : OkI n := i64_of_wf h
theorem kk3 : Try.prog.cellsOf 3 = 1 := by kernel_rfl
theorem kk5 : Try.prog.cellsOf 5 = 1 := by kernel_rfl
theorem kk23 : Try.prog.cellsOf 23 = 2 := by kernel_rfl
theorem kk46 : Try.prog.cellsOf 46 = 4 := by kernel_rfl
theorem u8_of_wf {n : Int} (h : (Lit.int .u8 n).wf = true) : 0 ≤ n ∧ n ≤ 255 := by
  simpa [Lit.wf, IntKind.min, IntKind.max, IntKind.signed, IntKind.bits] using h
theorem lst2 {α : Type} : ∀ (l : List α), l.length = 2 → ∃ x y, l = [x, y]
  | [x, y], _ => ⟨x, y, rfl⟩
theorem okWide_array {t e : TypeId} {m : Nat} {r : Reach} {b0 : Nat} {v : Value} (ht : Try.prog.underlying t = some (.array m e)) (h : Value.okWide Try.prog W r b0 t v) : ∃ cs, v = .agg cs ∧ cs.size = Try.prog.cellsOf t := by
  unfold Value.okWide at h
  rw [ht] at h
  obtain ⟨cs, h1, h2, -⟩ := h
  exact ⟨cs, h1, h2⟩
/-- An array of m ints. -/
theorem arr_ints {t e : TypeId} {m : Nat} {k : IntKind} {fuel : Nat} {cs : List Value} {x : DataW H × List MemPlace} (ht : Try.prog.underlying t = some (.array m e)) (he : Try.prog.underlying e = some (.int k)) (hc : Try.prog.cellsOf e = 1) (hct : Try.prog.cellsOf t = m)
    (h : DataW.trod enc Try.prog W 0 (fun _ => true) true fuel t cs = some x) : cs.length = m ∧ ∀ i, i < m → ∃ n, cs[i]? = some (.int k n) ∧ (Lit.int k n).wf = true := by
  cases fuel with
  | zero => simp [DataW.trod] at h
  | succ n =>
    have key : ∃ xs, cs.length = Try.prog.cellsOf t ∧ ((List.range m).mapM fun i => DataW.trod enc Try.prog W 0 (fun _ => true) true n e ((cs.drop (i * Try.prog.cellsOf e)).take (Try.prog.cellsOf e))) = some xs := by
      clear hc hct he
      unfold DataW.trod at h
      rw [ht] at h
      have fin : ∀ (cs : List Value) (x : DataW H × List MemPlace), (if cs.length = Try.prog.cellsOf t then Option.map (fun xs => (DataW.agg (List.map (fun x => x.fst) xs), List.flatMap (fun x => x.snd) xs)) (List.mapM (fun i => DataW.trod enc Try.prog W 0 (fun _ => true) true n e (List.take (Try.prog.cellsOf e) (List.drop (i * Try.prog.cellsOf e) cs))) (List.range m)) else none) = some x →
          ∃ xs, cs.length = Try.prog.cellsOf t ∧ ((List.range m).mapM fun i => DataW.trod enc Try.prog W 0 (fun _ => true) true n e ((cs.drop (i * Try.prog.cellsOf e)).take (Try.prog.cellsOf e))) = some xs := by
        intro cs x h
        split at h
        · rename_i hl
          obtain ⟨xs, hx, -⟩ := Option.map_eq_some_iff.1 h
          exact ⟨xs, hl, hx⟩
        · cases h
      split at h <;> first | (rename_i heq; cases heq; done) | (rename_i heq; injection heq with heq; injection heq with e1 e2; subst e1 e2; exact fin _ _ h) | exact fin _ _ h | (rename_i heq; injection heq with heq; cases heq; done)
    obtain ⟨xs, hl, hp⟩ := key
    rw [hct] at hl
    rw [hc] at hp
    simp only [Nat.mul_one] at hp
    refine ⟨hl, ?_⟩
    intro i hi
    have hg := mapM_some_get hp i i (by simp [hi])
    have hlen := mapM_some_length hp
    have hx : i < xs.length := by rw [hlen]; simpa using hi
    rw [List.getElem?_eq_getElem hx] at hg
    obtain ⟨n', h1, _, h3⟩ := DataW.trod_int he hg
    refine ⟨n', ?_, h3⟩
    have hi' : i < cs.length := by omega
    rw [List.drop_eq_getElem_cons hi', List.take_succ_cons, List.take_zero] at h1
    simp only [List.cons.injEq, and_true] at h1
    rw [List.getElem?_eq_getElem hi', h1]
theorem open_bytes2 {r : Go.Reach} {b0 : Nat} {v : Value} {d : DataW H} {ps : List MemPlace} (hval : Value.okWide Try.prog W r b0 23 v) (hd : DataW.Trod enc Try.prog W 0 (fun _ => true) true 23 v d ps) :
    ∃ q0 q1 : Int, v = .agg #[.int .u8 q0, .int .u8 q1] ∧ (0 ≤ q0 ∧ q0 ≤ 255) ∧ 0 ≤ q1 ∧ q1 ≤ 255 := by
  obtain ⟨fuel, hf⟩ := hd
  obtain ⟨cs, rfl, hsz⟩ := okWide_array Try.underlying23 hval
  rw [kk23] at hsz
  obtain ⟨x0, x1, hl⟩ := lst2 cs.toList (by simpa using hsz)
  obtain rfl : cs = #[x0, x1] := by cases cs; simp_all
  obtain ⟨h1, h2⟩ := arr_ints Try.underlying23 Try.underlying5 kk5 kk23 hf
  obtain ⟨q0, e0, w0⟩ := h2 0 (by decide)
  obtain ⟨q1, e1, w1⟩ := h2 1 (by decide)
  replace e0 : some x0 = some (Value.int .u8 q0) := e0
  replace e1 : some x1 = some (Value.int .u8 q1) := e1
  injection e0 with e0
  injection e1 with e1
  subst e0 e1
  exact ⟨q0, q1, rfl, u8_of_wf w0, u8_of_wf w1⟩
/-- Rows of ints, as lists. -/
theorem rows_RN {m : Nat} {A : Option Addr} {len cap : Nat} (hl : len ≤ maxLen)
    (h : len = 0 ∨ ∃ b off, A = some ⟨b, off, none⟩ ∧ ∀ i, i < len → ∀ j, j < m → ∃ n, W.cell? ⟨b, off + i * m + j, none⟩ = some (.int .i64 n) ∧ (Lit.int .i64 n).wf = true) : ∃ ls, RN m W (.slice A len cap) ls := by
  unfold maxLen at hl
  rcases h with rfl | ⟨b, off, rfl, h⟩
  · exact ⟨[], A, cap, rfl, by simp, by simp, .inl rfl⟩
  · let F : Nat → Nat → Int := fun i j => iof ((W.cell? ⟨b, off + i * m + j, none⟩).getD undef)
    have hF : ∀ i, i < len → ∀ j, j < m → W.cell? ⟨b, off + i * m + j, none⟩ = some (.int .i64 (F i j)) ∧ OkI (F i j) := fun i hi j hj => by
      obtain ⟨n, h1, h2⟩ := h i hi j hj
      have : F i j = n := by show iof ((W.cell? ⟨b, off + i * m + j, none⟩).getD undef) = n; rw [h1]; rfl
      rw [this]
      exact ⟨h1, i64_of_wf h2⟩
    refine ⟨(List.range len).map fun i => (List.range m).map (F i), some ⟨b, off, none⟩, cap, by simp, by simp; omega, fun z hz => ?_, .inr ⟨b, off, rfl, fun k hk j hj => ?_⟩⟩
    · obtain ⟨i, hi, rfl⟩ := List.mem_map.1 hz
      refine ⟨by simp, fun x hx => ?_⟩
      obtain ⟨j, hj, rfl⟩ := List.mem_map.1 hx
      exact (hF i (List.mem_range.1 hi) j (List.mem_range.1 hj)).2
    · have hk' : k < len := by simpa using hk
      rw [(hF k hk' j hj).1]
      simp [List.getD_eq_getElem?_getD, List.getElem?_map, List.getElem?_range hj]
/-- A struct of ints. -/
theorem struct_ints {t : TypeId} {fs : Array Field} {m : Nat} {fuel : Nat} {cs : List Value} {x : DataW H × List MemPlace} (ht : Try.prog.underlying t = some (.struct fs)) (hct : Try.prog.cellsOf t = m) (hm : fs.size = m)
    (hf : ∀ j, j < m → ∃ f, fs[j]? = some f ∧ f.type = 3 ∧ f.offset = j)
    (h : DataW.trod enc Try.prog W 0 (fun _ => true) true fuel t cs = some x) : cs.length = m ∧ ∀ i, i < m → ∃ n, cs[i]? = some (.int .i64 n) ∧ (Lit.int .i64 n).wf = true := by
  obtain ⟨xs, n, -, -, hl, hx, hg⟩ := DataW.trod_struct ht h
  rw [hct] at hl
  refine ⟨hl, fun i hi => ?_⟩
  obtain ⟨f, hfi, h1, h2⟩ := hf i hi
  have h3 := hg i f hfi
  have hxi : i < xs.length := by rw [hx, hm]; exact hi
  rw [List.getElem?_eq_getElem hxi, h1, h2, kk3] at h3
  obtain ⟨z, e1, -, e2⟩ := DataW.trod_int Try.underlying3 h3
  have hic : i < cs.length := by omega
  rw [List.drop_eq_getElem_cons hic, List.take_succ_cons, List.take_zero] at e1
  simp only [List.cons.injEq, and_true] at e1
  exact ⟨z, by rw [List.getElem?_eq_getElem hic, e1], e2⟩
theorem slice_srows {t e : TypeId} {fs : Array Field} {m : Nat} {fuel : Nat} {cs : List Value} {x : DataW H × List MemPlace} (ht : Try.prog.underlying t = some (.slice e)) (hte : Try.prog.underlying e = some (.struct fs)) (hct : Try.prog.cellsOf e = m) (hfs : fs.size = m)
    (hf : ∀ j, j < m → ∃ f, fs[j]? = some f ∧ f.type = 3 ∧ f.offset = j) (hm : 0 < m)
    (h : DataW.trod enc Try.prog W 0 (fun _ => true) true fuel t cs = some x) :
    ∃ A len cap, cs = [.slice A len cap] ∧ len ≤ maxLen ∧ (len = 0 ∨ ∃ b off, A = some ⟨b, off, none⟩ ∧ ∀ i, i < len → ∀ j, j < m → ∃ n, W.cell? ⟨b, off + i * m + j, none⟩ = some (.int .i64 n) ∧ (Lit.int .i64 n).wf = true) := by
  rcases DataW.trod_slice ht h with ⟨rfl, -⟩ | ⟨a, len, cap, elems, rest, n, -, rfl, -, -, hl, hmx, hlen, hel, -, -⟩
  · exact ⟨none, 0, 0, rfl, Nat.zero_le _, .inl rfl⟩
  · refine ⟨some a, len, cap, rfl, by omega, ?_⟩
    rcases Nat.eq_zero_or_pos len with h0 | h0
    · exact .inl h0
    · have key : ∀ i, i < len → ∀ j, j < m → ∃ z, W.cell? ((a.add (i * m)).add j) = some (.int .i64 z) ∧ (Lit.int .i64 z).wf = true := by
        intro i hi j hj
        have h1 := hel i hi
        rw [List.getElem?_eq_getElem (by omega)] at h1
        obtain ⟨ecs, h2, h3⟩ := Option.bind_eq_some_iff.1 h1
        obtain ⟨h4, h5⟩ := struct_ints hte hct hfs hf h3
        obtain ⟨z, h6, h7⟩ := h5 j hj
        have := (World.cells?_some h2).2.2 j (by rw [hct]; exact hj)
        rw [hct] at this
        exact ⟨z, by rw [this, h6], h7⟩
      obtain ⟨b, off, spot⟩ := a
      obtain ⟨z0, hz0, -⟩ := key 0 h0 0 hm
      have hspot : spot = none := by simpa [Addr.add] using World.cell?_spot hz0
      subst hspot
      refine .inr ⟨b, off, rfl, fun i hi j hj => ?_⟩
      obtain ⟨z, h1, h2⟩ := key i hi j hj
      exact ⟨z, by simpa [Go.WideShapes.add_plain] using h1, h2⟩
theorem ird_of_trod {t : TypeId} (ht : Try.prog.underlying t = some (.slice 3)) {fuel : Nat} {cs : List Value} {x : DataW H × List MemPlace} (h : DataW.trod enc Try.prog W 0 (fun _ => true) true fuel t cs = some x) : ∃ v ls, cs = [v] ∧ IRd W v ls := by
  rcases open_ints ht Try.underlying3 kk3 h with ⟨rfl, -⟩ | ⟨a, len, cap, zs, rfl, -, hl, hm, hz, -, hc, hw⟩
  · exact ⟨_, [], rfl, none, 0, rfl, by simp, by simp, .inl rfl⟩
  · have hlen : (zs.take len).length = len := by rw [List.length_take, hz]; simp; omega
    unfold maxLen at hm
    refine ⟨_, zs.take len, rfl, some a, cap, by rw [hlen], by rw [hlen]; omega, fun z hz => i64_of_wf (hw z (List.mem_of_mem_take hz)), ?_⟩
    rcases Nat.eq_zero_or_pos len with rfl | hpos
    · exact .inl rfl
    · have hzl : len ≤ zs.length := by rw [hz]; simp; omega
      obtain ⟨b, off, rfl, hcell⟩ := ints_at hc (by omega)
      refine .inr ⟨b, off, rfl, fun k hk => ?_⟩
      rw [hlen] at hk
      rw [hcell k (by omega), List.getElem_take, List.getD_eq_getElem?_getD, List.getElem?_eq_getElem (by omega)]
      rfl
theorem open_IRd {r : Go.Reach} {b0 : Nat} {v : Value} {d : DataW H} {ps : List MemPlace} (hval : Value.okWide Try.prog W r b0 36 v) (hd : DataW.Trod enc Try.prog W 0 (fun _ => true) true 36 v d ps) : ∃ ls, IRd W v ls := by
  obtain ⟨fuel, hf⟩ := hd
  obtain ⟨a, l, c, rfl⟩ := okWide_slice Try.underlying36 hval
  obtain ⟨v, ls, hcs, hr⟩ := ird_of_trod Try.underlying36 hf
  simp [Value.cells] at hcs
  subst hcs
  exact ⟨ls, hr⟩
/-- The acts. -/
theorem open_acts {r : Go.Reach} {b0 : Nat} {v : Value} {d : DataW H} {ps : List MemPlace} (hval : Value.okWide Try.prog W r b0 22 v) (hd : DataW.Trod enc Try.prog W 0 (fun _ => true) true 22 v d ps) : ∃ ls, RN 4 W v ls := by
  obtain ⟨fuel, hf⟩ := hd
  obtain ⟨a, l, c, rfl⟩ := okWide_slice Try.underlying22 hval
  obtain ⟨A, len, cap, e, h1, h2⟩ := slice_srows (m := 4) Try.underlying22 Try.underlying46 kk46 rfl (fun j hj => by
    match j, hj with
    | 0, _ => exact ⟨_, rfl, rfl, rfl⟩
    | 1, _ => exact ⟨_, rfl, rfl, rfl⟩
    | 2, _ => exact ⟨_, rfl, rfl, rfl⟩
    | 3, _ => exact ⟨_, rfl, rfl, rfl⟩) (by decide) hf
  simp [Value.cells] at e
  obtain ⟨rfl, rfl, rfl⟩ := e
  exact rows_RN h1 h2
end
end Go.Proofs.Ytbeoihjfjkbfhaa

namespace Go.Proofs.Ytbeoihjfjkbfhaa
set_option linter.unusedVariables false
set_option linter.unusedSimpArgs false
open Go.RowKit
structure OI (need : Int) (r : Rl) (acc giv : Nat) : Prop where
  least : r.least = need
  closed : r.closed = false
  sum : acc = giv + r.l.length
theorem OI.ask {need : Int} {r : Rl} {acc giv : Nat} (h : OI need r acc giv) (q : Qn) (t : Int) : OI need (askR r q t) (if askE r q t = 0 then acc + 1 else acc) giv := by
  unfold askR
  by_cases h0 : askE r q t = 0
  · rw [if_pos h0, if_pos h0]
    refine ⟨h.least, h.closed, ?_⟩
    have := h.sum
    simp [Rl.asked]
    omega
  · rw [if_neg h0, if_neg h0]
    exact h
theorem filter_len {α : Type} (p : α → Bool) : ∀ l : List α, (l.filter p).length + (l.filter fun x => !p x).length = l.length
  | [] => rfl
  | x :: l => by
    have := filter_len p l
    cases h : p x <;> simp [h] <;> omega
theorem dis_le : ∀ l : List Int, (dis l).length ≤ l.length
  | [] => Nat.le_refl _
  | x :: l => by
    have := dis_le l
    unfold dis
    split <;> simp <;> omega
theorem give_cases {need : Int} {r : Rl} {acc giv : Nat} (h : OI need r acc giv) (due : Int → Bool) :
    ((giveF r due).1 = none ∧ OI need (giveF r due).2 acc giv) ∨ ∃ ts, (giveF r due).1 = some ts ∧ need ≤ (ts.length : Int) ∧ 1 ≤ ts.length ∧ giv + ts.length ≤ acc ∧ OI need (giveF r due).2 acc (giv + ts.length) := by
  unfold giveF
  by_cases hc : ((dis (whos (dueL r due))).length : Int) < max r.least 1
  · rw [if_pos hc]
    exact .inl ⟨rfl, h⟩
  · rw [if_neg hc]
    have h1 := dis_le (whos (dueL r due))
    have h2 : (whos (dueL r due)).length = (dueL r due).length := by simp [whos]
    have h3 : (srtT (texts (dueL r due))).length = (dueL r due).length := by rw [srtT_len]; simp [texts]
    have h4 := filter_len (fun p : Qn × Int => due p.2) r.l
    have h5 := h.sum
    have h6 := h.least
    have h7 : (dueL r due).length = (r.l.filter fun p => due p.2).length := rfl
    refine .inr ⟨_, rfl, by rw [h3]; omega, by rw [h3]; omega, by rw [h3]; omega, h.least, h.closed, ?_⟩
    show acc = _ + (r.l.filter fun p => !due p.2).length
    rw [h3]
    omega
theorem tick_cases {need : Int} {r : Rl} {acc giv : Nat} (h : OI need r acc giv) (t : Int) :
    ((tickF r t).1 = none ∧ OI need (tickF r t).2 acc giv) ∨ ∃ ts, (tickF r t).1 = some ts ∧ need ≤ (ts.length : Int) ∧ 1 ≤ ts.length ∧ giv + ts.length ≤ acc ∧ OI need (tickF r t).2 acc (giv + ts.length) := by
  unfold tickF
  split
  · exact .inl ⟨rfl, h⟩
  · exact give_cases (r := { r with last := t, timed := true }) ⟨h.least, h.closed, h.sum⟩ _
theorem close_cases {need : Int} {r : Rl} {acc giv : Nat} (h : OI need r acc giv) :
    (closeF r).2.l = [] ∧ ((closeF r).1 = none ∨ ∃ ts, (closeF r).1 = some ts ∧ 1 ≤ ts.length ∧ giv + ts.length ≤ acc) := by
  unfold closeF
  rw [if_neg (by rw [h.closed]; decide)]
  refine ⟨rfl, ?_⟩
  rcases give_cases h (fun _ => true) with ⟨h1, -⟩ | ⟨ts, h1, -, h2, h3, -⟩
  · exact .inl h1
  · exact .inr ⟨ts, h1, h2, h3⟩
theorem batch_form {n : Nat} {w : World} {v : Value} {ts : List ByteArray} (h : BatR n w v (some ts)) : ∃ g a c, v = .slice (some ⟨g, 0, none⟩) 1 1 ∧ g < w.heap.size ∧ w.cell? ⟨g, 0, none⟩ = some (.slice a ts.length c) := by
  obtain ⟨g, u, h1, h2, h3, h4⟩ := h
  obtain ⟨a, c, rfl⟩ := row_slice h4
  exact ⟨g, a, c, h1, Rg.lt_of_heap h3, cell_of_row _ _ 0 _ _ _ h3⟩
theorem mod_x (n m : Int) (hm : 0 < m) (hm2 : m ≤ 1000000) (h : OkI n) (w : World) :
    Calls Try.prog 24 #[.int .i64 n, .int .i64 m] w fun e w' => e = .returned (.int .i64 (n % m)) ∧ Ext w w' :=
  (mod_any n m hm hm2 h w).mono fun _ _ ⟨a, b⟩ => ⟨a, b ▸ Ext.refl _⟩
theorem act_at {w : World} {A : Option Addr} {l c : Nat} {ls : List (List Int)} (h : RN 4 w (.slice A l c) ls) (k : Nat) (hk : k < ls.length) :
    ∃ b off q0 q1 q2 q3, A = some ⟨b, off, none⟩ ∧ b < w.heap.size ∧ w.cell? ⟨b, off + k * 4, none⟩ = some (.int .i64 q0) ∧ w.cell? ⟨b, off + k * 4 + 1, none⟩ = some (.int .i64 q1) ∧ w.cell? ⟨b, off + k * 4 + 2, none⟩ = some (.int .i64 q2) ∧ w.cell? ⟨b, off + k * 4 + 3, none⟩ = some (.int .i64 q3) ∧ OkI q0 ∧ OkI q1 ∧ OkI q2 ∧ OkI q3 ∧ ls[k] = [q0, q1, q2, q3] := by
  obtain ⟨b, off, h1, h2, h3⟩ := h.at k hk
  have h4 : ls[k].length = 4 := by
    obtain ⟨-, -, -, -, h5, -⟩ := h
    exact (h5 _ (List.getElem_mem _)).1
  have h0 := h2 0 (by decide)
  refine ⟨b, off, _, _, _, _, h1, World.block_lt_of_cell? w _ h0, h0, h2 1 (by decide), h2 2 (by decide), h2 3 (by decide), h3 0, h3 1, h3 2, h3 3, ?_⟩
  match hls : ls[k], h4 with
  | [a, b, c, d], _ => rfl
end Go.Proofs.Ytbeoihjfjkbfhaa

namespace Go.Proofs.Ytbeoihjfjkbfhaa
set_option linter.unusedVariables false
set_option linter.unusedSimpArgs false
open Go.RowKit
/-- Two relays at p1 and p2, from B on, apart from each other. -/
structure R2 (B : Nat) (w : World) (p1 p2 : Nat) (r1 r2 : Rl) : Prop where
  base : B ≤ w.heap.size
  apart : p1 ≠ p2
  both : ∃ m1 m2, RW B w p1 m1 r1 ∧ RW B w p2 m2 r2 ∧ ∀ b, m1 = some b → m2 ≠ some b
theorem R2.symm {B : Nat} {w : World} {p1 p2 : Nat} {r1 r2 : Rl} (h : R2 B w p1 p2 r1 r2) : R2 B w p2 p1 r2 r1 := by
  obtain ⟨h0, h1, m1, m2, h2, h3, h4⟩ := h
  exact ⟨h0, h1.symm, m2, m1, h3, h2, fun b e1 e2 => h4 b e2 e1⟩
theorem R2.ext {B : Nat} {w w' : World} {p1 p2 : Nat} {r1 r2 : Rl} (h : R2 B w p1 p2 r1 r2) (x : Ext w w') : R2 B w' p1 p2 r1 r2 := by
  obtain ⟨h0, h1, m1, m2, h2, h3, h4⟩ := h
  exact ⟨Nat.le_trans h0 x.size, h1, m1, m2, h2.ext x, h3.ext x, h4⟩
theorem R2.both_ {B : Nat} {w : World} {p : Nat} {r0 : Rl} (h : RX B w p r0) {w' : World} {r : Rl} (hr : RX w.heap.size w' w.heap.size r) (x : Ext w w') : R2 B w' p w.heap.size r0 r := by
  obtain ⟨hB, m1, h1⟩ := h
  obtain ⟨hB2, m2, h2⟩ := hr
  refine ⟨Nat.le_trans hB x.size, Nat.ne_of_lt h1.lt, m1, m2, h1.ext x, ⟨Nat.le_trans hB h2.at_, h2.row, ?_, h2.ok⟩, fun b e1 e2 => ?_⟩
  · have hm := h2.map
    cases m2 with
    | none => exact hm
    | some b => exact ⟨Nat.le_trans hB hm.1, hm.2⟩
  · have := (h1.map.lt b e1).2
    have := (h2.map.lt b e2).1
    omega
/-- Cells that are not at p stay. -/
def K1 (p : Nat) (w w' : World) : Prop := ∀ k cs t fr, k ≠ p → w.heap[k]? = some (.cells cs t fr) → w'.heap[k]? = some (.cells cs t fr)
theorem KW.k1 {B p : Nat} {mb : Option Nat} {r : Rl} {w w' : World} (h : KW p mb w w') (hr : RW B w p mb r) : K1 p w w' := fun k cs t fr hk hc => by
  refine (h.block k (Rg.lt_of_heap hc) hk (fun e => ?_)).trans hc
  subst e
  obtain ⟨-, -, -, es, ck, hb, -⟩ := hr.map
  rw [hb] at hc
  cases hc
theorem BatR.k1 {n p : Nat} {w w' : World} {v : Value} {o : Option (List ByteArray)} (h : BatR n w v o) (hk : K1 p w w') (hp : p < n) : BatR n w' v o := by
  cases o with
  | none => exact h
  | some ts =>
    obtain ⟨g, u, h1, h2, h3, h4⟩ := h
    refine ⟨g, u, h1, h2, hk _ _ _ _ (by omega) h3, h4.1, h4.2.imp id ?_⟩
    rintro ⟨g, cp, cur, e1, e2, e3, e4⟩
    exact ⟨g, cp, cur, e1, e2, hk _ _ _ _ (by omega) e3, e4⟩
theorem R2.ask1 {B : Nat} {w : World} {p1 p2 : Nat} {r1 r2 : Rl} (h : R2 B w p1 p2 r1 r2) (q : Qn) (t : Int) (hw : OkI q.who) (ht : OkI t) :
    Calls Try.prog 20 #[.pointer (some ⟨p1, 0, none⟩), .int .i64 q.who, .int .i64 t, .string q.text] w fun e w' => e = .returned (.int .i64 (askE r1 q t)) ∧ R2 B w' p1 p2 (askR r1 q t) r2 ∧ Below B w w' := by
  obtain ⟨h0, h1, m1, m2, h2, h3, h4⟩ := h
  refine (ask_any p1 m1 r1 q t w h2 h0 hw ht).mono ?_
  rintro e w' ⟨e1, m1', k1, k2, k3⟩
  refine ⟨e1, ⟨Nat.le_trans h0 k2.size, h1, m1', m2, k1, h3.other h2 k2 h1.symm (fun b e2 e3 => h4 b e3 e2), fun b e2 e3 => ?_⟩, k2.below h0 h2.at_ fun b e => (h2.map.lt b e).1⟩
  rcases k3 with rfl | ⟨b', rfl, hb'⟩
  · exact h4 b e2 e3
  · injection e2 with e2
    subst e2
    have := (h3.map.lt _ e3).2
    omega
theorem R2.tick1 {B : Nat} {w : World} {p1 p2 : Nat} {r1 r2 : Rl} (h : R2 B w p1 p2 r1 r2) (t : Int) (ht : OkI t) :
    Calls Try.prog 16 #[.pointer (some ⟨p1, 0, none⟩), .int .i64 t] w fun e w' => ∃ v, e = .returned v ∧ BatR w.heap.size w' v (tickF r1 t).1 ∧ R2 B w' p1 p2 (tickF r1 t).2 r2 ∧ Below B w w' ∧ K1 p1 w w' := by
  obtain ⟨h0, h1, m1, m2, h2, h3, h4⟩ := h
  refine (tick_any p1 m1 r1 t w h2 ht).mono ?_
  rintro e w' ⟨v, e1, e2, k1, k2⟩
  exact ⟨v, e1, e2, ⟨Nat.le_trans h0 k2.size, h1, m1, m2, k1, h3.other h2 k2 h1.symm (fun b e2 e3 => h4 b e3 e2), h4⟩, k2.below h0 h2.at_ fun b e => (h2.map.lt b e).1, k2.k1 h2⟩
theorem R2.close1 {B : Nat} {w : World} {p1 p2 : Nat} {r1 r2 : Rl} (h : R2 B w p1 p2 r1 r2) :
    Calls Try.prog 18 #[.pointer (some ⟨p1, 0, none⟩)] w fun e w' => ∃ v, e = .returned v ∧ BatR w.heap.size w' v (closeF r1).1 ∧ R2 B w' p1 p2 (closeF r1).2 r2 ∧ Below B w w' ∧ K1 p1 w w' := by
  obtain ⟨h0, h1, m1, m2, h2, h3, h4⟩ := h
  refine (close_any p1 m1 r1 w h2).mono ?_
  rintro e w' ⟨v, e1, e2, ⟨m1', k1, k3⟩, k2⟩
  refine ⟨v, e1, e2, ⟨Nat.le_trans h0 k2.size, h1, m1', m2, k1, h3.other h2 k2 h1.symm (fun b e2 e3 => h4 b e3 e2), ?_⟩, k2.below h0 h2.at_ fun b e => (h2.map.lt b e).1, k2.k1 h2⟩
  rcases k3 with rfl | rfl
  · exact h4
  · exact fun b e => by cases e
theorem R2.wait1 {B : Nat} {w : World} {p1 p2 : Nat} {r1 r2 : Rl} (h : R2 B w p1 p2 r1 r2) (n : Nat) (hn : r1.l.length = n) :
    Calls Try.prog 22 #[.pointer (some ⟨p1, 0, none⟩)] w fun e w' => e = .returned (.int .i64 n) ∧ w' = w := by
  obtain ⟨h0, h1, m1, m2, h2, h3, h4⟩ := h
  subst hn
  exact waiting_any p1 m1 r1 w h2
/-- What lies behind both may be written. -/
theorem R2.keep {B : Nat} {w w' : World} {p1 p2 : Nat} {r1 r2 : Rl} (h : R2 B w p1 p2 r1 r2) (hs : w.heap.size ≤ w'.heap.size) (hk : ∀ k o, w.heap[k]? = some o → k = p1 ∨ k = p2 ∨ (∃ es c, o = .map es c) → w'.heap[k]? = some o) : R2 B w' p1 p2 r1 r2 := by
  obtain ⟨b0, h1, m1, m2, h2, h3, h4⟩ := h
  have hM : ∀ {mb l}, MQ B w mb l → MQ B w' mb l := fun {mb l} hm => hm.of_block fun b e => by
    subst e
    obtain ⟨-, -, -, es, ck, hb, -⟩ := hm
    rw [hb]
    exact hk b _ hb (.inr (.inr ⟨_, _, rfl⟩))
  exact ⟨Nat.le_trans b0 hs, h1, m1, m2, ⟨h2.at_, hk _ _ h2.row (.inl rfl), hM h2.map, h2.ok⟩, ⟨h3.at_, hk _ _ h3.row (.inr (.inl rfl)), hM h3.map, h3.ok⟩, h4⟩
theorem R2.wrote {B : Nat} {w : World} {p1 p2 g o : Nat} {r1 r2 : Rl} {cs : Array Value} {t : TypeId} {fr : Nat × Nat} (h : R2 B w p1 p2 r1 r2) (hg : w.heap[g]? = some (.cells cs t fr)) (h1 : g ≠ p1) (h2 : g ≠ p2) (v : Value) : R2 B (w.setCell ⟨g, o, none⟩ v) p1 p2 r1 r2 :=
  h.keep (by simp) fun k ob hk hc => by
    rw [heap_setCell_other _ ?_]
    · exact hk
    · rintro rfl
      rcases hc with rfl | rfl | ⟨es, c, rfl⟩
      · exact h1 rfl
      · exact h2 rfl
      · rw [hg] at hk
        cases hk
theorem R2.lt {B : Nat} {w : World} {p1 p2 : Nat} {r1 r2 : Rl} (h : R2 B w p1 p2 r1 r2) : B ≤ p1 ∧ p1 < w.heap.size ∧ B ≤ p2 ∧ p2 < w.heap.size := by
  obtain ⟨b0, h1, m1, m2, h2, h3, h4⟩ := h
  exact ⟨h2.at_, h2.lt, h3.at_, h3.lt⟩
theorem R2.len {B : Nat} {w : World} {p1 p2 : Nat} {r1 r2 : Rl} (h : R2 B w p1 p2 r1 r2) : r1.l.length ≤ 1000 ∧ r2.l.length ≤ 1000 := by
  obtain ⟨b0, h1, m1, m2, h2, h3, h4⟩ := h
  exact ⟨h2.ok.len, h3.ok.len⟩
theorem give_len {r : Rl} {due : Int → Bool} {ts : List ByteArray} (h : (giveF r due).1 = some ts) (hl : r.l.length ≤ 1000) : ts.length ≤ 1000000 := by
  unfold giveF at h
  split at h
  · cases h
  · injection h with h
    rw [← h, srtT_len]
    have : (dueL r due).length ≤ r.l.length := List.length_filter_le _ _
    simp [texts]
    omega
theorem give_pos {r : Rl} {due : Int → Bool} {ts : List ByteArray} (h : (giveF r due).1 = some ts) : 0 < ts.length := by
  unfold giveF at h
  split at h
  · cases h
  · rename_i hc
    injection h with h
    rw [← h, srtT_len]
    have h1 := dis_le (whos (dueL r due))
    simp [whos] at h1
    simp [texts]
    simp [whos] at hc
    omega
theorem tick_pos {r : Rl} {t : Int} {ts : List ByteArray} (h : (tickF r t).1 = some ts) : 0 < ts.length := by
  unfold tickF at h
  split at h
  · cases h
  · exact give_pos h
theorem tick_len {r : Rl} {t : Int} {ts : List ByteArray} (h : (tickF r t).1 = some ts) (hl : r.l.length ≤ 1000) : ts.length ≤ 1000000 := by
  unfold tickF at h
  split at h
  · cases h
  · exact give_len h hl
theorem close_len {r : Rl} {ts : List ByteArray} (h : (closeF r).1 = some ts) (hl : r.l.length ≤ 1000) : ts.length ≤ 1000000 := by
  unfold closeF at h
  split at h
  · cases h
  · exact give_len h hl
end Go.Proofs.Ytbeoihjfjkbfhaa

namespace Go.Proofs.Ytbeoihjfjkbfhaa
set_option linter.unusedVariables false
set_option linter.unusedSimpArgs false
open Go.RowKit
/-- What asking q in the period z leaves. -/
def gadd (l : List (Qn × Int)) (q : Qn) (z : Int) : List (Qn × Int) := if q.text.size = 0 ∨ 4000 < q.text.size ∨ q ∈ l.map (·.1) then l else l ++ [(q, z)]
def gA (z : Int) (l : List (Qn × Int)) (qs : List Qn) : List (Qn × Int) := qs.foldl (fun l q => gadd l q z) l
theorem gA_snoc (z : Int) (l : List (Qn × Int)) (qs : List Qn) (q : Qn) : gA z l (qs ++ [q]) = gadd (gA z l qs) q z := by simp [gA]
theorem gadd_len (l : List (Qn × Int)) (q : Qn) (z : Int) : (gadd l q z).length ≤ l.length + 1 := by
  unfold gadd
  split <;> simp
theorem gA_len (z : Int) : ∀ (qs : List Qn) (l : List (Qn × Int)), (gA z l qs).length ≤ l.length + qs.length
  | [], l => Nat.le_refl _
  | q :: qs, l => by
    have h1 := gA_len z qs (gadd l q z)
    have h2 := gadd_len l q z
    show (gA z (gadd l q z) qs).length ≤ _
    simp only [List.length_cons]
    omega
theorem gadd_nd {l : List (Qn × Int)} (q : Qn) (z : Int) (h : (l.map (·.1)).Nodup) : ((gadd l q z).map (·.1)).Nodup := by
  unfold gadd
  split
  · exact h
  · rename_i hc
    rw [List.map_append, List.nodup_append]
    refine ⟨h, by simp, fun a ha b hb => ?_⟩
    simp at hb
    subst hb
    rintro rfl
    exact hc (.inr (.inr ha))
theorem gA_nd (z : Int) : ∀ (qs : List Qn) {l : List (Qn × Int)}, (l.map (·.1)).Nodup → ((gA z l qs).map (·.1)).Nodup
  | [], _, h => h
  | q :: qs, _, h => gA_nd z qs (gadd_nd q z h)
def okT (q : Qn) : Prop := ¬ (q.text.size = 0 ∨ 4000 < q.text.size)
theorem mem_gadd {l : List (Qn × Int)} {q : Qn} {z : Int} {y : Qn × Int} : y ∈ gadd l q z ↔ y ∈ l ∨ (y = (q, z) ∧ okT q ∧ q ∉ l.map (·.1)) := by
  unfold gadd okT
  split
  · rename_i hc
    refine ⟨.inl, fun h => h.elim id ?_⟩
    rintro ⟨-, h1, h2⟩
    exact (hc.elim (fun h => h1 (.inl h)) (fun h => h.elim (fun h => h1 (.inr h)) h2)).elim
  · rename_i hc
    rw [List.mem_append, List.mem_singleton]
    exact ⟨fun h => h.imp id fun h => ⟨h, fun h => hc (h.elim .inl fun h => .inr (.inl h)), fun h => hc (.inr (.inr h))⟩, fun h => h.imp id fun h => h.1⟩
theorem mem_gA (z : Int) : ∀ (qs : List Qn) (l : List (Qn × Int)) (y : Qn × Int), y ∈ gA z l qs ↔ y ∈ l ∨ (y.2 = z ∧ y.1 ∈ qs ∧ okT y.1 ∧ y.1 ∉ l.map (·.1))
  | [], l, y => by simp [gA]
  | q :: qs, l, y => by
    show y ∈ gA z (gadd l q z) qs ↔ _
    rw [mem_gA z qs, mem_gadd]
    have hk : y.1 ∈ (gadd l q z).map (·.1) ↔ y.1 ∈ l.map (·.1) ∨ (y.1 = q ∧ okT q ∧ q ∉ l.map (·.1)) := by
      simp only [List.mem_map]
      constructor
      · rintro ⟨x, h1, h2⟩
        rcases mem_gadd.1 h1 with h1 | ⟨rfl, h3, h4⟩
        · exact .inl ⟨x, h1, h2⟩
        · exact .inr ⟨h2.symm, h3, by simpa using h4⟩
      · rintro (⟨x, h1, h2⟩ | ⟨h1, h2, h3⟩)
        · exact ⟨x, mem_gadd.2 (.inl h1), h2⟩
        · exact ⟨(q, z), mem_gadd.2 (.inr ⟨rfl, h2, by simpa using h3⟩), h1.symm⟩
    rw [hk, List.mem_cons]
    constructor
    · rintro ((h | ⟨rfl, h1, h2⟩) | ⟨h1, h2, h3, h4⟩)
      · exact .inl h
      · exact .inr ⟨rfl, .inl rfl, h1, h2⟩
      · exact .inr ⟨h1, .inr h2, h3, fun h => h4 (.inl h)⟩
    · rintro (h | ⟨h1, h2, h3, h4⟩)
      · exact .inl (.inl h)
      · by_cases he : y.1 = q
        · refine .inl (.inr ⟨Prod.ext he h1, he ▸ h3, he ▸ h4⟩)
        · exact .inr ⟨h1, h2.resolve_left he, h3, fun h => h.elim h4 fun h => he h.1⟩
/-- The other number. -/
def ph (s : Int) (q : Qn) : Qn := ⟨100 + (q.who + s) % 6, q.text⟩
theorem ph_inj {s : Int} {q r : Qn} (hq : 0 ≤ q.who ∧ q.who < 6) (hr : 0 ≤ r.who ∧ r.who < 6) (h : ph s q = ph s r) : q = r := by
  cases q; cases r
  simp only [ph, Qn.mk.injEq] at h
  obtain ⟨h1, rfl⟩ := h
  simp only [Qn.mk.injEq, and_true]
  simp only at hq hr
  omega
/-- The two lists: the same but for the numbers. -/
structure BM (s : Int) (ma mb : List (Qn × Int)) : Prop where
  na : (ma.map (·.1)).Nodup
  nb : (mb.map (·.1)).Nodup
  rng : ∀ x ∈ ma, 0 ≤ x.1.who ∧ x.1.who < 6
  mem : ∀ y, y ∈ mb ↔ ∃ x ∈ ma, y = (ph s x.1, x.2)
theorem nodup_of_keys {l : List (Qn × Int)} (h : (l.map (·.1)).Nodup) : l.Nodup := by
  rw [List.Nodup, List.pairwise_map] at h
  exact h.imp fun h e => h (congrArg (·.1) e)
theorem BM.perm {s : Int} {ma mb : List (Qn × Int)} (h : BM s ma mb) : mb.Perm (ma.map fun x => (ph s x.1, x.2)) := by
  refine (List.perm_ext_iff_of_nodup (nodup_of_keys h.nb) ?_).2 fun y => by
    rw [h.mem, List.mem_map]
    exact ⟨fun ⟨x, h1, h2⟩ => ⟨x, h1, h2.symm⟩, fun ⟨x, h1, h2⟩ => ⟨x, h1, h2.symm⟩⟩
  have hn := nodup_of_keys h.na
  have hr := h.rng
  clear h
  induction ma with
  | nil => simp
  | cons a l ih =>
    rw [List.nodup_cons] at hn
    rw [List.map_cons, List.nodup_cons]
    refine ⟨fun hm => ?_, ih hn.2 fun x hx => hr x (.tail _ hx)⟩
    obtain ⟨x, h1, h2⟩ := List.mem_map.1 hm
    injection h2 with h2 h3
    have := ph_inj (hr x (.tail _ h1)) (hr a (.head _)) h2
    exact hn.1 ((Prod.ext this h3 : x = a) ▸ h1)
theorem BM.len {s : Int} {ma mb : List (Qn × Int)} (h : BM s ma mb) : mb.length = ma.length := by rw [h.perm.length_eq, List.length_map]
theorem BM.asked {s z : Int} {ma mb : List (Qn × Int)} (h : BM s ma mb) {qs : List Qn} (hq : ∀ q ∈ qs, 0 ≤ q.who ∧ q.who < 6) : BM s (gA z ma qs) (gA z mb (qs.reverse.map (ph s))) := by
  refine ⟨gA_nd z _ h.na, gA_nd z _ h.nb, fun x hx => ?_, fun y => ?_⟩
  · rcases (mem_gA z qs ma x).1 hx with h1 | ⟨-, h1, -⟩
    · exact h.rng x h1
    · exact hq _ h1
  · have hkey : ∀ q, 0 ≤ q.who ∧ q.who < 6 → (ph s q ∈ mb.map (·.1) ↔ q ∈ ma.map (·.1)) := fun q hr => by
      simp only [List.mem_map]
      constructor
      · rintro ⟨y, h1, h2⟩
        obtain ⟨x, h3, rfl⟩ := (h.mem y).1 h1
        exact ⟨x, h3, ph_inj (h.rng x h3) hr h2⟩
      · rintro ⟨x, h1, h2⟩
        exact ⟨_, (h.mem _).2 ⟨x, h1, rfl⟩, by rw [← h2]⟩
    rw [mem_gA]
    constructor
    · rintro (h1 | ⟨h1, h2, h3, h4⟩)
      · obtain ⟨x, h2, h3⟩ := (h.mem y).1 h1
        exact ⟨x, (mem_gA z qs ma x).2 (.inl h2), h3⟩
      · obtain ⟨q, h5, h6⟩ := List.mem_map.1 h2
        have h5 := List.mem_reverse.1 h5
        have hk : okT q := by
          rw [← h6] at h3
          exact h3
        exact ⟨(q, z), (mem_gA z qs ma _).2 (.inr ⟨rfl, h5, hk, fun hm => h4 (by rw [← h6]; exact (hkey q (hq q h5)).2 hm)⟩), Prod.ext h6.symm h1⟩
    · rintro ⟨x, h1, rfl⟩
      rcases (mem_gA z qs ma x).1 h1 with h1 | ⟨h1, h2, h3, h4⟩
      · exact .inl ((h.mem _).2 ⟨x, h1, rfl⟩)
      · exact .inr ⟨h1, List.mem_map.2 ⟨_, List.mem_reverse.2 h2, rfl⟩, h3, fun hm => h4 ((hkey _ (hq _ h2)).1 hm)⟩
theorem dis_nd : ∀ l : List Int, (dis l).Nodup
  | [] => List.nodup_nil
  | x :: l => by
    unfold dis
    split
    · exact dis_nd l
    · rename_i h
      exact List.nodup_cons.2 ⟨fun h2 => h (mem_dis.1 h2), dis_nd l⟩
theorem dis_perm {l m : List Int} (h : l.Perm m) : (dis l).length = (dis m).length :=
  ((List.perm_ext_iff_of_nodup (dis_nd l) (dis_nd m)).2 fun a => by rw [mem_dis, mem_dis]; exact h.mem_iff).length_eq
theorem dis_map (s : Int) : ∀ l : List Int, (∀ x ∈ l, 0 ≤ x ∧ x < 6) → (dis (l.map fun x => 100 + (x + s) % 6)).length = (dis l).length
  | [], _ => rfl
  | x :: l, h => by
    have ih := dis_map s l fun y hy => h y (.tail _ hy)
    have hm : 100 + (x + s) % 6 ∈ l.map (fun x => 100 + (x + s) % 6) ↔ x ∈ l := by
      rw [List.mem_map]
      constructor
      · rintro ⟨y, h1, h2⟩
        have := h y (.tail _ h1)
        have := h x (.head _)
        obtain rfl : y = x := by omega
        exact h1
      · exact fun h1 => ⟨x, h1, rfl⟩
    rw [List.map_cons]
    unfold dis
    by_cases hx : x ∈ l
    · rw [if_pos hx, if_pos (hm.2 hx), ih]
    · rw [if_neg hx, if_neg (fun h => hx (hm.1 h)), List.length_cons, List.length_cons, ih]
theorem BM.give {s need every L L' : Int} {T T' c : Bool} {ma mb : List (Qn × Int)} (h : BM s ma mb) (due : Int → Bool) :
    (giveF ⟨need, every, ma, L, T, c⟩ due).1 = (giveF ⟨need, every, mb, L', T', c⟩ due).1 ∧ ∃ ma' mb', (giveF ⟨need, every, ma, L, T, c⟩ due).2 = ⟨need, every, ma', L, T, c⟩ ∧ (giveF ⟨need, every, mb, L', T', c⟩ due).2 = ⟨need, every, mb', L', T', c⟩ ∧ BM s ma' mb' ∧ ma'.length ≤ ma.length := by
  have hp := (h.perm.filter fun p => due p.2)
  have hf : (ma.map fun x => ((ph s x.1, x.2) : Qn × Int)).filter (fun p => due p.2) = (ma.filter fun p => due p.2).map fun x => (ph s x.1, x.2) := by rw [List.filter_map]; rfl
  rw [hf] at hp
  have e1 : (dis (whos (dueL ⟨need, every, mb, L', T', c⟩ due))).length = (dis (whos (dueL ⟨need, every, ma, L, T, c⟩ due))).length := by
    have h1 := dis_perm (hp.map fun p => p.1.who)
    have h2 := dis_map s ((ma.filter fun p => due p.2).map fun p => p.1.who) (fun x hx => by
      obtain ⟨y, hy, rfl⟩ := List.mem_map.1 hx
      exact h.rng y ((List.mem_filter.1 hy).1))
    rw [List.map_map] at h1 h2
    exact h1.trans h2
  have e2 : srtT (texts (dueL ⟨need, every, mb, L', T', c⟩ due)) = srtT (texts (dueL ⟨need, every, ma, L, T, c⟩ due)) := by
    refine srtT_of_perm ?_
    have h1 := hp.map fun p => p.1.text
    rw [List.map_map] at h1
    exact h1
  unfold giveF
  rw [e1, e2]
  split
  · exact ⟨rfl, ma, mb, rfl, rfl, h, Nat.le_refl _⟩
  · refine ⟨rfl, _, _, rfl, rfl, ⟨?_, ?_, fun x hx => h.rng x ((List.mem_filter.1 hx).1), fun y => ?_⟩, List.length_filter_le _ _⟩
    · exact h.na.sublist (List.filter_sublist.map _)
    · exact h.nb.sublist (List.filter_sublist.map _)
    · simp only [List.mem_filter]
      constructor
      · rintro ⟨h1, h2⟩
        obtain ⟨x, h3, rfl⟩ := (h.mem y).1 h1
        exact ⟨x, ⟨h3, h2⟩, rfl⟩
      · rintro ⟨x, ⟨h1, h2⟩, rfl⟩
        exact ⟨(h.mem _).2 ⟨x, h1, rfl⟩, h2⟩
/-- A relay that is open. -/
def Op (need : Int) (r : Rl) (l : List (Qn × Int)) (b : Int) : Prop := ∃ L T, r = ⟨need, 10, l, L, T, false⟩ ∧ L ≤ b
theorem Op.ask {need : Int} {r : Rl} {l : List (Qn × Int)} {b t z : Int} {q : Qn} (h : Op need r l b) (hb : b ≤ t) (hl : l.length < 1000) (hz : t / 10 = z) : Op need (askR r q t) (gadd l q z) t := by
  obtain ⟨L, T, rfl, hL⟩ := h
  unfold askR gadd
  by_cases h1 : q.text.size = 0 ∨ 4000 < q.text.size
  · have e : askE ⟨need, 10, l, L, T, false⟩ q t = 1 := by unfold askE; rw [if_pos h1]
    rw [if_neg (by rw [e]; decide), if_pos (h1.elim .inl fun h => .inr (.inl h))]
    exact ⟨L, T, rfl, by omega⟩
  · have hn : ¬ (T = true ∧ t < L) := by
      rintro ⟨-, h2⟩
      omega
    by_cases h2 : q ∈ l.map (·.1)
    · have e : askE ⟨need, 10, l, L, T, false⟩ q t = 33 := by unfold askE; rw [if_neg h1, if_neg (by simp), if_neg hn, if_pos h2]
      rw [if_neg (by rw [e]; decide), if_pos (.inr (.inr h2))]
      exact ⟨L, T, rfl, by omega⟩
    · have e : askE ⟨need, 10, l, L, T, false⟩ q t = 0 := by unfold askE; rw [if_neg h1, if_neg (by simp), if_neg hn, if_neg h2, if_neg (by simp only; omega)]
      rw [if_pos e, if_neg (fun h => h.elim (fun h => h1 (.inl h)) fun h => h.elim (fun h => h1 (.inr h)) h2)]
      refine ⟨t, true, ?_, Int.le_refl _⟩
      unfold Rl.asked perF
      rw [show max (10 : Int) 1 = 10 from rfl, hz]
theorem Op.tick {need s b t : Int} {ra rb : Rl} {ma mb : List (Qn × Int)} (h1 : Op need ra ma b) (h2 : Op need rb mb b) (h : BM s ma mb) (hb : b ≤ t) :
    (tickF ra t).1 = (tickF rb t).1 ∧ ∃ ma' mb', Op need (tickF ra t).2 ma' t ∧ Op need (tickF rb t).2 mb' t ∧ BM s ma' mb' ∧ ma'.length ≤ ma.length := by
  obtain ⟨L, T, rfl, hL⟩ := h1
  obtain ⟨L', T', rfl, hL'⟩ := h2
  unfold tickF
  rw [if_neg (by simp only; rintro (h | ⟨-, h⟩); cases h; omega), if_neg (by simp only; rintro (h | ⟨-, h⟩); cases h; omega)]
  obtain ⟨e1, ma', mb', e2, e3, e4, e5⟩ := h.give (need := need) (every := 10) (L := t) (L' := t) (T := true) (T' := true) (c := false) (fun z => decide (z < perF 10 t))
  exact ⟨e1, ma', mb', ⟨t, true, e2, Int.le_refl _⟩, ⟨t, true, e3, Int.le_refl _⟩, e4, e5⟩
theorem Op.close {need s b b' : Int} {ra rb : Rl} {ma mb : List (Qn × Int)} (h1 : Op need ra ma b) (h2 : Op need rb mb b') (h : BM s ma mb) : (closeF ra).1 = (closeF rb).1 := by
  obtain ⟨L, T, rfl, hL⟩ := h1
  obtain ⟨L', T', rfl, hL'⟩ := h2
  unfold closeF
  rw [if_neg (by simp), if_neg (by simp)]
  exact (h.give fun _ => true).1
theorem Op.l {need b : Int} {r : Rl} {l : List (Qn × Int)} (h : Op need r l b) : r.l = l := by
  obtain ⟨L, T, rfl, -⟩ := h
  rfl
theorem Op.mono {need b b' : Int} {r : Rl} {l : List (Qn × Int)} (h : Op need r l b) (hb : b ≤ b') : Op need r l b' := by
  obtain ⟨L, T, h1, h2⟩ := h
  exact ⟨L, T, h1, by omega⟩
end Go.Proofs.Ytbeoihjfjkbfhaa

namespace Go.Proofs.Ytbeoihjfjkbfhaa
set_option linter.unusedVariables false
set_option linter.unusedSimpArgs false
open Go.RowKit
/-- The cells of a question that waits: asker, period, text. -/
def qcs (x : Qn × Int) : List Value := [.int .i64 x.1.who, .int .i64 x.2, .string x.1.text]
def Rl.rcells (r : Rl) (v : Value) : Array Value := #[.int .i64 (max r.least 1), .int .i64 (max r.every 1), v, .int .i64 r.last, .bool r.timed, .bool r.closed]
theorem rperiod_any (t m : Int) (w : World) (h1 : 1 ≤ m) (h4 : m ≤ 9223372036854775807) (ht : OkI t) :
    Calls Try.prog 31 #[.int .i64 t, .int .i64 m] w fun e w' => e = .returned (.int .i64 (t / m)) ∧ w' = w := by
  have h2 := tdiv_in ht h1
  have h3 := perF_tdiv m t h1
  have HM : Hid (t / m = if t.tmod m < 0 then t.tdiv m - 1 else t.tdiv m) := Lib.hid h3
  clear h3
  generalize t / m = R at *
  go_enter Try.func31, Try.ntmps31
  obtain ⟨hq1, hq2⟩ := h2
  have hm0 : ¬ m = 0 := by omega
  have hwq : wrap64 (t.tdiv m) = t.tdiv m := wrap64_in hq1
  cases hz : decide (t.tmod m < 0) with
  | true =>
    have hz1 := of_decide_eq_true hz
    have hq3 := hq2 hz1
    have hwq2 : wrap64 (t.tdiv m - 1) = t.tdiv m - 1 := wrap64_in hq3
    have HR : Hid (R = t.tdiv m - 1) := Lib.hid (HM.out.trans (if_pos hz1))
    clear HM hq2
    clear hz
    go_wp2
    go_ret
    exact ⟨by rw [HR.out]; show Ending.returned (.int .i64 (wrap64 (t.tdiv m - 1))) = _; rw [hwq2], rfl⟩
  | false =>
    have hz1 := of_decide_eq_false hz
    have HR : Hid (R = t.tdiv m) := Lib.hid (HM.out.trans (if_neg hz1))
    clear HM hq2
    clear hz
    go_wp2
    go_ret
    exact ⟨by rw [HR.out]; rfl, rfl⟩
/-- The reference's relay at p, its questions in v, both from B on. -/
structure RM (B : Nat) (w : World) (p : Nat) (v : Value) (r : Rl) : Prop where
  at_ : B ≤ p
  row : w.heap[p]? = some (.cells (r.rcells v) 60)
  list : w.ownsRow B 68 3 v r.l.length (r.l.flatMap qcs)
  ok : r.ok
theorem RM.ext {B : Nat} {w w' : World} {p : Nat} {v : Value} {r : Rl} (h : RM B w p v r) (x : Ext w w') : RM B w' p v r :=
  ⟨h.at_, (x.block _ (Rg.lt_of_heap h.row)).trans h.row, row_ext h.list x, h.ok⟩
theorem RM.cells {B : Nat} {w : World} {p : Nat} {v : Value} {r : Rl} (h : RM B w p v r) :
    w.cell? ⟨p, 0, none⟩ = some (.int .i64 (max r.least 1)) ∧ w.cell? ⟨p, 1, none⟩ = some (.int .i64 (max r.every 1)) ∧ w.cell? ⟨p, 2, none⟩ = some v ∧ w.cell? ⟨p, 3, none⟩ = some (.int .i64 r.last) ∧ w.cell? ⟨p, 4, none⟩ = some (.bool r.timed) ∧ w.cell? ⟨p, 5, none⟩ = some (.bool r.closed) ∧ p < w.heap.size :=
  ⟨cell_of_row w p 0 _ _ _ h.row, cell_of_row w p 1 _ _ _ h.row, cell_of_row w p 2 _ _ _ h.row, cell_of_row w p 3 _ _ _ h.row, cell_of_row w p 4 _ _ _ h.row, cell_of_row w p 5 _ _ _ h.row, Rg.lt_of_heap h.row⟩
theorem rnew_any (least every : Int) (w : World) (hl : OkI least) (he : OkI every) :
    Calls Try.prog 13 #[.int .i64 least, .int .i64 every] w fun e w' => e = .returned (.pointer (some ⟨w.heap.size, 0, none⟩)) ∧ RM w.heap.size w' w.heap.size (.slice none 0 0) ⟨least, every, [], 0, false, false⟩ ∧ Ext w w' := by
  go_enter Try.func13, Try.ntmps13
  go_wp2
  go_ret
  exact ⟨rfl, ⟨Nat.le_refl _, alloc_at w _, World.ownsRow_nil _ _ _ _, ⟨hl, he, show OkI 0 from ⟨by decide, by decide⟩, by simp, by simp⟩⟩, Ext.alloc (Ext.refl _) _⟩
theorem rwaiting_any {B : Nat} {p : Nat} {v : Value} {r : Rl} {w : World} (h : RM B w p v r) :
    Calls Try.prog 23 #[.pointer (some ⟨p, 0, none⟩)] w fun e w' => e = .returned (.int .i64 r.l.length) ∧ w' = w := by
  obtain ⟨-, -, c2, -, -, -, hp⟩ := h.cells
  obtain ⟨a, c, rfl⟩ := row_slice h.list
  have hn := h.ok.len
  clear h
  generalize r.l.length = n at *
  go_enter Try.func23, Try.ntmps23
  go_wp2
  go_ret
  exact ⟨rfl, rfl⟩
end Go.Proofs.Ytbeoihjfjkbfhaa

namespace Go.Proofs.Ytbeoihjfjkbfhaa
set_option linter.unusedVariables false
set_option linter.unusedSimpArgs false
open Go.RowKit
theorem u8_lt {x y : Int} (hx : 0 ≤ x ∧ x < 256) (hy : 0 ≤ y ∧ y < 256) : UInt8.ofNat x.toNat < UInt8.ofNat y.toNat ↔ x < y := by
  rw [UInt8.lt_iff_toNat_lt, UInt8.toNat_ofNat', UInt8.toNat_ofNat', Nat.mod_eq_of_lt (by omega), Nat.mod_eq_of_lt (by omega)]
  omega
theorem lessL_cmp : ∀ (xs ys : List Int), xs.length = ys.length → (∀ x ∈ xs, 0 ≤ x ∧ x < 256) → (∀ y ∈ ys, 0 ≤ y ∧ y < 256) → lessL xs ys = decide (Lib.compareBytes (Lib.bytesOf xs) (Lib.bytesOf ys) < 0)
  | [], [], _, _, _ => by simp [lessL, Lib.bytesOf, Lib.compareBytes]
  | x :: xs, y :: ys, hl, hx, hy => by
    have ih := lessL_cmp xs ys (by simpa using hl) (fun z h => hx z (.tail _ h)) (fun z h => hy z (.tail _ h))
    have h1 := hx x (.head _)
    have h2 := hy y (.head _)
    show lessL (x :: xs) (y :: ys) = decide (Lib.compareBytes (UInt8.ofNat x.toNat :: Lib.bytesOf xs) (UInt8.ofNat y.toNat :: Lib.bytesOf ys) < 0)
    unfold lessL Lib.compareBytes
    by_cases hxy : x = y
    · subst hxy
      rw [if_pos rfl, if_neg (by rw [u8_lt h1 h1]; omega), if_neg (by rw [u8_lt h1 h1]; omega), ih]
    · rw [if_neg hxy]
      by_cases hlt : x < y
      · rw [if_pos ((u8_lt h1 h2).2 hlt)]
        simp [hlt]
      · rw [if_neg (by rw [u8_lt h1 h2]; exact hlt), if_pos ((u8_lt h2 h1).2 (by omega))]
        simp [hlt]
theorem cmp_same : ∀ (xs ys : List Int), xs.length = ys.length → (∀ x ∈ xs, 0 ≤ x ∧ x < 256) → (∀ y ∈ ys, 0 ≤ y ∧ y < 256) → (Lib.compareBytes (Lib.bytesOf xs) (Lib.bytesOf ys) = 0 ↔ xs = ys)
  | [], [], _, _, _ => by simp [Lib.bytesOf, Lib.compareBytes]
  | x :: xs, y :: ys, hl, hx, hy => by
    have ih := cmp_same xs ys (by simpa using hl) (fun z h => hx z (.tail _ h)) (fun z h => hy z (.tail _ h))
    have h1 := hx x (.head _)
    have h2 := hy y (.head _)
    show Lib.compareBytes (UInt8.ofNat x.toNat :: Lib.bytesOf xs) (UInt8.ofNat y.toNat :: Lib.bytesOf ys) = 0 ↔ _
    unfold Lib.compareBytes
    by_cases hxy : x = y
    · subst hxy
      rw [if_neg (by rw [u8_lt h1 h1]; omega), if_neg (by rw [u8_lt h1 h1]; omega), ih]
      simp
    · by_cases hlt : x < y
      · rw [if_pos ((u8_lt h1 h2).2 hlt)]
        simp [hxy]
      · rw [if_neg (by rw [u8_lt h1 h2]; exact hlt), if_pos ((u8_lt h2 h1).2 (by omega))]
        simp [hxy]
end Go.Proofs.Ytbeoihjfjkbfhaa

namespace Go.Proofs.Ytbeoihjfjkbfhaa
set_option linter.unusedVariables false
set_option linter.unusedSimpArgs false
open Go.RowKit
theorem up_rowS {ρ : Operand → Value} {d : Option Tmp} {x : Operand} {ty : TypeId} {ps : String} {af : Array Edge} {gd : Option (Nat × Bool)} {w : World} {g : Nat} {T t : TypeId} {cs : Array Value} {n : Nat} {s : TypeId} {fr : Nat × Nat}
    (hx : ρ x = .pointer (some ⟨g, 0, none⟩)) (hg : w.heap[g]? = some (.cells cs t fr))
    (hu : Try.prog.underlying T = some (.array n s)) (hi : (Try.prog.info? T).map (·.size) = some cs.size) :
    Rg.up Try.prog w (.agg cs) ((execOp ρ { dst := d, op := .load T x, type := ty, pos := ps, after := af, guard := gd }).run Try.prog w) := by
  have h := run_loadVar_row (P := Try.prog) w g t T cs _ (.array n s) hg hu rfl hi
  unfold execOp
  simp only [hx, Instr.loadAt, Instr.sureAddr, Sem.run_bind, Sem.run_pure, Result.andThen_ok, h]
  exact Rg.up_value
theorem rowB_at {l : List Int} {j : Nat} (h1 : l.length = j) (h : j < 32) : (rowB l)[j]? = some (.int .u8 0) := by
  unfold rowB
  subst h1
  rw [List.getElem?_toArray, List.getElem?_append_right (by simp), List.length_map, Nat.sub_self, List.getElem?_replicate, if_pos (by omega)]
theorem rowB_put {l : List Int} {j : Nat} (h1 : l.length = 32) (h : j < 32) : (rowB (l.take j)).setIfInBounds j (.int .u8 (l.getD j 0)) = rowB (l.take (j + 1)) := by
  unfold rowB
  have h2 : (l.take j).length = j := by rw [List.length_take]; omega
  rw [List.setIfInBounds_toArray, List.set_append_right _ _ (by simp; omega), List.take_add_one]
  have e1 : l[j]? = some (l.getD j 0) := by rw [List.getD_eq_getElem?_getD, List.getElem?_eq_getElem (by omega)]; rfl
  rw [e1, List.map_append, List.append_assoc]
  congr 2
  rw [List.length_map, h2, List.length_append, h2, show 32 - j = (32 - (j + 1)) + 1 by omega, List.replicate_succ, Nat.sub_self]
  rfl
theorem bytesI_extract (t : ByteArray) (i j : Nat) : bytesI (t.extract i j) = ((bytesI t).drop i).take (j - i) := by
  unfold bytesI
  rw [ByteArray.data_extract, Array.toList_extract, List.extract_eq_take_drop, List.map_take, List.map_drop]
theorem out_cell (S : S8) {i : Nat} (h : i < 32) : (S.l.getD (i / 4) 0) / 2 ^ (8 * (3 - i % 4)) % 256 = (outV S).getD i 0 := by
  have : i = 0 ∨ i = 1 ∨ i = 2 ∨ i = 3 ∨ i = 4 ∨ i = 5 ∨ i = 6 ∨ i = 7 ∨ i = 8 ∨ i = 9 ∨ i = 10 ∨ i = 11 ∨ i = 12 ∨ i = 13 ∨ i = 14 ∨ i = 15 ∨ i = 16 ∨ i = 17 ∨ i = 18 ∨ i = 19 ∨ i = 20 ∨ i = 21 ∨ i = 22 ∨ i = 23 ∨ i = 24 ∨ i = 25 ∨ i = 26 ∨ i = 27 ∨ i = 28 ∨ i = 29 ∨ i = 30 ∨ i = 31 := by omega
  rcases this with rfl | rfl | rfl | rfl | rfl | rfl | rfl | rfl | rfl | rfl | rfl | rfl | rfl | rfl | rfl | rfl | rfl | rfl | rfl | rfl | rfl | rfl | rfl | rfl | rfl | rfl | rfl | rfl | rfl | rfl | rfl | rfl
  all_goals first | rfl | (simp [outV, S8.l, byteS])
set_option maxRecDepth 100000 in
set_option maxHeartbeats 4000000 in
theorem rsum_any (s : ByteArray) (w : World) (hs : s.size ≤ 4000) :
    Calls Try.prog 54 #[.string s] w fun e w' => e = .returned (.agg (rowH (sumV (bytesI s)))) ∧ Ext w w' := by
  have HS1 := Lib.hid hs
  have hs6 : s.size ≤ 1000000 := by omega
  clear hs
  go_enter Try.func54, Try.ntmps54
  go_upto_region 2 with (first
    | (refine wpList_store_row (hgd := rfl) 90 (.tmp 3) (.tmp 8) rfl (w.heap.size + 1) (by rfl) (rowN H8) (by rfl) (rowN [0, 0, 0, 0, 0, 0, 0, 0]) 90 (two_blocks w _ _).2 (by rfl) (by kernel_rfl) (rowN_one _) ?_))
  change Code.wp _ _ _ _ (((w.alloc (.cells (rowB []) 78)).alloc (.cells (rowN [0, 0, 0, 0, 0, 0, 0, 0]) 90)).setRow (w.heap.size + 1) (rowN H8))
  have hx1 : Ext w (((w.alloc (.cells (rowB []) 78)).alloc (.cells (rowN [0, 0, 0, 0, 0, 0, 0, 0]) 90)).setRow (w.heap.size + 1) (rowN H8)) := below_setRow (Ext.alloc (Ext.alloc (Ext.refl _) _) _) (by omega) _
  have hA : (((w.alloc (.cells (rowB []) 78)).alloc (.cells (rowN [0, 0, 0, 0, 0, 0, 0, 0]) 90)).setRow (w.heap.size + 1) (rowN H8)).heap[w.heap.size]? = some (.cells (rowB []) 78) := (setRow_other _ _ _ _ (by omega)).trans (two_blocks w _ _).1
  have hB : (((w.alloc (.cells (rowB []) 78)).alloc (.cells (rowN [0, 0, 0, 0, 0, 0, 0, 0]) 90)).setRow (w.heap.size + 1) (rowN H8)).heap[w.heap.size + 1]? = some (.cells (rowN S0.l) 90) := setRow_heap _ _ _ _ _ _ (two_blocks w _ _).2
  obtain ⟨p, hp⟩ : ∃ p, p = w.heap.size := ⟨_, rfl⟩
  rw [← hp] at hA hB hx1 ⊢
  generalize (((w.alloc (.cells (rowB []) 78)).alloc (.cells (rowN [0, 0, 0, 0, 0, 0, 0, 0]) 90)).setRow (p + 1) (rowN H8)) = W1 at *
  have HP := Lib.hid hp
  clear hp
  have HA := Lib.hid hA; have HB := Lib.hid hB; have HX := Lib.hid hx1
  clear hA hB hx1
  go_upto_region 3 with (go_at_call 71; (with_reducible refine (padded_any s _ hs6).mono ?_); rintro e w2 ⟨t, rfl, ht, hx2⟩)
  have hA2 := (hx2.block _ (Rg.lt_of_heap HA.out)).trans HA.out
  have hB2 := (hx2.block _ (Rg.lt_of_heap HB.out)).trans HB.out
  have hX2 := HX.out.trans hx2
  obtain ⟨n, hn⟩ : ∃ n, t.size = 64 * n := ⟨t.size / 64, by have h1 := padV_mod (bytesI s); rw [← ht, bytesI_len] at h1; omega⟩
  have hn2 : n ≤ 100 := by have h1 := padV_len (bytesI s); rw [← ht, bytesI_len, bytesI_len] at h1; have := HS1.out; omega
  have HT : Hid (sumV (bytesI s) = outV (absorb (bytesI t) n)) := Lib.hid (by
    unfold sumV
    rw [← ht, bytesI_len, hn, Nat.mul_div_cancel_left _ (by omega)])
  have HN := Lib.hid hn; have HA3 := Lib.hid hA2; have HB3 := Lib.hid hB2; have HX3 := Lib.hid hX2
  clear hA2 hB2 hX2 HX HA HB ht hx2 hn HS1 hs6
  go_wp2_with (fail)
  go_loopw [5] (fun kv wr => ∃ (i c : Nat), kv = .int .i64 i ∧ Hid (i = 64 * c) ∧ c ≤ n ∧ Hid (wr.heap[p + 1]? = some (.cells (rowN (absorb (bytesI t) c).l) 90)) ∧ Hid (wr.heap[p]? = some (.cells (rowB []) 78)) ∧ Hid (Ext w wr)) (fun kv _ => 7000 - (iof kv).toNat)
  case atStart => exact ⟨0, 0, rfl, Lib.hid rfl, by omega, HB3, HA3, HX3⟩
  case round =>
    obtain ⟨i, c, rfl, HI, hc, KB, KA, KX⟩ := hrel
    clear HB3 HA3 HX3
    have hi7 : i ≤ 6400 := by have := HI.out; omega
    by_cases hcn : c < n
    · have ht1 : (i : Int) < t.size := by have h1 := HI.out; have h2 := HN.out; omega
      have ht2 : (i : Int) + 64 ≤ t.size := by have h1 := HI.out; have h2 := HN.out; omega
      have ht3 : t.size ≤ 6400 := by have h2 := HN.out; omega
      obtain ⟨b, hb⟩ : ∃ b, b = t.extract i (i + 64) := ⟨_, rfl⟩
      have hbi : bytesI b = ((bytesI t).drop (64 * c)).take 64 := by rw [hb, bytesI_extract, HI.out]; congr 1; omega
      have hbs : b.size = 64 := by rw [← bytesI_len, hbi, List.length_take, List.length_drop, bytesI_len, HN.out]; omega
      have hsl : ∀ wz, (Instr.slice 9 (.string t) (some (.int .i64 i)) (some (.int .i64 (i + 64))) none).run Try.prog wz = .ok (.string b) wz := fun wz => by
        rw [run_slice_string_if wz 9 t _ _ _ _ Try.underlying9, if_pos ⟨by omega, ht2⟩, if_pos ⟨by omega, by omega⟩, hb]
        rfl
      have hw1 : IntKind.i64.wrap ((i : Int) + 64) = i + 64 := by rw [IntKind.wrap_i64]; omega
      have hA4 : absorb (bytesI t) (c + 1) = blockS (absorb (bytesI t) c) (bytesI b) := by rw [hbi]; rfl
      have HBB := Lib.hid (fun S w => rblock_any S b w hbs)
      have HA4 := Lib.hid hA4
      clear hb hbi hbs hA4
      have KB2 := KB.out
      go_upto_region 6 with (fail)
      refine Rr.wp_region [(0, .y), (1, .y), (2, .y), (3, .y), (4, .y), (5, .y), (6, .y)] (fun _ => (.cells #[] 29, Rg.ptr)) (by kernel_rfl) (by kernel_rfl) ?_
      (refine Rr.wr_y (by simp only [List.getElem?_toArray, List.getElem?_cons_succ, List.getElem?_cons_zero]; rfl) (by rfl) ?_
       apply Exists.intro
       refine ⟨fun wz hw _ => ?_, ?_⟩
       · exact up_rowS (by rfl) ((hw.block _ (Rg.lt_of_heap KB2)).trans KB2) Try.underlying90 (by kernel_rfl)
       simp only [Act.put, List.setIfInBounds_toArray, List.set_cons_zero, List.set_cons_succ])
      (refine Rr.wr_y (by simp only [List.getElem?_toArray, List.getElem?_cons_succ, List.getElem?_cons_zero]; rfl) (by rfl) ?_
       apply Exists.intro
       refine ⟨fun wz hw _ => ?_, ?_⟩
       · have hcz := hw.cells.1
         go_simp
         (with_reducible exact Rg.up_value)
       simp only [Act.put, List.setIfInBounds_toArray, List.set_cons_zero, List.set_cons_succ])
      (refine Rr.wr_y (by simp only [List.getElem?_toArray, List.getElem?_cons_succ, List.getElem?_cons_zero]; rfl) (by rfl) ?_
       apply Exists.intro
       refine ⟨fun wz hw _ => ?_, ?_⟩
       · have hcz := hw.cells.1
         go_simp
         (with_reducible exact Rg.up_value)
       simp only [Act.put, List.setIfInBounds_toArray, List.set_cons_zero, List.set_cons_succ])
      (refine Rr.wr_y (by simp only [List.getElem?_toArray, List.getElem?_cons_succ, List.getElem?_cons_zero]; rfl) (by rfl) ?_
       apply Exists.intro
       refine ⟨fun wz hw _ => ?_, ?_⟩
       · have hcz := hw.cells.1
         go_simp
         (with_reducible exact Rg.up_value)
       simp only [Act.put, List.setIfInBounds_toArray, List.set_cons_zero, List.set_cons_succ])
      (refine Rr.wr_y (by simp only [List.getElem?_toArray, List.getElem?_cons_succ, List.getElem?_cons_zero]; rfl) (by rfl) ?_
       apply Exists.intro
       refine ⟨fun wz hw _ => ?_, ?_⟩
       · have hcz := hw.cells.1
         go_simp
         (with_reducible exact Rg.up_value)
       simp only [Act.put, List.setIfInBounds_toArray, List.set_cons_zero, List.set_cons_succ])
      (refine Rr.wr_y (by simp only [List.getElem?_toArray, List.getElem?_cons_succ, List.getElem?_cons_zero]; rfl) (by rfl) ?_
       apply Exists.intro
       refine ⟨fun wz hw _ => ?_, ?_⟩
       · have hcz := hw.cells.1
         go_simp
         (with_reducible exact Rg.up_value)
       simp only [Act.put, List.setIfInBounds_toArray, List.set_cons_zero, List.set_cons_succ])
      (refine Rr.wr_y (by simp only [List.getElem?_toArray, List.getElem?_cons_succ, List.getElem?_cons_zero]; rfl) (by rfl) ?_
       apply Exists.intro
       refine ⟨fun wz hw _ => ?_, ?_⟩
       · have hcz := hw.cells.1
         go_simp
         apply Rg.up_enter
         (with_reducible refine (HBB.out _ _).mono ?_)
         rintro e w3 ⟨rfl, hb3⟩
         exact ⟨rfl, hb3⟩
       simp only [Act.put, List.setIfInBounds_toArray, List.set_cons_zero, List.set_cons_succ])
      refine Rr.wr_nil ?_
      intro wy hy hh
      simp only [List.length_cons, List.length_nil, List.drop_succ_cons, List.drop_zero, Nat.reduceAdd]
      clear hh
      have hrow := (hy.block _ (Rg.lt_of_heap KB2)).trans KB2
      refine wpList_store_row (hgd := rfl) 90 (.tmp 3) (.tmp 23) rfl (p + 1) (by rfl) (rowN (blockS (absorb (bytesI t) c) (bytesI b)).l) (by rfl) _ 90 hrow (by rfl) (by kernel_rfl) (rowN_one _) ?_
      simp only [Act.put, List.setIfInBounds_toArray, List.set_cons_zero, List.set_cons_succ]
      go_wp2_with (fail)
      exact ⟨⟨i + 64, c + 1, by simp, Lib.hid (by rw [HI.out]; omega), by omega, Lib.hid (by rw [HA4.out]; exact setRow_heap _ _ _ _ _ _ hrow), Lib.hid ((setRow_other _ _ _ _ (by omega)).trans ((hy.block _ (Rg.lt_of_heap KA.out)).trans KA.out)), Lib.hid (below_setRow (KX.out.trans hy) (by have := HP.out; omega) _)⟩, by simp [iof]; omega⟩
    · obtain rfl : c = n := by omega
      have ht1 : ¬ (i : Int) < t.size := by have h1 := HI.out; have h2 := HN.out; omega
      generalize absorb (bytesI t) c = S at *
      go_upto_region 8 with (fail)
      change Code.wp _ _ _ _ (wr.alloc (.cells (rowB []) 78))
      have JR := Lib.hid (alloc_at wr (.cells (rowB []) 78))
      have hx3 : Ext wr (wr.alloc (.cells (rowB []) 78)) := Ext.alloc (Ext.refl _) _
      have JB := Lib.hid ((hx3.block _ (Rg.lt_of_heap KB.out)).trans KB.out)
      have JA := Lib.hid ((hx3.block _ (Rg.lt_of_heap KA.out)).trans KA.out)
      have JX := Lib.hid (KX.out.trans hx3)
      have hpr := Rg.lt_of_heap KB.out
      obtain ⟨r, hr⟩ : ∃ r, r = wr.heap.size := ⟨_, rfl⟩
      rw [← hr] at JR hpr ⊢
      generalize wr.alloc (.cells (rowB []) 78) = V1 at *
      have hwr : w.heap.size ≤ r := by rw [hr]; exact KX.out.size
      have HO := Lib.hid (show (outV S).length = 32 from rfl)
      clear KB KA KX hx3 hr
      go_wp2_with (fail)
      go_loopw [7] (fun k wv => ∃ j : Nat, k = .int .i64 j ∧ j ≤ 32 ∧ Hid (wv.heap[r]? = some (.cells (rowB ((outV S).take j)) 78)) ∧ Hid (wv.heap[p + 1]? = some (.cells (rowN S.l) 90)) ∧ Hid (wv.heap[p]? = some (.cells (rowB []) 78)) ∧ Hid (Ext w wv)) (fun k _ => 32 - (iof k).toNat)
      case atStart => exact ⟨0, rfl, by omega, JR, JB, JA, JX⟩
      case round =>
        obtain ⟨j, rfl, hj, LR, LB, LA, LX⟩ := hrel
        clear JR JB JA JX
        by_cases hj2 : j < 32
        · have cs := cell_of_row wr (p + 1) (j / 4) _ _ _ LB.out
          rw [rowN_get (show j / 4 < S.l.length from by show j / 4 < 8; omega)] at cs
          have cj := cell_of_row wr r j _ _ _ LR.out
          rw [rowB_at (by rw [List.length_take, HO.out]; omega) hj2] at cj
          have fj : wr.frozen? ⟨r, j, none⟩ = false := (Rg.cells_of LR.out).2.1 _
          obtain ⟨j1, hj1⟩ : ∃ j1, j1 = j + 1 := ⟨_, rfl⟩
          have HK : Hid (∀ v, v = .int .u8 (S.l.getD (j / 4) 0 / 2 ^ (8 * (3 - j % 4)) % 256) → (wr.setCell ⟨r, j, none⟩ v).heap[r]? = some (.cells (rowB ((outV S).take j1)) 78)) := Lib.hid (fun v hv => by
            rw [hv, hj1, ← rowB_put HO.out hj2, out_cell S hj2]
            exact heap_setCell_row _ LR.out)
          have HE : Hid (∀ v, (wr.setCell ⟨r, j, none⟩ v).heap[p + 1]? = some (.cells (rowN S.l) 90) ∧ (wr.setCell ⟨r, j, none⟩ v).heap[p]? = some (.cells (rowB []) 78) ∧ Ext w (wr.setCell ⟨r, j, none⟩ v)) := Lib.hid (fun v =>
            ⟨(heap_setCell_other _ (by omega)).trans LB.out, (heap_setCell_other _ (by omega)).trans LA.out, Below.setCell LX.out (by simpa using hwr) _⟩)
          have HJ := Lib.hid hj1
          clear LR LB LA LX hj hj1
          generalize S.l.getD (j / 4) 0 = x at *
          have h32 : j = 0 ∨ j = 1 ∨ j = 2 ∨ j = 3 ∨ j = 4 ∨ j = 5 ∨ j = 6 ∨ j = 7 ∨ j = 8 ∨ j = 9 ∨ j = 10 ∨ j = 11 ∨ j = 12 ∨ j = 13 ∨ j = 14 ∨ j = 15 ∨ j = 16 ∨ j = 17 ∨ j = 18 ∨ j = 19 ∨ j = 20 ∨ j = 21 ∨ j = 22 ∨ j = 23 ∨ j = 24 ∨ j = 25 ∨ j = 26 ∨ j = 27 ∨ j = 28 ∨ j = 29 ∨ j = 30 ∨ j = 31 := by omega
          rcases h32 with rfl | rfl | rfl | rfl | rfl | rfl | rfl | rfl | rfl | rfl | rfl | rfl | rfl | rfl | rfl | rfl | rfl | rfl | rfl | rfl | rfl | rfl | rfl | rfl | rfl | rfl | rfl | rfl | rfl | rfl | rfl | rfl
          all_goals
            simp only [Nat.reduceDiv] at cs
            go_wp2_with (fail)
            exact ⟨⟨j1, by rw [HJ.out]; rfl, by rw [HJ.out]; decide, Lib.hid (HK.out _ (by simp)), Lib.hid (HE.out _).1, Lib.hid (HE.out _).2.1, Lib.hid (HE.out _).2.2⟩, by simp [iof]⟩
        · obtain rfl : j = 32 := by omega
          have e32 : (outV S).take 32 = outV S := rfl
          rw [e32] at LR
          go_wp2_with (first
            | (refine wpList_load_row rfl 78 (.tmp 6) rfl r (by rfl) (rowB (outV S)) 78 (0, 0) LR.out 32 5 Try.underlying78 (by kernel_rfl) ?_)
            | (refine wpList_store_row (hgd := rfl) 78 (.tmp 2) (.tmp 40) rfl p (by rfl) (rowB (outV S)) (by rfl) (rowB []) 78 LA.out (by rfl) (by kernel_rfl) (rowB_one _) ?_))
          refine bodyPost_ret (v := .agg (rowB (outV S))) (results_cell_row Try.results54 _ _ p 78 _ _ _ (by rfl) (setRow_heap _ _ _ _ _ _ LA.out) Try.underlying78 rfl (by kernel_rfl)) rfl ⟨by rw [HT.out]; rfl, below_setRow LX.out (by have := HP.out; omega) _⟩
end Go.Proofs.Ytbeoihjfjkbfhaa

namespace Go.Proofs.Ytbeoihjfjkbfhaa
set_option linter.unusedVariables false
set_option linter.unusedSimpArgs false
open Go.RowKit Go.Sort
theorem eqItems_u8 (d : Nat) (xs ys : List Int) (w : World) : ∀ is : List Nat, (∀ i ∈ is, i < xs.length ∧ i < ys.length) →
    (Op.eqItems (d + 1) 5 (Try.prog.cellsOf 5) (rowH xs) (rowH ys) is).run Try.prog w = .ok (is.all fun i => xs.getD i 0 == ys.getD i 0) w
  | [], _ => by simp [Op.eqItems]
  | i :: is, h => by
    have ih := eqItems_u8 d xs ys w is (fun j hj => h j (.tail _ hj))
    obtain ⟨h1, h2⟩ := h i (.head _)
    have e1 : i * Try.prog.cellsOf 5 = i := by rw [show Try.prog.cellsOf 5 = 1 by kernel_rfl, Nat.mul_one]
    have p1 := run_part_plain (P := Try.prog) w (e := 5) (by kernel_rfl) (rowH_at h1)
    have p2 := run_part_plain (P := Try.prog) w (e := 5) (by kernel_rfl) (rowH_at h2)
    have p3 := run_equalIn_int (P := Try.prog) w d 5 .u8 .u8 xs[i] ys[i] Try.underlying5
    have g1 : xs.getD i 0 = xs[i] := by simp [List.getD_eq_getElem?_getD, h1]
    have g2 : ys.getD i 0 = ys[i] := by simp [List.getD_eq_getElem?_getD, h2]
    simp only [Op.eqItems, Sem.run_bind, e1, p1, p2, p3, Result.andThen_ok, List.all_cons, g1, g2]
    cases hb : (xs[i] == ys[i])
    · simp
    · simpa using ih
theorem all32 (xs ys : List Int) (hx : xs.length = 32) (hy : ys.length = 32) : ((List.range 32).all fun i => xs.getD i 0 == ys.getD i 0) = decide (xs = ys) := by
  rw [Bool.eq_iff_iff, List.all_eq_true, decide_eq_true_iff]
  constructor
  · intro h
    apply List.ext_getElem (by omega)
    intro j h1 h2
    have h3 := h j (by rw [List.mem_range]; omega)
    have g1 : xs.getD j 0 = xs[j] := by simp [List.getD_eq_getElem?_getD, h1]
    have g2 : ys.getD j 0 = ys[j] := by simp [List.getD_eq_getElem?_getD, h2]
    rw [g1, g2] at h3
    exact eq_of_beq h3
  · rintro rfl j hj
    exact beq_self_eq_true _
theorem eqH (xs ys : List Int) (hx : xs.length = 32) (hy : ys.length = 32) (w : World) :
    (Op.equalIn 10000 78 (.agg (rowH xs)) (.agg (rowH ys))).run Try.prog w = .ok (decide (xs = ys)) w := by
  have h5 : ∃ i, Try.prog.info? 5 = some i := info_of_underlying Try.underlying5
  obtain ⟨i, hi⟩ := h5
  rw [run_equalIn_array (P := Try.prog) w 9999 (rowH xs) (rowH ys) Try.underlying78 hi, eqItems_u8 9998 xs ys w (List.range 32) (fun i hi => by rw [List.mem_range] at hi; omega), all32 xs ys hx hy]
theorem bless_cmp : ∀ x y : List UInt8, Op.bytesLess x y = decide (Lib.compareBytes x y < 0)
  | [], [] => rfl
  | [], _ :: _ => rfl
  | _ :: _, [] => rfl
  | a :: x, b :: y => by
    have ih := bless_cmp x y
    unfold Op.bytesLess Lib.compareBytes
    by_cases h1 : a < b
    · simp [h1]
    · by_cases h2 : b < a
      · have h3 : ¬ a = b := fun h => h1 (h ▸ h2)
        simp [h1, h2, h3]
      · have h3 : a = b := UInt8.le_antisymm (UInt8.not_lt.1 h2) (UInt8.not_lt.1 h1)
        simp [h1, h2, h3, ih]
theorem orF_two (a b : Int) : orF [a, b] = if a = 0 then b else a := by
  unfold orF
  by_cases h : a = 0
  · subst h
    by_cases hb : b = 0
    · subst hb; rfl
    · simp [hb]
  · simp [h]
/-- What before answers. -/
def befT (a b : ByteArray) : Bool := ltOf cmpT a b
theorem befT_eq (a b : ByteArray) : befT a b = if sumV (bytesI a) = sumV (bytesI b) then Op.bytesLess a.toList b.toList else lessL (sumV (bytesI a)) (sumV (bytesI b)) := by
  have hin : ∀ s : ByteArray, ∀ x ∈ sumV (bytesI s), 0 ≤ x ∧ x < 256 := fun s x hx => by
    unfold sumV outV at hx
    obtain ⟨y, -, hy⟩ := List.mem_flatMap.1 hx
    exact byteS_in y x hy
  have hl : (sumV (bytesI a)).length = (sumV (bytesI b)).length := (sumV_len _).trans (sumV_len _).symm
  have h1 := cmp_same _ _ hl (hin a) (hin b)
  have h2 := lessL_cmp _ _ hl (hin a) (hin b)
  have e1 : Op.bytesLess a.toList b.toList = decide (Lib.compareBytes a.data.toList b.data.toList < 0) := by rw [bless_cmp, Lib.toList_data, Lib.toList_data]
  rw [e1, h2]
  unfold befT ltOf cmpT hashB
  clear hin hl h2 e1
  generalize sumV (bytesI a) = A at *
  generalize sumV (bytesI b) = B at *
  rw [orF_two]
  by_cases e : A = B
  · rw [if_pos (h1.2 e), if_pos e]
  · rw [if_neg (fun h => e (h1.1 h)), if_neg e]
set_option maxRecDepth 100000 in
set_option maxHeartbeats 4000000 in
theorem before_any (a b : ByteArray) (w : World) (ha : a.size ≤ 4000) (hb : b.size ≤ 4000) :
    Calls Try.prog 44 #[.string a, .string b] w fun e w' => e = .returned (.bool (befT a b)) ∧ Ext w w' := by
  have HR := Lib.hid (befT_eq a b)
  have HA := Lib.hid (fun w => rsum_any a w ha); have HB := Lib.hid (fun w => rsum_any b w hb)
  have la := sumV_len (bytesI a); have lb := sumV_len (bytesI b)
  generalize sumV (bytesI a) = A at *
  generalize sumV (bytesI b) = B at *
  generalize befT a b = R at *
  have sa : (rowH A).size = 32 := by unfold rowH; simpa using la
  have sb : (rowH B).size = 32 := by unfold rowH; simpa using lb
  have oh : ∀ L : List Int, ∀ v ∈ (rowH L).toList, v.oneCell' = true := by
    intro L v hv
    obtain ⟨y, -, rfl⟩ := List.mem_map.1 hv
    rfl
  have HQ := Lib.hid (fun w => eqH A B la lb w)
  have HL := Lib.hid (fun w => less_any A B w la lb)
  clear la lb ha hb
  go_enter Try.func44, Try.ntmps44
  go_upto_region 2 with (first
    | (go_at_call 54; (with_reducible refine (HA.out _).mono ?_); rintro e w1 ⟨rfl, hx1⟩)
    | (refine wpList_store_row (hgd := rfl) 78 (.tmp 5) (.tmp 8) rfl w1.heap.size (by rfl) (rowH A) (by rfl) (rowB []) 78 (alloc_at w1 _) (by rw [sa]; rfl) (by rw [sa]; kernel_rfl) (oh A) ?_))
  change Code.wp _ _ _ _ ((w1.alloc (.cells (rowB []) 78)).setRow w1.heap.size (rowH A))
  have hx2 : Ext w ((w1.alloc (.cells (rowB []) 78)).setRow w1.heap.size (rowH A)) := below_setRow (Ext.alloc hx1 _) hx1.size _
  have hP2 : ((w1.alloc (.cells (rowB []) 78)).setRow w1.heap.size (rowH A)).heap[w1.heap.size]? = some (.cells (rowH A) 78) := setRow_heap _ _ _ _ _ _ (alloc_at w1 _)
  obtain ⟨p, hp⟩ : ∃ p, p = w1.heap.size := ⟨_, rfl⟩
  rw [← hp] at hx2 hP2 ⊢
  generalize ((w1.alloc (.cells (rowB []) 78)).setRow p (rowH A)) = W2 at *
  have HX2 := Lib.hid hx2; have HP2 := Lib.hid hP2
  clear hp hx1 hx2 hP2
  go_upto_region 3 with (first
    | (go_at_call 54; (with_reducible refine (HB.out _).mono ?_); rintro e w3 ⟨rfl, hx3⟩)
    | (refine wpList_store_row (hgd := rfl) 78 (.tmp 6) (.tmp 10) rfl w3.heap.size (by rfl) (rowH B) (by rfl) (rowB []) 78 (alloc_at w3 _) (by rw [sb]; rfl) (by rw [sb]; kernel_rfl) (oh B) ?_))
  change Code.wp _ _ _ _ ((w3.alloc (.cells (rowB []) 78)).setRow w3.heap.size (rowH B))
  have hx4 : Ext W2 ((w3.alloc (.cells (rowB []) 78)).setRow w3.heap.size (rowH B)) := below_setRow (Ext.alloc hx3 _) hx3.size _
  have hQ4 : ((w3.alloc (.cells (rowB []) 78)).setRow w3.heap.size (rowH B)).heap[w3.heap.size]? = some (.cells (rowH B) 78) := setRow_heap _ _ _ _ _ _ (alloc_at w3 _)
  obtain ⟨q, hq⟩ : ∃ q, q = w3.heap.size := ⟨_, rfl⟩
  rw [← hq] at hx4 hQ4 ⊢
  generalize ((w3.alloc (.cells (rowB []) 78)).setRow q (rowH B)) = W4 at *
  have JP := Lib.hid ((hx4.block _ (Rg.lt_of_heap HP2.out)).trans HP2.out); have JQ := Lib.hid hQ4; have JX := Lib.hid (HX2.out.trans hx4)
  clear hq hx3 hx4 hQ4 HX2 HP2
  have heq := HQ.out
  have hsa := Lib.hid sa; have hsb := Lib.hid sb
  clear HQ oh HA HB sa sb
  by_cases hAB : A = B
  · have hd : decide (A = B) = true := decide_eq_true hAB
    rw [if_pos hAB] at HR
    simp only [hd] at heq
    clear hAB hd
    go_upto_region 4 with (first
      | (refine wpList_load_row rfl 78 (.tmp 5) rfl p (by rfl) (rowH A) 78 (0, 0) JP.out 32 5 Try.underlying78 (by rw [hsa.out]; kernel_rfl) ?_)
      | (refine wpList_load_row rfl 78 (.tmp 6) rfl q (by rfl) (rowH B) 78 (0, 0) JQ.out 32 5 Try.underlying78 (by rw [hsb.out]; kernel_rfl) ?_))
    clear heq
    go_wp2_with (fail)
    go_ret
    exact ⟨by rw [HR.out]; rfl, JX.out⟩
  · have hd : decide (A = B) = false := decide_eq_false hAB
    rw [if_neg hAB] at HR
    simp only [hd] at heq
    clear hAB hd
    go_wp2_with (first
      | (refine wpList_load_row rfl 78 (.tmp 5) rfl p (by rfl) (rowH A) 78 (0, 0) JP.out 32 5 Try.underlying78 (by rw [hsa.out]; kernel_rfl) ?_)
      | (refine wpList_load_row rfl 78 (.tmp 6) rfl q (by rfl) (rowH B) 78 (0, 0) JQ.out 32 5 Try.underlying78 (by rw [hsb.out]; kernel_rfl) ?_)
      | (go_at_call 55; (with_reducible refine (HL.out _).mono ?_); rintro e w5 ⟨rfl, hx5⟩))
    go_ret
    exact ⟨by rw [HR.out]; rfl, JX.out.trans hx5⟩
end Go.Proofs.Ytbeoihjfjkbfhaa
