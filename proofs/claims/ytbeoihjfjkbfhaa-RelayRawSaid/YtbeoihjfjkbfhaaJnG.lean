/-
  Joined: the lemmas of this claim that other texts of it use, part 7. Nothing is asked.
-/
import Derived.Test.YtbeoihjfjkbfhaaJnF
namespace Go.Proofs.Ytbeoihjfjkbfhaa
set_option linter.unusedVariables false
set_option linter.unusedSimpArgs false
open Go.RowKit
theorem rask_any {B : Nat} (p : Nat) (v : Value) (r : Rl) (q : Qn) (t : Int) (w : World) (h : RT B w p v r) (hB : B ≤ w.heap.size) (hw : OkI q.who) (ht : OkI t) :
    Calls Try.prog 21 #[.pointer (some ⟨p, 0, none⟩), .int .i64 q.who, .int .i64 t, .string q.text] w fun e w' => e = .returned (.int .i64 (askE r q t)) ∧ ∃ v', RT B w' p v' (askR r q t) ∧ KW p v.ownBlock w w' := by
  have hcl : ∀ (n : Int), n ≠ 0 → askE r q t = n → (Calls Try.prog 21 #[.pointer (some ⟨p, 0, none⟩), .int .i64 q.who, .int .i64 t, .string q.text] w fun e w' => e = .returned (.int .i64 n) ∧ w' = w) →
      Calls Try.prog 21 #[.pointer (some ⟨p, 0, none⟩), .int .i64 q.who, .int .i64 t, .string q.text] w fun e w' => e = .returned (.int .i64 (askE r q t)) ∧ ∃ v', RT B w' p v' (askR r q t) ∧ KW p v.ownBlock w w' := fun n hn he hc =>
    hc.mono fun _ _ ⟨h1, h2⟩ => ⟨by rw [h1, he], v, by unfold askR; rw [if_neg (by rw [he]; exact hn), h2]; exact h, by rw [h2]; exact KW.refl _ _ _⟩
  by_cases h1 : q.text.size = 0 ∨ 4000 < q.text.size
  · exact hcl 1 (by decide) (by unfold askE; rw [if_pos h1]) (rask_bad p q.who t q.text w h1)
  have hs : ¬ q.text.size = 0 := fun e => h1 (.inl e)
  have hs4 : q.text.size ≤ 4000 := by omega
  by_cases h2 : r.closed = true
  · exact hcl 31 (by decide) (by unfold askE; rw [if_neg h1, if_pos h2]) (rask_closed p v r q.who t q.text w h hs hs4 h2)
  have hc : r.closed = false := by simpa using h2
  by_cases h3 : r.timed = true ∧ t < r.last
  · exact hcl 32 (by decide) (by unfold askE; rw [if_neg h1, if_neg h2, if_pos h3]) (rask_old p v r q.who t q.text w h hs hs4 hc h3)
  exact rask_loop p v r q t w h hB hs ⟨hw, hs4⟩ ht hc h3
def celI (i : Int) : List Value := [.int .i64 i]
theorem celI_len : ∀ x : Int, (celI x).length = 1 ∧ ∀ c ∈ celI x, c.oneCell' = true := fun x => ⟨rfl, by simp [celI, Value.oneCell']⟩
/-- Who is due is given out. -/
def dueP (per : Int) (all : Bool) (z : Int) : Bool := all || decide (z < per)
def addD (ks : List Int) (x : Int) : List Int := if x ∈ ks then ks else ks ++ [x]
theorem addD_nodup {ks : List Int} {x : Int} (h : ks.Nodup) : (addD ks x).Nodup := by
  unfold addD
  split
  · exact h
  · rename_i hx
    rw [List.nodup_append]
    refine ⟨h, by simp, fun a ha b hb => ?_⟩
    rw [List.mem_singleton.1 hb]
    rintro rfl
    exact hx ha
theorem mem_addD {ks : List Int} {x y : Int} : y ∈ addD ks x ↔ y ∈ ks ∨ y = x := by
  unfold addD
  split
  · rename_i hx
    exact ⟨.inl, fun h => h.elim id (fun e => e ▸ hx)⟩
  · simp
theorem celI_map (zs : List Int) : zs.flatMap celI = zs.map (Value.int .i64) := by
  induction zs with
  | nil => rfl
  | cons z zs ih => rw [List.flatMap_cons, ih]; rfl
theorem row_formI {B : Nat} {w : World} {v : Value} {l : List Int} (h : w.ownsRow B 3 1 v l.length (l.flatMap celI)) :
    ∃ A cap, v = .slice A l.length cap ∧ l.length ≤ cap ∧ cap ≤ 9223372036854775807 ∧ (l = [] ∧ A = none ∧ cap = 0 ∨ ∃ g, A = some ⟨g, 0, none⟩ ∧ B ≤ g ∧ ∀ k (h : k < l.length), w.cell? ⟨g, k, none⟩ = some (.int .i64 l[k])) := by
  rcases h.2 with ⟨hn, h0⟩ | ⟨g, cap, cur, hv, hb, hg, h1, h2, h3, h4⟩
  · refine ⟨none, 0, by rw [hn, h0], by omega, by omega, .inl ⟨List.length_eq_zero_iff.1 h0, rfl, rfl⟩⟩
  · refine ⟨_, cap, hv, h1, by unfold maxLen at h2; exact h2, .inr ⟨g, rfl, hb, fun k hk => ?_⟩⟩
    subst hv
    rw [World.ownsRow.cellAt h k (by omega), celI_map]
    simp [hk]
theorem take_mem_succ {ks : List Int} {x : Int} {k : Nat} (hk : k < ks.length) : decide (x ∈ ks.take (k + 1)) = (decide (x ∈ ks.take k) || decide (ks[k] = x)) := by
  rw [List.take_succ_eq_append_getElem hk, Bool.eq_iff_iff]
  simp only [List.mem_append, List.mem_singleton, decide_eq_true_iff, Bool.or_eq_true]
  exact ⟨fun h => h.imp id Eq.symm, fun h => h.imp id Eq.symm⟩
theorem keep_row {E E' sz sz' n n' B B' : Nat} {w w' : World} {v v' : Value} {xs xs' : List Value} (h : w.ownsRow B E sz v n xs) (h' : w.ownsRow B' E' sz' v' n' xs') (hE : E ≠ E') (hg : w.grownBy w' v'.ownBlock) : w'.ownsRow B E sz v n xs :=
  row_keepK h fun g e => by
    obtain ⟨cs, h1⟩ := row_block h e
    refine hg.block g (Rg.lt_of_heap h1) (fun e2 => ?_)
    obtain ⟨cs', h2⟩ := row_block h' e2.symm
    rw [h1] at h2
    cases h2
    exact hE rfl
set_option maxRecDepth 100000 in
set_option maxHeartbeats 8000000 in
theorem rgive_any {B : Nat} (p : Nat) (v : Value) (r : Rl) (per : Int) (all : Bool) (w : World) (h : RT B w p v r) (hB : B ≤ w.heap.size) :
    Calls Try.prog 30 #[.pointer (some ⟨p, 0, none⟩), .int .i64 per, .bool all] w fun e w' => ∃ u, e = .returned u ∧ BatR w.heap.size w' u (giveF r (dueP per all)).1 ∧ ∃ v', RT B w' p v' (giveF r (dueP per all)).2 ∧ KW p none w w' := by
  have HH := Lib.hid h
  have hlen := h.rm.ok.len
  have HSR := Lib.hid h.rm.sr
  obtain ⟨base, cap, rfl⟩ := h.rm.sr.form
  have hlc : r.l.length ≤ cap := by
    rcases h.rm.list.2 with ⟨hn, h0⟩ | ⟨g, cap', cur, hv, hb, hg, h1, -⟩
    · omega
    · injection hv with e1 e2 e3
      omega
  obtain ⟨D, hD⟩ : ∃ D, D = w.heap.size := ⟨_, rfl⟩
  rw [← hD] at hB ⊢
  have HD := Lib.hid hD
  have HC : Hid (∀ wz, Ext w wz → wz.cell? ⟨p, 2, none⟩ = some (.slice base r.l.length cap) ∧ wz.cell? ⟨p, 0, none⟩ = some (.int .i64 (max r.least 1)) ∧ p < wz.heap.size) := Lib.hid (fun wz hz => ⟨(h.ext hz).rm.cells.2.2.1, (h.ext hz).rm.cells.1, (h.ext hz).rm.cells.2.2.2.2.2.2⟩)
  clear h hD
  go_enter Try.func30, Try.ntmps30
  cases all with
  | true =>
    go_wp2_with (fail)
    go_loopw [7, 8, 9, 10] (fun ut ua ur kv wr => ∃ (i : Nat) (ks : List Int), kv = .int .i64 i ∧ i ≤ r.l.length ∧ Hid (wr.ownsRow D 9 1 ut (texts ((r.l.take i).filter fun x => dueP per true x.2)).length ((texts ((r.l.take i).filter fun x => dueP per true x.2)).flatMap celS)) ∧ Hid (wr.ownsRow D 3 1 ua ks.length (ks.flatMap celI)) ∧ Hid (wr.ownsRow D 68 3 ur ((r.l.take i).filter fun x => !dueP per true x.2).length (((r.l.take i).filter fun x => !dueP per true x.2).flatMap qcs)) ∧ Hid (ks.Nodup ∧ ∀ x, x ∈ ks ↔ x ∈ whos ((r.l.take i).filter fun x => dueP per true x.2)) ∧ Hid (Ext w wr)) (fun _ _ _ kv _ => r.l.length - (iof kv).toNat)
    case atStart => exact ⟨0, [], rfl, Nat.zero_le _, Lib.hid (World.ownsRow_nil _ _ _ _), Lib.hid (World.ownsRow_nil _ _ _ _), Lib.hid (World.ownsRow_nil _ _ _ _), Lib.hid ⟨List.Pairwise.nil, fun x => Iff.rfl⟩, Lib.hid (Ext.refl _)⟩
    case round =>
      obtain ⟨i, ks, rfl, hi, HT, HA, HR, HN, HX⟩ := hrel
      obtain ⟨u2, u0, ul⟩ := HC.out wr HX.out
      by_cases hil : i < r.l.length
      · obtain ⟨g, rfl, hgl, dw0, dw1, dw2⟩ := rq_at HSR.out i hil
        have HTK : Hid (∀ f : Qn × Int → Bool, (r.l.take (i + 1)).filter f = (r.l.take i).filter f ++ (if f r.l[i] = true then [r.l[i]] else [])) := Lib.hid (fun f => by
          rw [List.take_succ_eq_append_getElem hil, List.filter_append]
          congr 1
          cases hf : f r.l[i] <;> simp [hf])
        have HTD := Lib.hid (HTK.out (fun x => dueP per true x.2))
        have HTN := Lib.hid (HTK.out (fun x => !dueP per true x.2))
        have hdl : ((r.l.take i).filter fun x => dueP per true x.2).length ≤ 1000 := Nat.le_trans (List.length_filter_le _ _) (by rw [List.length_take]; omega)
        have hnl : ((r.l.take i).filter fun x => !dueP per true x.2).length ≤ 1000 := Nat.le_trans (List.length_filter_le _ _) (by rw [List.length_take]; omega)
        clear HTK
        obtain ⟨x, hx⟩ : ∃ x, x = r.l[i] := ⟨_, rfl⟩
        rw [← hx] at dw0 dw1 dw2 HTD HTN
        clear hx
        obtain ⟨⟨xw, xt⟩, xp⟩ := x
        simp only at dw0 dw1 dw2 HTD HTN
        have d0 := (HX.out.cells.1 _ _ hgl).trans dw0; have d1 := (HX.out.cells.1 _ _ hgl).trans dw1; have d2 := (HX.out.cells.1 _ _ hgl).trans dw2
        have HW0 := Lib.hid dw0
        clear dw0 dw1 dw2
        generalize (r.l.take i).filter (fun x => dueP per true x.2) = dl at *
        generalize (r.l.take i).filter (fun x => !dueP per true x.2) = nl at *
        have hdue : dueP per true xp = true := rfl
        have HD1 : Hid ((r.l.take (i + 1)).filter (fun x => dueP per true x.2) = dl ++ [(⟨xw, xt⟩, xp)]) := Lib.hid (by rw [HTD.out, if_pos hdue])
        have HD2 : Hid ((r.l.take (i + 1)).filter (fun x => !dueP per true x.2) = nl) := Lib.hid (by rw [HTN.out, if_neg (by rw [hdue]; decide), List.append_nil])
        clear HTD HTN hdue
        have HTL : Hid ((texts dl).length = dl.length) := Lib.hid (by simp [texts])
        have HKL : Hid (ks.length ≤ 1000) := Lib.hid (Nat.le_trans (nodup_le (m := whos dl) HN.out.1 (fun x hx => (HN.out.2 x).1 hx)) (by simp [whos]; exact hdl))
        go_upto_region 10 with (at_builtin; (refine append_g (cs := celS) (z := .string ⟨#[]⟩) 38 9 16 Try.underlying38 (by kernel_rfl) (by rfl) (by decide) (by decide) rfl (.tmp 46) (.tmp 55) rfl D u7 (texts dl) (by rfl) (row_ext HT.out (Ext.alloc (Ext.refl _) _)) wr.heap.size xt (celS_len _) (by rfl) (alloc_at wr _) (by have := HTL.out; omega) (by have := HX.out.size; have := HD.out; simp; omega) ?_; intro g9 cap9 w9 hr9 hg9 hat9))
        have hxa : Ext wr (wr.alloc (.cells #[.string xt] 9)) := Ext.alloc (Ext.refl _) _
        have h0 := row_ext HT.out hxa
        have HX9 : Hid (Ext w w9) := Lib.hid (grown_ext (HX.out.trans hxa) h0 (Nat.le_of_eq HD.out.symm) hg9)
        have ha9 := keep_row (row_ext HA.out hxa) h0 (by decide) hg9
        have HR9 := Lib.hid (keep_row (row_ext HR.out hxa) h0 (by decide) hg9)
        have HT9 : Hid (w9.ownsRow D 9 1 (.slice (some ⟨g9, 0, none⟩) ((texts dl).length + 1) cap9) (texts (dl ++ [(⟨xw, xt⟩, xp)])).length ((texts (dl ++ [(⟨xw, xt⟩, xp)])).flatMap celS)) := Lib.hid (by
          rw [show texts (dl ++ [(⟨xw, xt⟩, xp)]) = texts dl ++ [xt] by simp [texts]]
          exact hr9)
        obtain ⟨A8, cap8, hu8, hlc8, hcm8, hrf8⟩ := row_formI ha9
        have HA9 := Lib.hid ha9; have HRF8 := Lib.hid hrf8
        subst hu8
        clear hxa h0 hr9 hg9 hat9 HT HA HR HX u2 u0 ul d0 d1 d2 ha9 hrf8
        have hkl := HKL.out
        go_wp2_with (fail)
        go_loopw [11, 12] (fun bv kv wr => ∃ (k : Nat) (b : Bool), bv = .bool b ∧ kv = .int .i64 k ∧ k ≤ ks.length ∧ Hid (b = decide (xw ∈ ks.take k)) ∧ Hid (Ext w9 wr)) (fun _ kv _ => ks.length - (iof kv).toNat)
        case atStart => exact ⟨0, false, rfl, rfl, Nat.zero_le _, Lib.hid rfl, Lib.hid (Ext.refl _)⟩
        case round =>
          obtain ⟨k, b, rfl, rfl, hk, HBK, HE⟩ := hrel
          have HXE := Lib.hid (HX9.out.trans HE.out)
          by_cases hkk : k < ks.length
          · have HST := Lib.hid (take_mem_succ (x := xw) hkk)
            rw [← HBK.out] at HST
            obtain ⟨g8, rfl, -, hc8⟩ := HRF8.out.resolve_left (fun e => by rw [e.1] at hkk; simp at hkk)
            have c8 := (HE.out.cells.1 _ _ (World.block_lt_of_cell? _ _ (hc8 k hkk))).trans (hc8 k hkk)
            generalize ks[k] = y at *
            clear hc8
            cases b with
            | true =>
              have HB2 : Hid (true = decide (xw ∈ ks.take (k + 1))) := Lib.hid (by rw [HST.out]; rfl)
              clear HST HBK c8
              go_upto_region 14 with (fail)
              go_quiet (fail)
              go_wp2_with (fail)
              exact ⟨⟨k + 1, true, rfl, by simp, by omega, HB2, Lib.hid (HE.out.drewN _)⟩, by simp [iof]; omega⟩
            | false =>
              have d0 := (HXE.out.cells.1 _ _ hgl).trans HW0.out
              obtain ⟨u2, -, ul⟩ := HC.out wr HXE.out
              have HB2 : Hid (decide (y = xw) = decide (xw ∈ ks.take (k + 1))) := Lib.hid (by rw [HST.out]; rfl)
              clear HST HBK
              go_upto_region 14 with (fail)
              go_quiet (fail)
              go_wp2_with (fail)
              exact ⟨⟨k + 1, _, rfl, by simp, by omega, Lib.hid (by rw [← HB2.out]; rfl), Lib.hid (HE.out.drewN _)⟩, by simp [iof]; omega⟩
          · obtain rfl : k = ks.length := by omega
            rw [List.take_length] at HBK
            have HT8 := Lib.hid (row_ext HT9.out HE.out); have HR8 := Lib.hid (row_ext HR9.out HE.out); have HA8 := Lib.hid (row_ext HA9.out HE.out)
            clear HT9 HR9 HA9 HX9 HE HRF8 hkk
            have HNN : Hid ((addD ks xw).Nodup ∧ ∀ z, z ∈ addD ks xw ↔ z ∈ whos (dl ++ [(⟨xw, xt⟩, xp)])) := Lib.hid ⟨addD_nodup HN.out.1, fun z => by
              rw [mem_addD, HN.out.2]
              simp [whos]⟩
            cases b with
            | true =>
              have hin : xw ∈ ks := of_decide_eq_true HBK.out.symm
              have HAD : Hid (addD ks xw = ks) := Lib.hid (by unfold addD; rw [if_pos hin])
              clear hin HBK
              go_wp2_with (fail)
              exact ⟨⟨i + 1, addD ks xw, by simp, by omega, Lib.hid (by rw [HD1.out]; exact HT8.out), Lib.hid (by rw [HAD.out]; exact HA8.out), Lib.hid (by rw [HD2.out]; exact HR8.out), Lib.hid (by rw [HD1.out]; exact HNN.out), HXE⟩, by simp [iof]; omega⟩
            | false =>
              have hin : ¬ xw ∈ ks := of_decide_eq_false HBK.out.symm
              have HAD : Hid (addD ks xw = ks ++ [xw]) := Lib.hid (by unfold addD; rw [if_neg hin])
              clear hin HBK
              have d0 := (HXE.out.cells.1 _ _ hgl).trans HW0.out
              obtain ⟨u2, -, ul⟩ := HC.out wr HXE.out
              go_upto_region 6 with (at_builtin; (refine append_g (cs := celI) (z := .int .i64 0) 36 3 8 Try.underlying36 (by kernel_rfl) (by rfl) (by decide) (by decide) rfl (.tmp 81) (.tmp 90) rfl D (.slice A8 ks.length cap8) ks (by rfl) (row_ext HA8.out (Ext.alloc (Ext.refl _) _)) wr.heap.size xw (celI_len _) (by rfl) (alloc_at wr _) (by omega) (by have := HXE.out.size; have := HD.out; simp; omega) ?_; intro g7 cap7 w7 hr7 hg7 hat7))
              have hxa : Ext wr (wr.alloc (.cells #[.int .i64 xw] 3)) := Ext.alloc (Ext.refl _) _
              have h0 := row_ext HA8.out hxa
              have HX7 : Hid (Ext w w7) := Lib.hid (grown_ext (HXE.out.trans hxa) h0 (Nat.le_of_eq HD.out.symm) hg7)
              have HT7 := Lib.hid (keep_row (row_ext HT8.out hxa) h0 (by decide) hg7)
              have HR7 := Lib.hid (keep_row (row_ext HR8.out hxa) h0 (by decide) hg7)
              have HA7 := Lib.hid hr7
              clear hxa h0 hr7 hg7 hat7 HT8 HA8 HR8 HXE u2 ul d0
              go_wp2_with (fail)
              exact ⟨⟨i + 1, addD ks xw, by simp, by omega, Lib.hid (by rw [HD1.out]; exact HT7.out), Lib.hid (by rw [HAD.out]; exact HA7.out), Lib.hid (by rw [HD2.out]; exact HR7.out), Lib.hid (by rw [HD1.out]; exact HNN.out), HX7⟩, by simp [iof]; omega⟩
      · obtain rfl : i = r.l.length := by omega
        rw [List.take_length] at HT HR HN
        have HDL : Hid (dueL r (dueP per true) = r.l.filter fun x => dueP per true x.2) := Lib.hid rfl
        have HKL : Hid (ks.length = (dis (whos (dueL r (dueP per true)))).length) := Lib.hid (len_dis HN.out.1 (by rw [HDL.out]; exact HN.out.2))
        have hkl : ks.length ≤ 1000 := Nat.le_trans (nodup_le (m := whos (r.l.filter fun x => dueP per true x.2)) HN.out.1 (fun x hx => (HN.out.2 x).1 hx)) (by simp only [whos, List.length_map]; exact Nat.le_trans (List.length_filter_le _ _) hlen)
        have hdl : (r.l.filter fun x => dueP per true x.2).length ≤ 1000 := Nat.le_trans (List.length_filter_le _ _) hlen
        have HOK : Hid (∀ s ∈ texts (r.l.filter fun x => dueP per true x.2), s.size ≤ 4000) := Lib.hid (fun s hs => by
          obtain ⟨x, hx, rfl⟩ := List.mem_map.1 hs
          exact (HH.out.txt x (List.mem_filter.1 hx).1).2)
        have htl : (texts (r.l.filter fun x => dueP per true x.2)).length ≤ 1000 := by simp only [texts, List.length_map]; exact hdl
        obtain ⟨A8, cap8, hu8, -, -, -⟩ := row_formI HA.out
        obtain ⟨a9, n9, c9, hu9⟩ := row_form HR.out
        subst hu8 hu9
        obtain ⟨ml, hml⟩ : ∃ ml, ml = max r.least 1 := ⟨_, rfl⟩
        rw [← hml] at u0
        have HML := Lib.hid hml
        clear hml
        by_cases hlt : (ks.length : Int) < ml
        · have HV : Hid (giveF r (dueP per true) = (none, r)) := Lib.hid (by
            unfold giveF
            rw [if_pos (by rw [← HKL.out, ← HML.out]; exact hlt)])
          go_wp2_with (fail)
          go_ret
          exact ⟨_, rfl, by rw [HV.out]; rfl, _, by rw [HV.out]; exact HH.out.ext HX.out, KW.of_ext HX.out⟩
        · have HV : Hid (giveF r (dueP per true) = (some (srtT (texts (dueL r (dueP per true)))), { r with l := r.l.filter fun x => !dueP per true x.2 })) := Lib.hid (by
            unfold giveF
            rw [if_neg (by rw [← HKL.out, ← HML.out]; exact hlt)])
          have hrow := (HX.out.block _ (Rg.lt_of_heap HH.out.rm.row)).trans HH.out.rm.row
          have f2 : wr.frozen? ⟨p, 2, none⟩ = false := (Rg.cells_of hrow).2.1 _
          have hpD : p < D := by rw [HD.out]; exact Rg.lt_of_heap HH.out.rm.row
          have hnp : ∀ {E sz n : Nat} {u : Value} {xs : List Value}, wr.ownsRow D E sz u n xs → ∀ g, u.ownBlock = some g → (wr.setCell ⟨p, 2, none⟩ (.slice a9 n9 c9)).heap[g]? = wr.heap[g]? := fun h g hg => heap_setCell_other _ (by have := (h.lt g hg).1; omega)
          have HT2 := Lib.hid (row_keepK HT.out (hnp HT.out))
          have HR2 := Lib.hid (row_keepK HR.out (hnp HR.out))
          have HROW : Hid ((wr.setCell ⟨p, 2, none⟩ (.slice a9 n9 c9)).heap[p]? = some (.cells (({ r with l := r.l.filter fun x => !dueP per true x.2 } : Rl).rcells (.slice a9 n9 c9)) 60)) := Lib.hid (heap_setCell_row (o := 2) (.slice a9 n9 c9) hrow)
          have HK2 : Hid (KW p none w (wr.setCell ⟨p, 2, none⟩ (.slice a9 n9 c9))) := Lib.hid ((KW.of_ext HX.out).setCell _)
          have HSH := Lib.hid (rshuf_any D u7 (texts (r.l.filter fun x => dueP per true x.2)) (wr.setCell ⟨p, 2, none⟩ (.slice a9 n9 c9)) HT2.out HOK.out htl)
          have hsz : (wr.setCell ⟨p, 2, none⟩ (.slice a9 n9 c9)).heap.size = wr.heap.size := by simp
          have HSZ := Lib.hid hsz
          clear hnp hrow HT HA HR hsz
          obtain ⟨W2, hW2⟩ : ∃ W2, W2 = wr.setCell ⟨p, 2, none⟩ (.slice a9 n9 c9) := ⟨_, rfl⟩
          rw [← hW2] at HT2 HR2 HROW HK2 HSH HSZ
          have HW2 := Lib.hid hW2
          clear hW2
          go_upto_region 20 with (fail)
          rw [← HW2.out]
          go_wp2_with (go_at_call 36; (with_reducible refine HSH.out.mono ?_); rintro e w6 ⟨u, rfl, hu6, hx6⟩; obtain ⟨ua, un, uc, rfl⟩ := row_form hu6)
          go_ret
          have hx7 : Ext w6 (w6.alloc (.cells #[.slice ua un uc] 38)) := Ext.alloc (Ext.refl _) _
          have hDw : D ≤ W2.heap.size := by rw [HSZ.out, HD.out]; exact HX.out.size
          refine ⟨_, rfl, ?_, .slice a9 n9 c9, ?_, HK2.out.trans (KW.of_ext (hx6.trans hx7))⟩
          · rw [HV.out]
            refine ⟨w6.heap.size, _, rfl, Nat.le_trans hDw hx6.size, alloc_at w6 _, ?_⟩
            rw [HDL.out, srtT_len]
            exact row_baseS (row_ext hu6 hx7) hDw
          · rw [HV.out]
            have hx67 := hx6.trans hx7
            refine ⟨⟨HH.out.rm.at_, (hx67.block _ (Rg.lt_of_heap HROW.out)).trans HROW.out, row_baseS (row_ext HR2.out hx67) hB, ⟨HH.out.rm.ok.least, HH.out.rm.ok.every, HH.out.rm.ok.last, fun x hx => HH.out.rm.ok.per x (List.mem_filter.1 hx).1, Nat.le_trans (List.length_filter_le _ _) hlen⟩⟩, fun x hx => HH.out.txt x (List.mem_filter.1 hx).1⟩
  | false =>
    go_wp2_with (fail)
    go_loopw [7, 8, 9, 10] (fun ut ua ur kv wr => ∃ (i : Nat) (ks : List Int), kv = .int .i64 i ∧ i ≤ r.l.length ∧ Hid (wr.ownsRow D 9 1 ut (texts ((r.l.take i).filter fun x => dueP per false x.2)).length ((texts ((r.l.take i).filter fun x => dueP per false x.2)).flatMap celS)) ∧ Hid (wr.ownsRow D 3 1 ua ks.length (ks.flatMap celI)) ∧ Hid (wr.ownsRow D 68 3 ur ((r.l.take i).filter fun x => !dueP per false x.2).length (((r.l.take i).filter fun x => !dueP per false x.2).flatMap qcs)) ∧ Hid (ks.Nodup ∧ ∀ x, x ∈ ks ↔ x ∈ whos ((r.l.take i).filter fun x => dueP per false x.2)) ∧ Hid (Ext w wr)) (fun _ _ _ kv _ => r.l.length - (iof kv).toNat)
    case atStart => exact ⟨0, [], rfl, Nat.zero_le _, Lib.hid (World.ownsRow_nil _ _ _ _), Lib.hid (World.ownsRow_nil _ _ _ _), Lib.hid (World.ownsRow_nil _ _ _ _), Lib.hid ⟨List.Pairwise.nil, fun x => Iff.rfl⟩, Lib.hid (Ext.refl _)⟩
    case round =>
      obtain ⟨i, ks, rfl, hi, HT, HA, HR, HN, HX⟩ := hrel
      obtain ⟨u2, u0, ul⟩ := HC.out wr HX.out
      by_cases hil : i < r.l.length
      · obtain ⟨g, rfl, hgl, dw0, dw1, dw2⟩ := rq_at HSR.out i hil
        have HTK : Hid (∀ f : Qn × Int → Bool, (r.l.take (i + 1)).filter f = (r.l.take i).filter f ++ (if f r.l[i] = true then [r.l[i]] else [])) := Lib.hid (fun f => by
          rw [List.take_succ_eq_append_getElem hil, List.filter_append]
          congr 1
          cases hf : f r.l[i] <;> simp [hf])
        have HTD := Lib.hid (HTK.out (fun x => dueP per false x.2))
        have HTN := Lib.hid (HTK.out (fun x => !dueP per false x.2))
        have hdl : ((r.l.take i).filter fun x => dueP per false x.2).length ≤ 1000 := Nat.le_trans (List.length_filter_le _ _) (by rw [List.length_take]; omega)
        have hnl : ((r.l.take i).filter fun x => !dueP per false x.2).length ≤ 1000 := Nat.le_trans (List.length_filter_le _ _) (by rw [List.length_take]; omega)
        clear HTK
        obtain ⟨x, hx⟩ : ∃ x, x = r.l[i] := ⟨_, rfl⟩
        rw [← hx] at dw0 dw1 dw2 HTD HTN
        clear hx
        obtain ⟨⟨xw, xt⟩, xp⟩ := x
        simp only at dw0 dw1 dw2 HTD HTN
        have d0 := (HX.out.cells.1 _ _ hgl).trans dw0; have d1 := (HX.out.cells.1 _ _ hgl).trans dw1; have d2 := (HX.out.cells.1 _ _ hgl).trans dw2
        have HW0 := Lib.hid dw0
        clear dw0 dw1 dw2
        generalize (r.l.take i).filter (fun x => dueP per false x.2) = dl at *
        generalize (r.l.take i).filter (fun x => !dueP per false x.2) = nl at *
        by_cases hxp : xp < per
        · have hdue : dueP per false xp = true := decide_eq_true hxp
          have HD1 : Hid ((r.l.take (i + 1)).filter (fun x => dueP per false x.2) = dl ++ [(⟨xw, xt⟩, xp)]) := Lib.hid (by rw [HTD.out, if_pos hdue])
          have HD2 : Hid ((r.l.take (i + 1)).filter (fun x => !dueP per false x.2) = nl) := Lib.hid (by rw [HTN.out, if_neg (by rw [hdue]; decide), List.append_nil])
          clear HTD HTN hdue
          have HTL : Hid ((texts dl).length = dl.length) := Lib.hid (by simp [texts])
          have HKL : Hid (ks.length ≤ 1000) := Lib.hid (Nat.le_trans (nodup_le (m := whos dl) HN.out.1 (fun x hx => (HN.out.2 x).1 hx)) (by simp [whos]; exact hdl))
          go_upto_region 10 with (at_builtin; (refine append_g (cs := celS) (z := .string ⟨#[]⟩) 38 9 16 Try.underlying38 (by kernel_rfl) (by rfl) (by decide) (by decide) rfl (.tmp 46) (.tmp 55) rfl D u7 (texts dl) (by rfl) (row_ext HT.out (Ext.alloc (Ext.refl _) _)) wr.heap.size xt (celS_len _) (by rfl) (alloc_at wr _) (by have := HTL.out; omega) (by have := HX.out.size; have := HD.out; simp; omega) ?_; intro g9 cap9 w9 hr9 hg9 hat9))
          have hxa : Ext wr (wr.alloc (.cells #[.string xt] 9)) := Ext.alloc (Ext.refl _) _
          have h0 := row_ext HT.out hxa
          have HX9 : Hid (Ext w w9) := Lib.hid (grown_ext (HX.out.trans hxa) h0 (Nat.le_of_eq HD.out.symm) hg9)
          have ha9 := keep_row (row_ext HA.out hxa) h0 (by decide) hg9
          have HR9 := Lib.hid (keep_row (row_ext HR.out hxa) h0 (by decide) hg9)
          have HT9 : Hid (w9.ownsRow D 9 1 (.slice (some ⟨g9, 0, none⟩) ((texts dl).length + 1) cap9) (texts (dl ++ [(⟨xw, xt⟩, xp)])).length ((texts (dl ++ [(⟨xw, xt⟩, xp)])).flatMap celS)) := Lib.hid (by
            rw [show texts (dl ++ [(⟨xw, xt⟩, xp)]) = texts dl ++ [xt] by simp [texts]]
            exact hr9)
          obtain ⟨A8, cap8, hu8, hlc8, hcm8, hrf8⟩ := row_formI ha9
          have HA9 := Lib.hid ha9; have HRF8 := Lib.hid hrf8
          subst hu8
          clear hxa h0 hr9 hg9 hat9 HT HA HR HX u2 u0 ul d0 d1 d2 ha9 hrf8
          have hkl := HKL.out
          go_wp2_with (fail)
          go_loopw [11, 12] (fun bv kv wr => ∃ (k : Nat) (b : Bool), bv = .bool b ∧ kv = .int .i64 k ∧ k ≤ ks.length ∧ Hid (b = decide (xw ∈ ks.take k)) ∧ Hid (Ext w9 wr)) (fun _ kv _ => ks.length - (iof kv).toNat)
          case atStart => exact ⟨0, false, rfl, rfl, Nat.zero_le _, Lib.hid rfl, Lib.hid (Ext.refl _)⟩
          case round =>
            obtain ⟨k, b, rfl, rfl, hk, HBK, HE⟩ := hrel
            have HXE := Lib.hid (HX9.out.trans HE.out)
            by_cases hkk : k < ks.length
            · have HST := Lib.hid (take_mem_succ (x := xw) hkk)
              rw [← HBK.out] at HST
              obtain ⟨g8, rfl, -, hc8⟩ := HRF8.out.resolve_left (fun e => by rw [e.1] at hkk; simp at hkk)
              have c8 := (HE.out.cells.1 _ _ (World.block_lt_of_cell? _ _ (hc8 k hkk))).trans (hc8 k hkk)
              generalize ks[k] = y at *
              clear hc8
              cases b with
              | true =>
                have HB2 : Hid (true = decide (xw ∈ ks.take (k + 1))) := Lib.hid (by rw [HST.out]; rfl)
                clear HST HBK c8
                go_upto_region 14 with (fail)
                go_quiet (fail)
                go_wp2_with (fail)
                exact ⟨⟨k + 1, true, rfl, by simp, by omega, HB2, Lib.hid (HE.out.drewN _)⟩, by simp [iof]; omega⟩
              | false =>
                have d0 := (HXE.out.cells.1 _ _ hgl).trans HW0.out
                obtain ⟨u2, -, ul⟩ := HC.out wr HXE.out
                have HB2 : Hid (decide (y = xw) = decide (xw ∈ ks.take (k + 1))) := Lib.hid (by rw [HST.out]; rfl)
                clear HST HBK
                go_upto_region 14 with (fail)
                go_quiet (fail)
                go_wp2_with (fail)
                exact ⟨⟨k + 1, _, rfl, by simp, by omega, Lib.hid (by rw [← HB2.out]; rfl), Lib.hid (HE.out.drewN _)⟩, by simp [iof]; omega⟩
            · obtain rfl : k = ks.length := by omega
              rw [List.take_length] at HBK
              have HT8 := Lib.hid (row_ext HT9.out HE.out); have HR8 := Lib.hid (row_ext HR9.out HE.out); have HA8 := Lib.hid (row_ext HA9.out HE.out)
              clear HT9 HR9 HA9 HX9 HE HRF8 hkk
              have HNN : Hid ((addD ks xw).Nodup ∧ ∀ z, z ∈ addD ks xw ↔ z ∈ whos (dl ++ [(⟨xw, xt⟩, xp)])) := Lib.hid ⟨addD_nodup HN.out.1, fun z => by
                rw [mem_addD, HN.out.2]
                simp [whos]⟩
              cases b with
              | true =>
                have hin : xw ∈ ks := of_decide_eq_true HBK.out.symm
                have HAD : Hid (addD ks xw = ks) := Lib.hid (by unfold addD; rw [if_pos hin])
                clear hin HBK
                go_wp2_with (fail)
                exact ⟨⟨i + 1, addD ks xw, by simp, by omega, Lib.hid (by rw [HD1.out]; exact HT8.out), Lib.hid (by rw [HAD.out]; exact HA8.out), Lib.hid (by rw [HD2.out]; exact HR8.out), Lib.hid (by rw [HD1.out]; exact HNN.out), HXE⟩, by simp [iof]; omega⟩
              | false =>
                have hin : ¬ xw ∈ ks := of_decide_eq_false HBK.out.symm
                have HAD : Hid (addD ks xw = ks ++ [xw]) := Lib.hid (by unfold addD; rw [if_neg hin])
                clear hin HBK
                have d0 := (HXE.out.cells.1 _ _ hgl).trans HW0.out
                obtain ⟨u2, -, ul⟩ := HC.out wr HXE.out
                go_upto_region 6 with (at_builtin; (refine append_g (cs := celI) (z := .int .i64 0) 36 3 8 Try.underlying36 (by kernel_rfl) (by rfl) (by decide) (by decide) rfl (.tmp 81) (.tmp 90) rfl D (.slice A8 ks.length cap8) ks (by rfl) (row_ext HA8.out (Ext.alloc (Ext.refl _) _)) wr.heap.size xw (celI_len _) (by rfl) (alloc_at wr _) (by omega) (by have := HXE.out.size; have := HD.out; simp; omega) ?_; intro g7 cap7 w7 hr7 hg7 hat7))
                have hxa : Ext wr (wr.alloc (.cells #[.int .i64 xw] 3)) := Ext.alloc (Ext.refl _) _
                have h0 := row_ext HA8.out hxa
                have HX7 : Hid (Ext w w7) := Lib.hid (grown_ext (HXE.out.trans hxa) h0 (Nat.le_of_eq HD.out.symm) hg7)
                have HT7 := Lib.hid (keep_row (row_ext HT8.out hxa) h0 (by decide) hg7)
                have HR7 := Lib.hid (keep_row (row_ext HR8.out hxa) h0 (by decide) hg7)
                have HA7 := Lib.hid hr7
                clear hxa h0 hr7 hg7 hat7 HT8 HA8 HR8 HXE u2 ul d0
                go_wp2_with (fail)
                exact ⟨⟨i + 1, addD ks xw, by simp, by omega, Lib.hid (by rw [HD1.out]; exact HT7.out), Lib.hid (by rw [HAD.out]; exact HA7.out), Lib.hid (by rw [HD2.out]; exact HR7.out), Lib.hid (by rw [HD1.out]; exact HNN.out), HX7⟩, by simp [iof]; omega⟩
        · have hdue : dueP per false xp = false := decide_eq_false hxp
          have HD1 : Hid ((r.l.take (i + 1)).filter (fun x => dueP per false x.2) = dl) := Lib.hid (by rw [HTD.out, if_neg (by rw [hdue]; decide), List.append_nil])
          have HD2 : Hid ((r.l.take (i + 1)).filter (fun x => !dueP per false x.2) = nl ++ [(⟨xw, xt⟩, xp)]) := Lib.hid (by rw [HTN.out, if_pos (by rw [hdue]; rfl)])
          clear HTD HTN hdue
          go_upto_region 6 with (at_builtin; (refine append_g (cs := qcs) (z := .agg #[.int .i64 0, .int .i64 0, .string ⟨#[]⟩]) 58 68 32 Try.underlying58 (by kernel_rfl) (by rfl) (by decide) (by decide) rfl (.tmp 36) (.tmp 44) rfl D u9 nl (by rfl) (row_ext HR.out (Ext.alloc (Ext.refl _) _)) wr.heap.size (⟨xw, xt⟩, xp) (qcs_len _) (by rfl) (alloc_at wr _) (by omega) (by have := HX.out.size; have := HD.out; simp; omega) ?_; intro g9 cap9 w9 hr9 hg9 hat9))
          have hxa : Ext wr (wr.alloc (.cells #[.int .i64 xw, .int .i64 xp, .string xt] 68)) := Ext.alloc (Ext.refl _) _
          have h0 := row_ext HR.out hxa
          have HX9 : Hid (Ext w w9) := Lib.hid (grown_ext (HX.out.trans hxa) h0 (Nat.le_of_eq HD.out.symm) hg9)
          have HT9 := Lib.hid (keep_row (row_ext HT.out hxa) h0 (by decide) hg9)
          have HA9 := Lib.hid (keep_row (row_ext HA.out hxa) h0 (by decide) hg9)
          have HR9 := Lib.hid hr9
          clear hxa h0 hr9 hg9 hat9 HT HA HR HX u2 u0 ul d0 d1 d2
          go_wp2_with (fail)
          exact ⟨⟨i + 1, ks, by simp, by omega, Lib.hid (by rw [HD1.out]; exact HT9.out), HA9, Lib.hid (by rw [HD2.out]; exact HR9.out), Lib.hid (by rw [HD1.out]; exact HN.out), HX9⟩, by simp [iof]; omega⟩
      · obtain rfl : i = r.l.length := by omega
        rw [List.take_length] at HT HR HN
        have HDL : Hid (dueL r (dueP per false) = r.l.filter fun x => dueP per false x.2) := Lib.hid rfl
        have HKL : Hid (ks.length = (dis (whos (dueL r (dueP per false)))).length) := Lib.hid (len_dis HN.out.1 (by rw [HDL.out]; exact HN.out.2))
        have hkl : ks.length ≤ 1000 := Nat.le_trans (nodup_le (m := whos (r.l.filter fun x => dueP per false x.2)) HN.out.1 (fun x hx => (HN.out.2 x).1 hx)) (by simp only [whos, List.length_map]; exact Nat.le_trans (List.length_filter_le _ _) hlen)
        have hdl : (r.l.filter fun x => dueP per false x.2).length ≤ 1000 := Nat.le_trans (List.length_filter_le _ _) hlen
        have HOK : Hid (∀ s ∈ texts (r.l.filter fun x => dueP per false x.2), s.size ≤ 4000) := Lib.hid (fun s hs => by
          obtain ⟨x, hx, rfl⟩ := List.mem_map.1 hs
          exact (HH.out.txt x (List.mem_filter.1 hx).1).2)
        have htl : (texts (r.l.filter fun x => dueP per false x.2)).length ≤ 1000 := by simp only [texts, List.length_map]; exact hdl
        obtain ⟨A8, cap8, hu8, -, -, -⟩ := row_formI HA.out
        obtain ⟨a9, n9, c9, hu9⟩ := row_form HR.out
        subst hu8 hu9
        obtain ⟨ml, hml⟩ : ∃ ml, ml = max r.least 1 := ⟨_, rfl⟩
        rw [← hml] at u0
        have HML := Lib.hid hml
        clear hml
        by_cases hlt : (ks.length : Int) < ml
        · have HV : Hid (giveF r (dueP per false) = (none, r)) := Lib.hid (by
            unfold giveF
            rw [if_pos (by rw [← HKL.out, ← HML.out]; exact hlt)])
          go_wp2_with (fail)
          go_ret
          exact ⟨_, rfl, by rw [HV.out]; rfl, _, by rw [HV.out]; exact HH.out.ext HX.out, KW.of_ext HX.out⟩
        · have HV : Hid (giveF r (dueP per false) = (some (srtT (texts (dueL r (dueP per false)))), { r with l := r.l.filter fun x => !dueP per false x.2 })) := Lib.hid (by
            unfold giveF
            rw [if_neg (by rw [← HKL.out, ← HML.out]; exact hlt)])
          have hrow := (HX.out.block _ (Rg.lt_of_heap HH.out.rm.row)).trans HH.out.rm.row
          have f2 : wr.frozen? ⟨p, 2, none⟩ = false := (Rg.cells_of hrow).2.1 _
          have hpD : p < D := by rw [HD.out]; exact Rg.lt_of_heap HH.out.rm.row
          have hnp : ∀ {E sz n : Nat} {u : Value} {xs : List Value}, wr.ownsRow D E sz u n xs → ∀ g, u.ownBlock = some g → (wr.setCell ⟨p, 2, none⟩ (.slice a9 n9 c9)).heap[g]? = wr.heap[g]? := fun h g hg => heap_setCell_other _ (by have := (h.lt g hg).1; omega)
          have HT2 := Lib.hid (row_keepK HT.out (hnp HT.out))
          have HR2 := Lib.hid (row_keepK HR.out (hnp HR.out))
          have HROW : Hid ((wr.setCell ⟨p, 2, none⟩ (.slice a9 n9 c9)).heap[p]? = some (.cells (({ r with l := r.l.filter fun x => !dueP per false x.2 } : Rl).rcells (.slice a9 n9 c9)) 60)) := Lib.hid (heap_setCell_row (o := 2) (.slice a9 n9 c9) hrow)
          have HK2 : Hid (KW p none w (wr.setCell ⟨p, 2, none⟩ (.slice a9 n9 c9))) := Lib.hid ((KW.of_ext HX.out).setCell _)
          have HSH := Lib.hid (rshuf_any D u7 (texts (r.l.filter fun x => dueP per false x.2)) (wr.setCell ⟨p, 2, none⟩ (.slice a9 n9 c9)) HT2.out HOK.out htl)
          have hsz : (wr.setCell ⟨p, 2, none⟩ (.slice a9 n9 c9)).heap.size = wr.heap.size := by simp
          have HSZ := Lib.hid hsz
          clear hnp hrow HT HA HR hsz
          obtain ⟨W2, hW2⟩ : ∃ W2, W2 = wr.setCell ⟨p, 2, none⟩ (.slice a9 n9 c9) := ⟨_, rfl⟩
          rw [← hW2] at HT2 HR2 HROW HK2 HSH HSZ
          have HW2 := Lib.hid hW2
          clear hW2
          go_upto_region 20 with (fail)
          rw [← HW2.out]
          go_wp2_with (go_at_call 36; (with_reducible refine HSH.out.mono ?_); rintro e w6 ⟨u, rfl, hu6, hx6⟩; obtain ⟨ua, un, uc, rfl⟩ := row_form hu6)
          go_ret
          have hx7 : Ext w6 (w6.alloc (.cells #[.slice ua un uc] 38)) := Ext.alloc (Ext.refl _) _
          have hDw : D ≤ W2.heap.size := by rw [HSZ.out, HD.out]; exact HX.out.size
          refine ⟨_, rfl, ?_, .slice a9 n9 c9, ?_, HK2.out.trans (KW.of_ext (hx6.trans hx7))⟩
          · rw [HV.out]
            refine ⟨w6.heap.size, _, rfl, Nat.le_trans hDw hx6.size, alloc_at w6 _, ?_⟩
            rw [HDL.out, srtT_len]
            exact row_baseS (row_ext hu6 hx7) hDw
          · rw [HV.out]
            have hx67 := hx6.trans hx7
            refine ⟨⟨HH.out.rm.at_, (hx67.block _ (Rg.lt_of_heap HROW.out)).trans HROW.out, row_baseS (row_ext HR2.out hx67) hB, ⟨HH.out.rm.ok.least, HH.out.rm.ok.every, HH.out.rm.ok.last, fun x hx => HH.out.rm.ok.per x (List.mem_filter.1 hx).1, Nat.le_trans (List.length_filter_le _ _) hlen⟩⟩, fun x hx => HH.out.txt x (List.mem_filter.1 hx).1⟩
end Go.Proofs.Ytbeoihjfjkbfhaa

namespace Go.Proofs.Ytbeoihjfjkbfhaa
set_option linter.unusedVariables false
set_option linter.unusedSimpArgs false
open Go.RowKit
set_option maxRecDepth 100000 in
set_option maxHeartbeats 4000000 in
theorem rtick_any {B : Nat} (p : Nat) (v : Value) (r : Rl) (t : Int) (w : World) (h : RT B w p v r) (hB : B ≤ w.heap.size) (ht : OkI t) :
    Calls Try.prog 17 #[.pointer (some ⟨p, 0, none⟩), .int .i64 t] w fun e w' => ∃ u, e = .returned u ∧ BatR w.heap.size w' u (tickF r t).1 ∧ ∃ v', RT B w' p v' (tickF r t).2 ∧ KW p none w w' := by
  obtain ⟨c0, c1, c2, c3, c4, c5, hpl⟩ := h.rm.cells
  have HH := Lib.hid h; have HT := Lib.hid ht
  have HME : Hid (max r.every 1 ≤ 9223372036854775807 ∧ 1 ≤ max r.every 1) := Lib.hid ⟨by have := h.rm.ok.every.2; omega, by omega⟩
  cases hc : r.closed with
  | true =>
    rw [hc] at c5
    have HV : Hid (tickF r t = (none, r)) := Lib.hid (by unfold tickF; rw [if_pos (.inl hc)])
    clear h ht
    go_enter Try.func17, Try.ntmps17
    go_wp2
    go_ret
    exact ⟨_, rfl, by rw [HV.out]; rfl, v, by rw [HV.out]; exact HH.out, KW.refl _ _ _⟩
  | false =>
    rw [hc] at c5
    cases htm : r.timed with
    | true =>
      rw [htm] at c4
      by_cases hlt : t < r.last
      · skip
        have HV : Hid (tickF r t = (none, r)) := Lib.hid (by unfold tickF; rw [if_pos (.inr ⟨htm, hlt⟩)])
        clear h ht
        go_enter Try.func17, Try.ntmps17
        go_wp2
        go_ret
        exact ⟨_, rfl, by rw [HV.out]; rfl, v, by rw [HV.out]; exact HH.out, KW.refl _ _ _⟩
      · skip
        have HV : Hid (tickF r t = giveF { r with last := t, timed := true } (dueP (t / max r.every 1) false)) := Lib.hid (by unfold tickF; rw [if_neg (by rw [hc, htm]; rintro (h | ⟨-, h⟩); cases h; exact hlt h)]; rfl)
        have f3 := (Rg.cells_of h.rm.row).2.1 3
        have f4 := (Rg.cells_of h.rm.row).2.1 4
        clear h ht
        go_enter Try.func17, Try.ntmps17
        go_upto_region 5 with (fail)
        have hVrow : ((w.setCell ⟨p, 3, none⟩ (.int .i64 t)).setCell ⟨p, 4, none⟩ (.bool true)).heap[p]? = some (.cells (({ r with last := t, timed := true } : Rl).rcells v) 60) := by
          have h1 := heap_setCell_row (o := 3) (.int .i64 t) HH.out.rm.row
          exact heap_setCell_row (o := 4) (.bool true) h1
        have hVK : KW p none w ((w.setCell ⟨p, 3, none⟩ (.int .i64 t)).setCell ⟨p, 4, none⟩ (.bool true)) := ((KW.refl _ _ _).setCell _).setCell _
        have hVL := row_keepK (w' := ((w.setCell ⟨p, 3, none⟩ (.int .i64 t)).setCell ⟨p, 4, none⟩ (.bool true))) HH.out.rm.list fun g hg => by
          have hgp : g ≠ p := by
            rintro rfl
            obtain ⟨cs, h1⟩ := row_block HH.out.rm.list hg
            rw [HH.out.rm.row] at h1
            cases h1
          rw [heap_setCell_other _ hgp, heap_setCell_other _ hgp]
        have hVR : RT B ((w.setCell ⟨p, 3, none⟩ (.int .i64 t)).setCell ⟨p, 4, none⟩ (.bool true)) p v { r with last := t, timed := true } := ⟨⟨HH.out.rm.at_, hVrow, hVL, ⟨HH.out.rm.ok.least, HH.out.rm.ok.every, HT.out, HH.out.rm.ok.per, HH.out.rm.ok.len⟩⟩, HH.out.txt⟩
        have hsz : ((w.setCell ⟨p, 3, none⟩ (.int .i64 t)).setCell ⟨p, 4, none⟩ (.bool true)).heap.size = w.heap.size := by simp
        generalize (w.setCell ⟨p, 3, none⟩ (.int .i64 t)).setCell ⟨p, 4, none⟩ (.bool true) = V at *
        have e1 := hVR.rm.cells.2.1
        have hpV := hVR.rm.cells.2.2.2.2.2.2
        have HG := Lib.hid (rgive_any p v _ (t / max r.every 1) false V hVR (by omega))
        have HP := Lib.hid (rperiod_any t (max r.every 1) V HME.out.2 HME.out.1 HT.out)
        have HVK := Lib.hid hVK; have HSZ := Lib.hid hsz
        clear hVrow hVL hVR hVK hsz c0 c1 c2 c3 c4 c5 f3 f4 HME
        change V.cell? ⟨p, 1, none⟩ = some (.int .i64 (max r.every 1)) at e1
        generalize max r.every 1 = me at *
        generalize t / me = per at *
        go_wp2_with (first
          | (go_at_call 31; (with_reducible refine HP.out.mono ?_); rintro e w5 ⟨rfl, hw5⟩; have h9 := hw5.symm; clear hw5; subst h9)
          | (go_at_call 30; (with_reducible refine HG.out.mono ?_); rintro e w6 ⟨u, rfl, hb6, v6, hr6, hk6⟩))
        go_ret
        exact ⟨_, rfl, by rw [HV.out, ← HSZ.out]; exact hb6, v6, by rw [HV.out]; exact hr6, HVK.out.trans hk6⟩
    | false =>
      rw [htm] at c4
      have HV : Hid (tickF r t = giveF { r with last := t, timed := true } (dueP (t / max r.every 1) false)) := Lib.hid (by unfold tickF; rw [if_neg (by rw [hc, htm]; rintro (h | ⟨h, -⟩) <;> cases h)]; rfl)
      have f3 := (Rg.cells_of h.rm.row).2.1 3
      have f4 := (Rg.cells_of h.rm.row).2.1 4
      clear h ht
      go_enter Try.func17, Try.ntmps17
      go_upto_region 5 with (fail)
      have hVrow : ((w.setCell ⟨p, 3, none⟩ (.int .i64 t)).setCell ⟨p, 4, none⟩ (.bool true)).heap[p]? = some (.cells (({ r with last := t, timed := true } : Rl).rcells v) 60) := by
        have h1 := heap_setCell_row (o := 3) (.int .i64 t) HH.out.rm.row
        exact heap_setCell_row (o := 4) (.bool true) h1
      have hVK : KW p none w ((w.setCell ⟨p, 3, none⟩ (.int .i64 t)).setCell ⟨p, 4, none⟩ (.bool true)) := ((KW.refl _ _ _).setCell _).setCell _
      have hVL := row_keepK (w' := ((w.setCell ⟨p, 3, none⟩ (.int .i64 t)).setCell ⟨p, 4, none⟩ (.bool true))) HH.out.rm.list fun g hg => by
        have hgp : g ≠ p := by
          rintro rfl
          obtain ⟨cs, h1⟩ := row_block HH.out.rm.list hg
          rw [HH.out.rm.row] at h1
          cases h1
        rw [heap_setCell_other _ hgp, heap_setCell_other _ hgp]
      have hVR : RT B ((w.setCell ⟨p, 3, none⟩ (.int .i64 t)).setCell ⟨p, 4, none⟩ (.bool true)) p v { r with last := t, timed := true } := ⟨⟨HH.out.rm.at_, hVrow, hVL, ⟨HH.out.rm.ok.least, HH.out.rm.ok.every, HT.out, HH.out.rm.ok.per, HH.out.rm.ok.len⟩⟩, HH.out.txt⟩
      have hsz : ((w.setCell ⟨p, 3, none⟩ (.int .i64 t)).setCell ⟨p, 4, none⟩ (.bool true)).heap.size = w.heap.size := by simp
      generalize (w.setCell ⟨p, 3, none⟩ (.int .i64 t)).setCell ⟨p, 4, none⟩ (.bool true) = V at *
      have e1 := hVR.rm.cells.2.1
      have hpV := hVR.rm.cells.2.2.2.2.2.2
      have HG := Lib.hid (rgive_any p v _ (t / max r.every 1) false V hVR (by omega))
      have HP := Lib.hid (rperiod_any t (max r.every 1) V HME.out.2 HME.out.1 HT.out)
      have HVK := Lib.hid hVK; have HSZ := Lib.hid hsz
      clear hVrow hVL hVR hVK hsz c0 c1 c2 c3 c4 c5 f3 f4 HME
      change V.cell? ⟨p, 1, none⟩ = some (.int .i64 (max r.every 1)) at e1
      generalize max r.every 1 = me at *
      generalize t / me = per at *
      go_wp2_with (first
        | (go_at_call 31; (with_reducible refine HP.out.mono ?_); rintro e w5 ⟨rfl, hw5⟩; have h9 := hw5.symm; clear hw5; subst h9)
        | (go_at_call 30; (with_reducible refine HG.out.mono ?_); rintro e w6 ⟨u, rfl, hb6, v6, hr6, hk6⟩))
      go_ret
      exact ⟨_, rfl, by rw [HV.out, ← HSZ.out]; exact hb6, v6, by rw [HV.out]; exact hr6, HVK.out.trans hk6⟩
set_option maxRecDepth 100000 in
set_option maxHeartbeats 4000000 in
theorem rclose_any {B : Nat} (p : Nat) (v : Value) (r : Rl) (w : World) (h : RT B w p v r) (hB : B ≤ w.heap.size) :
    Calls Try.prog 19 #[.pointer (some ⟨p, 0, none⟩)] w fun e w' => ∃ u, e = .returned u ∧ BatR w.heap.size w' u (closeF r).1 ∧ ∃ v', RT B w' p v' (closeF r).2 ∧ KW p none w w' := by
  obtain ⟨c0, c1, c2, c3, c4, c5, hpl⟩ := h.rm.cells
  have HH := Lib.hid h
  cases hc : r.closed with
  | true =>
    rw [hc] at c5
    have HV : Hid (closeF r = (none, r)) := Lib.hid (by unfold closeF; rw [if_pos hc])
    clear h
    go_enter Try.func19, Try.ntmps19
    go_wp2
    go_ret
    exact ⟨_, rfl, by rw [HV.out]; rfl, v, by rw [HV.out]; exact HH.out, KW.refl _ _ _⟩
  | false =>
    rw [hc] at c5
    have HV : Hid (closeF r = ((giveF r (dueP 0 true)).1, { (giveF r (dueP 0 true)).2 with l := [], closed := true })) := Lib.hid (by unfold closeF; rw [if_neg (by rw [hc]; decide)]; rfl)
    have HG := Lib.hid (rgive_any p v r 0 true w h hB)
    obtain ⟨G, hG⟩ : ∃ G, G = giveF r (dueP 0 true) := ⟨_, rfl⟩
    rw [← hG] at HG HV
    clear h hG hc
    go_enter Try.func19, Try.ntmps19
    go_upto_region 4 with (go_at_call 30; (with_reducible refine HG.out.mono ?_); rintro e w6 ⟨u, rfl, hb6, v6, hr6, hk6⟩)
    have f2 := (Rg.cells_of hr6.rm.row).2.1 2
    have f5 := (Rg.cells_of hr6.rm.row).2.1 5
    obtain ⟨-, -, d2, -, -, d5, hp6⟩ := hr6.rm.cells
    obtain ⟨a6, n6, k6, hv6⟩ := row_form hr6.rm.list
    subst hv6
    have HB6 := Lib.hid hb6; have HR6 := Lib.hid hr6; have HK6 := Lib.hid hk6
    clear hb6 hr6 hk6 c0 c1 c2 c3 c4 c5
    go_wp2
    go_ret
    refine ⟨_, rfl, ?_, .slice none 0 0, ?_, (HK6.out.setCell _).setCell _⟩
    · rw [HV.out]
      exact HB6.out.keep fun k hk _ => by rw [heap_setCell_other _ (by omega), heap_setCell_other _ (by omega)]
    · rw [HV.out]
      have h1 := heap_setCell_row (o := 2) (.slice none 0 0) HR6.out.rm.row
      have h2 := heap_setCell_row (o := 5) (.bool true) h1
      exact ⟨⟨HR6.out.rm.at_, h2, World.ownsRow_nil _ _ _ _, ⟨HR6.out.rm.ok.least, HR6.out.rm.ok.every, HR6.out.rm.ok.last, by simp, by simp⟩⟩, by simp⟩
end Go.Proofs.Ytbeoihjfjkbfhaa

namespace Go.Proofs.Ytbeoihjfjkbfhaa
set_option linter.unusedVariables false
set_option linter.unusedSimpArgs false
open Go.RowKit
/-- A row of strings whose cells may be written; g is its block. -/
theorem batch_row {n : Nat} {w : World} {v : Value} {ts : List ByteArray} (h : BatR n w v (some ts)) (h1 : 0 < ts.length) :
    ∃ g gb c cur, v = .slice (some ⟨g, 0, none⟩) 1 1 ∧ n ≤ g ∧ n ≤ gb ∧ g ≠ gb ∧ w.heap[g]? = some (.cells #[.slice (some ⟨gb, 0, none⟩) ts.length c] 38) ∧ w.heap[gb]? = some (.cells cur 9) ∧ ts.length ≤ cur.size := by
  obtain ⟨g, u, e1, e2, e3, e4⟩ := h
  rcases e4.2 with ⟨-, e5⟩ | ⟨gb, c, cur, rfl, e5, e6, e7, e8, e9, e10⟩
  · omega
  · refine ⟨g, gb, c, cur, e1, e2, e5, ?_, e3, e6, by omega⟩
    rintro rfl
    rw [e3] at e6
    cases e6
set_option maxRecDepth 100000 in
set_option maxHeartbeats 16000000 in
theorem own_walk (v : Value) (ls : List (List Int)) (w : World) (hl : RN 4 w v ls) :
    Calls Try.prog 10 #[v] w fun e w' => e = .returned (.bool true) ∧ Ext w w' := by
  obtain ⟨base, cp, rfl, hlen⟩ := hl.form
  go_enter Try.func10, Try.ntmps10
  go_upto_region 3 with (first
    | (go_at_call 11; (with_reducible refine (sanity_any _).mono ?_); rintro e w1 ⟨rfl, hx1⟩)
    | (go_at_call 12; refine (new_x 1 5 _ (okI_small (by decide)) (okI_small (by decide))).mono ?_; rintro e w2 ⟨rfl, hr2, hx2⟩))
  have HX1 := Lib.hid hx1; have HX2 := Lib.hid hx2; have HR2 := Lib.hid hr2; have HL1 := Lib.hid (hl.ext hx1); have HLEN := Lib.hid hlen
  clear hx1 hx2 hr2 hl hlen
  obtain ⟨p1, hp⟩ : ∃ p, p = w1.heap.size := ⟨_, rfl⟩
  rw [← hp]
  have HP := Lib.hid hp
  clear hp
  go_upto_region 4 with (go_at_call 12; refine (new_x 1 5 _ (okI_small (by decide)) (okI_small (by decide))).mono ?_; rintro e w3 ⟨rfl, hr3, hx3⟩)
  have hR2 := R2.both_ (HP.out ▸ HR2.out : RX p1 w2 p1 _) hr3 hx3
  have HX3 : Hid (Ext w1 w3) := Lib.hid (HX2.out.trans hx3)
  obtain ⟨p2, hp2⟩ : ∃ p, p = w2.heap.size := ⟨_, rfl⟩
  rw [← hp2] at hR2 ⊢
  have HRR := Lib.hid hR2
  clear hp2 hr3 hx3 hR2 HR2 HX2
  go_wp2_with (fail)
  go_loopw [6, 7] (fun tm k wr => ∃ (i : Nat) (t : Int) (r : Rl), k = .int .i64 i ∧ tm = .int .i64 t ∧ i ≤ 30 ∧ i ≤ ls.length ∧ 0 ≤ t ∧ t ≤ 9 * i ∧ Hid (R2 p1 wr p1 p2 r r) ∧ Hid (Ext w1 wr)) (fun _ k _ => 30 - (iof k).toNat)
  case atStart => exact ⟨0, 0, _, rfl, rfl, by omega, by omega, by omega, by omega, HRR, HX3⟩
  case round =>
    obtain ⟨i, t, r, rfl, rfl, hi, hil, t0, t1, HRX, HX⟩ := hrel
    by_cases hi2 : i < ls.length ∧ i < 30
    · obtain ⟨hi3, hi4⟩ := hi2
      obtain ⟨b, off, q0, q1, q2, q3, rfl, bl0, k0, k1, k2, k3, o0, o1, o2, o3, -⟩ := act_at HL1.out i hi3
      have bl : b < wr.heap.size := Nat.lt_of_lt_of_le bl0 HX.out.size
      have c1 := (HX.out.cells.1 _ _ bl0).trans k1
      have c2 := (HX.out.cells.1 _ _ bl0).trans k2
      have c3 := (HX.out.cells.1 _ _ bl0).trans k3
      have HK1 := Lib.hid k1; have HK3 := Lib.hid k3; have HBL := Lib.hid bl0
      clear k0 k1 k2 k3 bl0
      have hlc : (i : Int) < (ls.length : Int) := by omega
      have hi20 : (i : Int) < 30 := by omega
      obtain ⟨s, hs⟩ : ∃ s, s = q2 % 9 := ⟨_, rfl⟩
      have s0 : 0 ≤ s := by omega
      have s1 : s < 9 := by omega
      have HM2 := Lib.hid (fun w => mod_x q2 9 (by decide) (by decide) o2 w)
      rw [← hs] at HM2
      clear hs
      have HT := Lib.hid (fun w => text_any q3 w o3)
      go_upto_region 11 with (go_at_call 24; refine (HM2.out _).mono ?_; rintro e w3 ⟨rfl, hx3⟩)
      obtain ⟨T, hT⟩ : ∃ T, T = t + s := ⟨_, rfl⟩
      rw [← hT]
      have T0 : 0 ≤ T := by omega
      have T1 : T ≤ 9 * ((i : Int) + 1) := by omega
      have d1 := (hx3.cells.1 _ _ bl).trans c1
      have d3 := (hx3.cells.1 _ _ bl).trans c3
      have bl3 : b < w3.heap.size := Nat.lt_of_lt_of_le bl hx3.size
      have HX3 := Lib.hid (HX.out.trans hx3)
      have HR3 := Lib.hid (HRX.out.ext hx3)
      clear c1 c2 c3 bl hx3 hT t0 t1 s0 s1 HX HRX HM2
      refine Rr.wp_region [(0, .y), (1, .y), (2, .y), (3, .y), (4, .y), (5, .y), (6, .y), (7, .y), (8, .y), (9, .y), (10, .y), (11, .y), (12, .y)] (fun _ => (.cells #[] 29, Rg.ptr)) (by kernel_rfl) (by kernel_rfl) ?_
      (refine Rr.wr_y (by simp only [List.getElem?_toArray, List.getElem?_cons_succ, List.getElem?_cons_zero]; rfl) (by rfl) ?_
       apply Exists.intro
       refine ⟨fun wz hw _ => ?_, ?_⟩
       · have hcz := hw.cells.1
         go_simp
         (with_reducible exact Rg.up_value)
       simp only [Act.put, List.setIfInBounds_toArray, List.set_cons_zero, List.set_cons_succ])
      (refine Rr.wr_y (by simp only [List.getElem?_toArray, List.getElem?_cons_succ, List.getElem?_cons_zero]; rfl) (by rfl) ?_
       apply Exists.intro
       refine ⟨fun wz hw _ => ?_, ?_⟩
       · have hcz := hw.cells.1
         go_simp
         (with_reducible exact Rg.up_value)
       simp only [Act.put, List.setIfInBounds_toArray, List.set_cons_zero, List.set_cons_succ])
      (refine Rr.wr_y (by simp only [List.getElem?_toArray, List.getElem?_cons_succ, List.getElem?_cons_zero]; rfl) (by rfl) ?_
       apply Exists.intro
       refine ⟨fun wz hw _ => ?_, ?_⟩
       · have hcz := hw.cells.1
         go_simp
         (with_reducible exact Rg.up_value)
       simp only [Act.put, List.setIfInBounds_toArray, List.set_cons_zero, List.set_cons_succ])
      (refine Rr.wr_y (by simp only [List.getElem?_toArray, List.getElem?_cons_succ, List.getElem?_cons_zero]; rfl) (by rfl) ?_
       apply Exists.intro
       refine ⟨fun wz hw _ => ?_, ?_⟩
       · have hcz := hw.cells.1
         go_simp
         (with_reducible exact Rg.up_value)
       simp only [Act.put, List.setIfInBounds_toArray, List.set_cons_zero, List.set_cons_succ])
      (refine Rr.wr_y (by simp only [List.getElem?_toArray, List.getElem?_cons_succ, List.getElem?_cons_zero]; rfl) (by rfl) ?_
       apply Exists.intro
       refine ⟨fun wz hw _ => ?_, ?_⟩
       · have hcz := hw.cells.1
         go_simp
         (with_reducible exact Rg.up_value)
       simp only [Act.put, List.setIfInBounds_toArray, List.set_cons_zero, List.set_cons_succ])
      (refine Rr.wr_y (by simp only [List.getElem?_toArray, List.getElem?_cons_succ, List.getElem?_cons_zero]; rfl) (by rfl) ?_
       apply Exists.intro
       refine ⟨fun wz hw _ => ?_, ?_⟩
       · have hcz := hw.cells.1
         go_simp
         (with_reducible exact Rg.up_value)
       simp only [Act.put, List.setIfInBounds_toArray, List.set_cons_zero, List.set_cons_succ])
      (refine Rr.wr_y (by simp only [List.getElem?_toArray, List.getElem?_cons_succ, List.getElem?_cons_zero]; rfl) (by rfl) ?_
       apply Exists.intro
       refine ⟨fun wz hw _ => ?_, ?_⟩
       · have hcz := hw.cells.1
         go_simp
         (with_reducible exact Rg.up_value)
       simp only [Act.put, List.setIfInBounds_toArray, List.set_cons_zero, List.set_cons_succ])
      (refine Rr.wr_y (by simp only [List.getElem?_toArray, List.getElem?_cons_succ, List.getElem?_cons_zero]; rfl) (by rfl) ?_
       apply Exists.intro
       refine ⟨fun wz hw _ => ?_, ?_⟩
       · have hcz := hw.cells.1
         go_simp
         (with_reducible exact Rg.up_value)
       simp only [Act.put, List.setIfInBounds_toArray, List.set_cons_zero, List.set_cons_succ])
      (refine Rr.wr_y (by simp only [List.getElem?_toArray, List.getElem?_cons_succ, List.getElem?_cons_zero]; rfl) (by rfl) ?_
       apply Exists.intro
       refine ⟨fun wz hw _ => ?_, ?_⟩
       · have hcz := hw.cells.1
         go_simp
         (with_reducible exact Rg.up_value)
       simp only [Act.put, List.setIfInBounds_toArray, List.set_cons_zero, List.set_cons_succ])
      (refine Rr.wr_y (by simp only [List.getElem?_toArray, List.getElem?_cons_succ, List.getElem?_cons_zero]; rfl) (by rfl) ?_
       apply Exists.intro
       refine ⟨fun wz hw _ => ?_, ?_⟩
       · have hcz := hw.cells.1
         go_simp
         (with_reducible exact Rg.up_value)
       simp only [Act.put, List.setIfInBounds_toArray, List.set_cons_zero, List.set_cons_succ])
      (refine Rr.wr_y (by simp only [List.getElem?_toArray, List.getElem?_cons_succ, List.getElem?_cons_zero]; rfl) (by rfl) ?_
       apply Exists.intro
       refine ⟨fun wz hw _ => ?_, ?_⟩
       · have hcz := hw.cells.1
         go_simp
         (with_reducible exact Rg.up_value)
       simp only [Act.put, List.setIfInBounds_toArray, List.set_cons_zero, List.set_cons_succ])
      (refine Rr.wr_y (by simp only [List.getElem?_toArray, List.getElem?_cons_succ, List.getElem?_cons_zero]; rfl) (by rfl) ?_
       apply Exists.intro
       refine ⟨fun wz hw _ => ?_, ?_⟩
       · have hcz := hw.cells.1
         go_simp
         (with_reducible exact Rg.up_value)
       simp only [Act.put, List.setIfInBounds_toArray, List.set_cons_zero, List.set_cons_succ])
      (refine Rr.wr_y (by simp only [List.getElem?_toArray, List.getElem?_cons_succ, List.getElem?_cons_zero]; rfl) (by rfl) ?_
       apply Exists.intro
       refine ⟨fun wz hw _ => ?_, ?_⟩
       · have hcz := hw.cells.1
         go_simp
         apply Rg.up_enter
         (with_reducible refine (HT.out _).mono ?_)
         rintro e w3 ⟨rfl, hb3⟩
         exact ⟨rfl, hb3⟩
       simp only [Act.put, List.setIfInBounds_toArray, List.set_cons_zero, List.set_cons_succ])
      refine Rr.wr_nil ?_
      intro wy hy hh
      clear hh
      simp only [List.length_cons, List.length_nil, List.drop_succ_cons, List.drop_zero, Nat.reduceAdd]
      have HA := Lib.hid ((HR3.out.ext hy).ask1 ⟨q1, txtF q3⟩ T o1 (okI_small (by omega)))
      have HXY := Lib.hid (HX3.out.trans hy)
      clear hy d1 d3 bl3
      go_upto_region 12 with (go_at_call 20; (with_reducible refine HA.out.mono ?_); rintro e w4 ⟨rfl, hr4, hb4⟩)
      have HX4 : Hid (Ext w1 w4) := Lib.hid (Below.trans HXY.out (HP.out ▸ hb4))
      have HR4 := Lib.hid hr4.symm
      have d1 := (HX4.out.cells.1 _ _ HBL.out).trans HK1.out
      have d3 := (HX4.out.cells.1 _ _ HBL.out).trans HK3.out
      have bl4 : b < w4.heap.size := Nat.lt_of_lt_of_le HBL.out HX4.out.size
      clear hr4 hb4 HA HXY
      refine Rr.wp_region [(0, .y), (1, .y), (2, .y), (3, .y), (4, .y), (5, .y), (6, .y), (7, .y), (8, .y), (9, .y), (10, .y), (11, .y), (12, .y)] (fun _ => (.cells #[] 29, Rg.ptr)) (by kernel_rfl) (by kernel_rfl) ?_
      (refine Rr.wr_y (by simp only [List.getElem?_toArray, List.getElem?_cons_succ, List.getElem?_cons_zero]; rfl) (by rfl) ?_
       apply Exists.intro
       refine ⟨fun wz hw _ => ?_, ?_⟩
       · have hcz := hw.cells.1
         go_simp
         (with_reducible exact Rg.up_value)
       simp only [Act.put, List.setIfInBounds_toArray, List.set_cons_zero, List.set_cons_succ])
      (refine Rr.wr_y (by simp only [List.getElem?_toArray, List.getElem?_cons_succ, List.getElem?_cons_zero]; rfl) (by rfl) ?_
       apply Exists.intro
       refine ⟨fun wz hw _ => ?_, ?_⟩
       · have hcz := hw.cells.1
         go_simp
         (with_reducible exact Rg.up_value)
       simp only [Act.put, List.setIfInBounds_toArray, List.set_cons_zero, List.set_cons_succ])
      (refine Rr.wr_y (by simp only [List.getElem?_toArray, List.getElem?_cons_succ, List.getElem?_cons_zero]; rfl) (by rfl) ?_
       apply Exists.intro
       refine ⟨fun wz hw _ => ?_, ?_⟩
       · have hcz := hw.cells.1
         go_simp
         (with_reducible exact Rg.up_value)
       simp only [Act.put, List.setIfInBounds_toArray, List.set_cons_zero, List.set_cons_succ])
      (refine Rr.wr_y (by simp only [List.getElem?_toArray, List.getElem?_cons_succ, List.getElem?_cons_zero]; rfl) (by rfl) ?_
       apply Exists.intro
       refine ⟨fun wz hw _ => ?_, ?_⟩
       · have hcz := hw.cells.1
         go_simp
         (with_reducible exact Rg.up_value)
       simp only [Act.put, List.setIfInBounds_toArray, List.set_cons_zero, List.set_cons_succ])
      (refine Rr.wr_y (by simp only [List.getElem?_toArray, List.getElem?_cons_succ, List.getElem?_cons_zero]; rfl) (by rfl) ?_
       apply Exists.intro
       refine ⟨fun wz hw _ => ?_, ?_⟩
       · have hcz := hw.cells.1
         go_simp
         (with_reducible exact Rg.up_value)
       simp only [Act.put, List.setIfInBounds_toArray, List.set_cons_zero, List.set_cons_succ])
      (refine Rr.wr_y (by simp only [List.getElem?_toArray, List.getElem?_cons_succ, List.getElem?_cons_zero]; rfl) (by rfl) ?_
       apply Exists.intro
       refine ⟨fun wz hw _ => ?_, ?_⟩
       · have hcz := hw.cells.1
         go_simp
         (with_reducible exact Rg.up_value)
       simp only [Act.put, List.setIfInBounds_toArray, List.set_cons_zero, List.set_cons_succ])
      (refine Rr.wr_y (by simp only [List.getElem?_toArray, List.getElem?_cons_succ, List.getElem?_cons_zero]; rfl) (by rfl) ?_
       apply Exists.intro
       refine ⟨fun wz hw _ => ?_, ?_⟩
       · have hcz := hw.cells.1
         go_simp
         (with_reducible exact Rg.up_value)
       simp only [Act.put, List.setIfInBounds_toArray, List.set_cons_zero, List.set_cons_succ])
      (refine Rr.wr_y (by simp only [List.getElem?_toArray, List.getElem?_cons_succ, List.getElem?_cons_zero]; rfl) (by rfl) ?_
       apply Exists.intro
       refine ⟨fun wz hw _ => ?_, ?_⟩
       · have hcz := hw.cells.1
         go_simp
         (with_reducible exact Rg.up_value)
       simp only [Act.put, List.setIfInBounds_toArray, List.set_cons_zero, List.set_cons_succ])
      (refine Rr.wr_y (by simp only [List.getElem?_toArray, List.getElem?_cons_succ, List.getElem?_cons_zero]; rfl) (by rfl) ?_
       apply Exists.intro
       refine ⟨fun wz hw _ => ?_, ?_⟩
       · have hcz := hw.cells.1
         go_simp
         (with_reducible exact Rg.up_value)
       simp only [Act.put, List.setIfInBounds_toArray, List.set_cons_zero, List.set_cons_succ])
      (refine Rr.wr_y (by simp only [List.getElem?_toArray, List.getElem?_cons_succ, List.getElem?_cons_zero]; rfl) (by rfl) ?_
       apply Exists.intro
       refine ⟨fun wz hw _ => ?_, ?_⟩
       · have hcz := hw.cells.1
         go_simp
         (with_reducible exact Rg.up_value)
       simp only [Act.put, List.setIfInBounds_toArray, List.set_cons_zero, List.set_cons_succ])
      (refine Rr.wr_y (by simp only [List.getElem?_toArray, List.getElem?_cons_succ, List.getElem?_cons_zero]; rfl) (by rfl) ?_
       apply Exists.intro
       refine ⟨fun wz hw _ => ?_, ?_⟩
       · have hcz := hw.cells.1
         go_simp
         (with_reducible exact Rg.up_value)
       simp only [Act.put, List.setIfInBounds_toArray, List.set_cons_zero, List.set_cons_succ])
      (refine Rr.wr_y (by simp only [List.getElem?_toArray, List.getElem?_cons_succ, List.getElem?_cons_zero]; rfl) (by rfl) ?_
       apply Exists.intro
       refine ⟨fun wz hw _ => ?_, ?_⟩
       · have hcz := hw.cells.1
         go_simp
         (with_reducible exact Rg.up_value)
       simp only [Act.put, List.setIfInBounds_toArray, List.set_cons_zero, List.set_cons_succ])
      (refine Rr.wr_y (by simp only [List.getElem?_toArray, List.getElem?_cons_succ, List.getElem?_cons_zero]; rfl) (by rfl) ?_
       apply Exists.intro
       refine ⟨fun wz hw _ => ?_, ?_⟩
       · have hcz := hw.cells.1
         go_simp
         apply Rg.up_enter
         (with_reducible refine (HT.out _).mono ?_)
         rintro e w3 ⟨rfl, hb3⟩
         exact ⟨rfl, hb3⟩
       simp only [Act.put, List.setIfInBounds_toArray, List.set_cons_zero, List.set_cons_succ])
      refine Rr.wr_nil ?_
      intro wz hz hh
      clear hh
      simp only [List.length_cons, List.length_nil, List.drop_succ_cons, List.drop_zero, Nat.reduceAdd]
      have HA := Lib.hid ((HR4.out.ext hz).ask1 ⟨q1, txtF q3⟩ T o1 (okI_small (by omega)))
      have HXY := Lib.hid (HX4.out.trans hz)
      clear hz d1 d3 bl4 HT
      generalize askE r ⟨q1, txtF q3⟩ T = er at *
      generalize askR r ⟨q1, txtF q3⟩ T = r1 at *
      go_upto_region 13 with (go_at_call 20; (with_reducible refine HA.out.mono ?_); rintro e w5 ⟨rfl, hr5, hb5⟩)
      have HX5 : Hid (Ext w1 w5) := Lib.hid (Below.trans HXY.out (HP.out ▸ hb5))
      have HTK := Lib.hid (hr5.symm.tick1 T (okI_small (by omega)))
      have HLE := Lib.hid (fun ts (h : (tickF r1 T).1 = some ts) => tick_len h hr5.len.1)
      have HPO := Lib.hid (fun ts (h : (tickF r1 T).1 = some ts) => tick_pos h)
      have HN5 := Lib.hid hr5.lt
      clear hr5 hb5 HA HXY
      go_upto_region 14 with (go_at_call 16; (with_reducible refine HTK.out.mono ?_); rintro e w6 ⟨v6, rfl, hv6, hr6, hb6, hk6⟩)
      have HX6 : Hid (Ext w1 w6) := Lib.hid (Below.trans HX5.out (HP.out ▸ hb6))
      have HV6 := Lib.hid hv6
      have HTK2 := Lib.hid (hr6.symm.tick1 T (okI_small (by omega)))
      clear hv6 hr6 hb6 hk6 HTK
      obtain ⟨o, ho⟩ : ∃ o, o = (tickF r1 T).1 := ⟨_, rfl⟩
      rw [← ho] at HV6 HTK2 HLE HPO
      clear ho
      generalize (tickF r1 T).2 = r2 at *
      go_upto_region 15 with (go_at_call 16; (with_reducible refine HTK2.out.mono ?_); rintro e w7 ⟨v7, rfl, hv7, hr7, hb7, hk7⟩)
      have HX7 : Hid (Ext w1 w7) := Lib.hid (Below.trans HX6.out (HP.out ▸ hb7))
      have HR7 := Lib.hid hr7.symm
      have HV := Lib.hid (HV6.out.k1 hk7 HN5.out.2.1)
      have hSm := same_any v6 v7 o o w7 HV.out hv7 HLE.out HLE.out
      rw [decide_eq_true rfl] at hSm
      have HS := Lib.hid hSm
      clear hv7 hr7 hb7 hk7 hSm HTK2 HV6 HX6
      cases o with
      | none =>
        obtain rfl : v6 = .slice none 0 0 := HV.out
        go_upto_region 17 with (go_at_call 15; (with_reducible refine HS.out.mono ?_); rintro e w8 ⟨rfl, hx8⟩)
        have HX8 : Hid (Ext w1 w8) := Lib.hid (HX7.out.trans hx8)
        have HR8 := Lib.hid (HR7.out.ext hx8)
        clear hx8
        go_wp2_with (fail)
        go_loopw [10] (fun kv wq => kv = .int .i64 0 ∧ w8 = wq) (fun _ _ => 0)
        case atStart => exact ⟨rfl, rfl⟩
        case round =>
          obtain ⟨rfl, rfl⟩ := hrel
          go_wp2_with (fail)
          exact ⟨⟨i + 1, T, r2, by simp, rfl, by omega, by omega, by omega, by omega, HR8, HX8⟩, by simp [iof]; omega⟩
      | some ts =>
        have hpos := HPO.out ts rfl
        have hNb := HLE.out ts rfl
        obtain ⟨g, gb, c, cur, rfl, g1, g2, g3, hcg, hcb, hcl⟩ := batch_row HV.out hpos
        have hN5 := HN5.out
        have gp1 : gb ≠ p1 := by omega
        have gp2 : gb ≠ p2 := by omega
        have gw : w1.heap.size ≤ gb := by have := HP.out; omega
        go_upto_region 17 with (go_at_call 15; (with_reducible refine HS.out.mono ?_); rintro e w8 ⟨rfl, hx8⟩)
        have HX8 : Hid (Ext w1 w8) := Lib.hid (HX7.out.trans hx8)
        have HR8 := Lib.hid (HR7.out.ext hx8)
        have HCG := Lib.hid ((hx8.block _ (Rg.lt_of_heap hcg)).trans hcg)
        have HCB := Lib.hid ((hx8.block _ (Rg.lt_of_heap hcb)).trans hcb)
        have HCL := Lib.hid hcl
        have HG := Lib.hid gp1; have HG2 := Lib.hid gp2; have HGW := Lib.hid gw; have HGG := Lib.hid g3
        clear hx8 hcg hcb hcl hN5 HN5 g1 g2 gp1 gp2 gw hpos HV g3 HLE HPO
        generalize ts.length = N at *
        go_wp2_with (fail)
        go_loopw [10] (fun kv wq => ∃ (j : Nat) (cq : Array Value), j ≤ 1 ∧ kv = .int .i64 j ∧ Hid (wq.heap[g]? = some (.cells #[.slice (some ⟨gb, 0, none⟩) N c] 38)) ∧ Hid (wq.heap[gb]? = some (.cells cq 9)) ∧ Hid (N ≤ cq.size) ∧ Hid (R2 p1 wq p1 p2 r2 r2) ∧ Hid (Ext w1 wq)) (fun kv _ => 1 - (iof kv).toNat)
        case atStart => exact ⟨0, cur, by omega, rfl, HCG, HCB, HCL, HR8, HX8⟩
        case round =>
          obtain ⟨j, cq, hj, rfl, KG, KB, KL, KR, KX⟩ := hrel
          by_cases hj1 : j = 1
          · subst hj1
            go_wp2_with (fail)
            exact ⟨⟨i + 1, T, r2, by simp, rfl, by omega, by omega, by omega, by omega, KR, KX⟩, by simp [iof]; omega⟩
          · obtain rfl : j = 0 := by omega
            go_wp2_with (fail)
            rename World => wq
            go_loopw [11] (fun kv wz => ∃ (k : Nat) (cz : Array Value), k ≤ N ∧ kv = .int .i64 k ∧ Hid (wz.heap[g]? = some (.cells #[.slice (some ⟨gb, 0, none⟩) N c] 38)) ∧ Hid (wz.heap[gb]? = some (.cells cz 9)) ∧ Hid (N ≤ cz.size) ∧ Hid (R2 p1 wz p1 p2 r2 r2) ∧ Hid (Ext w1 wz)) (fun kv _ => N - (iof kv).toNat)
            case atStart => exact ⟨0, cq, Nat.zero_le _, rfl, KG, KB, KL, KR, KX⟩
            case round =>
              obtain ⟨k, cz, hk, rfl, JG, JB, JL, JR, JX⟩ := hrel
              rename World => wz
              have c0 : wz.cell? ⟨g, 0, none⟩ = some (.slice (some ⟨gb, 0, none⟩) N c) := cell_of_row _ _ 0 _ _ _ JG.out
              have gl := Rg.lt_of_heap JG.out
              by_cases hkN : k < N
              · have hks : k < cz.size := by have := JL.out; omega
                have c1 : wz.cell? ⟨gb, k, none⟩ = some cz[k] := by rw [cell_of_row _ _ _ _ _ _ JB.out]; simp [hks]
                have f1 := (Rg.cells_of JB.out).2.1 k
                have gbl := Rg.lt_of_heap JB.out
                generalize cz[k] = old at *
                go_wp2_with (fail)
                refine ⟨⟨k + 1, cz.setIfInBounds k (.string ⟨#[99, 104, 97, 110, 103, 101, 100]⟩), by omega, by simp, Lib.hid ((heap_setCell_other _ HGG.out).trans JG.out), Lib.hid (heap_setCell_row _ JB.out), Lib.hid (by simpa using JL.out), Lib.hid (JR.out.wrote JB.out HG.out HG2.out _), Lib.hid (Ext.setCell JX.out HGW.out _)⟩, by simp [iof]; omega⟩
              · obtain rfl : k = N := by omega
                go_wp2_with (fail)
                exact ⟨⟨1, cz, by omega, by simp, JG, JB, JL, JR, JX⟩, by simp [iof]⟩
    · have hcnd : i < 30 → ¬ i < ls.length := fun h1 h2 => hi2 ⟨h2, h1⟩
      have HC1 := Lib.hid HRX.out.close1
      have HLT := Lib.hid HRX.out.lt
      have HLE := Lib.hid (fun ts (h : (closeF r).1 = some ts) => close_len h HRX.out.len.1)
      have HC2 := Lib.hid (fun w' (h : R2 p1 w' p1 p2 (closeF r).2 r) => h.symm.close1)
      obtain ⟨o, ho⟩ : ∃ o, o = (closeF r).1 := ⟨_, rfl⟩
      rw [← ho] at HC1 HLE HC2
      clear ho
      generalize (closeF r).2 = r2 at *
      by_cases hi4 : i < 30
      · have hi5 : ¬ (i : Int) < (ls.length : Int) := by have := hcnd hi4; omega
        clear hcnd hi2
        go_wp2_with (first
          | (go_at_call 18; (with_reducible refine HC1.out.mono ?_); rintro e w6 ⟨v6, rfl, hv6, hr6, hb6, hk6⟩; clear HC1)
          | (go_at_call 18; (with_reducible refine (HC2.out _ hr6).mono ?_); rintro e w7 ⟨v7, rfl, hv7, hr7, hb7, hk7⟩; have hSm := same_any v6 v7 o o w7 (hv6.k1 hk7 HLT.out.2.2.2) hv7 HLE.out HLE.out; rw [decide_eq_true rfl] at hSm)
          | (go_at_call 15; (with_reducible refine hSm.mono ?_); rintro e w8 ⟨rfl, hx8⟩))
        go_ret
        exact ⟨rfl, HX1.out.trans ((Below.trans HX.out (Below.trans (HP.out ▸ hb6) (HP.out ▸ hb7))).trans (Below.mono hx8 (by have := (Below.trans HX.out (Below.trans (HP.out ▸ hb6) (HP.out ▸ hb7)) : Ext w1 w7).size; omega)))⟩
      · have hi5 : ¬ (i : Int) < 30 := by omega
        have hi30 : i = 30 := by omega
        subst hi30
        clear hcnd hi2
        by_cases hi6 : (30 : Int) < (ls.length : Int)
        · skip
          go_wp2_with (first
            | (go_at_call 18; (with_reducible refine HC1.out.mono ?_); rintro e w6 ⟨v6, rfl, hv6, hr6, hb6, hk6⟩; clear HC1)
            | (go_at_call 18; (with_reducible refine (HC2.out _ hr6).mono ?_); rintro e w7 ⟨v7, rfl, hv7, hr7, hb7, hk7⟩; have hSm := same_any v6 v7 o o w7 (hv6.k1 hk7 HLT.out.2.2.2) hv7 HLE.out HLE.out; rw [decide_eq_true rfl] at hSm)
            | (go_at_call 15; (with_reducible refine hSm.mono ?_); rintro e w8 ⟨rfl, hx8⟩))
          go_ret
          exact ⟨rfl, HX1.out.trans ((Below.trans HX.out (Below.trans (HP.out ▸ hb6) (HP.out ▸ hb7))).trans (Below.mono hx8 (by have := (Below.trans HX.out (Below.trans (HP.out ▸ hb6) (HP.out ▸ hb7)) : Ext w1 w7).size; omega)))⟩
        · skip
          go_wp2_with (first
            | (go_at_call 18; (with_reducible refine HC1.out.mono ?_); rintro e w6 ⟨v6, rfl, hv6, hr6, hb6, hk6⟩; clear HC1)
            | (go_at_call 18; (with_reducible refine (HC2.out _ hr6).mono ?_); rintro e w7 ⟨v7, rfl, hv7, hr7, hb7, hk7⟩; have hSm := same_any v6 v7 o o w7 (hv6.k1 hk7 HLT.out.2.2.2) hv7 HLE.out HLE.out; rw [decide_eq_true rfl] at hSm)
            | (go_at_call 15; (with_reducible refine hSm.mono ?_); rintro e w8 ⟨rfl, hx8⟩))
          go_ret
          exact ⟨rfl, HX1.out.trans ((Below.trans HX.out (Below.trans (HP.out ▸ hb6) (HP.out ▸ hb7))).trans (Below.mono hx8 (by have := (Below.trans HX.out (Below.trans (HP.out ▸ hb6) (HP.out ▸ hb7)) : Ext w1 w7).size; omega)))⟩
end Go.Proofs.Ytbeoihjfjkbfhaa

namespace Go.Proofs.Ytbeoihjfjkbfhaa
set_option linter.unusedVariables false
set_option linter.unusedSimpArgs false
open Go.RowKit
theorem cells_ty {cs cs' : Array Value} {t t' : TypeId} {fr fr' : Nat × Nat} (h : some (Obj.cells cs t fr) = some (Obj.cells cs' t' fr')) : t = t' := by
  injection h with h
  injection h
/-- The code's relay at p1 and the reference's at p2, from B on. -/
structure C2 (B : Nat) (w : World) (p1 p2 : Nat) (r1 r2 : Rl) : Prop where
  base : B ≤ w.heap.size
  code : ∃ m, RW B w p1 m r1
  ref : ∃ v, RT B w p2 v r2
theorem C2.ext {B : Nat} {w w' : World} {p1 p2 : Nat} {r1 r2 : Rl} (h : C2 B w p1 p2 r1 r2) (x : Ext w w') : C2 B w' p1 p2 r1 r2 := by
  obtain ⟨h0, ⟨m, h1⟩, v, h2⟩ := h
  exact ⟨Nat.le_trans h0 x.size, ⟨m, h1.ext x⟩, v, h2.ext x⟩
/-- Cells of other types than questions stay, but at p. -/
def KC (p : Nat) (w w' : World) : Prop := ∀ k cs t fr, k ≠ p → t ≠ 68 → w.heap[k]? = some (.cells cs t fr) → w'.heap[k]? = some (.cells cs t fr)
theorem KC.of_k1 {p : Nat} {w w' : World} (h : K1 p w w') : KC p w w' := fun k cs t fr hk _ hc => h k cs t fr hk hc
theorem KW.kc {B p : Nat} {v : Value} {r : Rl} {w w' : World} (h : KW p v.ownBlock w w') (hr : RT B w p v r) : KC p w w' := fun k cs t fr hk ht hc => by
  refine (h.block k (Rg.lt_of_heap hc) hk (fun e => ?_)).trans hc
  obtain ⟨cs', h1⟩ := row_block hr.rm.list e.symm
  rw [h1] at hc
  cases hc
  exact ht rfl
/-- The code's relay stays while the reference's turns. -/
theorem RW.kept {B : Nat} {w w' : World} {p p2 : Nat} {m : Option Nat} {v : Value} {r r2 : Rl} (h : RW B w p m r) (h2 : RT B w p2 v r2) (k : KW p2 v.ownBlock w w') : RW B w' p m r := by
  have hp : p ≠ p2 := fun e => by
    have h1 := h.row
    rw [e, h2.rm.row] at h1
    exact absurd (cells_ty h1) (by decide)
  refine ⟨h.at_, (k.kc h2) p _ _ _ hp (by decide) h.row, h.map.of_block fun b e => ?_, h.ok⟩
  have hlt := (h.map.lt b e).2
  subst e
  obtain ⟨-, -, -, es, clock, hb, -⟩ := h.map
  refine k.block b hlt (fun e => ?_) (fun e => ?_)
  · rw [e, h2.rm.row] at hb
    cases hb
  · obtain ⟨cs, h1⟩ := row_block h2.rm.list e.symm
    rw [h1] at hb
    cases hb
/-- The reference's relay stays while the code's turns. -/
theorem RT.kept {B : Nat} {w w' : World} {p p2 : Nat} {m : Option Nat} {v : Value} {r r2 : Rl} (h2 : RT B w p2 v r2) (h : RW B w p m r) (k : KW p m w w') : RT B w' p2 v r2 := by
  have hp : p2 ≠ p := fun e => by
    have h1 := h.row
    rw [← e, h2.rm.row] at h1
    exact absurd (cells_ty h1) (by decide)
  have hk := k.k1 h
  refine ⟨⟨h2.rm.at_, hk p2 _ _ _ hp h2.rm.row, row_keepK h2.rm.list fun g hg => ?_, h2.rm.ok⟩, h2.txt⟩
  obtain ⟨cs, h1⟩ := row_block h2.rm.list hg
  rcases h2.rm.list.2 with ⟨hn, -⟩ | ⟨g', cap, cur, hv, hb, hg', -⟩
  · rw [hn] at hg
    cases hg
  · rw [hv] at hg
    injection hg with hg
    subst hg
    rw [hg']
    refine hk g' _ _ _ (fun e => ?_) hg'
    have h3 := h.row
    rw [← e, hg'] at h3
    exact absurd (cells_ty h3) (by decide)
theorem KW.weak {p : Nat} {w w' : World} (h : KW p none w w') (m : Option Nat) : KW p m w w' := ⟨h.os, h.tape, h.output, h.size, fun k hk hp _ => h.block k hk hp (by simp)⟩
theorem RT.below {B : Nat} {w w' : World} {p : Nat} {v : Value} {r : Rl} (h : RT B w p v r) (k : KW p v.ownBlock w w') (hB : B ≤ w.heap.size) : Below B w w' :=
  k.below hB h.rm.at_ fun b e => by
    rcases h.rm.list.2 with ⟨hn, -⟩ | ⟨g', cap, cur, hv, hb, hg', -⟩
    · rw [hn] at e
      cases e
    · rw [hv] at e
      injection e with e
      exact e ▸ hb
theorem C2.ask1 {B : Nat} {w : World} {p1 p2 : Nat} {r1 r2 : Rl} (h : C2 B w p1 p2 r1 r2) (q : Qn) (t : Int) (hw : OkI q.who) (ht : OkI t) :
    Calls Try.prog 20 #[.pointer (some ⟨p1, 0, none⟩), .int .i64 q.who, .int .i64 t, .string q.text] w fun e w' => e = .returned (.int .i64 (askE r1 q t)) ∧ C2 B w' p1 p2 (askR r1 q t) r2 ∧ Below B w w' ∧ KC p1 w w' := by
  obtain ⟨h0, ⟨m, h1⟩, v, h2⟩ := h
  refine (ask_any p1 m r1 q t w h1 h0 hw ht).mono ?_
  rintro e w' ⟨e1, m1', k1, k2, k3⟩
  exact ⟨e1, ⟨Nat.le_trans h0 k2.size, ⟨m1', k1⟩, v, h2.kept h1 k2⟩, k2.below h0 h1.at_ fun b e => (h1.map.lt b e).1, KC.of_k1 (k2.k1 h1)⟩
theorem C2.ask2 {B : Nat} {w : World} {p1 p2 : Nat} {r1 r2 : Rl} (h : C2 B w p1 p2 r1 r2) (q : Qn) (t : Int) (hw : OkI q.who) (ht : OkI t) :
    Calls Try.prog 21 #[.pointer (some ⟨p2, 0, none⟩), .int .i64 q.who, .int .i64 t, .string q.text] w fun e w' => e = .returned (.int .i64 (askE r2 q t)) ∧ C2 B w' p1 p2 r1 (askR r2 q t) ∧ Below B w w' ∧ KC p2 w w' := by
  obtain ⟨h0, ⟨m, h1⟩, v, h2⟩ := h
  refine (rask_any p2 v r2 q t w h2 h0 hw ht).mono ?_
  rintro e w' ⟨e1, v', k1, k2⟩
  exact ⟨e1, ⟨Nat.le_trans h0 k2.size, ⟨m, h1.kept h2 k2⟩, v', k1⟩, h2.below k2 h0, k2.kc h2⟩
theorem C2.tick1 {B : Nat} {w : World} {p1 p2 : Nat} {r1 r2 : Rl} (h : C2 B w p1 p2 r1 r2) (t : Int) (ht : OkI t) :
    Calls Try.prog 16 #[.pointer (some ⟨p1, 0, none⟩), .int .i64 t] w fun e w' => ∃ u, e = .returned u ∧ BatR w.heap.size w' u (tickF r1 t).1 ∧ C2 B w' p1 p2 (tickF r1 t).2 r2 ∧ Below B w w' ∧ KC p1 w w' := by
  obtain ⟨h0, ⟨m, h1⟩, v, h2⟩ := h
  refine (tick_any p1 m r1 t w h1 ht).mono ?_
  rintro e w' ⟨u, e1, e2, k1, k2⟩
  exact ⟨u, e1, e2, ⟨Nat.le_trans h0 k2.size, ⟨m, k1⟩, v, h2.kept h1 k2⟩, k2.below h0 h1.at_ fun b e => (h1.map.lt b e).1, KC.of_k1 (k2.k1 h1)⟩
theorem C2.tick2 {B : Nat} {w : World} {p1 p2 : Nat} {r1 r2 : Rl} (h : C2 B w p1 p2 r1 r2) (t : Int) (ht : OkI t) :
    Calls Try.prog 17 #[.pointer (some ⟨p2, 0, none⟩), .int .i64 t] w fun e w' => ∃ u, e = .returned u ∧ BatR w.heap.size w' u (tickF r2 t).1 ∧ C2 B w' p1 p2 r1 (tickF r2 t).2 ∧ Below B w w' ∧ KC p2 w w' := by
  obtain ⟨h0, ⟨m, h1⟩, v, h2⟩ := h
  refine (rtick_any p2 v r2 t w h2 h0 ht).mono ?_
  rintro e w' ⟨u, e1, e2, v', k1, k2⟩
  exact ⟨u, e1, e2, ⟨Nat.le_trans h0 k2.size, ⟨m, h1.kept h2 (k2.weak _)⟩, v', k1⟩, h2.below (k2.weak _) h0, (k2.weak _).kc h2⟩
theorem C2.close1 {B : Nat} {w : World} {p1 p2 : Nat} {r1 r2 : Rl} (h : C2 B w p1 p2 r1 r2) :
    Calls Try.prog 18 #[.pointer (some ⟨p1, 0, none⟩)] w fun e w' => ∃ u, e = .returned u ∧ BatR w.heap.size w' u (closeF r1).1 ∧ C2 B w' p1 p2 (closeF r1).2 r2 ∧ Below B w w' ∧ KC p1 w w' := by
  obtain ⟨h0, ⟨m, h1⟩, v, h2⟩ := h
  refine (close_any p1 m r1 w h1).mono ?_
  rintro e w' ⟨u, e1, e2, ⟨m', k1, -⟩, k2⟩
  exact ⟨u, e1, e2, ⟨Nat.le_trans h0 k2.size, ⟨m', k1⟩, v, h2.kept h1 k2⟩, k2.below h0 h1.at_ fun b e => (h1.map.lt b e).1, KC.of_k1 (k2.k1 h1)⟩
theorem C2.close2 {B : Nat} {w : World} {p1 p2 : Nat} {r1 r2 : Rl} (h : C2 B w p1 p2 r1 r2) :
    Calls Try.prog 19 #[.pointer (some ⟨p2, 0, none⟩)] w fun e w' => ∃ u, e = .returned u ∧ BatR w.heap.size w' u (closeF r2).1 ∧ C2 B w' p1 p2 r1 (closeF r2).2 ∧ Below B w w' ∧ KC p2 w w' := by
  obtain ⟨h0, ⟨m, h1⟩, v, h2⟩ := h
  refine (rclose_any p2 v r2 w h2 h0).mono ?_
  rintro e w' ⟨u, e1, e2, v', k1, k2⟩
  exact ⟨u, e1, e2, ⟨Nat.le_trans h0 k2.size, ⟨m, h1.kept h2 (k2.weak _)⟩, v', k1⟩, h2.below (k2.weak _) h0, (k2.weak _).kc h2⟩
theorem C2.wait1 {B : Nat} {w : World} {p1 p2 : Nat} {r1 r2 : Rl} (h : C2 B w p1 p2 r1 r2) (n : Nat) (hn : r1.l.length = n) :
    Calls Try.prog 22 #[.pointer (some ⟨p1, 0, none⟩)] w fun e w' => e = .returned (.int .i64 n) ∧ w' = w := by
  obtain ⟨h0, ⟨m, h1⟩, v, h2⟩ := h
  subst hn
  exact waiting_any p1 m r1 w h1
theorem C2.wait2 {B : Nat} {w : World} {p1 p2 : Nat} {r1 r2 : Rl} (h : C2 B w p1 p2 r1 r2) (n : Nat) (hn : r2.l.length = n) :
    Calls Try.prog 23 #[.pointer (some ⟨p2, 0, none⟩)] w fun e w' => e = .returned (.int .i64 n) ∧ w' = w := by
  obtain ⟨h0, ⟨m, h1⟩, v, h2⟩ := h
  subst hn
  exact rwaiting_any h2.rm
theorem C2.lt {B : Nat} {w : World} {p1 p2 : Nat} {r1 r2 : Rl} (h : C2 B w p1 p2 r1 r2) : B ≤ p1 ∧ p1 < w.heap.size ∧ B ≤ p2 ∧ p2 < w.heap.size ∧ p1 ≠ p2 ∧ r1.l.length ≤ 1000 ∧ r2.l.length ≤ 1000 := by
  obtain ⟨h0, ⟨m, h1⟩, v, h2⟩ := h
  have hne : p1 ≠ p2 := fun e => by
    have h3 := h1.row
    rw [e, h2.rm.row] at h3
    exact absurd (cells_ty h3) (by decide)
  exact ⟨h1.at_, h1.lt, h2.rm.at_, Rg.lt_of_heap h2.rm.row, hne, h1.ok.len, h2.rm.ok.len⟩
theorem BatR.kc {n p : Nat} {w w' : World} {v : Value} {o : Option (List ByteArray)} (h : BatR n w v o) (hk : KC p w w') (hp : p < n) : BatR n w' v o := by
  cases o with
  | none => exact h
  | some ts =>
    obtain ⟨g, u, h1, h2, h3, h4⟩ := h
    refine ⟨g, u, h1, h2, hk _ _ _ _ (by omega) (by decide) h3, h4.1, h4.2.imp id ?_⟩
    rintro ⟨g, cp, cur, e1, e2, e3, e4⟩
    exact ⟨g, cp, cur, e1, e2, hk _ _ _ _ (by omega) (by decide) e3, e4⟩
/-- Both relays, and a copy of an act. -/
structure PL (w0 : World) (w : World) (p1 p2 qa : Nat) (row : Array Value) (r1 r2 : Rl) : Prop where
  two : C2 w0.heap.size w p1 p2 r1 r2
  row : w.heap[qa]? = some (.cells row 46)
  bel : Ext w0 w
theorem PL.ext {w0 w w' : World} {p1 p2 qa : Nat} {row : Array Value} {r1 r2 : Rl} (h : PL w0 w p1 p2 qa row r1 r2) (x : Ext w w') : PL w0 w' p1 p2 qa row r1 r2 :=
  ⟨h.two.ext x, (x.block _ (Rg.lt_of_heap h.row)).trans h.row, h.bel.trans x⟩
theorem PL.ne {w0 w : World} {p1 p2 qa : Nat} {row : Array Value} {r1 r2 : Rl} (h : PL w0 w p1 p2 qa row r1 r2) : qa ≠ p1 ∧ qa ≠ p2 := by
  obtain ⟨⟨h0, ⟨m, h1⟩, v, h2⟩, h3, -⟩ := h
  refine ⟨fun e => ?_, fun e => ?_⟩
  · rw [e, h1.row] at h3
    exact absurd (cells_ty h3) (by decide)
  · rw [e, h2.rm.row] at h3
    exact absurd (cells_ty h3) (by decide)
theorem PL.step1 {w0 w w' : World} {p1 p2 qa : Nat} {row : Array Value} {r1 r2 r1' r2' : Rl} (h : PL w0 w p1 p2 qa row r1 r2) (k : C2 w0.heap.size w' p1 p2 r1' r2') (b : Below w0.heap.size w w') (c : KC p1 w w' ∨ KC p2 w w') : PL w0 w' p1 p2 qa row r1' r2' :=
  ⟨k, c.elim (fun c => c _ _ _ _ h.ne.1 (by decide) h.row) (fun c => c _ _ _ _ h.ne.2 (by decide) h.row), Below.trans h.bel b⟩
end Go.Proofs.Ytbeoihjfjkbfhaa

namespace Go.Proofs.Ytbeoihjfjkbfhaa
set_option linter.unusedVariables false
set_option linter.unusedSimpArgs false
open Go.RowKit
theorem same_true {n1 n2 : Nat} (v1 v2 : Value) (o : Option (List ByteArray)) (w : World) (h1 : BatR n1 w v1 o) (h2 : BatR n2 w v2 o) (l : ∀ ts, o = some ts → ts.length ≤ 1000000) :
    Calls Try.prog 15 #[v1, v2] w fun e w' => e = .returned (.bool true) ∧ Ext w w' :=
  (same_any v1 v2 o o w h1 h2 l l).mono fun _ _ ⟨a, b⟩ => ⟨by rw [a, decide_eq_true rfl], b⟩
theorem PL.c2 {w0 w : World} {p1 p2 qa : Nat} {a0 a1 a2 a3 : Value} {r1 r2 : Rl} (h : PL w0 w p1 p2 qa #[a0, a1, a2, a3] r1 r2) : w.cell? ⟨qa, 1, none⟩ = some a1 ∧ w.cell? ⟨qa, 3, none⟩ = some a3 := by
  have h1 := cell_of_row w qa 1 _ _ _ h.row
  have h3 := cell_of_row w qa 3 _ _ _ h.row
  exact ⟨h1, h3⟩
set_option maxRecDepth 100000 in
set_option maxHeartbeats 16000000 in
theorem play_any (v : Value) (ls : List (List Int)) (w0 w : World) (hl : RN 4 w0 v ls) (p1 p2 : Nat) (r : Rl) (h : C2 w0.heap.size w p1 p2 r r) (hx : Ext w0 w) :
    Calls Try.prog 14 #[.pointer (some ⟨p1, 0, none⟩), .pointer (some ⟨p2, 0, none⟩), v] w fun e w' => ∃ (t : Int) (r' : Rl), e = .returned (.tuple #[.int .i64 t, .bool true]) ∧ 0 ≤ t ∧ t ≤ 1000 ∧ C2 w0.heap.size w' p1 p2 r' r' ∧ Ext w0 w' := by
  obtain ⟨base, cp, rfl, hlen⟩ := hl.form
  have HH := Lib.hid h; have HX0 := Lib.hid hx; have HL := Lib.hid hl; have HLEN := Lib.hid hlen
  clear h hx hl hlen
  go_enter Try.func14, Try.ntmps14
  go_wp2_with (fail)
  go_loopw [8, 9] (fun tm k wr => ∃ (i : Nat) (t : Int) (r : Rl), k = .int .i64 i ∧ tm = .int .i64 t ∧ i ≤ 30 ∧ i ≤ ls.length ∧ 0 ≤ t ∧ t ≤ 25 * i ∧ Hid (C2 w0.heap.size wr p1 p2 r r) ∧ Hid (Ext w0 wr)) (fun _ k _ => 30 - (iof k).toNat)
  case atStart => exact ⟨0, 0, r, rfl, rfl, by omega, by omega, by omega, by omega, HH, HX0⟩
  case round =>
    obtain ⟨i, t, r, rfl, rfl, hi, hil, t0, t1, HR, HX⟩ := hrel
    clear HH HX0
    by_cases hi2 : i < ls.length ∧ i < 30
    · obtain ⟨hi3, hi4⟩ := hi2
      obtain ⟨b, off, q0, q1, q2, q3, rfl, bl0, k0, k1, k2, k3, o0, o1, o2, o3, -⟩ := act_at HL.out i hi3
      have bl : b < wr.heap.size := Nat.lt_of_lt_of_le bl0 HX.out.size
      have c0 := (HX.out.cells.1 _ _ bl0).trans k0
      have c1 := (HX.out.cells.1 _ _ bl0).trans k1
      have c2 := (HX.out.cells.1 _ _ bl0).trans k2
      have c3 := (HX.out.cells.1 _ _ bl0).trans k3
      clear k0 k1 k2 k3 bl0
      have hlc : (i : Int) < (ls.length : Int) := by omega
      have hi20 : (i : Int) < 30 := by omega
      obtain ⟨s, hs⟩ : ∃ s, s = q2 % 25 := ⟨_, rfl⟩
      have s0 : 0 ≤ s := by omega
      have s1 : s < 25 := by omega
      have HM2 := Lib.hid (fun w => mod_any q2 25 (by decide) (by decide) o2 w)
      rw [← hs] at HM2
      clear hs
      obtain ⟨kd, hkd⟩ : ∃ kd, kd = q0 % 9 := ⟨_, rfl⟩
      have kd0 : 0 ≤ kd := by omega
      have kd1 : kd < 9 := by omega
      have HM0 := Lib.hid (fun w => mod_any q0 9 (by decide) (by decide) o0 w)
      rw [← hkd] at HM0
      clear hkd
      obtain ⟨m, hm⟩ : ∃ m, m = q1 % 5 := ⟨_, rfl⟩
      have m0 : 0 ≤ m := by omega
      have m1 : m < 5 := by omega
      have HM1 := Lib.hid (fun w => mod_any q1 5 (by decide) (by decide) o1 w)
      rw [← hm] at HM1
      clear hm
      go_upto_region 6 with (fail)
      have hxa : Ext wr (wr.alloc (.cells #[.int .i64 q0, .int .i64 q1, .int .i64 q2, .int .i64 q3] 46)) := Ext.alloc (Ext.refl _) _
      have hrow := alloc_at wr (.cells #[.int .i64 q0, .int .i64 q1, .int .i64 q2, .int .i64 q3] 46)
      obtain ⟨qa, hqa⟩ : ∃ qa, qa = wr.heap.size := ⟨_, rfl⟩
      rw [← hqa] at hrow ⊢
      have HPL : Hid (PL w0 (wr.alloc (.cells #[.int .i64 q0, .int .i64 q1, .int .i64 q2, .int .i64 q3] 46)) p1 p2 qa #[.int .i64 q0, .int .i64 q1, .int .i64 q2, .int .i64 q3] r r) := Lib.hid ⟨HR.out.ext hxa, hrow, HX.out.trans hxa⟩
      clear hqa hxa hrow c0 c1 c2 c3 bl HR HX
      generalize wr.alloc (.cells #[.int .i64 q0, .int .i64 q1, .int .i64 q2, .int .i64 q3] 46) = W at *
      have d0 := cell_of_row W qa 0 _ _ _ HPL.out.row; have d1 := cell_of_row W qa 1 _ _ _ HPL.out.row; have d2 := cell_of_row W qa 2 _ _ _ HPL.out.row; have d3 := cell_of_row W qa 3 _ _ _ HPL.out.row
      change W.cell? _ = some (.int .i64 q0) at d0
      change W.cell? _ = some (.int .i64 q1) at d1
      change W.cell? _ = some (.int .i64 q2) at d2
      change W.cell? _ = some (.int .i64 q3) at d3
      go_upto_region 7 with (go_at_call 24; (with_reducible refine (HM2.out _).mono ?_); rintro e w3 ⟨rfl, rfl⟩)
      obtain ⟨T, hT⟩ : ∃ T, T = t + s := ⟨_, rfl⟩
      rw [← hT]
      have T0 : 0 ≤ T := by omega
      have T1 : T ≤ 25 * ((i : Int) + 1) := by omega
      clear hT t0 t1 s0 s1 HM2
      by_cases h13 : q2.tmod 13 = 12
      · obtain ⟨T2, hT2⟩ : ∃ T2, T2 = T - 30 := ⟨_, rfl⟩
        have HT2 := Lib.hid hT2
        have T20 : -30 ≤ T2 := by omega
        have T21 : T2 ≤ 1000 := by omega
        go_upto_region 10 with (fail)
        rw [← hT2]
        clear hT2
        by_cases hk6 : kd < 6
        · skip
          have HG1 : Hid (∀ V0 V, PL w0 V0 p1 p2 qa #[.int .i64 q0, .int .i64 q1, .int .i64 q2, .int .i64 q3] r r → Ext V0 V → Calls Try.prog 20 #[.pointer (some ⟨p1, 0, none⟩), .int .i64 m, .int .i64 T2, .string (txtF q3)] V fun e w' => e = .returned (.int .i64 (askE r ⟨m, txtF q3⟩ T2)) ∧ PL w0 w' p1 p2 qa #[.int .i64 q0, .int .i64 q1, .int .i64 q2, .int .i64 q3] (askR r ⟨m, txtF q3⟩ T2) r) := Lib.hid fun V0 V hV0 hx0 => have hV := hV0.ext hx0
            (hV.two.ask1 ⟨m, txtF q3⟩ T2 (okI_small (by simp only; omega)) (okI_small (by omega))).mono fun _ _ ⟨a, b, c, d⟩ => ⟨a, hV.step1 b c (.inl d)⟩
          have HG2 : Hid (∀ V0 V, PL w0 V0 p1 p2 qa #[.int .i64 q0, .int .i64 q1, .int .i64 q2, .int .i64 q3] (askR r ⟨m, txtF q3⟩ T2) r → Ext V0 V → Calls Try.prog 21 #[.pointer (some ⟨p2, 0, none⟩), .int .i64 m, .int .i64 T2, .string (txtF q3)] V fun e w' => e = .returned (.int .i64 (askE r ⟨m, txtF q3⟩ T2)) ∧ PL w0 w' p1 p2 qa #[.int .i64 q0, .int .i64 q1, .int .i64 q2, .int .i64 q3] (askR r ⟨m, txtF q3⟩ T2) (askR r ⟨m, txtF q3⟩ T2)) := Lib.hid fun V0 V hV0 hx0 => have hV := hV0.ext hx0
            (hV.two.ask2 ⟨m, txtF q3⟩ T2 (okI_small (by simp only; omega)) (okI_small (by omega))).mono fun _ _ ⟨a, b, c, d⟩ => ⟨a, hV.step1 b c (.inr d)⟩
          have HTX : Hid (∀ V0 V r1 r2, PL w0 V0 p1 p2 qa #[.int .i64 q0, .int .i64 q1, .int .i64 q2, .int .i64 q3] r1 r2 → Ext V0 V → Calls Try.prog 25 #[.int .i64 q3] V fun e w' => e = .returned (.string (txtF q3)) ∧ PL w0 w' p1 p2 qa #[.int .i64 q0, .int .i64 q1, .int .i64 q2, .int .i64 q3] r1 r2) := Lib.hid fun V0 V r1 r2 hV0 hx0 => have hV := hV0.ext hx0; (text_any q3 V o3).mono fun _ _ ⟨a, b⟩ => ⟨a, hV.ext b⟩
          generalize txtF q3 = tx at *
          generalize askE r ⟨m, tx⟩ T2 = er at *
          generalize askR r ⟨m, tx⟩ T2 = r' at *
          have hpl := HPL.out
          go_upto_region 14 with (go_at_call 24; (with_reducible refine (HM0.out _).mono ?_); rintro e wx ⟨rfl, rfl⟩)
          go_region_held3 (fun w' => w'.cell? ⟨qa, 1, none⟩ = some (.int .i64 q1) ∧ w'.cell? ⟨qa, 3, none⟩ = some (.int .i64 q3)) (first | exact kc' | exact ky' | exact kb' | exact kx' | exact ⟨d1, d3⟩ | go_keep)
            (first
              | (go_at_call 24; (with_reducible refine (HM1.out _).mono ?_); rintro e wx ⟨rfl, rfl⟩)
              | (go_at_call 25; refine (HTX.out _ _ r' r (by with_reducible assumption) (by with_reducible repeat (first | exact Ext.refl _ | assumption | apply Ext.drewN | apply Ext.drew | apply Ext.alloc | (refine Ext.setCell ?_ (by simp <;> omega) _) | (refine Ext.trans ?_ (by assumption))))).mono ?_; rintro e wx ⟨rfl, hpy⟩; have ky' := PL.c2 hpy)
              | (go_at_call 25; refine (HTX.out _ _ r r (by with_reducible assumption) (by with_reducible repeat (first | exact Ext.refl _ | assumption | apply Ext.drewN | apply Ext.drew | apply Ext.alloc | (refine Ext.setCell ?_ (by simp <;> omega) _) | (refine Ext.trans ?_ (by assumption))))).mono ?_; rintro e wx ⟨rfl, hpx⟩; have kx' := PL.c2 hpx)
              | (go_at_call 20; refine (HG1.out _ _ (by with_reducible assumption) (by with_reducible repeat (first | exact Ext.refl _ | assumption | apply Ext.drewN | apply Ext.drew | apply Ext.alloc | (refine Ext.setCell ?_ (by simp <;> omega) _) | (refine Ext.trans ?_ (by assumption))))).mono ?_; rintro e wb ⟨rfl, hpb⟩; have kb' := PL.c2 hpb)
              | (go_at_call 21; refine (HG2.out _ _ (by with_reducible assumption) (by with_reducible repeat (first | exact Ext.refl _ | assumption | apply Ext.drewN | apply Ext.drew | apply Ext.alloc | (refine Ext.setCell ?_ (by simp <;> omega) _) | (refine Ext.trans ?_ (by assumption))))).mono ?_; rintro e wc ⟨rfl, hpc⟩; have kc' := PL.c2 hpc))
          have HPE := Lib.hid hpc
          clear hpb hpc hpx hpy hpl kx' ky' kb' kc' d0 d1 d2 d3 HG1 HG2 HTX HM0 HM1 HPL
          have HW1 := Lib.hid (HPE.out.two.wait1 _ rfl); have HW2 := Lib.hid (HPE.out.two.wait2 _ rfl)
          go_wp2_with (first
            | (go_at_call 22; (with_reducible refine HW1.out.mono ?_); rintro e w6 ⟨rfl, hw6⟩; have h9 := hw6.symm; clear hw6; subst h9)
            | (go_at_call 23; (with_reducible refine HW2.out.mono ?_); rintro e w6 ⟨rfl, hw6⟩; have h9 := hw6.symm; clear hw6; subst h9))
          exact ⟨⟨i + 1, T, r', by simp, rfl, by omega, by omega, by omega, by omega, Lib.hid HPE.out.two, Lib.hid HPE.out.bel⟩, by simp [iof]; omega⟩
        · by_cases hk8 : kd < 8
          · skip
            have HK2 : Hid (∀ V, PL w0 V p1 p2 qa #[.int .i64 q0, .int .i64 q1, .int .i64 q2, .int .i64 q3] (tickF r T2).2 r → Calls Try.prog 17 #[.pointer (some ⟨p2, 0, none⟩), .int .i64 T2] V fun e w' => ∃ u, e = .returned u ∧ BatR V.heap.size w' u (tickF r T2).1 ∧ C2 w0.heap.size w' p1 p2 (tickF r T2).2 (tickF r T2).2 ∧ Below w0.heap.size V w' ∧ KC p2 V w') := Lib.hid fun V hV => hV.two.tick2 T2 (okI_small (by omega))
            have HLE := Lib.hid (fun ts (h : (tickF r T2).1 = some ts) => tick_len h HPL.out.two.lt.2.2.2.2.2.1)
            have HA1 := Lib.hid (HPL.out.two.tick1 T2 (okI_small (by omega)))
            generalize (tickF r T2).1 = ob at *
            generalize (tickF r T2).2 = r' at *
            go_upto_region 19 with (first
              | (go_at_call 24; (with_reducible refine (HM0.out _).mono ?_); rintro e wx ⟨rfl, rfl⟩)
              | (go_at_call 16; (with_reducible refine HA1.out.mono ?_); rintro e wa ⟨ua, rfl, hba, hca, hla, hka⟩; have HPA := Lib.hid (HPL.out.step1 hca hla (.inl hka)); have HA2 := Lib.hid (HK2.out _ HPA.out))
              | (go_at_call 17; (with_reducible refine HA2.out.mono ?_); rintro e wb ⟨ub, rfl, hbb, hcb, hlb, hkb⟩; have HPB := Lib.hid (HPA.out.step1 hcb hlb (.inr hkb)); have HSM := Lib.hid (same_true ua ub ob wb (hba.kc hkb HPL.out.two.lt.2.2.2.1) hbb HLE.out))
              | (go_at_call 15; (with_reducible refine HSM.out.mono ?_); rintro e wc ⟨rfl, hxc⟩; have HPE := Lib.hid (HPB.out.ext hxc)))
            clear hba hca hla hka hbb hcb hlb hkb hxc HPA HPB HSM HA1 HA2 HK2 HPL HLE d0 d1 d2 d3 HM0 HM1
            have HW1 := Lib.hid (HPE.out.two.wait1 _ rfl); have HW2 := Lib.hid (HPE.out.two.wait2 _ rfl)
            go_wp2_with (first
              | (go_at_call 22; (with_reducible refine HW1.out.mono ?_); rintro e w6 ⟨rfl, hw6⟩; have h9 := hw6.symm; clear hw6; subst h9)
              | (go_at_call 23; (with_reducible refine HW2.out.mono ?_); rintro e w6 ⟨rfl, hw6⟩; have h9 := hw6.symm; clear hw6; subst h9))
            exact ⟨⟨i + 1, T, r', by simp, rfl, by omega, by omega, by omega, by omega, Lib.hid HPE.out.two, Lib.hid HPE.out.bel⟩, by simp [iof]; omega⟩
          · by_cases hk7 : q1.tmod 7 = 0
            · skip
              have HK2 : Hid (∀ V, PL w0 V p1 p2 qa #[.int .i64 q0, .int .i64 q1, .int .i64 q2, .int .i64 q3] (closeF r).2 r → Calls Try.prog 19 #[.pointer (some ⟨p2, 0, none⟩)] V fun e w' => ∃ u, e = .returned u ∧ BatR V.heap.size w' u (closeF r).1 ∧ C2 w0.heap.size w' p1 p2 (closeF r).2 (closeF r).2 ∧ Below w0.heap.size V w' ∧ KC p2 V w') := Lib.hid fun V hV => hV.two.close2
              have HLE := Lib.hid (fun ts (h : (closeF r).1 = some ts) => close_len h HPL.out.two.lt.2.2.2.2.2.1)
              have HA1 := Lib.hid (HPL.out.two.close1)
              generalize (closeF r).1 = ob at *
              generalize (closeF r).2 = r' at *
              go_upto_region 19 with (first
                | (go_at_call 24; (with_reducible refine (HM0.out _).mono ?_); rintro e wx ⟨rfl, rfl⟩)
                | (go_at_call 18; (with_reducible refine HA1.out.mono ?_); rintro e wa ⟨ua, rfl, hba, hca, hla, hka⟩; have HPA := Lib.hid (HPL.out.step1 hca hla (.inl hka)); have HA2 := Lib.hid (HK2.out _ HPA.out))
                | (go_at_call 19; (with_reducible refine HA2.out.mono ?_); rintro e wb ⟨ub, rfl, hbb, hcb, hlb, hkb⟩; have HPB := Lib.hid (HPA.out.step1 hcb hlb (.inr hkb)); have HSM := Lib.hid (same_true ua ub ob wb (hba.kc hkb HPL.out.two.lt.2.2.2.1) hbb HLE.out))
                | (go_at_call 15; (with_reducible refine HSM.out.mono ?_); rintro e wc ⟨rfl, hxc⟩; have HPE := Lib.hid (HPB.out.ext hxc)))
              clear hba hca hla hka hbb hcb hlb hkb hxc HPA HPB HSM HA1 HA2 HK2 HPL HLE d0 d1 d2 d3 HM0 HM1
              have HW1 := Lib.hid (HPE.out.two.wait1 _ rfl); have HW2 := Lib.hid (HPE.out.two.wait2 _ rfl)
              go_wp2_with (first
                | (go_at_call 22; (with_reducible refine HW1.out.mono ?_); rintro e w6 ⟨rfl, hw6⟩; have h9 := hw6.symm; clear hw6; subst h9)
                | (go_at_call 23; (with_reducible refine HW2.out.mono ?_); rintro e w6 ⟨rfl, hw6⟩; have h9 := hw6.symm; clear hw6; subst h9))
              exact ⟨⟨i + 1, T, r', by simp, rfl, by omega, by omega, by omega, by omega, Lib.hid HPE.out.two, Lib.hid HPE.out.bel⟩, by simp [iof]; omega⟩
            · have hk7b : (q1.tmod 7 != 0) = true := by simpa using hk7
              have HK2 : Hid (∀ V, PL w0 V p1 p2 qa #[.int .i64 q0, .int .i64 q1, .int .i64 q2, .int .i64 q3] (tickF r T2).2 r → Calls Try.prog 17 #[.pointer (some ⟨p2, 0, none⟩), .int .i64 T2] V fun e w' => ∃ u, e = .returned u ∧ BatR V.heap.size w' u (tickF r T2).1 ∧ C2 w0.heap.size w' p1 p2 (tickF r T2).2 (tickF r T2).2 ∧ Below w0.heap.size V w' ∧ KC p2 V w') := Lib.hid fun V hV => hV.two.tick2 T2 (okI_small (by omega))
              have HLE := Lib.hid (fun ts (h : (tickF r T2).1 = some ts) => tick_len h HPL.out.two.lt.2.2.2.2.2.1)
              have HA1 := Lib.hid (HPL.out.two.tick1 T2 (okI_small (by omega)))
              generalize (tickF r T2).1 = ob at *
              generalize (tickF r T2).2 = r' at *
              go_upto_region 19 with (first
                | (go_at_call 24; (with_reducible refine (HM0.out _).mono ?_); rintro e wx ⟨rfl, rfl⟩)
                | (go_at_call 16; (with_reducible refine HA1.out.mono ?_); rintro e wa ⟨ua, rfl, hba, hca, hla, hka⟩; have HPA := Lib.hid (HPL.out.step1 hca hla (.inl hka)); have HA2 := Lib.hid (HK2.out _ HPA.out))
                | (go_at_call 17; (with_reducible refine HA2.out.mono ?_); rintro e wb ⟨ub, rfl, hbb, hcb, hlb, hkb⟩; have HPB := Lib.hid (HPA.out.step1 hcb hlb (.inr hkb)); have HSM := Lib.hid (same_true ua ub ob wb (hba.kc hkb HPL.out.two.lt.2.2.2.1) hbb HLE.out))
                | (go_at_call 15; (with_reducible refine HSM.out.mono ?_); rintro e wc ⟨rfl, hxc⟩; have HPE := Lib.hid (HPB.out.ext hxc)))
              clear hba hca hla hka hbb hcb hlb hkb hxc HPA HPB HSM HA1 HA2 HK2 HPL HLE d0 d1 d2 d3 HM0 HM1
              have HW1 := Lib.hid (HPE.out.two.wait1 _ rfl); have HW2 := Lib.hid (HPE.out.two.wait2 _ rfl)
              go_wp2_with (first
                | (go_at_call 22; (with_reducible refine HW1.out.mono ?_); rintro e w6 ⟨rfl, hw6⟩; have h9 := hw6.symm; clear hw6; subst h9)
                | (go_at_call 23; (with_reducible refine HW2.out.mono ?_); rintro e w6 ⟨rfl, hw6⟩; have h9 := hw6.symm; clear hw6; subst h9))
              exact ⟨⟨i + 1, T, r', by simp, rfl, by omega, by omega, by omega, by omega, Lib.hid HPE.out.two, Lib.hid HPE.out.bel⟩, by simp [iof]; omega⟩
      · go_upto_region 10 with (fail)
        by_cases hk6 : kd < 6
        · skip
          have HG1 : Hid (∀ V0 V, PL w0 V0 p1 p2 qa #[.int .i64 q0, .int .i64 q1, .int .i64 q2, .int .i64 q3] r r → Ext V0 V → Calls Try.prog 20 #[.pointer (some ⟨p1, 0, none⟩), .int .i64 m, .int .i64 T, .string (txtF q3)] V fun e w' => e = .returned (.int .i64 (askE r ⟨m, txtF q3⟩ T)) ∧ PL w0 w' p1 p2 qa #[.int .i64 q0, .int .i64 q1, .int .i64 q2, .int .i64 q3] (askR r ⟨m, txtF q3⟩ T) r) := Lib.hid fun V0 V hV0 hx0 => have hV := hV0.ext hx0
            (hV.two.ask1 ⟨m, txtF q3⟩ T (okI_small (by simp only; omega)) (okI_small (by omega))).mono fun _ _ ⟨a, b, c, d⟩ => ⟨a, hV.step1 b c (.inl d)⟩
          have HG2 : Hid (∀ V0 V, PL w0 V0 p1 p2 qa #[.int .i64 q0, .int .i64 q1, .int .i64 q2, .int .i64 q3] (askR r ⟨m, txtF q3⟩ T) r → Ext V0 V → Calls Try.prog 21 #[.pointer (some ⟨p2, 0, none⟩), .int .i64 m, .int .i64 T, .string (txtF q3)] V fun e w' => e = .returned (.int .i64 (askE r ⟨m, txtF q3⟩ T)) ∧ PL w0 w' p1 p2 qa #[.int .i64 q0, .int .i64 q1, .int .i64 q2, .int .i64 q3] (askR r ⟨m, txtF q3⟩ T) (askR r ⟨m, txtF q3⟩ T)) := Lib.hid fun V0 V hV0 hx0 => have hV := hV0.ext hx0
            (hV.two.ask2 ⟨m, txtF q3⟩ T (okI_small (by simp only; omega)) (okI_small (by omega))).mono fun _ _ ⟨a, b, c, d⟩ => ⟨a, hV.step1 b c (.inr d)⟩
          have HTX : Hid (∀ V0 V r1 r2, PL w0 V0 p1 p2 qa #[.int .i64 q0, .int .i64 q1, .int .i64 q2, .int .i64 q3] r1 r2 → Ext V0 V → Calls Try.prog 25 #[.int .i64 q3] V fun e w' => e = .returned (.string (txtF q3)) ∧ PL w0 w' p1 p2 qa #[.int .i64 q0, .int .i64 q1, .int .i64 q2, .int .i64 q3] r1 r2) := Lib.hid fun V0 V r1 r2 hV0 hx0 => have hV := hV0.ext hx0; (text_any q3 V o3).mono fun _ _ ⟨a, b⟩ => ⟨a, hV.ext b⟩
          generalize txtF q3 = tx at *
          generalize askE r ⟨m, tx⟩ T = er at *
          generalize askR r ⟨m, tx⟩ T = r' at *
          have hpl := HPL.out
          go_upto_region 14 with (go_at_call 24; (with_reducible refine (HM0.out _).mono ?_); rintro e wx ⟨rfl, rfl⟩)
          go_region_held3 (fun w' => w'.cell? ⟨qa, 1, none⟩ = some (.int .i64 q1) ∧ w'.cell? ⟨qa, 3, none⟩ = some (.int .i64 q3)) (first | exact kc' | exact ky' | exact kb' | exact kx' | exact ⟨d1, d3⟩ | go_keep)
            (first
              | (go_at_call 24; (with_reducible refine (HM1.out _).mono ?_); rintro e wx ⟨rfl, rfl⟩)
              | (go_at_call 25; refine (HTX.out _ _ r' r (by with_reducible assumption) (by with_reducible repeat (first | exact Ext.refl _ | assumption | apply Ext.drewN | apply Ext.drew | apply Ext.alloc | (refine Ext.setCell ?_ (by simp <;> omega) _) | (refine Ext.trans ?_ (by assumption))))).mono ?_; rintro e wx ⟨rfl, hpy⟩; have ky' := PL.c2 hpy)
              | (go_at_call 25; refine (HTX.out _ _ r r (by with_reducible assumption) (by with_reducible repeat (first | exact Ext.refl _ | assumption | apply Ext.drewN | apply Ext.drew | apply Ext.alloc | (refine Ext.setCell ?_ (by simp <;> omega) _) | (refine Ext.trans ?_ (by assumption))))).mono ?_; rintro e wx ⟨rfl, hpx⟩; have kx' := PL.c2 hpx)
              | (go_at_call 20; refine (HG1.out _ _ (by with_reducible assumption) (by with_reducible repeat (first | exact Ext.refl _ | assumption | apply Ext.drewN | apply Ext.drew | apply Ext.alloc | (refine Ext.setCell ?_ (by simp <;> omega) _) | (refine Ext.trans ?_ (by assumption))))).mono ?_; rintro e wb ⟨rfl, hpb⟩; have kb' := PL.c2 hpb)
              | (go_at_call 21; refine (HG2.out _ _ (by with_reducible assumption) (by with_reducible repeat (first | exact Ext.refl _ | assumption | apply Ext.drewN | apply Ext.drew | apply Ext.alloc | (refine Ext.setCell ?_ (by simp <;> omega) _) | (refine Ext.trans ?_ (by assumption))))).mono ?_; rintro e wc ⟨rfl, hpc⟩; have kc' := PL.c2 hpc))
          have HPE := Lib.hid hpc
          clear hpb hpc hpx hpy hpl kx' ky' kb' kc' d0 d1 d2 d3 HG1 HG2 HTX HM0 HM1 HPL
          have HW1 := Lib.hid (HPE.out.two.wait1 _ rfl); have HW2 := Lib.hid (HPE.out.two.wait2 _ rfl)
          go_wp2_with (first
            | (go_at_call 22; (with_reducible refine HW1.out.mono ?_); rintro e w6 ⟨rfl, hw6⟩; have h9 := hw6.symm; clear hw6; subst h9)
            | (go_at_call 23; (with_reducible refine HW2.out.mono ?_); rintro e w6 ⟨rfl, hw6⟩; have h9 := hw6.symm; clear hw6; subst h9))
          exact ⟨⟨i + 1, T, r', by simp, rfl, by omega, by omega, by omega, by omega, Lib.hid HPE.out.two, Lib.hid HPE.out.bel⟩, by simp [iof]; omega⟩
        · by_cases hk8 : kd < 8
          · skip
            have HK2 : Hid (∀ V, PL w0 V p1 p2 qa #[.int .i64 q0, .int .i64 q1, .int .i64 q2, .int .i64 q3] (tickF r T).2 r → Calls Try.prog 17 #[.pointer (some ⟨p2, 0, none⟩), .int .i64 T] V fun e w' => ∃ u, e = .returned u ∧ BatR V.heap.size w' u (tickF r T).1 ∧ C2 w0.heap.size w' p1 p2 (tickF r T).2 (tickF r T).2 ∧ Below w0.heap.size V w' ∧ KC p2 V w') := Lib.hid fun V hV => hV.two.tick2 T (okI_small (by omega))
            have HLE := Lib.hid (fun ts (h : (tickF r T).1 = some ts) => tick_len h HPL.out.two.lt.2.2.2.2.2.1)
            have HA1 := Lib.hid (HPL.out.two.tick1 T (okI_small (by omega)))
            generalize (tickF r T).1 = ob at *
            generalize (tickF r T).2 = r' at *
            go_upto_region 19 with (first
              | (go_at_call 24; (with_reducible refine (HM0.out _).mono ?_); rintro e wx ⟨rfl, rfl⟩)
              | (go_at_call 16; (with_reducible refine HA1.out.mono ?_); rintro e wa ⟨ua, rfl, hba, hca, hla, hka⟩; have HPA := Lib.hid (HPL.out.step1 hca hla (.inl hka)); have HA2 := Lib.hid (HK2.out _ HPA.out))
              | (go_at_call 17; (with_reducible refine HA2.out.mono ?_); rintro e wb ⟨ub, rfl, hbb, hcb, hlb, hkb⟩; have HPB := Lib.hid (HPA.out.step1 hcb hlb (.inr hkb)); have HSM := Lib.hid (same_true ua ub ob wb (hba.kc hkb HPL.out.two.lt.2.2.2.1) hbb HLE.out))
              | (go_at_call 15; (with_reducible refine HSM.out.mono ?_); rintro e wc ⟨rfl, hxc⟩; have HPE := Lib.hid (HPB.out.ext hxc)))
            clear hba hca hla hka hbb hcb hlb hkb hxc HPA HPB HSM HA1 HA2 HK2 HPL HLE d0 d1 d2 d3 HM0 HM1
            have HW1 := Lib.hid (HPE.out.two.wait1 _ rfl); have HW2 := Lib.hid (HPE.out.two.wait2 _ rfl)
            go_wp2_with (first
              | (go_at_call 22; (with_reducible refine HW1.out.mono ?_); rintro e w6 ⟨rfl, hw6⟩; have h9 := hw6.symm; clear hw6; subst h9)
              | (go_at_call 23; (with_reducible refine HW2.out.mono ?_); rintro e w6 ⟨rfl, hw6⟩; have h9 := hw6.symm; clear hw6; subst h9))
            exact ⟨⟨i + 1, T, r', by simp, rfl, by omega, by omega, by omega, by omega, Lib.hid HPE.out.two, Lib.hid HPE.out.bel⟩, by simp [iof]; omega⟩
          · by_cases hk7 : q1.tmod 7 = 0
            · skip
              have HK2 : Hid (∀ V, PL w0 V p1 p2 qa #[.int .i64 q0, .int .i64 q1, .int .i64 q2, .int .i64 q3] (closeF r).2 r → Calls Try.prog 19 #[.pointer (some ⟨p2, 0, none⟩)] V fun e w' => ∃ u, e = .returned u ∧ BatR V.heap.size w' u (closeF r).1 ∧ C2 w0.heap.size w' p1 p2 (closeF r).2 (closeF r).2 ∧ Below w0.heap.size V w' ∧ KC p2 V w') := Lib.hid fun V hV => hV.two.close2
              have HLE := Lib.hid (fun ts (h : (closeF r).1 = some ts) => close_len h HPL.out.two.lt.2.2.2.2.2.1)
              have HA1 := Lib.hid (HPL.out.two.close1)
              generalize (closeF r).1 = ob at *
              generalize (closeF r).2 = r' at *
              go_upto_region 19 with (first
                | (go_at_call 24; (with_reducible refine (HM0.out _).mono ?_); rintro e wx ⟨rfl, rfl⟩)
                | (go_at_call 18; (with_reducible refine HA1.out.mono ?_); rintro e wa ⟨ua, rfl, hba, hca, hla, hka⟩; have HPA := Lib.hid (HPL.out.step1 hca hla (.inl hka)); have HA2 := Lib.hid (HK2.out _ HPA.out))
                | (go_at_call 19; (with_reducible refine HA2.out.mono ?_); rintro e wb ⟨ub, rfl, hbb, hcb, hlb, hkb⟩; have HPB := Lib.hid (HPA.out.step1 hcb hlb (.inr hkb)); have HSM := Lib.hid (same_true ua ub ob wb (hba.kc hkb HPL.out.two.lt.2.2.2.1) hbb HLE.out))
                | (go_at_call 15; (with_reducible refine HSM.out.mono ?_); rintro e wc ⟨rfl, hxc⟩; have HPE := Lib.hid (HPB.out.ext hxc)))
              clear hba hca hla hka hbb hcb hlb hkb hxc HPA HPB HSM HA1 HA2 HK2 HPL HLE d0 d1 d2 d3 HM0 HM1
              have HW1 := Lib.hid (HPE.out.two.wait1 _ rfl); have HW2 := Lib.hid (HPE.out.two.wait2 _ rfl)
              go_wp2_with (first
                | (go_at_call 22; (with_reducible refine HW1.out.mono ?_); rintro e w6 ⟨rfl, hw6⟩; have h9 := hw6.symm; clear hw6; subst h9)
                | (go_at_call 23; (with_reducible refine HW2.out.mono ?_); rintro e w6 ⟨rfl, hw6⟩; have h9 := hw6.symm; clear hw6; subst h9))
              exact ⟨⟨i + 1, T, r', by simp, rfl, by omega, by omega, by omega, by omega, Lib.hid HPE.out.two, Lib.hid HPE.out.bel⟩, by simp [iof]; omega⟩
            · have hk7b : (q1.tmod 7 != 0) = true := by simpa using hk7
              have HK2 : Hid (∀ V, PL w0 V p1 p2 qa #[.int .i64 q0, .int .i64 q1, .int .i64 q2, .int .i64 q3] (tickF r T).2 r → Calls Try.prog 17 #[.pointer (some ⟨p2, 0, none⟩), .int .i64 T] V fun e w' => ∃ u, e = .returned u ∧ BatR V.heap.size w' u (tickF r T).1 ∧ C2 w0.heap.size w' p1 p2 (tickF r T).2 (tickF r T).2 ∧ Below w0.heap.size V w' ∧ KC p2 V w') := Lib.hid fun V hV => hV.two.tick2 T (okI_small (by omega))
              have HLE := Lib.hid (fun ts (h : (tickF r T).1 = some ts) => tick_len h HPL.out.two.lt.2.2.2.2.2.1)
              have HA1 := Lib.hid (HPL.out.two.tick1 T (okI_small (by omega)))
              generalize (tickF r T).1 = ob at *
              generalize (tickF r T).2 = r' at *
              go_upto_region 19 with (first
                | (go_at_call 24; (with_reducible refine (HM0.out _).mono ?_); rintro e wx ⟨rfl, rfl⟩)
                | (go_at_call 16; (with_reducible refine HA1.out.mono ?_); rintro e wa ⟨ua, rfl, hba, hca, hla, hka⟩; have HPA := Lib.hid (HPL.out.step1 hca hla (.inl hka)); have HA2 := Lib.hid (HK2.out _ HPA.out))
                | (go_at_call 17; (with_reducible refine HA2.out.mono ?_); rintro e wb ⟨ub, rfl, hbb, hcb, hlb, hkb⟩; have HPB := Lib.hid (HPA.out.step1 hcb hlb (.inr hkb)); have HSM := Lib.hid (same_true ua ub ob wb (hba.kc hkb HPL.out.two.lt.2.2.2.1) hbb HLE.out))
                | (go_at_call 15; (with_reducible refine HSM.out.mono ?_); rintro e wc ⟨rfl, hxc⟩; have HPE := Lib.hid (HPB.out.ext hxc)))
              clear hba hca hla hka hbb hcb hlb hkb hxc HPA HPB HSM HA1 HA2 HK2 HPL HLE d0 d1 d2 d3 HM0 HM1
              have HW1 := Lib.hid (HPE.out.two.wait1 _ rfl); have HW2 := Lib.hid (HPE.out.two.wait2 _ rfl)
              go_wp2_with (first
                | (go_at_call 22; (with_reducible refine HW1.out.mono ?_); rintro e w6 ⟨rfl, hw6⟩; have h9 := hw6.symm; clear hw6; subst h9)
                | (go_at_call 23; (with_reducible refine HW2.out.mono ?_); rintro e w6 ⟨rfl, hw6⟩; have h9 := hw6.symm; clear hw6; subst h9))
              exact ⟨⟨i + 1, T, r', by simp, rfl, by omega, by omega, by omega, by omega, Lib.hid HPE.out.two, Lib.hid HPE.out.bel⟩, by simp [iof]; omega⟩
    · have HRR := HR
      have hcnd : i < 30 → ¬ i < ls.length := fun h1 h2 => hi2 ⟨h2, h1⟩
      by_cases hi4 : i < 30
      · have hi5 : ¬ (i : Int) < (ls.length : Int) := by have := hcnd hi4; omega
        clear hcnd hi2
        go_wp2_with (fail)
        go_ret2
        exact ⟨t, rfl, t0, by omega, ⟨r, HRR.out⟩, HX.out⟩
      · have hi5 : ¬ (i : Int) < 30 := by omega
        have hi30 : i = 30 := by omega
        subst hi30
        clear hcnd hi2
        by_cases hi6 : (30 : Int) < (ls.length : Int)
        · skip
          go_wp2_with (fail)
          go_ret2
          exact ⟨t, rfl, t0, by omega, ⟨r, HRR.out⟩, HX.out⟩
        · skip
          go_wp2_with (fail)
          go_ret2
          exact ⟨t, rfl, t0, by omega, ⟨r, HRR.out⟩, HX.out⟩
end Go.Proofs.Ytbeoihjfjkbfhaa
