/-
  take: the questions that are due leave the map. Condition: what the map holds; what 'due' answers.
-/
import Derived.Test.YtbeoihjfjkbfhaaReE
namespace Go.Proofs.Ytbeoihjfjkbfhaa
set_option linter.unusedVariables false
set_option linter.unusedSimpArgs false
open Go.RowKit
def dueV (due : Int → Bool) (p : Qn × Value) : Bool := match p.2 with
  | .int _ z => due z
  | _ => false
theorem mapL_due (due : Int → Bool) (l : List (Qn × Int)) : ((mapL l).filter (dueV due)).map (·.1) = (l.filter fun p => due p.2).map (·.1) := by
  unfold mapL
  rw [List.filter_map, List.map_map]
  rfl
theorem tk_step {due : Int → Bool} {pre post : List (Qn × Value)} {x : Qn} {v : Value} {out t : List Qn} (h : (out ++ ((pre ++ (x, v) :: post).filter (dueV due)).map (·.1)).Perm t) :
    ((if dueV due (x, v) = true then out ++ [x] else out) ++ ((pre ++ post).filter (dueV due)).map (·.1)).Perm t := by
  rw [List.filter_append, List.filter_cons] at h
  by_cases hd : dueV due (x, v) = true
  · rw [if_pos hd] at h ⊢
    have := perm_mid (fun p : Qn × Value => p.1) _ _ _ _ h
    rw [List.filter_append]
    exact this
  · rw [if_neg hd] at h ⊢
    rw [List.filter_append]
    exact h
theorem fst_inj {α β : Type} : ∀ {l : List (α × β)}, (l.map (·.1)).Nodup → ∀ {p q : α × β}, p ∈ l → q ∈ l → p.1 = q.1 → p = q
  | [], _, p, q, hp, _, _ => by cases hp
  | x :: l, hn, p, q, hp, hq, he => by
    simp only [List.map_cons, List.nodup_cons] at hn
    rcases List.mem_cons.1 hp with hp1 | hp2
    · rcases List.mem_cons.1 hq with hq1 | hq2
      · rw [hp1, hq1]
      · exact absurd (List.mem_map.2 ⟨q, hq2, by rw [← he, hp1]⟩) hn.1
    · rcases List.mem_cons.1 hq with hq1 | hq2
      · exact absurd (List.mem_map.2 ⟨p, hp2, by rw [he, hq1]⟩) hn.1
      · exact fst_inj hn.2 hp2 hq2 he
theorem append_q {ops : Array Oper} {rest : List Oper} {o : Oper} {a : Act} {Q : Exit → Act → World → Prop} {w : World} (hgd : o.guard = none) (s x : Operand)
    (ho : o.op = .call { callee := .builtin .append, args := #[s, x], argTypes := #[71, 71] }) (B : Nat) (v : Value) (zs : List Qn) (hs : a.eval s = v) (hF : w.ownsRow B 66 2 v zs.length (zs.flatMap Qn.cs))
    (p : Nat) (i : Qn) (hx : a.eval x = .slice (some ⟨p, 0, none⟩) 1 1) (hp : w.heap[p]? = some (.cells #[.int .i64 i.who, .string i.text] 66)) (hn : zs.length < 1000000) (hB : B ≤ w.heap.size)
    (h : ∀ g cap w', w'.ownsRow B 66 2 (.slice (some ⟨g, 0, none⟩) (zs.length + 1) cap) (zs ++ [i]).length ((zs ++ [i]).flatMap Qn.cs) → Below B w w' → wpList Try.prog ops Q rest (a.put o.dst (.slice (some ⟨g, 0, none⟩) (zs.length + 1) cap)) w') : wpList Try.prog ops Q (o :: rest) a w :=
  append_one (cs := Qn.cs) (z := .agg #[.int .i64 0, .string ⟨#[]⟩]) (fun _ => ⟨rfl, by simp [Qn.cs, Value.oneCell']⟩) 71 66 24 Try.underlying71 (by kernel_rfl) (by rfl) (by decide) (by decide) hgd s x ho B v zs hs hF p i hx hp hn hB h
set_option maxRecDepth 100000 in
set_option maxHeartbeats 4000000 in
theorem take_any (b bx f : Nat) (cap : Array Value) (due : Int → Bool) (m : List (Qn × Int)) (w : World) (hm : MP encQ OkQ w b (mapL m)) (hf : DueF f cap due w) (hbx : w.cell? ⟨bx, 0, none⟩ = some (.func (.func f) #[] cap)) (hlen : m.length ≤ 1000) :
    Calls Try.prog 34 #[.map (some b), .func (.func 35) #[] #[.pointer (some ⟨bx, 0, none⟩)]] w fun e w' => ∃ v out, e = .returned v ∧ SR Qn.cs 2 w' v out ∧ out.Perm ((m.filter (fun p => due p.2)).map (·.1)) ∧ MP encQ OkQ w' b (mapL (m.filter (fun p => !due p.2))) ∧ w.grownBy w' (some b) := by
  have HF := Lib.hid hf; have HBX := Lib.hid hbx; have HM0 := Lib.hid hm
  have HL := Lib.hid hlen
  have hE : ∀ args w, (callFunc 35 args).run Try.prog w = .ok (.enter 35 args) w := enters_of Try.func35 (by kernel_rfl) rfl
  clear hf hbx hlen
  go_enter Try.func34, Try.ntmps34
  go_upto_region 3 with (refine wpList_range rfl _ 54 rfl 66 3 under54 b (mapL m) (by rfl) hm ?_; intro w1 hrg hx1 hs1)
  go_frame
  clear hm
  obtain ⟨r, hr⟩ : ∃ r, r = w.heap.size := ⟨_, rfl⟩
  rw [← hr] at hrg ⊢
  have HR := Lib.hid hr; have HX1 := Lib.hid hx1; have HS1 := Lib.hid hs1; have HG1 := Lib.hid hrg
  clear hr hx1 hs1 hrg
  have HST : Hid ((([] : List Qn) ++ ((mapL m).filter (dueV due)).map (fun p : Qn × Value => p.1)).Perm ((m.filter (fun p : Qn × Int => due p.2)).map (fun p : Qn × Int => p.1))) := Lib.hid (by rw [List.nil_append, mapL_due])
  go_loopw [5] (fun o wr => ∃ (out : List Qn) (left : List (Qn × Value)), RG encQ OkQ wr b r (mapL m) left ∧ wr.ownsRow w1.heap.size 66 2 o out.length (out.flatMap Qn.cs) ∧ Hid ((out ++ (left.filter (dueV due)).map (·.1)).Perm ((m.filter (fun p => due p.2)).map (·.1))) ∧ Hid (out.length + left.length ≤ m.length) ∧ Ext w wr) (fun _ wr => wr.rangeLeft b r)
  case atStart => exact ⟨[], mapL m, HG1.out, World.ownsRow_nil _ _ _ _, HST, Lib.hid (by simp [mapL_len]), HX1.out⟩
  case round =>
    obtain ⟨out, left, hrgr, hrow, HI, HN, hx⟩ := hrel
    go_upto_region 4 with (refine wpList_next rfl _ rfl b r (mapL m) left (by rfl) hrgr ?_ ?_)
    · intro hl
      subst hl
      have hp0 := HI.out
      simp only [List.filter_nil, List.map_nil, List.append_nil] at hp0
      have hon : out.length ≤ 1000000 := by have h8 := HN.out; have h9 := HL.out; rw [List.length_nil] at h8; omega
      have hsr := SR.of_row (cs := Qn.cs) (fun _ => rfl) hrow hon
      have hM1 := hrgr.1
      have HP0 := Lib.hid hp0; have HXW := Lib.hid hx
      have hok : ∀ q ∈ out, OkQ q := fun q hq => by
        obtain ⟨p, hp, rfl⟩ := List.mem_map.1 (hp0.mem_iff.1 hq)
        exact HM0.out.gd (p.1, .int .i64 p.2) (List.mem_map.2 ⟨p, (List.mem_filter.1 hp).1, rfl⟩)
      have HOK := Lib.hid hok
      have hstart : MP encQ OkQ wr b (mapL (m.filter fun p => decide (p.1 ∉ out.take 0))) := by
        rw [List.filter_eq_self.2 (by simp)]
        exact hM1
      have HSTA := Lib.hid hstart
      clear hrgr hrow hp0 hx hok hM1 hstart HI HN HG1
      obtain ⟨base, cp, rfl⟩ := hsr.form
      go_wp2_with (fail)
      go_loopw [27] (fun k wq => ∃ i : Nat, k = .int .i64 i ∧ i ≤ out.length ∧ Hid (MP encQ OkQ wq b (mapL (m.filter fun p => decide (p.1 ∉ out.take i)))) ∧ SR Qn.cs 2 wq (.slice base out.length cp) out ∧ Hid (wr.grownBy wq (some b))) (fun k _ => out.length - (iof k).toNat)
      case atStart => exact ⟨0, rfl, Nat.zero_le _, HSTA, hsr, Lib.hid ⟨rfl, rfl, rfl, Nat.le_refl _, fun _ _ _ => rfl⟩⟩
      case round =>
        rename_i wr0
        obtain ⟨i, rfl, hi, HMI, hsi, HGI⟩ := hrel
        by_cases hil : i < out.length
        · obtain ⟨b2, rfl, hbl, c0, c1⟩ := qn_at hsi i hil
          have hq := HOK.out out[i] (List.getElem_mem _)
          have hf2 : Hid ((mapL (m.filter fun p => decide (p.1 ∉ out.take i))).filter (fun p => decide (p.1 ≠ out[i])) = mapL (m.filter fun p => decide (p.1 ∉ out.take (i + 1)))) := Lib.hid (by
            unfold mapL
            rw [List.filter_map, List.filter_filter]
            congr 1
            apply List.filter_congr
            intro p _
            rw [List.take_succ_eq_append_getElem hil]
            simp only [Function.comp, List.mem_append, List.mem_singleton, not_or, Bool.decide_and, ne_eq]
            exact Bool.and_comm _ _)
          have hbb : b2 ≠ b := by
            rintro rfl
            obtain ⟨-, -, es, ck, hb, -⟩ := HMI.out
            simp [World.cell?, hb] at c0
          have HBB := Lib.hid hbb
          clear hbb
          generalize out[i] = q at *
          obtain ⟨qw, qt⟩ := q
          simp only at c0 c1
          go_upto_region 10 with (fail)
          have hxa : Ext wr (wr.alloc (.cells #[.int .i64 qw, .string qt] 66)) := Ext.alloc (Ext.refl _) _
          have HMA := Lib.hid (HMI.out.ext hxa)
          have hsa := hsi.ext hxa
          have hp6 : (wr.alloc (.cells #[.int .i64 qw, .string qt] 66)).heap[wr.heap.size]? = some (.cells #[.int .i64 qw, .string qt] 66) := alloc_at wr _
          obtain ⟨p6, hpe⟩ : ∃ p6, p6 = wr.heap.size := ⟨_, rfl⟩
          rw [← hpe] at hp6 ⊢
          generalize wr.alloc (.cells #[.int .i64 qw, .string qt] 66) = Wa at *
          have a0 : Wa.cell? ⟨p6, 0, none⟩ = some (.int .i64 qw) := cell_of_row _ _ 0 _ _ _ hp6
          have a1 : Wa.cell? ⟨p6, 1, none⟩ = some (.string qt) := cell_of_row _ _ 1 _ _ _ hp6
          have hpl := Rg.lt_of_heap hp6
          have HXA := Lib.hid hxa; have HSA := Lib.hid hsa
          clear hp6 hsi hsa c0 c1 hxa hpe
          go_wp2_with (refine wpList_delete _ rfl (.tmp 31) (.tmp 32) 54 66 rfl 66 3 keQ under54 b _ (by rfl) HMA.out ⟨qw, qt⟩ (by rfl) hq ?_; intro w4 hm4 hg4)
          rw [hf2.out] at hm4
          have hs4 : SR Qn.cs 2 w4 (.slice (some ⟨b2, 0, none⟩) out.length cp) out := by
            obtain ⟨base', cap', e1, e2, e3⟩ := HSA.out
            injection e1 with e4 e5 e6
            subst e4 e6
            refine ⟨_, _, rfl, e2, e3.imp id fun ⟨b', hb', hc'⟩ => ⟨b', hb', fun k hk j u hu => ?_⟩⟩
            injection hb' with hb'
            injection hb' with hb'
            subst hb'
            have h1 := hc' k hk j u hu
            rw [World.cell?_of_block (a := ⟨b2, k * 2 + j, none⟩) (hg4.block b2 (World.block_lt_of_cell? _ _ h1) (fun e => HBB.out (by injection e)))]
            exact h1
          exact ⟨⟨i + 1, by simp, by omega, Lib.hid hm4, hs4, Lib.hid (HGI.out.trans ((⟨HXA.out.os, HXA.out.tape, HXA.out.output, HXA.out.size, fun k hk _ => HXA.out.block k hk⟩ : wr.grownBy Wa (some b)).trans hg4))⟩, by simp [iof]; omega⟩
        · obtain rfl : i = out.length := by omega
          have hfin : (m.filter fun p => decide (p.1 ∉ out.take out.length)) = m.filter fun p => !due p.2 := by
            rw [List.take_length]
            apply List.filter_congr
            intro p hp
            have hnd := HM0.out.nodup
            rw [mapL_keys] at hnd
            have h1 : p.1 ∈ out ↔ due p.2 = true := by
              rw [HP0.out.mem_iff]
              constructor
              · intro h
                obtain ⟨p', hp', he⟩ := List.mem_map.1 h
                obtain ⟨h3, h4⟩ := List.mem_filter.1 hp'
                have := fst_inj hnd h3 hp he
                rw [← this]
                exact h4
              · intro h
                exact List.mem_map.2 ⟨p, List.mem_filter.2 ⟨hp, h⟩, rfl⟩
            cases hd : due p.2
            · simp [h1, hd]
            · simp [h1, hd]
          have hMf := HMI.out
          rw [hfin] at hMf
          have HMF := Lib.hid hMf
          clear hMf hfin HMI
          go_wp2_with (fail)
          go_ret
          have hgw : w.grownBy wr (some b) := (⟨HXW.out.os, HXW.out.tape, HXW.out.output, HXW.out.size, fun k hk _ => HXW.out.block k hk⟩ : w.grownBy _ (some b)).trans HGI.out
          exact ⟨_, out, rfl, hsi, HP0.out, HMF.out, hgw⟩
    · intro pre x v post w2 hl hrg2 hg2 hs2 hen
      subst hl
      have hvm : ∃ z, v = .int .i64 z := by
        obtain ⟨p, hp, he⟩ := List.mem_map.1 (hrgr.2.1 (x, v) (List.mem_append_right _ List.mem_cons_self))
        simp only [Prod.mk.injEq] at he
        exact ⟨p.2, he.2.symm⟩
      obtain ⟨z, rfl⟩ := hvm
      have hstep : Hid (((if due z = true then out ++ [x] else out) ++ ((pre ++ post).filter (dueV due)).map (fun p : Qn × Value => p.1)).Perm ((m.filter (fun p : Qn × Int => due p.2)).map (fun p : Qn × Int => p.1))) := Lib.hid (tk_step (due := due) HI.out)
      have hn2 : out.length + (pre ++ post).length + 1 ≤ m.length := by
        have := HN.out
        simp only [List.length_append, List.length_cons] at this ⊢
        omega
      have HLE := Lib.hid (hrgr.left_eq)
      have hrow2 := World.ownsRow.kept hrow hg2 (by
        cases ho : u5.ownBlock with
        | none => exact .inl rfl
        | some g => have := (hrow.lt g ho).1; have := HS1.out; have := HR.out; exact .inr (by simp; omega))
      have hx2 : Ext w w2 := Below.trans hx ⟨hg2.os, hg2.tape, hg2.output, hg2.size, fun k hk => hg2.block k (by have := hx.size; omega) (by have := HR.out; simp; omega)⟩
      have hms : w2.rangeLeft b r < wr.rangeLeft b r := by
        rw [HLE.out, hrg2.left_eq]
        simp
      have HMS := Lib.hid hms; have HN2 := Lib.hid hn2
      clear hrgr hx hrow HI hms hn2
      have hsz2 : w1.heap.size ≤ w2.heap.size := by have := hrg2.lt; have := HS1.out; have := HR.out; omega
      have HSZ := Lib.hid hsz2
      have hG1 := Lib.hid (fun wz (hz : Ext w wz) => give1_any HF.out bx HBX.out x z wz hz)
      obtain ⟨xw, xt⟩ := x
      simp only at hG1
      unfold encQ at hen
      simp only at hen
      clear hs2
      go_upto_region 5 with (fail)
      have hxa : Ext w2 (w2.alloc (.cells #[.int .i64 xw, .string xt] 66)) := Ext.alloc (Ext.refl _) _
      have hp6 : (w2.alloc (.cells #[.int .i64 xw, .string xt] 66)).heap[w2.heap.size]? = some (.cells #[.int .i64 xw, .string xt] 66) := alloc_at w2 _
      obtain ⟨p6, hpe⟩ : ∃ p6, p6 = w2.heap.size := ⟨_, rfl⟩
      rw [← hpe] at hp6 ⊢
      generalize w2.alloc (.cells #[.int .i64 xw, .string xt] 66) = Wa at *
      have a0 : Wa.cell? ⟨p6, 0, none⟩ = some (.int .i64 xw) := cell_of_row _ _ 0 _ _ _ hp6
      have a1 : Wa.cell? ⟨p6, 1, none⟩ = some (.string xt) := cell_of_row _ _ 1 _ _ _ hp6
      have hpl := Rg.lt_of_heap hp6
      have HP6 := Lib.hid hp6; have HXA := Lib.hid hxa; have HX2 := Lib.hid hx2; have HG2 := Lib.hid hrg2; have HRW := Lib.hid hrow2; have HHM := Lib.hid hg2
      have hGz := hG1.out Wa (hx2.trans hxa)
      clear hp6 hxa hx2 hrg2 hrow2 hpe hen hg2 hsz2
      cases hd : due z with
      | true =>
        rw [hd] at hGz
        rw [hd, if_pos rfl] at hstep
        clear hd
        go_upto_region 6 with (go_at_call 35; (with_reducible refine hGz.mono ?_); rintro e w3 ⟨rfl, hx3⟩)
        have b0 := (hx3.cells.1 _ _ hpl).trans a0
        have b1 := (hx3.cells.1 _ _ hpl).trans a1
        have hpl3 : p6 < w3.heap.size := Nat.lt_of_lt_of_le hpl hx3.size
        have HX3 := Lib.hid hx3
        clear hx3 a0 a1 hpl hGz
        go_wp2_with (refine append_q rfl (.tmp 21) (.tmp 23) rfl w1.heap.size _ out rfl (row_ext HRW.out (HXA.out.trans (HX3.out.trans (Ext.alloc (Ext.refl _) _)))) w3.heap.size ⟨xw, xt⟩ (by rfl) (alloc_at w3 _) (by have := HN2.out; have := HL.out; omega) (by have := HSZ.out; have := HXA.out.size; have := HX3.out.size; simp; omega) ?_; intro g cap' w4 hr4 hb4)
        have hx4 : Ext w2 (w3.alloc (.cells #[.int .i64 xw, .string xt] 66)) := HXA.out.trans (HX3.out.trans (Ext.alloc (Ext.refl _) _))
        have hrg4 : RG encQ OkQ w4 b r (mapL m) (pre ++ post) := (HG2.out.ext hx4).of_blocks (hb4.block _ (by have := HG1.out.1.lt; omega)) (hb4.block _ (by have := HG1.out.lt; omega))
        refine ⟨⟨out ++ [⟨xw, xt⟩], pre ++ post, hrg4, by simpa using hr4, hstep, Lib.hid (by have := HN2.out; simp at this ⊢; omega), Below.trans (HX2.out.trans hx4) ⟨hb4.os, hb4.tape, hb4.output, hb4.size, fun k hk => hb4.block k (by have := HS1.out; omega)⟩⟩, ?_⟩
        rw [hrg4.left_eq, ← HG2.out.left_eq]
        exact HMS.out
      | false =>
        rw [hd] at hGz
        rw [hd, if_neg (by simp)] at hstep
        clear hd
        go_wp2_with (go_at_call 35; (with_reducible refine hGz.mono ?_); rintro e w3 ⟨rfl, hx3⟩)
        have hrg3 := HG2.out.ext (HXA.out.trans hx3)
        refine ⟨⟨out, pre ++ post, hrg3, row_ext HRW.out (HXA.out.trans hx3), hstep, Lib.hid (by have := HN2.out; simp at this ⊢; omega), HX2.out.trans (HXA.out.trans hx3)⟩, ?_⟩
        rw [hrg3.left_eq, ← HG2.out.left_eq]
        exact HMS.out
end Go.Proofs.Ytbeoihjfjkbfhaa
