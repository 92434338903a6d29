/-
  'append' leaves the row that it was given. Nothing is asked.
  What the reference's Encode keeps: which grades are done, and a list that is exchanged in place. Nothing is asked.
  The reference's Encode. Conditions: what the book holds; its names are short.
  A book has the state and the values of the reference's: same. Conditions: they hold the same; the parts are ints and short names.
  A book and the reference's side by side. Frames; nothing is asked.
-/
import Derived.Test.YtnplnfkmcfalhaaGreatDoorJpC
import Derived.Deep.DeepAppendRoom
import Derived.Test.YtnplnfkmcfalhaaGreatDoorJpA
import Derived.Test.YtnplnfkmcfalhaaGreatDoorGoB
namespace Go.Proofs.YtnplnfkmcfalhaaGreatDoor
set_option linter.unusedVariables false
set_option linter.unusedSimpArgs false
open Go.RowKit

theorem row_pre {B E sz n m g cap : Nat} {w : World} {xs ys : List Value} (h : w.ownsRow B E sz (.slice (some ⟨g, 0, none⟩) (n + m) cap) (n + m) (xs ++ ys)) (hx : xs.length = n * sz) : w.ownsRow B E sz (.slice (some ⟨g, 0, none⟩) n cap) n xs := by
  refine ⟨hx, ?_⟩
  rcases h.2 with ⟨hn, -⟩ | ⟨g', cap', cur, hv, hb, hg, h1, h2, h3, h4⟩
  · cases hn
  · right
    injection hv with e1 e2 e3
    injection e1 with e1
    injection e1 with e1 _ _
    subst e1 e3
    refine ⟨_, _, cur, rfl, hb, hg, by omega, h2, h3, ?_⟩
    have := congrArg (List.take (n * sz)) h4
    rw [List.take_take, Nat.add_mul, Nat.min_eq_left (by omega), ← hx, List.take_left] at this
    rw [← hx]
    exact this
theorem append_keep {α : Type} {cs : α → List Value} {sz : Nat} (T E bytes : Nat) {z : Value} (hT : Tryz.prog.underlying T = some (.slice E))
    (hinfo : (Tryz.prog.info? E).map (fun i => (i.zero, i.size, i.bytes)) = some (some z, sz, bytes)) (hz : z.cells.size = sz) (h0 : 0 < sz) (hby : bytes ≤ 100000)
    {ops : Array Oper} {rest : List Oper} {o : Oper} {a : Act} {Q : Exit → Act → World → Prop} {w : World} (hgd : o.guard = none) (s x : Operand)
    (ho : o.op = .call { callee := .builtin .append, args := #[s, x], argTypes := #[T, T] }) (B : Nat) (v : Value) (vs : List α) (hs : a.eval s = v) (hF : w.ownsRow B E sz v vs.length (vs.flatMap cs))
    (p : Nat) (u : α) (hl : (cs u).length = sz ∧ ∀ c ∈ cs u, c.oneCell' = true) (hx : a.eval x = .slice (some ⟨p, 0, none⟩) 1 1) (hp : w.heap[p]? = some (.cells (cs u).toArray E)) (hn : vs.length < 1000000) (hB : B ≤ w.heap.size)
    (h : ∀ g cap w', w'.ownsRow B E sz (.slice (some ⟨g, 0, none⟩) (vs.length + 1) cap) (vs ++ [u]).length ((vs ++ [u]).flatMap cs) → w'.ownsRow B E sz v vs.length (vs.flatMap cs) → w.grownBy w' v.ownBlock → wpList Tryz.prog ops Q rest (a.put o.dst (.slice (some ⟨g, 0, none⟩) (vs.length + 1) cap)) w') : wpList Tryz.prog ops Q (o :: rest) a w := by
  obtain ⟨i0, hi, hz0, hz1, hz2⟩ := info_parts hinfo
  have hbytes : (vs.length + 1) * bytes ≤ 140737488355328 := by
    have : (vs.length + 1) * bytes ≤ 1000000 * 100000 := Nat.mul_le_mul (by omega) hby
    omega
  have hnews : ∀ j c, (cs u)[j]? = some c → w.cell? ((⟨p, 0, none⟩ : Addr).add j) = some c := by
    intro j c hc
    rw [addr_add, cell_of_row w p _ _ _ _ hp]
    simpa using hc
  have hun : (cs u).length = 1 * sz := by rw [hl.1, Nat.one_mul]
  have hfl : (vs ++ [u]).flatMap cs = vs.flatMap cs ++ cs u := by simp
  have key : ∃ g cap w', (Builtin.append_ #[T, T] o.type #[v, .slice (some ⟨p, 0, none⟩) 1 1]).run Tryz.prog w = .ok (.slice (some ⟨g, 0, none⟩) (vs.length + 1) cap) w' ∧ w'.ownsRow B E sz (.slice (some ⟨g, 0, none⟩) (vs.length + 1) cap) (vs.length + 1) (vs.flatMap cs ++ cs u) ∧ w'.ownsRow B E sz v vs.length (vs.flatMap cs) ∧ w.grownBy w' v.ownBlock := by
    rcases hF.2 with ⟨hv, hn0⟩ | ⟨g, cap, cur, hv, hb, hg, h1, h2, h3, h4⟩
    · obtain ⟨g, cap, w', hr, k1, k2, k3, k4⟩ := run_append_lies (P := Tryz.prog) w T o.type B E i0 _ sz bytes hT hi hz0 hz1 hz2 hz h0 v vs.length _ hF ⟨p, 0, none⟩ 1 1 (cs u) hun hnews hl.2 (by decide) (by unfold maxLen; omega) hbytes hB w.heap.size rfl
      have hnil : vs = [] := List.length_eq_zero_iff.1 hn0
      refine ⟨g, cap, w', hr, k1, ?_, k2⟩
      subst hnil
      rw [hv]
      exact World.ownsRow_nil _ _ _ _
    · subst hv
      by_cases hroom : vs.length + 1 ≤ cap
      · obtain ⟨w', hr, k1, k2⟩ := run_append_own_spare (P := Tryz.prog) w B T o.type E i0 sz hT hi hz1 g vs.length cap _ hF ⟨p, 0, none⟩ 1 1 (cs u) hun hnews hl.2 hroom
        exact ⟨g, cap, w', hr, k1, row_pre k1 hF.1, k2⟩
      · obtain ⟨v', w', hr, k1, k2⟩ := run_append_arg_grows (P := Tryz.prog) w T o.type E i0 _ sz bytes hT hi hz0 hz1 hz2 hz h0 ⟨g, 0, none⟩ vs.length cap (vs.flatMap cs) hF.1 (fun j c hc => by
          rw [addr_add]
          have hj := (List.getElem?_eq_some_iff.1 hc).1
          rw [World.ownsRow.cellAt hF j (by rw [hF.1] at hj; exact hj)]
          exact hc) ⟨p, 0, none⟩ 1 1 (cs u) hun hnews (by omega) (by unfold maxLen; omega) hbytes
        obtain ⟨g', cap', rfl, -, -⟩ := k1.form (by omega)
        refine ⟨g', cap', w', hr, row_base k1 hB, row_of_block hF (fun k hk => k2.block k (hF.lt k hk).2 (by simp)), k2.os, k2.tape, k2.output, k2.size, fun k hk _ => k2.block k hk (by simp)⟩
  obtain ⟨g, cap, w', hr, k1, k2, k3⟩ := key
  refine wpList_plain hgd fun K hK => ?_
  unfold Oper.wp execOp
  simp only [ho, resolve, invoke, builtin, Sem.run_bind, Sem.run_pure, Result.andThen_ok, List.map_toArray, List.map_cons, List.map_nil, hs, hx, hr]
  refine hK _ _ (h g cap w' ?_ k2 k3)
  rw [hfl, List.length_append]
  exact k1
section
variable {F : List Nat} {w w' : World} {p : Nat} {vl vc vd vg vn vo : Value} {L : List Int} {C : List Cr} {D : List Dy} {G : List Gd} {N : List Int} {O : List Gd}
/-- One of the rows' blocks has grown; the row itself is as it was. -/
theorem RR.grow_l (h : RR w p vl vc vd vg vn vo L C D G N O) (hg : w.grownBy w' vl.ownBlock) (hr : w'.ownsRow 0 3 1 vl L.length (L.flatMap celI)) : RR w' p vl vc vd vg vn vo L C D G N O := by
  have hk : ∀ {E' sz' n2 : Nat} {u : Value} {ys : List Value}, w.ownsRow 0 E' sz' u n2 ys → (∀ k, u.ownBlock = some k → vl.ownBlock ≠ some k) → w'.ownsRow 0 E' sz' u n2 ys := fun {E' sz' n2 u ys} hu hn => row_of_block hu (fun k hk => hg.block k (hu.lt k hk).2 (fun e => hn k hk e.symm))
  exact ⟨(hg.block p (Rg.lt_of_heap h.at0) (fun e => h.np h.rl (by decide) e.symm rfl)).trans h.at0, hr, hk h.rc (fun k hk => row_apart h.rc h.rl (by decide) hk), hk h.rd (fun k hk => row_apart h.rd h.rl (by decide) hk), hk h.rg (fun k hk => row_apart h.rg h.rl (by decide) hk), hk h.rn (fun k hk e => h.ln k e hk), hk h.ro (fun k hk => row_apart h.ro h.rl (by decide) hk), h.go, h.ln⟩
theorem RR.grow_d (h : RR w p vl vc vd vg vn vo L C D G N O) (hg : w.grownBy w' vd.ownBlock) (hr : w'.ownsRow 0 57 2 vd D.length (D.flatMap Dy.cs)) : RR w' p vl vc vd vg vn vo L C D G N O := by
  have hk : ∀ {E' sz' n2 : Nat} {u : Value} {ys : List Value}, w.ownsRow 0 E' sz' u n2 ys → E' ≠ 57 → w'.ownsRow 0 E' sz' u n2 ys := fun {E' sz' n2 u ys} hu hE => row_of_block hu (fun k hk => hg.block k (hu.lt k hk).2 (fun e => row_apart hu h.rd hE hk e.symm))
  exact ⟨(hg.block p (Rg.lt_of_heap h.at0) (fun e => h.np h.rd (by decide) e.symm rfl)).trans h.at0, hk h.rl (by decide), hk h.rc (by decide), hr, hk h.rg (by decide), hk h.rn (by decide), hk h.ro (by decide), h.go, h.ln⟩
end
end Go.Proofs.YtnplnfkmcfalhaaGreatDoor
namespace Go.Proofs.YtnplnfkmcfalhaaGreatDoor
set_option linter.unusedVariables false
set_option linter.unusedSimpArgs false
open Go.RowKit Go.Sort Go.Shelf

/-- Which grades are done. -/
def dnA (G : List Gd) (T : List Pl) : Array Value := (G.map fun g => Value.bool (decide (g.pl ∈ T))).toArray
theorem dnA_nil (G : List Gd) : dnA G [] = Array.replicate G.length (Value.bool false) := by
  apply Array.ext'
  unfold dnA
  simp only [List.not_mem_nil, decide_false, Array.toList_replicate]
  exact List.map_const'
theorem dnA_at {G : List Gd} {T : List Pl} {i : Nat} (h : i < G.length) : (dnA G T)[i]? = some (Value.bool (decide (G[i].pl ∈ T))) := by
  unfold dnA
  simp [h]
theorem dnA_set {G : List Gd} (hn : (G.map Gd.pl).Nodup) {T : List Pl} {i : Nat} (h : i < G.length) : (dnA G T).setIfInBounds i (.bool true) = dnA G (T ++ [G[i].pl]) := by
  apply Array.ext'
  unfold dnA
  rw [Array.toList_setIfInBounds]
  simp only []
  refine List.ext_getElem (by simp) fun k h1 h2 => ?_
  have hk : k < G.length := by simpa using h2
  rw [List.getElem_set, List.getElem_map]
  by_cases hik : i = k
  · subst hik
    rw [if_pos rfl]
    simp
  · rw [if_neg hik, List.getElem_map]
    have hne : G[k].pl ≠ G[i].pl := fun e => hik ((List.getElem_inj (xs := G.map Gd.pl) (h₀ := by simpa using h) (h₁ := by simpa using hk) hn).1 (by rw [List.getElem_map, List.getElem_map, e]))
    congr 1
    simp [hne]
/-- A row of ints, one of them written. -/
theorem row_put {B n g c i : Nat} {w : World} {l : List Int} (h : w.ownsRow B 3 1 (.slice (some ⟨g, 0, none⟩) n c) l.length (l.flatMap celI)) (hi : i < l.length) (x : Int) : (w.setCell ⟨g, i, none⟩ (.int .i64 x)).ownsRow B 3 1 (.slice (some ⟨g, 0, none⟩) n c) (l.set i x).length ((l.set i x).flatMap celI) := by
  have hn : l.length = n := by
    rcases h.2 with ⟨e, -⟩ | ⟨g', cap, cur, hv, hb, hg, h1, h2, h3, h4⟩
    · cases e
    · injection hv with e1 e2 e3
      exact e2.symm
  rw [List.length_set]
  refine ⟨by rw [celI_map]; simp, ?_⟩
  rcases h.2 with ⟨e, -⟩ | ⟨g', cap, cur, hv, hb, hg, h1, h2, h3, h4⟩
  · cases e
  · right
    injection hv with e1 e2 e3
    injection e1 with e1
    injection e1 with e1 _ _
    subst e1 e3
    refine ⟨_, _, cur.setIfInBounds i (.int .i64 x), by rw [hn], hb, heap_setCell_same w _ i _ _ _ hg, h1, h2, by simpa using h3, ?_⟩
    rw [celI_map] at h4 ⊢
    rw [Array.toList_setIfInBounds, List.map_set, ← h4, List.take_set]
theorem row_cells {B n g c : Nat} {w : World} {l : List Int} (h : w.ownsRow B 3 1 (.slice (some ⟨g, 0, none⟩) n c) l.length (l.flatMap celI)) : (∀ k (hk : k < l.length), w.cell? ⟨g, k, none⟩ = some (.int .i64 l[k])) ∧ (∀ k, w.frozen? ⟨g, k, none⟩ = false) ∧ g < w.heap.size ∧ B ≤ g := by
  rcases h.2 with ⟨e, -⟩ | ⟨g', cap, cur, hv, hb, hg, h1, h2, h3, h4⟩
  · cases e
  · injection hv with e1 e2 e3
    injection e1 with e1
    injection e1 with e1 _ _
    subst e1 e2
    refine ⟨fun k hk => ?_, fun k => by simp [World.frozen?, hg], Rg.lt_of_heap hg, hb⟩
    rw [World.ownsRow.cellAt h k (by omega), celI_map]
    simp [hk]
/-- An exchange: the list under way, with the least so far in the place n. -/
structure Xch (N l : List Int) (n k : Nat) : Prop where
  perm : l.Perm N
  pre : l.take n = (srtI N).take n
  nk : n < k
  kl : k ≤ l.length
  least : ∀ j (hj : j < k) (hl : j < l.length) (hn : n < l.length), n < j → l[n] ≤ l[j]
theorem Xch.start {N l : List Int} {n : Nat} (hp : l.Perm N) (ht : l.take n = (srtI N).take n) (hn : n < l.length) : Xch N l n (n + 1) := ⟨hp, ht, by omega, by omega, fun j hj hl hn h => by omega⟩
theorem Xch.keep {N l : List Int} {n k : Nat} (h : Xch N l n k) (hk : k < l.length) (hle : ¬ l[k] < l[n]'(by have := h.nk; omega)) : Xch N l n (k + 1) := by
  refine ⟨h.perm, h.pre, by have := h.nk; omega, by omega, fun j hj hl hn hnj => ?_⟩
  rcases Nat.lt_or_ge j k with hjk | hjk
  · exact h.least j hjk hl hn hnj
  · obtain rfl : j = k := by omega
    omega
theorem Xch.turn {N l : List Int} {n k : Nat} (h : Xch N l n k) (hk : k < l.length) (hlt : l[k] < l[n]'(by have := h.nk; omega)) : Xch N ((l.set k (l[n]'(by have := h.nk; omega))).set n l[k]) n (k + 1) := by
  have hnk := h.nk
  have hnl : n < l.length := by omega
  refine ⟨(List.set_set_perm hk hnl).trans h.perm, ?_, by omega, by simp; omega, fun j hj hl hn hnj => ?_⟩
  · rw [← h.pre, List.take_set, List.take_set]
    rw [List.set_eq_of_length_le (by simp; omega), List.set_eq_of_length_le (by simp; omega)]
  · have hjl : j < l.length := by simpa using hl
    rw [List.getElem_set_self, List.getElem_set_ne (by omega)]
    by_cases hjk : j = k
    · subst hjk
      rw [List.getElem_set_self]
      omega
    · rw [List.getElem_set_ne (by omega)]
      have := h.least j (by omega) hjl hnl hnj
      omega
theorem Xch.done {N l : List Int} {n : Nat} (h : Xch N l n l.length) : ∃ (hn : n < l.length) (hs : n < (srtI N).length), l[n] = (srtI N)[n] ∧ l.take (n + 1) = (srtI N).take (n + 1) := by
  have hn : n < l.length := h.nk
  have hs : n < (srtI N).length := by rw [(srtI_perm N).length_eq, ← h.perm.length_eq]; exact hn
  have he := sel_int h.perm h.pre hn hs (fun j hj hnj => h.least j hj hj hn hnj)
  refine ⟨hn, hs, he, ?_⟩
  rw [take_snoc l n hn, take_snoc (srtI N) n hs, h.pre, he]
end Go.Proofs.YtnplnfkmcfalhaaGreatDoor
namespace Go.Proofs.YtnplnfkmcfalhaaGreatDoor
set_option linter.unusedVariables false
set_option linter.unusedSimpArgs false
open Go.RowKit Go.Sort Go.Shelf

theorem made_b (n : Nat) : madeCells (Value.bool false).cells (n * 1) = Array.replicate n (Value.bool false) := by
  apply Array.ext
  · simp [madeCells]
  · intro i h1 h2
    simp [madeCells, Value.cells, Nat.mod_one]
theorem make_b (w : World) (n : Nat) (hn : n ≤ 100000) : (Instr.makeSlice 131 (.int .i64 n) (.int .i64 n)).run Tryz.prog w = .ok (.slice (some ⟨w.heap.size, 0, none⟩) n n) (w.alloc (.cells (Array.replicate n (Value.bool false)) 4)) := by
  obtain ⟨i0, hi, hz0, hz1, hz2⟩ := info_parts (show (Tryz.prog.info? 4).map (fun i => (i.zero, i.size, i.bytes)) = some (some (.bool false), 1, 1) by kernel_rfl)
  have h := run_make (P := Tryz.prog) w 131 4 i0 (.bool false) Tryz.underlying131 hi hz0 .i64 .i64 n n (by omega) (by omega) (by rw [hz2]; omega) (by omega)
  rw [hz1, Int.toNat_natCast, made_b] at h
  exact h
theorem linesG_len {G : List Gd} (hG : ∀ x ∈ G, x.ok ∧ x.name.size ≤ 1000) (ks : List Pl) : (linesG G ks).length ≤ 3000 * ks.length := by
  unfold linesG
  refine flat_le (fun k => lineS gradeW (gdOf G k)) ks fun k _ => ?_
  unfold gdOf
  cases hf : G.find? fun x => decide (x.pl = k) with
  | none => exact lineS_size _ _ (by decide) ⟨⟨by decide, by decide⟩, ⟨by decide, by decide⟩, ⟨by decide, by decide⟩, Nat.zero_le _, ⟨by decide, by decide⟩, by decide, by decide⟩ (by decide)
  | some x => exact lineS_size _ _ (by decide) (hG x (List.mem_of_find?_eq_some hf)).1 (hG x (List.mem_of_find?_eq_some hf)).2
theorem linesN_len {ns : List Int} (hN : ∀ x ∈ ns, OkI x) : (linesN ns).length ≤ 3000 * ns.length := flat_le finS ns fun n hn => finS_size (hN n hn)
theorem linesO_len {O : List Gd} (hO : ∀ x ∈ O, x.ok ∧ x.name.size ≤ 1000) : (linesO O).length ≤ 3000 * O.length := flat_le oldS O fun g hg => lineS_size _ _ (by decide) (hO g hg).1 (hO g hg).2

set_option maxRecDepth 100000 in
set_option maxHeartbeats 4000000 in
theorem refEncode_any (p : Nat) (L : List Int) (C : List Cr) (D : List Dy) (G : List Gd) (N : List Int) (O : List Gd) (w : World) (h : RW 0 w p L C D G N O) (hG : G.length ≤ 10000) (hN : N.length ≤ 10000) (hO : O.length ≤ 10000)
    (hok : OkX G N O) (hnd : (G.map Gd.pl).Nodup) :
    Calls Tryz.prog 43 #[.pointer (some ⟨p, 0, none⟩)] w fun e w' => e = .returned (.string ⟨(refL G N O).toArray⟩) ∧ Ext w w' := by
  obtain ⟨vl, vc, vd, vg, vn, vo, -, h1, h2, h3, -, h5, h6, h7, -⟩ := h
  have HNR := Lib.hid (ird_own h6 hok.n (by omega))
  have HGR := Lib.hid (SR.of_row (cs := Gd.cs) gd_len h5 (by omega))
  have HOR := Lib.hid (SR.of_row (cs := Gd.cs) gd_len h7 (by omega))
  obtain ⟨gb, gc, rfl⟩ := HGR.out.form
  obtain ⟨ob, oc, rfl⟩ := HOR.out.form
  obtain ⟨nb, nc, hnv, hnl, -, hnc⟩ := HNR.out
  subst hnv
  have HP : Hid (∀ W, Ext w W → W.heap[p]? = some (.cells #[vl, vc, vd, .slice gb G.length gc, .slice nb N.length nc, .slice ob O.length oc] 80)) := Lib.hid fun W hW => (hW.block _ (Rg.lt_of_heap h1)).trans h1
  have hNok := hok.n
  have HOK := Lib.hid hok; have HND := Lib.hid hnd
  have HSL : Hid ((srtP (G.map Gd.pl)).length = G.length) := Lib.hid (by rw [(srtP_perm _).length_eq, List.length_map])
  have HNL := Lib.hid (linesN_len (ns := srtI N) fun x hx => hok.n x (mem_srtI.1 hx))
  have HNC := Lib.hid hnc
  clear h1 h2 h3 h5 h6 h7 hok hnd hnl hnc
  obtain ⟨S, hS⟩ : ∃ S, S = srtP (G.map Gd.pl) := ⟨_, rfl⟩
  rw [← hS] at HSL
  have HS := Lib.hid hS
  clear hS
  go_enter Tryz.func43, Tryz.ntmps43
  obtain ⟨-, -, -, u3, -, -, ul, -⟩ := rcells (HP.out w (Ext.refl _))
  have hmk := make_b w G.length (by omega)
  go_upto_region 4 with (fail)
  have hx1 : Ext w (w.alloc (.cells (Array.replicate G.length (Value.bool false)) 4)) := Ext.alloc (Ext.refl _) _
  have hd1 := heap_alloc_new w (.cells (Array.replicate G.length (Value.bool false)) 4)
  obtain ⟨bd, hbd⟩ : ∃ bd, bd = w.heap.size := ⟨_, rfl⟩
  generalize w.alloc (.cells (Array.replicate G.length (Value.bool false)) 4) = w1 at *
  rw [← hbd] at hd1 ⊢
  rw [← dnA_nil] at hd1
  have HBD : Hid (w.heap.size ≤ bd) := Lib.hid (by omega)
  have HX1 := Lib.hid hx1; have HD1 := Lib.hid hd1
  clear u3 ul hmk hbd hx1 hd1
  go_loopw [3, 5] (fun s k wr => ∃ n : Nat, k = .int .i64 n ∧ n ≤ G.length ∧ s = .string ⟨(linesG G (S.take n)).toArray⟩ ∧ wr.heap[bd]? = some (.cells (dnA G (S.take n)) 4) ∧ Ext w wr) (fun _ k _ => G.length - (iof k).toNat)
  case atStart => exact ⟨0, rfl, Nat.zero_le _, rfl, HD1.out, HX1.out⟩
  case round =>
    obtain ⟨n, rfl, hn, rfl, hdn, hx⟩ := hrel
    have hln := linesG_len HOK.out.g (S.take n)
    have hlt : (S.take n).length = n := by rw [List.length_take, HSL.out]; omega
    rw [hlt] at hln
    obtain ⟨sv, hsv⟩ : ∃ sv : ByteArray, sv = ⟨(linesG G (S.take n)).toArray⟩ := ⟨_, rfl⟩
    have hsz : sv.size ≤ 3000 * n := by rw [hsv]; exact hln
    rw [← hsv]
    have HSV := Lib.hid hsv; have HSZ := Lib.hid hsz
    clear hsv hsz hln hlt
    obtain ⟨-, -, -, u3, -, -, ul, -⟩ := rcells (HP.out wr hx)
    by_cases hnl : n < G.length
    · have HTS : Hid (S.take (n + 1) = S.take n ++ [S[n]'(by rw [HSL.out]; exact hnl)]) := Lib.hid (take_snoc S n (by rw [HSL.out]; exact hnl))
      obtain ⟨T, hT⟩ : ∃ T, T = S.take n := ⟨_, rfl⟩
      rw [← hT] at HTS hdn
      have HT := Lib.hid hT; have HX := Lib.hid hx; have HDN := Lib.hid hdn
      go_upto_region 8 with (fail)
      obtain ⟨V, hV⟩ : ∃ V, V = wr := ⟨_, rfl⟩
      rw [← hV] at HX HDN ⊢
      clear u3 ul hT hdn hx hV
      go_loopw [6, 7] (fun b k wq => ∃ (q : Nat) (z : Int), k = .int .i64 q ∧ q ≤ G.length ∧ b = .int .i64 z ∧ Hid (Best G T q z) ∧ Ext V wq) (fun _ k _ => G.length - (iof k).toNat)
      case atStart => exact ⟨0, -1, rfl, Nat.zero_le _, rfl, Lib.hid (Best.start G T), Ext.refl _⟩
      case round =>
        rename World => wq
        obtain ⟨q, z, rfl, hq, rfl, HB, hxq⟩ := hrel
        have hxw := HX.out.trans hxq
        have hdq := keep_heap hxq HDN.out
        obtain ⟨-, -, -, u3, -, -, ul, -⟩ := rcells (HP.out wq hxw)
        by_cases hql : q < G.length
        · have cd : wq.cell? ⟨bd, q, none⟩ = some (.bool (decide (G[q].pl ∈ T))) := by rw [cell_of_row wq bd q _ _ _ hdq, dnA_at hql]
          have cdl := Rg.lt_of_heap hdq
          obtain ⟨qb, rfl, hcell⟩ := row_at HGR.out q hql
          have HCL := Lib.hid hcell
          have HQ1 := Lib.hid (fun h => HB.out.done hql h)
          by_cases hd : G[q].pl ∈ T
          · have HB2 := Lib.hid (HQ1.out hd)
            rw [decide_eq_true hd] at cd
            clear hd HQ1 hcell HB
            go_upto_region 10 with (fail)
            refine Rr.wp_region ((List.range 25).map (fun i => (i, .y))) (fun _ => (.cells #[] 29, Rg.ptr)) (by kernel_rfl) (by kernel_rfl) ?_
            simp only [List.range, List.range.loop, List.map_cons, List.map_nil]
            (refine Rr.wr_y (by simp only [List.getElem?_toArray, List.getElem?_cons_succ, List.getElem?_cons_zero]; rfl) (by rfl) ?_
             apply Exists.intro
             refine ⟨fun wz hw _ => ?_, ?_⟩
             · have hcz := hw.cells.1
               go_simp
               (with_reducible exact Rg.up_value)
             simp only [Act.put, List.setIfInBounds_toArray, List.set_cons_zero, List.set_cons_succ])
            (refine Rr.wr_y (by simp only [List.getElem?_toArray, List.getElem?_cons_succ, List.getElem?_cons_zero]; rfl) (by rfl) ?_
             apply Exists.intro
             refine ⟨fun wz hw _ => ?_, ?_⟩
             · have hcz := hw.cells.1
               go_simp
               (with_reducible exact Rg.up_value)
             simp only [Act.put, List.setIfInBounds_toArray, List.set_cons_zero, List.set_cons_succ])
            (refine Rr.wr_y (by simp only [List.getElem?_toArray, List.getElem?_cons_succ, List.getElem?_cons_zero]; rfl) (by rfl) ?_
             apply Exists.intro
             refine ⟨fun wz hw _ => ?_, ?_⟩
             · have hcz := hw.cells.1
               go_simp
               (with_reducible exact Rg.up_value)
             simp only [Act.put, List.setIfInBounds_toArray, List.set_cons_zero, List.set_cons_succ])
            (refine Rr.wr_y (by simp only [List.getElem?_toArray, List.getElem?_cons_succ, List.getElem?_cons_zero]; rfl) (by rfl) ?_
             apply Exists.intro
             refine ⟨fun wz hw _ => ?_, ?_⟩
             · have hcz := hw.cells.1
               go_simp
               (with_reducible exact Rg.up_value)
             simp only [Act.put, List.setIfInBounds_toArray, List.set_cons_zero, List.set_cons_succ])
            (refine Rr.wr_y (by simp only [List.getElem?_toArray, List.getElem?_cons_succ, List.getElem?_cons_zero]; rfl) (by rfl) ?_
             apply Exists.intro
             refine ⟨fun wz hw _ => ?_, ?_⟩
             · have hcz := hw.cells.1
               go_simp
               (with_reducible exact Rg.up_value)
             simp only [Act.put, List.setIfInBounds_toArray, List.set_cons_zero, List.set_cons_succ])
            (refine Rr.wr_y (by simp only [List.getElem?_toArray, List.getElem?_cons_succ, List.getElem?_cons_zero]; rfl) (by rfl) ?_
             apply Exists.intro
             refine ⟨fun wz hw _ => ?_, ?_⟩
             · have hcz := hw.cells.1
               go_simp
               (with_reducible exact Rg.up_value)
             simp only [Act.put, List.setIfInBounds_toArray, List.set_cons_zero, List.set_cons_succ])
            refine Rr.wr_skip (by simp only [List.getElem?_toArray, List.getElem?_cons_succ, List.getElem?_cons_zero]; rfl) (by rfl) ?_
            simp only [Act.put, List.setIfInBounds_toArray, List.set_cons_zero, List.set_cons_succ]
            refine Rr.wr_skip (by simp only [List.getElem?_toArray, List.getElem?_cons_succ, List.getElem?_cons_zero]; rfl) (by rfl) ?_
            simp only [Act.put, List.setIfInBounds_toArray, List.set_cons_zero, List.set_cons_succ]
            refine Rr.wr_skip (by simp only [List.getElem?_toArray, List.getElem?_cons_succ, List.getElem?_cons_zero]; rfl) (by rfl) ?_
            simp only [Act.put, List.setIfInBounds_toArray, List.set_cons_zero, List.set_cons_succ]
            refine Rr.wr_skip (by simp only [List.getElem?_toArray, List.getElem?_cons_succ, List.getElem?_cons_zero]; rfl) (by rfl) ?_
            simp only [Act.put, List.setIfInBounds_toArray, List.set_cons_zero, List.set_cons_succ]
            refine Rr.wr_skip (by simp only [List.getElem?_toArray, List.getElem?_cons_succ, List.getElem?_cons_zero]; rfl) (by rfl) ?_
            simp only [Act.put, List.setIfInBounds_toArray, List.set_cons_zero, List.set_cons_succ]
            refine Rr.wr_skip (by simp only [List.getElem?_toArray, List.getElem?_cons_succ, List.getElem?_cons_zero]; rfl) (by rfl) ?_
            simp only [Act.put, List.setIfInBounds_toArray, List.set_cons_zero, List.set_cons_succ]
            refine Rr.wr_skip (by simp only [List.getElem?_toArray, List.getElem?_cons_succ, List.getElem?_cons_zero]; rfl) (by rfl) ?_
            simp only [Act.put, List.setIfInBounds_toArray, List.set_cons_zero, List.set_cons_succ]
            refine Rr.wr_skip (by simp only [List.getElem?_toArray, List.getElem?_cons_succ, List.getElem?_cons_zero]; rfl) (by rfl) ?_
            simp only [Act.put, List.setIfInBounds_toArray, List.set_cons_zero, List.set_cons_succ]
            refine Rr.wr_skip (by simp only [List.getElem?_toArray, List.getElem?_cons_succ, List.getElem?_cons_zero]; rfl) (by rfl) ?_
            simp only [Act.put, List.setIfInBounds_toArray, List.set_cons_zero, List.set_cons_succ]
            refine Rr.wr_skip (by simp only [List.getElem?_toArray, List.getElem?_cons_succ, List.getElem?_cons_zero]; rfl) (by rfl) ?_
            simp only [Act.put, List.setIfInBounds_toArray, List.set_cons_zero, List.set_cons_succ]
            refine Rr.wr_skip (by simp only [List.getElem?_toArray, List.getElem?_cons_succ, List.getElem?_cons_zero]; rfl) (by rfl) ?_
            simp only [Act.put, List.setIfInBounds_toArray, List.set_cons_zero, List.set_cons_succ]
            refine Rr.wr_skip (by simp only [List.getElem?_toArray, List.getElem?_cons_succ, List.getElem?_cons_zero]; rfl) (by rfl) ?_
            simp only [Act.put, List.setIfInBounds_toArray, List.set_cons_zero, List.set_cons_succ]
            refine Rr.wr_skip (by simp only [List.getElem?_toArray, List.getElem?_cons_succ, List.getElem?_cons_zero]; rfl) (by rfl) ?_
            simp only [Act.put, List.setIfInBounds_toArray, List.set_cons_zero, List.set_cons_succ]
            refine Rr.wr_skip (by simp only [List.getElem?_toArray, List.getElem?_cons_succ, List.getElem?_cons_zero]; rfl) (by rfl) ?_
            simp only [Act.put, List.setIfInBounds_toArray, List.set_cons_zero, List.set_cons_succ]
            refine Rr.wr_skip (by simp only [List.getElem?_toArray, List.getElem?_cons_succ, List.getElem?_cons_zero]; rfl) (by rfl) ?_
            simp only [Act.put, List.setIfInBounds_toArray, List.set_cons_zero, List.set_cons_succ]
            refine Rr.wr_skip (by simp only [List.getElem?_toArray, List.getElem?_cons_succ, List.getElem?_cons_zero]; rfl) (by rfl) ?_
            simp only [Act.put, List.setIfInBounds_toArray, List.set_cons_zero, List.set_cons_succ]
            refine Rr.wr_skip (by simp only [List.getElem?_toArray, List.getElem?_cons_succ, List.getElem?_cons_zero]; rfl) (by rfl) ?_
            simp only [Act.put, List.setIfInBounds_toArray, List.set_cons_zero, List.set_cons_succ]
            refine Rr.wr_skip (by simp only [List.getElem?_toArray, List.getElem?_cons_succ, List.getElem?_cons_zero]; rfl) (by rfl) ?_
            simp only [Act.put, List.setIfInBounds_toArray, List.set_cons_zero, List.set_cons_succ]
            refine Rr.wr_skip (by simp only [List.getElem?_toArray, List.getElem?_cons_succ, List.getElem?_cons_zero]; rfl) (by rfl) ?_
            simp only [Act.put, List.setIfInBounds_toArray, List.set_cons_zero, List.set_cons_succ]
            refine Rr.wr_nil ?_
            intro wy hy hh
            simp only [List.length_cons, List.length_nil, List.drop_succ_cons, List.drop_zero, Nat.reduceAdd]
            clear hh
            have HXY := Lib.hid (hxq.trans hy)
            clear cd cdl u3 ul hxq hxw hdq hy
            go_wp2_with (fail)
            exact ⟨⟨q + 1, z, by simp, by omega, rfl, HB2, HXY.out⟩, by simp [iof]; omega⟩
          · rw [decide_eq_false hd] at cd
            have HD := Lib.hid hd
            clear hd HQ1 hcell
            by_cases hz : z < 0
            · have HB2 : Hid (Best G T (q + 1) q) := Lib.hid (by
                have h := HB.out
                rcases h with ⟨h1, h2⟩ | ⟨i, h1, h2⟩
                · subst h1
                  exact Best.first HB.out hql HD.out
                · omega)
              clear HB
              go_upto_region 10 with (fail)
              refine Rr.wp_region ((List.range 25).map (fun i => (i, .y))) (fun _ => (.cells #[] 29, Rg.ptr)) (by kernel_rfl) (by kernel_rfl) ?_
              simp only [List.range, List.range.loop, List.map_cons, List.map_nil]
              (refine Rr.wr_y (by simp only [List.getElem?_toArray, List.getElem?_cons_succ, List.getElem?_cons_zero]; rfl) (by rfl) ?_
               apply Exists.intro
               refine ⟨fun wz hw _ => ?_, ?_⟩
               · have hcz := hw.cells.1
                 go_simp
                 (with_reducible exact Rg.up_value)
               simp only [Act.put, List.setIfInBounds_toArray, List.set_cons_zero, List.set_cons_succ])
              (refine Rr.wr_y (by simp only [List.getElem?_toArray, List.getElem?_cons_succ, List.getElem?_cons_zero]; rfl) (by rfl) ?_
               apply Exists.intro
               refine ⟨fun wz hw _ => ?_, ?_⟩
               · have hcz := hw.cells.1
                 go_simp
                 (with_reducible exact Rg.up_value)
               simp only [Act.put, List.setIfInBounds_toArray, List.set_cons_zero, List.set_cons_succ])
              (refine Rr.wr_y (by simp only [List.getElem?_toArray, List.getElem?_cons_succ, List.getElem?_cons_zero]; rfl) (by rfl) ?_
               apply Exists.intro
               refine ⟨fun wz hw _ => ?_, ?_⟩
               · have hcz := hw.cells.1
                 go_simp
                 (with_reducible exact Rg.up_value)
               simp only [Act.put, List.setIfInBounds_toArray, List.set_cons_zero, List.set_cons_succ])
              (refine Rr.wr_y (by simp only [List.getElem?_toArray, List.getElem?_cons_succ, List.getElem?_cons_zero]; rfl) (by rfl) ?_
               apply Exists.intro
               refine ⟨fun wz hw _ => ?_, ?_⟩
               · have hcz := hw.cells.1
                 go_simp
                 (with_reducible exact Rg.up_value)
               simp only [Act.put, List.setIfInBounds_toArray, List.set_cons_zero, List.set_cons_succ])
              (refine Rr.wr_y (by simp only [List.getElem?_toArray, List.getElem?_cons_succ, List.getElem?_cons_zero]; rfl) (by rfl) ?_
               apply Exists.intro
               refine ⟨fun wz hw _ => ?_, ?_⟩
               · have hcz := hw.cells.1
                 go_simp
                 (with_reducible exact Rg.up_value)
               simp only [Act.put, List.setIfInBounds_toArray, List.set_cons_zero, List.set_cons_succ])
              (refine Rr.wr_y (by simp only [List.getElem?_toArray, List.getElem?_cons_succ, List.getElem?_cons_zero]; rfl) (by rfl) ?_
               apply Exists.intro
               refine ⟨fun wz hw _ => ?_, ?_⟩
               · have hcz := hw.cells.1
                 go_simp
                 (with_reducible exact Rg.up_value)
               simp only [Act.put, List.setIfInBounds_toArray, List.set_cons_zero, List.set_cons_succ])
              (refine Rr.wr_y (by simp only [List.getElem?_toArray, List.getElem?_cons_succ, List.getElem?_cons_zero]; rfl) (by rfl) ?_
               apply Exists.intro
               refine ⟨fun wz hw _ => ?_, ?_⟩
               · have hcz := hw.cells.1
                 go_simp
                 (with_reducible exact Rg.up_value)
               simp only [Act.put, List.setIfInBounds_toArray, List.set_cons_zero, List.set_cons_succ])
              (refine Rr.wr_y (by simp only [List.getElem?_toArray, List.getElem?_cons_succ, List.getElem?_cons_zero]; rfl) (by rfl) ?_
               apply Exists.intro
               refine ⟨fun wz hw _ => ?_, ?_⟩
               · have hcz := hw.cells.1
                 go_simp
                 (with_reducible exact Rg.up_value)
               simp only [Act.put, List.setIfInBounds_toArray, List.set_cons_zero, List.set_cons_succ])
              (refine Rr.wr_y (by simp only [List.getElem?_toArray, List.getElem?_cons_succ, List.getElem?_cons_zero]; rfl) (by rfl) ?_
               apply Exists.intro
               refine ⟨fun wz hw _ => ?_, ?_⟩
               · have hcz := hw.cells.1
                 go_simp
                 (with_reducible exact Rg.up_value)
               simp only [Act.put, List.setIfInBounds_toArray, List.set_cons_zero, List.set_cons_succ])
              refine Rr.wr_skip (by simp only [List.getElem?_toArray, List.getElem?_cons_succ, List.getElem?_cons_zero]; rfl) (by rfl) ?_
              simp only [Act.put, List.setIfInBounds_toArray, List.set_cons_zero, List.set_cons_succ]
              refine Rr.wr_skip (by simp only [List.getElem?_toArray, List.getElem?_cons_succ, List.getElem?_cons_zero]; rfl) (by rfl) ?_
              simp only [Act.put, List.setIfInBounds_toArray, List.set_cons_zero, List.set_cons_succ]
              refine Rr.wr_skip (by simp only [List.getElem?_toArray, List.getElem?_cons_succ, List.getElem?_cons_zero]; rfl) (by rfl) ?_
              simp only [Act.put, List.setIfInBounds_toArray, List.set_cons_zero, List.set_cons_succ]
              refine Rr.wr_skip (by simp only [List.getElem?_toArray, List.getElem?_cons_succ, List.getElem?_cons_zero]; rfl) (by rfl) ?_
              simp only [Act.put, List.setIfInBounds_toArray, List.set_cons_zero, List.set_cons_succ]
              refine Rr.wr_skip (by simp only [List.getElem?_toArray, List.getElem?_cons_succ, List.getElem?_cons_zero]; rfl) (by rfl) ?_
              simp only [Act.put, List.setIfInBounds_toArray, List.set_cons_zero, List.set_cons_succ]
              refine Rr.wr_skip (by simp only [List.getElem?_toArray, List.getElem?_cons_succ, List.getElem?_cons_zero]; rfl) (by rfl) ?_
              simp only [Act.put, List.setIfInBounds_toArray, List.set_cons_zero, List.set_cons_succ]
              refine Rr.wr_skip (by simp only [List.getElem?_toArray, List.getElem?_cons_succ, List.getElem?_cons_zero]; rfl) (by rfl) ?_
              simp only [Act.put, List.setIfInBounds_toArray, List.set_cons_zero, List.set_cons_succ]
              refine Rr.wr_skip (by simp only [List.getElem?_toArray, List.getElem?_cons_succ, List.getElem?_cons_zero]; rfl) (by rfl) ?_
              simp only [Act.put, List.setIfInBounds_toArray, List.set_cons_zero, List.set_cons_succ]
              refine Rr.wr_skip (by simp only [List.getElem?_toArray, List.getElem?_cons_succ, List.getElem?_cons_zero]; rfl) (by rfl) ?_
              simp only [Act.put, List.setIfInBounds_toArray, List.set_cons_zero, List.set_cons_succ]
              refine Rr.wr_skip (by simp only [List.getElem?_toArray, List.getElem?_cons_succ, List.getElem?_cons_zero]; rfl) (by rfl) ?_
              simp only [Act.put, List.setIfInBounds_toArray, List.set_cons_zero, List.set_cons_succ]
              refine Rr.wr_skip (by simp only [List.getElem?_toArray, List.getElem?_cons_succ, List.getElem?_cons_zero]; rfl) (by rfl) ?_
              simp only [Act.put, List.setIfInBounds_toArray, List.set_cons_zero, List.set_cons_succ]
              refine Rr.wr_skip (by simp only [List.getElem?_toArray, List.getElem?_cons_succ, List.getElem?_cons_zero]; rfl) (by rfl) ?_
              simp only [Act.put, List.setIfInBounds_toArray, List.set_cons_zero, List.set_cons_succ]
              refine Rr.wr_skip (by simp only [List.getElem?_toArray, List.getElem?_cons_succ, List.getElem?_cons_zero]; rfl) (by rfl) ?_
              simp only [Act.put, List.setIfInBounds_toArray, List.set_cons_zero, List.set_cons_succ]
              refine Rr.wr_skip (by simp only [List.getElem?_toArray, List.getElem?_cons_succ, List.getElem?_cons_zero]; rfl) (by rfl) ?_
              simp only [Act.put, List.setIfInBounds_toArray, List.set_cons_zero, List.set_cons_succ]
              refine Rr.wr_skip (by simp only [List.getElem?_toArray, List.getElem?_cons_succ, List.getElem?_cons_zero]; rfl) (by rfl) ?_
              simp only [Act.put, List.setIfInBounds_toArray, List.set_cons_zero, List.set_cons_succ]
              (refine Rr.wr_y (by simp only [List.getElem?_toArray, List.getElem?_cons_succ, List.getElem?_cons_zero]; rfl) (by rfl) ?_
               apply Exists.intro
               refine ⟨fun wz hw _ => ?_, ?_⟩
               · have hcz := hw.cells.1
                 go_simp
                 (with_reducible exact Rg.up_value)
               simp only [Act.put, List.setIfInBounds_toArray, List.set_cons_zero, List.set_cons_succ])
              refine Rr.wr_nil ?_
              intro wy hy hh
              simp only [List.length_cons, List.length_nil, List.drop_succ_cons, List.drop_zero, Nat.reduceAdd]
              clear hh
              have HXY := Lib.hid (hxq.trans hy)
              clear cd cdl u3 ul hxq hxw hdq hy
              go_wp2_with (fail)
              exact ⟨⟨q + 1, q, by simp, by omega, rfl, HB2, HXY.out⟩, by simp [iof]; omega⟩
            · obtain ⟨i, rfl, hiG⟩ : ∃ i : Nat, z = (i : Int) ∧ i < G.length := by
                rcases HB.out with ⟨h1, -⟩ | ⟨i, h1, h2, h3, -⟩
                · omega
                · exact ⟨i, h1, h3⟩
              obtain ⟨qb', hqb', hcell'⟩ := row_at HGR.out i hiG
              have hqq : qb' = qb := by injection hqb' with h; injection h with h; exact h.symm
              subst hqq
              have hck : Hid (∀ (x : Gd) (m : Nat) (hm : m < G.length), x = G[m] → ∀ f (v : Value), x.cs[f]? = some v → wq.cell? ⟨qb', m * 6 + f, none⟩ = some v ∧ qb' < wq.heap.size) := Lib.hid fun x m hm hx f v hv => by
                obtain ⟨qb2, hqb2, hcell2⟩ := row_at HGR.out m hm
                have : qb2 = qb' := by injection hqb2 with h; injection h with h; exact h.symm
                subst this
                subst hx
                have h0 := hcell2 f v hv
                have h1 := (hxw.cells.1 _ _ (World.block_lt_of_cell? w _ h0)).trans h0
                exact ⟨h1, World.block_lt_of_cell? wq _ h1⟩
              have HKEEP := Lib.hid (fun hb => HB.out.keep hql hiG hb)
              have HTURN := Lib.hid (fun hb => HB.out.turn hql hiG HD.out hb)
              obtain ⟨x, hx1⟩ : ∃ x, x = G[q] := ⟨_, rfl⟩
              obtain ⟨y, hy1⟩ : ∃ y, y = G[i] := ⟨_, rfl⟩
              have k0 := hck.out x q hql hx1
              have m0 := hck.out y i hiG hy1
              rw [← hx1, ← hy1] at HKEEP HTURN
              clear hx1 hy1 hck HD HB HCL hcell' hqb'
              have HBF := Lib.hid (fun W => before_any x y W)
              obtain ⟨bb, hbb⟩ : ∃ bb, bb = bef x y := ⟨_, rfl⟩
              rw [← hbb] at HBF HKEEP HTURN
              clear hbb
              obtain ⟨x0, x1, x2, x3, x4, x5⟩ := x
              obtain ⟨y0, y1, y2, y3, y4, y5⟩ := y
              simp only [Gd.v] at HBF
              obtain ⟨d0, dl⟩ := k0 0 _ rfl
              obtain ⟨d1, -⟩ := k0 1 _ rfl
              obtain ⟨d2, -⟩ := k0 2 _ rfl
              obtain ⟨d3, -⟩ := k0 3 _ rfl
              obtain ⟨d4, -⟩ := k0 4 _ rfl
              obtain ⟨d5, -⟩ := k0 5 _ rfl
              obtain ⟨e0, -⟩ := m0 0 _ rfl
              obtain ⟨e1, -⟩ := m0 1 _ rfl
              obtain ⟨e2, -⟩ := m0 2 _ rfl
              obtain ⟨e3, -⟩ := m0 3 _ rfl
              obtain ⟨e4, -⟩ := m0 4 _ rfl
              obtain ⟨e5, -⟩ := m0 5 _ rfl
              clear k0 m0
              simp only [Nat.add_zero] at d0 d1 d2 d3 d4 d5 e0 e1 e2 e3 e4 e5
              go_upto_region 10 with (fail)
              refine Rr.wp_region ((List.range 25).map (fun i => (i, .y))) (fun _ => (.cells #[] 29, Rg.ptr)) (by kernel_rfl) (by kernel_rfl) ?_
              simp only [List.range, List.range.loop, List.map_cons, List.map_nil]
              (refine Rr.wr_y (by simp only [List.getElem?_toArray, List.getElem?_cons_succ, List.getElem?_cons_zero]; rfl) (by rfl) ?_
               apply Exists.intro
               refine ⟨fun wz hw _ => ?_, ?_⟩
               · have hcz := hw.cells.1
                 go_simp
                 (with_reducible exact Rg.up_value)
               simp only [Act.put, List.setIfInBounds_toArray, List.set_cons_zero, List.set_cons_succ])
              (refine Rr.wr_y (by simp only [List.getElem?_toArray, List.getElem?_cons_succ, List.getElem?_cons_zero]; rfl) (by rfl) ?_
               apply Exists.intro
               refine ⟨fun wz hw _ => ?_, ?_⟩
               · have hcz := hw.cells.1
                 go_simp
                 (with_reducible exact Rg.up_value)
               simp only [Act.put, List.setIfInBounds_toArray, List.set_cons_zero, List.set_cons_succ])
              (refine Rr.wr_y (by simp only [List.getElem?_toArray, List.getElem?_cons_succ, List.getElem?_cons_zero]; rfl) (by rfl) ?_
               apply Exists.intro
               refine ⟨fun wz hw _ => ?_, ?_⟩
               · have hcz := hw.cells.1
                 go_simp
                 (with_reducible exact Rg.up_value)
               simp only [Act.put, List.setIfInBounds_toArray, List.set_cons_zero, List.set_cons_succ])
              (refine Rr.wr_y (by simp only [List.getElem?_toArray, List.getElem?_cons_succ, List.getElem?_cons_zero]; rfl) (by rfl) ?_
               apply Exists.intro
               refine ⟨fun wz hw _ => ?_, ?_⟩
               · have hcz := hw.cells.1
                 go_simp
                 (with_reducible exact Rg.up_value)
               simp only [Act.put, List.setIfInBounds_toArray, List.set_cons_zero, List.set_cons_succ])
              (refine Rr.wr_y (by simp only [List.getElem?_toArray, List.getElem?_cons_succ, List.getElem?_cons_zero]; rfl) (by rfl) ?_
               apply Exists.intro
               refine ⟨fun wz hw _ => ?_, ?_⟩
               · have hcz := hw.cells.1
                 go_simp
                 (with_reducible exact Rg.up_value)
               simp only [Act.put, List.setIfInBounds_toArray, List.set_cons_zero, List.set_cons_succ])
              (refine Rr.wr_y (by simp only [List.getElem?_toArray, List.getElem?_cons_succ, List.getElem?_cons_zero]; rfl) (by rfl) ?_
               apply Exists.intro
               refine ⟨fun wz hw _ => ?_, ?_⟩
               · have hcz := hw.cells.1
                 go_simp
                 (with_reducible exact Rg.up_value)
               simp only [Act.put, List.setIfInBounds_toArray, List.set_cons_zero, List.set_cons_succ])
              (refine Rr.wr_y (by simp only [List.getElem?_toArray, List.getElem?_cons_succ, List.getElem?_cons_zero]; rfl) (by rfl) ?_
               apply Exists.intro
               refine ⟨fun wz hw _ => ?_, ?_⟩
               · have hcz := hw.cells.1
                 go_simp
                 (with_reducible exact Rg.up_value)
               simp only [Act.put, List.setIfInBounds_toArray, List.set_cons_zero, List.set_cons_succ])
              (refine Rr.wr_y (by simp only [List.getElem?_toArray, List.getElem?_cons_succ, List.getElem?_cons_zero]; rfl) (by rfl) ?_
               apply Exists.intro
               refine ⟨fun wz hw _ => ?_, ?_⟩
               · have hcz := hw.cells.1
                 go_simp
                 (with_reducible exact Rg.up_value)
               simp only [Act.put, List.setIfInBounds_toArray, List.set_cons_zero, List.set_cons_succ])
              (refine Rr.wr_y (by simp only [List.getElem?_toArray, List.getElem?_cons_succ, List.getElem?_cons_zero]; rfl) (by rfl) ?_
               apply Exists.intro
               refine ⟨fun wz hw _ => ?_, ?_⟩
               · have hcz := hw.cells.1
                 go_simp
                 (with_reducible exact Rg.up_value)
               simp only [Act.put, List.setIfInBounds_toArray, List.set_cons_zero, List.set_cons_succ])
              (refine Rr.wr_y (by simp only [List.getElem?_toArray, List.getElem?_cons_succ, List.getElem?_cons_zero]; rfl) (by rfl) ?_
               apply Exists.intro
               refine ⟨fun wz hw _ => ?_, ?_⟩
               · have hcz := hw.cells.1
                 go_simp
                 (with_reducible exact Rg.up_value)
               simp only [Act.put, List.setIfInBounds_toArray, List.set_cons_zero, List.set_cons_succ])
              (refine Rr.wr_y (by simp only [List.getElem?_toArray, List.getElem?_cons_succ, List.getElem?_cons_zero]; rfl) (by rfl) ?_
               apply Exists.intro
               refine ⟨fun wz hw _ => ?_, ?_⟩
               · have hcz := hw.cells.1
                 go_simp
                 (with_reducible exact Rg.up_value)
               simp only [Act.put, List.setIfInBounds_toArray, List.set_cons_zero, List.set_cons_succ])
              (refine Rr.wr_y (by simp only [List.getElem?_toArray, List.getElem?_cons_succ, List.getElem?_cons_zero]; rfl) (by rfl) ?_
               apply Exists.intro
               refine ⟨fun wz hw _ => ?_, ?_⟩
               · have hcz := hw.cells.1
                 go_simp
                 (with_reducible exact Rg.up_value)
               simp only [Act.put, List.setIfInBounds_toArray, List.set_cons_zero, List.set_cons_succ])
              (refine Rr.wr_y (by simp only [List.getElem?_toArray, List.getElem?_cons_succ, List.getElem?_cons_zero]; rfl) (by rfl) ?_
               apply Exists.intro
               refine ⟨fun wz hw _ => ?_, ?_⟩
               · have hcz := hw.cells.1
                 go_simp
                 (with_reducible exact Rg.up_value)
               simp only [Act.put, List.setIfInBounds_toArray, List.set_cons_zero, List.set_cons_succ])
              (refine Rr.wr_y (by simp only [List.getElem?_toArray, List.getElem?_cons_succ, List.getElem?_cons_zero]; rfl) (by rfl) ?_
               apply Exists.intro
               refine ⟨fun wz hw _ => ?_, ?_⟩
               · have hcz := hw.cells.1
                 go_simp
                 (with_reducible exact Rg.up_value)
               simp only [Act.put, List.setIfInBounds_toArray, List.set_cons_zero, List.set_cons_succ])
              (refine Rr.wr_y (by simp only [List.getElem?_toArray, List.getElem?_cons_succ, List.getElem?_cons_zero]; rfl) (by rfl) ?_
               apply Exists.intro
               refine ⟨fun wz hw _ => ?_, ?_⟩
               · have hcz := hw.cells.1
                 go_simp
                 (with_reducible exact Rg.up_value)
               simp only [Act.put, List.setIfInBounds_toArray, List.set_cons_zero, List.set_cons_succ])
              (refine Rr.wr_y (by simp only [List.getElem?_toArray, List.getElem?_cons_succ, List.getElem?_cons_zero]; rfl) (by rfl) ?_
               apply Exists.intro
               refine ⟨fun wz hw _ => ?_, ?_⟩
               · have hcz := hw.cells.1
                 exact up_load55 (by rfl) ((hcz _ _ dl).trans d0) ((hcz _ _ dl).trans d1) ((hcz _ _ dl).trans d2) ((hcz _ _ dl).trans d3) ((hcz _ _ dl).trans d4) ((hcz _ _ dl).trans d5)
               simp only [Act.put, List.setIfInBounds_toArray, List.set_cons_zero, List.set_cons_succ])
              (refine Rr.wr_y (by simp only [List.getElem?_toArray, List.getElem?_cons_succ, List.getElem?_cons_zero]; rfl) (by rfl) ?_
               apply Exists.intro
               refine ⟨fun wz hw _ => ?_, ?_⟩
               · have hcz := hw.cells.1
                 go_simp
                 (with_reducible exact Rg.up_value)
               simp only [Act.put, List.setIfInBounds_toArray, List.set_cons_zero, List.set_cons_succ])
              (refine Rr.wr_y (by simp only [List.getElem?_toArray, List.getElem?_cons_succ, List.getElem?_cons_zero]; rfl) (by rfl) ?_
               apply Exists.intro
               refine ⟨fun wz hw _ => ?_, ?_⟩
               · have hcz := hw.cells.1
                 go_simp
                 (with_reducible exact Rg.up_value)
               simp only [Act.put, List.setIfInBounds_toArray, List.set_cons_zero, List.set_cons_succ])
              (refine Rr.wr_y (by simp only [List.getElem?_toArray, List.getElem?_cons_succ, List.getElem?_cons_zero]; rfl) (by rfl) ?_
               apply Exists.intro
               refine ⟨fun wz hw _ => ?_, ?_⟩
               · have hcz := hw.cells.1
                 go_simp
                 (with_reducible exact Rg.up_value)
               simp only [Act.put, List.setIfInBounds_toArray, List.set_cons_zero, List.set_cons_succ])
              (refine Rr.wr_y (by simp only [List.getElem?_toArray, List.getElem?_cons_succ, List.getElem?_cons_zero]; rfl) (by rfl) ?_
               apply Exists.intro
               refine ⟨fun wz hw _ => ?_, ?_⟩
               · have hcz := hw.cells.1
                 go_simp
                 (with_reducible exact Rg.up_value)
               simp only [Act.put, List.setIfInBounds_toArray, List.set_cons_zero, List.set_cons_succ])
              (refine Rr.wr_y (by simp only [List.getElem?_toArray, List.getElem?_cons_succ, List.getElem?_cons_zero]; rfl) (by rfl) ?_
               apply Exists.intro
               refine ⟨fun wz hw _ => ?_, ?_⟩
               · have hcz := hw.cells.1
                 go_simp
                 (with_reducible exact Rg.up_value)
               simp only [Act.put, List.setIfInBounds_toArray, List.set_cons_zero, List.set_cons_succ])
              (refine Rr.wr_y (by simp only [List.getElem?_toArray, List.getElem?_cons_succ, List.getElem?_cons_zero]; rfl) (by rfl) ?_
               apply Exists.intro
               refine ⟨fun wz hw _ => ?_, ?_⟩
               · have hcz := hw.cells.1
                 go_simp
                 (with_reducible exact Rg.up_value)
               simp only [Act.put, List.setIfInBounds_toArray, List.set_cons_zero, List.set_cons_succ])
              (refine Rr.wr_y (by simp only [List.getElem?_toArray, List.getElem?_cons_succ, List.getElem?_cons_zero]; rfl) (by rfl) ?_
               apply Exists.intro
               refine ⟨fun wz hw _ => ?_, ?_⟩
               · have hcz := hw.cells.1
                 exact up_load55 (by rfl) ((hcz _ _ dl).trans e0) ((hcz _ _ dl).trans e1) ((hcz _ _ dl).trans e2) ((hcz _ _ dl).trans e3) ((hcz _ _ dl).trans e4) ((hcz _ _ dl).trans e5)
               simp only [Act.put, List.setIfInBounds_toArray, List.set_cons_zero, List.set_cons_succ])
              (refine Rr.wr_y (by simp only [List.getElem?_toArray, List.getElem?_cons_succ, List.getElem?_cons_zero]; rfl) (by rfl) ?_
               apply Exists.intro
               refine ⟨fun wz hw _ => ?_, ?_⟩
               · have hcz := hw.cells.1
                 go_simp
                 apply Rg.up_enter
                 (with_reducible refine (HBF.out wz).mono ?_)
                 rintro e w3 ⟨rfl, hb3⟩
                 exact ⟨rfl, hb3⟩
               simp only [Act.put, List.setIfInBounds_toArray, List.set_cons_zero, List.set_cons_succ])
              (refine Rr.wr_y (by simp only [List.getElem?_toArray, List.getElem?_cons_succ, List.getElem?_cons_zero]; rfl) (by rfl) ?_
               apply Exists.intro
               refine ⟨fun wz hw _ => ?_, ?_⟩
               · have hcz := hw.cells.1
                 go_simp
                 (with_reducible exact Rg.up_value)
               simp only [Act.put, List.setIfInBounds_toArray, List.set_cons_zero, List.set_cons_succ])
              refine Rr.wr_nil ?_
              intro wy hy hh
              simp only [List.length_cons, List.length_nil, List.drop_succ_cons, List.drop_zero, Nat.reduceAdd]
              clear hh
              have HXY := Lib.hid (hxq.trans hy)
              clear cd cdl u3 ul d0 d1 d2 d3 d4 d5 e0 e1 e2 e3 e4 e5 dl hxq hxw hdq hy
              cases bb
              · have HB2 := Lib.hid (HKEEP.out rfl)
                go_wp2_with (fail)
                exact ⟨⟨q + 1, i, by simp, by omega, rfl, HB2, HXY.out⟩, by simp [iof]; omega⟩
              · have HB2 := Lib.hid (HTURN.out rfl)
                go_wp2_with (fail)
                exact ⟨⟨q + 1, q, by simp, by omega, rfl, HB2, HXY.out⟩, by simp [iof]; omega⟩
        · obtain rfl : q = G.length := by omega
          have hsl : n < S.length := by rw [HSL.out]; exact hnl
          have hTS : T = (srtP (G.map Gd.pl)).take n := by rw [HT.out, HS.out]
          obtain ⟨i, rfl, hiG, hpl⟩ : ∃ i : Nat, z = (i : Int) ∧ ∃ h : i < G.length, G[i].pl = S[n] := by
            have hb := HB.out
            rcases hb with ⟨h1, h2⟩ | ⟨i, h1, h2, h3, h4, h5⟩
            · exfalso
              have hmem : S[n] ∈ G.map Gd.pl := (srtP_perm _).mem_iff.1 (HS.out ▸ List.getElem_mem hsl)
              obtain ⟨x, hx, hxe⟩ := List.mem_map.1 hmem
              obtain ⟨j, hj, rfl⟩ := List.getElem_of_mem hx
              have h6 := h2 j hj hj
              rw [hxe, HT.out] at h6
              have hSn : S.Nodup := by rw [HS.out]; exact srtP_nodup HND.out
              obtain ⟨m, hm, hme⟩ := List.mem_take_iff_getElem.1 h6
              have := (List.getElem_inj (xs := S) (h₀ := by omega) (h₁ := hsl) hSn).1 hme
              omega
            · refine ⟨i, h1, h3, ?_⟩
              have h6 := sel_min (n := n) HND.out h3 (by rw [← HS.out]; exact hsl) (by rw [← hTS]; exact h4) (fun j hj hn => h5 j hj hj (by rw [hTS]; exact hn))
              rw [h6]
              simp only [HS.out]
          have cd : wq.cell? ⟨bd, i, none⟩ = some (.bool (decide (G[i].pl ∈ T))) := by rw [cell_of_row wq bd i _ _ _ hdq, dnA_at hiG]
          have cdl := Rg.lt_of_heap hdq
          have cf := frozen_of_row wq bd i _ _ hdq
          have HNX : Hid (T ++ [G[i].pl] = S.take (n + 1)) := Lib.hid (by rw [HTS.out, hpl])
          have HLN : Hid (linesG G (T ++ [G[i].pl]) = linesG G T ++ (lineS gradeW G[i]).data.toList) := Lib.hid (by rw [linesG_snoc, gdOf_self HND.out hiG])
          have HDS : Hid (((dnA G T).setIfInBounds i (.bool true)) = dnA G (T ++ [G[i].pl])) := Lib.hid (dnA_set HND.out hiG)
          have HDQ := Lib.hid hdq
          obtain ⟨dv, hdv⟩ : ∃ dv, dv = decide (G[i].pl ∈ T) := ⟨_, rfl⟩
          rw [← hdv] at cd
          clear hdv hpl hTS hdq HB
          go_upto_region 13 with (fail)
          have hx8 : Ext w (wq.setCell ⟨bd, i, none⟩ (.bool true)) := Below.setCell hxw (by have := HBD.out; show _ ≤ bd; omega) _
          have hd8 : (wq.setCell ⟨bd, i, none⟩ (.bool true)).heap[bd]? = some (.cells (dnA G (S.take (n + 1))) 4) := by
            have h := heap_setCell_same wq bd i _ 4 (.bool true) HDQ.out
            rw [HDS.out, HNX.out] at h
            exact h
          generalize wq.setCell ⟨bd, i, none⟩ (.bool true) = W8 at *
          have HX8 := Lib.hid hx8; have HD8 := Lib.hid hd8
          obtain ⟨qb, rfl, hcell⟩ := row_at (HGR.out.ext hx8) i hiG
          have d0 := hcell 0 _ rfl
          have d1 := hcell 1 _ rfl
          have d2 := hcell 2 _ rfl
          have d3 := hcell 3 _ rfl
          have d4 := hcell 4 _ rfl
          have d5 := hcell 5 _ rfl
          have dl := World.block_lt_of_cell? W8 _ d0
          have hxok := HOK.out.g _ (List.getElem_mem hiG)
          clear cd cdl cf u3 ul hx8 hd8 hcell HDS HDQ hxq hxw
          obtain ⟨x, hx1⟩ : ∃ x, x = G[i] := ⟨_, rfl⟩
          rw [← hx1] at d0 d1 d2 d3 d4 d5 HLN hxok HNX
          clear hx1
          have hls := lineS_size gradeW x (by decide) hxok.1 hxok.2
          have HLI := Lib.hid (fun W => refLine_any gradeW x (by decide) hxok.1 hxok.2 W)
          obtain ⟨ls, hlse⟩ : ∃ ls, ls = lineS gradeW x := ⟨_, rfl⟩
          rw [← hlse] at HLN hls HLI
          have HNX2 : Hid (linesG G (S.take (n + 1)) = linesG G T ++ ls.data.toList) := Lib.hid (by rw [← HNX.out, HLN.out])
          clear hlse HLN HNX hxok
          obtain ⟨x0, x1, x2, x3, x4, x5⟩ := x
          simp only [Gd.v, gradeW, Nat.add_zero] at HLI d0 d1 d2 d3 d4 d5
          obtain ⟨-, -, -, u3, -, -, ul, -⟩ := rcells (HP.out W8 HX8.out)
          have hsum : ¬ 9223372036854775807 < sv.size + ls.size := by have := HSZ.out; omega
          go_wp2_with (go_at_call 59; (with_reducible refine (HLI.out _).mono ?_); rintro e w9 ⟨rfl, hx9⟩)
          refine ⟨⟨n + 1, by simp, by omega, ?_, keep_heap hx9 HD8.out, HX8.out.trans hx9⟩, by simp [iof]; omega⟩
          rw [HNX2.out, HSV.out, HT.out, cat_bytes]
    · obtain rfl : n = G.length := by omega
      rw [List.take_of_length_le (by rw [HSL.out]; omega)] at HSV
      have HX := Lib.hid hx
      have HSE : Hid (sv = ⟨(linesG G S).toArray⟩) := HSV
      go_upto_region 14 with (fail)
      clear hdn hx u3 ul HSV
      obtain ⟨-, -, -, -, u4, -, ul, -⟩ := rcells (HP.out wr HX.out)
      have HOWN0 : Hid ((wr.alloc (.cells #[] 3)).ownsRow wr.heap.size 3 1 (.slice (some ⟨wr.heap.size, 0, none⟩) 0 0) 0 []) := Lib.hid ⟨rfl, .inr ⟨wr.heap.size, 0, #[], rfl, Nat.le_refl _, heap_alloc_new wr _, by simp, by simp, rfl, rfl⟩⟩
      have HXC := Lib.hid (Ext.alloc (Ext.refl wr) (.cells #[] 3))
      have HNS : Hid (N = [] ∨ ∃ b off, nb = some ⟨b, off, none⟩ ∧ ∀ k (h : k < N.length), (wr.alloc (.cells #[] 3)).cell? ⟨b, off + k, none⟩ = some (.int .i64 N[k])) := Lib.hid (HNC.out.imp id fun ⟨b, off, ha, hc⟩ => ⟨b, off, ha, fun k hk => ((HX.out.trans HXC.out).cells.1 _ _ (World.block_lt_of_cell? w _ (hc k hk))).trans (hc k hk)⟩)
      go_upto_region 16 with (at_builtin; go_loud (refine append_any rfl _ _ rfl wr.heap.size (.slice (some ⟨wr.heap.size, 0, none⟩) 0 0) [] (by rfl) HOWN0.out nb nc N (by rfl) HNS.out (by simp only [List.length_nil]; omega) HXC.out.size ?_; intro v1 wA hrA hgA hsA hnA))
      have hxA : Ext wr wA := grown_ext HXC.out HOWN0.out (Nat.le_refl _) hgA
      obtain ⟨g, cap, rfl⟩ : ∃ g cap, v1 = .slice (some ⟨g, 0, none⟩) N.length cap := by
        by_cases h0 : N = []
        · obtain ⟨h1, -⟩ := hnA h0
          exact ⟨wr.heap.size, 0, by rw [h1, h0]; rfl⟩
        · obtain ⟨g, cap, h1⟩ := hsA h0
          exact ⟨g, cap, by rw [h1]; simp⟩
      have hra : wA.ownsRow w.heap.size 3 1 (.slice (some ⟨g, 0, none⟩) N.length cap) N.length (N.flatMap celI) := row_base (by simpa using hrA) HX.out.size
      have HRA := Lib.hid hra; have HXA := Lib.hid (HX.out.trans hxA)
      have HNN := Lib.hid hNok
      clear hrA hgA hsA hnA hxA hra u4 ul HOWN0 HXC HNS HX hNok
      have HSS := Lib.hid (srtI_perm N)
      go_loopw [3, 9] (fun s k wr => ∃ (n : Nat) (l : List Int), k = .int .i64 n ∧ n ≤ N.length ∧ l.Perm N ∧ l.take n = (srtI N).take n ∧ s = .string (sv ++ ⟨(linesN ((srtI N).take n)).toArray⟩) ∧ wr.ownsRow w.heap.size 3 1 (.slice (some ⟨g, 0, none⟩) N.length cap) l.length (l.flatMap celI) ∧ Ext w wr) (fun _ k _ => N.length - (iof k).toNat)
      case atStart => exact ⟨0, N, rfl, Nat.zero_le _, .refl _, rfl, by rw [show linesN ((srtI N).take 0) = [] from rfl]; exact congrArg Value.string (ByteArray.append_empty).symm, HRA.out, HXA.out⟩
      case round =>
        rename World => wq
        obtain ⟨n, l, rfl, hn, hp, ht, rfl, hrow, hx⟩ := hrel
        have hln := linesN_len (ns := (srtI N).take n) (fun x hx => HNN.out x (mem_srtI.1 (List.mem_of_mem_take hx)))
        rw [List.length_take, HSS.out.length_eq] at hln
        obtain ⟨s1, hs1⟩ : ∃ s1 : ByteArray, s1 = sv ++ ⟨(linesN ((srtI N).take n)).toArray⟩ := ⟨_, rfl⟩
        have hs1z : s1.size ≤ 60000000 := by
          rw [hs1, ByteArray.size_append]
          have h1 := HSZ.out
          have h2 : (⟨(linesN ((srtI N).take n)).toArray⟩ : ByteArray).size = (linesN ((srtI N).take n)).length := rfl
          omega
        rw [← hs1]
        have HS1 := Lib.hid hs1; have HS1Z := Lib.hid hs1z
        clear hs1 hs1z hln
        by_cases hnl : n < N.length
        · have hll := hp.length_eq
          have HXS := Lib.hid (Xch.start hp ht (by omega))
          have HROW := Lib.hid hrow; have HX := Lib.hid hx
          clear hp ht hrow hx hll
          go_upto_region 19 with (fail)
          go_loopw [10] (fun k wr => ∃ (q : Nat) (l' : List Int), k = .int .i64 q ∧ Hid (Xch N l' n q) ∧ wr.ownsRow w.heap.size 3 1 (.slice (some ⟨g, 0, none⟩) N.length cap) l'.length (l'.flatMap celI) ∧ Ext w wr) (fun k _ => N.length - (iof k).toNat)
          case atStart => exact ⟨n + 1, l, by simp, HXS, HROW.out, HX.out⟩
          case round =>
            rename World => wz
            obtain ⟨q, l', rfl, HXC, hrow, hx⟩ := hrel
            have hll := HXC.out.perm.length_eq
            have hnq := HXC.out.nk
            have hql' := HXC.out.kl
            by_cases hql : q < N.length
            · obtain ⟨hc, hf, hgl, hgB⟩ := row_cells hrow
              have cq := hc q (by omega)
              have cn := hc n (by omega)
              have HK := Lib.hid (HXC.out.keep (by omega))
              have HT := Lib.hid (HXC.out.turn (by omega))
              have HPUT : Hid (∀ W : World, W.ownsRow w.heap.size 3 1 (.slice (some ⟨g, 0, none⟩) N.length cap) l'.length (l'.flatMap celI) → ((W.setCell ⟨g, q, none⟩ (.int .i64 (l'[n]'(by omega)))).setCell ⟨g, n, none⟩ (.int .i64 (l'[q]'(by omega)))).ownsRow w.heap.size 3 1 (.slice (some ⟨g, 0, none⟩) N.length cap) ((l'.set q (l'[n]'(by omega))).set n (l'[q]'(by omega))).length (((l'.set q (l'[n]'(by omega))).set n (l'[q]'(by omega))).flatMap celI)) :=
                Lib.hid fun W hW => row_put (row_put hW (by omega) _) (by rw [List.length_set]; omega) _
              have HROW := Lib.hid hrow; have HX := Lib.hid hx
              obtain ⟨a, ha⟩ : ∃ a, a = l'[q]'(by omega) := ⟨_, rfl⟩
              obtain ⟨b, hb⟩ : ∃ b, b = l'[n]'(by omega) := ⟨_, rfl⟩
              rw [← ha] at cq HK HT HPUT
              rw [← hb] at cn HK HT HPUT
              clear ha hb hc hf hrow HXC hql'
              go_upto_region 21 with (fail)
              refine Rr.wp_region ((List.range 8).map (fun i => (i, .y))) (fun _ => (.cells #[] 29, Rg.ptr)) (by kernel_rfl) (by kernel_rfl) ?_
              simp only [List.range, List.range.loop, List.map_cons, List.map_nil]
              (refine Rr.wr_y (by simp only [List.getElem?_toArray, List.getElem?_cons_succ, List.getElem?_cons_zero]; rfl) (by rfl) ?_
               apply Exists.intro
               refine ⟨fun wz hw _ => ?_, ?_⟩
               · have hcz := hw.cells.1
                 go_simp
                 (with_reducible exact Rg.up_value)
               simp only [Act.put, List.setIfInBounds_toArray, List.set_cons_zero, List.set_cons_succ])
              (refine Rr.wr_y (by simp only [List.getElem?_toArray, List.getElem?_cons_succ, List.getElem?_cons_zero]; rfl) (by rfl) ?_
               apply Exists.intro
               refine ⟨fun wz hw _ => ?_, ?_⟩
               · have hcz := hw.cells.1
                 go_simp
                 (with_reducible exact Rg.up_value)
               simp only [Act.put, List.setIfInBounds_toArray, List.set_cons_zero, List.set_cons_succ])
              (refine Rr.wr_y (by simp only [List.getElem?_toArray, List.getElem?_cons_succ, List.getElem?_cons_zero]; rfl) (by rfl) ?_
               apply Exists.intro
               refine ⟨fun wz hw _ => ?_, ?_⟩
               · have hcz := hw.cells.1
                 go_simp
                 (with_reducible exact Rg.up_value)
               simp only [Act.put, List.setIfInBounds_toArray, List.set_cons_zero, List.set_cons_succ])
              (refine Rr.wr_y (by simp only [List.getElem?_toArray, List.getElem?_cons_succ, List.getElem?_cons_zero]; rfl) (by rfl) ?_
               apply Exists.intro
               refine ⟨fun wz hw _ => ?_, ?_⟩
               · have hcz := hw.cells.1
                 go_simp
                 (with_reducible exact Rg.up_value)
               simp only [Act.put, List.setIfInBounds_toArray, List.set_cons_zero, List.set_cons_succ])
              (refine Rr.wr_y (by simp only [List.getElem?_toArray, List.getElem?_cons_succ, List.getElem?_cons_zero]; rfl) (by rfl) ?_
               apply Exists.intro
               refine ⟨fun wz hw _ => ?_, ?_⟩
               · have hcz := hw.cells.1
                 go_simp
                 (with_reducible exact Rg.up_value)
               simp only [Act.put, List.setIfInBounds_toArray, List.set_cons_zero, List.set_cons_succ])
              (refine Rr.wr_y (by simp only [List.getElem?_toArray, List.getElem?_cons_succ, List.getElem?_cons_zero]; rfl) (by rfl) ?_
               apply Exists.intro
               refine ⟨fun wz hw _ => ?_, ?_⟩
               · have hcz := hw.cells.1
                 go_simp
                 (with_reducible exact Rg.up_value)
               simp only [Act.put, List.setIfInBounds_toArray, List.set_cons_zero, List.set_cons_succ])
              (refine Rr.wr_y (by simp only [List.getElem?_toArray, List.getElem?_cons_succ, List.getElem?_cons_zero]; rfl) (by rfl) ?_
               apply Exists.intro
               refine ⟨fun wz hw _ => ?_, ?_⟩
               · have hcz := hw.cells.1
                 go_simp
                 (with_reducible exact Rg.up_value)
               simp only [Act.put, List.setIfInBounds_toArray, List.set_cons_zero, List.set_cons_succ])
              (refine Rr.wr_y (by simp only [List.getElem?_toArray, List.getElem?_cons_succ, List.getElem?_cons_zero]; rfl) (by rfl) ?_
               apply Exists.intro
               refine ⟨fun wz hw _ => ?_, ?_⟩
               · have hcz := hw.cells.1
                 go_simp
                 (with_reducible exact Rg.up_value)
               simp only [Act.put, List.setIfInBounds_toArray, List.set_cons_zero, List.set_cons_succ])
              refine Rr.wr_nil ?_
              intro wy hy hh
              simp only [List.length_cons, List.length_nil, List.drop_succ_cons, List.drop_zero, Nat.reduceAdd]
              clear hh
              have HROW2 := Lib.hid (row_ext HROW.out hy); have HX2 := Lib.hid (HX.out.trans hy)
              have cq2 := (hy.cells.1 _ _ hgl).trans cq
              have cn2 := (hy.cells.1 _ _ hgl).trans cn
              have hgl2 := Nat.lt_of_lt_of_le hgl hy.size
              have f2 := (row_cells HROW2.out).2.1
              have fq := f2 q; have fn := f2 n
              clear cq cn hgl hy hx f2 HROW HX
              by_cases hab : a < b
              · have HX3 := Lib.hid (HT.out hab)
                have hne : q ≠ n := by omega
                have hne2 : n ≠ q := by omega
                go_wp2_with (fail)
                exact ⟨⟨q + 1, _, by simp, HX3, HPUT.out _ HROW2.out, Below.setCell (Below.setCell HX2.out hgB _) hgB _⟩, by simp [iof]; omega⟩
              · have HX3 := Lib.hid (HK.out hab)
                go_wp2_with (fail)
                exact ⟨⟨q + 1, l', by simp, HX3, HROW2.out, HX2.out⟩, by simp [iof]; omega⟩
            · obtain rfl : q = l'.length := by omega
              obtain ⟨hn1, hs1, he, htk⟩ := HXC.out.done
              have HPM := Lib.hid HXC.out.perm
              obtain ⟨hc, hf, hgl, hgB⟩ := row_cells hrow
              have cn := hc n hn1
              have HLN : Hid (linesN ((srtI N).take (n + 1)) = linesN ((srtI N).take n) ++ (finS l'[n]).data.toList) := Lib.hid (by rw [take_snoc _ _ hs1, linesN_snoc, he])
              have hok := HNN.out l'[n] (HXC.out.perm.mem_iff.1 (List.getElem_mem _))
              have HTK := Lib.hid htk
              have HROW := Lib.hid hrow; have HX := Lib.hid hx
              obtain ⟨y, hy⟩ : ∃ y, y = l'[n] := ⟨_, rfl⟩
              rw [← hy] at cn HLN hok
              have HDEC := Lib.hid (fun W => decimal_any hok W)
              have hyz := itoaS_size hok
              have HFS : Hid (finS y = ((⟨#[102, 105, 110, 97, 108, 32]⟩ : ByteArray) ++ itoaS y) ++ ⟨#[10]⟩) := Lib.hid rfl
              have h1z := HS1Z.out
              clear hc hf hrow he htk hok hy HXC hs1 hn1
              generalize itoaS y = sy at *
              have z1 : (s1 ++ (⟨#[102, 105, 110, 97, 108, 32]⟩ : ByteArray)).size = s1.size + 6 := by rw [ByteArray.size_append]; rfl
              have q1 : ¬ 9223372036854775807 < s1.size + (⟨#[102, 105, 110, 97, 108, 32]⟩ : ByteArray).size := by rw [show (⟨#[102, 105, 110, 97, 108, 32]⟩ : ByteArray).size = 6 from rfl]; omega
              have q2 : ¬ 9223372036854775807 < (s1 ++ (⟨#[102, 105, 110, 97, 108, 32]⟩ : ByteArray)).size + sy.size := by omega
              have q3 : ¬ 9223372036854775807 < ((s1 ++ (⟨#[102, 105, 110, 97, 108, 32]⟩ : ByteArray)) ++ sy).size + (⟨#[10]⟩ : ByteArray).size := by rw [ByteArray.size_append, show (⟨#[10]⟩ : ByteArray).size = 1 from rfl]; omega
              clear z1 hyz h1z
              go_wp2_with (go_at_call 60; (with_reducible refine (HDEC.out _).mono ?_); rintro e w9 ⟨rfl, hx9⟩)
              refine ⟨⟨n + 1, l', by simp, by omega, HPM.out, HTK.out, ?_, row_ext HROW.out hx9, HX.out.trans hx9⟩, by simp [iof]; omega⟩
              rw [HLN.out, HS1.out, HFS.out]
              congr 1
              apply Go.WideShapes.bytes_inj
              simp
        · obtain rfl : n = N.length := by omega
          have HX := Lib.hid hx
          have HS2 : Hid (s1 = ⟨(linesG G S ++ linesN (srtI N)).toArray⟩) := Lib.hid (by
            have h := HS1.out
            rw [List.take_of_length_le (by rw [HSS.out.length_eq]; omega), HSE.out, cat_bytes] at h
            exact h)
          clear hp ht hrow hx HS1
          go_upto_region 27 with (fail)
          go_loopw [3, 12] (fun s k wr => ∃ n : Nat, k = .int .i64 n ∧ n ≤ O.length ∧ s = .string (s1 ++ ⟨(linesO (O.take n)).toArray⟩) ∧ Ext w wr) (fun _ k _ => O.length - (iof k).toNat)
          case atStart => exact ⟨0, rfl, Nat.zero_le _, congrArg Value.string (ByteArray.append_empty).symm, HX.out⟩
          case round =>
            rename World => wz
            obtain ⟨n, rfl, hn, rfl, hx⟩ := hrel
            obtain ⟨-, -, -, -, -, u5, ul, -⟩ := rcells (HP.out wz hx)
            by_cases hnl : n < O.length
            · have hln := linesO_len (O := O.take n) (fun x hx => HOK.out.o x (List.mem_of_mem_take hx))
              rw [List.length_take] at hln
              have HLN : Hid (linesO (O.take (n + 1)) = linesO (O.take n) ++ (oldS O[n]).data.toList) := Lib.hid (by rw [take_snoc O n hnl, linesO_snoc])
              have hxok := HOK.out.o _ (List.getElem_mem hnl)
              obtain ⟨qb, rfl, hcell⟩ := row_at (HOR.out.ext hx) n hnl
              have d0 := hcell 0 _ rfl
              have d1 := hcell 1 _ rfl
              have d2 := hcell 2 _ rfl
              have d3 := hcell 3 _ rfl
              have d4 := hcell 4 _ rfl
              have d5 := hcell 5 _ rfl
              have dl := World.block_lt_of_cell? wz _ d0
              obtain ⟨x, hx1⟩ : ∃ x, x = O[n] := ⟨_, rfl⟩
              rw [← hx1] at d0 d1 d2 d3 d4 d5 HLN hxok
              have hls := lineS_size changedW x (by decide) hxok.1 hxok.2
              have HLI := Lib.hid (fun W => refLine_any changedW x (by decide) hxok.1 hxok.2 W)
              obtain ⟨ls, hlse⟩ : ∃ ls, ls = lineS changedW x := ⟨_, rfl⟩
              have HLN2 : Hid (linesO (O.take (n + 1)) = linesO (O.take n) ++ ls.data.toList) := Lib.hid (by rw [HLN.out, hlse]; rfl)
              rw [← hlse] at hls HLI
              have HX3 := Lib.hid hx
              clear hlse HLN hxok hx1 hcell hx
              obtain ⟨x0, x1, x2, x3, x4, x5⟩ := x
              simp only [Gd.v, changedW, Nat.add_zero] at HLI d0 d1 d2 d3 d4 d5
              have h1z := HS1Z.out
              obtain ⟨s2, hs2⟩ : ∃ s2 : ByteArray, s2 = s1 ++ ⟨(linesO (O.take n)).toArray⟩ := ⟨_, rfl⟩
              have hs2z : s2.size ≤ 90000000 := by
                rw [hs2, ByteArray.size_append]
                have h2 : (⟨(linesO (O.take n)).toArray⟩ : ByteArray).size = (linesO (O.take n)).length := rfl
                omega
              rw [← hs2]
              have HS3 := Lib.hid hs2
              have hsum : ¬ 9223372036854775807 < s2.size + ls.size := by omega
              clear hs2 hs2z h1z hls hln
              go_wp2_with (go_at_call 59; (with_reducible refine (HLI.out _).mono ?_); rintro e w9 ⟨rfl, hx9⟩)
              refine ⟨⟨n + 1, by simp, by omega, ?_, HX3.out.trans hx9⟩, by simp [iof]; omega⟩
              rw [HLN2.out, HS3.out]
              congr 1
              apply Go.WideShapes.bytes_inj
              simp
            · obtain rfl : n = O.length := by omega
              rw [List.take_length]
              have HX3 := Lib.hid hx
              have HEND : Hid (s1 ++ ⟨(linesO O).toArray⟩ = (⟨(refL G N O).toArray⟩ : ByteArray)) := Lib.hid (by
                rw [HS2.out, cat_bytes]
                unfold refL
                rw [← HS.out])
              obtain ⟨s2, hs2⟩ : ∃ s2 : ByteArray, s2 = s1 ++ ⟨(linesO O).toArray⟩ := ⟨_, rfl⟩
              rw [← hs2] at HEND ⊢
              clear hs2 hx
              go_wp2_with (fail)
              go_ret
              exact ⟨by rw [← HEND.out]; rfl, HX3.out⟩
end Go.Proofs.YtnplnfkmcfalhaaGreatDoor
namespace Go.Proofs.YtnplnfkmcfalhaaGreatDoor
set_option linter.unusedVariables false
set_option linter.unusedSimpArgs false
open Go.RowKit Go.Sort Go.Shelf

theorem value_f {p : Nat} {b : Bk} {F : List Nat} {L : List Int} {C : List Cr} {D : List Dy} {G : List Gd} {N : List Int} {O : List Gd} (hs : SimX b L C D G N O) {bid lot : Int} {name : ByteArray} (hbid : OkI bid) (hlot : OkI lot) (hname : OkS name) {w : World} (h : BR w p b F) :
    Calls Tryz.prog 9 #[.pointer (some ⟨p, 0, none⟩), .int .i64 bid, .int .i64 lot, .string name] w fun e w' => e = .returned (.tuple #[.int .i64 (refV L C G N bid lot name).1, .bool (refV L C G N bid lot name).2]) ∧ Ext w w' :=
  (Value_any p b F bid lot name hbid hlot hname w h (fun hf => by
    rw [hs.fin, decide_eq_true_eq] at hf
    obtain ⟨d, hd, rfl⟩ := hs.has _ hf
    exact ⟨d.ass, by rw [hs.dut, decide_eq_true_eq]; cases d; exact hd⟩)).mono fun e w' ⟨n, ok, he, hv, _, hx⟩ => by
    rw [refV_same hs hv]
    exact ⟨he, hx⟩
theorem isFinal_f {p : Nat} {b : Bk} {F : List Nat} {L : List Int} {C : List Cr} {D : List Dy} {G : List Gd} {N : List Int} {O : List Gd} (hs : SimX b L C D G N O) {bid : Int} (hbid : OkI bid) {w : World} (h : BR w p b F) :
    Calls Tryz.prog 12 #[.pointer (some ⟨p, 0, none⟩), .int .i64 bid] w fun e w' => e = .returned (.bool (decide (bid ∈ N))) ∧ Ext w w' :=
  (IsFinal_any p b F bid hbid w h).mono fun e w' ⟨he, hw⟩ => by
    rw [hs.fin] at he
    subst hw
    exact ⟨he, Ext.refl _⟩
/-- What same leaves as it goes. -/
structure SM (B : Nat) (w : World) (pb : Nat) (b : Bk) (F1 : List Nat) (pr : Nat) (vl vc vd vg vn vo : Value) (L : List Int) (C : List Cr) (D : List Dy) (G : List Gd) (N : List Int) (O : List Gd) (wr : World) : Prop where
  bk : BR wr pb b F1
  rr : RR wr pr vl vc vd vg vn vo L C D G N O
  be : Below B w wr
theorem SM.ext {B : Nat} {w wr w' : World} {pb : Nat} {b : Bk} {F1 : List Nat} {pr : Nat} {vl vc vd vg vn vo : Value} {L : List Int} {C : List Cr} {D : List Dy} {G : List Gd} {N : List Int} {O : List Gd} (h : SM B w pb b F1 pr vl vc vd vg vn vo L C D G N O wr) (e : Ext wr w') (hB : B ≤ w.heap.size) : SM B w pb b F1 pr vl vc vd vg vn vo L C D G N O w' :=
  ⟨h.bk.ext e, h.rr.ext e, Below.trans h.be (e.mono (Nat.le_trans hB h.be.size))⟩

set_option maxRecDepth 100000 in
set_option maxHeartbeats 4000000 in
theorem same_any (B pb pr : Nat) (b : Bk) (F1 F2 : List Nat) (vl vc vd : Value) (L : List Int) (C : List Cr) (D : List Dy) (G : List Gd) (N : List Int) (O : List Gd) (w : World) (h1 : BR w pb b F1) (h2 : RWF F2 w pr vl vc vd L C D G N O)
    (hF : ∀ k ∈ F2, B ≤ k ∧ k ∉ F1) (hB : B ≤ w.heap.size) (ht : TabW w) (hs : SimX b L C D G N O) (hok : OkX G N O) (hLo : ∀ x ∈ L, OkI x) (hDo : ∀ d ∈ D, OkI d.bid)
    (hL : L.length ≤ 1000) (hC : C.length ≤ 1000) (hD : D.length ≤ 1000) (hG : G.length ≤ 10000) (hN : N.length ≤ 10000) (hO : O.length ≤ 10000) :
    Calls Tryz.prog 22 #[.pointer (some ⟨pb, 0, none⟩), .pointer (some ⟨pr, 0, none⟩)] w fun e w' => e = .returned (.bool true) ∧ Below B w w' := by
  obtain ⟨vg, vn, vo, hr, hF2⟩ := h2
  have HFL : Hid (∀ k, vl.ownBlock = some k → B ≤ k ∧ k ∉ F1) := Lib.hid fun k hk => hF k (by rw [hF2, mem_rblks]; exact .inr (.inl hk))
  have HFD : Hid (∀ k, vd.ownBlock = some k → B ≤ k ∧ k ∉ F1) := Lib.hid fun k hk => hF k (by rw [hF2, mem_rblks]; exact .inr (.inr (.inr (.inl hk))))
  have HEN := Lib.hid (encode_any pb b F1 w h1 ht (G.map Gd.pl) (fun k hk => by
    rw [hs.gr, List.find?_isSome] at hk
    obtain ⟨x, hx, he⟩ := hk
    exact List.mem_map.2 ⟨x, hx, by simpa using he⟩) (by simp; omega) N (fun n hn => by rw [hs.fin, decide_eq_true_eq] at hn; exact hn) (by omega) (by rw [hs.old]; omega)
    (fun k g hg => by rw [hs.gr] at hg; exact (hok.g g (List.mem_of_find?_eq_some hg)).2) (fun g hg => by rw [hs.old] at hg; exact (hok.o g hg).2))
  have HSM : Hid (SM B w pb b F1 pr vl vc vd vg vn vo L C D G N O w) := Lib.hid ⟨h1, hr, Below.refl _ _⟩
  have HS := Lib.hid hs; have HOK := Lib.hid hok; have HLO := Lib.hid hLo; have HDO := Lib.hid hDo
  clear hF hF2 hr h1 ht hs hok hLo hDo
  go_enter Tryz.func22, Tryz.ntmps22
  go_upto_region 1 with (fail)
  go_upto_region 3 with (first | (go_at_call 14; (with_reducible refine HEN.out.mono ?_); rintro e w1 ⟨s1, rfl, hs1, hx1⟩; have hse := refL_same HS.out hs1; subst hse; have HX1 := Lib.hid hx1) | (go_at_call 43; (with_reducible refine (refEncode_any pr L C D G N O w1 (HSM.out.ext HX1.out hB).rr.rw hG hN hO HOK.out HS.out.nod).mono ?_); rintro e w2 ⟨rfl, hx2⟩))
  have HS2 := Lib.hid ((HSM.out.ext HX1.out hB).ext hx2 hB)
  clear hx2 hs1 HEN HSM HX1
  obtain ⟨-, -, u2, -, -, -, ul, -⟩ := rcells HS2.out.rr.at0
  have HXB := Lib.hid (Ext.alloc (Ext.refl w2) (.cells #[.int .i64 0, .int .i64 77] 57))
  go_upto_region 4 with (at_builtin; go_loud (refine append_keep (cs := Dy.cs) (z := .agg #[.int .i64 0, .int .i64 0]) 58 57 16 Tryz.underlying58 (by kernel_rfl) (by rfl) (by decide) (by decide) rfl _ _ rfl 0 vd D (by rfl) (row_ext HS2.out.rr.rd HXB.out) w2.heap.size ⟨0, 77⟩ ⟨rfl, by simp [Dy.cs, Value.oneCell']⟩ (by rfl) (World.alloc_heap_new _ _) (by omega) (Nat.zero_le _) ?_; intro gr capr w3 hr3 hk3 hg3))
  have hsm3 : SM B w pb b F1 pr vl vc vd vg vn vo L C D G N O w3 := by
    have h := HS2.out.ext HXB.out hB
    refine ⟨h.bk.stay (fun k hk => hg3.block k (h.bk.lt k hk) (fun e => (HFD.out k e.symm).2 hk)), h.rr.grow_d hg3 hk3, Below.trans h.be ⟨hg3.os, hg3.tape, hg3.output, hg3.size, fun k hk => hg3.block k (by have := h.be.size; omega) (fun e => by have := (HFD.out k e.symm).1; omega)⟩⟩
  have HS3 := Lib.hid hsm3; have HR3 := Lib.hid hr3
  clear hr3 hk3 hg3 hsm3 HXB HS2 u2 ul HFD
  have HDL : Hid ((D ++ [(⟨0, 77⟩ : Dy)]).length = D.length + 1) := Lib.hid (by simp)
  have HDO2 : Hid (∀ d ∈ D ++ [(⟨0, 77⟩ : Dy)], OkI d.bid) := Lib.hid fun d hd => by
    rcases List.mem_append.1 hd with hd | hd
    · exact HDO.out d hd
    · rw [List.mem_singleton] at hd; subst hd; exact ⟨by decide, by decide⟩
  go_loopw [29] (fun k wr => ∃ i : Nat, k = .int .i64 i ∧ i ≤ D.length + 1 ∧ SM B w pb b F1 pr vl vc vd vg vn vo L C D G N O wr ∧ wr.ownsRow 0 57 2 (.slice (some ⟨gr, 0, none⟩) (D.length + 1) capr) (D ++ [(⟨0, 77⟩ : Dy)]).length ((D ++ [(⟨0, 77⟩ : Dy)]).flatMap Dy.cs)) (fun k _ => D.length + 1 - (iof k).toNat)
  case atStart => exact ⟨0, rfl, by omega, HS3.out, HR3.out⟩
  case round =>
    obtain ⟨i, rfl, hi, hsm, hrow⟩ := hrel
    have HSM := Lib.hid hsm; have HROW := Lib.hid hrow
    clear hsm hrow
    by_cases hil : i < D.length + 1
    · have hsr := SR.of_row (cs := Dy.cs) (fun _ => rfl) (v := .slice (some ⟨gr, 0, none⟩) (D.length + 1) capr) HROW.out (by rw [HDL.out]; omega)
      rw [← HDL.out] at hsr
      obtain ⟨qb, hqb, hcell⟩ := row_at hsr i (by rw [HDL.out]; exact hil)
      injection hqb with hqb
      injection hqb with hqb _ _
      subst hqb
      have d0 := hcell 0 _ rfl
      have d1 := hcell 1 _ rfl
      have HB2 := Lib.hid (HDO2.out _ (List.getElem_mem (by rw [HDL.out]; exact hil)))
      clear hcell hsr
      generalize (D ++ [(⟨0, 77⟩ : Dy)])[i]'(by rw [HDL.out]; exact hil) = d at *
      obtain ⟨da, db⟩ := d
      simp only [Nat.add_zero] at d0 d1 HB2
      have dl := World.block_lt_of_cell? wr _ d0
      go_upto_region 6 with (fail)
      have hx5 : Ext wr (wr.alloc (.cells #[.int .i64 da, .int .i64 db] 57)) := Ext.alloc (Ext.refl _) _
      have hpd := heap_alloc_new wr (.cells #[.int .i64 da, .int .i64 db] 57)
      have HS5 := Lib.hid (HSM.out.ext hx5 hB); have HR5 := Lib.hid (row_ext HROW.out hx5)
      obtain ⟨pd, hpde⟩ : ∃ pd, pd = wr.heap.size := ⟨_, rfl⟩
      rw [← hpde] at hpd ⊢
      clear d0 d1 dl hx5 hpde HSM HROW
      generalize wr.alloc (.cells #[.int .i64 da, .int .i64 db] 57) = w5 at *
      have HPD := Lib.hid hpd
      have z1 := cell_of_row w5 pd 1 _ _ _ hpd
      have zl := Rg.lt_of_heap hpd
      clear hpd
      have HNR := Lib.hid (HS5.out.rr.rw)
      refine Rr.wp_region ((List.range 8).map (fun i => (i, .y))) (fun _ => (.cells #[] 29, Rg.ptr)) (by kernel_rfl) (by kernel_rfl) ?_
      simp only [List.range, List.range.loop, List.map_cons, List.map_nil]
      (refine Rr.wr_y (by simp only [List.getElem?_toArray, List.getElem?_cons_succ, List.getElem?_cons_zero]; rfl) (by rfl) ?_
       apply Exists.intro
       refine ⟨fun wz hw _ => ?_, ?_⟩
       · have hcz := hw.cells.1
         go_simp
         (with_reducible exact Rg.up_value)
       simp only [Act.put, List.setIfInBounds_toArray, List.set_cons_zero, List.set_cons_succ])
      (refine Rr.wr_y (by simp only [List.getElem?_toArray, List.getElem?_cons_succ, List.getElem?_cons_zero]; rfl) (by rfl) ?_
       apply Exists.intro
       refine ⟨fun wz hw _ => ?_, ?_⟩
       · have hcz := hw.cells.1
         go_simp
         (with_reducible exact Rg.up_value)
       simp only [Act.put, List.setIfInBounds_toArray, List.set_cons_zero, List.set_cons_succ])
      (refine Rr.wr_y (by simp only [List.getElem?_toArray, List.getElem?_cons_succ, List.getElem?_cons_zero]; rfl) (by rfl) ?_
       apply Exists.intro
       refine ⟨fun wz hw _ => ?_, ?_⟩
       · have hcz := hw.cells.1
         go_simp
         (with_reducible exact Rg.up_value)
       simp only [Act.put, List.setIfInBounds_toArray, List.set_cons_zero, List.set_cons_succ])
      (refine Rr.wr_y (by simp only [List.getElem?_toArray, List.getElem?_cons_succ, List.getElem?_cons_zero]; rfl) (by rfl) ?_
       apply Exists.intro
       refine ⟨fun wz hw _ => ?_, ?_⟩
       · have hcz := hw.cells.1
         go_simp
         apply Rg.up_enter
         (with_reducible refine (isFinal_f HS.out HB2.out (HS5.out.bk.ext hw)).mono ?_)
         rintro e w3 ⟨rfl, hb3⟩
         exact ⟨rfl, hb3⟩
       simp only [Act.put, List.setIfInBounds_toArray, List.set_cons_zero, List.set_cons_succ])
      (refine Rr.wr_y (by simp only [List.getElem?_toArray, List.getElem?_cons_succ, List.getElem?_cons_zero]; rfl) (by rfl) ?_
       apply Exists.intro
       refine ⟨fun wz hw _ => ?_, ?_⟩
       · have hcz := hw.cells.1
         go_simp
         (with_reducible exact Rg.up_value)
       simp only [Act.put, List.setIfInBounds_toArray, List.set_cons_zero, List.set_cons_succ])
      (refine Rr.wr_y (by simp only [List.getElem?_toArray, List.getElem?_cons_succ, List.getElem?_cons_zero]; rfl) (by rfl) ?_
       apply Exists.intro
       refine ⟨fun wz hw _ => ?_, ?_⟩
       · have hcz := hw.cells.1
         go_simp
         (with_reducible exact Rg.up_value)
       simp only [Act.put, List.setIfInBounds_toArray, List.set_cons_zero, List.set_cons_succ])
      (refine Rr.wr_y (by simp only [List.getElem?_toArray, List.getElem?_cons_succ, List.getElem?_cons_zero]; rfl) (by rfl) ?_
       apply Exists.intro
       refine ⟨fun wz hw _ => ?_, ?_⟩
       · have hcz := hw.cells.1
         go_simp
         (with_reducible exact Rg.up_value)
       simp only [Act.put, List.setIfInBounds_toArray, List.set_cons_zero, List.set_cons_succ])
      (refine Rr.wr_y (by simp only [List.getElem?_toArray, List.getElem?_cons_succ, List.getElem?_cons_zero]; rfl) (by rfl) ?_
       apply Exists.intro
       refine ⟨fun wz hw _ => ?_, ?_⟩
       · have hcz := hw.cells.1
         go_simp
         apply Rg.up_enter
         (with_reducible refine (refIsFinal_any 0 pr L C D G N O db wz (HNR.out.ext hw) (by omega) HOK.out.n).mono ?_)
         rintro e w3 ⟨rfl, hb3⟩
         exact ⟨rfl, hb3⟩
       simp only [Act.put, List.setIfInBounds_toArray, List.set_cons_zero, List.set_cons_succ])
      refine Rr.wr_nil ?_
      intro wy hy hh
      simp only [List.length_cons, List.length_nil, List.drop_succ_cons, List.drop_zero, Nat.reduceAdd]
      clear hh
      have HS6 := Lib.hid (HS5.out.ext hy hB); have HR6 := Lib.hid (row_ext HR5.out hy); have HPD6 := Lib.hid (keep_heap hy HPD.out)
      clear z1 zl hy HNR HS5 HR5 HPD
      generalize decide (db ∈ N) = bq at *
      obtain ⟨u0, -, -, -, -, -, ul, -⟩ := rcells HS6.out.rr.at0
      have HXB := Lib.hid (Ext.alloc (Ext.refl wy) (.cells #[.int .i64 77] 3))
      go_upto_region 9 with (at_builtin; go_loud (refine append_keep (cs := celI) (z := .int .i64 0) 60 3 8 Tryz.underlying60 (by kernel_rfl) (by rfl) (by decide) (by decide) rfl _ _ rfl 0 vl L (by rfl) (row_ext HS6.out.rr.rl HXB.out) wy.heap.size 77 (celI_len 77) (by rfl) (World.alloc_heap_new _ _) (by omega) (Nat.zero_le _) ?_; intro gl capl w7 hr7 hk7 hg7))
      have hsm7 : SM B w pb b F1 pr vl vc vd vg vn vo L C D G N O w7 := by
        have h := HS6.out.ext HXB.out hB
        refine ⟨h.bk.stay (fun k hk => hg7.block k (h.bk.lt k hk) (fun e => (HFL.out k e.symm).2 hk)), h.rr.grow_l hg7 hk7, Below.trans h.be ⟨hg7.os, hg7.tape, hg7.output, hg7.size, fun k hk => hg7.block k (by have := h.be.size; omega) (fun e => by have := (HFL.out k e.symm).1; omega)⟩⟩
      have HS7 := Lib.hid hsm7; have HRL := Lib.hid hr7
      have HR7 : Hid (w7.ownsRow 0 57 2 (.slice (some ⟨gr, 0, none⟩) (D.length + 1) capr) (D ++ [(⟨0, 77⟩ : Dy)]).length ((D ++ [(⟨0, 77⟩ : Dy)]).flatMap Dy.cs)) := Lib.hid (row_of_block (row_ext HR6.out HXB.out) (fun k hk => hg7.block k ((row_ext HR6.out HXB.out).lt k hk).2 (fun e => row_apart (row_ext HR6.out HXB.out) (row_ext HS6.out.rr.rl HXB.out) (by decide) hk e.symm)))
      have HPD7 : Hid (w7.heap[pd]? = some (.cells #[.int .i64 da, .int .i64 db] 57)) := Lib.hid ((hg7.block pd (Rg.lt_of_heap (keep_heap HXB.out HPD6.out)) (fun e => by
        obtain ⟨cs, hc⟩ := row_block (row_ext HS6.out.rr.rl HXB.out) e.symm
        rw [keep_heap HXB.out HPD6.out] at hc
        cases hc)).trans (keep_heap HXB.out HPD6.out))
      clear hr7 hk7 hg7 hsm7 HXB u0 ul HS6 HR6 HPD6
      have HLL : Hid ((L ++ [(77 : Int)]).length = L.length + 1) := Lib.hid (by simp)
      have HLO2 : Hid (∀ x ∈ L ++ [(77 : Int)], OkI x) := Lib.hid fun x hx => by
        rcases List.mem_append.1 hx with hx | hx
        · exact HLO.out x hx
        · rw [List.mem_singleton] at hx; subst hx; exact ⟨by decide, by decide⟩
      go_loopw [49] (fun k wq => ∃ j : Nat, k = .int .i64 j ∧ j ≤ L.length + 1 ∧ Ext w7 wq) (fun k _ => L.length + 1 - (iof k).toNat)
      case atStart => exact ⟨0, rfl, by omega, Ext.refl _⟩
      case round =>
        rename World => wq
        obtain ⟨j, rfl, hj, hxq⟩ := hrel
        by_cases hjl : j < L.length + 1
        · have hsr := SR.of_row (cs := celI) (fun _ => rfl) (v := .slice (some ⟨gl, 0, none⟩) (L.length + 1) capl) (row_ext HRL.out hxq) (by rw [HLL.out]; omega)
          rw [← HLL.out] at hsr
          obtain ⟨qb, hqb, hcell⟩ := row_at hsr j (by rw [HLL.out]; exact hjl)
          injection hqb with hqb
          injection hqb with hqb _ _
          subst hqb
          have d0 := hcell 0 _ rfl
          have HB3 := Lib.hid (HLO2.out _ (List.getElem_mem (by rw [HLL.out]; exact hjl)))
          clear hcell hsr
          generalize (L ++ [(77 : Int)])[j]'(by rw [HLL.out]; exact hjl) = lo at *
          simp only [Nat.add_zero, Nat.mul_one] at d0
          have dl := World.block_lt_of_cell? wq _ d0
          have HXQ := Lib.hid hxq
          go_upto_region 12 with (fail)
          obtain ⟨V, hV⟩ : ∃ V, V = wq := ⟨_, rfl⟩
          rw [← hV] at HXQ ⊢
          clear d0 dl hxq hV
          go_loopw [53] (fun k wz => ∃ q : Nat, k = .int .i64 q ∧ q ≤ 4 ∧ Ext V wz) (fun k _ => 4 - (iof k).toNat)
          case atStart => exact ⟨0, rfl, by omega, Ext.refl _⟩
          case round =>
            rename World => wz0
            obtain ⟨q, rfl, hq, hxz⟩ := hrel
            by_cases hq4 : q < 4
            · have hqo : OkI (q : Int) := by unfold OkI; omega
              have HNM := Lib.hid (fun W => Name_any (q : Int) hqo W)
              have hno := nameB_ok (modZ (q : Int) 4).toNat
              generalize nameB (modZ (q : Int) 4).toNat = nm at *
              have HNO := Lib.hid hno
              have HVP := Lib.hid (fun h => vals_pos HS.out (bid := db) (lot := lo) (name := nm) h)
              have HX := Lib.hid (HXQ.out.trans hxz); have HXZ := Lib.hid hxz
              have z1 := cell_of_row wz0 pd 1 _ _ _ (keep_heap HX.out HPD7.out)
              have zl := Rg.lt_of_heap (keep_heap HX.out HPD7.out)
              have HVA := Lib.hid (fun W (hW : Ext wz0 W) => value_f HS.out HB2.out HB3.out HNO.out (HS7.out.bk.ext (HX.out.trans hW)))
              have HVR := Lib.hid (fun W (hW : Ext wz0 W) => refValue_any pr L C D G N O db lo nm W (HS7.out.rr.rw.ext (HX.out.trans hW)) hL hC hG hN HLO.out HOK.out.n HVP.out)
              generalize refV L C G N db lo nm = rv at *
              obtain ⟨r1, r2⟩ := rv
              simp only at HVA HVR
              clear hno hqo hxz
              go_upto_region 14 with (fail)
              refine Rr.wp_region ((List.range 11).map (fun i => (i, .y))) (fun _ => (.cells #[] 29, Rg.ptr)) (by kernel_rfl) (by kernel_rfl) ?_
              simp only [List.range, List.range.loop, List.map_cons, List.map_nil]
              (refine Rr.wr_y (by simp only [List.getElem?_toArray, List.getElem?_cons_succ, List.getElem?_cons_zero]; rfl) (by rfl) ?_
               apply Exists.intro
               refine ⟨fun wz hw _ => ?_, ?_⟩
               · have hcz := hw.cells.1
                 go_simp
                 (with_reducible exact Rg.up_value)
               simp only [Act.put, List.setIfInBounds_toArray, List.set_cons_zero, List.set_cons_succ])
              (refine Rr.wr_y (by simp only [List.getElem?_toArray, List.getElem?_cons_succ, List.getElem?_cons_zero]; rfl) (by rfl) ?_
               apply Exists.intro
               refine ⟨fun wz hw _ => ?_, ?_⟩
               · have hcz := hw.cells.1
                 go_simp
                 (with_reducible exact Rg.up_value)
               simp only [Act.put, List.setIfInBounds_toArray, List.set_cons_zero, List.set_cons_succ])
              (refine Rr.wr_y (by simp only [List.getElem?_toArray, List.getElem?_cons_succ, List.getElem?_cons_zero]; rfl) (by rfl) ?_
               apply Exists.intro
               refine ⟨fun wz hw _ => ?_, ?_⟩
               · have hcz := hw.cells.1
                 go_simp
                 (with_reducible exact Rg.up_value)
               simp only [Act.put, List.setIfInBounds_toArray, List.set_cons_zero, List.set_cons_succ])
              (refine Rr.wr_y (by simp only [List.getElem?_toArray, List.getElem?_cons_succ, List.getElem?_cons_zero]; rfl) (by rfl) ?_
               apply Exists.intro
               refine ⟨fun wz hw _ => ?_, ?_⟩
               · have hcz := hw.cells.1
                 go_simp
                 (with_reducible exact Rg.up_value)
               simp only [Act.put, List.setIfInBounds_toArray, List.set_cons_zero, List.set_cons_succ])
              (refine Rr.wr_y (by simp only [List.getElem?_toArray, List.getElem?_cons_succ, List.getElem?_cons_zero]; rfl) (by rfl) ?_
               apply Exists.intro
               refine ⟨fun wz hw _ => ?_, ?_⟩
               · have hcz := hw.cells.1
                 go_simp
                 (with_reducible exact Rg.up_value)
               simp only [Act.put, List.setIfInBounds_toArray, List.set_cons_zero, List.set_cons_succ])
              (refine Rr.wr_y (by simp only [List.getElem?_toArray, List.getElem?_cons_succ, List.getElem?_cons_zero]; rfl) (by rfl) ?_
               apply Exists.intro
               refine ⟨fun wz hw _ => ?_, ?_⟩
               · have hcz := hw.cells.1
                 go_simp
                 apply Rg.up_enter
                 (with_reducible refine (HNM.out wz).mono ?_)
                 rintro e w3 ⟨rfl, hb3⟩
                 exact ⟨rfl, hb3⟩
               simp only [Act.put, List.setIfInBounds_toArray, List.set_cons_zero, List.set_cons_succ])
              (refine Rr.wr_y (by simp only [List.getElem?_toArray, List.getElem?_cons_succ, List.getElem?_cons_zero]; rfl) (by rfl) ?_
               apply Exists.intro
               refine ⟨fun wz hw _ => ?_, ?_⟩
               · have hcz := hw.cells.1
                 go_simp
                 apply Rg.up_enter
                 (with_reducible refine (HVA.out wz hw).mono ?_)
                 rintro e w3 ⟨rfl, hb3⟩
                 exact ⟨rfl, hb3⟩
               simp only [Act.put, List.setIfInBounds_toArray, List.set_cons_zero, List.set_cons_succ])
              (refine Rr.wr_y (by simp only [List.getElem?_toArray, List.getElem?_cons_succ, List.getElem?_cons_zero]; rfl) (by rfl) ?_
               apply Exists.intro
               refine ⟨fun wz hw _ => ?_, ?_⟩
               · have hcz := hw.cells.1
                 go_simp
                 (with_reducible exact Rg.up_value)
               simp only [Act.put, List.setIfInBounds_toArray, List.set_cons_zero, List.set_cons_succ])
              (refine Rr.wr_y (by simp only [List.getElem?_toArray, List.getElem?_cons_succ, List.getElem?_cons_zero]; rfl) (by rfl) ?_
               apply Exists.intro
               refine ⟨fun wz hw _ => ?_, ?_⟩
               · have hcz := hw.cells.1
                 go_simp
                 (with_reducible exact Rg.up_value)
               simp only [Act.put, List.setIfInBounds_toArray, List.set_cons_zero, List.set_cons_succ])
              (refine Rr.wr_y (by simp only [List.getElem?_toArray, List.getElem?_cons_succ, List.getElem?_cons_zero]; rfl) (by rfl) ?_
               apply Exists.intro
               refine ⟨fun wz hw _ => ?_, ?_⟩
               · have hcz := hw.cells.1
                 go_simp
                 (with_reducible exact Rg.up_value)
               simp only [Act.put, List.setIfInBounds_toArray, List.set_cons_zero, List.set_cons_succ])
              (refine Rr.wr_y (by simp only [List.getElem?_toArray, List.getElem?_cons_succ, List.getElem?_cons_zero]; rfl) (by rfl) ?_
               apply Exists.intro
               refine ⟨fun wz hw _ => ?_, ?_⟩
               · have hcz := hw.cells.1
                 go_simp
                 (with_reducible exact Rg.up_value)
               simp only [Act.put, List.setIfInBounds_toArray, List.set_cons_zero, List.set_cons_succ])
              refine Rr.wr_nil ?_
              intro wy hy hh
              simp only [List.length_cons, List.length_nil, List.drop_succ_cons, List.drop_zero, Nat.reduceAdd]
              clear hh
              have hz2 := (hy.cells.1 _ _ zl).trans z1
              have hl2 := Nat.lt_of_lt_of_le zl hy.size
              have HY1 := Lib.hid hy
              clear z1 zl hy
              go_upto_region 15 with (fail)
              refine Rr.wp_region ((List.range 11).map (fun i => (i, .y))) (fun _ => (.cells #[] 29, Rg.ptr)) (by kernel_rfl) (by kernel_rfl) ?_
              simp only [List.range, List.range.loop, List.map_cons, List.map_nil]
              (refine Rr.wr_y (by simp only [List.getElem?_toArray, List.getElem?_cons_succ, List.getElem?_cons_zero]; rfl) (by rfl) ?_
               apply Exists.intro
               refine ⟨fun wz hw _ => ?_, ?_⟩
               · have hcz := hw.cells.1
                 go_simp
                 (with_reducible exact Rg.up_value)
               simp only [Act.put, List.setIfInBounds_toArray, List.set_cons_zero, List.set_cons_succ])
              (refine Rr.wr_y (by simp only [List.getElem?_toArray, List.getElem?_cons_succ, List.getElem?_cons_zero]; rfl) (by rfl) ?_
               apply Exists.intro
               refine ⟨fun wz hw _ => ?_, ?_⟩
               · have hcz := hw.cells.1
                 go_simp
                 (with_reducible exact Rg.up_value)
               simp only [Act.put, List.setIfInBounds_toArray, List.set_cons_zero, List.set_cons_succ])
              (refine Rr.wr_y (by simp only [List.getElem?_toArray, List.getElem?_cons_succ, List.getElem?_cons_zero]; rfl) (by rfl) ?_
               apply Exists.intro
               refine ⟨fun wz hw _ => ?_, ?_⟩
               · have hcz := hw.cells.1
                 go_simp
                 (with_reducible exact Rg.up_value)
               simp only [Act.put, List.setIfInBounds_toArray, List.set_cons_zero, List.set_cons_succ])
              (refine Rr.wr_y (by simp only [List.getElem?_toArray, List.getElem?_cons_succ, List.getElem?_cons_zero]; rfl) (by rfl) ?_
               apply Exists.intro
               refine ⟨fun wz hw _ => ?_, ?_⟩
               · have hcz := hw.cells.1
                 go_simp
                 (with_reducible exact Rg.up_value)
               simp only [Act.put, List.setIfInBounds_toArray, List.set_cons_zero, List.set_cons_succ])
              (refine Rr.wr_y (by simp only [List.getElem?_toArray, List.getElem?_cons_succ, List.getElem?_cons_zero]; rfl) (by rfl) ?_
               apply Exists.intro
               refine ⟨fun wz hw _ => ?_, ?_⟩
               · have hcz := hw.cells.1
                 go_simp
                 (with_reducible exact Rg.up_value)
               simp only [Act.put, List.setIfInBounds_toArray, List.set_cons_zero, List.set_cons_succ])
              (refine Rr.wr_y (by simp only [List.getElem?_toArray, List.getElem?_cons_succ, List.getElem?_cons_zero]; rfl) (by rfl) ?_
               apply Exists.intro
               refine ⟨fun wz hw _ => ?_, ?_⟩
               · have hcz := hw.cells.1
                 go_simp
                 apply Rg.up_enter
                 (with_reducible refine (HNM.out wz).mono ?_)
                 rintro e w3 ⟨rfl, hb3⟩
                 exact ⟨rfl, hb3⟩
               simp only [Act.put, List.setIfInBounds_toArray, List.set_cons_zero, List.set_cons_succ])
              (refine Rr.wr_y (by simp only [List.getElem?_toArray, List.getElem?_cons_succ, List.getElem?_cons_zero]; rfl) (by rfl) ?_
               apply Exists.intro
               refine ⟨fun wz hw _ => ?_, ?_⟩
               · have hcz := hw.cells.1
                 go_simp
                 apply Rg.up_enter
                 (with_reducible refine (HVR.out wz (HY1.out.trans hw)).mono ?_)
                 rintro e w3 ⟨rfl, hb3⟩
                 exact ⟨rfl, hb3⟩
               simp only [Act.put, List.setIfInBounds_toArray, List.set_cons_zero, List.set_cons_succ])
              (refine Rr.wr_y (by simp only [List.getElem?_toArray, List.getElem?_cons_succ, List.getElem?_cons_zero]; rfl) (by rfl) ?_
               apply Exists.intro
               refine ⟨fun wz hw _ => ?_, ?_⟩
               · have hcz := hw.cells.1
                 go_simp
                 (with_reducible exact Rg.up_value)
               simp only [Act.put, List.setIfInBounds_toArray, List.set_cons_zero, List.set_cons_succ])
              (refine Rr.wr_y (by simp only [List.getElem?_toArray, List.getElem?_cons_succ, List.getElem?_cons_zero]; rfl) (by rfl) ?_
               apply Exists.intro
               refine ⟨fun wz hw _ => ?_, ?_⟩
               · have hcz := hw.cells.1
                 go_simp
                 (with_reducible exact Rg.up_value)
               simp only [Act.put, List.setIfInBounds_toArray, List.set_cons_zero, List.set_cons_succ])
              (refine Rr.wr_y (by simp only [List.getElem?_toArray, List.getElem?_cons_succ, List.getElem?_cons_zero]; rfl) (by rfl) ?_
               apply Exists.intro
               refine ⟨fun wz hw _ => ?_, ?_⟩
               · have hcz := hw.cells.1
                 go_simp
                 (with_reducible exact Rg.up_value)
               simp only [Act.put, List.setIfInBounds_toArray, List.set_cons_zero, List.set_cons_succ])
              (refine Rr.wr_y (by simp only [List.getElem?_toArray, List.getElem?_cons_succ, List.getElem?_cons_zero]; rfl) (by rfl) ?_
               apply Exists.intro
               refine ⟨fun wz hw _ => ?_, ?_⟩
               · have hcz := hw.cells.1
                 go_simp
                 (with_reducible exact Rg.up_value)
               simp only [Act.put, List.setIfInBounds_toArray, List.set_cons_zero, List.set_cons_succ])
              refine Rr.wr_nil ?_
              intro wy hy hh
              simp only [List.length_cons, List.length_nil, List.drop_succ_cons, List.drop_zero, Nat.reduceAdd]
              clear hh
              have HX9 := Lib.hid (HXZ.out.trans (HY1.out.trans hy))
              clear hz2 hl2 hy
              go_wp2_with (fail)
              exact ⟨⟨q + 1, by simp, by omega, HX9.out⟩, by simp [iof]; omega⟩
            · obtain rfl : q = 4 := by omega
              have HXZ := Lib.hid hxz
              clear hxz
              go_wp2_with (fail)
              exact ⟨⟨j + 1, by simp, by omega, HXQ.out.trans HXZ.out⟩, by simp [iof]; omega⟩
        · obtain rfl : j = L.length + 1 := by omega
          have HXQ := Lib.hid hxq
          clear hxq
          go_wp2_with (fail)
          exact ⟨⟨i + 1, by simp, by omega, HS7.out.ext HXQ.out hB, row_ext HR7.out HXQ.out⟩, by simp [iof]; omega⟩
    · obtain rfl : i = D.length + 1 := by omega
      have HCH := Lib.hid (Changed_any pb b F1 wr HSM.out.bk (by rw [HS.out.old]; omega))
      rw [HS.out.old] at HCH
      clear HROW
      go_upto_region 23 with (go_at_call 13; (with_reducible refine HCH.out.mono ?_); rintro e w4 ⟨rc, rfl, hsr, hox, hx4⟩; obtain ⟨ab, ac, rfl⟩ := hsr.form)
      have HSR := Lib.hid hsr
      have HS4 := Lib.hid (HSM.out.ext hx4 hB)
      clear hsr hox hx4 HCH HSM
      have HOR := Lib.hid (SR.of_row (cs := Gd.cs) gd_len HS4.out.rr.ro (by omega))
      obtain ⟨ob, oc, rfl⟩ := HOR.out.form
      go_loopw [91] (fun k wq => ∃ j : Nat, k = .int .i64 j ∧ j ≤ O.length ∧ Ext w4 wq) (fun k _ => O.length - (iof k).toNat)
      case atStart => exact ⟨0, rfl, by omega, Ext.refl _⟩
      case round =>
        rename World => wq
        obtain ⟨j, rfl, hj, hxq⟩ := hrel
        have HXQ := Lib.hid hxq
        by_cases hjl : j < O.length
        · obtain ⟨q1, rfl, hc1⟩ := row_at (HSR.out.ext hxq) j hjl
          obtain ⟨q2, rfl, hc2⟩ := row_at (HOR.out.ext hxq) j hjl
          have d0 := hc1 0 _ rfl
          have d1 := hc1 1 _ rfl
          have d2 := hc1 2 _ rfl
          have d3 := hc1 3 _ rfl
          have d4 := hc1 4 _ rfl
          have d5 := hc1 5 _ rfl
          have e0 := hc2 0 _ rfl
          have e1 := hc2 1 _ rfl
          have e2 := hc2 2 _ rfl
          have e3 := hc2 3 _ rfl
          have e4 := hc2 4 _ rfl
          have e5 := hc2 5 _ rfl
          obtain ⟨x, hx1⟩ : ∃ x, x = O[j] := ⟨_, rfl⟩
          rw [← hx1] at d0 d1 d2 d3 d4 d5 e0 e1 e2 e3 e4 e5
          clear hx1 hc1 hc2
          obtain ⟨x0, x1, x2, x3, x4, x5⟩ := x
          simp only [Nat.add_zero] at d0 d1 d2 d3 d4 d5 e0 e1 e2 e3 e4 e5
          have dl := World.block_lt_of_cell? wq _ d0
          have el := World.block_lt_of_cell? wq _ e0
          obtain ⟨-, -, -, -, -, u5, ul, -⟩ := rcells (HS4.out.ext hxq hB).rr.at0
          have hge : ¬ O.length ≤ j := by omega
          go_upto_region 25 with (fail)
          refine Rr.wp_region ((List.range 20).map (fun i => (i, .y))) (fun _ => (.cells #[] 29, Rg.ptr)) (by kernel_rfl) (by kernel_rfl) ?_
          simp only [List.range, List.range.loop, List.map_cons, List.map_nil]
          (refine Rr.wr_y (by simp only [List.getElem?_toArray, List.getElem?_cons_succ, List.getElem?_cons_zero]; rfl) (by rfl) ?_
           apply Exists.intro
           refine ⟨fun wz hw _ => ?_, ?_⟩
           · have hcz := hw.cells.1
             go_simp
             (with_reducible exact Rg.up_value)
           simp only [Act.put, List.setIfInBounds_toArray, List.set_cons_zero, List.set_cons_succ])
          (refine Rr.wr_y (by simp only [List.getElem?_toArray, List.getElem?_cons_succ, List.getElem?_cons_zero]; rfl) (by rfl) ?_
           apply Exists.intro
           refine ⟨fun wz hw _ => ?_, ?_⟩
           · have hcz := hw.cells.1
             go_simp
             (with_reducible exact Rg.up_value)
           simp only [Act.put, List.setIfInBounds_toArray, List.set_cons_zero, List.set_cons_succ])
          (refine Rr.wr_y (by simp only [List.getElem?_toArray, List.getElem?_cons_succ, List.getElem?_cons_zero]; rfl) (by rfl) ?_
           apply Exists.intro
           refine ⟨fun wz hw _ => ?_, ?_⟩
           · have hcz := hw.cells.1
             go_simp
             (with_reducible exact Rg.up_value)
           simp only [Act.put, List.setIfInBounds_toArray, List.set_cons_zero, List.set_cons_succ])
          (refine Rr.wr_y (by simp only [List.getElem?_toArray, List.getElem?_cons_succ, List.getElem?_cons_zero]; rfl) (by rfl) ?_
           apply Exists.intro
           refine ⟨fun wz hw _ => ?_, ?_⟩
           · have hcz := hw.cells.1
             go_simp
             (with_reducible exact Rg.up_value)
           simp only [Act.put, List.setIfInBounds_toArray, List.set_cons_zero, List.set_cons_succ])
          (refine Rr.wr_y (by simp only [List.getElem?_toArray, List.getElem?_cons_succ, List.getElem?_cons_zero]; rfl) (by rfl) ?_
           apply Exists.intro
           refine ⟨fun wz hw _ => ?_, ?_⟩
           · have hcz := hw.cells.1
             go_simp
             (with_reducible exact Rg.up_value)
           simp only [Act.put, List.setIfInBounds_toArray, List.set_cons_zero, List.set_cons_succ])
          (refine Rr.wr_y (by simp only [List.getElem?_toArray, List.getElem?_cons_succ, List.getElem?_cons_zero]; rfl) (by rfl) ?_
           apply Exists.intro
           refine ⟨fun wz hw _ => ?_, ?_⟩
           · have hcz := hw.cells.1
             go_simp
             (with_reducible exact Rg.up_value)
           simp only [Act.put, List.setIfInBounds_toArray, List.set_cons_zero, List.set_cons_succ])
          (refine Rr.wr_y (by simp only [List.getElem?_toArray, List.getElem?_cons_succ, List.getElem?_cons_zero]; rfl) (by rfl) ?_
           apply Exists.intro
           refine ⟨fun wz hw _ => ?_, ?_⟩
           · have hcz := hw.cells.1
             go_simp
             (with_reducible exact Rg.up_value)
           simp only [Act.put, List.setIfInBounds_toArray, List.set_cons_zero, List.set_cons_succ])
          (refine Rr.wr_y (by simp only [List.getElem?_toArray, List.getElem?_cons_succ, List.getElem?_cons_zero]; rfl) (by rfl) ?_
           apply Exists.intro
           refine ⟨fun wz hw _ => ?_, ?_⟩
           · have hcz := hw.cells.1
             go_simp
             (with_reducible exact Rg.up_value)
           simp only [Act.put, List.setIfInBounds_toArray, List.set_cons_zero, List.set_cons_succ])
          (refine Rr.wr_y (by simp only [List.getElem?_toArray, List.getElem?_cons_succ, List.getElem?_cons_zero]; rfl) (by rfl) ?_
           apply Exists.intro
           refine ⟨fun wz hw _ => ?_, ?_⟩
           · have hcz := hw.cells.1
             go_simp
             (with_reducible exact Rg.up_value)
           simp only [Act.put, List.setIfInBounds_toArray, List.set_cons_zero, List.set_cons_succ])
          (refine Rr.wr_y (by simp only [List.getElem?_toArray, List.getElem?_cons_succ, List.getElem?_cons_zero]; rfl) (by rfl) ?_
           apply Exists.intro
           refine ⟨fun wz hw _ => ?_, ?_⟩
           · have hcz := hw.cells.1
             go_simp
             (with_reducible exact Rg.up_value)
           simp only [Act.put, List.setIfInBounds_toArray, List.set_cons_zero, List.set_cons_succ])
          (refine Rr.wr_y (by simp only [List.getElem?_toArray, List.getElem?_cons_succ, List.getElem?_cons_zero]; rfl) (by rfl) ?_
           apply Exists.intro
           refine ⟨fun wz hw _ => ?_, ?_⟩
           · have hcz := hw.cells.1
             go_simp
             (with_reducible exact Rg.up_value)
           simp only [Act.put, List.setIfInBounds_toArray, List.set_cons_zero, List.set_cons_succ])
          (refine Rr.wr_y (by simp only [List.getElem?_toArray, List.getElem?_cons_succ, List.getElem?_cons_zero]; rfl) (by rfl) ?_
           apply Exists.intro
           refine ⟨fun wz hw _ => ?_, ?_⟩
           · have hcz := hw.cells.1
             exact up_load55 (by rfl) ((hcz _ _ dl).trans d0) ((hcz _ _ dl).trans d1) ((hcz _ _ dl).trans d2) ((hcz _ _ dl).trans d3) ((hcz _ _ dl).trans d4) ((hcz _ _ dl).trans d5)
           simp only [Act.put, List.setIfInBounds_toArray, List.set_cons_zero, List.set_cons_succ])
          (refine Rr.wr_y (by simp only [List.getElem?_toArray, List.getElem?_cons_succ, List.getElem?_cons_zero]; rfl) (by rfl) ?_
           apply Exists.intro
           refine ⟨fun wz hw _ => ?_, ?_⟩
           · have hcz := hw.cells.1
             go_simp
             (with_reducible exact Rg.up_value)
           simp only [Act.put, List.setIfInBounds_toArray, List.set_cons_zero, List.set_cons_succ])
          (refine Rr.wr_y (by simp only [List.getElem?_toArray, List.getElem?_cons_succ, List.getElem?_cons_zero]; rfl) (by rfl) ?_
           apply Exists.intro
           refine ⟨fun wz hw _ => ?_, ?_⟩
           · have hcz := hw.cells.1
             go_simp
             (with_reducible exact Rg.up_value)
           simp only [Act.put, List.setIfInBounds_toArray, List.set_cons_zero, List.set_cons_succ])
          (refine Rr.wr_y (by simp only [List.getElem?_toArray, List.getElem?_cons_succ, List.getElem?_cons_zero]; rfl) (by rfl) ?_
           apply Exists.intro
           refine ⟨fun wz hw _ => ?_, ?_⟩
           · have hcz := hw.cells.1
             go_simp
             (with_reducible exact Rg.up_value)
           simp only [Act.put, List.setIfInBounds_toArray, List.set_cons_zero, List.set_cons_succ])
          (refine Rr.wr_y (by simp only [List.getElem?_toArray, List.getElem?_cons_succ, List.getElem?_cons_zero]; rfl) (by rfl) ?_
           apply Exists.intro
           refine ⟨fun wz hw _ => ?_, ?_⟩
           · have hcz := hw.cells.1
             go_simp
             (with_reducible exact Rg.up_value)
           simp only [Act.put, List.setIfInBounds_toArray, List.set_cons_zero, List.set_cons_succ])
          (refine Rr.wr_y (by simp only [List.getElem?_toArray, List.getElem?_cons_succ, List.getElem?_cons_zero]; rfl) (by rfl) ?_
           apply Exists.intro
           refine ⟨fun wz hw _ => ?_, ?_⟩
           · have hcz := hw.cells.1
             go_simp
             (with_reducible exact Rg.up_value)
           simp only [Act.put, List.setIfInBounds_toArray, List.set_cons_zero, List.set_cons_succ])
          (refine Rr.wr_y (by simp only [List.getElem?_toArray, List.getElem?_cons_succ, List.getElem?_cons_zero]; rfl) (by rfl) ?_
           apply Exists.intro
           refine ⟨fun wz hw _ => ?_, ?_⟩
           · have hcz := hw.cells.1
             go_simp
             (with_reducible exact Rg.up_value)
           simp only [Act.put, List.setIfInBounds_toArray, List.set_cons_zero, List.set_cons_succ])
          (refine Rr.wr_y (by simp only [List.getElem?_toArray, List.getElem?_cons_succ, List.getElem?_cons_zero]; rfl) (by rfl) ?_
           apply Exists.intro
           refine ⟨fun wz hw _ => ?_, ?_⟩
           · have hcz := hw.cells.1
             exact up_load55 (by rfl) ((hcz _ _ el).trans e0) ((hcz _ _ el).trans e1) ((hcz _ _ el).trans e2) ((hcz _ _ el).trans e3) ((hcz _ _ el).trans e4) ((hcz _ _ el).trans e5)
           simp only [Act.put, List.setIfInBounds_toArray, List.set_cons_zero, List.set_cons_succ])
          (refine Rr.wr_y (by simp only [List.getElem?_toArray, List.getElem?_cons_succ, List.getElem?_cons_zero]; rfl) (by rfl) ?_
           apply Exists.intro
           refine ⟨fun wz hw _ => ?_, ?_⟩
           · have hcz := hw.cells.1
             go_simp
             (with_reducible exact Rg.up_value)
           simp only [Act.put, List.setIfInBounds_toArray, List.set_cons_zero, List.set_cons_succ])
          refine Rr.wr_nil ?_
          intro wy hy hh
          simp only [List.length_cons, List.length_nil, List.drop_succ_cons, List.drop_zero, Nat.reduceAdd]
          clear hh
          have HX9 := Lib.hid (HXQ.out.trans hy)
          clear d0 d1 d2 d3 d4 d5 e0 e1 e2 e3 e4 e5 dl el u5 ul hy hxq
          go_wp2_with (fail)
          exact ⟨⟨j + 1, by simp, by omega, HX9.out⟩, by simp [iof]; omega⟩
        · obtain rfl : j = O.length := by omega
          obtain ⟨-, -, -, -, -, u5, ul, -⟩ := rcells (HS4.out.ext hxq hB).rr.at0
          clear hxq
          go_wp2_with (fail)
          go_ret
          exact ⟨rfl, (HS4.out.ext HXQ.out hB).be⟩
end Go.Proofs.YtnplnfkmcfalhaaGreatDoor
namespace Go.Proofs.YtnplnfkmcfalhaaGreatDoor
set_option linter.unusedVariables false
set_option linter.unusedSimpArgs false
open Go.RowKit

/-- A book, the reference's, and blocks apart from both. -/
def W2 (w0 w : World) (pb : Nat) (b : Bk) (pr : Nat) (vl vc vd : Value) (L : List Int) (C : List Cr) (D : List Dy) (G : List Gd) (N : List Int) (O : List Gd) (os : List Nat) : Prop :=
  ∃ F1 F2, BR w pb b F1 ∧ RWF F2 w pr vl vc vd L C D G N O ∧ (∀ k ∈ F1, w0.heap.size ≤ k ∧ k ∉ F2) ∧ (∀ k ∈ F2, w0.heap.size ≤ k) ∧ (∀ k ∈ os, k ∉ F1 ∧ k ∉ F2 ∧ k < w.heap.size) ∧ Ext w0 w
section
variable {w0 w w' : World} {pb pr : Nat} {b b' : Bk} {vl vc vd : Value} {L : List Int} {C : List Cr} {D : List Dy} {G G' : List Gd} {N N' : List Int} {O O' : List Gd} {os : List Nat}
theorem W2.ext (h : W2 w0 w pb b pr vl vc vd L C D G N O os) (e : Ext w w') : W2 w0 w' pb b pr vl vc vd L C D G N O os := by
  obtain ⟨F1, F2, h1, h2, h3, h4, h5, h6⟩ := h
  exact ⟨F1, F2, h1.ext e, h2.ext e, h3, h4, fun k hk => ⟨(h5 k hk).1, (h5 k hk).2.1, Nat.lt_of_lt_of_le (h5 k hk).2.2 e.size⟩, h6.trans e⟩
theorem W2.ex (h : W2 w0 w pb b pr vl vc vd L C D G N O os) : Ext w0 w := by
  obtain ⟨F1, F2, -, -, -, -, -, h6⟩ := h
  exact h6
theorem W2.few (h : W2 w0 w pb b pr vl vc vd L C D G N O os) {os' : List Nat} (hs : ∀ k ∈ os', k ∈ os) : W2 w0 w pb b pr vl vc vd L C D G N O os' := by
  obtain ⟨F1, F2, h1, h2, h3, h4, h5, h6⟩ := h
  exact ⟨F1, F2, h1, h2, h3, h4, fun k hk => h5 k (hs k hk), h6⟩
/-- A new block is apart. -/
theorem W2.more (h : W2 w0 w pb b pr vl vc vd L C D G N O os) (e : Ext w w') {q : Nat} (hq : w.heap.size ≤ q) (hq2 : q < w'.heap.size) : W2 w0 w' pb b pr vl vc vd L C D G N O (q :: os) := by
  obtain ⟨F1, F2, h1, h2, h3, h4, h5, h6⟩ := h
  refine ⟨F1, F2, h1.ext e, h2.ext e, h3, h4, fun k hk => ?_, h6.trans e⟩
  rcases List.mem_cons.1 hk with rfl | hk
  · exact ⟨fun hm => by have := h1.lt k hm; omega, fun hm => by have := h2.lt k hm; omega, hq2⟩
  · exact ⟨(h5 k hk).1, (h5 k hk).2.1, Nat.lt_of_lt_of_le (h5 k hk).2.2 e.size⟩
theorem W2.step1 (h : ∃ F1 F2, BR w pb b F1 ∧ GP F1 w pb b' w' ∧ RWF F2 w pr vl vc vd L C D G N O ∧ (∀ k ∈ F1, w0.heap.size ≤ k ∧ k ∉ F2) ∧ (∀ k ∈ F2, w0.heap.size ≤ k) ∧ (∀ k ∈ os, k ∉ F1 ∧ k ∉ F2 ∧ k < w.heap.size) ∧ Ext w0 w) :
    W2 w0 w' pb b' pr vl vc vd L C D G N O os ∧ ∀ k ∈ os, w'.heap[k]? = w.heap[k]? := by
  obtain ⟨F1, F2, h1, ⟨F', g1, g2, g3⟩, h2, h3, h4, h5, h6⟩ := h
  refine ⟨⟨F', F2, g1, h2.apart g3 (fun k hk hm => (h3 k hm).2 hk), fun k hk => ?_, h4, fun k hk => ⟨fun hm => ?_, (h5 k hk).2.1, Nat.lt_of_lt_of_le (h5 k hk).2.2 g3.size⟩, Below.trans h6 (g3.below (fun k hk => (h3 k hk).1) h6.size)⟩, fun k hk => g3.block k (h5 k hk).2.2 (h5 k hk).1⟩
  · rcases g2 k hk with h | h
    · exact h3 k h
    · exact ⟨by have := h6.size; omega, fun hm => by have := h2.lt k hm; omega⟩
  · rcases g2 k hm with h | h
    · exact (h5 k hk).1 h
    · have := (h5 k hk).2.2; omega
theorem W2.step2 (h : ∃ F1 F2, BR w pb b F1 ∧ RWF F2 w pr vl vc vd L C D G N O ∧ RP F2 w pr vl vc vd L C D G' N' O' w' ∧ (∀ k ∈ F1, w0.heap.size ≤ k ∧ k ∉ F2) ∧ (∀ k ∈ F2, w0.heap.size ≤ k) ∧ (∀ k ∈ os, k ∉ F1 ∧ k ∉ F2 ∧ k < w.heap.size) ∧ Ext w0 w) :
    W2 w0 w' pb b pr vl vc vd L C D G' N' O' os ∧ ∀ k ∈ os, w'.heap[k]? = w.heap[k]? := by
  obtain ⟨F1, F2, h1, h2, ⟨F', g1, g2, g3⟩, h3, h4, h5, h6⟩ := h
  refine ⟨⟨F1, F', h1.apart g3 (fun k hk => (h3 k hk).2), g1, fun k hk => ⟨(h3 k hk).1, fun hm => ?_⟩, fun k hk => ?_, fun k hk => ⟨(h5 k hk).1, fun hm => ?_, Nat.lt_of_lt_of_le (h5 k hk).2.2 g3.size⟩, Below.trans h6 (g3.below h4 h6.size)⟩, fun k hk => g3.block k (h5 k hk).2.2 (h5 k hk).2.1⟩
  · rcases g2 k hm with h | h
    · exact (h3 k hk).2 h
    · have := h1.lt k hk; omega
  · rcases g2 k hk with h | h
    · exact h4 k h
    · have := h6.size; omega
  · rcases g2 k hm with h | h
    · exact (h5 k hk).2.1 h
    · have := (h5 k hk).2.2; omega
theorem give_b {g : Gd} (h : W2 w0 w pb b pr vl vc vd L C D G N O os) (hg : g.ok) (hol : b.old.length < 100000) :
    Calls Tryz.prog 10 #[.pointer (some ⟨pb, 0, none⟩), g.v] w fun e w' => e = .returned (.int .i64 (giveR b g).1) ∧ W2 w0 w' pb (giveR b g).2 pr vl vc vd L C D G N O os ∧ ∀ k ∈ os, w'.heap[k]? = w.heap[k]? := by
  obtain ⟨F1, F2, h1, h2, h3, h4, h5, h6⟩ := h
  exact (Give_any pb b F1 g hg w h1 hol).mono fun e w' ⟨he, hg⟩ => ⟨he, W2.step1 ⟨F1, F2, h1, hg, h2, h3, h4, h5, h6⟩⟩
theorem final_b {bid : Int} (h : W2 w0 w pb b pr vl vc vd L C D G N O os) (hb : OkI bid) :
    Calls Tryz.prog 11 #[.pointer (some ⟨pb, 0, none⟩), .int .i64 bid] w fun e w' => e = .returned (.int .i64 (finE b bid)) ∧ W2 w0 w' pb (finB b bid) pr vl vc vd L C D G N O os ∧ ∀ k ∈ os, w'.heap[k]? = w.heap[k]? := by
  obtain ⟨F1, F2, h1, h2, h3, h4, h5, h6⟩ := h
  exact (Final_any pb b F1 bid hb w h1).mono fun e w' ⟨he, hg⟩ => ⟨he, W2.step1 ⟨F1, F2, h1, hg, h2, h3, h4, h5, h6⟩⟩
theorem give_r {g : Gd} (h : W2 w0 w pb b pr vl vc vd L C D G N O os) (hg : g.ok) (hL : L.length ≤ 1000) (hC : C.length ≤ 1000) (hD : D.length ≤ 1000) (hG : G.length < 10000) (hN : N.length ≤ 10000) (hO : O.length < 10000) (hLo : ∀ x ∈ L, OkI x) (hNo : ∀ x ∈ N, OkI x) :
    Calls Tryz.prog 21 #[.pointer (some ⟨pr, 0, none⟩), g.v] w fun e w' => e = .returned (.int .i64 (refE L C D N g)) ∧ W2 w0 w' pb b pr vl vc vd L C D (refB L C D G N O g).1 N (refB L C D G N O g).2 os ∧ ∀ k ∈ os, w'.heap[k]? = w.heap[k]? := by
  obtain ⟨F1, F2, h1, h2, h3, h4, h5, h6⟩ := h
  exact (refGive_any F2 pr vl vc vd L C D G N O g hg w h2 hL hC hD hG hN hO hLo hNo).mono fun e w' ⟨he, hg⟩ => ⟨he, W2.step2 ⟨F1, F2, h1, h2, hg, h3, h4, h5, h6⟩⟩
theorem final_r {bid : Int} (h : W2 w0 w pb b pr vl vc vd L C D G N O os) (hL : L.length ≤ 1000) (hC : C.length ≤ 1000) (hD : D.length ≤ 1000) (hG : G.length ≤ 10000) (hN : N.length < 10000) (hLo : ∀ x ∈ L, OkI x) (hNo : ∀ x ∈ N, OkI x) :
    Calls Tryz.prog 20 #[.pointer (some ⟨pr, 0, none⟩), .int .i64 bid] w fun e w' => e = .returned (.int .i64 (refF L C D G N bid)) ∧ W2 w0 w' pb b pr vl vc vd L C D G (refN L C D G N bid) O os ∧ ∀ k ∈ os, w'.heap[k]? = w.heap[k]? := by
  obtain ⟨F1, F2, h1, h2, h3, h4, h5, h6⟩ := h
  exact (refFinal_any F2 pr vl vc vd L C D G N O bid w h2 hL hC hD hG hN hLo hNo).mono fun e w' ⟨he, hg⟩ => ⟨he, W2.step2 ⟨F1, F2, h1, h2, hg, h3, h4, h5, h6⟩⟩
theorem same_b (h : W2 w0 w pb b pr vl vc vd L C D G N O os) (ht : TabW w0) (hs : SimX b L C D G N O) (hok : OkX G N O) (hLo : ∀ x ∈ L, OkI x) (hDo : ∀ d ∈ D, OkI d.bid)
    (hL : L.length ≤ 1000) (hC : C.length ≤ 1000) (hD : D.length ≤ 1000) (hG : G.length ≤ 10000) (hN : N.length ≤ 10000) (hO : O.length ≤ 10000) :
    Calls Tryz.prog 22 #[.pointer (some ⟨pb, 0, none⟩), .pointer (some ⟨pr, 0, none⟩)] w fun e w' => e = .returned (.bool true) ∧ Ext w0 w' := by
  obtain ⟨F1, F2, h1, h2, h3, h4, h5, h6⟩ := h
  exact (same_any w0.heap.size pb pr b F1 F2 vl vc vd L C D G N O w h1 h2 (fun k hk => ⟨h4 k hk, fun hm => (h3 k hm).2 hk⟩) h6.size (ht.ext h6) hs hok hLo hDo hL hC hD hG hN hO).mono fun e w' ⟨he, hb⟩ => ⟨he, Below.trans h6 hb⟩
theorem W2.rw (h : W2 w0 w pb b pr vl vc vd L C D G N O os) : RW 0 w pr L C D G N O := by
  obtain ⟨F1, F2, -, h2, -⟩ := h
  exact h2.rw
theorem W2.rb (h : W2 w0 w pb b pr vl vc vd L C D G N O os) : RB 0 w pr L C D := h.rw.rb
end
/-- A new book and a new reference's. -/
def NR2 (n0 : Nat) (b : Bk) (v1 : Value) (L : List Int) (C : List Cr) (D : List Dy) (v2 : Value) (W : World) : Prop :=
  ∃ p1 F1 p2 F2 vl vc vd, v1 = .pointer (some ⟨p1, 0, none⟩) ∧ v2 = .pointer (some ⟨p2, 0, none⟩) ∧ BR W p1 b F1 ∧ RWF F2 W p2 vl vc vd L C D [] [] [] ∧ (∀ k ∈ F1, n0 ≤ k ∧ k ∉ F2) ∧ ∀ k ∈ F2, n0 ≤ k
theorem NR2.ext {n0 : Nat} {b : Bk} {v1 : Value} {L : List Int} {C : List Cr} {D : List Dy} {v2 : Value} {w w' : World} (h : NR2 n0 b v1 L C D v2 w) (e : Ext w w') : NR2 n0 b v1 L C D v2 w' := by
  obtain ⟨p1, F1, p2, F2, vl, vc, vd, e1, e2, h1, h2, h3, h4⟩ := h
  exact ⟨p1, F1, p2, F2, vl, vc, vd, e1, e2, h1.ext e, h2.ext e, h3, h4⟩
theorem refNew_z2 (n0 : Nat) (b1 : Bk) (v1 : Value) (ls : List Lt) (cs : List Cr) (ds : List Dy) (vl vc vd : Value) (w : World) (hb : NB n0 b1 v1 w) (hn : n0 ≤ w.heap.size) (hl : SR Lt.cs 2 w vl ls) (hc : SR Cr.cs 5 w vc cs) (hd : SR Dy.cs 2 w vd ds)
    (hlo : ∀ l ∈ ls, OkI l.id) (hll : ls.length ≤ 1000) (hcl : cs.length ≤ 1000) (hdl : ds.length ≤ 1000) :
    Calls Tryz.prog 17 #[.agg (tenC vl vc), vd] w fun e w' => ∃ v, e = .returned v ∧ Ext w w' ∧ NR2 n0 b1 v1 (lotsW ls) (crisW cs) (dutsW ds) v w' :=
  (refNew_w ls cs ds vl vc vd w hl hc hd hlo hll hcl hdl).mono fun _ w' ⟨p, xl, xc, xd, he, hp, hh, h1, h2, h3, hx⟩ => ⟨_, he, hx, by
    obtain ⟨p1, F1, e1, k2, k3⟩ := hb
    have hF : ∀ k ∈ rblks p xl xc xd nilV nilV nilV, w.heap.size ≤ k := fun k hk => by
      rcases mem_rblks.1 hk with rfl | hk | hk | hk | hk | hk | hk
      · exact hp
      · exact (h1.lt k hk).1
      · exact (h2.lt k hk).1
      · exact (h3.lt k hk).1
      · cases hk
      · cases hk
      · cases hk
    refine ⟨p1, F1, p, _, xl, xc, xd, e1, rfl, k2.ext hx, ⟨nilV, nilV, nilV, ⟨hh, row_base h1 (Nat.zero_le _), row_base h2 (Nat.zero_le _), row_base h3 (Nat.zero_le _), World.ownsRow_nil _ _ _ _, World.ownsRow_nil _ _ _ _, World.ownsRow_nil _ _ _ _, (fun k hk => by cases hk), (fun k hk e => by cases e)⟩, rfl⟩, fun k hk => ⟨k3 k hk, fun hm => ?_⟩, fun k hk => Nat.le_trans hn (hF k hk)⟩
    have := hF k hm
    have := k2.lt k hk
    omega⟩
end Go.Proofs.YtnplnfkmcfalhaaGreatDoor
