/-
  A block is added to a state.
-/
import Derived.Test.YtbeoihjfjkbfhaaShC
namespace Go.Proofs.Ytbeoihjfjkbfhaa
set_option linter.unusedVariables false
set_option linter.unusedSimpArgs false
open Go.RowKit

structure S8 where
  a : Int
  b : Int
  c : Int
  d : Int
  e : Int
  f : Int
  g : Int
  h : Int
def S8.l (s : S8) : List Int := [s.a, s.b, s.c, s.d, s.e, s.f, s.g, s.h]
def not32 (x : Int) : Int := bits BinOp.xor IntKind.u32 (if IntKind.u32.signed = true then -1 else IntKind.u32.max) x
def chS (e f g : Int) : Int := xor32 (and32 e f) (and32 (not32 e) g)
def majS (a b c : Int) : Int := xor32 (xor32 (and32 a b) (and32 a c)) (and32 b c)
def rndT (s : S8) (k w : Int) : Int := ((s.h + mix3 s.e 6 11 25 + chS s.e s.f s.g + k) % 4294967296 + w) % 4294967296
def rndU (s : S8) : Int := (mix3 s.a 2 13 22 + majS s.a s.b s.c) % 4294967296
def rndS (s : S8) (k w : Int) : S8 := ⟨(rndT s k w + rndU s) % 4294967296, s.a, s.b, s.c, (s.d + rndT s k w) % 4294967296, s.e, s.f, s.g⟩
def rnds (ws : List Int) (s : S8) : Nat → S8
  | 0 => s
  | n + 1 => rndS (rnds ws s n) (K64.getD n 0) (ws.getD n 0)
def sumS (s t : S8) : S8 := ⟨(s.a + t.a) % 4294967296, (s.b + t.b) % 4294967296, (s.c + t.c) % 4294967296, (s.d + t.d) % 4294967296, (s.e + t.e) % 4294967296, (s.f + t.f) % 4294967296, (s.g + t.g) % 4294967296, (s.h + t.h) % 4294967296⟩
def blockS (s : S8) (bs : List Int) : S8 := sumS s (rnds (sched bs 64) s 64)

theorem index8 (a b c d e f g h : Int) {j : Nat} (hj : j < 8) (w : World) :
    (Instr.index 90 (.agg #[.int .u32 a, .int .u32 b, .int .u32 c, .int .u32 d, .int .u32 e, .int .u32 f, .int .u32 g, .int .u32 h]) (.int .i64 (j : Int))).run Try.prog w = .ok (.int .u32 ([a, b, c, d, e, f, g, h].getD j 0)) w := by
  have : j = 0 ∨ j = 1 ∨ j = 2 ∨ j = 3 ∨ j = 4 ∨ j = 5 ∨ j = 6 ∨ j = 7 := by omega
  rcases this with rfl | rfl | rfl | rfl | rfl | rfl | rfl | rfl <;> simp [Instr.index, asIntOf, run_underlying Try.underlying90, part, go_sem]
/-- Nothing that was there has turned but block q. -/
structure Bt (q : Nat) (w w' : World) : Prop where
  os : w'.os = w.os
  tape : w'.tape = w.tape
  output : w'.output = w.output
  size : w.heap.size ≤ w'.heap.size
  block : ∀ k, k < w.heap.size → k ≠ q → w'.heap[k]? = w.heap[k]?
theorem Bt.of_ext {q : Nat} {w w' : World} (h : Ext w w') : Bt q w w' := ⟨h.os, h.tape, h.output, h.size, fun k hk _ => h.block k hk⟩
theorem Bt.trans {q : Nat} {a b c : World} (h : Bt q a b) (k : Bt q b c) : Bt q a c :=
  ⟨k.os.trans h.os, k.tape.trans h.tape, k.output.trans h.output, Nat.le_trans h.size k.size, fun i hi hq => (k.block i (Nat.lt_of_lt_of_le hi h.size) hq).trans (h.block i hi hq)⟩
theorem Bt.setCell {q o : Nat} {a b : World} (h : Bt q a b) (v : Value) : Bt q a (b.setCell ⟨q, o, none⟩ v) :=
  ⟨h.os, h.tape, h.output, by simpa using h.size, fun i hi hq => (heap_setCell_other _ hq).trans (h.block i hi hq)⟩
theorem Bt.ext {q : Nat} {w a b : World} (x : Ext w a) (h : Bt q a b) (hq : w.heap.size ≤ q) : Ext w b :=
  ⟨h.os.trans x.os, h.tape.trans x.tape, h.output.trans x.output, Nat.le_trans x.size h.size, fun k hk => (h.block k (Nat.lt_of_lt_of_le hk x.size) (by omega)).trans (x.block k hk)⟩
def mixL (s t : S8) (j : Nat) : List Int := (sumS s t).l.take j ++ s.l.drop j
theorem lt8 {j : Nat} (h : j < 8) : j = 0 ∨ j = 1 ∨ j = 2 ∨ j = 3 ∨ j = 4 ∨ j = 5 ∨ j = 6 ∨ j = 7 := by omega
theorem mixL_get (s t : S8) {j : Nat} (h : j < 8) : (rowN (mixL s t j))[j]? = some (.int .u32 (s.l.getD j 0)) := by
  rcases lt8 h with rfl | rfl | rfl | rfl | rfl | rfl | rfl | rfl <;> rfl
theorem mixL_set (s t : S8) {j : Nat} (h : j < 8) : (rowN (mixL s t j)).setIfInBounds j (.int .u32 ((s.l.getD j 0 + t.l.getD j 0) % 4294967296)) = rowN (mixL s t (j + 1)) := by
  rcases lt8 h with rfl | rfl | rfl | rfl | rfl | rfl | rfl | rfl <;> rfl

set_option maxRecDepth 100000 in
set_option maxHeartbeats 4000000 in
theorem add_any (b off len cap : Nat) (bs : List Int) (s : S8) (q : Nat) (w : World) (h4 : 64 ≤ len) (h5 : 64 ≤ cap) (hb : b < w.heap.size) (hl : bs.length = 64) (h0 : ∀ k (h : k < bs.length), 0 ≤ bs[k] ∧ bs[k] < 256)
    (hc : ∀ k (h : k < bs.length), w.cell? ⟨b, off + k, none⟩ = some (.int .u8 bs[k])) (hq : w.heap[q]? = some (.cells (rowN s.l) 90)) :
    Calls Try.prog 51 #[.pointer (some ⟨q, 0, none⟩), .slice (some ⟨b, off, none⟩) len cap] w fun e w' => e = .returned (.tuple #[]) ∧ Bt q w w' ∧ w'.heap[q]? = some (.cells (rowN (blockS s bs).l) 90) := by
  have HS := Lib.hid (sched_any b off len cap bs w h4 h5 hb hl h0 hc)
  have HQ := Lib.hid hq
  clear hc h0 hq
  obtain ⟨R, hRe⟩ : ∃ R, R = rowW (sched bs 64) := ⟨_, rfl⟩
  have hsz : R.size = 64 := by rw [hRe]; exact rowW_size (by rw [sched_len]; omega)
  have ho : ∀ v ∈ R.toList, v.oneCell' = true := by rw [hRe]; exact rowW_one _
  rw [← hRe] at HS
  have HE := Lib.hid hRe
  clear hRe
  go_enter Try.func51, Try.ntmps51
  go_upto_region 1 with (first
    | (go_at_call 67; (with_reducible refine (HS.out).mono ?_); rintro e w1 ⟨rfl, hx1⟩)
    | (go_at_call 68; (with_reducible refine (rounds_any _).mono ?_); rintro e w2 ⟨rfl, hx2⟩)
    | (refine wpList_store_row (hgd := rfl) 109 (.tmp 4) (.tmp 20) rfl w2.heap.size (by rfl) R (by rfl) (rowW []) 109 (two_blocks _ _ _).1 (by rw [hsz]; rfl) (by rw [hsz]; kernel_rfl) ho ?_)
    | (refine wpList_store_row (hgd := rfl) 109 (.tmp 5) (.tmp 21) rfl (w2.heap.size + 1) (by rfl) (rowN K64) (by rfl) (rowW []) 109 ((setRow_other _ _ _ _ (by omega)).trans (two_blocks _ _ _).2) (by rfl) (by kernel_rfl) (rowN_one _) ?_))
  change Code.wp _ _ _ _ ((((w2.alloc (.cells (rowW []) 109)).alloc (.cells (rowW []) 109)).setRow w2.heap.size R).setRow (w2.heap.size + 1) (rowN K64))
  have hX : Ext w ((((w2.alloc (.cells (rowW []) 109)).alloc (.cells (rowW []) 109)).setRow w2.heap.size R).setRow (w2.heap.size + 1) (rowN K64)) := by
    have h12 := hx1.size; have h22 := hx2.size
    exact below_setRow (below_setRow (Ext.alloc (Ext.alloc (hx1.trans hx2) _) _) (by omega) _) (by omega) _
  have hW4 : ((((w2.alloc (.cells (rowW []) 109)).alloc (.cells (rowW []) 109)).setRow w2.heap.size R).setRow (w2.heap.size + 1) (rowN K64)).heap[w2.heap.size]? = some (.cells R 109) :=
    (setRow_other _ _ _ _ (by omega)).trans (setRow_heap _ _ _ _ _ _ (two_blocks _ _ _).1)
  have hW5 : ((((w2.alloc (.cells (rowW []) 109)).alloc (.cells (rowW []) 109)).setRow w2.heap.size R).setRow (w2.heap.size + 1) (rowN K64)).heap[w2.heap.size + 1]? = some (.cells (rowN K64) 109) :=
    setRow_heap _ _ _ _ _ _ ((setRow_other _ _ _ _ (by omega)).trans (two_blocks _ _ _).2)
  have hlt2 : w.heap.size ≤ w2.heap.size := Nat.le_trans hx1.size hx2.size
  obtain ⟨p, hp⟩ : ∃ p, p = w2.heap.size := ⟨_, rfl⟩
  rw [← hp] at hX hW4 hW5 hlt2 ⊢
  generalize ((((w2.alloc (.cells (rowW []) 109)).alloc (.cells (rowW []) 109)).setRow p R).setRow (p + 1) (rowN K64)) = W at *
  clear hp hx1 hx2
  have hql := Rg.lt_of_heap HQ.out
  have hWq : W.heap[q]? = some (.cells (rowN s.l) 90) := (hX.block _ hql).trans HQ.out
  have HW4 := Lib.hid hW4; have HW5 := Lib.hid hW5; have HWq := Lib.hid hWq; have HX := Lib.hid hX
  have s0 := cell_of_row W q 0 _ _ _ hWq; have s1 := cell_of_row W q 1 _ _ _ hWq; have s2 := cell_of_row W q 2 _ _ _ hWq; have s3 := cell_of_row W q 3 _ _ _ hWq
  have s4 := cell_of_row W q 4 _ _ _ hWq; have s5 := cell_of_row W q 5 _ _ _ hWq; have s6 := cell_of_row W q 6 _ _ _ hWq; have s7 := cell_of_row W q 7 _ _ _ hWq
  simp only [rowN, S8.l, List.map_cons, List.map_nil, List.getElem?_toArray, List.getElem?_cons_zero, List.getElem?_cons_succ] at s0 s1 s2 s3 s4 s5 s6 s7
  clear hW4 hW5 hX hWq
  go_quiet (fail)
  clear s0 s1 s2 s3 s4 s5 s6 s7
  go_upto_region 2 with (fail)
  have JW4 : Hid ((W.drewN nq).heap[p]? = some (.cells R 109)) := HW4
  have JW5 : Hid ((W.drewN nq).heap[p + 1]? = some (.cells (rowN K64) 109)) := HW5
  have JWq : Hid ((W.drewN nq).heap[q]? = some (.cells (rowN s.l) 90)) := HWq
  have JX : Hid (Ext w (W.drewN nq)) := Lib.hid (HX.out.drewN _)
  clear HW4 HW5 HWq HX
  generalize W.drewN nq = W2 at *
  have HS8 : Hid (rnds (sched bs 64) s 0 = s) := Lib.hid rfl
  go_wp2_with (fail)
  go_loopw [6, 7, 8, 9, 10, 11, 12, 13, 54] (fun v6 v7 v8 v9 v10 v11 v12 v13 k wr => ∃ (i : Nat) (t : S8), k = .int .i64 i ∧ i ≤ 64 ∧ Hid (t = rnds (sched bs 64) s i) ∧ v6 = .int .u32 t.a ∧ v7 = .int .u32 t.b ∧ v8 = .int .u32 t.c ∧ v9 = .int .u32 t.d ∧ v10 = .int .u32 t.e ∧ v11 = .int .u32 t.f ∧ v12 = .int .u32 t.g ∧ v13 = .int .u32 t.h ∧ Ext W2 wr) (fun _ _ _ _ _ _ _ _ k _ => 64 - (iof k).toNat)
  case atStart => exact ⟨0, s, rfl, by omega, Lib.hid rfl, rfl, rfl, rfl, rfl, rfl, rfl, rfl, rfl, Ext.refl _⟩
  case round =>
    obtain ⟨i, t, rfl, hi, HT, rfl, rfl, rfl, rfl, rfl, rfl, rfl, rfl, hx⟩ := hrel
    by_cases hi64 : i < 64
    · have hp0 := Rg.lt_of_heap JW4.out; have hp1 := Rg.lt_of_heap JW5.out
      have cw : wr.cell? ⟨p, i, none⟩ = some (.int .u32 ((sched bs 64).getD i 0)) := by
        rw [hx.cells.1 _ _ hp0, cell_of_row _ _ _ _ _ _ JW4.out, HE.out, rowW_get (by rw [sched_len]; exact hi64)]
      have ck : wr.cell? ⟨p + 1, i, none⟩ = some (.int .u32 (K64.getD i 0)) := by
        rw [hx.cells.1 _ _ hp1, cell_of_row _ _ _ _ _ _ JW5.out, rowN_get (by exact hi64)]
      have HN : Hid (rnds (sched bs 64) s (i + 1) = rndS t (K64.getD i 0) ((sched bs 64).getD i 0)) := Lib.hid (by rw [HT.out]; rfl)
      generalize K64.getD i 0 = kk at *
      generalize (sched bs 64).getD i 0 = ww at *
      obtain ⟨ta, tb, tc, td, te, tf, tg, th⟩ := t
      have M1 := Lib.hid (mixed_e te); have M2 := Lib.hid (mixed_a ta)
      unfold rndS rndT rndU chS majS and32 xor32 not32 at HN
      simp only at HN M1 M2
      generalize mix3 te 6 11 25 = m1 at *; generalize mix3 ta 2 13 22 = m2 at *
      go_upto_region 5 with (fail)
      go_quiet (first | (go_at_call 69; (with_reducible refine Calls.quiet_of_same (M1.out _))))
      generalize ((th + m1 + bits BinOp.xor IntKind.u32 (bits BinOp.and IntKind.u32 te tf) (bits BinOp.and IntKind.u32 (bits BinOp.xor IntKind.u32 (if IntKind.u32.signed = true then -1 else IntKind.u32.max) te) tg) + kk) % 4294967296 + ww) % 4294967296 = T at *
      go_upto_region 6 with (fail)
      go_upto_region 7 with (go_at_call 69; (with_reducible refine (M2.out _).mono ?_); rintro e w3 ⟨rfl, hw3⟩; have h9 := hw3.symm; clear hw3; subst h9)
      go_wp2_with (fail)
      exact ⟨⟨i + 1, _, by simp, by omega, Lib.hid HN.out.symm, rfl, rfl, rfl, rfl, rfl, rfl, rfl, rfl, hx.drewN _⟩, by simp [iof]; omega⟩
    · obtain rfl : i = 64 := by omega
      have JR : Hid (wr.heap[q]? = some (.cells (rowN s.l) 90)) := Lib.hid ((hx.block _ (Rg.lt_of_heap JWq.out)).trans JWq.out)
      have JB : Hid (Bt q w wr) := Lib.hid (Bt.of_ext (JX.out.trans hx))
      clear JW4 JW5 JWq JX hx
      go_wp2_with (fail)
      go_loopw [114] (fun k wv => ∃ j : Nat, k = .int .i64 j ∧ j ≤ 8 ∧ Hid (wv.heap[q]? = some (.cells (rowN (mixL s t j)) 90)) ∧ Hid (Bt q w wv)) (fun k _ => 8 - (iof k).toNat)
      case atStart => exact ⟨0, rfl, by omega, JR, JB⟩
      case round =>
        obtain ⟨j, rfl, hj, KR, KB⟩ := hrel
        by_cases hj8 : j < 8
        · have cj : wr.cell? ⟨q, j, none⟩ = some (.int .u32 (s.l.getD j 0)) := by rw [cell_of_row _ _ _ _ _ _ KR.out, mixL_get s t hj8]
          have fj : wr.frozen? ⟨q, j, none⟩ = false := (Rg.cells_of KR.out).2.1 _
          have ql := Rg.lt_of_heap KR.out
          have HK : Hid (∀ wy, Ext wr wy → (wy.setCell ⟨q, j, none⟩ (.int .u32 ((s.l.getD j 0 + t.l.getD j 0) % 4294967296))).heap[q]? = some (.cells (rowN (mixL s t (j + 1))) 90)) := Lib.hid (fun wy hy => by
            rw [← mixL_set s t hj8]
            exact heap_setCell_row _ ((hy.block _ (Rg.lt_of_heap KR.out)).trans KR.out))
          clear hj KR
          have IX := fun w => index8 t.a t.b t.c t.d t.e t.f t.g t.h hj8 w
          change ∀ w, _ = Result.ok (Value.int .u32 (t.l.getD j 0)) w at IX
          generalize s.l.getD j 0 = sj at *
          generalize t.l.getD j 0 = tj at *
          go_upto_region 12 with (fail)
          refine Rr.wp_region [(0, .y), (1, .y), (2, .y), (3, .y), (4, .y), (5, .y), (6, .y), (7, .y), (8, .y)] (fun _ => (.cells #[] 29, Rg.ptr)) (by kernel_rfl) (by kernel_rfl) ?_
          (refine Rr.wr_y (by simp only [List.getElem?_toArray, List.getElem?_cons_succ, List.getElem?_cons_zero]; rfl) (by rfl) ?_
           apply Exists.intro
           refine ⟨fun wz hw _ => ?_, ?_⟩
           · have hcz := hw.cells.1
             go_simp
             (with_reducible exact Rg.up_value)
           simp only [Act.put, List.setIfInBounds_toArray, List.set_cons_zero, List.set_cons_succ])
          (refine Rr.wr_y (by simp only [List.getElem?_toArray, List.getElem?_cons_succ, List.getElem?_cons_zero]; rfl) (by rfl) ?_
           apply Exists.intro
           refine ⟨fun wz hw _ => ?_, ?_⟩
           · have hcz := hw.cells.1
             go_simp
             (with_reducible exact Rg.up_value)
           simp only [Act.put, List.setIfInBounds_toArray, List.set_cons_zero, List.set_cons_succ])
          (refine Rr.wr_y (by simp only [List.getElem?_toArray, List.getElem?_cons_succ, List.getElem?_cons_zero]; rfl) (by rfl) ?_
           apply Exists.intro
           refine ⟨fun wz hw _ => ?_, ?_⟩
           · have hcz := hw.cells.1
             go_simp
             (with_reducible exact Rg.up_value)
           simp only [Act.put, List.setIfInBounds_toArray, List.set_cons_zero, List.set_cons_succ])
          (refine Rr.wr_y (by simp only [List.getElem?_toArray, List.getElem?_cons_succ, List.getElem?_cons_zero]; rfl) (by rfl) ?_
           apply Exists.intro
           refine ⟨fun wz hw _ => ?_, ?_⟩
           · have hcz := hw.cells.1
             go_simp
             (with_reducible exact Rg.up_value)
           simp only [Act.put, List.setIfInBounds_toArray, List.set_cons_zero, List.set_cons_succ])
          (refine Rr.wr_y (by simp only [List.getElem?_toArray, List.getElem?_cons_succ, List.getElem?_cons_zero]; rfl) (by rfl) ?_
           apply Exists.intro
           refine ⟨fun wz hw _ => ?_, ?_⟩
           · have hcz := hw.cells.1
             go_simp
             (with_reducible exact Rg.up_value)
           simp only [Act.put, List.setIfInBounds_toArray, List.set_cons_zero, List.set_cons_succ])
          (refine Rr.wr_y (by simp only [List.getElem?_toArray, List.getElem?_cons_succ, List.getElem?_cons_zero]; rfl) (by rfl) ?_
           apply Exists.intro
           refine ⟨fun wz hw _ => ?_, ?_⟩
           · have hcz := hw.cells.1
             go_simp
             (with_reducible exact Rg.up_value)
           simp only [Act.put, List.setIfInBounds_toArray, List.set_cons_zero, List.set_cons_succ])
          (refine Rr.wr_y (by simp only [List.getElem?_toArray, List.getElem?_cons_succ, List.getElem?_cons_zero]; rfl) (by rfl) ?_
           apply Exists.intro
           refine ⟨fun wz hw _ => ?_, ?_⟩
           · have hcz := hw.cells.1
             go_simp
             (with_reducible exact Rg.up_value)
           simp only [Act.put, List.setIfInBounds_toArray, List.set_cons_zero, List.set_cons_succ])
          (refine Rr.wr_y (by simp only [List.getElem?_toArray, List.getElem?_cons_succ, List.getElem?_cons_zero]; rfl) (by rfl) ?_
           apply Exists.intro
           refine ⟨fun wz hw _ => ?_, ?_⟩
           · have hcz := hw.cells.1
             go_simp
             (with_reducible exact Rg.up_value)
           simp only [Act.put, List.setIfInBounds_toArray, List.set_cons_zero, List.set_cons_succ])
          (refine Rr.wr_y (by simp only [List.getElem?_toArray, List.getElem?_cons_succ, List.getElem?_cons_zero]; rfl) (by rfl) ?_
           apply Exists.intro
           refine ⟨fun wz hw _ => ?_, ?_⟩
           · have hcz := hw.cells.1
             go_simp
             (with_reducible exact Rg.up_value)
           simp only [Act.put, List.setIfInBounds_toArray, List.set_cons_zero, List.set_cons_succ])
          refine Rr.wr_nil ?_
          intro wy hy hh
          simp only [List.length_cons, List.length_nil, List.drop_succ_cons, List.drop_zero, Nat.reduceAdd]
          have dr' := (hy.cells.1 _ j ql).trans cj
          have df' := (hy.cells.2 _ j ql).trans fj
          go_wp2_with (fail)
          exact ⟨⟨j + 1, by simp, by omega, Lib.hid (HK.out wy hy), Lib.hid ((KB.out.trans (Bt.of_ext hy)).setCell _)⟩, by simp [iof]; omega⟩
        · obtain rfl : j = 8 := by omega
          have HB : Hid (mixL s t 8 = (blockS s bs).l) := Lib.hid (by unfold blockS; rw [← HT.out]; rfl)
          go_wp2_with (fail)
          go_end0
          exact ⟨rfl, KB.out, by rw [← HB.out]; exact KR.out⟩
end Go.Proofs.Ytbeoihjfjkbfhaa
