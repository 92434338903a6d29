/-
  The arguments of the laws of chapter 15, opened: slices of ints, rows of ints, bytes. Nothing is asked.
-/
import Derived.Test.YtbeoihjfjkbfhaaLawG
import Derived.Test.YtbeoihjfjkbfhaaWtP
import Derived.OpenShut
namespace Go.Proofs.Ytbeoihjfjkbfhaa
set_option linter.unusedVariables false
set_option linter.unusedSimpArgs false
open Go.RowKit Go.WideShapes Go.ChangeShapes
set_option maxRecDepth 100000

def RN (n : Nat) (w : World) (v : Value) (ls : List (List Int)) : Prop :=
  ∃ A cap, v = .slice A ls.length cap ∧ ls.length ≤ 9223372036854775807 ∧ (∀ z ∈ ls, z.length = n ∧ ∀ i ∈ z, OkI i) ∧
    (ls = [] ∨ ∃ b off, A = some ⟨b, off, none⟩ ∧ ∀ k (h : k < ls.length) j, j < n → w.cell? ⟨b, off + k * n + j, none⟩ = some (.int .i64 (ls[k].getD j 0)))
theorem RN.ext {n : Nat} {w w' : World} {v : Value} {ls : List (List Int)} (h : RN n w v ls) (e : Ext w w') : RN n w' v ls := by
  obtain ⟨A, cap, h1, h2, h3, h4⟩ := h
  exact ⟨A, cap, h1, h2, h3, h4.imp id fun ⟨b, off, ha, hc⟩ => ⟨b, off, ha, fun k hk j hj => (e.cells.1 _ _ (World.block_lt_of_cell? w _ (hc k hk j hj))).trans (hc k hk j hj)⟩⟩
theorem RN.form {n : Nat} {w : World} {v : Value} {ls : List (List Int)} (h : RN n w v ls) : ∃ A cap, v = .slice A ls.length cap ∧ ls.length ≤ 9223372036854775807 := by
  obtain ⟨A, cap, h1, h2, -⟩ := h
  exact ⟨A, cap, h1, h2⟩
theorem RN.at {n : Nat} {w : World} {A : Option Addr} {l c : Nat} {ls : List (List Int)} (h : RN n w (.slice A l c) ls) (k : Nat) (hk : k < ls.length) :
    ∃ b off, A = some ⟨b, off, none⟩ ∧ (∀ j, j < n → w.cell? ⟨b, off + k * n + j, none⟩ = some (.int .i64 (ls[k].getD j 0))) ∧ ∀ j, OkI (ls[k].getD j 0) := by
  obtain ⟨A', cap, h1, h2, h3, h4⟩ := h
  injection h1 with e1 e2 e3
  subst e1
  obtain ⟨b, off, ha, hc⟩ := h4.resolve_left (by intro e; rw [e] at hk; simp at hk)
  refine ⟨b, off, ha, hc k hk, fun j => ?_⟩
  rw [List.getD_eq_getElem?_getD]
  rcases Nat.lt_or_ge j ls[k].length with hj | hj
  · rw [List.getElem?_eq_getElem hj]
    exact (h3 _ (List.getElem_mem _)).2 _ (List.getElem_mem _)
  · rw [List.getElem?_eq_none hj]
    exact okI_small (by decide)

section
variable {H : Type} {enc : TypeId × Value → H} {W : World}
theorem i64_of_wf' {n : Int} (h : (Lit.int .i64 n).wf = true) : OkI n := i64_of_wf h
theorem kk3 : Try.prog.cellsOf 3 = 1 := by kernel_rfl
theorem kk5 : Try.prog.cellsOf 5 = 1 := by kernel_rfl
theorem kk23 : Try.prog.cellsOf 23 = 2 := by kernel_rfl
theorem kk46 : Try.prog.cellsOf 46 = 4 := by kernel_rfl
theorem u8_of_wf {n : Int} (h : (Lit.int .u8 n).wf = true) : 0 ≤ n ∧ n ≤ 255 := by
  simpa [Lit.wf, IntKind.min, IntKind.max, IntKind.signed, IntKind.bits] using h
theorem lst2 {α : Type} : ∀ (l : List α), l.length = 2 → ∃ x y, l = [x, y]
  | [x, y], _ => ⟨x, y, rfl⟩
theorem okWide_array {t e : TypeId} {m : Nat} {r : Reach} {b0 : Nat} {v : Value} (ht : Try.prog.underlying t = some (.array m e)) (h : Value.okWide Try.prog W r b0 t v) : ∃ cs, v = .agg cs ∧ cs.size = Try.prog.cellsOf t := by
  unfold Value.okWide at h
  rw [ht] at h
  obtain ⟨cs, h1, h2, -⟩ := h
  exact ⟨cs, h1, h2⟩
/-- An array of m ints. -/
theorem arr_ints {t e : TypeId} {m : Nat} {k : IntKind} {fuel : Nat} {cs : List Value} {x : DataW H × List MemPlace} (ht : Try.prog.underlying t = some (.array m e)) (he : Try.prog.underlying e = some (.int k)) (hc : Try.prog.cellsOf e = 1) (hct : Try.prog.cellsOf t = m)
    (h : DataW.trod enc Try.prog W 0 (fun _ => true) true fuel t cs = some x) : cs.length = m ∧ ∀ i, i < m → ∃ n, cs[i]? = some (.int k n) ∧ (Lit.int k n).wf = true := by
  cases fuel with
  | zero => simp [DataW.trod] at h
  | succ n =>
    have key : ∃ xs, cs.length = Try.prog.cellsOf t ∧ ((List.range m).mapM fun i => DataW.trod enc Try.prog W 0 (fun _ => true) true n e ((cs.drop (i * Try.prog.cellsOf e)).take (Try.prog.cellsOf e))) = some xs := by
      clear hc hct he
      unfold DataW.trod at h
      rw [ht] at h
      have fin : ∀ (cs : List Value) (x : DataW H × List MemPlace), (if cs.length = Try.prog.cellsOf t then Option.map (fun xs => (DataW.agg (List.map (fun x => x.fst) xs), List.flatMap (fun x => x.snd) xs)) (List.mapM (fun i => DataW.trod enc Try.prog W 0 (fun _ => true) true n e (List.take (Try.prog.cellsOf e) (List.drop (i * Try.prog.cellsOf e) cs))) (List.range m)) else none) = some x →
          ∃ xs, cs.length = Try.prog.cellsOf t ∧ ((List.range m).mapM fun i => DataW.trod enc Try.prog W 0 (fun _ => true) true n e ((cs.drop (i * Try.prog.cellsOf e)).take (Try.prog.cellsOf e))) = some xs := by
        intro cs x h
        split at h
        · rename_i hl
          obtain ⟨xs, hx, -⟩ := Option.map_eq_some_iff.1 h
          exact ⟨xs, hl, hx⟩
        · cases h
      split at h <;> first | (rename_i heq; cases heq; done) | (rename_i heq; injection heq with heq; injection heq with e1 e2; subst e1 e2; exact fin _ _ h) | exact fin _ _ h | (rename_i heq; injection heq with heq; cases heq; done)
    obtain ⟨xs, hl, hp⟩ := key
    rw [hct] at hl
    rw [hc] at hp
    simp only [Nat.mul_one] at hp
    refine ⟨hl, ?_⟩
    intro i hi
    have hg := mapM_some_get hp i i (by simp [hi])
    have hlen := mapM_some_length hp
    have hx : i < xs.length := by rw [hlen]; simpa using hi
    rw [List.getElem?_eq_getElem hx] at hg
    obtain ⟨n', h1, _, h3⟩ := DataW.trod_int he hg
    refine ⟨n', ?_, h3⟩
    have hi' : i < cs.length := by omega
    rw [List.drop_eq_getElem_cons hi', List.take_succ_cons, List.take_zero] at h1
    simp only [List.cons.injEq, and_true] at h1
    rw [List.getElem?_eq_getElem hi', h1]
theorem open_bytes2 {r : Go.Reach} {b0 : Nat} {v : Value} {d : DataW H} {ps : List MemPlace} (hval : Value.okWide Try.prog W r b0 23 v) (hd : DataW.Trod enc Try.prog W 0 (fun _ => true) true 23 v d ps) :
    ∃ q0 q1 : Int, v = .agg #[.int .u8 q0, .int .u8 q1] ∧ (0 ≤ q0 ∧ q0 ≤ 255) ∧ 0 ≤ q1 ∧ q1 ≤ 255 := by
  obtain ⟨fuel, hf⟩ := hd
  obtain ⟨cs, rfl, hsz⟩ := okWide_array Try.underlying23 hval
  rw [kk23] at hsz
  obtain ⟨x0, x1, hl⟩ := lst2 cs.toList (by simpa using hsz)
  obtain rfl : cs = #[x0, x1] := by cases cs; simp_all
  obtain ⟨h1, h2⟩ := arr_ints Try.underlying23 Try.underlying5 kk5 kk23 hf
  obtain ⟨q0, e0, w0⟩ := h2 0 (by decide)
  obtain ⟨q1, e1, w1⟩ := h2 1 (by decide)
  replace e0 : some x0 = some (Value.int .u8 q0) := e0
  replace e1 : some x1 = some (Value.int .u8 q1) := e1
  injection e0 with e0
  injection e1 with e1
  subst e0 e1
  exact ⟨q0, q1, rfl, u8_of_wf w0, u8_of_wf w1⟩
/-- Rows of ints, as lists. -/
theorem rows_RN {m : Nat} {A : Option Addr} {len cap : Nat} (hl : len ≤ maxLen)
    (h : len = 0 ∨ ∃ b off, A = some ⟨b, off, none⟩ ∧ ∀ i, i < len → ∀ j, j < m → ∃ n, W.cell? ⟨b, off + i * m + j, none⟩ = some (.int .i64 n) ∧ (Lit.int .i64 n).wf = true) : ∃ ls, RN m W (.slice A len cap) ls := by
  unfold maxLen at hl
  rcases h with rfl | ⟨b, off, rfl, h⟩
  · exact ⟨[], A, cap, rfl, by simp, by simp, .inl rfl⟩
  · let F : Nat → Nat → Int := fun i j => iof ((W.cell? ⟨b, off + i * m + j, none⟩).getD undef)
    have hF : ∀ i, i < len → ∀ j, j < m → W.cell? ⟨b, off + i * m + j, none⟩ = some (.int .i64 (F i j)) ∧ OkI (F i j) := fun i hi j hj => by
      obtain ⟨n, h1, h2⟩ := h i hi j hj
      have : F i j = n := by show iof ((W.cell? ⟨b, off + i * m + j, none⟩).getD undef) = n; rw [h1]; rfl
      rw [this]
      exact ⟨h1, i64_of_wf h2⟩
    refine ⟨(List.range len).map fun i => (List.range m).map (F i), some ⟨b, off, none⟩, cap, by simp, by simp; omega, fun z hz => ?_, .inr ⟨b, off, rfl, fun k hk j hj => ?_⟩⟩
    · obtain ⟨i, hi, rfl⟩ := List.mem_map.1 hz
      refine ⟨by simp, fun x hx => ?_⟩
      obtain ⟨j, hj, rfl⟩ := List.mem_map.1 hx
      exact (hF i (List.mem_range.1 hi) j (List.mem_range.1 hj)).2
    · have hk' : k < len := by simpa using hk
      rw [(hF k hk' j hj).1]
      simp [List.getD_eq_getElem?_getD, List.getElem?_map, List.getElem?_range hj]
/-- A struct of ints. -/
theorem struct_ints {t : TypeId} {fs : Array Field} {m : Nat} {fuel : Nat} {cs : List Value} {x : DataW H × List MemPlace} (ht : Try.prog.underlying t = some (.struct fs)) (hct : Try.prog.cellsOf t = m) (hm : fs.size = m)
    (hf : ∀ j, j < m → ∃ f, fs[j]? = some f ∧ f.type = 3 ∧ f.offset = j)
    (h : DataW.trod enc Try.prog W 0 (fun _ => true) true fuel t cs = some x) : cs.length = m ∧ ∀ i, i < m → ∃ n, cs[i]? = some (.int .i64 n) ∧ (Lit.int .i64 n).wf = true := by
  obtain ⟨xs, n, -, -, hl, hx, hg⟩ := DataW.trod_struct ht h
  rw [hct] at hl
  refine ⟨hl, fun i hi => ?_⟩
  obtain ⟨f, hfi, h1, h2⟩ := hf i hi
  have h3 := hg i f hfi
  have hxi : i < xs.length := by rw [hx, hm]; exact hi
  rw [List.getElem?_eq_getElem hxi, h1, h2, kk3] at h3
  obtain ⟨z, e1, -, e2⟩ := DataW.trod_int Try.underlying3 h3
  have hic : i < cs.length := by omega
  rw [List.drop_eq_getElem_cons hic, List.take_succ_cons, List.take_zero] at e1
  simp only [List.cons.injEq, and_true] at e1
  exact ⟨z, by rw [List.getElem?_eq_getElem hic, e1], e2⟩
theorem slice_srows {t e : TypeId} {fs : Array Field} {m : Nat} {fuel : Nat} {cs : List Value} {x : DataW H × List MemPlace} (ht : Try.prog.underlying t = some (.slice e)) (hte : Try.prog.underlying e = some (.struct fs)) (hct : Try.prog.cellsOf e = m) (hfs : fs.size = m)
    (hf : ∀ j, j < m → ∃ f, fs[j]? = some f ∧ f.type = 3 ∧ f.offset = j) (hm : 0 < m)
    (h : DataW.trod enc Try.prog W 0 (fun _ => true) true fuel t cs = some x) :
    ∃ A len cap, cs = [.slice A len cap] ∧ len ≤ maxLen ∧ (len = 0 ∨ ∃ b off, A = some ⟨b, off, none⟩ ∧ ∀ i, i < len → ∀ j, j < m → ∃ n, W.cell? ⟨b, off + i * m + j, none⟩ = some (.int .i64 n) ∧ (Lit.int .i64 n).wf = true) := by
  rcases DataW.trod_slice ht h with ⟨rfl, -⟩ | ⟨a, len, cap, elems, rest, n, -, rfl, -, -, hl, hmx, hlen, hel, -, -⟩
  · exact ⟨none, 0, 0, rfl, Nat.zero_le _, .inl rfl⟩
  · refine ⟨some a, len, cap, rfl, by omega, ?_⟩
    rcases Nat.eq_zero_or_pos len with h0 | h0
    · exact .inl h0
    · have key : ∀ i, i < len → ∀ j, j < m → ∃ z, W.cell? ((a.add (i * m)).add j) = some (.int .i64 z) ∧ (Lit.int .i64 z).wf = true := by
        intro i hi j hj
        have h1 := hel i hi
        rw [List.getElem?_eq_getElem (by omega)] at h1
        obtain ⟨ecs, h2, h3⟩ := Option.bind_eq_some_iff.1 h1
        obtain ⟨h4, h5⟩ := struct_ints hte hct hfs hf h3
        obtain ⟨z, h6, h7⟩ := h5 j hj
        have := (World.cells?_some h2).2.2 j (by rw [hct]; exact hj)
        rw [hct] at this
        exact ⟨z, by rw [this, h6], h7⟩
      obtain ⟨b, off, spot⟩ := a
      obtain ⟨z0, hz0, -⟩ := key 0 h0 0 hm
      have hspot : spot = none := by simpa [Addr.add] using World.cell?_spot hz0
      subst hspot
      refine .inr ⟨b, off, rfl, fun i hi j hj => ?_⟩
      obtain ⟨z, h1, h2⟩ := key i hi j hj
      exact ⟨z, by simpa [Go.WideShapes.add_plain] using h1, h2⟩
theorem ird_of_trod {t : TypeId} (ht : Try.prog.underlying t = some (.slice 3)) {fuel : Nat} {cs : List Value} {x : DataW H × List MemPlace} (h : DataW.trod enc Try.prog W 0 (fun _ => true) true fuel t cs = some x) : ∃ v ls, cs = [v] ∧ IRd W v ls := by
  rcases open_ints ht Try.underlying3 kk3 h with ⟨rfl, -⟩ | ⟨a, len, cap, zs, rfl, -, hl, hm, hz, -, hc, hw⟩
  · exact ⟨_, [], rfl, none, 0, rfl, by simp, by simp, .inl rfl⟩
  · have hlen : (zs.take len).length = len := by rw [List.length_take, hz]; simp; omega
    unfold maxLen at hm
    refine ⟨_, zs.take len, rfl, some a, cap, by rw [hlen], by rw [hlen]; omega, fun z hz => i64_of_wf (hw z (List.mem_of_mem_take hz)), ?_⟩
    rcases Nat.eq_zero_or_pos len with rfl | hpos
    · exact .inl rfl
    · have hzl : len ≤ zs.length := by rw [hz]; simp; omega
      obtain ⟨b, off, rfl, hcell⟩ := ints_at hc (by omega)
      refine .inr ⟨b, off, rfl, fun k hk => ?_⟩
      rw [hlen] at hk
      rw [hcell k (by omega), List.getElem_take, List.getD_eq_getElem?_getD, List.getElem?_eq_getElem (by omega)]
      rfl
theorem open_IRd {r : Go.Reach} {b0 : Nat} {v : Value} {d : DataW H} {ps : List MemPlace} (hval : Value.okWide Try.prog W r b0 36 v) (hd : DataW.Trod enc Try.prog W 0 (fun _ => true) true 36 v d ps) : ∃ ls, IRd W v ls := by
  obtain ⟨fuel, hf⟩ := hd
  obtain ⟨a, l, c, rfl⟩ := okWide_slice Try.underlying36 hval
  obtain ⟨v, ls, hcs, hr⟩ := ird_of_trod Try.underlying36 hf
  simp [Value.cells] at hcs
  subst hcs
  exact ⟨ls, hr⟩
/-- The acts. -/
theorem open_acts {r : Go.Reach} {b0 : Nat} {v : Value} {d : DataW H} {ps : List MemPlace} (hval : Value.okWide Try.prog W r b0 22 v) (hd : DataW.Trod enc Try.prog W 0 (fun _ => true) true 22 v d ps) : ∃ ls, RN 4 W v ls := by
  obtain ⟨fuel, hf⟩ := hd
  obtain ⟨a, l, c, rfl⟩ := okWide_slice Try.underlying22 hval
  obtain ⟨A, len, cap, e, h1, h2⟩ := slice_srows (m := 4) Try.underlying22 Try.underlying46 kk46 rfl (fun j hj => by
    match j, hj with
    | 0, _ => exact ⟨_, rfl, rfl, rfl⟩
    | 1, _ => exact ⟨_, rfl, rfl, rfl⟩
    | 2, _ => exact ⟨_, rfl, rfl, rfl⟩
    | 3, _ => exact ⟨_, rfl, rfl, rfl⟩) (by decide) hf
  simp [Value.cells] at e
  obtain ⟨rfl, rfl, rfl⟩ := e
  exact rows_RN h1 h2
end
end Go.Proofs.Ytbeoihjfjkbfhaa
