/-
  The frame of a law over slices of ints: the arguments read afterwards as before, where the world has only grown. Nothing is asked.
  A law whose walk only lets the world grow: its arguments read afterwards as before, whatever their types. Nothing is asked.
  Arrays of numbers among the arguments, opened. Nothing is asked.
  A tender and duties by numbers, and acts, among the arguments, opened. Nothing is asked.
  The table of powers of ten, out of a row's condition on its listed variables.
-/
import Derived.Test.YtnplnfkmcfalhaaGreatDoorPb
import Derived.ReadAgain
import Derived.ChangeSlices
import Derived.ChangeReads
import Derived.ChangeOld
import Derived.ChangeStays
import Derived.Test.YtnplnfkmcfalhaaGreatDoorGdN
import Derived.OpenShut
import Derived.Test.YtnplnfkmcfalhaaGreatDoorGzF
import Derived.Test.YtnplnfkmcfalhaaGreatDoorTie
import Derived.LaidMore
import Derived.Stop.Joined
namespace Go.Proofs.YtnplnfkmcfalhaaGreatDoor
set_option linter.unusedVariables false
set_option linter.unusedSimpArgs false
open Go.RowKit Go.WideShapes Go.ChangeShapes

theorem sameAt_below {w w' : World} (hb : Below w.heap.size w w') (p : MemPlace) (hp : p.block < w.heap.size) : w.sameAt w' p := by
  cases p with
  | cell b off => exact Below.cell (p := ⟨b, off, none⟩) hb hp
  | map b => exact hb.block b hp
section
variable {H : Type} {enc : TypeId × Value → H} {P : Program} {w w' : World} {base : Nat} {sp : Nat → Bool} {held : Bool}
theorem trodAll_below (hb : Below w.heap.size w w') : ∀ {ts : List TypeId} {vs : List Value} {ds : List (DataW H)} {ps : List MemPlace}, DataW.TrodAll enc P w base sp held ts vs ds ps → DataW.TrodAll enc P w' base sp held ts vs ds ps
  | [], [], [], _, h => h
  | t :: ts, v :: vs, d :: ds, ps, h => by
    obtain ⟨p, q, ⟨fuel, hp⟩, hq, e⟩ := h
    exact ⟨p, q, ⟨fuel, DataW.trod_carry fuel t _ _ hp fun x hx => sameAt_below hb x (DataW.trod_lt fuel t _ _ hp x hx)⟩, trodAll_below hb hq, e⟩
  | [], _ :: _, _, _, h => h.elim
  | [], [], _ :: _, _, h => h.elim
  | _ :: _, [], _, _, h => h.elim
  | _ :: _, _ :: _, [], _, h => h.elim
end

theorem kids : Kids Tryz.prog (· < Tryz.prog.types.size) := kids_rows (by kernel_rfl) (by kernel_rfl)
theorem full : ∀ t e, t < Tryz.prog.types.size → Tryz.prog.underlying t = some (.slice e) → 0 < Tryz.prog.cellsOf e := slices_full_of Tryz.prog (by kernel_rfl)
theorem own : ownKnob Tryz.prog.godebug = none := by kernel_rfl
theorem cells3 : Tryz.prog.cellsOf 3 = 1 := by kernel_rfl

end Go.Proofs.YtnplnfkmcfalhaaGreatDoor
namespace Go.Proofs.YtnplnfkmcfalhaaGreatDoor
set_option linter.unusedVariables false
set_option linter.unusedSimpArgs false
open Go.RowKit Go.WideShapes Go.ChangeShapes
set_option maxRecDepth 100000

section
variable {H : Type} {enc : TypeId × Value → H} {W W' : World} {sp : Nat → Bool}
theorem trodAll_stay (hb : Below W.heap.size W W') : ∀ {ts : List TypeId} {vs : List Value} {ds : List (DataW H)} {ps : List MemPlace}, (∀ t ∈ ts, t < Tryz.prog.types.size) →
    DataW.TrodAll enc Tryz.prog W 0 (fun _ => true) true ts vs ds ps → (∀ p ∈ ps, sp p.block = true) → DataW.TrodAll enc Tryz.prog W' 0 sp true ts vs ds ps
  | [], [], [], _, _, h, _ => h
  | t :: ts, v :: vs, d :: ds, ps, ht, h, hs => by
    obtain ⟨p, q, ⟨fuel, hp⟩, hq, e⟩ := h
    subst e
    refine ⟨p, q, ⟨fuel, ?_⟩, trodAll_stay hb (fun t h => ht t (List.mem_cons_of_mem _ h)) hq (fun x hx => hs x (List.mem_append_right _ hx)), rfl⟩
    exact DataW.trod_stays kids (fun {t e} ht hu => full t e ht hu) (fun h => by cases h) (ht t List.mem_cons_self) hp
      (fun x hx => sameAt_below hb x (DataW.trod_lt fuel t _ _ hp x hx)) (fun x hx => hs x (List.mem_append_left _ hx))
  | [], _ :: _, _, _, _, h, _ => h.elim
  | [], [], _ :: _, _, _, h, _ => h.elim
  | _ :: _, [], _, _, _, h, _ => h.elim
  | _ :: _, _ :: _, [], _, _, h, _ => h.elim

theorem i64_of_wf {n : Int} (h : (Lit.int .i64 n).wf = true) : -9223372036854775808 ≤ n ∧ n ≤ 9223372036854775807 := by
  simpa [Lit.wf, IntKind.min, IntKind.max, IntKind.signed, IntKind.bits] using h
end
end Go.Proofs.YtnplnfkmcfalhaaGreatDoor
namespace Go.Proofs.YtnplnfkmcfalhaaGreatDoor
set_option linter.unusedVariables false
set_option linter.unusedSimpArgs false
open Go.RowKit Go.WideShapes Go.ChangeShapes
set_option maxRecDepth 100000

section
variable {H : Type} {enc : TypeId × Value → H} {W : World}
theorem k5 : Tryz.prog.cellsOf 5 = 1 := by kernel_rfl
theorem u8_of_wf {n : Int} (h : (Lit.int .u8 n).wf = true) : 0 ≤ n ∧ n ≤ 255 := by
  simpa [Lit.wf, IntKind.min, IntKind.max, IntKind.signed, IntKind.bits] using h
theorem lst2 {α : Type} : ∀ (l : List α), l.length = 2 → ∃ x y, l = [x, y]
  | [x, y], _ => ⟨x, y, rfl⟩
theorem okWide_array {t e : TypeId} {m : Nat} {r : Reach} {b0 : Nat} {v : Value} (ht : Tryz.prog.underlying t = some (.array m e)) (h : Value.okWide Tryz.prog W r b0 t v) : ∃ cs, v = .agg cs ∧ cs.size = Tryz.prog.cellsOf t := by
  unfold Value.okWide at h
  rw [ht] at h
  obtain ⟨cs, h1, h2, -⟩ := h
  exact ⟨cs, h1, h2⟩
/-- An array of m ints. -/
theorem arr_ints {t e : TypeId} {m : Nat} {k : IntKind} {fuel : Nat} {cs : List Value} {x : DataW H × List MemPlace} (ht : Tryz.prog.underlying t = some (.array m e)) (he : Tryz.prog.underlying e = some (.int k)) (hc : Tryz.prog.cellsOf e = 1) (hct : Tryz.prog.cellsOf t = m)
    (h : DataW.trod enc Tryz.prog W 0 (fun _ => true) true fuel t cs = some x) : cs.length = m ∧ ∀ i, i < m → ∃ n, cs[i]? = some (.int k n) ∧ (Lit.int k n).wf = true := by
  cases fuel with
  | zero => simp [DataW.trod] at h
  | succ n =>
    have key : ∃ xs, cs.length = Tryz.prog.cellsOf t ∧ ((List.range m).mapM fun i => DataW.trod enc Tryz.prog W 0 (fun _ => true) true n e ((cs.drop (i * Tryz.prog.cellsOf e)).take (Tryz.prog.cellsOf e))) = some xs := by
      clear hc hct he
      unfold DataW.trod at h
      rw [ht] at h
      have fin : ∀ (cs : List Value) (x : DataW H × List MemPlace), (if cs.length = Tryz.prog.cellsOf t then Option.map (fun xs => (DataW.agg (List.map (fun x => x.fst) xs), List.flatMap (fun x => x.snd) xs)) (List.mapM (fun i => DataW.trod enc Tryz.prog W 0 (fun _ => true) true n e (List.take (Tryz.prog.cellsOf e) (List.drop (i * Tryz.prog.cellsOf e) cs))) (List.range m)) else none) = some x →
          ∃ xs, cs.length = Tryz.prog.cellsOf t ∧ ((List.range m).mapM fun i => DataW.trod enc Tryz.prog W 0 (fun _ => true) true n e ((cs.drop (i * Tryz.prog.cellsOf e)).take (Tryz.prog.cellsOf e))) = some xs := by
        intro cs x h
        split at h
        · rename_i hl
          obtain ⟨xs, hx, -⟩ := Option.map_eq_some_iff.1 h
          exact ⟨xs, hl, hx⟩
        · cases h
      split at h <;> first | (rename_i heq; cases heq; done) | (rename_i heq; injection heq with heq; injection heq with e1 e2; subst e1 e2; exact fin _ _ h) | exact fin _ _ h | (rename_i heq; injection heq with heq; cases heq; done)
    obtain ⟨xs, hl, hp⟩ := key
    rw [hct] at hl
    rw [hc] at hp
    simp only [Nat.mul_one] at hp
    refine ⟨hl, ?_⟩
    intro i hi
    have hg := mapM_some_get hp i i (by simp [hi])
    have hlen := mapM_some_length hp
    have hx : i < xs.length := by rw [hlen]; simpa using hi
    rw [List.getElem?_eq_getElem hx] at hg
    obtain ⟨n', h1, _, h3⟩ := DataW.trod_int he hg
    refine ⟨n', ?_, h3⟩
    have hi' : i < cs.length := by omega
    rw [List.drop_eq_getElem_cons hi', List.take_succ_cons, List.take_zero] at h1
    simp only [List.cons.injEq, and_true] at h1
    rw [List.getElem?_eq_getElem hi', h1]
end
end Go.Proofs.YtnplnfkmcfalhaaGreatDoor
namespace Go.Proofs.YtnplnfkmcfalhaaGreatDoor
set_option linter.unusedVariables false
set_option linter.unusedSimpArgs false
open Go.RowKit Go.WideShapes Go.ChangeShapes
set_option maxRecDepth 100000

section
variable {H : Type} {enc : TypeId × Value → H} {W : World}
theorem k3 : Tryz.prog.cellsOf 3 = 1 := by kernel_rfl
theorem slice_rows {t e u : TypeId} {m : Nat} {k : IntKind} {fuel : Nat} {cs : List Value} {x : DataW H × List MemPlace} (ht : Tryz.prog.underlying t = some (.slice e)) (hte : Tryz.prog.underlying e = some (.array m u)) (he : Tryz.prog.underlying u = some (.int k)) (hc : Tryz.prog.cellsOf u = 1) (hct : Tryz.prog.cellsOf e = m) (hm : 0 < m)
    (h : DataW.trod enc Tryz.prog W 0 (fun _ => true) true fuel t cs = some x) :
    ∃ A len cap, cs = [.slice A len cap] ∧ len ≤ maxLen ∧ (len = 0 ∨ ∃ b off, A = some ⟨b, off, none⟩ ∧ ∀ i, i < len → ∀ j, j < m → ∃ n, W.cell? ⟨b, off + i * m + j, none⟩ = some (.int k n) ∧ (Lit.int k n).wf = true) := by
  rcases DataW.trod_slice ht h with ⟨rfl, -⟩ | ⟨a, len, cap, elems, rest, n, -, rfl, -, -, hl, hmx, hlen, hel, -, -⟩
  · exact ⟨none, 0, 0, rfl, Nat.zero_le _, .inl rfl⟩
  · refine ⟨some a, len, cap, rfl, by omega, ?_⟩
    rcases Nat.eq_zero_or_pos len with h0 | h0
    · exact .inl h0
    · have key : ∀ i, i < len → ∀ j, j < m → ∃ z, W.cell? ((a.add (i * m)).add j) = some (.int k z) ∧ (Lit.int k z).wf = true := by
        intro i hi j hj
        have h1 := hel i hi
        rw [List.getElem?_eq_getElem (by omega)] at h1
        obtain ⟨ecs, h2, h3⟩ := Option.bind_eq_some_iff.1 h1
        obtain ⟨h4, h5⟩ := arr_ints hte he hc hct h3
        obtain ⟨z, h6, h7⟩ := h5 j hj
        have := (World.cells?_some h2).2.2 j (by rw [hct]; exact hj)
        rw [hct] at this
        exact ⟨z, by rw [this, h6], h7⟩
      obtain ⟨b, off, spot⟩ := a
      obtain ⟨z0, hz0, -⟩ := key 0 h0 0 hm
      have hspot : spot = none := by simpa [Addr.add] using World.cell?_spot hz0
      subst hspot
      refine .inr ⟨b, off, rfl, fun i hi j hj => ?_⟩
      obtain ⟨z, h1, h2⟩ := key i hi j hj
      exact ⟨z, by simpa [Go.WideShapes.add_plain] using h1, h2⟩

/-- Rows of ints, as lists. -/
theorem rows_RN {m : Nat} {A : Option Addr} {len cap : Nat} (hl : len ≤ maxLen)
    (h : len = 0 ∨ ∃ b off, A = some ⟨b, off, none⟩ ∧ ∀ i, i < len → ∀ j, j < m → ∃ n, W.cell? ⟨b, off + i * m + j, none⟩ = some (.int .i64 n) ∧ (Lit.int .i64 n).wf = true) : ∃ ls, RN m W (.slice A len cap) ls := by
  unfold maxLen at hl
  rcases h with rfl | ⟨b, off, rfl, h⟩
  · exact ⟨[], A, cap, rfl, by simp, by simp, .inl rfl⟩
  · let F : Nat → Nat → Int := fun i j => iof ((W.cell? ⟨b, off + i * m + j, none⟩).getD undef)
    have hF : ∀ i, i < len → ∀ j, j < m → W.cell? ⟨b, off + i * m + j, none⟩ = some (.int .i64 (F i j)) ∧ OkI (F i j) := fun i hi j hj => by
      obtain ⟨n, h1, h2⟩ := h i hi j hj
      have : F i j = n := by show iof ((W.cell? ⟨b, off + i * m + j, none⟩).getD undef) = n; rw [h1]; rfl
      rw [this]
      exact ⟨h1, i64_of_wf h2⟩
    refine ⟨(List.range len).map fun i => (List.range m).map (F i), some ⟨b, off, none⟩, cap, by simp, by simp; omega, fun z hz => ?_, .inr ⟨b, off, rfl, fun k hk j hj => ?_⟩⟩
    · obtain ⟨i, hi, rfl⟩ := List.mem_map.1 hz
      refine ⟨by simp, fun x hx => ?_⟩
      obtain ⟨j, hj, rfl⟩ := List.mem_map.1 hx
      exact (hF i (List.mem_range.1 hi) j (List.mem_range.1 hj)).2
    · have hk' : k < len := by simpa using hk
      rw [(hF k hk' j hj).1]
      simp [List.getD_eq_getElem?_getD, List.getElem?_map, List.getElem?_range hj]
/-- A struct of ints. -/
theorem struct_ints {t : TypeId} {fs : Array Field} {m : Nat} {fuel : Nat} {cs : List Value} {x : DataW H × List MemPlace} (ht : Tryz.prog.underlying t = some (.struct fs)) (hct : Tryz.prog.cellsOf t = m) (hm : fs.size = m)
    (hf : ∀ j, j < m → ∃ f, fs[j]? = some f ∧ f.type = 3 ∧ f.offset = j)
    (h : DataW.trod enc Tryz.prog W 0 (fun _ => true) true fuel t cs = some x) : cs.length = m ∧ ∀ i, i < m → ∃ n, cs[i]? = some (.int .i64 n) ∧ (Lit.int .i64 n).wf = true := by
  obtain ⟨xs, n, -, -, hl, hx, hg⟩ := DataW.trod_struct ht h
  rw [hct] at hl
  refine ⟨hl, fun i hi => ?_⟩
  obtain ⟨f, hfi, h1, h2⟩ := hf i hi
  have h3 := hg i f hfi
  have hxi : i < xs.length := by rw [hx, hm]; exact hi
  rw [List.getElem?_eq_getElem hxi, h1, h2, k3] at h3
  obtain ⟨z, e1, -, e2⟩ := DataW.trod_int Tryz.underlying3 h3
  have hic : i < cs.length := by omega
  rw [List.drop_eq_getElem_cons hic, List.take_succ_cons, List.take_zero] at e1
  simp only [List.cons.injEq, and_true] at e1
  exact ⟨z, by rw [List.getElem?_eq_getElem hic, e1], e2⟩
theorem slice_srows {t e : TypeId} {fs : Array Field} {m : Nat} {fuel : Nat} {cs : List Value} {x : DataW H × List MemPlace} (ht : Tryz.prog.underlying t = some (.slice e)) (hte : Tryz.prog.underlying e = some (.struct fs)) (hct : Tryz.prog.cellsOf e = m) (hfs : fs.size = m)
    (hf : ∀ j, j < m → ∃ f, fs[j]? = some f ∧ f.type = 3 ∧ f.offset = j) (hm : 0 < m)
    (h : DataW.trod enc Tryz.prog W 0 (fun _ => true) true fuel t cs = some x) :
    ∃ A len cap, cs = [.slice A len cap] ∧ len ≤ maxLen ∧ (len = 0 ∨ ∃ b off, A = some ⟨b, off, none⟩ ∧ ∀ i, i < len → ∀ j, j < m → ∃ n, W.cell? ⟨b, off + i * m + j, none⟩ = some (.int .i64 n) ∧ (Lit.int .i64 n).wf = true) := by
  rcases DataW.trod_slice ht h with ⟨rfl, -⟩ | ⟨a, len, cap, elems, rest, n, -, rfl, -, -, hl, hmx, hlen, hel, -, -⟩
  · exact ⟨none, 0, 0, rfl, Nat.zero_le _, .inl rfl⟩
  · refine ⟨some a, len, cap, rfl, by omega, ?_⟩
    rcases Nat.eq_zero_or_pos len with h0 | h0
    · exact .inl h0
    · have key : ∀ i, i < len → ∀ j, j < m → ∃ z, W.cell? ((a.add (i * m)).add j) = some (.int .i64 z) ∧ (Lit.int .i64 z).wf = true := by
        intro i hi j hj
        have h1 := hel i hi
        rw [List.getElem?_eq_getElem (by omega)] at h1
        obtain ⟨ecs, h2, h3⟩ := Option.bind_eq_some_iff.1 h1
        obtain ⟨h4, h5⟩ := struct_ints hte hct hfs hf h3
        obtain ⟨z, h6, h7⟩ := h5 j hj
        have := (World.cells?_some h2).2.2 j (by rw [hct]; exact hj)
        rw [hct] at this
        exact ⟨z, by rw [this, h6], h7⟩
      obtain ⟨b, off, spot⟩ := a
      obtain ⟨z0, hz0, -⟩ := key 0 h0 0 hm
      have hspot : spot = none := by simpa [Addr.add] using World.cell?_spot hz0
      subst hspot
      refine .inr ⟨b, off, rfl, fun i hi j hj => ?_⟩
      obtain ⟨z, h1, h2⟩ := key i hi j hj
      exact ⟨z, by simpa [Go.WideShapes.add_plain] using h1, h2⟩
theorem ird_of_trod {t : TypeId} (ht : Tryz.prog.underlying t = some (.slice 3)) {fuel : Nat} {cs : List Value} {x : DataW H × List MemPlace} (h : DataW.trod enc Tryz.prog W 0 (fun _ => true) true fuel t cs = some x) : ∃ v ls, cs = [v] ∧ IRd W v ls := by
  rcases open_ints ht Tryz.underlying3 k3 h with ⟨rfl, -⟩ | ⟨a, len, cap, zs, rfl, -, hl, hm, hz, -, hc, hw⟩
  · exact ⟨_, [], rfl, none, 0, rfl, by simp, by simp, .inl rfl⟩
  · have hlen : (zs.take len).length = len := by rw [List.length_take, hz]; simp; omega
    unfold maxLen at hm
    refine ⟨_, zs.take len, rfl, some a, cap, by rw [hlen], by rw [hlen]; omega, fun z hz => i64_of_wf (hw z (List.mem_of_mem_take hz)), ?_⟩
    rcases Nat.eq_zero_or_pos len with rfl | hpos
    · exact .inl rfl
    · have hzl : len ≤ zs.length := by rw [hz]; simp; omega
      obtain ⟨b, off, rfl, hcell⟩ := ints_at hc (by omega)
      refine .inr ⟨b, off, rfl, fun k hk => ?_⟩
      rw [hlen] at hk
      rw [hcell k (by omega), List.getElem_take, List.getD_eq_getElem?_getD, List.getElem?_eq_getElem (by omega)]
      rfl
theorem open_IRd {r : Go.Reach} {b0 : Nat} {v : Value} {d : DataW H} {ps : List MemPlace} (hval : Value.okWide Tryz.prog W r b0 60 v) (hd : DataW.Trod enc Tryz.prog W 0 (fun _ => true) true 60 v d ps) : ∃ ls, IRd W v ls := by
  obtain ⟨fuel, hf⟩ := hd
  obtain ⟨a, l, c, rfl⟩ := okWide_slice Tryz.underlying60 hval
  obtain ⟨v, ls, hcs, hr⟩ := ird_of_trod Tryz.underlying60 hf
  simp [Value.cells] at hcs
  subst hcs
  exact ⟨ls, hr⟩
theorem k23 : Tryz.prog.cellsOf 61 = 1 := by kernel_rfl
theorem k24 : Tryz.prog.cellsOf 62 = 1 := by kernel_rfl
theorem k22 : Tryz.prog.cellsOf 60 = 1 := by kernel_rfl
theorem k26 : Tryz.prog.cellsOf 64 = 3 := by kernel_rfl
theorem k79 : Tryz.prog.cellsOf 110 = 4 := by kernel_rfl
theorem k72 : Tryz.prog.cellsOf 111 = 2 := by kernel_rfl
theorem k61 : Tryz.prog.cellsOf 76 = 8 := by kernel_rfl
/-- The acts. -/
theorem open_acts {r : Go.Reach} {b0 : Nat} {v : Value} {d : DataW H} {ps : List MemPlace} (hval : Value.okWide Tryz.prog W r b0 65 v) (hd : DataW.Trod enc Tryz.prog W 0 (fun _ => true) true 65 v d ps) : ∃ ls, RN 8 W v ls := by
  obtain ⟨fuel, hf⟩ := hd
  obtain ⟨a, l, c, rfl⟩ := okWide_slice Tryz.underlying65 hval
  obtain ⟨A, len, cap, e, h1, h2⟩ := slice_srows (m := 8) Tryz.underlying65 Tryz.underlying76 k61 rfl (fun j hj => by
    match j, hj with
    | 0, _ => exact ⟨_, rfl, rfl, rfl⟩
    | 1, _ => exact ⟨_, rfl, rfl, rfl⟩
    | 2, _ => exact ⟨_, rfl, rfl, rfl⟩
    | 3, _ => exact ⟨_, rfl, rfl, rfl⟩
    | 4, _ => exact ⟨_, rfl, rfl, rfl⟩
    | 5, _ => exact ⟨_, rfl, rfl, rfl⟩
    | 6, _ => exact ⟨_, rfl, rfl, rfl⟩
    | 7, _ => exact ⟨_, rfl, rfl, rfl⟩) (by decide) hf
  simp [Value.cells] at e
  obtain ⟨rfl, rfl, rfl⟩ := e
  exact rows_RN h1 h2
theorem lst3 {α : Type} : ∀ (l : List α), l.length = 3 → ∃ x y z, l = [x, y, z]
  | [x, y, z], _ => ⟨x, y, z, rfl⟩
theorem okWide_strct {t : TypeId} {fs : Array Field} {r : Reach} {b0 : Nat} {v : Value} (ht : Tryz.prog.underlying t = some (.struct fs)) (h : Value.okWide Tryz.prog W r b0 t v) : ∃ cs, v = .agg cs ∧ cs.size = Tryz.prog.cellsOf t := by
  unfold Value.okWide at h
  rw [ht] at h
  obtain ⟨cs, h1, h2, -⟩ := h
  exact ⟨cs, h1, h2⟩
/-- A tender and duties by numbers. -/
theorem open_case {r : Go.Reach} {b0 : Nat} {v : Value} {d : DataW H} {ps : List MemPlace} (hval : Value.okWide Tryz.prog W r b0 64 v) (hd : DataW.Trod enc Tryz.prog W 0 (fun _ => true) true 64 v d ps) :
    ∃ v0 v1 v2 ls cs ds, v = .agg #[v0, v1, v2] ∧ IRd W v0 ls ∧ RN 4 W v1 cs ∧ RN 2 W v2 ds := by
  obtain ⟨fuel, hf⟩ := hd
  obtain ⟨cs, rfl, hsz⟩ := okWide_strct Tryz.underlying64 hval
  rw [k26] at hsz
  obtain ⟨c0, c1, c2, hl⟩ := lst3 cs.toList (by simpa using hsz)
  obtain rfl : cs = #[c0, c1, c2] := by cases cs; simp_all
  obtain ⟨xs, n, rfl, -, -, hx, hg⟩ := DataW.trod_struct Tryz.underlying64 hf
  have hx3 : xs.length = 3 := hx
  have some_of : ∀ i, i < 3 → ∃ y, xs[i]? = some y := fun i hi => ⟨_, List.getElem?_eq_getElem (by omega)⟩
  obtain ⟨y0, hy0⟩ := some_of 0 (by decide)
  obtain ⟨y1, hy1⟩ := some_of 1 (by decide)
  obtain ⟨y2, hy2⟩ := some_of 2 (by decide)
  have f0 : DataW.trod enc Tryz.prog W 0 (fun _ => true) true n 60 (List.take (Tryz.prog.cellsOf 60) [c0, c1, c2]) = xs[0]? := hg 0 _ rfl
  have f1 : DataW.trod enc Tryz.prog W 0 (fun _ => true) true n 61 (List.take (Tryz.prog.cellsOf 61) [c1, c2]) = xs[1]? := hg 1 _ rfl
  have f2 : DataW.trod enc Tryz.prog W 0 (fun _ => true) true n 62 (List.take (Tryz.prog.cellsOf 62) [c2]) = xs[2]? := hg 2 _ rfl
  rw [k22, hy0] at f0
  rw [k23, hy1] at f1
  rw [k24, hy2] at f2
  obtain ⟨v0, ls, e0, r0⟩ := ird_of_trod Tryz.underlying60 f0
  obtain ⟨A1, n1, p1, e1, m1, g1⟩ := slice_rows Tryz.underlying61 Tryz.underlying110 Tryz.underlying3 k3 k79 (by decide) f1
  obtain ⟨A2, n2, p2, e2, m2, g2⟩ := slice_rows Tryz.underlying62 Tryz.underlying111 Tryz.underlying3 k3 k72 (by decide) f2
  simp only [List.take_succ_cons, List.take_zero, List.cons.injEq, and_true] at e0 e1 e2
  subst e0 e1 e2
  obtain ⟨cs, r1⟩ := rows_RN m1 g1
  obtain ⟨ds, r2⟩ := rows_RN m2 g2
  exact ⟨_, _, _, ls, cs, ds, rfl, r0, r1, r2⟩
end
end Go.Proofs.YtnplnfkmcfalhaaGreatDoor
namespace Go.Proofs.YtnplnfkmcfalhaaGreatDoor
set_option linter.unusedVariables false
set_option linter.unusedSimpArgs false
open Go.RowKit
set_option maxRecDepth 100000

theorem gT : Tryz.prog.globalNamed "internal/strconv.uint64pow10" = some 0 := by kernel_rfl
theorem gTty : (Tryz.prog.globals[0]?).map (·.type) = some 185 := by kernel_rfl
theorem laid_pow : (Rows.laid_internal_strconv_uint64pow10 : DataW Unit) = Lib.tabData .u64 Lib.pow10Tab := by rfl
theorem tab_of_laid {W : World} (h : laidMetH Tryz.prog [("math/bits.deBruijn32tab", Rows.laid_math_bits_deBruijn32tab), ("math/bits.deBruijn64tab", Rows.laid_math_bits_deBruijn64tab), ("internal/strconv.uint64pow10", Rows.laid_internal_strconv_uint64pow10)] W) : TabW W := by
  rw [MakeChecks.laidMetH_plain _ _ _ (by kernel_rfl)] at h
  obtain ⟨ps, ⟨g0, t0, cs0, f0, p0, q0, hg0, ht0, hv0, hd0, ⟨g1, t1, cs1, f1, p1, q1, hg1, ht1, hv1, hd1, ⟨g2, t2, cs2, f2, p2, q2, hg2, ht2, hv2, hd2, _, _⟩, _⟩, _⟩, _, _⟩ := h
  obtain rfl := Option.some.inj (gT.symm.trans hg2)
  obtain rfl := Option.some.inj (gTty.symm.trans ht2)
  rw [laid_pow] at hd2
  unfold TabW Lib.TabIs
  rw [hv2, ← Lib.cells_of_tab Tryz.underlying185 Tryz.underlying144 (by kernel_rfl) (by kernel_rfl) hd2]
end Go.Proofs.YtnplnfkmcfalhaaGreatDoor
