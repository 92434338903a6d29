/-
  Joined: the lemmas of this claim that other texts of it use, part 4. Nothing is asked.
-/
import Derived.Test.YtlekdhhgjhakgaaJnC
import Derived.Laws.EntriesVeiled
import Derived.Deep.RegionHeld3
namespace Go.Proofs.Ytlekdhhgjhakgaa
set_option linter.unusedVariables false
set_option linter.unusedSimpArgs false
open Go.RowKit
/-- Rows of places, to read. -/
structure FX (w : World) (v : Value) (us : List Value) (R : List (List Nat)) : Prop where
  form : ∃ A cap, v = .slice A R.length cap ∧ R.length ≤ cap ∧ (R = [] ∨ ∃ b, A = some ⟨b, 0, none⟩ ∧ ∀ i (h : i < us.length), w.cell? ⟨b, i, none⟩ = some us[i])
  len : us.length = R.length
  el : ∀ i (h : i < us.length) (h' : i < R.length), IRd w us[i] (natI R[i])
theorem FX.ext {w w' : World} {v : Value} {us : List Value} {R : List (List Nat)} (h : FX w v us R) (x : Ext w w') : FX w' v us R := by
  refine ⟨?_, h.len, fun i a b => (h.el i a b).ext x⟩
  obtain ⟨A, cap, hv, hle, h1⟩ := h.form
  refine ⟨A, cap, hv, hle, h1.imp id ?_⟩
  rintro ⟨b, hA, hc⟩
  exact ⟨b, hA, fun i hi => (x.cells.1 _ _ (World.block_lt_of_cell? w _ (hc i hi))).trans (hc i hi)⟩
theorem FX.nil (w : World) : FX w (.slice none 0 0) [] [] := ⟨⟨none, 0, rfl, by simp, .inl rfl⟩, rfl, fun i h => absurd h (Nat.not_lt_zero _)⟩
/-- How often k has been taken: the first j rows, and t of the next. -/
def took (R : List (List Nat)) (j t k : Nat) : Nat := cnt (rowF R) j k + (decide (k ∈ (R.getD j []).take t)).toNat
theorem took_zero (R : List (List Nat)) (j k : Nat) : took R j 0 k = cnt (rowF R) j k := by unfold took; simp
theorem took_all (R : List (List Nat)) (j k : Nat) (h : j < R.length) : took R j (R[j]).length k = took R (j + 1) 0 k := by
  rw [took_zero]
  unfold took
  rw [getD_at h, List.take_length]
  show _ = sm _ j + (rowF R j k).toNat
  unfold rowF
  rw [getD_at h]
  rfl
theorem took_step (R : List (List Nat)) (j t k : Nat) (h : j < R.length) (ht : t < (R[j]).length) (hn : (R[j]).Nodup) : took R j (t + 1) k = took R j t k + if k = (R[j])[t] then 1 else 0 := by
  unfold took
  rw [getD_at h, List.take_succ_eq_append_getElem ht, Nat.add_assoc]
  congr 1
  have hx : (R[j])[t] ∉ (R[j]).take t := by
    intro hm
    obtain ⟨i, hi, e⟩ := List.mem_take_iff_getElem.1 hm
    have : i = t := (List.getElem_inj hn).1 e
    omega
  have h1 : ∀ (l : List Nat) (x : Nat), decide (k ∈ l ++ [x]) = (decide (k ∈ l) || decide (k = x)) := fun l x => by simp
  rw [h1]
  by_cases e : k = (R[j])[t]
  · rw [if_pos e, e, decide_eq_false hx]
    simp
  · rw [if_neg e, decide_eq_false e, Bool.or_false]
    rfl
theorem took_le (R : List (List Nat)) (j t k : Nat) (h : j < R.length) : took R j t k ≤ cnt (rowF R) R.length k := by
  have h1 : took R j t k ≤ cnt (rowF R) (j + 1) k := by
    unfold took
    show _ ≤ sm _ j + (rowF R j k).toNat
    unfold rowF
    rw [getD_at h]
    refine Nat.add_le_add_left ?_ _
    by_cases e : k ∈ (R[j]).take t
    · simp [e, List.mem_of_mem_take e]
    · simp [e]
  have h2 : ∀ n, j + 1 ≤ n → cnt (rowF R) (j + 1) k ≤ cnt (rowF R) n k := by
    intro n hn
    induction n with
    | zero => omega
    | succ n ih =>
      by_cases e : j + 1 ≤ n
      · exact Nat.le_trans (ih e) (Nat.le_add_right _ _)
      · have : j = n := by omega
        subst this
        exact Nat.le_refl _
  exact Nat.le_trans h1 (h2 _ h)
/-- One has too many: there is no assignment. -/
theorem no_room {M R : List (List Nat)} {m each L k : Nat} (hR : R.length ≤ M.length) (hk : k < m) (h : L < cnt (rowF R) R.length k) : ¬ CanR M m each L R := by
  rintro ⟨D, hD, hF⟩
  have h1 := hD.cnt k hk
  have h2 : cnt (rowF R) R.length k = cnt D R.length k := sm_congr fun o ho => by rw [hF o ho k hk]
  have h3 : ∀ n, R.length ≤ n → cnt D R.length k ≤ cnt D n k := by
    intro n hn
    induction n with
    | zero => have : R.length = 0 := by omega
              rw [this]; exact Nat.le_refl _
    | succ n ih =>
      by_cases e : R.length ≤ n
      · exact Nat.le_trans (ih e) (Nat.le_add_right _ _)
      · have : R.length = n + 1 := by omega
        rw [this]; exact Nat.le_refl _
  have := h3 _ hR
  omega
/-- The table that the first rows make. -/
def firstD (R : List (List Nat)) : Nat → Nat → Bool := fun o k => if o < R.length then rowF R o k else false
theorem rowF_out (R : List (List Nat)) {o : Nat} (h : R.length ≤ o) (k : Nat) : rowF R o k = false := by
  unfold rowF
  rw [List.getD_eq_getElem?_getD, List.getElem?_eq_none h]
  simp
theorem cnt_rowF (R : List (List Nat)) (n k : Nat) (h : R.length ≤ n) : cnt (rowF R) n k = cnt (rowF R) R.length k := by
  induction n with
  | zero => have : R.length = 0 := by omega
            rw [this]
  | succ n ih =>
    by_cases e : R.length ≤ n
    · show cnt (rowF R) n k + (rowF R n k).toNat = _
      rw [ih e, rowF_out R e]
      rfl
    · have : R.length = n + 1 := by omega
      rw [this]
/-- How far the searches have come, to begin with. -/
theorem part_start {M R : List (List Nat)} {m each L : Nat} (hc : ∀ k, k < m → cnt (rowF R) R.length k ≤ L) (hR : R.length ≤ M.length) : Part (mayF M) M.length m each L R.length (rowF R) R.length 0 (rowF R) := by
  have h0 : ∀ o, R.length ≤ o → deg (rowF R) m o = 0 := fun o ho => sm_zero fun k _ => by rw [rowF_out R ho]; rfl
  exact ⟨fun _ _ _ _ => rfl, fun o ho _ k _ h => (by rw [rowF_out R ho] at h; cases h), fun o h1 h2 => by omega, fun _ => h0 _ (Nat.le_refl _), fun o h1 _ => h0 o (by omega), fun k hk => by rw [cnt_rowF R _ k hR]; exact hc k hk⟩
theorem Dk.mono {B B' : Nat} {w : World} {p : Nat} {ids : List Int} {ms : List (List Nat)} {each : Int} {iv mv : Value} {us : List Value} (h : Dk B w p ids ms each iv mv us) (hB : B' ≤ B) : Dk B' w p ids ms each iv mv us := ⟨h.at_, h.ids, h.may.mono hB⟩
theorem four_blocks (w : World) (a b c d : Obj) : (((( w.alloc a).alloc b).alloc c).alloc d).heap[w.heap.size]? = some a ∧ ((((w.alloc a).alloc b).alloc c).alloc d).heap[w.heap.size + 1]? = some b ∧ ((((w.alloc a).alloc b).alloc c).alloc d).heap[w.heap.size + 1 + 1]? = some c ∧ ((((w.alloc a).alloc b).alloc c).alloc d).heap[w.heap.size + 1 + 1 + 1]? = some d := by
  obtain ⟨h1, h2⟩ := two_blocks w a b
  obtain ⟨h3, h4⟩ := two_blocks ((w.alloc a).alloc b) c d
  have e : ((w.alloc a).alloc b).heap.size = w.heap.size + 1 + 1 := by simp
  have x : Ext ((w.alloc a).alloc b) ((((w.alloc a).alloc b).alloc c).alloc d) := Ext.alloc (Ext.alloc (Ext.refl _) _) _
  rw [e] at h3 h4
  exact ⟨(x.block _ (by rw [e]; omega)).trans h1, (x.block _ (by rw [e]; omega)).trans h2, h3, h4⟩
/-- What the captured variables hold, but for the row of those who have been seen. -/
structure FS0 (C : FC) (W : World) (R : Nat → Int) (D : Nat → Nat → Bool) : Prop where
  low : Ext C.w0 W
  bd : W.heap[C.bd]? = some (.cells #[.pointer (some ⟨C.p, 0, none⟩)] 70)
  bs : ∃ v, W.heap[C.bs]? = some (.cells #[v] 87)
  bh : W.heap[C.bh]? = some (.cells #[.slice (some ⟨C.hb, 0, none⟩) C.ms.length C.ms.length] 97)
  br : W.heap[C.br]? = some (.cells #[.slice (some ⟨C.rb, 0, none⟩) C.ids.length C.ids.length] 22)
  bf : W.heap[C.bf]? = some (.cells #[.slice C.fA C.f C.fc] 74)
  bz : W.heap[C.bz]? = some (.cells #[.func (.func 54) #[] #[.pointer (some ⟨C.bd, 0, none⟩), .pointer (some ⟨C.bs, 0, none⟩), .pointer (some ⟨C.bh, 0, none⟩), .pointer (some ⟨C.br, 0, none⟩), .pointer (some ⟨C.bf, 0, none⟩), .pointer (some ⟨C.bz, 0, none⟩)]] 98)
  room : W.heap[C.rb]? = some (.cells (tabV (fun k => .int .i64 (R k)) C.ids.length) 3)
  has : W.heap[C.hb]? = some (.cells (tabV (fun o => .map (some (C.hm o))) C.ms.length) 66)
  maps : ∀ o, C.f ≤ o → o < C.ms.length → ∃ fn, BM W (C.hm o) fn ∧ ∀ k, k < C.ids.length → fn (k : Int) = D o k
theorem FS.fs0 {C : FC} {W : World} {sb : Nat} {R : Nat → Int} {D : Nat → Nat → Bool} {T : Nat → Bool} (h : FS C W sb R D T) : FS0 C W R D := ⟨h.low, h.bd, ⟨_, h.bs⟩, h.bh, h.br, h.bf, h.bz, h.room, h.has, h.maps⟩
theorem FS0.ext {C : FC} {W W' : World} {R : Nat → Int} {D : Nat → Nat → Bool} (h : FS0 C W R D) (x : Ext W W') : FS0 C W' R D := by
  have k : ∀ b c t, W.heap[b]? = some (Obj.cells c t) → W'.heap[b]? = some (Obj.cells c t) := fun b c t hk => (x.block _ (Rg.lt_of_heap hk)).trans hk
  obtain ⟨v, hv⟩ := h.bs
  exact ⟨h.low.trans x, k _ _ _ h.bd, ⟨v, k _ _ _ hv⟩, k _ _ _ h.bh, k _ _ _ h.br, k _ _ _ h.bf, k _ _ _ h.bz, k _ _ _ h.room, k _ _ _ h.has, fun o a b => by
    obtain ⟨fn, h1, h2⟩ := h.maps o a b
    exact ⟨fn, h1.ext x, h2⟩⟩
/-- A new row of those who have been seen. -/
theorem FS0.fresh {C : FC} {W : World} {R : Nat → Int} {D : Nat → Nat → Bool} (h : FS0 C W R D) (hbs : C.w0.heap.size ≤ C.bs) :
    FS C ((W.alloc (.cells (tabV (fun _ => .bool false) C.ids.length) 4)).setCell ⟨C.bs, 0, none⟩ (.slice (some ⟨W.heap.size, 0, none⟩) C.ids.length C.ids.length)) W.heap.size R D fun _ => false := by
  have h1 := h.ext (Ext.alloc (Ext.refl W) (.cells (tabV (fun _ => .bool false) C.ids.length) 4))
  have hnew := alloc_at W (.cells (tabV (fun _ => .bool false) C.ids.length) 4)
  generalize W.alloc (.cells (tabV (fun _ => .bool false) C.ids.length) 4) = V at *
  obtain ⟨v, hv⟩ := h1.bs
  have kp : ∀ b c t, t ≠ 87 → V.heap[b]? = some (Obj.cells c t) → (V.setCell ⟨C.bs, 0, none⟩ (.slice (some ⟨W.heap.size, 0, none⟩) C.ids.length C.ids.length)).heap[b]? = some (Obj.cells c t) := fun b c t ht hk => (heap_setCell_other _ (cells_ne hk hv ht)).trans hk
  refine ⟨Ext.setCell h1.low hbs _, kp _ _ _ (by decide) h1.bd, (heap_setCell_row _ hv).trans rfl, kp _ _ _ (by decide) h1.bh, kp _ _ _ (by decide) h1.br, kp _ _ _ (by decide) h1.bf, kp _ _ _ (by decide) h1.bz, kp _ _ _ (by decide) h1.room, kp _ _ _ (by decide) h1.has, fun o a b => ?_, kp _ _ _ (by decide) hnew, h.low.size⟩
  obtain ⟨fn, h2, h3⟩ := h1.maps o a b
  exact ⟨fn, h2.of_block (heap_setCell_other _ (fun e => map_ne hv h2 e.symm)), h3⟩
abbrev fcOf (w0 : World) (p : Nat) (ids : List Int) (ms : List (List Nat)) (each : Int) (iv mv : Value) (us : List Value) (fA : Option Addr) (fc f bd bs bh br bf bz rb hb : Nat) (hm : Nat → Nat) : FC := ⟨w0, p, ids, ms, each, iv, mv, us, fA, fc, f, bd, bs, bh, br, bf, bz, rb, hb, hm⟩
/-- The row of maps that is being made. -/
structure F2 (C : FC) (i : Nat) (hm : Nat → Nat) (W : World) (R : Nat → Int) : Prop where
  low : Ext C.w0 W
  bd : W.heap[C.bd]? = some (.cells #[.pointer (some ⟨C.p, 0, none⟩)] 70)
  bs : ∃ v, W.heap[C.bs]? = some (.cells #[v] 87)
  bh : W.heap[C.bh]? = some (.cells #[.slice (some ⟨C.hb, 0, none⟩) C.ms.length C.ms.length] 97)
  br : W.heap[C.br]? = some (.cells #[.slice (some ⟨C.rb, 0, none⟩) C.ids.length C.ids.length] 22)
  bf : W.heap[C.bf]? = some (.cells #[.slice C.fA C.f C.fc] 74)
  bz : W.heap[C.bz]? = some (.cells #[.func (.func 54) #[] #[.pointer (some ⟨C.bd, 0, none⟩), .pointer (some ⟨C.bs, 0, none⟩), .pointer (some ⟨C.bh, 0, none⟩), .pointer (some ⟨C.br, 0, none⟩), .pointer (some ⟨C.bf, 0, none⟩), .pointer (some ⟨C.bz, 0, none⟩)]] 98)
  room : W.heap[C.rb]? = some (.cells (tabV (fun k => .int .i64 (R k)) C.ids.length) 3)
  has : W.heap[C.hb]? = some (.cells (tabV (fun o => .map (if o < i then some (hm o) else none)) C.ms.length) 66)
  maps : ∀ o, o < i → BM W (hm o) fun _ => false
  ge : ∀ o, o < i → C.w0.heap.size ≤ hm o
  inj : ∀ o q, o < i → q < i → hm o = hm q → o = q
theorem F2.made {C : FC} {i : Nat} {hm : Nat → Nat} {W : World} {R : Nat → Int} (h : F2 C i hm W R) (hhb : C.w0.heap.size ≤ C.hb) :
    F2 C (i + 1) (fun o => if o = i then W.heap.size else hm o) ((W.alloc (.map #[] 0)).setCell ⟨C.hb, i, none⟩ (.map (some W.heap.size))) R := by
  have x : Ext W (W.alloc (.map #[] 0)) := Ext.alloc (Ext.refl W) _
  have hnew := BM.made W
  have hlow := h.low.trans x
  have k1 : ∀ b c t, W.heap[b]? = some (Obj.cells c t) → (W.alloc (.map #[] 0)).heap[b]? = some (Obj.cells c t) := fun b c t hk => (x.block _ (Rg.lt_of_heap hk)).trans hk
  have hhas := k1 _ _ _ h.has
  have hmp : ∀ o, o < i → BM (W.alloc (.map #[] 0)) (hm o) fun _ => false := fun o ho => (h.maps o ho).ext x
  have hlt : ∀ o, o < i → hm o < W.heap.size := fun o ho => (h.maps o ho).lt
  obtain ⟨v, hv⟩ := h.bs
  generalize W.alloc (.map #[] 0) = V at *
  have kp : ∀ b c t, t ≠ 66 → W.heap[b]? = some (Obj.cells c t) → (V.setCell ⟨C.hb, i, none⟩ (.map (some W.heap.size))).heap[b]? = some (Obj.cells c t) := fun b c t ht hk => (heap_setCell_other _ (cells_ne (k1 _ _ _ hk) hhas ht)).trans (k1 _ _ _ hk)
  have kb : ∀ b f, BM V b f → BM (V.setCell ⟨C.hb, i, none⟩ (.map (some W.heap.size))) b f := fun b f hb => hb.of_block (heap_setCell_other _ (fun e => map_ne hhas hb e.symm))
  refine ⟨Ext.setCell hlow hhb _, kp _ _ _ (by decide) h.bd, ⟨v, kp _ _ _ (by decide) hv⟩, kp _ _ _ (by decide) h.bh, kp _ _ _ (by decide) h.br, kp _ _ _ (by decide) h.bf, kp _ _ _ (by decide) h.bz, kp _ _ _ (by decide) h.room, ?_, fun o ho => ?_, fun o ho => ?_, fun o q ho hq e => ?_⟩
  · rw [tab_put hhas]
    congr 2
    refine tabV_congr fun j _ => ?_
    by_cases e : j = i
    · subst e; simp
    · by_cases e2 : j < i
      · simp [e, e2, Nat.lt_succ_of_lt e2]
      · have : ¬ j < i + 1 := by omega
        simp [e, e2, this]
  · by_cases e : o = i
    · rw [if_pos e]; exact kb _ _ hnew
    · rw [if_neg e]; exact kb _ _ (hmp o (by omega))
  · show _ ≤ if o = i then _ else _
    by_cases e : o = i
    · rw [if_pos e]; exact h.low.size
    · rw [if_neg e]; exact h.ge o (by omega)
  · change (if o = i then _ else _) = (if q = i then _ else _) at e
    by_cases e1 : o = i
    · by_cases e2 : q = i
      · omega
      · rw [if_pos e1, if_neg e2] at e
        have := hlt q (by omega)
        omega
    · by_cases e2 : q = i
      · rw [if_neg e1, if_pos e2] at e
        have := hlt o (by omega)
        omega
      · rw [if_neg e1, if_neg e2] at e
        exact h.inj o q (by omega) (by omega) e
end Go.Proofs.Ytlekdhhgjhakgaa

namespace Go.Proofs.Ytlekdhhgjhakgaa
set_option linter.unusedVariables false
set_option linter.unusedSimpArgs false
def relS (l out : List Int) (r : Int × Int) : List Int :=
  if r.2 ∈ l ∧ r.1 ∉ (if r.1 ∈ l ∧ r.2 ∉ out then out ++ [r.2] else out) then (if r.1 ∈ l ∧ r.2 ∉ out then out ++ [r.2] else out) ++ [r.1] else (if r.1 ∈ l ∧ r.2 ∉ out then out ++ [r.2] else out)
def relF (rs : List (Int × Int)) (l : List Int) : List Int := rs.foldl (relS l) l
theorem mem_add (out : List Int) (c : Prop) [Decidable c] (y x : Int) : x ∈ (if c ∧ y ∉ out then out ++ [y] else out) ↔ x ∈ out ∨ (c ∧ x = y) := by
  by_cases hc : c
  · by_cases hy : y ∈ out
    · rw [if_neg (fun h => h.2 hy)]
      exact ⟨.inl, fun h => h.elim id fun h => h.2 ▸ hy⟩
    · rw [if_pos ⟨hc, hy⟩, List.mem_append, List.mem_singleton]
      exact or_congr Iff.rfl ⟨fun h => ⟨hc, h⟩, fun h => h.2⟩
  · rw [if_neg (fun h => hc h.1)]
    exact ⟨.inl, fun h => h.elim id fun h => absurd h.1 hc⟩
theorem mem_relS (l out : List Int) (r : Int × Int) (x : Int) : x ∈ relS l out r ↔ x ∈ out ∨ (r.1 ∈ l ∧ x = r.2) ∨ (r.2 ∈ l ∧ x = r.1) := by
  unfold relS
  rw [mem_add, mem_add, or_assoc]
theorem mem_relfold (l : List Int) (x : Int) : ∀ (rs : List (Int × Int)) (out : List Int), x ∈ rs.foldl (relS l) out ↔ x ∈ out ∨ ∃ r ∈ rs, (r.1 ∈ l ∧ x = r.2) ∨ (r.2 ∈ l ∧ x = r.1)
  | [], out => by simp
  | r :: rs, out => by
    rw [List.foldl_cons, mem_relfold l x rs, mem_relS, or_assoc]
    simp only [List.mem_cons, exists_eq_or_imp]
theorem mem_relF (rs : List (Int × Int)) (l : List Int) (x : Int) : decide (x ∈ relF rs l) = stepC rs (fun y => decide (y ∈ l)) x := by
  unfold relF
  rw [Bool.eq_iff_iff, decide_eq_true_iff, mem_relfold]
  unfold stepC
  rw [Bool.or_eq_true, List.any_eq_true, decide_eq_true_iff]
  refine or_congr Iff.rfl ?_
  constructor
  · rintro ⟨r, hr, ⟨h, rfl⟩ | ⟨h, rfl⟩⟩
    · exact ⟨r, hr, by simp [h]⟩
    · exact ⟨r, hr, by simp [h]⟩
  · rintro ⟨r, hr, h⟩
    simp only [Bool.or_eq_true, Bool.and_eq_true, beq_iff_eq, decide_eq_true_iff] at h
    rcases h with ⟨rfl, h⟩ | ⟨rfl, h⟩
    · exact ⟨r, hr, .inr ⟨h, rfl⟩⟩
    · exact ⟨r, hr, .inl ⟨h, rfl⟩⟩
def cirL (rs : List (Int × Int)) (p : Int) : List Int := relF rs (relF rs [p])
theorem cirL_mem (rs : List (Int × Int)) (p x : Int) : decide (x ∈ cirL rs p) = cirF rs p x := by
  unfold cirL cirF
  rw [mem_relF]
  congr 1
  funext y
  rw [mem_relF]
  congr 1
  funext z
  rw [Bool.eq_iff_iff, decide_eq_true_iff, List.mem_singleton, beq_iff_eq]
theorem relS_len (l out : List Int) (r : Int × Int) : (relS l out r).length ≤ out.length + 2 := by
  have h : ∀ (out : List Int) (c : Prop) [Decidable c] (y : Int), (if c then out ++ [y] else out).length ≤ out.length + 1 := fun out c _ y => by split <;> simp
  have h1 := h out (r.1 ∈ l ∧ r.2 ∉ out) r.2
  unfold relS
  refine Nat.le_trans (h _ _ _) (by omega)
theorem relfold_len (l : List Int) : ∀ (rs : List (Int × Int)) (out : List Int), (rs.foldl (relS l) out).length ≤ out.length + 2 * rs.length
  | [], out => by simp
  | r :: rs, out => by
    rw [List.foldl_cons]
    have h1 := relfold_len l rs (relS l out r)
    have h2 := relS_len l out r
    simp only [List.length_cons]
    omega
theorem relF_len (rs : List (Int × Int)) (l : List Int) : (relF rs l).length ≤ l.length + 2 * rs.length := relfold_len l rs l
theorem relfold_ok {p : Int → Prop} (l : List Int) : ∀ (rs : List (Int × Int)) (out : List Int), (∀ x ∈ out, p x) → (∀ r ∈ rs, p r.1 ∧ p r.2) → ∀ x ∈ rs.foldl (relS l) out, p x := by
  intro rs out h1 h2 x hx
  rw [mem_relfold] at hx
  rcases hx with hx | ⟨r, hr, ⟨-, rfl⟩ | ⟨-, rfl⟩⟩
  · exact h1 x hx
  · exact (h2 r hr).2
  · exact (h2 r hr).1
end Go.Proofs.Ytlekdhhgjhakgaa

namespace Go.Proofs.Ytlekdhhgjhakgaa
set_option linter.unusedVariables false
set_option linter.unusedSimpArgs false
def mostF (l : List Int) : Nat := (l.map fun x => l.count x).foldl max 0
theorem foldl_max_le {b : Nat} : ∀ {l : List Nat} {a : Nat}, l.foldl max a ≤ b ↔ a ≤ b ∧ ∀ x ∈ l, x ≤ b
  | [], a => by simp
  | y :: l, a => by
    rw [List.foldl_cons, foldl_max_le]
    simp only [List.mem_cons, forall_eq_or_imp]
    rw [Nat.max_le, and_assoc]
theorem mostF_le {l : List Int} {b : Nat} : mostF l ≤ b ↔ ∀ x ∈ l, l.count x ≤ b := by
  unfold mostF
  rw [foldl_max_le]
  simp
theorem mostF_ge {l : List Int} {x : Int} (hx : x ∈ l) : l.count x ≤ mostF l := mostF_le.1 (Nat.le_refl _) x hx
theorem mostF_nil : mostF [] = 0 := rfl
theorem mostF_snoc (l : List Int) (x : Int) : mostF (l ++ [x]) = max (mostF l) (l.count x + 1) := by
  refine Nat.le_antisymm (mostF_le.2 fun y hy => ?_) (Nat.max_le.2 ⟨mostF_le.2 fun y hy => ?_, ?_⟩)
  · rw [List.count_append]
    by_cases e : y = x
    · subst e
      simp only [List.count_singleton_self]
      exact Nat.le_max_right _ _
    · have h1 : [x].count y = 0 := List.count_eq_zero.2 (by simpa using e)
      have h2 : y ∈ l := by
        rcases List.mem_append.1 hy with h | h
        · exact h
        · exact absurd (List.mem_singleton.1 h) e
      rw [h1]
      exact Nat.le_trans (mostF_ge h2) (Nat.le_max_left _ _)
  · refine Nat.le_trans ?_ (mostF_ge (List.mem_append_left [x] hy))
    rw [List.count_append]
    exact Nat.le_add_right _ _
  · have := mostF_ge (l := l ++ [x]) (x := x) (by simp)
    rw [List.count_append, List.count_singleton_self] at this
    exact this
/-- The most frequent one occurs as often as it is said. -/
theorem mostF_at {l : List Int} (h : l ≠ []) : ∃ x ∈ l, l.count x = mostF l := by
  have key : ∀ (m : List Nat) (a : Nat), m.foldl max a = a ∨ m.foldl max a ∈ m := by
    intro m
    induction m with
    | nil => intro a; exact .inl rfl
    | cons y m ih =>
      intro a
      rw [List.foldl_cons]
      rcases ih (max a y) with h1 | h1
      · rw [h1]
        rcases Nat.le_total a y with h2 | h2
        · rw [Nat.max_eq_right h2]; exact .inr List.mem_cons_self
        · rw [Nat.max_eq_left h2]; exact .inl rfl
      · exact .inr (List.mem_cons_of_mem _ h1)
  rcases key (l.map fun x => l.count x) 0 with h1 | h1
  · obtain ⟨x, hx⟩ := List.exists_mem_of_ne_nil l h
    have h2 := mostF_ge hx
    have h3 := List.count_pos_iff.2 hx
    have h4 : mostF l = 0 := h1
    omega
  · obtain ⟨x, hx, h2⟩ := List.mem_map.1 h1
    exact ⟨x, hx, h2⟩
def sumN (l : List Nat) : Nat := l.foldr (· + ·) 0
theorem sumN_le {α : Type} {f g : α → Nat} : ∀ {l : List α}, (∀ x ∈ l, f x ≤ g x) → sumN (l.map f) ≤ sumN (l.map g)
  | [], _ => Nat.le_refl _
  | x :: l, h => Nat.add_le_add (h x List.mem_cons_self) (sumN_le fun y hy => h y (List.mem_cons_of_mem _ hy))
theorem sumN_lt {α : Type} {f g : α → Nat} : ∀ {l : List α} {b : α}, b ∈ l → (∀ x ∈ l, f x ≤ g x) → f b < g b → sumN (l.map f) < sumN (l.map g)
  | [], _, hb, _, _ => by cases hb
  | x :: l, b, hb, h, hlt => by
    show f x + sumN (l.map f) < g x + sumN (l.map g)
    have h1 := h x List.mem_cons_self
    have h2 := sumN_le (l := l) fun y hy => h y (List.mem_cons_of_mem _ hy)
    rcases List.mem_cons.1 hb with rfl | hb
    · omega
    · have := sumN_lt hb (fun y hy => h y (List.mem_cons_of_mem _ hy)) hlt
      omega
theorem sumN_const (c : Nat) : ∀ (l : List Int), sumN (l.map fun _ => c) = c * l.length
  | [] => rfl
  | x :: l => by
    show c + sumN (l.map fun _ => c) = c * (l.length + 1)
    rw [sumN_const c l, Nat.mul_succ]
    omega
theorem sumN_one {x : Int} : ∀ {l : List Int}, l.Nodup → x ∈ l → sumN (l.map fun b => if b = x then 1 else 0) = 1
  | [], _, h => by cases h
  | y :: l, hn, h => by
    rw [List.nodup_cons] at hn
    show (if y = x then 1 else 0) + sumN (l.map fun b => if b = x then 1 else 0) = 1
    by_cases e : y = x
    · subst e
      rw [if_pos rfl]
      have : sumN (l.map fun b => if b = y then 1 else 0) ≤ sumN (l.map fun _ => 0) := sumN_le fun b hb => by
        rw [if_neg (fun e : b = y => hn.1 (e ▸ hb))]
        exact Nat.le_refl _
      rw [sumN_const] at this
      omega
    · rw [if_neg e, sumN_one hn.2 ((List.mem_cons.1 h).resolve_left fun e2 => e e2.symm)]
theorem sumN_add {α : Type} (f g : α → Nat) : ∀ (l : List α), sumN (l.map fun x => f x + g x) = sumN (l.map f) + sumN (l.map g)
  | [] => rfl
  | x :: l => by
    show f x + g x + sumN (l.map fun x => f x + g x) = f x + sumN (l.map f) + (g x + sumN (l.map g))
    rw [sumN_add f g l]
    omega
/-- All that are counted. -/
theorem sumN_count {bs : List Int} (hn : bs.Nodup) : ∀ {l : List Int}, (∀ x ∈ l, x ∈ bs) → sumN (bs.map fun b => l.count b) = l.length
  | [], _ => by
    have := sumN_const 0 bs
    simpa using this
  | x :: l, h => by
    have h1 : (bs.map fun b => (x :: l).count b) = bs.map fun b => l.count b + if b = x then 1 else 0 := by
      refine List.map_congr_left fun b _ => ?_
      rw [List.count_cons]
      congr 1
      by_cases e : b = x
      · subst e; simp
      · rw [if_neg e, if_neg (by simpa using fun e2 => e e2.symm)]
    rw [h1, sumN_add, sumN_count hn fun y hy => h y (List.mem_cons_of_mem _ hy), sumN_one hn (h x List.mem_cons_self)]
    rfl
/-- Each of them exactly so often. -/
theorem most_each {bs l : List Int} {e : Nat} (hn : bs.Nodup) (hb : ∀ x ∈ l, x ∈ bs) (hl : l.length = e * bs.length) (h0 : l ≠ []) : mostF l = e ↔ ∀ x ∈ l, l.count x = e := by
  constructor
  · intro h x hx
    have h1 : ∀ b ∈ bs, l.count b ≤ e := fun b _ => by
      by_cases hb2 : b ∈ l
      · rw [← h]; exact mostF_ge hb2
      · rw [List.count_eq_zero.2 hb2]; exact Nat.zero_le _
    refine Nat.le_antisymm (h1 x (hb x hx)) (Nat.le_of_not_lt fun hlt => ?_)
    have h2 := sumN_lt (f := fun b => l.count b) (g := fun _ => e) (hb x hx) h1 hlt
    rw [sumN_const, sumN_count hn hb] at h2
    omega
  · intro h
    obtain ⟨x, hx, h1⟩ := mostF_at h0
    rw [← h1]
    exact h x hx
/-- May this be a duty? -/
def okD (s : Su) (bs : List Int) (x : Int × Int) : Bool := decide (x.2 ∈ bs) && decide (x.1 ∈ asrF s.ps) && !confF s x.1 x.2
/-- CheckDuties. -/
def chkF (s : Su) (bs : List Int) (each : Int) (L : Nat) (l : List (Int × Int)) : Bool :=
  openE s bs each == 0 && decide ((l.length : Int) = each * bs.length) && l.all (okD s bs) && decide l.Nodup && decide ((mostF (l.map (·.2)) : Int) = each) && decide (mostF (l.map (·.1)) ≤ L)
def refOne (s : Su) (bs : List Int) (each : Int) (L : Nat) (l : List (Int × Int)) (x : Int × Int) : Bool :=
  decide (l.count x = 1) && decide ((l.map (·.1)).count x.1 ≤ L) && decide (((l.map (·.2)).count x.2 : Int) = each) && okD s bs x
theorem right_facts {bs : List Int} {each : Int} (h : rightF bs each = true) : 0 < bs.length ∧ bs.length ≤ 40 ∧ bs.Nodup ∧ 0 < each ∧ each ≤ 13 := by
  simp only [rightF, Bool.and_eq_true, decide_eq_true_iff] at h
  exact ⟨h.1.1.1.1, h.1.1.1.2, h.1.1.2, h.1.2, h.2⟩
theorem open_right {s : Su} {bs : List Int} {each : Int} (h : openE s bs each = 0) : rightF bs each = true := by
  unfold openE at h
  by_cases e : rightF bs each = false
  · rw [if_pos e] at h; cases h
  · simpa using e
theorem nodup_count {l : List (Int × Int)} : l.Nodup ↔ ∀ x ∈ l, l.count x = 1 := by
  rw [List.nodup_iff_count]
  constructor
  · intro h x hx
    have h1 := h x
    have h2 := List.count_pos_iff.2 hx
    omega
  · intro h x
    by_cases e : x ∈ l
    · exact Nat.le_of_eq (h x e)
    · rw [List.count_eq_zero.2 e]; exact Nat.zero_le _
theorem chk_same (s : Su) (bs : List Int) (each : Int) (L : Nat) (l : List (Int × Int)) :
    chkF s bs each L l = (openE s bs each == 0 && decide ((l.length : Int) = each * bs.length) && l.all (refOne s bs each L l)) := by
  rw [Bool.eq_iff_iff]
  simp only [chkF, refOne, Bool.and_eq_true, beq_iff_eq, decide_eq_true_iff, List.all_eq_true]
  constructor
  · rintro ⟨⟨⟨⟨⟨h1, h2⟩, h3⟩, h4⟩, h5⟩, h6⟩
    obtain ⟨r1, -, r3, r4, -⟩ := right_facts (open_right h1)
    have hb : ∀ x ∈ l.map (·.2), x ∈ bs := fun x hx => by
      obtain ⟨y, hy, rfl⟩ := List.mem_map.1 hx
      have := h3 y hy
      simp only [okD, Bool.and_eq_true, decide_eq_true_iff] at this
      exact this.1.1
    obtain ⟨e, rfl⟩ := Int.eq_ofNat_of_zero_le (Int.le_of_lt r4)
    have hl : (l.map (·.2)).length = e * bs.length := by rw [List.length_map]; exact_mod_cast h2
    have h0 : l.map (·.2) ≠ [] := fun h0 => by
      have h7 := mostF_nil
      rw [h0, h7] at h5
      omega
    refine ⟨⟨h1, h2⟩, fun x hx => ⟨⟨⟨nodup_count.1 h4 x hx, mostF_le.1 h6 _ (List.mem_map_of_mem hx)⟩, ?_⟩, h3 x hx⟩⟩
    have := (most_each r3 hb hl h0).1 (by exact_mod_cast h5) x.2 (List.mem_map_of_mem hx)
    exact_mod_cast this
  · rintro ⟨⟨h1, h2⟩, h3⟩
    obtain ⟨r1, -, r3, r4, -⟩ := right_facts (open_right h1)
    obtain ⟨e, rfl⟩ := Int.eq_ofNat_of_zero_le (Int.le_of_lt r4)
    have hl : (l.map (·.2)).length = e * bs.length := by rw [List.length_map]; exact_mod_cast h2
    have hb : ∀ x ∈ l.map (·.2), x ∈ bs := fun x hx => by
      obtain ⟨y, hy, rfl⟩ := List.mem_map.1 hx
      have := (h3 y hy).2
      simp only [okD, Bool.and_eq_true, decide_eq_true_iff] at this
      exact this.1.1
    have h0 : l.map (·.2) ≠ [] := fun h0 => by
      rw [h0] at hl
      have : 0 < e * bs.length := Nat.mul_pos (by omega) r1
      simp at hl
      omega
    refine ⟨⟨⟨⟨⟨h1, h2⟩, fun x hx => (h3 x hx).2⟩, nodup_count.2 fun x hx => (h3 x hx).1.1.1⟩, ?_⟩, mostF_le.2 fun y hy => ?_⟩
    · have := (most_each r3 hb hl h0).2 fun y hy => by
        obtain ⟨x, hx, rfl⟩ := List.mem_map.1 hy
        exact_mod_cast (h3 x hx).1.2
      exact_mod_cast this
    · obtain ⟨x, hx, rfl⟩ := List.mem_map.1 hy
      exact (h3 x hx).1.1.2
end Go.Proofs.Ytlekdhhgjhakgaa

namespace Go.Proofs.Ytlekdhhgjhakgaa
set_option linter.unusedVariables false
set_option linter.unusedSimpArgs false
def dutF (ids : List Int) : List Int → List (List Nat) → List (Int × Int)
  | b :: bs, r :: rows => r.map (fun k => (ids.getD k 0, b)) ++ dutF ids bs rows
  | _, _ => []
theorem dutF_snoc (ids : List Int) (b : Int) (r : List Nat) : ∀ (bs : List Int) (rows : List (List Nat)), bs.length = rows.length → dutF ids (bs ++ [b]) (rows ++ [r]) = dutF ids bs rows ++ r.map fun k => (ids.getD k 0, b)
  | [], [], _ => by simp [dutF]
  | [], _ :: _, h => by cases h
  | _ :: _, [], h => by cases h
  | c :: bs, q :: rows, h => by
    show q.map _ ++ dutF ids (bs ++ [b]) (rows ++ [r]) = q.map _ ++ dutF ids bs rows ++ _
    rw [dutF_snoc ids b r bs rows (by simpa using h), List.append_assoc]
theorem dutF_len (ids : List Int) {e : Nat} : ∀ (bs : List Int) (rows : List (List Nat)), bs.length = rows.length → (∀ r ∈ rows, r.length = e) → (dutF ids bs rows).length = e * bs.length
  | [], _, _, _ => rfl
  | _ :: _, [], h, _ => by cases h
  | c :: bs, q :: rows, h, hr => by
    show (q.map _ ++ dutF ids bs rows).length = e * (bs.length + 1)
    rw [List.length_append, List.length_map, hr q List.mem_cons_self, dutF_len ids bs rows (by simpa using h) fun r hr' => hr r (List.mem_cons_of_mem _ hr'), Nat.mul_succ]
    omega
theorem dutF_mem {ids : List Int} {x : Int × Int} : ∀ {bs : List Int} {rows : List (List Nat)}, x ∈ dutF ids bs rows → ∃ o, ∃ (h1 : o < bs.length) (h2 : o < rows.length), ∃ k ∈ rows[o], x = (ids.getD k 0, bs[o])
  | [], _, h => by simp [dutF] at h
  | _ :: _, [], h => by simp [dutF] at h
  | c :: bs, q :: rows, h => by
    rcases List.mem_append.1 h with h | h
    · obtain ⟨k, hk, rfl⟩ := List.mem_map.1 h
      exact ⟨0, by simp, by simp, k, hk, rfl⟩
    · obtain ⟨o, h1, h2, k, hk, rfl⟩ := dutF_mem h
      exact ⟨o + 1, by simpa using h1, by simpa using h2, k, hk, rfl⟩
theorem count_snd (ids : List Int) {e : Nat} (b : Int) : ∀ (bs : List Int) (rows : List (List Nat)), bs.length = rows.length → (∀ r ∈ rows, r.length = e) → ((dutF ids bs rows).map (·.2)).count b = e * bs.count b
  | [], _, _, _ => by simp [dutF]
  | _ :: _, [], h, _ => by cases h
  | c :: bs, q :: rows, h, hr => by
    show ((q.map (fun k => (ids.getD k 0, c)) ++ dutF ids bs rows).map (·.2)).count b = _
    rw [List.map_append, List.count_append, count_snd ids b bs rows (by simpa using h) fun r hr' => hr r (List.mem_cons_of_mem _ hr'), List.map_map]
    have h1 : (q.map ((fun x : Int × Int => x.2) ∘ fun k => (ids.getD k 0, c))) = List.replicate e c := by
      rw [← hr q List.mem_cons_self]
      exact List.eq_replicate_iff.2 ⟨by simp, fun y hy => by obtain ⟨k, -, rfl⟩ := List.mem_map.1 hy; rfl⟩
    rw [h1, List.count_cons, List.count_replicate]
    by_cases e1 : c = b
    · subst e1; simp [Nat.mul_succ]; omega
    · simp [e1]
theorem sm_cons (f : Nat → Nat) : ∀ n, sm f (n + 1) = f 0 + sm (fun i => f (i + 1)) n
  | 0 => by show sm f 0 + f 0 = f 0 + 0; show 0 + f 0 = _; omega
  | n + 1 => by
    show sm f (n + 1) + f (n + 1) = f 0 + (sm (fun i => f (i + 1)) n + f (n + 1))
    rw [sm_cons f n]
    omega
theorem count_ids {ids : List Int} (hi : ids.Nodup) {k : Nat} (hk : k < ids.length) : ∀ {r : List Nat}, r.Nodup → (∀ x ∈ r, x < ids.length) → (r.map fun k => ids.getD k 0).count ids[k] = (decide (k ∈ r)).toNat
  | [], _, _ => rfl
  | x :: r, hn, hx => by
    rw [List.nodup_cons] at hn
    rw [List.map_cons, List.count_cons, count_ids hi hk hn.2 fun y hy => hx y (List.mem_cons_of_mem _ hy)]
    have hxl := hx x List.mem_cons_self
    rw [getD_at hxl]
    by_cases e : x = k
    · subst e
      simp [hn.1]
    · have : ¬ ids[x] = ids[k] := fun h => e ((List.getElem_inj hi).1 h)
      have e2 : ¬ k = x := fun h => e h.symm
      simp [this, e2]
theorem count_fst {ids : List Int} (hi : ids.Nodup) {k : Nat} (hk : k < ids.length) : ∀ (bs : List Int) (rows : List (List Nat)), bs.length = rows.length → (∀ r ∈ rows, r.Nodup ∧ ∀ x ∈ r, x < ids.length) → ((dutF ids bs rows).map (·.1)).count ids[k] = cnt (rowF rows) rows.length k
  | [], [], _, _ => rfl
  | [], _ :: _, h, _ => by cases h
  | _ :: _, [], h, _ => by cases h
  | c :: bs, q :: rows, h, hr => by
    show ((q.map (fun k => (ids.getD k 0, c)) ++ dutF ids bs rows).map (·.1)).count ids[k] = cnt (rowF (q :: rows)) (rows.length + 1) k
    have hq := hr q List.mem_cons_self
    rw [List.map_append, List.count_append, count_fst hi hk bs rows (by simpa using h) fun r hr' => hr r (List.mem_cons_of_mem _ hr'), List.map_map]
    unfold cnt
    rw [sm_cons]
    congr 1
    exact count_ids hi hk hq.1 hq.2
theorem dutF_nodup {ids : List Int} (hi : ids.Nodup) : ∀ {bs : List Int} {rows : List (List Nat)}, bs.Nodup → (∀ r ∈ rows, r.Nodup ∧ ∀ x ∈ r, x < ids.length) → (dutF ids bs rows).Nodup
  | [], _, _, _ => by simp [dutF]
  | _ :: _, [], _, _ => by simp [dutF]
  | c :: bs, q :: rows, hn, hr => by
    rw [List.nodup_cons] at hn
    show (q.map _ ++ dutF ids bs rows).Nodup
    have hq := hr q List.mem_cons_self
    rw [List.nodup_append]
    refine ⟨?_, dutF_nodup hi hn.2 fun r hr' => hr r (List.mem_cons_of_mem _ hr'), ?_⟩
    · refine List.Pairwise.map _ (fun a b (hab : a ≠ b ∧ a < ids.length ∧ b < ids.length) => ?_) (List.Pairwise.imp_of_mem (fun ha hb h => ⟨h, hq.2 _ ha, hq.2 _ hb⟩) hq.1)
      intro e
      injection e with e1 _
      rw [getD_at hab.2.1, getD_at hab.2.2] at e1
      exact hab.1 ((List.getElem_inj hi).1 e1)
    · intro a ha b hb e
      subst e
      obtain ⟨k, -, rfl⟩ := List.mem_map.1 ha
      obtain ⟨o, h1, h2, k2, -, h3⟩ := dutF_mem hb
      injection h3 with _ h4
      exact hn.1 (h4 ▸ List.getElem_mem h1)
theorem Rows_.mem {M R : List (List Nat)} {m each : Nat} (hM : May M m) (h : Rows_ M each R) {r : List Nat} (hr : r ∈ R) : r.length = each ∧ r.Nodup ∧ ∀ x ∈ r, x < m := by
  obtain ⟨o, ho, rfl⟩ := List.mem_iff_getElem.1 hr
  have hoM : o < M.length := by have := h.len; omega
  obtain ⟨h1, h2⟩ := mem_enum.1 (h.at_ o ho)
  rw [getD_at hoM] at h1
  exact ⟨h2, hM.nodup (List.getElem_mem hoM) h1⟩
theorem open_zero {s : Su} {bs : List Int} {each : Int} (h : openE s bs each = 0) : rightF bs each = true ∧ ¬ ((asrF s.ps).length : Int) < each ∧ ∀ l ∈ mayL s bs, each ≤ l.length := by
  unfold openE at h
  by_cases e : rightF bs each = false
  · rw [if_pos e] at h; cases h
  · rw [if_neg e] at h
    by_cases e2 : ((asrF s.ps).length : Int) < each
    · rw [if_pos e2] at h; cases h
    · rw [if_neg e2] at h
      refine ⟨by simpa using e, e2, fun l hl => ?_⟩
      by_cases e3 : ((mayL s bs).any fun l => decide ((l.length : Int) < each)) = true
      · rw [if_pos e3] at h; cases h
      · exact Int.not_lt.1 fun h2 : (l.length : Int) < each => e3 (List.any_eq_true.2 ⟨l, hl, decide_eq_true h2⟩)
/-- What Assign gives, for a least load. -/
noncomputable def asgF (s : Su) (bs : List Int) (each L : Nat) : List (Int × Int) := dutF (asrF s.ps) bs (picks (mayL s bs) (asrF s.ps).length each L bs.length)
theorem mayL_at (s : Su) (bs : List Int) {o : Nat} (h1 : o < (mayL s bs).length) (h2 : o < bs.length) : (mayL s bs)[o] = mayR s (asrF s.ps) bs[o] := List.getElem_map _
theorem mayL_len (s : Su) (bs : List Int) : (mayL s bs).length = bs.length := List.length_map _
/-- There is a least load. -/
theorem open_least {s : Su} {bs : List Int} {each : Nat} (h : openE s bs each = 0) : ∃ L, L ≤ bs.length ∧ Least (mayL s bs) (asrF s.ps).length each L := by
  have h1 := (open_zero h).2.2
  have h2 := CanR.most (mayL_ok s bs) (each := each) fun l hl => by exact_mod_cast h1 l hl
  rw [mayL_len] at h2
  exact least_of _ h2
theorem picks_all {s : Su} {bs : List Int} {each L : Nat} (hL : Least (mayL s bs) (asrF s.ps).length each L) :
    Rows_ (mayL s bs) each (picks (mayL s bs) (asrF s.ps).length each L bs.length) ∧ CanR (mayL s bs) (asrF s.ps).length each L (picks (mayL s bs) (asrF s.ps).length each L bs.length) :=
  picks_ok (mayL_ok s bs) hL.can bs.length (Nat.le_of_eq (mayL_len s bs).symm)
theorem fst_mem {ids : List Int} {bs : List Int} {rows : List (List Nat)} (hr : ∀ r ∈ rows, ∀ x ∈ r, x < ids.length) {a : Int} (ha : a ∈ (dutF ids bs rows).map (·.1)) : ∃ k, ∃ h : k < ids.length, a = ids[k] := by
  obtain ⟨x, hx, rfl⟩ := List.mem_map.1 ha
  obtain ⟨o, h1, h2, k, hk, rfl⟩ := dutF_mem hx
  have := hr _ (List.getElem_mem h2) k hk
  exact ⟨k, this, getD_at this⟩
/-- The greatest number of duties is the least load. -/
theorem most_asg {s : Su} {bs : List Int} {each L : Nat} (hL : Least (mayL s bs) (asrF s.ps).length each L) : mostF ((asgF s bs each L).map (·.1)) = L := by
  obtain ⟨hR, hC⟩ := picks_all hL
  have hlen : (picks (mayL s bs) (asrF s.ps).length each L bs.length).length = bs.length := picks_len _ _ _ _ _
  have hM := mayL_ok s bs
  have hbl : bs.length = (picks (mayL s bs) (asrF s.ps).length each L bs.length).length := hlen.symm
  have hall := hC.all (by rw [hlen, mayL_len])
  have hmem := fun r (hr : r ∈ picks (mayL s bs) (asrF s.ps).length each L bs.length) => (hR.mem hM hr).2
  have hc := fun k (hk : k < (asrF s.ps).length) => count_fst (asrF_nodup s.ps) hk bs _ hbl hmem
  unfold asgF
  refine Nat.le_antisymm (mostF_le.2 fun a ha => ?_) (Nat.le_of_not_lt fun hlt => ?_)
  · obtain ⟨k, hk, rfl⟩ := fst_mem (fun r hr => (hmem r hr).2) ha
    rw [hc k hk, hlen]
    have := hall k hk
    rwa [mayL_len] at this
  · refine hL.no _ hlt (CanR.of_rows hM hR (by rw [hlen, mayL_len]) fun k hk => ?_)
    have hck := hc k hk
    rw [hlen] at hck
    rw [mayL_len, ← hck]
    by_cases e : (asrF s.ps)[k] ∈ (dutF (asrF s.ps) bs (picks (mayL s bs) (asrF s.ps).length each L bs.length)).map (·.1)
    · exact mostF_ge e
    · rw [List.count_eq_zero.2 e]; exact Nat.zero_le _
theorem asg_len {s : Su} {bs : List Int} {each L : Nat} (hL : Least (mayL s bs) (asrF s.ps).length each L) : (asgF s bs each L).length = each * bs.length :=
  dutF_len _ _ _ (picks_len _ _ _ _ _).symm fun r hr => ((picks_all hL).1.mem (mayL_ok s bs) hr).1
/-- CheckDuties takes what Assign gives. -/
theorem chk_asg {s : Su} {bs : List Int} {each L : Nat} (h : openE s bs each = 0) (hL : Least (mayL s bs) (asrF s.ps).length each L) : chkF s bs each L (asgF s bs each L) = true := by
  obtain ⟨hR, hC⟩ := picks_all hL
  obtain ⟨r1, -, r3, r4, -⟩ := right_facts (open_right h)
  have hM := mayL_ok s bs
  have hlen : (picks (mayL s bs) (asrF s.ps).length each L bs.length).length = bs.length := picks_len _ _ _ _ _
  have hmem := fun r (hr : r ∈ picks (mayL s bs) (asrF s.ps).length each L bs.length) => hR.mem hM hr
  have hl := asg_len hL
  simp only [chkF, Bool.and_eq_true, beq_iff_eq, decide_eq_true_iff, List.all_eq_true]
  refine ⟨⟨⟨⟨⟨h, by rw [hl]; push_cast; rfl⟩, fun x hx => ?_⟩, dutF_nodup (asrF_nodup _) r3 fun r hr => (hmem r hr).2⟩, ?_⟩, Nat.le_of_eq (most_asg hL)⟩
  · obtain ⟨o, h1, h2, k, hk, rfl⟩ := dutF_mem hx
    have hoM : o < (mayL s bs).length := by rw [mayL_len]; exact h1
    obtain ⟨h3, -⟩ := mem_enum.1 (hR.at_ o h2)
    rw [getD_at hoM] at h3
    have h4 := h3.subset hk
    rw [mayL_at s bs hoM h1] at h4
    obtain ⟨h6, h7⟩ := List.mem_filter.1 h4
    have h8 := List.mem_range.1 h6
    simp only [okD, Bool.and_eq_true, decide_eq_true_iff]
    exact ⟨⟨List.getElem_mem h1, by rw [getD_at h8]; exact List.getElem_mem h8⟩, h7⟩
  · have h0 : (asgF s bs each L).map (·.2) ≠ [] := fun h0 => by
      have := congrArg List.length h0
      rw [List.length_map, hl] at this
      have h9 : 0 < each * bs.length := Nat.mul_pos (by omega) r1
      simp at this
      omega
    obtain ⟨b, hb, h1⟩ := mostF_at h0
    rw [← h1]
    have h2 : ((asgF s bs each L).map (·.2)).count b = each * bs.count b := count_snd _ b bs _ hlen.symm fun r hr => (hmem r hr).1
    have h3 : b ∈ bs := by
      obtain ⟨x, hx, rfl⟩ := List.mem_map.1 hb
      obtain ⟨o, ho1, ho2, k, hk, rfl⟩ := dutF_mem hx
      exact List.getElem_mem ho1
    have h4 : bs.count b = 1 := by
      have h5 := List.nodup_iff_count.1 r3 b
      have h6 := List.count_pos_iff.2 h3
      omega
    rw [h2, h4, Nat.mul_one]
theorem refOne_perm {s : Su} {bs : List Int} {each : Int} {L : Nat} {l m : List (Int × Int)} (h : l.Perm m) (x : Int × Int) : refOne s bs each L l x = refOne s bs each L m x := by
  unfold refOne
  rw [h.count_eq, (h.map (·.1)).count_eq, (h.map (·.2)).count_eq]
/-- The order of duties plays no part. -/
theorem chk_perm {s : Su} {bs : List Int} {each : Int} {L : Nat} {l m : List (Int × Int)} (h : l.Perm m) : chkF s bs each L l = chkF s bs each L m := by
  rw [chk_same, chk_same, h.length_eq]
  congr 1
  rw [Bool.eq_iff_iff, List.all_eq_true, List.all_eq_true]
  exact ⟨fun h1 x hx => by rw [← refOne_perm h]; exact h1 x (h.mem_iff.2 hx), fun h1 x hx => by rw [refOne_perm h]; exact h1 x (h.mem_iff.1 hx)⟩
/-- Without conflicts: the load is rounded up. -/
theorem least_free {s : Su} {bs : List Int} {each L : Nat} (h : openE s bs each = 0) (hf : ∀ a ∈ asrF s.ps, ∀ b ∈ bs, confF s a b = false) (hL : Least (mayL s bs) (asrF s.ps).length each L) : L = (bs.length * each + (asrF s.ps).length - 1) / (asrF s.ps).length := by
  obtain ⟨h1, h2, -⟩ := open_zero h
  obtain ⟨r1, -, r3, r4, -⟩ := right_facts h1
  have ha : 0 < (asrF s.ps).length := by omega
  have hT := turn_can (M := mayL s bs) (a := (asrF s.ps).length) (each := each) ha (by omega) fun o ho k hk => by
    unfold mayF rowF
    rw [getD_at ho, mayL_at s bs ho (by rw [mayL_len] at ho; exact ho)]
    rw [mayL_len] at ho
    unfold mayR
    exact decide_eq_true (List.mem_filter.2 ⟨List.mem_range.2 hk, by rw [getD_at hk, hf _ (List.getElem_mem hk) _ (List.getElem_mem ho)]; rfl⟩)
  rw [mayL_len] at hT
  refine Nat.le_antisymm (Nat.le_of_not_lt fun hlt => hL.no _ hlt hT) ?_
  have hr := Can.room hL.can
  rw [mayL_len] at hr
  rw [Nat.div_le_iff_le_mul ha, Nat.mul_comm L]
  omega
end Go.Proofs.Ytlekdhhgjhakgaa

namespace Go.Proofs.Ytlekdhhgjhakgaa
set_option linter.unusedVariables false
set_option linter.unusedSimpArgs false
open Go.RowKit
theorem alloc_setCell (w : World) (o : Obj) (b i : Nat) (v : Value) (h : b < w.heap.size) : (w.setCell ⟨b, i, none⟩ v).alloc o = (w.alloc o).setCell ⟨b, i, none⟩ v := by
  have e : (w.heap.push o).modify b (fun ob => ob) = w.heap.push o := by
    refine Array.ext (by simp) fun k h1 h2 => ?_
    simp [Array.getElem_modify]
  unfold World.setCell World.alloc
  simp only
  congr 1
  refine Array.ext (by simp) fun k h1 h2 => ?_
  simp only [Array.getElem_push, Array.getElem_modify, Array.size_modify]
  by_cases hk : k < w.heap.size
  · simp [hk]
  · have : ¬ b = k := by omega
    simp [hk, this]
/-- What the room's loops hold. -/
structure F1 (w0 : World) (p bd bf br rb : Nat) (fA : Option Addr) (fl fc m L : Nat) (W : World) (g : Nat → Nat) : Prop where
  low : Ext w0 W
  bd : W.heap[bd]? = some (.cells #[.pointer (some ⟨p, 0, none⟩)] 70)
  bf : W.heap[bf]? = some (.cells #[.slice fA fl fc] 74)
  br : W.heap[br]? = some (.cells #[.slice (some ⟨rb, 0, none⟩) m m] 22)
  room : W.heap[rb]? = some (.cells (tabV (fun k => .int .i64 ((L : Int) - g k)) m) 3)
theorem F1.turn {w0 : World} {p bd bf br rb : Nat} {fA : Option Addr} {fl fc m L : Nat} {W : World} {g g' : Nat → Nat} (h : F1 w0 p bd bf br rb fA fl fc m L W g) (hr : w0.heap.size ≤ rb) (x : Nat) (hg : ∀ k, g' k = g k + if k = x then 1 else 0) :
    F1 w0 p bd bf br rb fA fl fc m L (W.setCell ⟨rb, x, none⟩ (.int .i64 ((L : Int) - g x - 1))) g' := by
  have kp : ∀ b c t, t ≠ 3 → W.heap[b]? = some (Obj.cells c t) → (W.setCell ⟨rb, x, none⟩ (.int .i64 ((L : Int) - g x - 1))).heap[b]? = some (Obj.cells c t) := fun b c t ht hk => (heap_setCell_other _ (cells_ne hk h.room ht)).trans hk
  refine ⟨Ext.setCell h.low hr _, kp _ _ _ (by decide) h.bd, kp _ _ _ (by decide) h.bf, kp _ _ _ (by decide) h.br, ?_⟩
  rw [tab_put h.room]
  congr 2
  refine tabV_congr fun j _ => ?_
  rw [hg]
  by_cases e : j = x
  · subst e
    rw [if_pos rfl, if_pos rfl]
    congr 1
    omega
  · rw [if_neg e, if_neg e]
    rfl
theorem F1.c {w0 : World} {p bd bf br rb : Nat} {fA : Option Addr} {fl fc m L : Nat} {W : World} {g : Nat → Nat} (h : F1 w0 p bd bf br rb fA fl fc m L W g) :
    W.cell? ⟨bd, 0, none⟩ = some (.pointer (some ⟨p, 0, none⟩)) ∧ W.cell? ⟨bf, 0, none⟩ = some (.slice fA fl fc) ∧ W.cell? ⟨br, 0, none⟩ = some (.slice (some ⟨rb, 0, none⟩) m m) :=
  ⟨cell_of_row W _ 0 _ _ _ h.bd, cell_of_row W _ 0 _ _ _ h.bf, cell_of_row W _ 0 _ _ _ h.br⟩
set_option maxRecDepth 100000 in
set_option maxHeartbeats 8000000 in
open Classical in
theorem fits_any (p : Nat) (ids : List Int) (ms : List (List Nat)) (each L : Nat) (iv mv v : Value) (us vs : List Value) (R : List (List Nat)) (w : World) (hd : Dk 0 w p ids ms each iv mv us) (hM : May ms ids.length) (hm_ : 0 < ids.length ∧ ids.length ≤ 1000) (hn : ms.length ≤ 1000)
    (hv : FX w v vs R) (hR : Rows_ ms each R) (he : each ≤ 13) (hL : L ≤ 1000) :
    Calls Try.prog 36 #[.pointer (some ⟨p, 0, none⟩), v, .int .i64 L] w fun e w' => e = .returned (.bool (decide (CanR ms ids.length each L R))) ∧ Ext w w' := by
  obtain ⟨fA, fc, rfl, hfc, hfr⟩ := hv.form
  obtain ⟨iA, ic, rfl⟩ : ∃ iA ic, iv = .slice iA ids.length ic := by obtain ⟨a, c, h1, -⟩ := hd.ids; exact ⟨a, c, h1⟩
  obtain ⟨mA, mc, rfl⟩ : ∃ mA mc, mv = .slice mA us.length mc := row_formG hd.may.row
  have hul : us.length = ms.length := hd.may.len
  rw [hul] at hd
  have HD := Lib.hid hd; have HV := Lib.hid hv; have HR := Lib.hid hR; have HM := Lib.hid hM; have HFR := Lib.hid hfr
  have HRL : Hid (R.length ≤ ms.length) := Lib.hid hR.len
  have hrl : R.length ≤ 1000 := by have := hR.len; omega
  have hp := Rg.lt_of_heap hd.at_
  clear hd hv hR hM hfr hul
  go_enter Try.func36, Try.ntmps36
  go_upto_region 1 with (fail)
  have hx0 : Ext w ((w.alloc (.cells #[.pointer (some ⟨p, 0, none⟩)] 70)).alloc (.cells #[.slice fA R.length fc] 74)) := Ext.alloc (Ext.alloc (Ext.refl _) _) _
  obtain ⟨hb1, hb2⟩ := two_blocks w (.cells #[.pointer (some ⟨p, 0, none⟩)] 70) (.cells #[.slice fA R.length fc] 74)
  obtain ⟨bd, hbd⟩ : ∃ bd, bd = w.heap.size := ⟨_, rfl⟩
  obtain ⟨bf, hbf⟩ : ∃ bf, bf = w.heap.size + 1 := ⟨_, rfl⟩
  rw [← hbf] at hb2 ⊢
  rw [← hbd] at hb1 ⊢
  have HBD := Lib.hid hbd; have HBF := Lib.hid hbf
  clear hbd hbf
  generalize (w.alloc (.cells #[.pointer (some ⟨p, 0, none⟩)] 70)).alloc (.cells #[.slice fA R.length fc] 74) = W0 at *
  have HX0 := Lib.hid hx0; have HB1 := Lib.hid hb1; have HB2 := Lib.hid hb2
  have c0 := cell_of_row W0 bd 0 _ _ _ hb1
  have c1 := (HX0.out.cells.1 _ _ hp).trans (cell_of_row w p 0 _ _ _ HD.out.at_)
  change W0.cell? _ = some (.pointer (some ⟨p, 0, none⟩)) at c0
  change W0.cell? _ = some (.slice iA ids.length ic) at c1
  have HC2 := Lib.hid (cell_of_row (W0.alloc (.cells #[.int .i64 L] 3)) W0.heap.size 0 _ _ _ (alloc_at W0 (.cells #[.int .i64 L] 3)))
  have HRP := Lib.hid (repeat_any W0.heap.size L ids.length (W0.alloc (.cells #[.int .i64 L] 3)) HC2.out (by simp) hm_)
  have hbdl := Rg.lt_of_heap hb1
  have hpl := Nat.lt_of_lt_of_le hp HX0.out.size
  clear hx0 hb1 hb2 HC2
  go_upto_region 2 with (go_at_call 53; (with_reducible refine HRP.out.mono ?_); rintro e w1 ⟨rb, rfl, hrb, hrow, hx⟩)
  have hx2 : Ext W0 (w1.alloc (.cells #[.slice (some ⟨rb, 0, none⟩) ids.length ids.length] 22)) := Ext.trans (Ext.trans (Ext.alloc (Ext.refl _) _) hx) (Ext.alloc (Ext.refl _) _)
  have hbr := alloc_at w1 (.cells #[.slice (some ⟨rb, 0, none⟩) ids.length ids.length] 22)
  have hrow2 := ((Ext.alloc (Ext.refl w1) (.cells #[.slice (some ⟨rb, 0, none⟩) ids.length ids.length] 22)).block _ (Rg.lt_of_heap hrow)).trans hrow
  obtain ⟨br, hbr1⟩ : ∃ br, br = w1.heap.size := ⟨_, rfl⟩
  rw [← hbr1] at hbr ⊢
  have HRB : Hid (w.heap.size ≤ rb) := Lib.hid (by have := HX0.out.size; simp at hrb; omega)
  generalize w1.alloc (.cells #[.slice (some ⟨rb, 0, none⟩) ids.length ids.length] 22) = W2 at *
  have HF1 : Hid (F1 w p bd bf br rb fA R.length fc ids.length L W2 (took R 0 0)) := Lib.hid ⟨HX0.out.trans hx2, (hx2.block _ hbdl).trans HB1.out, (hx2.block _ (Rg.lt_of_heap HB2.out)).trans HB2.out, hbr, hrow2.trans (by
    rw [tabV_congr fun k _ => ?_]
    rw [took_zero]
    simp [cnt, sm])⟩
  clear hx hx2 hbr hrow hrow2 hbr1 hrb HRP c0 c1 HB1 HB2 HBD HBF HX0 hpl hbdl
  obtain ⟨c0, c1, c2⟩ := HF1.out.c
  go_wp2_with (fail)
  clear c0 c1 c2
  go_loopw [27] (fun jv wr => ∃ j : Nat, jv = .int .i64 j ∧ j ≤ R.length ∧ Hid (F1 w p bd bf br rb fA R.length fc ids.length L wr (took R j 0)) ∧ Hid (∀ k, k < ids.length → took R j 0 k ≤ L)) (fun jv _ => R.length - (iof jv).toNat)
  case atStart => exact ⟨0, rfl, by omega, HF1, Lib.hid (by intro k _; rw [took_zero]; exact Nat.zero_le _)⟩
  case round =>
    rename World => wo
    obtain ⟨j, rfl, hj, HF, HTL⟩ := hrel
    clear HF1
    by_cases hjl : j < R.length
    · obtain ⟨b, rfl, hcs⟩ := HFR.out.resolve_left (by intro e; rw [e] at hjl; simp at hjl)
      have hjv : j < vs.length := by rw [HV.out.len]; exact hjl
      have r0 := (HF.out.low.cells.1 _ _ (World.block_lt_of_cell? w _ (hcs j hjv))).trans (hcs j hjv)
      obtain ⟨xA, xc, hx1, hx2, hx3, hx4⟩ := HV.out.el j hjv hjl
      rw [hx1, natI_len] at r0
      have hrm := HR.out.mem HM.out (List.getElem_mem hjl)
      have HRM := Lib.hid hrm
      have hrl2 : (R[j]).length ≤ 13 := by rw [hrm.1]; exact he
      have HST := Lib.hid (fun t (ht : t < (R[j]).length) k => took_step R j t k hjl ht hrm.2.1)
      have HTA := Lib.hid (fun k => took_all R j k hjl)
      have HTC := Lib.hid (fun t k => took_le R j t k hjl)
      have HX4 : Hid (R[j] = [] ∨ ∃ b off, xA = some ⟨b, off, none⟩ ∧ ∀ k (h : k < (R[j]).length), w.cell? ⟨b, off + k, none⟩ = some (.int .i64 ((R[j])[k] : Nat))) := Lib.hid (hx4.imp (fun h => by
        have := congrArg List.length h
        rw [natI_len] at this
        exact List.length_eq_zero_iff.1 this) fun ⟨b, off, h1, h2⟩ => ⟨b, off, h1, fun k h => by
        have := h2 k (by rw [natI_len]; exact h)
        rw [this]
        simp [natI]⟩)
      generalize R[j] = r at *
      obtain ⟨c0, c1, c2⟩ := HF.out.c
      clear hcs hx1 hx2 hx3 hx4 hrm
      go_wp2_with (fail)
      clear r0 c0 c1 c2
      go_loopw [33] (fun tv wq => ∃ t : Nat, tv = .int .i64 t ∧ t ≤ r.length ∧ Hid (F1 w p bd bf br rb (some ⟨b, 0, none⟩) R.length fc ids.length L wq (took R j t)) ∧ Hid (∀ k, k < ids.length → took R j t k ≤ L)) (fun tv _ => r.length - (iof tv).toNat)
      case atStart => exact ⟨0, rfl, by omega, HF, HTL⟩
      case round =>
        obtain ⟨t, rfl, ht, HF, HTL⟩ := hrel
        by_cases htl : t < r.length
        · obtain ⟨xb, off, rfl, hxc⟩ := HX4.out.resolve_left (by intro e; rw [e] at htl; simp at htl)
          have x0 := (HF.out.low.cells.1 _ _ (World.block_lt_of_cell? w _ (hxc t htl))).trans (hxc t htl)
          have hxm := HRM.out.2.2 r[t] (List.getElem_mem htl)
          have HS1 := Lib.hid (HST.out t htl)
          generalize r[t] = x at *
          obtain ⟨c0, c1, c2⟩ := HF.out.c
          have r1 := tab_cell HF.out.room hxm
          have r1f := tab_frozen (o := x) HF.out.room
          have HZ1 := Lib.hid (HTL.out x hxm)
          have hz2 : (L : Int) - (took R j t x : Int) ≤ 1000 ∧ 0 ≤ (L : Int) - (took R j t x : Int) := by have := HZ1.out; omega
          have HF5 := Lib.hid (HF.out.turn HRB.out x HS1.out)
          have HZ5 : Hid ((L : Int) - (took R j (t + 1) x : Int) = (L : Int) - (took R j t x : Int) - 1) := Lib.hid (by rw [HS1.out x, if_pos rfl]; omega)
          obtain ⟨z, hz⟩ : ∃ z : Int, z = (L : Int) - (took R j t x : Int) := ⟨_, rfl⟩
          rw [← hz] at r1 hz2 HF5 HZ5
          clear hz hxc
          have hw : IntKind.i64.wrap (z - 1) = z - 1 := wrap_small (by omega)
          go_upto_region 9 with (fail)
          clear c0 c1 c2 r1 r1f x0 hw HF
          generalize wr.setCell ⟨rb, x, none⟩ (.int .i64 (z - 1)) = W5 at *
          obtain ⟨c0, c1, c2⟩ := HF5.out.c
          have r1 := tab_cell HF5.out.room hxm
          rw [HZ5.out] at r1
          by_cases hneg : z - 1 < 0
          · have HNO : Hid (¬ CanR ms ids.length each L R) := Lib.hid (no_room HRL.out hxm (by
              have h1 := HTC.out (t + 1) x
              have h2 := HZ5.out
              omega))
            go_wp2_with (fail)
            go_ret
            exact ⟨by rw [decide_eq_false HNO.out]; rfl, HF5.out.low⟩
          · go_wp2_with (fail)
            exact ⟨⟨t + 1, by simp, by omega, HF5, Lib.hid fun k hk => by
              rw [HS1.out k]
              by_cases e : k = x
              · subst e
                have h2 := HZ5.out
                have h3 := HS1.out k
                rw [if_pos rfl] at h3 ⊢
                omega
              · rw [if_neg e]; exact HTL.out k hk⟩, by simp [iof]; omega⟩
        · obtain rfl : t = r.length := by omega
          go_wp2_with (fail)
          exact ⟨⟨j + 1, by simp, by omega, Lib.hid (by rw [← funext HTA.out]; exact HF.out), Lib.hid fun k hk => by rw [← HTA.out]; exact HTL.out k hk⟩, by simp [iof]; omega⟩
    · obtain rfl : j = R.length := by omega
      have HTK : Hid (∀ k, k < ids.length → cnt (rowF R) R.length k ≤ L) := Lib.hid fun k hk => by rw [← took_zero]; exact HTL.out k hk
      have hg0 : took R R.length 0 = fun k => cnt (rowF R) R.length k := funext fun k => took_zero R R.length k
      rw [hg0] at HF
      clear HTL hg0
      obtain ⟨c0, c1, c2⟩ := HF.out.c
      have c3 := (HF.out.low.cells.1 _ _ hp).trans (cell_of_row w p 1 _ _ _ HD.out.at_)
      change wo.cell? _ = some (.slice mA ms.length mc) at c3
      have hmk := make_97 wo ms.length (by omega)
      go_upto_region 16 with (fail)
      have hx3 : Ext wo ((((wo.alloc (.cells (tabV (fun _ => .map none) ms.length) 66)).alloc (.cells #[.slice (some ⟨wo.heap.size, 0, none⟩) ms.length ms.length] 97)).alloc (.cells #[.slice none 0 0] 87)).alloc (.cells #[.nilFunc] 98)) := Ext.alloc (Ext.alloc (Ext.alloc (Ext.alloc (Ext.refl _) _) _) _) _
      obtain ⟨q1, q2, q3, q4⟩ := four_blocks wo (.cells (tabV (fun _ => .map none) ms.length) 66) (.cells #[.slice (some ⟨wo.heap.size, 0, none⟩) ms.length ms.length] 97) (.cells #[.slice none 0 0] 87) (.cells #[.nilFunc] 98)
      have HSZ : Hid (w.heap.size ≤ wo.heap.size) := Lib.hid HF.out.low.size
      obtain ⟨hb, hhb⟩ : ∃ hb, hb = wo.heap.size := ⟨_, rfl⟩
      obtain ⟨bh, hbh⟩ : ∃ bh, bh = wo.heap.size + 1 := ⟨_, rfl⟩
      obtain ⟨bs, hbs⟩ : ∃ bs, bs = wo.heap.size + 1 + 1 := ⟨_, rfl⟩
      obtain ⟨bz, hbz⟩ : ∃ bz, bz = wo.heap.size + 1 + 1 + 1 := ⟨_, rfl⟩
      rw [← hbz] at q4 ⊢
      rw [← hbs] at q3 ⊢
      rw [← hbh] at q2 ⊢
      rw [← hhb] at q1 q2 q3 q4 hx3 ⊢
      have HHB : Hid (w.heap.size ≤ hb) := Lib.hid (by have := HSZ.out; omega)
      have HBS : Hid (w.heap.size ≤ bs) := Lib.hid (by have := HSZ.out; omega)
      have HBZ : Hid (w.heap.size ≤ bz) := Lib.hid (by have := HSZ.out; omega)
      clear hhb hbh hbs hbz hmk c0 c1 c2 c3
      generalize ((((wo.alloc (.cells (tabV (fun _ => .map none) ms.length) 66)).alloc (.cells #[.slice (some ⟨hb, 0, none⟩) ms.length ms.length] 97)).alloc (.cells #[.slice none 0 0] 87)).alloc (.cells #[.nilFunc] 98)) = W3 at *
      have z0 := cell_of_row W3 bz 0 _ _ _ q4
      change W3.cell? _ = some .nilFunc at z0
      have z1 := tab_frozen (o := 0) q4
      have HQ1 := Lib.hid q1; have HQ2 := Lib.hid q2; have HQ3 := Lib.hid q3; have HQ4 := Lib.hid q4; have HX3 := Lib.hid hx3
      clear q1 q2 q3 q4 hx3
      go_upto_region 17 with (fail)
      have HF2 : Hid (F2 (fcOf w p ids ms each (.slice iA ids.length ic) (.slice mA ms.length mc) us fA fc R.length bd bs bh br bf bz rb hb fun _ => 0) 0 (fun _ => 0) (W3.setCell ⟨bz, 0, none⟩ (.func (.func 54) #[] #[.pointer (some ⟨bd, 0, none⟩), .pointer (some ⟨bs, 0, none⟩), .pointer (some ⟨bh, 0, none⟩), .pointer (some ⟨br, 0, none⟩), .pointer (some ⟨bf, 0, none⟩), .pointer (some ⟨bz, 0, none⟩)])) (fun k => (L : Int) - cnt (rowF R) R.length k)) := Lib.hid (by
        have k0 : ∀ b c t, wo.heap[b]? = some (Obj.cells c t) → W3.heap[b]? = some (Obj.cells c t) := fun b c t hk => (HX3.out.block _ (Rg.lt_of_heap hk)).trans hk
        have kp : ∀ b c t, t ≠ 98 → W3.heap[b]? = some (Obj.cells c t) → (W3.setCell ⟨bz, 0, none⟩ (.func (.func 54) #[] #[.pointer (some ⟨bd, 0, none⟩), .pointer (some ⟨bs, 0, none⟩), .pointer (some ⟨bh, 0, none⟩), .pointer (some ⟨br, 0, none⟩), .pointer (some ⟨bf, 0, none⟩), .pointer (some ⟨bz, 0, none⟩)])).heap[b]? = some (Obj.cells c t) := fun b c t ht hk => (heap_setCell_other _ (cells_ne hk HQ4.out ht)).trans hk
        exact ⟨Ext.setCell (HF.out.low.trans HX3.out) HBZ.out _, kp _ _ _ (by decide) (k0 _ _ _ HF.out.bd), ⟨_, kp _ _ _ (by decide) HQ3.out⟩, kp _ _ _ (by decide) HQ2.out, kp _ _ _ (by decide) (k0 _ _ _ HF.out.br), kp _ _ _ (by decide) (k0 _ _ _ HF.out.bf), (heap_setCell_row _ HQ4.out).trans rfl, kp _ _ _ (by decide) (k0 _ _ _ HF.out.room), (kp _ _ _ (by decide) HQ1.out).trans (by rw [tabV_congr fun o _ => ?_]; rw [if_neg (Nat.not_lt_zero _)]), fun o ho => absurd ho (Nat.not_lt_zero _), fun o ho => absurd ho (Nat.not_lt_zero _), fun o q ho => absurd ho (Nat.not_lt_zero _)⟩)
      clear HQ1 HQ2 HQ3 HQ4 HX3 z0 z1 HF HSZ HBZ
      generalize W3.setCell ⟨bz, 0, none⟩ _ = W4 at *
      have b0 : W4.cell? ⟨bh, 0, none⟩ = some (.slice (some ⟨hb, 0, none⟩) ms.length ms.length) := cell_of_row W4 bh 0 _ _ _ HF2.out.bh
      have hmm := @run_makeMap Try.prog
      go_wp2_with (fail)
      clear b0
      go_loopw [59] (fun iv wr => ∃ (i : Nat) (hm : Nat → Nat), iv = .int .i64 i ∧ i ≤ ms.length ∧ Hid (F2 (fcOf w p ids ms each (.slice iA ids.length ic) (.slice mA ms.length mc) us fA fc R.length bd bs bh br bf bz rb hb fun _ => 0) i hm wr (fun k => (L : Int) - cnt (rowF R) R.length k))) (fun iv _ => ms.length - (iof iv).toNat)
      case atStart => exact ⟨0, _, rfl, by omega, HF2⟩
      case round =>
        obtain ⟨i, hm, rfl, hi, HF⟩ := hrel
        clear HF2
        have b0 : wr.cell? ⟨bh, 0, none⟩ = some (.slice (some ⟨hb, 0, none⟩) ms.length ms.length) := cell_of_row wr bh 0 _ _ _ HF.out.bh
        by_cases hil : i < ms.length
        · have hxm : Ext wr (wr.alloc (.map #[] 0)) := Ext.alloc (Ext.refl _) _
          have hhas := (hxm.block _ (Rg.lt_of_heap HF.out.has)).trans HF.out.has
          have b1 := tab_cell hhas hil
          simp only [fcOf, if_neg (Nat.lt_irrefl i)] at b1
          have b1f := tab_frozen (o := i) hhas
          simp only [fcOf] at b1f
          have hbl : hb < wr.heap.size := Rg.lt_of_heap HF.out.has
          have hfm := HF.out.made HHB.out
          simp only [fcOf] at hfm
          rw [← alloc_setCell wr _ _ _ _ hbl] at hfm
          have HFM := Lib.hid hfm
          clear hxm hhas hfm
          go_wp2_with (fail)
          exact ⟨⟨i + 1, _, by simp, by omega, HFM⟩, by simp [iof]; omega⟩
        · obtain rfl : i = ms.length := by omega
          have HG0 : Hid (FS0 (fcOf w p ids ms each (.slice iA ids.length ic) (.slice mA ms.length mc) us fA fc R.length bd bs bh br bf bz rb hb hm) wr (fun k => (L : Int) - cnt (rowF R) R.length k) (rowF R)) := Lib.hid ⟨HF.out.low, HF.out.bd, HF.out.bs, HF.out.bh, HF.out.br, HF.out.bf, HF.out.bz, HF.out.room, HF.out.has.trans (by rw [tabV_congr fun o ho => ?_]; rw [if_pos ho]), fun o h1 h2 => ⟨_, HF.out.maps o h2, fun k _ => (rowF_out R h1 k).symm⟩⟩
          have HOK : Hid ((fcOf w p ids ms each (.slice iA ids.length ic) (.slice mA ms.length mc) us fA fc R.length bd bs bh br bf bz rb hb hm).ok) := Lib.hid ⟨HD.out, HM.out, HRB.out, HF.out.ge, HF.out.inj, hm_.2, hn⟩
          have b2 : wr.cell? ⟨bf, 0, none⟩ = some (.slice fA R.length fc) := cell_of_row wr bf 0 _ _ _ HF.out.bf
          have HPT := Lib.hid (part_start (M := ms) (R := R) (m := ids.length) (each := each) (L := L) HTK.out HRL.out)
          clear HF
          go_wp2_with (fail)
          clear b0 b2
          have HP := Lib.hid hp
          go_loopw [16] (fun bv wr => ∃ (b : Nat) (D : Nat → Nat → Bool) (Rm : Nat → Int), bv = .int .i64 b ∧ R.length ≤ b ∧ b ≤ ms.length ∧ Hid (FS0 (fcOf w p ids ms each (.slice iA ids.length ic) (.slice mA ms.length mc) us fA fc R.length bd bs bh br bf bz rb hb hm) wr Rm D) ∧ Hid (Rok (fcOf w p ids ms each (.slice iA ids.length ic) (.slice mA ms.length mc) us fA fc R.length bd bs bh br bf bz rb hb hm) L Rm D) ∧ Hid (Part (mayF ms) ms.length ids.length each L R.length (rowF R) b 0 D)) (fun bv _ => ms.length - (iof bv).toNat)
          case atStart => exact ⟨R.length, rowF R, _, rfl, by omega, HRL.out, HG0, Lib.hid (fun k hk => by rw [cnt_rowF R _ k HRL.out]), HPT⟩
          case round =>
            rename World => wo
            obtain ⟨b, D, Rm, rfl, hfb, hbn, HG, HRO, HPT⟩ := hrel
            clear HG0
            have b0 : wo.cell? ⟨bh, 0, none⟩ = some (.slice (some ⟨hb, 0, none⟩) ms.length ms.length) := cell_of_row wo bh 0 _ _ _ HG.out.bh
            by_cases hbl : b < ms.length
            · have b1 : wo.cell? ⟨bd, 0, none⟩ = some (.pointer (some ⟨p, 0, none⟩)) := cell_of_row wo bd 0 _ _ _ HG.out.bd
              have b2 : wo.cell? ⟨p, 2, none⟩ = some (.int .i64 each) := (HG.out.low.cells.1 _ _ hp).trans (cell_of_row w p 2 _ _ _ HD.out.at_)
              go_wp2_with (fail)
              clear b0 b1 b2
              go_loopw [79] (fun cv wr => ∃ (c : Nat) (D : Nat → Nat → Bool) (Rm : Nat → Int), cv = .int .i64 c ∧ c ≤ each ∧ Hid (FS0 (fcOf w p ids ms each (.slice iA ids.length ic) (.slice mA ms.length mc) us fA fc R.length bd bs bh br bf bz rb hb hm) wr Rm D) ∧ Hid (Rok (fcOf w p ids ms each (.slice iA ids.length ic) (.slice mA ms.length mc) us fA fc R.length bd bs bh br bf bz rb hb hm) L Rm D) ∧ Hid (Part (mayF ms) ms.length ids.length each L R.length (rowF R) b c D)) (fun cv _ => each - (iof cv).toNat)
              case atStart => exact ⟨0, D, Rm, rfl, by omega, HG, HRO, HPT⟩
              case round =>
                clear HG HRO HPT
                obtain ⟨c, D, Rm, rfl, hce, HG, HRO, HPT⟩ := hrel
                by_cases hcl : c < each
                · have b1 : wr.cell? ⟨bd, 0, none⟩ = some (.pointer (some ⟨p, 0, none⟩)) := cell_of_row wr bd 0 _ _ _ HG.out.bd
                  have b2 : wr.cell? ⟨p, 0, none⟩ = some (.slice iA ids.length ic) := (HG.out.low.cells.1 _ _ hp).trans (cell_of_row w p 0 _ _ _ HD.out.at_)
                  have hmk2 := make_87 wr ids.length (by omega)
                  obtain ⟨bv, hbv⟩ := HG.out.bs
                  have hxm : Ext wr (wr.alloc (.cells (tabV (fun _ => .bool false) ids.length) 4)) := Ext.alloc (Ext.refl _) _
                  have hbv2 := (hxm.block _ (Rg.lt_of_heap hbv)).trans hbv
                  have b3 : (wr.alloc (.cells (tabV (fun _ => .bool false) ids.length) 4)).cell? ⟨bs, 0, none⟩ = some bv := cell_of_row _ bs 0 _ _ _ hbv2
                  have b3f : (wr.alloc (.cells (tabV (fun _ => .bool false) ids.length) 4)).frozen? ⟨bs, 0, none⟩ = false := tab_frozen (o := 0) hbv2
                  have hbsl : bs < wr.heap.size := Rg.lt_of_heap hbv
                  have hfr := HG.out.fresh HBS.out
                  simp only [fcOf] at hfr
                  rw [← alloc_setCell wr _ _ _ _ hbsl] at hfr
                  have HFR2 := Lib.hid hfr
                  clear hfr hxm hbv hbv2
                  go_upto_region 28 with (fail)
                  clear b1 b2 b3 b3f hmk2 HG
                  generalize (wr.setCell ⟨bs, 0, none⟩ (.slice (some ⟨wr.heap.size, 0, none⟩) ids.length ids.length)).alloc (.cells (tabV (fun _ => .bool false) ids.length) 4) = W5 at *
                  have z0 : W5.cell? ⟨bz, 0, none⟩ = some (.func (.func 54) #[] #[.pointer (some ⟨bd, 0, none⟩), .pointer (some ⟨bs, 0, none⟩), .pointer (some ⟨bh, 0, none⟩), .pointer (some ⟨br, 0, none⟩), .pointer (some ⟨bf, 0, none⟩), .pointer (some ⟨bz, 0, none⟩)]) := cell_of_row W5 bz 0 _ _ _ HFR2.out.bz
                  have HFA := Lib.hid (find_any _ HOK.out L hL _ (fun _ => false) D Rm wr.heap.size b W5 (Nat.lt_succ_self _) HFR2.out HRO.out HPT.out.cnt hfb hbl)
                  go_wp2_with (go_at_call 54; (with_reducible refine HFA.out.mono ?_); rintro e w5 ⟨res, E, T5, R5, rfl, hF5, hR5, hFn⟩; cases res)
                  · have HNO : Hid (¬ CanR ms ids.length each L R) := Lib.hid (HPT.out.stuck hbl hfb hcl hFn)
                    go_ret
                    exact ⟨by rw [decide_eq_false HNO.out]; rfl, hF5.low⟩
                  · exact ⟨⟨c + 1, E, R5, by simp, by omega, Lib.hid hF5.fs0, Lib.hid hR5, Lib.hid (HPT.out.step hbl hfb hFn)⟩, by simp [iof]; omega⟩
                · obtain rfl : c = each := by omega
                  go_wp2_with (fail)
                  exact ⟨⟨b + 1, D, Rm, by simp, by omega, by omega, HG, HRO, Lib.hid (HPT.out.next hbl)⟩, by simp [iof]; omega⟩
            · obtain rfl : b = ms.length := by omega
              have HYES : Hid (CanR ms ids.length each L R) := Lib.hid (HPT.out.can (fun o ho k _ h => HR.out.may o ho k h) (fun o ho => HR.out.deg HM.out o ho))
              have HLW := Lib.hid HG.out.low
              go_wp2_with (fail)
              go_ret
              exact ⟨by rw [decide_eq_true HYES.out]; rfl, HLW.out⟩
end Go.Proofs.Ytlekdhhgjhakgaa

namespace Go.Proofs.Ytlekdhhgjhakgaa
set_option linter.unusedVariables false
set_option linter.unusedSimpArgs false
open Go.RowKit
set_option maxRecDepth 100000 in
set_option maxHeartbeats 8000000 in
theorem load_any (p : Nat) (ids : List Int) (ms : List (List Nat)) (each : Nat) (iv mv : Value) (us : List Value) (w : World) (hd : Dk 0 w p ids ms each iv mv us) (hM : May ms ids.length) (hm : 0 < ids.length ∧ ids.length ≤ 1000) (hn : ms.length ≤ 1000) (he : each ≤ 13) (he2 : each ≤ ids.length)
    (hall : ∀ l ∈ ms, each ≤ l.length) : Calls Try.prog 33 #[.pointer (some ⟨p, 0, none⟩)] w fun e w' => ∃ L : Nat, e = .returned (.int .i64 L) ∧ Least ms ids.length each L ∧ L ≤ ms.length ∧ Ext w w' := by
  classical
  obtain ⟨iA, ic, rfl⟩ : ∃ iA ic, iv = .slice iA ids.length ic := by obtain ⟨a, c, h1, -⟩ := hd.ids; exact ⟨a, c, h1⟩
  obtain ⟨mA, mc, rfl⟩ : ∃ mA mc, mv = .slice mA us.length mc := row_formG hd.may.row
  have hul : us.length = ms.length := hd.may.len
  rw [hul] at hd
  obtain ⟨L, hLn, hL⟩ := least_of _ (CanR.most hM hall)
  have HD := Lib.hid hd; have HL := Lib.hid hL; have HM := Lib.hid hM
  have hroom := Can.room hL.can
  have hp := Rg.lt_of_heap hd.at_
  have c0 := cell_of_row w p 0 _ _ _ hd.at_
  have c1 := cell_of_row w p 1 _ _ _ hd.at_
  have c2 := cell_of_row w p 2 _ _ _ hd.at_
  change w.cell? _ = some (.slice iA ids.length ic) at c0
  change w.cell? _ = some (.slice mA ms.length mc) at c1
  change w.cell? _ = some (.int .i64 each) at c2
  have hb1 : each * ms.length ≤ 13 * 1000 := Nat.mul_le_mul he hn
  obtain ⟨q, hq⟩ : ∃ q, q = each * ms.length := ⟨_, rfl⟩
  obtain ⟨l0, hl0⟩ : ∃ l0, l0 = (q + ids.length - 1) / ids.length := ⟨_, rfl⟩
  have hl0L : l0 ≤ L := by
    rw [hl0, Nat.div_le_iff_le_mul hm.1, Nat.mul_comm L]
    rw [Nat.mul_comm] at hroom
    omega
  have m1 : IntKind.i64.wrap ((each : Int) * (ms.length : Int)) = (q : Int) := by rw [IntKind.wrap_i64, ← Int.natCast_mul, ← hq]; omega
  have m2 : IntKind.i64.wrap ((q : Int) + (ids.length : Int)) = (q : Int) + ids.length := by rw [IntKind.wrap_i64]; omega
  have m3 : IntKind.i64.wrap ((q : Int) + (ids.length : Int) - 1) = (q : Int) + ids.length - 1 := by rw [IntKind.wrap_i64]; omega
  have m4 : ((q : Int) + (ids.length : Int) - 1).tdiv (ids.length : Int) = (l0 : Int) := by
    rw [hl0, show (q : Int) + (ids.length : Int) - 1 = ((q + ids.length - 1 : Nat) : Int) by omega]
    exact Int.ofNat_tdiv _ _
  have m5 : IntKind.i64.wrap (l0 : Int) = (l0 : Int) := by rw [IntKind.wrap_i64]; omega
  have HL0 := Lib.hid hl0L
  clear hd hL hM hul hq hl0 hroom hb1
  go_enter Try.func33, Try.ntmps33
  go_upto_region 1 with (fail)
  go_quiet (fail)
  have HX0 : Hid (Ext w (w.drewN nq)) := Lib.hid (by with_reducible repeat (first | exact Ext.refl _ | assumption | apply Ext.drewN | apply Ext.drew | apply Ext.alloc | (refine Ext.setCell ?_ (by simp <;> omega) _) | (refine Ext.trans ?_ (by assumption))))
  clear m1 m2 m3 m4 m5 c0 c1 c2
  go_wp2_with (fail)
  go_loopw [3] (fun lv wr => ∃ l : Nat, lv = .int .i64 l ∧ l ≤ L ∧ Hid (Ext w wr)) (fun lv _ => L - (iof lv).toNat)
  case atStart => exact ⟨l0, rfl, HL0.out, HX0⟩
  case round =>
    obtain ⟨l, rfl, hl, HX⟩ := hrel
    clear HX0
    have HFI := Lib.hid (fits_any p ids ms each l (.slice iA ids.length ic) (.slice mA ms.length mc) (.slice none 0 0) us [] [] wr (HD.out.ext HX.out) HM.out hm hn (FX.nil wr) ⟨Nat.zero_le _, fun o ho => absurd ho (Nat.not_lt_zero _)⟩ he (by omega))
    by_cases hc : CanR ms ids.length each l []
    · have HLL : Hid (l = L) := Lib.hid (by
        rcases Nat.lt_or_ge l L with h | h
        · exact absurd hc (HL.out.no l h)
        · omega)
      rw [decide_eq_true hc] at HFI
      clear hc
      go_wp2_with (go_at_call 36; (with_reducible refine HFI.out.mono ?_); rintro e w1 ⟨rfl, hx⟩)
      go_ret
      exact ⟨l, rfl, by rw [HLL.out]; exact HL.out, by rw [HLL.out]; exact hLn, HX.out.trans hx⟩
    · have HLL : Hid (l < L) := Lib.hid (by
        rcases Nat.lt_or_ge l L with h | h
        · exact h
        · exact absurd (Can.more HL.out.can h) hc)
      rw [decide_eq_false hc] at HFI
      clear hc
      go_wp2_with (go_at_call 36; (with_reducible refine HFI.out.mono ?_); rintro e w1 ⟨rfl, hx⟩)
      exact ⟨⟨l + 1, by simp, HLL.out, Lib.hid (HX.out.trans hx)⟩, by have := HLL.out; simp [iof]; omega⟩
end Go.Proofs.Ytlekdhhgjhakgaa

namespace Go.Proofs.Ytlekdhhgjhakgaa
set_option linter.unusedVariables false
set_option linter.unusedSimpArgs false
open Go.RowKit
theorem clone_any (v : Value) (zs : List Int) (w : World) (h : IRd w v zs) (hl : zs.length ≤ 1000000) :
    Calls Try.prog 52 #[v] w fun e w' => ∃ v', e = .returned v' ∧ w'.ownsRow w.heap.size 3 1 v' zs.length (zs.flatMap celI) ∧ Ext w w' := by
  obtain ⟨A, cap, rfl, h2, h3, h4⟩ := h
  by_cases h0 : zs = []
  · subst h0
    cases A with
    | none =>
      refine (sh_slices_Clone_int_nil 0 cap w).mono ?_
      rintro e w1 ⟨rfl, rfl⟩
      exact ⟨_, rfl, ⟨rfl, .inl ⟨rfl, rfl⟩⟩, Ext.refl _⟩
    | some a =>
      refine (sh_slices_Clone_int_zero a cap w).mono ?_
      rintro e w1 ⟨v', rfl, hr, -, hb⟩
      exact ⟨v', rfl, hr, hb⟩
  · obtain ⟨b, off, rfl, hc⟩ := h4.resolve_left h0
    refine (sh_slices_Clone_int b off zs.length cap zs w (Nat.le_refl _) (by omega) fun j hj => ?_).mono ?_
    · rw [hc j hj]
      simp [List.getD, hj]
    · rintro e w1 ⟨v', rfl, hr, -, hb⟩
      rw [List.take_length] at hr
      exact ⟨v', rfl, by rw [celI_map]; exact hr, hb⟩
theorem clip_any (A : Option Addr) (n cap : Nat) (w : World) (h : A = none ∧ n = 0 ∧ cap = 0 ∨ (∃ g, A = some ⟨g, 0, none⟩) ∧ n ≤ cap) (hn : n ≤ 1000000) (hcap : cap ≤ 9223372036854775807) :
    Calls Try.prog 37 #[.slice A n cap] w fun e w' => e = .returned (.slice A n n) ∧ w' = w := by
  rcases h with ⟨rfl, rfl, rfl⟩ | ⟨⟨g, rfl⟩, hle⟩
  · go_enter Try.func37, Try.ntmps37
    go_wp2_with (fail)
    go_ret
    exact ⟨rfl, rfl⟩
  · go_enter Try.func37, Try.ntmps37
    go_wp2_with (fail)
    go_ret
    exact ⟨rfl, rfl⟩
/-- A call at the head of a region's tail. -/
theorem wpList_call {ops : Array Oper} {rest : List Oper} {o : Oper} {a : Act} {w : World} {Q : Exit → Act → World → Prop} (hgd : o.guard = none) {f : FuncId} {args : Array Value} (hr : (execOp a.eval o).run Try.prog w = .ok (.enter f args) w)
    (h : Calls Try.prog f args w fun e w' => ∃ v, e = .returned v ∧ wpList Try.prog ops Q rest (a.put o.dst v) w') : wpList Try.prog ops Q (o :: rest) a w := by
  refine wpList_plain hgd fun K hK => ?_
  unfold Oper.wp
  rw [hr]
  refine h.mono ?_
  rintro e w' ⟨v, rfl, hw⟩
  exact hK _ _ hw
/-- 'append' as a step of a region. -/
theorem upR_app {P : Program} {Pn : Rr.Pnc} {w w' : World} {R : Value → World → Prop} {ρ : Operand → Value} {o : Oper} {s x : Operand} {T : TypeId} (ho : o.op = .call { callee := .builtin .append, args := #[s, x], argTypes := #[T, T] }) {sv xv v' : Value} (hs : ρ s = sv) (hx : ρ x = xv)
    (hr : (Builtin.append_ #[T, T] o.type #[sv, xv]).run P w = .ok v' w') (e : Ext w w') (h : R v' w') : Rr.upR P Pn w R ((execOp ρ o).run P w) := by
  unfold execOp
  simp only [ho, resolve, invoke, builtin, Sem.run_bind, Sem.run_pure, Result.andThen_ok, List.map_toArray, List.map_cons, List.map_nil, hs, hx, hr]
  exact ⟨e, h⟩
/-- One more behind a row that is full. -/
theorem append_full (T E bytes sz : Nat) {z : Value} (hT : Try.prog.underlying T = some (.slice E)) (hinfo : (Try.prog.info? E).map (fun i => (i.zero, i.size, i.bytes)) = some (some z, sz, bytes)) (hz : z.cells.size = sz) (h0 : 0 < sz) (hby : bytes ≤ 100000) (ty : TypeId)
    (w : World) (A : Option Addr) (n : Nat) (olds : List Value) (hA : A = none → n = 0) (hlo : olds.length = n * sz) (holds : ∀ b, A = some b → ∀ j u, olds[j]? = some u → w.cell? (b.add j) = some u) (q : Nat) (cs : List Value) (hc : cs.length = sz ∧ ∀ c ∈ cs, c.oneCell' = true) (hq : w.heap[q]? = some (.cells cs.toArray E)) (hn : n < 1000000) :
    ∃ v' w', (Builtin.append_ #[T, T] ty #[.slice A n n, .slice (some ⟨q, 0, none⟩) 1 1]).run Try.prog w = .ok v' w' ∧ w'.ownsRow w.heap.size E sz v' (n + 1) (olds ++ cs) ∧ Ext w w' := by
  obtain ⟨i0, hi, hz0, hz1, hz2⟩ := info_parts hinfo
  have hb : (n + 1) * bytes ≤ 1000000 * 100000 := Nat.mul_le_mul (by omega) hby
  have hcl : ∀ j u, cs[j]? = some u → w.cell? ((⟨q, 0, none⟩ : Addr).add j) = some u := fun j u hj => by
    rw [addr_add, cell_of_row w q _ _ _ _ hq]
    simpa using hj
  cases A with
  | none =>
    obtain rfl := hA rfl
    obtain rfl : olds = [] := List.eq_nil_of_length_eq_zero (by simpa using hlo)
    obtain ⟨v', w', hr, h1, h2, -⟩ := run_append_own (P := Try.prog) w w.heap.size T ty E i0 z sz bytes hT hi hz0 hz1 hz2 hz h0 (.slice none 0 0) 0 [] (World.ownsRow_nil w _ E sz) ⟨q, 0, none⟩ 1 1 cs (by rw [hc.1, Nat.one_mul]) hcl hc.2 (by unfold maxLen; omega) (by omega) (Nat.le_refl _)
    exact ⟨v', w', hr, h1, ⟨h2.os, h2.tape, h2.output, h2.size, fun k hk => h2.block k hk (by simp [Value.ownBlock])⟩⟩
  | some b =>
    obtain ⟨v', w', hr, h1, h2⟩ := run_append_arg_grows (P := Try.prog) w T ty E i0 z sz bytes hT hi hz0 hz1 hz2 hz h0 b n n olds hlo (holds b rfl) ⟨q, 0, none⟩ 1 1 cs (by rw [hc.1, Nat.one_mul]) hcl (by omega) (by unfold maxLen; omega) (by omega)
    exact ⟨v', w', hr, h1, ⟨h2.os, h2.tape, h2.output, h2.size, fun k hk => h2.block k hk (by simp)⟩⟩
end Go.Proofs.Ytlekdhhgjhakgaa

namespace Go.Proofs.Ytlekdhhgjhakgaa
set_option linter.unusedVariables false
set_option linter.unusedSimpArgs false
open Go.RowKit
/-- What stays where a row is added: all but the box and the row of rows. -/
structure KA (bx : Nat) (r : Option Nat) (w w' : World) : Prop where
  os : w'.os = w.os
  tape : w'.tape = w.tape
  output : w'.output = w.output
  size : w.heap.size ≤ w'.heap.size
  block : ∀ k, k < w.heap.size → k ≠ bx → some k ≠ r → w'.heap[k]? = w.heap[k]?
theorem KA.of_ext {bx : Nat} {r : Option Nat} {w w' : World} (x : Ext w w') : KA bx r w w' := ⟨x.os, x.tape, x.output, x.size, fun k hk _ _ => x.block k hk⟩
theorem KA.pre {bx : Nat} {r : Option Nat} {w w1 w2 : World} (x : Ext w w1) (h : KA bx r w1 w2) : KA bx r w w2 :=
  ⟨h.os.trans x.os, h.tape.trans x.tape, h.output.trans x.output, Nat.le_trans x.size h.size, fun k hk a b => (h.block k (Nat.lt_of_lt_of_le hk x.size) a b).trans (x.block k hk)⟩
/-- The rows that have been chosen. -/
structure AS (w0 : World) (p bd bx bl L : Nat) (W : World) (fv : Value) (us : List Value) (R : List (List Nat)) : Prop where
  low : Ext w0 W
  atd : W.heap[bd]? = some (.cells #[.pointer (some ⟨p, 0, none⟩)] 70)
  atx : W.heap[bx]? = some (.cells #[fv] 74)
  atl : W.heap[bl]? = some (.cells #[.int .i64 L] 3)
  rows : MayR w0.heap.size W fv us R
  ge : w0.heap.size ≤ bx
theorem AS.ext {w0 : World} {p bd bx bl L : Nat} {W W' : World} {fv : Value} {us : List Value} {R : List (List Nat)} (h : AS w0 p bd bx bl L W fv us R) (x : Ext W W') : AS w0 p bd bx bl L W' fv us R := by
  have k : ∀ b c t, W.heap[b]? = some (Obj.cells c t) → W'.heap[b]? = some (Obj.cells c t) := fun b c t hk => (x.block _ (Rg.lt_of_heap hk)).trans hk
  exact ⟨h.low.trans x, k _ _ _ h.atd, k _ _ _ h.atx, k _ _ _ h.atl, h.rows.ext x, h.ge⟩
theorem cel1_map (us : List Value) : us.flatMap cel1 = us := by
  induction us with
  | nil => rfl
  | cons x l ih => rw [List.flatMap_cons, ih]; rfl
/-- Rows of one's own, to read. -/
theorem MayR.fx {B : Nat} {w : World} {fv : Value} {us : List Value} {R : List (List Nat)} (h : MayR B w fv us R) (hs : ∀ l ∈ R, l.length ≤ 1000000 ∧ ∀ x ∈ l, x ≤ 1000000) : ∃ A cap, fv = .slice A R.length cap ∧ R.length ≤ cap ∧ cap ≤ 9223372036854775807 ∧ (A = none ∧ R.length = 0 ∧ cap = 0 ∨ (∃ g, A = some ⟨g, 0, none⟩) ∧ R.length ≤ cap) ∧ (∀ g j u, A = some ⟨g, 0, none⟩ → us[j]? = some u → w.cell? ⟨g, j, none⟩ = some u) ∧ FX w (.slice A R.length cap) us R := by
  have hel : ∀ i (h1 : i < us.length) (h2 : i < R.length), IRd w us[i] (natI R[i]) := fun i h1 h2 => by
    have h3 := hs _ (List.getElem_mem h2)
    exact ird_row (h.el i h2 h1) (fun z hz => by obtain ⟨x, hx, rfl⟩ := List.mem_map.1 hz; have := h3.2 x hx; exact okI_small ⟨by show (-1000000 : Int) ≤ (x : Int); omega, by show (x : Int) ≤ 1000000; omega⟩) (by rw [natI_len]; exact h3.1)
  rcases h.row.2 with ⟨rfl, h0⟩ | ⟨g, cap, cur, rfl, hB, hg, h1, h2, h3, h4⟩
  · have hR : R.length = 0 := by rw [← h.len]; exact h0
    rw [hR]
    exact ⟨none, 0, rfl, by omega, by omega, .inl ⟨rfl, rfl, rfl⟩, (fun g j u hb => by cases hb), ⟨⟨none, 0, by rw [hR], by omega, .inl (List.length_eq_zero_iff.1 hR)⟩, h.len, hel⟩⟩
  · have hc : ∀ i (hi : i < us.length), w.cell? ⟨g, i, none⟩ = some us[i] := fun i hi => by
      rw [World.ownsRow.cellAt h.row i (by omega), cel1_map, List.getElem?_eq_getElem hi]
    rw [h.len] at h1
    refine ⟨some ⟨g, 0, none⟩, cap, by rw [h.len], h1, by unfold maxLen at h2; exact h2, .inr ⟨⟨g, rfl⟩, h1⟩, fun g' j u hb hj => ?_, ⟨⟨_, _, rfl, h1, .inr ⟨g, rfl, hc⟩⟩, h.len, hel⟩⟩
    injection hb with hb
    injection hb with hb
    subst hb
    obtain ⟨hj1, rfl⟩ := List.getElem?_eq_some_iff.1 hj
    exact hc j hj1
theorem MayR.cell74 {B p : Nat} {w : World} {mv : Value} {us : List Value} {ms : List (List Nat)} {cs : Array Value} (h : MayR B w mv us ms) (hp : w.heap[p]? = some (.cells cs 74)) (u : Value) : MayR B (w.setCell ⟨p, 0, none⟩ u) mv us ms :=
  ⟨own_cell h.row hp (by decide) u, h.len, fun i h1 h2 => own_cell (h.el i h1 h2) hp (by decide) u⟩
set_option maxRecDepth 100000 in
set_option maxHeartbeats 8000000 in
open Classical in
theorem vis_any (w0 : World) (p bd bx bl : Nat) (ids : List Int) (ms : List (List Nat)) (each L : Nat) (iv mv lv fv : Value) (ds us : List Value) (R : List (List Nat)) (s : List Nat) (W : World) (hd : Dk 0 w0 p ids ms each iv mv ds) (hM : May ms ids.length) (hm : 0 < ids.length ∧ ids.length ≤ 1000) (hn : ms.length ≤ 1000)
    (he : each ≤ 13) (hL : L ≤ 1000) (hA : AS w0 p bd bx bl L W fv us R) (hR : Rows_ ms each R) (hlt : R.length < ms.length) (hs : s ∈ enum (ms.getD R.length []) each) (hl : W.ownsRow w0.heap.size 3 1 lv (natI s).length ((natI s).flatMap celI)) :
    Calls Try.prog 35 #[lv, .pointer (some ⟨bd, 0, none⟩), .pointer (some ⟨bx, 0, none⟩), .pointer (some ⟨bl, 0, none⟩)] W fun e W' => e = .returned (.bool (decide (CanR ms ids.length each L (R ++ [s])))) ∧
      (CanR ms ids.length each L (R ++ [s]) → ∃ fv', AS w0 p bd bx bl L W' fv' (us ++ [lv]) (R ++ [s]) ∧ KA bx fv.ownBlock W W') ∧ (¬ CanR ms ids.length each L (R ++ [s]) → Ext W W') := by
  have hR2 := hR.snoc hlt hs
  obtain ⟨lA, lc, rfl⟩ := row_formG hl
  have hsm : ∀ l ∈ R ++ [s], l.length ≤ 1000000 ∧ ∀ x ∈ l, x ≤ 1000000 := fun l hl' => by
    obtain ⟨h1, h2, h3⟩ := hR2.mem hM hl'
    exact ⟨by omega, fun x hx => by have := h3 x hx; omega⟩
  obtain ⟨A, cap, rfl, hrc, hcm, hform, hcells, hfx⟩ := hA.rows.fx fun l hl' => hsm l (List.mem_append_left _ hl')
  have hul : us.length = R.length := hA.rows.len
  have HA := Lib.hid hA; have HR := Lib.hid hR; have HR2 := Lib.hid hR2; have HL := Lib.hid hl; have HD := Lib.hid hd; have HM := Lib.hid hM; have HCE := Lib.hid hcells; have HFX := Lib.hid hfx; have HSM := Lib.hid hsm; have HUL := Lib.hid hul
  have HCL : Hid (∀ wz, Calls Try.prog 37 #[.slice A R.length cap] wz fun e w' => e = .returned (.slice A R.length R.length) ∧ Ext wz w') := Lib.hid fun wz => (clip_any A R.length cap wz hform (by omega) hcm).mono fun e w' ⟨h1, h2⟩ => ⟨h1, h2 ▸ Ext.refl _⟩
  have c0 : W.cell? ⟨bd, 0, none⟩ = some (.pointer (some ⟨p, 0, none⟩)) := cell_of_row W bd 0 _ _ _ hA.atd
  have c1 : W.cell? ⟨bx, 0, none⟩ = some (.slice A R.length cap) := cell_of_row W bx 0 _ _ _ hA.atx
  have c2 : W.cell? ⟨bl, 0, none⟩ = some (.int .i64 L) := cell_of_row W bl 0 _ _ _ hA.atl
  have l0 := Rg.lt_of_heap hA.atd
  have l1 := Rg.lt_of_heap hA.atx
  have l2 := Rg.lt_of_heap hA.atl
  clear hA hR hR2 hl hd hM hfx hsm hul hcells
  go_enter Try.func35, Try.ntmps35
  go_upto_region 1 with (fail)
  refine Rp.wp_regionTE [] [(0, .y), (1, .y), (2, .y), (3, .y), (6, .y), (4, .m), (5, .z)] [7, 8] (fun _ => (.cells #[.slice lA (natI s).length lc] 22, fun p => .slice (some ⟨p, 0, none⟩) 1 1)) (fun c a d v w h => by have h' : _ ∧ _ := h; exact ⟨(Rr.put_defers a d v).symm.trans h'.1, h'.2⟩) (by kernel_rfl) (by kernel_rfl) ?_
  (refine Rr.wr_y (by simp only [List.getElem?_toArray, List.getElem?_cons_succ, List.getElem?_cons_zero]; rfl) (by rfl) ?_
   apply Exists.intro
   refine ⟨fun wz hw _ => ?_, ?_⟩
   · have hcz := hw.cells.1
     go_simp
     (with_reducible exact Rg.up_value)
   simp only [Act.put, List.setIfInBounds_toArray, List.set_cons_zero, List.set_cons_succ])
  (refine Rr.wr_y (by simp only [List.getElem?_toArray, List.getElem?_cons_succ, List.getElem?_cons_zero]; rfl) (by rfl) ?_
   apply Exists.intro
   refine ⟨fun wz hw _ => ?_, ?_⟩
   · have hcz := hw.cells.1
     go_simp
     (with_reducible exact Rg.up_value)
   simp only [Act.put, List.setIfInBounds_toArray, List.set_cons_zero, List.set_cons_succ])
  (refine Rr.wr_y (by simp only [List.getElem?_toArray, List.getElem?_cons_succ, List.getElem?_cons_zero]; rfl) (by rfl) ?_
   apply Exists.intro
   refine ⟨fun wz hw _ => ?_, ?_⟩
   · have hcz := hw.cells.1
     go_simp
     apply Rg.up_enter
     (with_reducible refine (HCL.out _).mono ?_)
     rintro e w3 ⟨rfl, hb3⟩
     exact ⟨rfl, hb3⟩
   simp only [Act.put, List.setIfInBounds_toArray, List.set_cons_zero, List.set_cons_succ])
  (refine Rr.wr_y (by simp only [List.getElem?_toArray, List.getElem?_cons_succ, List.getElem?_cons_zero]; rfl) (by rfl) ?_
   apply Exists.intro
   refine ⟨fun wz hw _ => ?_, ?_⟩
   · have hcz := hw.cells.1
     go_simp
     (with_reducible exact Rg.up_value)
   simp only [Act.put, List.setIfInBounds_toArray, List.set_cons_zero, List.set_cons_succ])
  (refine Rr.wr_y (by simp only [List.getElem?_toArray, List.getElem?_cons_succ, List.getElem?_cons_zero]; rfl) (by rfl) ?_
   apply Exists.intro
   refine ⟨fun wz hw _ => ?_, ?_⟩
   · have hcz := hw.cells.1
     go_simp
     (with_reducible exact Rg.up_value)
   simp only [Act.put, List.setIfInBounds_toArray, List.set_cons_zero, List.set_cons_succ])
  refine Rr.wr_m (by simp only [List.getElem?_toArray, List.getElem?_cons_succ, List.getElem?_cons_zero]; rfl) (by rfl) (fun wz => by go_simp) (fun pn hpn => ?_)
  simp only [Act.put, List.setIfInBounds_toArray, List.set_cons_zero, List.set_cons_succ]
  refine Rr.wr_z (fun v w' => w'.ownsRow w0.heap.size 22 1 v (us ++ [Value.slice lA (natI s).length lc]).length ((us ++ [Value.slice lA (natI s).length lc]).flatMap cel1)) (by simp only [List.getElem?_toArray, List.getElem?_cons_succ, List.getElem?_cons_zero]; rfl) (by rfl) (fun v w1 w2 h e => row_ext h e) (fun wz hw hh => ?_) (fun u => ?_)
  · obtain ⟨hb1, hb2⟩ := hh _ List.mem_cons_self
    obtain ⟨v', w', hr, h1, h2⟩ := append_full 74 22 24 1 (z := .slice none 0 0) Try.underlying74 (by kernel_rfl) rfl (by decide) (by decide) 74 wz A R.length us (fun h => by rcases hform with ⟨-, h2, -⟩ | ⟨⟨g, h2⟩, -⟩; exact h2; rw [h2] at h; cases h) (by rw [HUL.out, Nat.mul_one]) (fun b hb j u hj => by
      rcases hform with ⟨h2, -, -⟩ | ⟨⟨g, h2⟩, -⟩
      · rw [h2] at hb; cases hb
      · have h3 := HCE.out g j u h2 hj
        rw [h2] at hb
        injection hb with hb
        subst hb
        rw [Go.WideShapes.add_plain, Nat.zero_add]
        exact (hw.cells.1 _ _ (World.block_lt_of_cell? W _ h3)).trans h3) pn [.slice lA (natI s).length lc] ⟨rfl, by simp [Value.oneCell']⟩ hb2 (by omega)
    refine upR_app (T := 74) rfl (by rfl) (by rfl) hr h2 ?_
    have h3 := row_mono h1 (B' := w0.heap.size) (by have := HA.out.low.size; have := hw.size; omega)
    rw [cel1_map, List.length_append, HUL.out]
    exact h3
  simp only [Act.put, List.setIfInBounds_toArray, List.set_cons_zero, List.set_cons_succ]
  refine Rr.wr_nil ?_
  intro wy hy hh
  have hrow := hh _ List.mem_cons_self
  simp only [List.filterMap_cons, List.filterMap_nil, List.getElem?_cons_succ, List.getElem?_cons_zero]
  have HY := Lib.hid hy
  have hrows : MayR w0.heap.size wy u (us ++ [Value.slice lA (natI s).length lc]) (R ++ [s]) := ⟨hrow, by simp [HUL.out], fun i h1 h2 => by
    have h3 : i < (R ++ [s]).length := h1
    by_cases e : i < R.length
    · have e2 : i < us.length := by rw [HUL.out]; exact e
      rw [List.getElem_append_left e2, List.getElem_append_left e]
      exact row_ext (HA.out.rows.el i e e2) HY.out
    · have e3 : i = R.length := by simp at h3; omega
      subst e3
      have e4 : (R ++ [s])[R.length]'h1 = s := by
        rw [List.getElem_append_right (by omega)]
        simp
      have e5 : (us ++ [Value.slice lA (natI s).length lc])[R.length]'h2 = Value.slice lA (natI s).length lc := by
        rw [List.getElem_append_right (by rw [HUL.out]; omega)]
        simp [HUL.out]
      rw [e4, e5]
      exact row_ext HL.out HY.out⟩
  obtain ⟨uA, uc, rfl, -, -, -, -, hufx⟩ := hrows.fx HSM.out
  have HFI := Lib.hid (fits_any p ids ms each L iv mv _ ds _ (R ++ [s]) wy (HD.out.mono (Nat.zero_le _) |>.ext (HA.out.low.trans HY.out)) HM.out hm hn hufx HR2.out he hL)
  clear hrow hrows hufx hh hy c0 HCL
  by_cases hcan : CanR ms ids.length each L (R ++ [s])
  · rw [decide_eq_true hcan] at HFI
    have HYES := Lib.hid hcan
    clear hcan
    refine wpList_call rfl (by go_simp) (HFI.out.mono ?_)
    rintro e w1 ⟨rfl, hx⟩
    refine ⟨_, rfl, ?_⟩
    simp only [Act.put, List.setIfInBounds_toArray, List.set_cons_zero, List.set_cons_succ]
    go_upto_region 3 with (fail)
    have HA1 := Lib.hid (HA.out.ext (HY.out.trans hx)); have HL1 := Lib.hid (row_ext HL.out (HY.out.trans hx)); have HX1 := Lib.hid (HY.out.trans hx)
    clear hx c1 c2 l0 l1 l2
    have c1 : w1.cell? ⟨bx, 0, none⟩ = some (.slice A R.length cap) := cell_of_row w1 bx 0 _ _ _ HA1.out.atx
    have l1 := Rg.lt_of_heap HA1.out.atx
    have hxa : Ext w1 (w1.alloc (.cells #[.slice lA (natI s).length lc] 22)) := Ext.alloc (Ext.refl _) _
    have HA2 := Lib.hid (HA1.out.ext hxa); have HL2 := Lib.hid (row_ext HL1.out hxa); have HX2 := Lib.hid (HX1.out.trans hxa)
    have hsz : w0.heap.size ≤ (w1.alloc (.cells #[.slice lA (natI s).length lc] 22)).heap.size := HA2.out.low.size
    have hus : us.length < 1000000 := by rw [HUL.out]; omega
    clear hxa
    go_upto_region 4 with (at_builtin; (refine append_g (cs := cel1) (z := .slice none 0 0) 74 22 24 Try.underlying74 (by kernel_rfl) (by rfl) (by decide) (by decide) rfl (.tmp 15) (.tmp 17) rfl w0.heap.size (.slice A R.length cap) us (by rfl) HA2.out.rows.row w1.heap.size (.slice lA (natI s).length lc) ⟨rfl, by simp [cel1, Value.oneCell']⟩ (by rfl) (alloc_at w1 _) hus hsz ?_; intro g7 cap7 w7 hr7 hg7 hat7; have hp7 := row_other HA2.out.rows.row (by decide) hg7 HA2.out.atx; have f7 : w7.frozen? ⟨bx, 0, none⟩ = false := tab_frozen hp7; have c7 : w7.cell? ⟨bx, 0, none⟩ = some (.slice A R.length cap) := cell_of_row w7 bx 0 _ _ _ hp7))
    have HP7 := Lib.hid hp7; have HG7 := Lib.hid hg7; have HR7 := Lib.hid hr7
    clear hp7 hg7 hr7 hat7 f7 c7 c1 l1
    go_wp2_with (fail)
    go_ret
    refine ⟨by rw [decide_eq_true HYES.out]; rfl, fun _ => ⟨.slice (some ⟨g7, 0, none⟩) (us.length + 1) cap7, ?_, ?_⟩, fun h => absurd HYES.out h⟩
    · have kp : ∀ b c t, t ≠ 74 → t ≠ 22 → (w1.alloc (.cells #[.slice lA (natI s).length lc] 22)).heap[b]? = some (Obj.cells c t) → (w7.setCell ⟨bx, 0, none⟩ (.slice (some ⟨g7, 0, none⟩) (us.length + 1) cap7)).heap[b]? = some (Obj.cells c t) := fun b c t ht ht2 hk => by
        have h7 := row_other HA2.out.rows.row ht2 HG7.out hk
        exact (heap_setCell_other _ (cells_ne h7 HP7.out ht)).trans h7
      exact ⟨Ext.setCell (row_grown HA2.out.low HA2.out.rows.row (Nat.le_refl _) HG7.out) HA2.out.ge _, kp _ _ _ (by decide) (by decide) HA2.out.atd, (heap_setCell_row _ HP7.out).trans rfl, kp _ _ _ (by decide) (by decide) HA2.out.atl, (HA2.out.rows.push HL2.out HG7.out HR7.out).cell74 HP7.out _, HA2.out.ge⟩
    · refine KA.pre HX2.out ⟨HG7.out.os, HG7.out.tape, HG7.out.output, by rw [World.size_setCell]; exact HG7.out.size, fun k hk h1 h2 => ?_⟩
      rw [heap_setCell_other _ h1]
      exact HG7.out.block k hk h2
  · rw [decide_eq_false hcan] at HFI
    have HNO := Lib.hid hcan
    clear hcan
    refine wpList_call rfl (by go_simp) (HFI.out.mono ?_)
    rintro e w1 ⟨rfl, hx⟩
    refine ⟨_, rfl, ?_⟩
    simp only [Act.put, List.setIfInBounds_toArray, List.set_cons_zero, List.set_cons_succ]
    go_wp2_with (fail)
    go_ret
    exact ⟨by rw [decide_eq_false HNO.out]; rfl, fun h => absurd h HNO.out, fun _ => HY.out.trans hx⟩
end Go.Proofs.Ytlekdhhgjhakgaa

namespace Go.Proofs.Ytlekdhhgjhakgaa
set_option linter.unusedVariables false
set_option linter.unusedSimpArgs false
open Go.RowKit
/-- What subsets' closure captures. -/
structure ES (b2 b3 b4 b5 bd bx bl n : Nat) (lv : Value) (W : World) : Prop where
  c2 : W.heap[b2]? = some (.cells #[.int .i64 n] 3)
  c3 : W.heap[b3]? = some (.cells #[.func (.func 35) #[] #[.pointer (some ⟨bd, 0, none⟩), .pointer (some ⟨bx, 0, none⟩), .pointer (some ⟨bl, 0, none⟩)]] 80)
  c4 : W.heap[b4]? = some (.cells #[lv] 22)
  c5 : W.heap[b5]? = some (.cells #[.func (.func 51) #[] #[.pointer (some ⟨b2, 0, none⟩), .pointer (some ⟨b3, 0, none⟩), .pointer (some ⟨b4, 0, none⟩), .pointer (some ⟨b5, 0, none⟩)]] 95)
theorem ES.ext {b2 b3 b4 b5 bd bx bl n : Nat} {lv : Value} {W W' : World} (h : ES b2 b3 b4 b5 bd bx bl n lv W) (x : Ext W W') : ES b2 b3 b4 b5 bd bx bl n lv W' := by
  have k : ∀ b c t, W.heap[b]? = some (Obj.cells c t) → W'.heap[b]? = some (Obj.cells c t) := fun b c t hk => (x.block _ (Rg.lt_of_heap hk)).trans hk
  exact ⟨k _ _ _ h.c2, k _ _ _ h.c3, k _ _ _ h.c4, k _ _ _ h.c5⟩
theorem enum_zero (l : List Nat) : enum l 0 = [[]] := by cases l <;> rfl
theorem enum_drop (l : List Nat) (i n : Nat) (h : i < l.length) : enum (l.drop i) (n + 1) = (enum (l.drop (i + 1)) n).map (l[i] :: ·) ++ enum (l.drop (i + 1)) (n + 1) := by
  rw [List.drop_eq_getElem_cons h]
  rfl
/-- What extend answers: the first subset, behind those that are chosen, with which there is an assignment. -/
structure EX (w0 : World) (p bd bx bl L : Nat) (fv : Value) (us : List Value) (R : List (List Nat)) (W : World) (o : Option (List Nat)) (e : Ending) (W' : World) : Prop where
  no : o = none → e = .returned (.bool false) ∧ Ext W W'
  yes : ∀ s, o = some s → e = .returned (.bool true) ∧ KA bx fv.ownBlock W W' ∧ ∃ fv' lv, AS w0 p bd bx bl L W' fv' (us ++ [lv]) (R ++ [s])
theorem ext_size {w w' : World} (h : Ext w w') : w.heap.size ≤ w'.heap.size := h.size
theorem step_append_g {α : Type} {cs : α → List Value} {sz : Nat} (T E bytes : Nat) {z : Value} (hT : Try.prog.underlying T = some (.slice E))
    (hinfo : (Try.prog.info? E).map (fun i => (i.zero, i.size, i.bytes)) = some (some z, sz, bytes)) (hz : z.cells.size = sz) (h0 : 0 < sz) (hby : bytes ≤ 100000)
    {ops : Array Oper} {o : Oper} {a : Act} {K : Act → World → Prop} {Q : Exit → Act → World → Prop} {F : Prop} {w : World} (hgd : o.guard = none) (s x : Operand)
    (ho : o.op = .call { callee := .builtin .append, args := #[s, x], argTypes := #[T, T] }) (B : Nat) (v : Value) (vs : List α) (hs : a.eval s = v) (hF : w.ownsRow B E sz v vs.length (vs.flatMap cs))
    (p : Nat) (u : α) (hl : (cs u).length = sz ∧ ∀ c ∈ cs u, c.oneCell' = true) (hx : a.eval x = .slice (some ⟨p, 0, none⟩) 1 1) (hp : w.heap[p]? = some (.cells (cs u).toArray E)) (hn : vs.length < 1000000) (hB : B ≤ w.heap.size)
    (h : ∀ g cap w', w'.ownsRow B E sz (.slice (some ⟨g, 0, none⟩) (vs.length + 1) cap) (vs ++ [u]).length ((vs ++ [u]).flatMap cs) → w.grownBy w' v.ownBlock → (v.ownBlock = some g ∨ g = w.heap.size) → K (a.put o.dst (.slice (some ⟨g, 0, none⟩) (vs.length + 1) cap)) w') :
    if Region.wanted o (yielded ops a.tmps) = true then Oper.wp Try.prog o a w K Q else F := by
  obtain ⟨i0, hi, hz0, hz1, hz2⟩ := info_parts hinfo
  refine step_append_lies w hgd s x T ho B E i0 _ sz bytes hT hi hz0 hz1 hz2 hz h0 v vs.length _ hs hF ⟨p, 0, none⟩ 1 1 (cs u) hx (by rw [hl.1, Nat.one_mul]) ?_ hl.2 (by decide) (by unfold maxLen; omega) ?_ hB w.heap.size rfl ?_
  · intro j c hc
    rw [addr_add, cell_of_row w p _ _ _ _ hp]
    simpa using hc
  · have : (vs.length + 1) * bytes ≤ 1000000 * 100000 := Nat.mul_le_mul (by omega) hby
    omega
  · intro g cap w' hw hg hat hlt
    refine h g cap w' ?_ hg hat
    rw [List.flatMap_append, List.length_append]
    simpa using hw
set_option maxRecDepth 100000 in
set_option maxHeartbeats 8000000 in
open Classical in
theorem extend_any (w0 : World) (p bd bx bl b2 b3 b4 b5 : Nat) (ids : List Int) (ms : List (List Nat)) (each L : Nat) (iv mv : Value) (ds : List Value) (hd : Dk 0 w0 p ids ms each iv mv ds) (hM : May ms ids.length) (hm : 0 < ids.length ∧ ids.length ≤ 1000) (hn : ms.length ≤ 1000)
    (he : each ≤ 13) (hL : L ≤ 1000) (fv : Value) (us : List Value) (R : List (List Nat)) (hR : Rows_ ms each R) (hlt : R.length < ms.length) (mA : Option Addr) (mc : Nat) (hbig : (ms.getD R.length []).length ≤ 1000) (hok : ∀ x ∈ ms.getD R.length [], x ≤ 1000) (hb4 : some b4 ≠ fv.ownBlock)
    (hlv : ms.getD R.length [] = [] ∨ ∃ b, mA = some ⟨b, 0, none⟩ ∧ b < w0.heap.size ∧ ∀ k (hk : k < (ms.getD R.length []).length), w0.cell? ⟨b, k, none⟩ = some (.int .i64 ((ms.getD R.length [])[k] : Nat))) :
    ∀ (N from_ : Nat) (ch : List Nat) (A : Option Addr) (cc : Nat) (W : World), (ms.getD R.length []).length - from_ < N → from_ ≤ (ms.getD R.length []).length → ES b2 b3 b4 b5 bd bx bl each (.slice mA (ms.getD R.length []).length mc) W → AS w0 p bd bx bl L W fv us R →
      W.ownsRow w0.heap.size 3 1 (.slice A ch.length cc) (natI ch).length ((natI ch).flatMap celI) → ch.Sublist ((ms.getD R.length []).take from_) → ch.length ≤ each →
      Calls Try.prog 51 #[.int .i64 from_, .slice A ch.length cc, .pointer (some ⟨b2, 0, none⟩), .pointer (some ⟨b3, 0, none⟩), .pointer (some ⟨b4, 0, none⟩), .pointer (some ⟨b5, 0, none⟩)] W fun e W' =>
        EX w0 p bd bx bl L fv us R W (((enum ((ms.getD R.length []).drop from_) (each - ch.length)).map (ch ++ ·)).find? fun s => decide (CanR ms ids.length each L (R ++ [s]))) e W' := by
  have HD := Lib.hid hd; have HM := Lib.hid hM; have HR := Lib.hid hR; have HLV := Lib.hid hlv; have HOK := Lib.hid hok; have HB4 := Lib.hid hb4
  have HVIS := Lib.hid (fun s lv W hA hs hl => vis_any w0 p bd bx bl ids ms each L iv mv lv fv ds us R s W hd hM hm hn he hL hA hR hlt hs hl)
  clear hd hM hR hlv hok hb4
  generalize ms.getD R.length [] = l at *
  intro N
  induction N with
  | zero => intro f ch A cc W hN; omega
  | succ N ih =>
  intro f ch A cc W hN hf hE hA hch hsub hcl
  have HN := Lib.hid hN; have HE := Lib.hid hE; have HA := Lib.hid hA; have HCH := Lib.hid hch; have HSUB := Lib.hid hsub
  have e2 : W.cell? ⟨b2, 0, none⟩ = some (.int .i64 each) := cell_of_row W b2 0 _ _ _ hE.c2
  have e3 : W.cell? ⟨b3, 0, none⟩ = some (.func (.func 35) #[] #[.pointer (some ⟨bd, 0, none⟩), .pointer (some ⟨bx, 0, none⟩), .pointer (some ⟨bl, 0, none⟩)]) := cell_of_row W b3 0 _ _ _ hE.c3
  clear hN hE hA hch hsub
  go_enter Try.func51, Try.ntmps51
  by_cases hfull : ch.length = each
  · have hz : ((ch.length : Int) == (each : Int)) = true := by simp [hfull]
    have HS : Hid (ch ∈ enum l each) := Lib.hid (mem_enum.2 ⟨HSUB.out.trans (List.take_sublist _ _), hfull⟩)
    have HV := Lib.hid (HVIS.out ch _ W HA.out HS.out HCH.out)
    have HEN : Hid (((enum (l.drop f) (each - ch.length)).map (ch ++ ·)).find? (fun s => decide (CanR ms ids.length each L (R ++ [s]))) = if CanR ms ids.length each L (R ++ [ch]) then some ch else none) := Lib.hid (by
      rw [hfull, Nat.sub_self, enum_zero]
      simp only [List.map_cons, List.map_nil, List.append_nil, List.find?_cons]
      by_cases h : CanR ms ids.length each L (R ++ [ch])
      · simp [h]
      · simp [h])
    clear HVIS ih hfull
    go_wp2_with (go_at_call 35; (with_reducible refine HV.out.mono ?_); rintro e w1 ⟨rfl, hy, hn2⟩)
    go_ret
    rw [HEN.out]
    by_cases h : CanR ms ids.length each L (R ++ [ch])
    · rw [if_pos h]
      obtain ⟨fv', h1, h2⟩ := hy h
      exact ⟨fun h => (by cases h), fun s hs => (by injection hs with hs; subst hs; exact ⟨by rw [decide_eq_true h]; rfl, h2, fv', _, h1⟩)⟩
    · rw [if_neg h]
      exact ⟨fun _ => ⟨by rw [decide_eq_false h]; rfl, hn2 h⟩, fun s hs => (by cases hs)⟩
  · have hz : ((ch.length : Int) == (each : Int)) = false := by simp; omega
    have hcl2 : ch.length < each := by omega
    obtain ⟨k, hk⟩ : ∃ k, each - ch.length = k + 1 := ⟨each - ch.length - 1, by omega⟩
    have HK := Lib.hid hk
    clear hk hfull
    go_wp2_with (fail)
    clear e2 e3
    go_loopw [9] (fun iv wr => ∃ i : Nat, iv = .int .i64 i ∧ f ≤ i ∧ i ≤ l.length ∧ Hid (Ext W wr) ∧ Hid (((enum (l.drop f) (each - ch.length)).map (ch ++ ·)).find? (fun s => decide (CanR ms ids.length each L (R ++ [s]))) = ((enum (l.drop i) (each - ch.length)).map (ch ++ ·)).find? (fun s => decide (CanR ms ids.length each L (R ++ [s]))))) (fun iv _ => l.length - (iof iv).toNat)
    case atStart => exact ⟨f, rfl, by omega, hf, Lib.hid (Ext.refl _), Lib.hid rfl⟩
    case round =>
      obtain ⟨i, rfl, hfi, hil, HX, HQ⟩ := hrel
      have HE1 := Lib.hid (HE.out.ext HX.out)
      have e4 : wr.cell? ⟨b4, 0, none⟩ = some (.slice mA l.length mc) := cell_of_row wr b4 0 _ _ _ HE1.out.c4
      by_cases hin : i < l.length
      · obtain ⟨lb, rfl, hlb, hlc⟩ := HLV.out.resolve_left (by intro e; rw [e] at hin; simp at hin)
        have e5 : wr.cell? ⟨b5, 0, none⟩ = some (.func (.func 51) #[] #[.pointer (some ⟨b2, 0, none⟩), .pointer (some ⟨b3, 0, none⟩), .pointer (some ⟨b4, 0, none⟩), .pointer (some ⟨b5, 0, none⟩)]) := cell_of_row wr b5 0 _ _ _ HE1.out.c5
        have HA1 := Lib.hid (HA.out.ext HX.out)
        have e6 := (HA1.out.low.cells.1 _ _ hlb).trans (hlc i hin)
        have HIR : Hid (IRd W (.slice A ch.length cc) (natI ch)) := Lib.hid (ird_row HCH.out (fun z hz => by
          obtain ⟨x, hx, rfl⟩ := List.mem_map.1 hz
          have := HOK.out x (List.mem_of_mem_take (HSUB.out.subset hx))
          exact okI_small ⟨by show (-1000000 : Int) ≤ (x : Int); omega, by show (x : Int) ≤ 1000000; omega⟩) (by rw [natI_len]; omega))
        have HCLN : Hid (∀ wz, Ext wr wz → Calls Try.prog 52 #[.slice A ch.length cc] wz fun e w' => ∃ v' c', e = .returned (.slice v' ch.length c') ∧ w'.ownsRow wr.heap.size 3 1 (.slice v' ch.length c') (natI ch).length ((natI ch).flatMap celI) ∧ Ext wz w') := Lib.hid fun wz hz => (clone_any _ (natI ch) wz (HIR.out.ext (HX.out.trans hz)) (by rw [natI_len]; omega)).mono fun e w' ⟨v, h1, h2, h3⟩ => by
          obtain ⟨A', c', rfl⟩ := row_formG h2
          rw [natI_len] at h1 h2
          exact ⟨A', c', h1, row_mono (by rw [natI_len]; exact h2) hz.size, h3⟩
        have b4l := Rg.lt_of_heap HE1.out.c4
        have b5l := Rg.lt_of_heap HE1.out.c5
        have lbl := Nat.lt_of_lt_of_le hlb HA1.out.low.size
        have HSS : Hid (∀ wz, Ext wr wz → wz.cell? ⟨b5, 0, none⟩ = some (.func (.func 51) #[] #[.pointer (some ⟨b2, 0, none⟩), .pointer (some ⟨b3, 0, none⟩), .pointer (some ⟨b4, 0, none⟩), .pointer (some ⟨b5, 0, none⟩)]) ∧ wz.cell? ⟨b4, 0, none⟩ = some (.slice (some ⟨lb, 0, none⟩) l.length mc) ∧ wz.cell? ⟨lb, i, none⟩ = some (.int .i64 (l[i] : Nat))) := Lib.hid fun wz hz => ⟨(hz.cells.1 _ _ b5l).trans e5, (hz.cells.1 _ _ b4l).trans e4, (hz.cells.1 _ _ lbl).trans e6⟩
        have HLI : Hid (l[i] ≤ 1000) := Lib.hid (HOK.out _ (List.getElem_mem hin))
        have HED := Lib.hid (enum_drop l i k hin)
        have HSX : Hid ((ch ++ [l[i]]).Sublist (l.take (i + 1))) := Lib.hid (by rw [List.take_succ_eq_append_getElem hin]; exact (HSUB.out.trans (List.take_sublist_take_left hfi)).append (List.Sublist.refl _))
        have HFS : Hid (((enum (l.drop i) (each - ch.length)).map (ch ++ ·)).find? (fun s => decide (CanR ms ids.length each L (R ++ [s]))) = (((enum (l.drop (i + 1)) k).map ((ch ++ [l[i]]) ++ ·)).find? (fun s => decide (CanR ms ids.length each L (R ++ [s])))).or (((enum (l.drop (i + 1)) (each - ch.length)).map (ch ++ ·)).find? (fun s => decide (CanR ms ids.length each L (R ++ [s]))))) := Lib.hid (by
          rw [HK.out, HED.out, List.map_append, List.find?_append, List.map_map]
          congr 2
          refine List.map_congr_left fun a _ => ?_
          simp)
        generalize l[i] = x at *
        have HIH : Hid (∀ g cap w7, Ext wr w7 → w7.ownsRow wr.heap.size 3 1 (.slice (some ⟨g, 0, none⟩) ((natI ch).length + 1) cap) (natI ch ++ [((x : Nat) : Int)]).length ((natI ch ++ [((x : Nat) : Int)]).flatMap celI) →
            Calls Try.prog 51 #[.int .i64 ((i : Int) + 1), .slice (some ⟨g, 0, none⟩) ((natI ch).length + 1) cap, .pointer (some ⟨b2, 0, none⟩), .pointer (some ⟨b3, 0, none⟩), .pointer (some ⟨b4, 0, none⟩), .pointer (some ⟨b5, 0, none⟩)] w7 fun e W' => ∃ r, e = .returned (.bool r) ∧
              EX w0 p bd bx bl L fv us R w7 (((enum (l.drop (i + 1)) k).map ((ch ++ [x]) ++ ·)).find? fun s => decide (CanR ms ids.length each L (R ++ [s]))) (.returned (.bool r)) W' ∧
              (W'.cell? ⟨b5, 0, none⟩ = some (.func (.func 51) #[] #[.pointer (some ⟨b2, 0, none⟩), .pointer (some ⟨b3, 0, none⟩), .pointer (some ⟨b4, 0, none⟩), .pointer (some ⟨b5, 0, none⟩)]) ∧ W'.cell? ⟨b4, 0, none⟩ = some (.slice (some ⟨lb, 0, none⟩) l.length mc) ∧ W'.cell? ⟨lb, i, none⟩ = some (.int .i64 (x : Nat)))) := Lib.hid fun g cap w7 hx7 hr7 => by
          have e1 : natI (ch ++ [x]) = natI ch ++ [((x : Nat) : Int)] := by unfold natI; rw [List.map_append]; rfl
          have h7 := ih (i + 1) (ch ++ [x]) (some ⟨g, 0, none⟩) cap w7 (by have := HN.out; omega) (by omega) (HE1.out.ext hx7) (HA1.out.ext hx7) (by
            rw [e1, show (ch ++ [x]).length = (natI ch).length + 1 by rw [natI_len]; simp]
            exact row_mono hr7 HA1.out.low.size) HSX.out (by simp; omega)
          rw [show each - (ch ++ [x]).length = k by have := HK.out; simp; omega, show (ch ++ [x]).length = (natI ch).length + 1 by rw [natI_len]; simp] at h7
          refine Calls.mono h7 fun e W' hEX => ?_
          have he : ∃ r, e = .returned (.bool r) := by
            cases ho : (((enum (l.drop (i + 1)) k).map ((ch ++ [x]) ++ ·)).find? fun s => decide (CanR ms ids.length each L (R ++ [s]))) with
            | none => exact ⟨false, (hEX.no ho).1⟩
            | some s => exact ⟨true, (hEX.yes s ho).1⟩
          obtain ⟨r, rfl⟩ := he
          refine ⟨r, rfl, hEX, ?_⟩
          cases ho : (((enum (l.drop (i + 1)) k).map ((ch ++ [x]) ++ ·)).find? fun s => decide (CanR ms ids.length each L (R ++ [s]))) with
          | none => exact HSS.out W' (hx7.trans (hEX.no ho).2)
          | some s =>
            obtain ⟨-, hK, -⟩ := hEX.yes s ho
            have hA7 := HA1.out.ext hx7
            have hE7 := HE1.out.ext hx7
            obtain ⟨t5, t4, t6⟩ := HSS.out w7 hx7
            have kc : ∀ b o v, w7.cell? ⟨b, o, none⟩ = some v → b ≠ bx → some b ≠ fv.ownBlock → W'.cell? ⟨b, o, none⟩ = some v := fun b o v hc h1 h2 => by
              have h3 := hK.block b (World.block_lt_of_cell? w7 _ hc) h1 h2
              rw [← hc]
              simp [World.cell?, h3]
            have hg : ∀ g, fv.ownBlock = some g → w0.heap.size ≤ g ∧ ∃ cs, w7.heap[g]? = some (.cells cs 22) := fun g hg => ⟨(hA7.rows.row.lt g hg).1, row_block hA7.rows.row hg⟩
            refine ⟨kc _ _ _ t5 (cells_ne hE7.c5 hA7.atx (by decide)) fun e => ?_, kc _ _ _ t4 (cells_ne hE7.c4 hA7.atx (by decide)) HB4.out, kc _ _ _ t6 (by have := hA7.ge; omega) fun e => ?_⟩
            · obtain ⟨-, cs, hcs⟩ := hg _ e.symm
              exact cells_ne hE7.c5 hcs (by decide) rfl
            · have := (hg _ e.symm).1
              omega
        have hwr : IntKind.i64.wrap ((i : Int) + 1) = (i : Int) + 1 := by rw [IntKind.wrap_i64]; omega
        clear hlc
        go_upto_region 6 with (fail)
        obtain ⟨s5, s4, s6⟩ := HSS.out wr (Ext.refl _)
        go_region_held3 (fun w' => w'.cell? ⟨b5, 0, none⟩ = some (.func (.func 51) #[] #[.pointer (some ⟨b2, 0, none⟩), .pointer (some ⟨b3, 0, none⟩), .pointer (some ⟨b4, 0, none⟩), .pointer (some ⟨b5, 0, none⟩)]) ∧ w'.cell? ⟨b4, 0, none⟩ = some (.slice (some ⟨lb, 0, none⟩) l.length mc) ∧ w'.cell? ⟨lb, i, none⟩ = some (.int .i64 (x : Nat)))
          (first | exact kS | exact HSS.out _ (by with_reducible repeat (first | exact Ext.refl _ | assumption | apply Ext.drewN | apply Ext.drew | apply Ext.alloc | (refine Ext.setCell ?_ (by simp <;> omega) _) | (refine Ext.trans ?_ (by assumption)))) | go_keep)
          (first
            | (go_at_call 51; (with_reducible refine (HIH.out g7 cap7 w7 hx7 hr7).mono ?_); rintro e w9 ⟨r, rfl, hEX, kS⟩)
            | (go_at_call 52; refine (HCLN.out _ (by with_reducible repeat (first | exact Ext.refl _ | assumption | apply Ext.drewN | apply Ext.drew | apply Ext.alloc | (refine Ext.setCell ?_ (by simp <;> omega) _) | (refine Ext.trans ?_ (by assumption))))).mono ?_; rintro e w1 ⟨cA, cv, rfl, hcr, hcx⟩)
            | (refine step_append_g (cs := celI) (z := .int .i64 0) 22 3 8 Try.underlying22 (by kernel_rfl) (by rfl) (by decide) (by decide) rfl (.tmp 28) (.tmp 33) rfl wr.heap.size (.slice cA ch.length cv) (natI ch) (by simp [Act.eval, Act.put]) (row_ext hcr (by with_reducible repeat (first | exact Ext.refl _ | assumption | apply Ext.drewN | apply Ext.drew | apply Ext.alloc | (refine Ext.setCell ?_ (by simp <;> omega) _) | (refine Ext.trans ?_ (by assumption))))) w1.heap.size ((x : Nat) : Int) (celI_len _) (by simp [Act.eval, Act.put]) (alloc_at w1 _) (by rw [natI_len]; omega) (ext_size (by with_reducible repeat (first | exact Ext.refl _ | assumption | apply Ext.drewN | apply Ext.drew | apply Ext.alloc | (refine Ext.setCell ?_ (by simp <;> omega) _) | (refine Ext.trans ?_ (by assumption))))) ?_; intro g7 cap7 w7 hr7 hg7 hat7; have hx7 : Ext wr w7 := row_grown (by with_reducible repeat (first | exact Ext.refl _ | assumption | apply Ext.drewN | apply Ext.drew | apply Ext.alloc | (refine Ext.setCell ?_ (by simp <;> omega) _) | (refine Ext.trans ?_ (by assumption)))) (row_ext hcr (by with_reducible repeat (first | exact Ext.refl _ | assumption | apply Ext.drewN | apply Ext.drew | apply Ext.alloc | (refine Ext.setCell ?_ (by simp <;> omega) _) | (refine Ext.trans ?_ (by assumption))))) (Nat.le_refl _) hg7)
            | (refine step_append_g (cs := celI) (z := .int .i64 0) 22 3 8 Try.underlying22 (by kernel_rfl) (by rfl) (by decide) (by decide) rfl (.tmp 28) (.tmp 33) rfl wr.heap.size (.slice cA ch.length cv) (natI ch) (by simp [Act.eval, Act.put]) hcr wr.heap.size ((x : Nat) : Int) (celI_len _) (by simp [Act.eval, Act.put]) ((hcx.block _ (by simp)).trans (alloc_at wr.drew _)) (by rw [natI_len]; omega) (ext_size (by with_reducible repeat (first | exact Ext.refl _ | assumption | apply Ext.drewN | apply Ext.drew | apply Ext.alloc | (refine Ext.setCell ?_ (by simp <;> omega) _) | (refine Ext.trans ?_ (by assumption))))) ?_; intro g7 cap7 w7 hr7 hg7 hat7; have hx7 : Ext wr w7 := row_grown (by with_reducible repeat (first | exact Ext.refl _ | assumption | apply Ext.drewN | apply Ext.drew | apply Ext.alloc | (refine Ext.setCell ?_ (by simp <;> omega) _) | (refine Ext.trans ?_ (by assumption)))) hcr (Nat.le_refl _) hg7))
        · skip
          have HX7 := Lib.hid hx7; have HEX := Lib.hid hEX
          clear hx7 hEX hat7 hr7 hg7 kS hcr hcx s5 s4 s6 e4 e5 e6
          cases hfo : (((enum (l.drop (i + 1)) k).map ((ch ++ [x]) ++ ·)).find? fun s => decide (CanR ms ids.length each L (R ++ [s]))) with
          | none =>
            have hno := HEX.out.no hfo
            have hr : r = false := by have := hno.1; simpa using this
            subst hr
            have HNX := Lib.hid hno.2
            have HQ2 : Hid (((enum (l.drop f) (each - ch.length)).map (ch ++ ·)).find? (fun s => decide (CanR ms ids.length each L (R ++ [s]))) = ((enum (l.drop (i + 1)) (each - ch.length)).map (ch ++ ·)).find? (fun s => decide (CanR ms ids.length each L (R ++ [s])))) := Lib.hid (by rw [HQ.out, HFS.out, hfo]; rfl)
            clear hno hfo
            go_wp2_with (fail)
            exact ⟨⟨i + 1, by simp, by omega, by omega, Lib.hid (HX.out.trans (HX7.out.trans HNX.out)), HQ2⟩, by simp [iof]; omega⟩
          | some s =>
            obtain ⟨h1, h2, h3⟩ := HEX.out.yes s hfo
            have hr : r = true := by simpa using h1
            subst hr
            have HS : Hid (((enum (l.drop f) (each - ch.length)).map (ch ++ ·)).find? (fun s => decide (CanR ms ids.length each L (R ++ [s]))) = some s) := Lib.hid (by rw [HQ.out, HFS.out, hfo]; rfl)
            have HK3 := Lib.hid h2; have HA3 := Lib.hid h3
            clear h1 h2 h3 hfo
            go_wp2_with (fail)
            go_ret
            rw [HS.out]
            exact ⟨fun h => (by cases h), fun s' hs => (by injection hs with hs; subst hs; exact ⟨rfl, KA.pre (HX.out.trans HX7.out) HK3.out, HA3.out⟩)⟩
        · skip
          have HX7 := Lib.hid hx7; have HEX := Lib.hid hEX
          clear hx7 hEX hat7 hr7 hg7 kS hcr hcx s5 s4 s6 e4 e5 e6
          cases hfo : (((enum (l.drop (i + 1)) k).map ((ch ++ [x]) ++ ·)).find? fun s => decide (CanR ms ids.length each L (R ++ [s]))) with
          | none =>
            have hno := HEX.out.no hfo
            have hr : r = false := by have := hno.1; simpa using this
            subst hr
            have HNX := Lib.hid hno.2
            have HQ2 : Hid (((enum (l.drop f) (each - ch.length)).map (ch ++ ·)).find? (fun s => decide (CanR ms ids.length each L (R ++ [s]))) = ((enum (l.drop (i + 1)) (each - ch.length)).map (ch ++ ·)).find? (fun s => decide (CanR ms ids.length each L (R ++ [s])))) := Lib.hid (by rw [HQ.out, HFS.out, hfo]; rfl)
            clear hno hfo
            go_wp2_with (fail)
            exact ⟨⟨i + 1, by simp, by omega, by omega, Lib.hid (HX.out.trans (HX7.out.trans HNX.out)), HQ2⟩, by simp [iof]; omega⟩
          | some s =>
            obtain ⟨h1, h2, h3⟩ := HEX.out.yes s hfo
            have hr : r = true := by simpa using h1
            subst hr
            have HS : Hid (((enum (l.drop f) (each - ch.length)).map (ch ++ ·)).find? (fun s => decide (CanR ms ids.length each L (R ++ [s]))) = some s) := Lib.hid (by rw [HQ.out, HFS.out, hfo]; rfl)
            have HK3 := Lib.hid h2; have HA3 := Lib.hid h3
            clear h1 h2 h3 hfo
            go_wp2_with (fail)
            go_ret
            rw [HS.out]
            exact ⟨fun h => (by cases h), fun s' hs => (by injection hs with hs; subst hs; exact ⟨rfl, KA.pre (HX.out.trans HX7.out) HK3.out, HA3.out⟩)⟩
      · obtain rfl : i = l.length := by omega
        have HZ : Hid (((enum (l.drop f) (each - ch.length)).map (ch ++ ·)).find? (fun s => decide (CanR ms ids.length each L (R ++ [s]))) = none) := Lib.hid (by
          rw [HQ.out, HK.out, List.drop_length]
          rfl)
        go_wp2_with (fail)
        go_ret
        exact ⟨fun _ => ⟨rfl, HX.out⟩, fun s' hs => (by rw [← List.find?_map, HZ.out] at hs; cases hs)⟩
end Go.Proofs.Ytlekdhhgjhakgaa

namespace Go.Proofs.Ytlekdhhgjhakgaa
set_option linter.unusedVariables false
set_option linter.unusedSimpArgs false
open Go.RowKit
set_option maxRecDepth 100000 in
set_option maxHeartbeats 8000000 in
open Classical in
theorem subsets_any (w0 : World) (p bd bx bl : Nat) (ids : List Int) (ms : List (List Nat)) (each L : Nat) (iv mv : Value) (ds : List Value) (hd : Dk 0 w0 p ids ms each iv mv ds) (hM : May ms ids.length) (hm : 0 < ids.length ∧ ids.length ≤ 1000) (hn : ms.length ≤ 1000)
    (he : each ≤ 13) (hL : L ≤ 1000) (fv : Value) (us : List Value) (R : List (List Nat)) (hR : Rows_ ms each R) (hlt : R.length < ms.length) (mA : Option Addr) (mc : Nat) (hcan : CanR ms ids.length each L R) (W : World) (hA : AS w0 p bd bx bl L W fv us R)
    (hlv : ms.getD R.length [] = [] ∨ ∃ b, mA = some ⟨b, 0, none⟩ ∧ b < w0.heap.size ∧ ∀ k (hk : k < (ms.getD R.length []).length), w0.cell? ⟨b, k, none⟩ = some (.int .i64 ((ms.getD R.length [])[k] : Nat))) :
    Calls Try.prog 34 #[.slice mA (ms.getD R.length []).length mc, .int .i64 each, .func (.func 35) #[] #[.pointer (some ⟨bd, 0, none⟩), .pointer (some ⟨bx, 0, none⟩), .pointer (some ⟨bl, 0, none⟩)]] W fun e W' =>
      ∃ r, e = .returned r ∧ KA bx fv.ownBlock W W' ∧ ∃ fv' lv, AS w0 p bd bx bl L W' fv' (us ++ [lv]) (R ++ [pick ms ids.length each L R]) := by
  have hlm : ms.getD R.length [] ∈ ms := by rw [getD_at hlt]; exact List.getElem_mem hlt
  have hok : ∀ x ∈ ms.getD R.length [], x ≤ 1000 := fun x hx => by have := hM.lt _ hlm x hx; omega
  have hbig : (ms.getD R.length []).length ≤ 1000 := by
    have h1 := hM.nodup hlm (List.Sublist.refl _)
    have h2 := sm_mem h1.1 h1.2
    have h3 : sm (fun k => (decide (k ∈ ms.getD R.length [])).toNat) ids.length ≤ sm (fun _ => 1) ids.length := sm_le fun _ _ => Bool.toNat_le _
    rw [sm_const, h2] at h3
    omega
  have HEA := Lib.hid (fun b2 b3 b4 b5 W hE hA hb4 => extend_any w0 p bd bx bl b2 b3 b4 b5 ids ms each L iv mv ds hd hM hm hn he hL fv us R hR hlt mA mc hbig hok hb4 hlv ((ms.getD R.length []).length + 1) 0 [] none 0 W (by omega) (by omega) hE hA ⟨rfl, .inl ⟨rfl, rfl⟩⟩ (List.nil_sublist _) (Nat.zero_le _))
  have HA := Lib.hid hA
  have HPK : Hid (∃ s, (enum (ms.getD R.length []) each).find? (fun s => decide (CanR ms ids.length each L (R ++ [s]))) = some s ∧ pick ms ids.length each L R = s) := Lib.hid (by
    obtain ⟨s, hs, hc⟩ := hcan.next hM hR hlt
    cases hf : (enum (ms.getD R.length []) each).find? (fun s => decide (CanR ms ids.length each L (R ++ [s]))) with
    | none =>
      have h1 := List.find?_eq_none.1 hf s hs
      exact absurd (by simpa using hc) h1
    | some t => exact ⟨t, rfl, by unfold pick; rw [hf]; rfl⟩)
  have HFO : Hid (∀ g, fv.ownBlock = some g → g < W.heap.size) := Lib.hid fun g hg => by
    obtain ⟨cs, hc⟩ := row_block hA.rows.row hg
    exact Rg.lt_of_heap hc
  clear hd hM hR hlv hok hcan hA hlm
  generalize (ms.getD R.length []) = l at *
  go_enter Try.func34, Try.ntmps34
  go_upto_region 2 with (fail)
  have hx3 : Ext W ((((W.alloc (.cells #[.slice mA l.length mc] 22)).alloc (.cells #[.int .i64 each] 3)).alloc (.cells #[.func (.func 35) #[] #[.pointer (some ⟨bd, 0, none⟩), .pointer (some ⟨bx, 0, none⟩), .pointer (some ⟨bl, 0, none⟩)]] 80)).alloc (.cells #[.nilFunc] 95)) := Ext.alloc (Ext.alloc (Ext.alloc (Ext.alloc (Ext.refl _) _) _) _) _
  obtain ⟨q1, q2, q3, q4⟩ := four_blocks W (.cells #[.slice mA l.length mc] 22) (.cells #[.int .i64 each] 3) (.cells #[.func (.func 35) #[] #[.pointer (some ⟨bd, 0, none⟩), .pointer (some ⟨bx, 0, none⟩), .pointer (some ⟨bl, 0, none⟩)]] 80) (.cells #[.nilFunc] 95)
  obtain ⟨b4, h4⟩ : ∃ b4, b4 = W.heap.size := ⟨_, rfl⟩
  obtain ⟨b2, h2⟩ : ∃ b2, b2 = W.heap.size + 1 := ⟨_, rfl⟩
  obtain ⟨b3, h3⟩ : ∃ b3, b3 = W.heap.size + 1 + 1 := ⟨_, rfl⟩
  obtain ⟨b5, h5⟩ : ∃ b5, b5 = W.heap.size + 1 + 1 + 1 := ⟨_, rfl⟩
  rw [← h5] at q4 ⊢
  rw [← h3] at q3 ⊢
  rw [← h2] at q2 ⊢
  rw [← h4] at q1 ⊢
  have HB4 : Hid (some b4 ≠ fv.ownBlock) := Lib.hid fun e => by have := HFO.out _ e.symm; omega
  have HB5 : Hid (W.heap.size ≤ b5) := Lib.hid (by omega)
  clear h2 h3 h4 h5
  generalize ((((W.alloc (.cells #[.slice mA l.length mc] 22)).alloc (.cells #[.int .i64 each] 3)).alloc (.cells #[.func (.func 35) #[] #[.pointer (some ⟨bd, 0, none⟩), .pointer (some ⟨bx, 0, none⟩), .pointer (some ⟨bl, 0, none⟩)]] 80)).alloc (.cells #[.nilFunc] 95)) = W3 at *
  have z0 := cell_of_row W3 b5 0 _ _ _ q4
  change W3.cell? _ = some .nilFunc at z0
  have z1 := tab_frozen (o := 0) q4
  have HQ1 := Lib.hid q1; have HQ2 := Lib.hid q2; have HQ3 := Lib.hid q3; have HQ4 := Lib.hid q4; have HX3 := Lib.hid hx3
  clear q1 q2 q3 q4 hx3
  go_upto_region 3 with (fail)
  have hx4 : Ext W (W3.setCell ⟨b5, 0, none⟩ (.func (.func 51) #[] #[.pointer (some ⟨b2, 0, none⟩), .pointer (some ⟨b3, 0, none⟩), .pointer (some ⟨b4, 0, none⟩), .pointer (some ⟨b5, 0, none⟩)])) := Ext.setCell HX3.out HB5.out _
  have hES : ES b2 b3 b4 b5 bd bx bl each (.slice mA l.length mc) (W3.setCell ⟨b5, 0, none⟩ (.func (.func 51) #[] #[.pointer (some ⟨b2, 0, none⟩), .pointer (some ⟨b3, 0, none⟩), .pointer (some ⟨b4, 0, none⟩), .pointer (some ⟨b5, 0, none⟩)])) := by
    have kp : ∀ b c t, t ≠ 95 → W3.heap[b]? = some (Obj.cells c t) → (W3.setCell ⟨b5, 0, none⟩ (.func (.func 51) #[] #[.pointer (some ⟨b2, 0, none⟩), .pointer (some ⟨b3, 0, none⟩), .pointer (some ⟨b4, 0, none⟩), .pointer (some ⟨b5, 0, none⟩)])).heap[b]? = some (Obj.cells c t) := fun b c t ht hk => (heap_setCell_other _ (cells_ne hk HQ4.out ht)).trans hk
    exact ⟨kp _ _ _ (by decide) HQ2.out, kp _ _ _ (by decide) HQ3.out, kp _ _ _ (by decide) HQ1.out, (heap_setCell_row _ HQ4.out).trans rfl⟩
  clear z0 z1 HQ1 HQ2 HQ3 HQ4
  generalize W3.setCell ⟨b5, 0, none⟩ _ = W4 at *
  have HEX := Lib.hid (HEA.out b2 b3 b4 b5 W4 hES (HA.out.ext hx4) HB4.out)
  have z0 : W4.cell? ⟨b5, 0, none⟩ = some (.func (.func 51) #[] #[.pointer (some ⟨b2, 0, none⟩), .pointer (some ⟨b3, 0, none⟩), .pointer (some ⟨b4, 0, none⟩), .pointer (some ⟨b5, 0, none⟩)]) := cell_of_row W4 b5 0 _ _ _ hES.c5
  have HX4 := Lib.hid hx4
  clear hES hx4 HEA HX3
  obtain ⟨s, hs, hps⟩ := HPK.out
  have HPS := Lib.hid hps; have HS := Lib.hid hs
  clear hps hs HPK
  have HEX2 : Hid (Calls Try.prog 51 #[.int .i64 0, .slice none 0 0, .pointer (some ⟨b2, 0, none⟩), .pointer (some ⟨b3, 0, none⟩), .pointer (some ⟨b4, 0, none⟩), .pointer (some ⟨b5, 0, none⟩)] W4 fun e W' => e = .returned (.bool true) ∧ KA bx fv.ownBlock W4 W' ∧ ∃ fv' lv, AS w0 p bd bx bl L W' fv' (us ++ [lv]) (R ++ [s])) := Lib.hid (Calls.mono HEX.out fun e W' h => by
    have hf : (((enum (l.drop 0) (each - ([] : List Nat).length)).map (([] : List Nat) ++ ·)).find? fun s => decide (CanR ms ids.length each L (R ++ [s]))) = some s := by
      rw [List.drop_zero, List.length_nil, Nat.sub_zero, show (fun x : List Nat => [] ++ x) = id from rfl, List.map_id]
      exact HS.out
    exact h.yes s hf)
  clear HEX
  go_wp2_with (go_at_call 51; (with_reducible refine HEX2.out.mono ?_); rintro e w9 ⟨rfl, h1, h2⟩)
  go_ret
  exact ⟨_, rfl, KA.pre HX4.out h1, by rw [HPS.out]; exact h2⟩
end Go.Proofs.Ytlekdhhgjhakgaa
