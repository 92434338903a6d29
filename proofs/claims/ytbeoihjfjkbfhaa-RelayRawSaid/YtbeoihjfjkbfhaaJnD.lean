/-
  Joined: the lemmas of this claim that other texts of it use, part 4. Nothing is asked.
-/
import Derived.Test.YtbeoihjfjkbfhaaJnC
import Derived.Lib.BytesEntry
import Derived.Sort.LotA
import Derived.Shelf.Strconv.Clone
import Derived.DeepKeys4
import Derived.LoopTactic
import Derived.Deep.CutBlock
namespace Go.Proofs.Ytbeoihjfjkbfhaa
set_option linter.unusedVariables false
set_option linter.unusedSimpArgs false
open Go.RowKit Go.Sort
/-- The first that is not 0. -/
def orF (l : List Int) : Int := (l.find? fun z => decide (z ≠ 0)).getD 0
theorem or_any (v : Value) (l : List Int) (w : World) (hl : IRd w v l) : Calls Try.prog 41 #[v] w fun e w' => e = .returned (.int .i64 (orF l)) ∧ w' = w := by
  obtain ⟨A, c, rfl, hlen, -, hcell⟩ := hl
  go_enter Try.func41, Try.ntmps41
  go_wp2_with (fail)
  go_loopw [8] (fun k wr => ∃ i : Nat, k = .int .i64 i ∧ i ≤ l.length ∧ Hid (orF l = orF (l.drop i)) ∧ w = wr) (fun k _ => l.length - (iof k).toNat)
  case atStart => exact ⟨0, rfl, Nat.zero_le _, Lib.hid rfl, rfl⟩
  case round =>
    obtain ⟨i, rfl, hi, HI, rfl⟩ := hrel
    by_cases hil : i < l.length
    · obtain ⟨b, off, rfl, hc⟩ := hcell.resolve_left (by intro e; rw [e] at hil; simp at hil)
      have c0 := hc i hil
      have Hs : Hid (orF (l.drop i) = if l[i] = 0 then orF (l.drop (i + 1)) else l[i]) := Lib.hid (by
        unfold orF
        rw [List.drop_eq_getElem_cons hil, List.find?_cons]
        by_cases e : l[i] = 0
        · rw [e]; simp
        · simp [e])
      clear hc
      generalize l[i] = z at *
      by_cases hz : z = 0
      · subst hz
        go_wp2_with (fail)
        exact ⟨⟨i + 1, by simp, by omega, Lib.hid (by rw [HI.out, Hs.out, if_pos rfl]), by simp⟩, by simp [iof]; omega⟩
      · have HZ := Lib.hid hz
        go_wp2_with (fail)
        go_ret
        exact ⟨by rw [HI.out, Hs.out, if_neg HZ.out]; rfl, rfl⟩
    · obtain rfl : i = l.length := by omega
      go_wp2_with (fail)
      go_ret
      exact ⟨by rw [HI.out, List.drop_length]; rfl, rfl⟩

/-- A comparison that is a total order. -/
structure GC {α : Type} (c : α → α → Int) : Prop where
  anti : ∀ x y, c y x = - c x y
  eq : ∀ x y, c x y = 0 → x = y
  tr : ∀ x y z, c x y < 0 → c y z < 0 → c x z < 0
theorem GC.self {α : Type} {c : α → α → Int} (h : GC c) (x : α) : c x x = 0 := by have := h.anti x x; omega
theorem GC.swo {α : Type} {c : α → α → Int} (h : GC c) : SWO (ltOf c) where
  irrefl x := by simp [ltOf, h.self]
  trans x y z h1 h2 := by simp only [ltOf, decide_eq_true_eq] at *; exact h.tr x y z h1 h2
  ntrans x y z h1 h2 := by
    simp only [ltOf, decide_eq_false_iff_not] at *
    intro h3
    by_cases e : c x y = 0
    · obtain rfl := h.eq _ _ e
      exact h2 h3
    · have h4 : c y x < 0 := by have := h.anti x y; omega
      exact h2 (h.tr y x z h4 h3)
theorem GC.total {α : Type} {c : α → α → Int} (h : GC c) (x y : α) (h1 : ltOf c x y = false) (h2 : ltOf c y x = false) : x = y := by
  simp only [ltOf, decide_eq_false_iff_not] at *
  have := h.anti x y
  exact h.eq x y (by omega)
def lexC {α β : Type} (c : α → α → Int) (d : β → β → Int) : α × β → α × β → Int := fun x y => if c x.1 y.1 = 0 then d x.2 y.2 else c x.1 y.1
theorem GC.lex {α β : Type} {c : α → α → Int} {d : β → β → Int} (h : GC c) (k : GC d) : GC (lexC c d) := by
  refine ⟨fun x y => ?_, fun x y e => ?_, fun x y z h1 h2 => ?_⟩
  · unfold lexC
    have := h.anti x.1 y.1
    by_cases e : c x.1 y.1 = 0
    · rw [if_pos e, if_pos (by omega), k.anti]
    · rw [if_neg e, if_neg (by omega), this]
  · unfold lexC at e
    by_cases e1 : c x.1 y.1 = 0
    · rw [if_pos e1] at e
      exact Prod.ext (h.eq _ _ e1) (k.eq _ _ e)
    · rw [if_neg e1] at e
      exact absurd e e1
  · unfold lexC at *
    by_cases e1 : c x.1 y.1 = 0
    · rw [if_pos e1] at h1
      have e2 := h.eq _ _ e1
      rw [e2]
      by_cases e3 : c y.1 z.1 = 0
      · rw [if_pos e3] at h2 ⊢
        exact k.tr _ _ _ h1 h2
      · rw [if_neg e3] at h2 ⊢
        exact h2
    · rw [if_neg e1] at h1
      by_cases e3 : c y.1 z.1 = 0
      · have e4 := h.eq _ _ e3
        rw [← e4, if_neg e1]
        exact h1
      · rw [if_neg e3] at h2
        have := h.tr _ _ _ h1 h2
        rw [if_neg (by omega)]
        exact this
theorem GC.via {α β : Type} {c : α → α → Int} (h : GC c) (f : β → α) (hf : ∀ x y, f x = f y → x = y) : GC fun x y => c (f x) (f y) :=
  ⟨fun _ _ => h.anti _ _, fun x y e => hf x y (h.eq _ _ e), fun _ _ _ h1 h2 => h.tr _ _ _ h1 h2⟩
theorem gcB : GC Lib.compareBytes := by
  have hself : ∀ x : List UInt8, Lib.compareBytes x x = 0 := by
    intro x
    induction x with
    | nil => rfl
    | cons a x ih => simp [Lib.compareBytes, UInt8.lt_irrefl, ih]
  refine ⟨?_, ?_, ?_⟩
  · intro x
    induction x with
    | nil => intro y; cases y <;> rfl
    | cons a x ih =>
      intro y
      cases y with
      | nil => rfl
      | cons b y =>
        simp only [Lib.compareBytes]
        by_cases h1 : a < b
        · have h2 : ¬ b < a := fun h => UInt8.lt_irrefl _ (UInt8.lt_trans h1 h)
          simp [h1, h2]
        · by_cases h2 : b < a
          · simp [h1, h2]
          · simp [h1, h2, ih]
  · intro x
    induction x with
    | nil => intro y h; cases y with
      | nil => rfl
      | cons b y => simp [Lib.compareBytes] at h
    | cons a x ih =>
      intro y h
      cases y with
      | nil => simp [Lib.compareBytes] at h
      | cons b y =>
        simp only [Lib.compareBytes] at h
        by_cases h1 : a < b
        · simp [h1] at h
        · by_cases h2 : b < a
          · simp [h1, h2] at h
          · simp only [h1, h2, if_false] at h
            have e : a = b := UInt8.le_antisymm (UInt8.not_lt.1 h2) (UInt8.not_lt.1 h1)
            rw [e, ih y h]
  · intro x
    induction x with
    | nil =>
      intro y z h1 h2
      cases z with
      | nil => cases y <;> simp [Lib.compareBytes] at h1 h2
      | cons c z => simp [Lib.compareBytes]
    | cons a x ih =>
      intro y z h1 h2
      cases y with
      | nil => simp [Lib.compareBytes] at h1
      | cons b y =>
        cases z with
        | nil => simp [Lib.compareBytes] at h2
        | cons c z =>
          simp only [Lib.compareBytes] at *
          by_cases ab : a < b
          · by_cases bc : b < c
            · simp [UInt8.lt_trans ab bc]
            · by_cases cb : c < b
              · simp [bc, cb] at h2
              · have e : b = c := UInt8.le_antisymm (UInt8.not_lt.1 cb) (UInt8.not_lt.1 bc)
                rw [← e]
                simp [ab]
          · by_cases ba : b < a
            · simp [ab, ba] at h1
            · have e : a = b := UInt8.le_antisymm (UInt8.not_lt.1 ba) (UInt8.not_lt.1 ab)
              rw [e] at h1 ⊢
              simp only [UInt8.lt_irrefl, if_false] at h1
              by_cases bc : b < c
              · simp [bc]
              · by_cases cb : c < b
                · simp [bc, cb] at h2
                · simp only [bc, cb, if_false] at h2 ⊢
                  exact ih y z h1 h2
/-- The hash of a text, as bytes. -/
def hashB (s : ByteArray) : List UInt8 := Lib.bytesOf (sumV (bytesI s))
def cmpT (a b : ByteArray) : Int := orF [Lib.compareBytes (hashB a) (hashB b), Lib.compareBytes a.data.toList b.data.toList]
theorem cmpT_lex (a b : ByteArray) : cmpT a b = lexC Lib.compareBytes Lib.compareBytes (hashB a, a.data.toList) (hashB b, b.data.toList) := by
  unfold cmpT orF lexC
  simp only [List.find?_cons, List.find?_nil]
  by_cases h1 : Lib.compareBytes (hashB a) (hashB b) = 0
  · by_cases h2 : Lib.compareBytes a.data.toList b.data.toList = 0 <;> simp [h1, h2]
  · simp [h1]
theorem gcT : GC cmpT := by
  have h := (gcB.lex gcB).via (fun a : ByteArray => (hashB a, a.data.toList)) (fun x y e => by
    have e2 := congrArg Prod.snd e
    simp only at e2
    exact Go.WideShapes.bytes_inj e2)
  rw [show cmpT = fun a b : ByteArray => lexC Lib.compareBytes Lib.compareBytes (hashB a, a.data.toList) (hashB b, b.data.toList) from by funext x y; exact cmpT_lex x y]
  exact h
theorem run_compareB {P : Program} (xs ys : List Int) (a b : Addr) (c d : Nat) (w : World) (hx : ∀ j x, xs[j]? = some x → w.cell? (a.add j) = some (.int .u8 x)) (hy : ∀ j x, ys[j]? = some x → w.cell? (b.add j) = some (.int .u8 x)) :
    (Extern.BytealgCompare.compare #[.slice (some a) xs.length c, .slice (some b) ys.length d]).run P w = .ok (.int .i64 (Lib.compareBytes (Lib.bytesOf xs) (Lib.bytesOf ys))) w := by
  change Sem.run P (do pure (goInt (Extern.BytealgCompare.cmp (← Extern.Bytes.bytesOf (.slice (some a) xs.length c)) (← Extern.Bytes.bytesOf (.slice (some b) ys.length d))))) w = _
  simp only [Extern.Bytes.bytesOf, Sem.run_bind, Sem.run_pure, Result.andThen, Lib.run_loadBytesX w xs a .empty hx, Lib.run_loadBytesX w ys b .empty hy]
  rw [Lib.cmp_eq]
  simp
  rfl
set_option maxRecDepth 100000 in
theorem bytesCmp_any (xs ys : List Int) (a b : Addr) (c d : Nat) (w : World) (hx : ∀ j x, xs[j]? = some x → w.cell? (a.add j) = some (.int .u8 x)) (hy : ∀ j x, ys[j]? = some x → w.cell? (b.add j) = some (.int .u8 x)) :
    Calls Try.prog 42 #[.slice (some a) xs.length c, .slice (some b) ys.length d] w fun e w' => e = .returned (.int .i64 (Lib.compareBytes (Lib.bytesOf xs) (Lib.bytesOf ys))) ∧ w' = w := by
  have HX := Lib.hid hx; have HY := Lib.hid hy
  clear hx hy
  go_enter Try.func42, Try.ntmps42
  go_wp2
  rw [run_callFunc_extern Try.func52 (by kernel_rfl) (by kernel_rfl) (by kernel_rfl) (e := Extern.BytealgCompare.compare) (by kernel_rfl), run_compareB xs ys a b c d w HX.out HY.out]
  simp only [Result.andThen]
  rw [Oper.upon_value]
  go_wp2
  go_ret
  exact ⟨rfl, rfl⟩
theorem strCmp_any (a b : ByteArray) (w : World) : Calls Try.prog 43 #[.string a, .string b] w fun e w' => e = .returned (.int .i64 (Lib.compareBytes a.data.toList b.data.toList)) ∧ w' = w := Any.strings_Compare cmpS a b w
end Go.Proofs.Ytbeoihjfjkbfhaa

namespace Go.Proofs.Ytbeoihjfjkbfhaa
set_option linter.unusedVariables false
set_option linter.unusedSimpArgs false
open Go.RowKit Go.Sort
theorem rowB_cell {w : World} {p : Nat} {A : List Int} {t : TypeId} {fr : Nat × Nat} (h : w.heap[p]? = some (.cells (A.map (Value.int .u8)).toArray t fr)) : ∀ j x, A[j]? = some x → w.cell? ((⟨p, 0, none⟩ : Addr).add j) = some (.int .u8 x) := by
  intro j x hj
  rw [show (⟨p, 0, none⟩ : Addr).add j = ⟨p, j, none⟩ from by unfold Addr.add; split <;> simp_all]
  refine (cell_of_row _ _ j _ _ _ h).trans ?_
  simp [hj]
theorem cmpB_in (a b : List UInt8) : -9223372036854775808 ≤ Lib.compareBytes a b ∧ Lib.compareBytes a b ≤ 9223372036854775807 := by
  have h : Lib.compareBytes a b = -1 ∨ Lib.compareBytes a b = 0 ∨ Lib.compareBytes a b = 1 := by
    induction a generalizing b with
    | nil => cases b <;> simp [Lib.compareBytes]
    | cons x a ih =>
      cases b with
      | nil => simp [Lib.compareBytes]
      | cons y b =>
        simp only [Lib.compareBytes]
        by_cases h1 : x < y
        · simp [h1]
        · by_cases h2 : y < x
          · simp [h1, h2]
          · simpa [h1, h2] using ih b
  omega
set_option maxRecDepth 100000 in
set_option maxHeartbeats 4000000 in
theorem cmpT_any (a b : ByteArray) (w : World) (ha : a.size ≤ 4000) (hb : b.size ≤ 4000) :
    Calls Try.prog 39 #[.string a, .string b] w fun e w' => e = .returned (.int .i64 (cmpT a b)) ∧ Ext w w' := by
  have HC : Hid (cmpT a b = orF [Lib.compareBytes (Lib.bytesOf (sumV (bytesI a))) (Lib.bytesOf (sumV (bytesI b))), Lib.compareBytes a.data.toList b.data.toList]) := Lib.hid rfl
  have HA := Lib.hid (fun w => sum_any a w ha); have HB := Lib.hid (fun w => sum_any b w hb)
  have la := sumV_len (bytesI a); have lb := sumV_len (bytesI b)
  generalize sumV (bytesI a) = A at *
  generalize sumV (bytesI b) = B at *
  generalize cmpT a b = R at *
  have HS := Lib.hid (strCmp_any a b)
  have k2 := cmpB_in a.data.toList b.data.toList
  generalize Lib.compareBytes a.data.toList b.data.toList = c2 at *
  have sa : (A.map (Value.int .u8)).toArray.size = 32 := by simpa using la
  have sb : (B.map (Value.int .u8)).toArray.size = 32 := by simpa using lb
  have oa : ∀ v ∈ ((A.map (Value.int .u8)).toArray).toList, v.oneCell' = true := by
    intro v hv
    obtain ⟨y, -, rfl⟩ := List.mem_map.1 hv
    rfl
  have ob : ∀ v ∈ ((B.map (Value.int .u8)).toArray).toList, v.oneCell' = true := by
    intro v hv
    obtain ⟨y, -, rfl⟩ := List.mem_map.1 hv
    rfl
  obtain ⟨RA, hRA⟩ : ∃ RA, RA = (A.map (Value.int .u8)).toArray := ⟨_, rfl⟩
  obtain ⟨RB, hRB⟩ : ∃ RB, RB = (B.map (Value.int .u8)).toArray := ⟨_, rfl⟩
  rw [← hRA] at HA sa oa
  rw [← hRB] at HB sb ob
  have HRA := Lib.hid hRA; have HRB := Lib.hid hRB
  have LA := Lib.hid la; have LB := Lib.hid lb
  clear hRA hRB la lb ha hb
  go_enter Try.func39, Try.ntmps39
  go_upto_region 2 with (first
    | (go_at_call 40; (with_reducible refine (HA.out _).mono ?_); rintro e w1 ⟨rfl, hx1⟩)
    | (go_at_call 40; (with_reducible refine (HB.out _).mono ?_); rintro e w2 ⟨rfl, hx2⟩)
    | (refine wpList_store_row (hgd := rfl) 78 (.tmp 5) (.tmp 8) rfl w2.heap.size (by rfl) RA (by rfl) (rowB []) 78 (two_blocks _ _ _).1 (by rw [sa]; rfl) (by rw [sa]; kernel_rfl) oa ?_)
    | (refine wpList_store_row (hgd := rfl) 78 (.tmp 6) (.tmp 10) rfl (w2.heap.size + 1) (by rfl) RB (by rfl) (rowB []) 78 ((setRow_other _ _ _ _ (by omega)).trans (two_blocks _ _ _).2) (by rw [sb]; rfl) (by rw [sb]; kernel_rfl) ob ?_))
  change Code.wp _ _ _ _ ((((w2.alloc (.cells (rowB []) 78)).alloc (.cells (rowB []) 78)).setRow w2.heap.size RA).setRow (w2.heap.size + 1) RB)
  have hX : Ext w ((((w2.alloc (.cells (rowB []) 78)).alloc (.cells (rowB []) 78)).setRow w2.heap.size RA).setRow (w2.heap.size + 1) RB) := by
    have h12 := hx1.size; have h22 := hx2.size
    exact below_setRow (below_setRow (Ext.alloc (Ext.alloc (hx1.trans hx2) _) _) (by omega) _) (by omega) _
  have hP : ((((w2.alloc (.cells (rowB []) 78)).alloc (.cells (rowB []) 78)).setRow w2.heap.size RA).setRow (w2.heap.size + 1) RB).heap[w2.heap.size]? = some (.cells RA 78) :=
    (setRow_other _ _ _ _ (by omega)).trans (setRow_heap _ _ _ _ _ _ (two_blocks _ _ _).1)
  have hQ : ((((w2.alloc (.cells (rowB []) 78)).alloc (.cells (rowB []) 78)).setRow w2.heap.size RA).setRow (w2.heap.size + 1) RB).heap[w2.heap.size + 1]? = some (.cells RB 78) :=
    setRow_heap _ _ _ _ _ _ ((setRow_other _ _ _ _ (by omega)).trans (two_blocks _ _ _).2)
  generalize ((((w2.alloc (.cells (rowB []) 78)).alloc (.cells (rowB []) 78)).setRow w2.heap.size RA).setRow (w2.heap.size + 1) RB) = W at *
  obtain ⟨p, hp⟩ : ∃ p, p = w2.heap.size := ⟨_, rfl⟩
  obtain ⟨q, hq⟩ : ∃ q, q = w2.heap.size + 1 := ⟨_, rfl⟩
  rw [← hq] at hQ ⊢
  rw [← hp] at hP ⊢
  have HX := Lib.hid hX
  have HM : Hid (∀ wz, Ext W wz → Calls Try.prog 42 #[.slice (some ⟨p, 0, none⟩) 32 32, .slice (some ⟨q, 0, none⟩) 32 32] wz fun e w' => e = .returned (.int .i64 (Lib.compareBytes (Lib.bytesOf A) (Lib.bytesOf B))) ∧ Ext wz w') := Lib.hid (fun wz hz => by
    have h1 := (hz.block _ (Rg.lt_of_heap hP)).trans hP
    have h2 := (hz.block _ (Rg.lt_of_heap hQ)).trans hQ
    rw [HRA.out] at h1
    rw [HRB.out] at h2
    have h := bytesCmp_any A B ⟨p, 0, none⟩ ⟨q, 0, none⟩ 32 32 wz (rowB_cell h1) (rowB_cell h2)
    rw [LA.out, LB.out] at h
    exact h.mono fun _ _ ⟨he, hw⟩ => ⟨he, hw ▸ Ext.refl _⟩)
  have HT : Hid (∀ wz, Calls Try.prog 43 #[.string a, .string b] wz fun e w' => e = .returned (.int .i64 c2) ∧ Ext wz w') := Lib.hid (fun wz => (HS.out wz).mono fun _ _ ⟨he, hw⟩ => ⟨he, hw ▸ Ext.refl _⟩)
  have k1 := cmpB_in (Lib.bytesOf A) (Lib.bytesOf B)
  generalize Lib.compareBytes (Lib.bytesOf A) (Lib.bytesOf B) = c1 at *
  clear hX hP hQ hp hq hx1 hx2 sa sb oa ob
  refine Rr.wp_region [(0, .y), (1, .y), (2, .y), (3, .y), (4, .y), (5, .y), (6, .m), (7, .y)] (fun _ => (.cells #[.int .i64 c1, .int .i64 c2] 3, fun p => .slice (some ⟨p, 0, none⟩) 2 2)) (by kernel_rfl) (by kernel_rfl) ?_
  (refine Rr.wr_y (by simp only [List.getElem?_toArray, List.getElem?_cons_succ, List.getElem?_cons_zero]; rfl) (by rfl) ?_
   apply Exists.intro
   refine ⟨fun wz hw _ => ?_, ?_⟩
   · have hcz := hw.cells.1
     go_simp
     (with_reducible exact Rg.up_value)
   simp only [Act.put, List.setIfInBounds_toArray, List.set_cons_zero, List.set_cons_succ])
  (refine Rr.wr_y (by simp only [List.getElem?_toArray, List.getElem?_cons_succ, List.getElem?_cons_zero]; rfl) (by rfl) ?_
   apply Exists.intro
   refine ⟨fun wz hw _ => ?_, ?_⟩
   · have hcz := hw.cells.1
     go_simp
     (with_reducible exact Rg.up_value)
   simp only [Act.put, List.setIfInBounds_toArray, List.set_cons_zero, List.set_cons_succ])
  (refine Rr.wr_y (by simp only [List.getElem?_toArray, List.getElem?_cons_succ, List.getElem?_cons_zero]; rfl) (by rfl) ?_
   apply Exists.intro
   refine ⟨fun wz hw _ => ?_, ?_⟩
   · have hcz := hw.cells.1
     go_simp
     apply Rg.up_enter
     (with_reducible refine (HM.out _ hw).mono ?_)
     rintro e w3 ⟨rfl, hb3⟩
     exact ⟨rfl, hb3⟩
   simp only [Act.put, List.setIfInBounds_toArray, List.set_cons_zero, List.set_cons_succ])
  (refine Rr.wr_y (by simp only [List.getElem?_toArray, List.getElem?_cons_succ, List.getElem?_cons_zero]; rfl) (by rfl) ?_
   apply Exists.intro
   refine ⟨fun wz hw _ => ?_, ?_⟩
   · have hcz := hw.cells.1
     go_simp
     (with_reducible exact Rg.up_value)
   simp only [Act.put, List.setIfInBounds_toArray, List.set_cons_zero, List.set_cons_succ])
  (refine Rr.wr_y (by simp only [List.getElem?_toArray, List.getElem?_cons_succ, List.getElem?_cons_zero]; rfl) (by rfl) ?_
   apply Exists.intro
   refine ⟨fun wz hw _ => ?_, ?_⟩
   · have hcz := hw.cells.1
     go_simp
     (with_reducible exact Rg.up_value)
   simp only [Act.put, List.setIfInBounds_toArray, List.set_cons_zero, List.set_cons_succ])
  (refine Rr.wr_y (by simp only [List.getElem?_toArray, List.getElem?_cons_succ, List.getElem?_cons_zero]; rfl) (by rfl) ?_
   apply Exists.intro
   refine ⟨fun wz hw _ => ?_, ?_⟩
   · have hcz := hw.cells.1
     go_simp
     apply Rg.up_enter
     (with_reducible refine (HT.out _).mono ?_)
     rintro e w3 ⟨rfl, hb3⟩
     exact ⟨rfl, hb3⟩
   simp only [Act.put, List.setIfInBounds_toArray, List.set_cons_zero, List.set_cons_succ])
  refine Rr.wr_m (by simp only [List.getElem?_toArray, List.getElem?_cons_succ, List.getElem?_cons_zero]; rfl) (by rfl) (fun wz => by go_simp) (fun p3 hp3 => ?_)
  simp only [Act.put, List.setIfInBounds_toArray, List.set_cons_zero, List.set_cons_succ]
  (refine Rr.wr_y (by simp only [List.getElem?_toArray, List.getElem?_cons_succ, List.getElem?_cons_zero]; rfl) (by rfl) ?_
   apply Exists.intro
   refine ⟨fun wz hw hh => ?_, ?_⟩
   · obtain ⟨-, hb⟩ := hh _ List.mem_cons_self
     have hl : IRd wz (.slice (some ⟨p3, 0, none⟩) 2 2) [c1, c2] := ⟨_, _, rfl, by simp, (by
       intro z hz
       simp only [List.mem_cons, List.not_mem_nil, or_false] at hz
       rcases hz with rfl | rfl <;> assumption), .inr ⟨p3, 0, rfl, fun k hk => by
       rw [cell_of_row wz p3 _ _ _ _ hb]
       match k, hk with
       | 0, _ => rfl
       | 1, _ => rfl⟩⟩
     go_simp
     apply Rg.up_enter
     (with_reducible refine (or_any _ _ wz hl).mono ?_)
     rintro e w3 ⟨rfl, rfl⟩
     exact ⟨rfl, Ext.refl _⟩
   simp only [Act.put, List.setIfInBounds_toArray, List.set_cons_zero, List.set_cons_succ])
  refine Rr.wr_nil ?_
  intro wy hy hh
  simp only [List.length_cons, List.length_nil, List.drop_succ_cons, List.drop_zero, Nat.reduceAdd]
  go_wp2_with (fail)
  go_ret
  exact ⟨by rw [HC.out]; rfl, HX.out.trans hy⟩
end Go.Proofs.Ytbeoihjfjkbfhaa

namespace Go.Proofs.Ytbeoihjfjkbfhaa
set_option linter.unusedVariables false
set_option linter.unusedSimpArgs false
open Go.RowKit Go.Sort
abbrev Tx := { s : ByteArray // s.size ≤ 4000 }
instance : Inhabited Tx := ⟨⟨⟨#[]⟩, by decide⟩⟩
def cmpX (a b : Tx) : Int := cmpT a.1 b.1
theorem gcX : GC cmpX := gcT.via (fun a : Tx => a.1) (fun _ _ e => Subtype.ext e)
def srtT (l : List ByteArray) : List ByteArray := l.mergeSort fun x y => !(ltOf cmpT) y x
theorem srtT_perm (l : List ByteArray) : (srtT l).Perm l := List.mergeSort_perm _ _
theorem srtT_sorted (l : List ByteArray) : (srtT l).Pairwise fun x y => ltOf cmpT y x = false := by
  have hs := List.pairwise_mergeSort (le := fun x y : ByteArray => !(ltOf cmpT) y x) (fun a b c h1 h2 => by
    simp only [Bool.not_eq_true'] at *
    exact gcT.swo.ntrans c b a h2 h1) (fun a b => by
    simp only [Bool.or_eq_true, Bool.not_eq_true']
    by_cases h : ltOf cmpT b a = true
    · refine .inr ?_
      cases h2 : ltOf cmpT a b
      · rfl
      · have h3 := gcT.swo.trans a b a h2 h
        rw [gcT.swo.irrefl] at h3
        cases h3
    · exact .inl (by simpa using h)) l
  exact hs.imp (by simp)
theorem srtT_eq {l m : List ByteArray} (h : m.Perm l) (hs : m.Pairwise fun x y => ltOf cmpT y x = false) : m = srtT l :=
  (h.trans (srtT_perm l).symm).eq_of_pairwise (le := fun x y => ltOf cmpT y x = false) (fun a b _ _ h1 h2 => gcT.total a b h2 h1) hs (srtT_sorted l)
theorem srtT_of_perm {l m : List ByteArray} (h : l.Perm m) : srtT l = srtT m := srtT_eq ((srtT_perm l).trans h) (srtT_sorted l)
theorem srtT_len (l : List ByteArray) : (srtT l).length = l.length := (srtT_perm l).length_eq
theorem tx_lift : ∀ (l : List ByteArray), (∀ s ∈ l, s.size ≤ 4000) → ∃ m : List Tx, m.map Subtype.val = l
  | [], _ => ⟨[], rfl⟩
  | s :: l, h => by
    obtain ⟨m, rfl⟩ := tx_lift l (fun x hx => h x (by simp [hx]))
    exact ⟨⟨s, h s (by simp)⟩ :: m, rfl⟩
theorem srtX (m : List Tx) : (m.mergeSort fun x y => !(ltOf cmpX) y x).map Subtype.val = srtT (m.map Subtype.val) := by
  refine srtT_eq ((List.mergeSort_perm _ _).map _) ?_
  have hs := List.pairwise_mergeSort (le := fun x y : Tx => !(ltOf cmpX) y x) (fun a b c h1 h2 => by
    simp only [Bool.not_eq_true'] at *
    exact gcX.swo.ntrans c b a h2 h1) (fun a b => by
    simp only [Bool.or_eq_true, Bool.not_eq_true']
    by_cases h : ltOf cmpX b a = true
    · refine .inr ?_
      cases h2 : ltOf cmpX a b
      · rfl
      · have h3 := gcX.swo.trans a b a h2 h
        rw [gcX.swo.irrefl] at h3
        cases h3
    · exact .inl (by simpa using h)) m
  rw [List.pairwise_map]
  exact hs.imp (fun {a b} h => by
    have h2 : (!(ltOf cmpX) b a) = true := h
    rw [Bool.not_eq_true'] at h2
    exact h2)
def celS (s : ByteArray) : List Value := [.string s]
theorem celS_map (l : List ByteArray) : l.flatMap celS = l.map Value.string := by
  induction l with
  | nil => rfl
  | cons a l ih => simp [celS, ih]
def encX (x : Tx) : Value := .string x.1
theorem holds_blockX {w : World} {g : Nat} {cur : Array Value} {e : TypeId} {m : List Tx} (hb : w.heap[g]? = some (.cells cur e (0, 0))) (ht : cur.toList.take m.length = m.map encX) : Holds encX w g 0 m.toArray := by
  intro j hj
  have hj' : j < m.length := by simpa using hj
  refine ⟨?_, by simp [World.frozen?, hb]⟩
  have h1 : (cur.toList.take m.length)[j]? = (m.map encX)[j]? := by rw [ht]
  rw [List.getElem?_take_of_lt hj'] at h1
  simp only [World.cell?, hb, Nat.zero_add]
  rw [getElem!_pos m.toArray j (by simpa using hj')]
  simpa [hj'] using h1
theorem heap_putX {w : World} {g n : Nat} {os : Array Obj} {cur : Array Value} {e : TypeId} {fr : Nat × Nat} (d : Array Tx) (hb : w.heap[g]? = some (.cells cur e fr)) :
    (grow (putRow encX (Sort.ahead w n) g 0 d) os).heap[g]? = some (.cells (putCells encX 0 d cur) e fr) := by
  have hg : g < w.heap.size := (Array.getElem?_eq_some_iff.1 hb).1
  rw [heap_grow_old _ _ (by simpa using hg)]
  simp [putRow, mapBlock, Sort.ahead, Array.getElem?_modify, hb, onCells]
theorem take_putX (cur : Array Value) (ts : List Tx) (h : ts.length ≤ cur.size) : (putCells encX 0 ts.toArray cur).toList.take ts.length = ts.map encX := by
  apply List.ext_getElem?
  intro j
  by_cases hj : j < ts.length
  · rw [List.getElem?_take_of_lt hj, Array.getElem?_toList]
    simp [putCells, hj, show j < cur.size by omega]
  · rw [List.getElem?_take_eq_none (by omega), List.getElem?_eq_none (by simp; omega)]
theorem grown_putRow {α : Type} [Inhabited α] {enc : α → Value} {w : World} {g n : Nat} {os : Array Obj} (d : Array α) : w.grownBy (grow (putRow enc (Sort.ahead w n) g 0 d) os) (some g) := by
  refine ⟨rfl, rfl, rfl, by simp, fun k hk hne => ?_⟩
  rw [heap_grow_old _ _ (by simpa using hk)]
  have : g ≠ k := fun e => hne (by rw [e])
  simp [putRow, mapBlock, Sort.ahead, Array.getElem?_modify, this]
set_option maxRecDepth 100000 in
theorem sortT_own (B : Nat) (v : Value) (l : List ByteArray) (w : World) (hrow : w.ownsRow B 9 1 v l.length (l.flatMap celS)) (hs : ∀ s ∈ l, s.size ≤ 4000) (hn : l.length ≤ 1000000) :
    Calls Try.prog 38 #[v, .func (.func 39) #[] #[]] w fun e w' => e = .returned (.tuple #[]) ∧ w'.ownsRow B 9 1 v l.length ((srtT l).flatMap celS) ∧ w.grownBy w' v.ownBlock := by
  by_cases h0 : l = []
  · subst h0
    have hf : ∃ A c, v = .slice A 0 c := by
      rcases hrow.2 with ⟨rfl, -⟩ | ⟨g, cap, cur, rfl, -⟩
      · exact ⟨_, _, rfl⟩
      · exact ⟨_, _, rfl⟩
    obtain ⟨A, c, rfl⟩ := hf
    have hN := AnyF.slices_SortFunc_none sortS0 A c (.func (.func 39) #[] #[]) w
    change Calls Try.prog 38 _ _ _ at hN
    refine hN.mono ?_
    rintro e w1 ⟨rfl, rfl⟩
    exact ⟨rfl, by simpa [srtT] using hrow, ⟨rfl, rfl, rfl, Nat.le_refl _, fun _ _ _ => rfl⟩⟩
  · have hp : 0 < l.length := List.length_pos_iff.2 h0
    have hr2 := hrow
    rw [celS_map] at hr2
    obtain ⟨m, rfl⟩ := tx_lift l hs
    rcases hr2.2 with ⟨-, h⟩ | ⟨g, cap, cur, rfl, hBg, hb, h1, h2, h3, h4⟩
    · omega
    · rw [List.length_map] at *
      have htk : cur.toList.take m.length = m.map encX := by rw [← Nat.mul_one m.length, h4]; simp [encX]
      have hcs : m.length ≤ cur.size := by
        have := congrArg List.length htk
        simp at this
        omega
      have hH := holds_blockX hb htk
      have hS := Any.slices_SortFunc_total sortS encX (fun _ => rfl) cmpX gcX.swo 39 #[] g 0 cap m.toArray w
        (enters_of Try.func39 (by kernel_rfl) rfl) (fun k os dk _ x y => (calls_drawn (v := .int .i64 (cmpX x y)) (cmpT_any x.1 y.1 _ x.2 y.2) (fun _ _ h => h.1)).mono fun _ _ ⟨⟨a, b⟩, c⟩ => ⟨a, Dw.Ext.grow ⟨b.os, b.tape, b.output, b.size, b.block, c⟩⟩) hH (Rg.lt_of_heap hb) (by simp; omega) (fun x y a b => gcX.total x y a b)
      change Calls Try.prog 38 _ _ _ at hS
      have hsz : m.toArray.size = m.length := by simp
      rw [hsz] at hS
      have hlt : (m.mergeSort fun x y => !(ltOf cmpX) y x).length = m.length := (List.mergeSort_perm _ _).length_eq
      have hsx := srtX m
      refine hS.mono ?_
      rintro e w1 ⟨rfl, q, os, hw1⟩
      subst hw1
      change _ ∧ World.ownsRow _ _ _ _ _ _ _ ∧ _
      generalize (m.mergeSort fun x y => !(ltOf cmpX) y x) = ts at *
      rw [← hsx]
      refine ⟨rfl, ⟨?_, .inr ⟨g, cap, _, rfl, hBg, heap_putX ts.toArray hb, h1, h2, ?_, ?_⟩⟩, grown_putRow _⟩
      · rw [celS_map]; simp [hlt]
      · simpa [putCells] using h3
      · rw [celS_map, Nat.mul_one, ← hlt, take_putX cur ts (by omega)]
        simp [encX]
end Go.Proofs.Ytbeoihjfjkbfhaa

namespace Go.Proofs.Ytbeoihjfjkbfhaa
set_option linter.unusedVariables false
set_option linter.unusedSimpArgs false
open Go.Shelf
def cloneS_ren : Go.Shelf.Ren := ⟨fun | 316 => 45 | n => n, fun | 9 => 9 | 3 => 3 | 4 => 4 | 37 => 51 | 0 => 0 | 127 => 98 | 5 => 5 | n => n, fun | n => n⟩
theorem cloneS : Go.Proofs.LaysM.n316 Try.prog cloneS_ren := {
  mixed := by kernel_rfl
  f316 := Try.func45.trans (congrArg some (by kernel_rfl))
  t0 := Try.underlying0
  a0 := Try.isAgg0
  z0 := Try.sizeOf0
  v0 := Try.zeroValue0
  t3 := Try.underlying3
  a3 := Try.isAgg3
  z3 := Try.sizeOf3
  v3 := Try.zeroValue3
  t4 := Try.underlying4
  a4 := Try.isAgg4
  z4 := Try.sizeOf4
  v4 := Try.zeroValue4
  t9 := Try.underlying9
  a9 := Try.isAgg9
  z9 := Try.sizeOf9
  v9 := Try.zeroValue9
  t37 := Try.underlying51
  a37 := Try.isAgg51
  z37 := Try.sizeOf51
  v37 := Try.zeroValue51
  t127 := Try.underlying98
  a127 := Try.isAgg98
  z127 := Try.sizeOf98
  v127 := Try.zeroValue98
  t5 := Try.underlying5
  a5 := Try.isAgg5
  z5 := Try.sizeOf5
  v5 := Try.zeroValue5
  i0 := by kernel_rfl
  i3 := by kernel_rfl
  i4 := by kernel_rfl
  i5 := by kernel_rfl
  i9 := by kernel_rfl
  i37 := by kernel_rfl
  i127 := by kernel_rfl }
theorem clone_any (s : ByteArray) (w : World) (h : s.size ≤ 4000) : Calls Try.prog 37 #[.string s] w fun e w' => e = .returned (.string s) ∧ Ext w w' := by
  have hC : Calls Try.prog 45 #[.string s] w fun e w' => e = .returned (.string s) ∧ Ext w w' := Any.stringslite_Clone cloneS s w (by omega)
  go_enter Try.func37, Try.ntmps37
  go_wp2_with (go_at_call 45; (with_reducible refine hC.mono ?_); rintro e w1 ⟨rfl, hx⟩)
  go_ret
  exact ⟨rfl, hx⟩
open Go.RowKit Go.Sort
/-- A question. -/
structure Qn where
  who : Int
  text : ByteArray
def Qn.cs (q : Qn) : List Value := [.int .i64 q.who, .string q.text]
def Qn.v (q : Qn) : Value := .agg q.cs.toArray
theorem celS_len (x : ByteArray) : (celS x).length = 1 ∧ ∀ c ∈ celS x, c.oneCell' = true := ⟨rfl, by simp [celS, Value.oneCell']⟩
theorem append_str {ops : Array Oper} {rest : List Oper} {o : Oper} {a : Act} {Q : Exit → Act → World → Prop} {w : World} (hgd : o.guard = none) (s x : Operand)
    (ho : o.op = .call { callee := .builtin .append, args := #[s, x], argTypes := #[38, 38] }) (B : Nat) (v : Value) (zs : List ByteArray) (hs : a.eval s = v) (hF : w.ownsRow B 9 1 v zs.length (zs.flatMap celS))
    (p : Nat) (i : ByteArray) (hx : a.eval x = .slice (some ⟨p, 0, none⟩) 1 1) (hp : w.heap[p]? = some (.cells #[.string i] 9)) (hn : zs.length < 1000000) (hB : B ≤ w.heap.size)
    (h : ∀ g cap w', w'.ownsRow B 9 1 (.slice (some ⟨g, 0, none⟩) (zs.length + 1) cap) (zs ++ [i]).length ((zs ++ [i]).flatMap celS) → Below B w w' → wpList Try.prog ops Q rest (a.put o.dst (.slice (some ⟨g, 0, none⟩) (zs.length + 1) cap)) w') : wpList Try.prog ops Q (o :: rest) a w :=
  append_one (cs := celS) (z := .string ⟨#[]⟩) celS_len 38 9 16 Try.underlying38 (by kernel_rfl) (by rfl) (by decide) (by decide) hgd s x ho B v zs hs hF p i hx hp hn hB h
theorem grown_ext {w0 w w' : World} {v : Value} {B E sz n : Nat} {xs : List Value} (h : Ext w0 w) (hr : w.ownsRow B E sz v n xs) (hB : w0.heap.size ≤ B) (hg : w.grownBy w' v.ownBlock) : Ext w0 w' :=
  Below.trans h ⟨hg.os, hg.tape, hg.output, hg.size, fun k hk => hg.block k (by have := h.size; omega) (fun e => by have := (hr.lt k e.symm).1; omega)⟩
theorem qn_at {w : World} {base : Option Addr} {n c : Nat} {l : List Qn} (h : SR Qn.cs 2 w (.slice base n c) l) (k : Nat) (hk : k < l.length) :
    ∃ b, base = some ⟨b, 0, none⟩ ∧ b < w.heap.size ∧ w.cell? ⟨b, k * 2, none⟩ = some (.int .i64 l[k].who) ∧ w.cell? ⟨b, k * 2 + 1, none⟩ = some (.string l[k].text) := by
  obtain ⟨b, h1, h2, h3⟩ := h.block k hk
  have h4 := h3 k hk 0 _ rfl
  exact ⟨b, h1, World.block_lt_of_cell? w _ h4, h4, h3 k hk 1 _ rfl⟩
set_option maxRecDepth 100000 in
set_option maxHeartbeats 4000000 in
theorem shuffled_any (v : Value) (l : List Qn) (w : World) (hl : SR Qn.cs 2 w v l) (hs : ∀ q ∈ l, q.text.size ≤ 4000) :
    Calls Try.prog 33 #[v] w fun e w' => ∃ u, e = .returned u ∧ w'.ownsRow w.heap.size 9 1 u l.length ((srtT (l.map (·.text))).flatMap celS) ∧ Ext w w' := by
  obtain ⟨base, cp, rfl⟩ := hl.form; have hle := hl.le
  have HS := Lib.hid hs
  clear hs
  obtain ⟨B, hB⟩ : ∃ B, B = w.heap.size := ⟨_, rfl⟩
  rw [← hB]
  have HB := Lib.hid hB
  clear hB
  go_enter Try.func33, Try.ntmps33
  go_wp2_with (fail)
  go_loopw [3, 8] (fun u k wr => ∃ i : Nat, k = .int .i64 i ∧ i ≤ l.length ∧ Hid (wr.ownsRow B 9 1 u i (((l.take i).map (·.text)).flatMap celS)) ∧ Ext w wr) (fun _ k _ => l.length - (iof k).toNat)
  case atStart => exact ⟨0, rfl, Nat.zero_le _, Lib.hid (World.ownsRow_nil _ _ _ _), Ext.refl _⟩
  case round =>
    obtain ⟨i, rfl, hi, HR, hx⟩ := hrel
    by_cases hil : i < l.length
    · obtain ⟨b, rfl, hbl, c0, c1⟩ := qn_at (hl.ext hx) i hil
      have hts := HS.out l[i] (List.getElem_mem _)
      have HN : Hid ((l.take (i + 1)).map (·.text) = (l.take i).map (·.text) ++ [l[i].text]) := Lib.hid (by rw [List.take_succ_eq_append_getElem hil, List.map_append]; rfl)
      have hti : ((l.take i).map (·.text)).length = i := by simp; omega
      generalize l[i].who = qw at *
      generalize l[i].text = qt at *
      generalize (l.take i).map (·.text) = ts at *
      go_upto_region 5 with (refine wpList_store_row (hgd := rfl) 66 (.tmp 5) (.tmp 11) rfl wr.heap.size (by rfl) #[.int .i64 qw, .string qt] (by rfl) #[.int .i64 0, .string ⟨#[]⟩] 66 (alloc_at wr _) (by rfl) (by kernel_rfl) (by simp [Value.oneCell']) ?_)
      have hxa : Ext wr ((wr.alloc (.cells #[.int .i64 0, .string ⟨#[]⟩] 66)).setRow wr.heap.size #[.int .i64 qw, .string qt]) := below_setRow (Ext.alloc (Ext.refl _) _) (Nat.le_refl _) _
      have hp : ((wr.alloc (.cells #[.int .i64 0, .string ⟨#[]⟩] 66)).setRow wr.heap.size #[.int .i64 qw, .string qt]).heap[wr.heap.size]? = some (.cells #[.int .i64 qw, .string qt] 66) := setRow_heap _ _ _ _ _ _ (alloc_at wr _)
      have HRa : Hid (World.ownsRow _ B 9 1 u3 ts.length (ts.flatMap celS)) := Lib.hid (row_ext (hti.symm ▸ HR.out) hxa)
      have HTI := Lib.hid hti
      clear hti HR c0 c1
      obtain ⟨p, hpe⟩ : ∃ p, p = wr.heap.size := ⟨_, rfl⟩
      rw [← hpe] at hp hxa HRa ⊢
      generalize (wr.alloc (.cells #[.int .i64 0, .string ⟨#[]⟩] 66)).setRow p #[.int .i64 qw, .string qt] = W1 at *
      clear hpe
      have p1 := cell_of_row W1 p 1 _ _ _ hp
      have hBW : B ≤ W1.heap.size := by have := hx.size; have := hxa.size; have := HB.out; omega
      have HBW := Lib.hid hBW
      have hpl := Rg.lt_of_heap hp
      clear hp hBW
      simp only [Act.put, List.setIfInBounds_toArray, List.set_cons_zero, List.set_cons_succ]
      go_wp2_with (first
        | (go_at_call 37; (with_reducible refine (clone_any _ _ hts).mono ?_); rintro e w2 ⟨rfl, hx2⟩)
        | (refine append_str rfl (.tmp 12) (.tmp 16) rfl B _ ts rfl (row_ext HRa.out (hx2.trans (Ext.alloc (Ext.refl _) _))) w2.heap.size qt (by rfl) (alloc_at w2 _) (by have := HTI.out; omega) (by have := HBW.out; have := hx2.size; simp; omega) ?_; intro g cap w3 hr3 hb3))
      have hlen : (ts ++ [qt]).length = i + 1 := by have := HTI.out; simp; omega
      refine ⟨⟨i + 1, by simp, by omega, Lib.hid ?_, Ext.below_trans (hx.trans (hxa.trans (hx2.trans (Ext.alloc (Ext.refl _) _)))) (HB.out ▸ hb3)⟩, by simp [iof]; omega⟩
      rw [HN.out]
      rw [hlen] at hr3
      exact hr3
    · obtain rfl : i = l.length := by omega
      have hR2 := HR.out
      rw [List.take_length, show l.length = (l.map (·.text)).length by simp] at hR2
      have hso := sortT_own B u3 (l.map (·.text)) wr hR2 (fun s hs => by
        obtain ⟨q, hq, rfl⟩ := List.mem_map.1 hs
        exact HS.out q hq) (by simpa using hle)
      have HSO := Lib.hid hso; have HR2 := Lib.hid hR2
      clear hso hR2 HR
      go_wp2_with (go_at_call 38; (with_reducible refine HSO.out.mono ?_); rintro e w2 ⟨rfl, hr2, hg2⟩)
      go_ret
      refine ⟨_, rfl, ?_, grown_ext hx HR2.out (Nat.le_of_eq HB.out.symm) hg2⟩
      rw [List.length_map] at hr2
      exact hr2
end Go.Proofs.Ytbeoihjfjkbfhaa

namespace Go.Proofs.Ytbeoihjfjkbfhaa
set_option linter.unusedVariables false
set_option linter.unusedSimpArgs false
open Go.RowKit Go.MapKept Go.ChangeMaps
open Go.Maps (Keyed)
theorem map_erase {α β : Type} (f : α → β) : ∀ (l : List α) (j : Nat), (l.eraseIdx j).map f = (l.map f).eraseIdx j
  | [], _ => rfl
  | _ :: _, 0 => rfl
  | a :: l, j + 1 => by simp [map_erase f l j]
theorem erase_filter {κ β : Type} [DecidableEq κ] : ∀ (l : List (κ × β)) (j : Nat) (x : κ) (v : β), (l.map (·.1)).Nodup → l[j]? = some (x, v) → l.eraseIdx j = l.filter (fun p => decide (p.1 ≠ x))
  | [], j, x, v, _, h => by simp at h
  | p :: l, 0, x, v, hn, h => by
    simp only [List.getElem?_cons_zero, Option.some.injEq] at h
    subst h
    simp only [List.map_cons, List.nodup_cons] at hn
    simp only [List.eraseIdx_cons_zero, List.filter_cons, ne_eq, not_true_eq_false, decide_false, Bool.false_eq_true, if_false]
    refine (List.filter_eq_self.2 fun q hq => ?_).symm
    rw [decide_eq_true_eq]
    rintro rfl
    exact hn.1 (List.mem_map.2 ⟨q, hq, rfl⟩)
  | p :: l, j + 1, x, v, hn, h => by
    simp only [List.map_cons, List.nodup_cons] at hn
    have h2 : l[j]? = some (x, v) := by simpa using h
    have hne : p.1 ≠ x := by
      rintro rfl
      exact hn.1 (List.mem_map.2 ⟨_, List.mem_of_getElem? h2, rfl⟩)
    rw [List.eraseIdx_cons_succ, erase_filter l j x v hn.2 h2, List.filter_cons, if_pos (by simpa using hne)]
section
variable {κ : Type} [DecidableEq κ] {enc : κ → Value} {good : κ → Prop} {P : Program} {k e t : TypeId} {w w' : World} {b : Nat} {l : List (κ × Value)}
theorem MP.delete (K : KE P k enc good) (ht : P.underlying t = some (.map k e)) (h : MP enc good w b l) {x : κ} (hx : good x) (k2 ty : TypeId) :
    ∃ w', (Builtin.delete_ #[t, k2] ty #[.map (some b), enc x]).run P w = .ok (.tuple #[]) w' ∧ MP enc good w' b (l.filter fun p => decide (p.1 ≠ x)) ∧ w.grownBy w' (some b) := by
  have h0 := h
  obtain ⟨h1, h2, es, clock, hb, hes, hst⟩ := h
  obtain ⟨li, hli⟩ := K.lit x hx
  have hsub : ∀ p ∈ l.filter (fun p => decide (p.1 ≠ x)), good p.1 := fun p hp => h1 p (List.mem_filter.1 hp).1
  have hnd : ((l.filter (fun p => decide (p.1 ≠ x))).map (·.1)).Nodup := h2.sublist (List.filter_sublist.map _)
  rcases MP.find K h0 hx hes with ⟨hf, hl⟩ | ⟨j, v0, hf, hl, e0, hj, hek, hev, hlj⟩
  · have hm := lookup_none.1 hl
    have hfl : l.filter (fun p => decide (p.1 ≠ x)) = l := List.filter_eq_self.2 fun q hq => by
      rw [decide_eq_true_eq]
      rintro rfl
      exact hm (List.mem_map.2 ⟨q, hq, rfl⟩)
    rw [hfl]
    refine ⟨setBlock w b (.map es clock), ?_, ⟨h1, h2, _, _, heap_setBlock_same hb _, hes, hst⟩, ⟨rfl, rfl, rfl, by simp [setBlock], fun i _ hi => heap_setBlock_other hb _ (fun e => hi (by rw [e]))⟩⟩
    simp [Builtin.delete_, run_underlying ht, MapKept.run_getObj_map hb, K.keyed.check w _ hli, hf, Result.andThen, MapKept.run_setObj_map _ hb]
    rfl
  · have hel := erase_filter l j x v0 h2 hlj
    refine ⟨setBlock w b (.map (es.eraseIdxIfInBounds j) clock), ?_, ⟨hsub, hnd, _, _, heap_setBlock_same hb _, ?_, MapKept.stamped_erase hst j⟩, ⟨rfl, rfl, rfl, by simp [setBlock], fun i _ hi => heap_setBlock_other hb _ (fun e => hi (by rw [e]))⟩⟩
    · simp [Builtin.delete_, run_underlying ht, MapKept.run_getObj_map hb, K.keyed.check w _ hli, hf, Result.andThen, MapKept.run_setObj_map _ hb]
      rfl
    · rw [← hel]
      have e1 : (es.eraseIdxIfInBounds j).toList = es.toList.eraseIdx j := by
        rw [Array.eraseIdxIfInBounds_eq]
        split
        · simp
        · rename_i hlt
          rw [List.eraseIdx_of_length_le (by simpa using hlt)]
      rw [e1, map_erase, map_erase, hes]
theorem wpList_delete (ops : Array Oper) {rest : List Oper} {o : Oper} {a : Act} {Q : Exit → Act → World → Prop} (hg : o.guard = none) (m x : Operand) (t k2 : TypeId) (hop : o.op = Op.call { callee := Callee.builtin Builtin.delete, args := #[m, x], argTypes := #[t, k2] })
    (k e : TypeId) (K : KE P k enc good) (ht : P.underlying t = some (.map k e)) (b : Nat) (l : List (κ × Value)) (hm : a.eval m = .map (some b)) (h : MP enc good w b l) (key : κ) (hx : a.eval x = enc key) (hgd : good key)
    (hK : ∀ w', MP enc good w' b (l.filter fun p => decide (p.1 ≠ key)) → w.grownBy w' (some b) → wpList P ops Q rest (a.put o.dst (.tuple #[])) w') : wpList P ops Q (o :: rest) a w := by
  refine wpList_plain hg fun K' hK' => ?_
  obtain ⟨w', hrun, r1, r2⟩ := h.delete K ht hgd k2 o.type
  unfold Oper.wp
  simp [execOp, hop, resolve, invoke, builtin, hm, hx, hrun, Result.andThen]
  exact hK' _ _ (hK w' r1 r2)
end
/-- An int of the machine. -/
def OkI (a : Int) : Prop := -9223372036854775808 ≤ a ∧ a ≤ 9223372036854775807
theorem OkI.wf {a : Int} (h : OkI a) : (Lit.int .i64 a).wf = true := by
  obtain ⟨h1, h2⟩ := h
  simp [Lit.wf, IntKind.min, IntKind.max, IntKind.signed, IntKind.bits]
  omega
abbrev encI (i : Int) : Value := .int .i64 i
abbrev encQ (q : Qn) : Value := .agg #[.int .i64 q.who, .string q.text]
def OkQ (q : Qn) : Prop := OkI q.who ∧ q.text.size ≤ 4000
instance : DecidableEq Qn := fun a b => by
  obtain ⟨a1, a2⟩ := a
  obtain ⟨b1, b2⟩ := b
  rw [Qn.mk.injEq]
  infer_instance
theorem laid : laidOutB Try.prog = true := by kernel_rfl
theorem c3 : Try.prog.cellsOf 3 = 1 := by kernel_rfl
theorem c9 : Try.prog.cellsOf 9 = 1 := by kernel_rfl
theorem c66 : Try.prog.cellsOf 66 = 2 := by kernel_rfl
theorem lits3 (d : Nat) {a : Int} (h : OkI a) : Try.prog.keyLits (d + 1) 3 [.int .i64 a] = some [.int .i64 a] := by
  simp [Program.keyLits, Try.underlying3, h.wf]
theorem lits9 (d : Nat) {s : ByteArray} (h : s.size ≤ maxLen) : Try.prog.keyLits (d + 1) 9 [.string s] = some [.string s.data.toList] := by
  simp [Program.keyLits, Try.underlying9, h]
theorem lits66 (d : Nat) {a : Int} {s : ByteArray} (ha : OkI a) (hs : s.size ≤ maxLen) : Try.prog.keyLits (d + 2) 66 [.int .i64 a, .string s] = some [.int .i64 a, .string s.data.toList] := by
  unfold Program.keyLits
  rw [Try.underlying66]
  simp [c66, c3, c9, lits3 d ha, lits9 d hs]
theorem keI : KE Try.prog 3 encI OkI := ⟨Go.Maps.int_keyed Try.underlying3, fun a b h => by injection h, fun a h => ⟨_, Go.Maps.keyOf_int_mk Try.underlying3 h.wf⟩⟩
theorem keQ : KE Try.prog 66 encQ OkQ := ⟨Go.Maps.Keyed.of_law (deep_law_laid laid (m := 9) (by omega) (of_decide_eq_true (by kernel_rfl)) (by kernel_rfl) (by kernel_rfl)), fun a b h => by
    obtain ⟨a1, a2⟩ := a
    obtain ⟨b1, b2⟩ := b
    simpa using h, fun a h => by
    have h1 : Try.prog.keyType 66 = true := by kernel_rfl
    have h2 : Try.prog.types.size + 1 = 138 + 2 := by kernel_rfl
    refine ⟨.string (keyBytes [.int .i64 a.who, .string a.text.data.toList]), ?_⟩
    unfold keyOf
    rw [h2]
    simp [Try.underlying66, h1, Value.formed, c66, Value.cells, lits66 138 h.1 (show a.text.size ≤ maxLen by have := h.2; unfold maxLen; omega)]⟩
end Go.Proofs.Ytbeoihjfjkbfhaa

namespace Go.Proofs.Ytbeoihjfjkbfhaa
set_option linter.unusedVariables false
set_option linter.unusedSimpArgs false
open Go.RowKit

structure Rl where
  least : Int
  every : Int
  l : List (Qn × Int)
  last : Int
  timed : Bool
  closed : Bool
def Rl.cells (r : Rl) (mb : Option Nat) : Array Value := #[.int .i64 r.least, .int .i64 r.every, .map mb, .int .i64 r.last, .bool r.timed, .bool r.closed]
def mapL (l : List (Qn × Int)) : List (Qn × Value) := l.map fun p => (p.1, .int .i64 p.2)
theorem mapL_keys (l : List (Qn × Int)) : (mapL l).map (·.1) = l.map (·.1) := by simp [mapL]
theorem mapL_len (l : List (Qn × Int)) : (mapL l).length = l.length := by simp [mapL]
/-- The questions in the map. -/
def MQ (B : Nat) (w : World) : Option Nat → List (Qn × Int) → Prop
  | none, l => l = []
  | some b, l => B ≤ b ∧ MP encQ OkQ w b (mapL l)
structure Rl.ok (r : Rl) : Prop where
  least : OkI r.least
  every : OkI r.every
  last : OkI r.last
  per : ∀ p ∈ r.l, OkI p.2
  len : r.l.length ≤ 1000
/-- The relay at p, its map at mb, both from B on. -/
structure RW (B : Nat) (w : World) (p : Nat) (mb : Option Nat) (r : Rl) : Prop where
  at_ : B ≤ p
  row : w.heap[p]? = some (.cells (r.cells mb) 56)
  map : MQ B w mb r.l
  ok : r.ok
/-- Nothing that was there has turned but p and mb. -/
structure KW (p : Nat) (mb : Option Nat) (w w' : World) : Prop where
  os : w'.os = w.os
  tape : w'.tape = w.tape
  output : w'.output = w.output
  size : w.heap.size ≤ w'.heap.size
  block : ∀ k, k < w.heap.size → k ≠ p → some k ≠ mb → w'.heap[k]? = w.heap[k]?
theorem KW.refl (p : Nat) (mb : Option Nat) (w : World) : KW p mb w w := ⟨rfl, rfl, rfl, Nat.le_refl _, fun _ _ _ _ => rfl⟩
theorem KW.of_ext {p : Nat} {mb : Option Nat} {w w' : World} (h : Ext w w') : KW p mb w w' := ⟨h.os, h.tape, h.output, h.size, fun k hk _ _ => h.block k hk⟩
theorem KW.trans {p : Nat} {mb : Option Nat} {a b c : World} (h : KW p mb a b) (k : KW p mb b c) : KW p mb a c :=
  ⟨k.os.trans h.os, k.tape.trans h.tape, k.output.trans h.output, Nat.le_trans h.size k.size, fun i hi hp hm => (k.block i (Nat.lt_of_lt_of_le hi h.size) hp hm).trans (h.block i hi hp hm)⟩
theorem KW.setCell {p o : Nat} {mb : Option Nat} {a b : World} (h : KW p mb a b) (v : Value) : KW p mb a (b.setCell ⟨p, o, none⟩ v) :=
  ⟨h.os, h.tape, h.output, by simpa using h.size, fun i hi hp hm => (heap_setCell_other _ hp).trans (h.block i hi hp hm)⟩
theorem KW.grown {p b : Nat} {a w w' : World} (h : KW p (some b) a w) (g : w.grownBy w' (some b)) : KW p (some b) a w' :=
  ⟨g.os.trans h.os, g.tape.trans h.tape, g.output.trans h.output, Nat.le_trans h.size g.size, fun i hi hp hm => (g.block i (Nat.lt_of_lt_of_le hi h.size) hm).trans (h.block i hi hp hm)⟩
theorem KW.below {p B : Nat} {mb : Option Nat} {w w' : World} (h : KW p mb w w') (hB : B ≤ w.heap.size) (hp : B ≤ p) (hm : ∀ b, mb = some b → B ≤ b) : Below B w w' :=
  ⟨h.os, h.tape, h.output, h.size, fun k hk => h.block k (by omega) (by omega) (fun e => by have := hm k e.symm; omega)⟩
theorem MQ.lt {B : Nat} {w : World} {mb : Option Nat} {l : List (Qn × Int)} (h : MQ B w mb l) : ∀ b, mb = some b → B ≤ b ∧ b < w.heap.size := by
  rintro b rfl
  exact ⟨h.1, MP.lt h.2⟩
theorem MQ.of_block {B : Nat} {w w' : World} {mb : Option Nat} {l : List (Qn × Int)} (h : MQ B w mb l) (hb : ∀ b, mb = some b → w'.heap[b]? = w.heap[b]?) : MQ B w' mb l := by
  cases mb with
  | none => exact h
  | some b => exact ⟨h.1, MP.of_block h.2 (hb b rfl)⟩
theorem MQ.ext {B : Nat} {w w' : World} {mb : Option Nat} {l : List (Qn × Int)} (h : MQ B w mb l) (x : Ext w w') : MQ B w' mb l := h.of_block fun b e => x.block b (h.lt b e).2
theorem RW.lt {B : Nat} {w : World} {p : Nat} {mb : Option Nat} {r : Rl} (h : RW B w p mb r) : p < w.heap.size := Rg.lt_of_heap h.row
theorem RW.ne {B : Nat} {w : World} {p : Nat} {mb : Option Nat} {r : Rl} (h : RW B w p mb r) : mb ≠ some p := by
  rintro rfl
  obtain ⟨-, -, -, es, clock, hb, -⟩ := h.map
  rw [h.row] at hb
  cases hb
theorem RW.ext {B : Nat} {w w' : World} {p : Nat} {mb : Option Nat} {r : Rl} (h : RW B w p mb r) (x : Ext w w') : RW B w' p mb r := ⟨h.at_, (x.block _ h.lt).trans h.row, h.map.ext x, h.ok⟩
/-- Another relay stays. -/
theorem RW.other {B : Nat} {w w' : World} {p p2 : Nat} {mb mb2 : Option Nat} {r r2 : Rl} (h : RW B w p mb r) (h2 : RW B w p2 mb2 r2) (k : KW p2 mb2 w w') (hp : p ≠ p2) (hm : ∀ b, mb = some b → mb2 ≠ some b) : RW B w' p mb r := by
  have e1 : mb2 ≠ some p := by
    rintro rfl
    obtain ⟨-, -, -, es, clock, hb, -⟩ := h2.map
    rw [h.row] at hb
    cases hb
  refine ⟨h.at_, (k.block p h.lt hp (fun e => e1 e.symm)).trans h.row, h.map.of_block fun b e => k.block b (h.map.lt b e).2 ?_ (fun e2 => hm b e e2.symm), h.ok⟩
  rintro rfl
  subst e
  obtain ⟨-, -, -, es, clock, hb, -⟩ := h.map
  rw [h2.row] at hb
  cases hb
theorem Rl.cells_at {w : World} {p : Nat} {mb : Option Nat} {r : Rl} (h : w.heap[p]? = some (.cells (r.cells mb) 56)) :
    w.cell? ⟨p, 0, none⟩ = some (.int .i64 r.least) ∧ w.cell? ⟨p, 1, none⟩ = some (.int .i64 r.every) ∧ w.cell? ⟨p, 2, none⟩ = some (.map mb) ∧ w.cell? ⟨p, 3, none⟩ = some (.int .i64 r.last) ∧ w.cell? ⟨p, 4, none⟩ = some (.bool r.timed) ∧ w.cell? ⟨p, 5, none⟩ = some (.bool r.closed) :=
  ⟨cell_of_row w p 0 _ _ _ h, cell_of_row w p 1 _ _ _ h, cell_of_row w p 2 _ _ _ h, cell_of_row w p 3 _ _ _ h, cell_of_row w p 4 _ _ _ h, cell_of_row w p 5 _ _ _ h⟩
def perF (every t : Int) : Int := t / max every 1
theorem perF_tdiv (e t : Int) (he : 1 ≤ e) : t / e = if t.tmod e < 0 then t.tdiv e - 1 else t.tdiv e := by
  have h1 := Int.mul_tdiv_add_tmod t e
  have h2 := Int.mul_ediv_add_emod t e
  have h3 := Int.emod_nonneg t (show e ≠ 0 by omega)
  have h4 := Int.emod_lt_of_pos t (show 0 < e by omega)
  by_cases ht : 0 ≤ t
  · have h5 := Int.tmod_nonneg e ht
    rw [if_neg (by omega), Int.tdiv_eq_ediv_of_nonneg ht]
  · have hs : e.sign = 1 := Int.sign_eq_one_of_pos (by omega)
    have ha : (e.natAbs : Int) = e := Int.natAbs_of_nonneg (by omega)
    rw [Int.tdiv_eq_ediv, Int.tmod_eq_emod, hs]
    by_cases hd : e ∣ t
    · have h0 := Int.emod_eq_zero_of_dvd hd
      have hc : (0 ≤ t ∨ e ∣ t) = True := by simp [hd]
      simp only [hc, if_true]
      rw [if_neg (by omega)]
      omega
    · have hc : (0 ≤ t ∨ e ∣ t) = False := by simp [hd, ht]
      simp only [hc, if_false, ha]
      rw [if_pos (by omega)]
      omega
theorem tdiv_in {t e : Int} (ht : OkI t) (he : 1 ≤ e) : OkI (t.tdiv e) ∧ (t.tmod e < 0 → OkI (t.tdiv e - 1)) := by
  obtain ⟨h1, h2⟩ := ht
  have h3 := Int.mul_tdiv_add_tmod t e
  have h5 := perF_tdiv e t he
  have h6 := Int.emod_nonneg t (show e ≠ 0 by omega)
  have h7 := Int.emod_lt_of_pos t (show 0 < e by omega)
  have h8 := Int.mul_ediv_add_emod t e
  have h9 : (-9223372036854775808 : Int) ≤ t / e := by
    rw [Int.le_ediv_iff_mul_le (by omega)]
    have : e * 9223372036854775808 ≥ 1 * 9223372036854775808 := Int.mul_le_mul_of_nonneg_right he (by omega)
    omega
  have h10 : t / e ≤ 9223372036854775807 := by
    by_cases h0 : 0 ≤ t
    · exact Int.le_trans (Int.ediv_le_self _ h0) h2
    · have : t / e < 0 := Int.ediv_neg_of_neg_of_pos (by omega) (by omega)
      omega
  by_cases hm : t.tmod e < 0
  · rw [if_pos hm] at h5
    exact ⟨⟨by omega, by
      by_cases h0 : 0 ≤ t
      · have := Int.tmod_nonneg e h0
        omega
      · have : t / e < 0 := Int.ediv_neg_of_neg_of_pos (by omega) (by omega)
        omega⟩, fun _ => ⟨by omega, by omega⟩⟩
  · rw [if_neg hm] at h5
    exact ⟨⟨by omega, by omega⟩, fun h => absurd h hm⟩
theorem new_any (least every : Int) (w : World) (hl : OkI least) (he : OkI every) :
    Calls Try.prog 12 #[.int .i64 least, .int .i64 every] w fun e w' => e = .returned (.pointer (some ⟨w.heap.size, 0, none⟩)) ∧ RW w.heap.size w' w.heap.size none ⟨least, every, [], 0, false, false⟩ ∧ Ext w w' := by
  go_enter Try.func12, Try.ntmps12
  go_wp2
  go_ret
  exact ⟨rfl, ⟨Nat.le_refl _, alloc_at w _, rfl, ⟨hl, he, show OkI 0 from ⟨by decide, by decide⟩, by simp, by simp⟩⟩, Ext.alloc (Ext.refl _) _⟩
theorem old_any (p : Nat) (mb : Option Nat) (r : Rl) (t : Int) (w : World) (h : w.heap[p]? = some (.cells (r.cells mb) 56)) :
    Calls Try.prog 26 #[.pointer (some ⟨p, 0, none⟩), .int .i64 t] w fun e w' => e = .returned (.bool (r.timed && decide (t < r.last))) ∧ w' = w := by
  obtain ⟨-, -, -, c3, c4, -⟩ := Rl.cells_at h
  clear h
  generalize r.last = la at *
  cases ht : r.timed with
  | true =>
    rw [ht] at c4
    clear ht
    go_enter Try.func26, Try.ntmps26
    go_wp2
    go_ret
    exact ⟨rfl, rfl⟩
  | false =>
    rw [ht] at c4
    clear ht
    go_enter Try.func26, Try.ntmps26
    go_wp2
    go_ret
    exact ⟨rfl, rfl⟩
theorem wrap64_in {x : Int} (h : OkI x) : wrap64 x = x := by
  obtain ⟨h1, h2⟩ := h
  unfold wrap64
  omega
theorem period_any (p : Nat) (mb : Option Nat) (r : Rl) (t : Int) (w : World) (h : w.heap[p]? = some (.cells (r.cells mb) 56)) (hr : OkI r.every) (ht : OkI t) :
    Calls Try.prog 27 #[.pointer (some ⟨p, 0, none⟩), .int .i64 t] w fun e w' => e = .returned (.int .i64 (perF r.every t)) ∧ w' = w := by
  obtain ⟨-, c1, -, -, -, -⟩ := Rl.cells_at h
  clear h
  unfold perF
  generalize r.every = ev at *
  have h1 : 1 ≤ max ev 1 := by omega
  have h2 := tdiv_in ht h1
  have h3 := perF_tdiv (max ev 1) t h1
  have h4 : max ev 1 ≤ 9223372036854775807 := by have := hr.2; omega
  have HM : Hid (t / max ev 1 = if t.tmod (max ev 1) < 0 then t.tdiv (max ev 1) - 1 else t.tdiv (max ev 1)) := Lib.hid h3
  clear h3
  generalize t / max ev 1 = R at *
  go_enter Try.func27, Try.ntmps27
  go_upto_region 2 with (fail)
  clear hr c1
  generalize max ev 1 = m at *
  obtain ⟨hq1, hq2⟩ := h2
  have hm0 : ¬ m = 0 := by omega
  have hwq : wrap64 (t.tdiv m) = t.tdiv m := wrap64_in hq1
  cases hz : decide (t.tmod m < 0) with
  | true =>
    have hz1 := of_decide_eq_true hz
    have hq3 := hq2 hz1
    have hwq2 : wrap64 (t.tdiv m - 1) = t.tdiv m - 1 := wrap64_in hq3
    have HR : Hid (R = t.tdiv m - 1) := Lib.hid (HM.out.trans (if_pos hz1))
    clear HM hq2
    clear hz
    go_wp2
    go_ret
    exact ⟨by rw [HR.out]; show Ending.returned (.int .i64 (wrap64 (t.tdiv m - 1))) = _; rw [hwq2], rfl⟩
  | false =>
    have hz1 := of_decide_eq_false hz
    have HR : Hid (R = t.tdiv m) := Lib.hid (HM.out.trans (if_neg hz1))
    clear HM hq2
    clear hz
    go_wp2
    go_ret
    exact ⟨by rw [HR.out]; rfl, rfl⟩
end Go.Proofs.Ytbeoihjfjkbfhaa

namespace Go.Proofs.Ytbeoihjfjkbfhaa
set_option linter.unusedVariables false
set_option linter.unusedSimpArgs false
open Go.RowKit
theorem len_nil (t : TypeId) (k e : TypeId) (ht : Try.prog.underlying t = some (.map k e)) (ty : TypeId) (w : World) : (Builtin.len_ #[t] ty #[.map none]).run Try.prog w = .ok (.int .i64 0) w := by
  simp [Builtin.len_, run_underlying ht, goInt, Result.andThen]
theorem under54 : Try.prog.underlying 54 = some (.map 66 3) := Try.underlying54
theorem len_mq {B : Nat} {w : World} {mb : Option Nat} {l : List (Qn × Int)} (h : MQ B w mb l) (ty : TypeId) : (Builtin.len_ #[54] ty #[.map mb]).run Try.prog w = .ok (.int .i64 (l.length : Nat)) w := by
  cases mb with
  | none =>
    rw [show l = [] from h]
    exact len_nil 54 66 3 under54 ty w
  | some b =>
    have := MP.len h.2 under54 ty
    rw [mapL_len] at this
    exact this
theorem waiting_any {B : Nat} (p : Nat) (mb : Option Nat) (r : Rl) (w : World) (h : RW B w p mb r) :
    Calls Try.prog 22 #[.pointer (some ⟨p, 0, none⟩)] w fun e w' => e = .returned (.int .i64 (r.l.length : Nat)) ∧ w' = w := by
  obtain ⟨-, -, c2, -, -, -⟩ := Rl.cells_at h.row
  have hl := len_mq h.map 3
  generalize r.l.length = n at *
  clear h
  go_enter Try.func22, Try.ntmps22
  go_wp2
  go_ret
  exact ⟨rfl, rfl⟩
theorem waiting_nil (w : World) : Calls Try.prog 22 #[.pointer none] w fun e w' => e = .returned (.int .i64 0) ∧ w' = w := by
  go_enter Try.func22, Try.ntmps22
  go_wp2
  go_ret
  exact ⟨rfl, rfl⟩
def askF (r : Rl) (q : Qn) (t : Int) : Int × Rl :=
  if q.text.size = 0 ∨ 4000 < q.text.size then (1, r)
  else if r.closed = true then (31, r)
  else if r.timed = true ∧ t < r.last then (32, r)
  else if q ∈ r.l.map (·.1) then (33, r)
  else if 1000 ≤ r.l.length then (2, r)
  else (0, { r with last := t, timed := true, l := r.l ++ [(q, perF r.every t)] })
set_option maxRecDepth 100000 in
set_option maxHeartbeats 2000000 in
theorem ask_nil (who t : Int) (text : ByteArray) (w : World) :
    Calls Try.prog 20 #[.pointer none, .int .i64 who, .int .i64 t, .string text] w fun e w' => e = .returned (.int .i64 1) ∧ Ext w w' := by
  go_enter Try.func20, Try.ntmps20
  go_wp2
  go_ret
  exact ⟨rfl, Ext.alloc (Ext.refl _) _⟩
theorem txt_ne {s : ByteArray} (h : ¬ s.size = 0) : ¬ s.toList = [] ∧ s.toList.isEmpty = false := by
  have h1 : ¬ s.toList = [] := by
    rw [ByteArray.toList_eq]
    intro e
    have := congrArg List.length e
    exact h (by simpa using this)
  exact ⟨h1, by simpa using h1⟩
theorem txt_empty {s : ByteArray} (h : s.size = 0) : s = ⟨#[]⟩ := ByteArray.ext (Array.eq_empty_of_size_eq_zero h)
set_option maxRecDepth 100000 in
set_option maxHeartbeats 2000000 in
theorem ask_bad (p : Nat) (who t : Int) (text : ByteArray) (w : World) (hq : text.size = 0 ∨ 4000 < text.size) :
    Calls Try.prog 20 #[.pointer (some ⟨p, 0, none⟩), .int .i64 who, .int .i64 t, .string text] w fun e w' => e = .returned (.int .i64 1) ∧ Ext w w' := by
  by_cases h0 : text.size = 0
  · obtain rfl := txt_empty h0
    clear h0 hq
    go_enter Try.func20, Try.ntmps20
    go_wp2
    go_ret
    exact ⟨rfl, Ext.alloc (Ext.refl _) _⟩
  · have hq := hq.resolve_left h0
    obtain ⟨hte, hti⟩ := txt_ne h0
    have h4 : (4000 : Int) < text.size := by omega
    go_enter Try.func20, Try.ntmps20
    go_wp2
    go_ret
    exact ⟨rfl, Ext.alloc (Ext.refl _) _⟩
/-- What a look-up gives besides. -/
def valQ (l : List (Qn × Int)) (q : Qn) : Int := match (mapL l).lookup q with
  | some (.int _ z) => z
  | _ => 0
theorem look_mq {B : Nat} {w : World} {mb : Option Nat} {l : List (Qn × Int)} (h : MQ B w mb l) {q : Qn} (hq : OkQ q) :
    (Instr.lookup 54 (.map mb) (encQ q) true).run Try.prog w = .ok (.tuple #[.int .i64 (valQ l q), .bool (decide (q ∈ l.map (·.1)))]) w := by
  have hz : (zeroValue 3).run Try.prog w = .ok (.int .i64 0) w := Try.zeroValue3 w
  cases mb with
  | none =>
    rw [show l = [] from h]
    have h1 := look_nil keQ under54 hz hq true
    rw [h1]
    rfl
  | some b =>
    have h1 := MP.look keQ under54 hz h.2 hq true
    rw [h1]
    simp only [if_true]
    rw [← mapL_keys]
    unfold valQ
    cases hl : (mapL l).lookup q with
    | none =>
      have := lookup_none.1 hl
      simp only [Option.getD_none, Option.isSome_none, decide_eq_false this]
    | some v =>
      have h2 := lookup_mem hl
      obtain ⟨⟨q', z⟩, hm, he⟩ := List.mem_map.1 h2
      simp only [Prod.mk.injEq] at he
      have h3 : q ∈ (mapL l).map (·.1) := List.mem_map.2 ⟨_, h2, rfl⟩
      rw [← he.2]
      simp only [Option.getD_some, Option.isSome_some, decide_eq_true h3]
set_option maxRecDepth 100000 in
set_option maxHeartbeats 4000000 in
theorem ask_closed {B : Nat} (p : Nat) (mb : Option Nat) (r : Rl) (q : Qn) (t : Int) (w : World) (h : RW B w p mb r) (hs : ¬ q.text.size = 0) (hs4 : q.text.size ≤ 4000) (hc : r.closed = true) :
    Calls Try.prog 20 #[.pointer (some ⟨p, 0, none⟩), .int .i64 q.who, .int .i64 t, .string q.text] w fun e w' => e = .returned (.int .i64 31) ∧ Ext w w' := by
  obtain ⟨who, text⟩ := q
  simp only at *
  obtain ⟨hte, hti⟩ := txt_ne hs
  have h4 : ¬ (4000 : Int) < text.size := by omega
  have hx := Ext.alloc (Ext.refl w) (.cells #[.int .i64 who, .string text] 66)
  obtain ⟨-, -, -, -, -, c5⟩ := Rl.cells_at (h.ext hx).row
  rw [hc] at c5
  have hpl : p < (w.alloc (.cells #[.int .i64 who, .string text] 66)).heap.size := (h.ext hx).lt
  clear hc h
  go_enter Try.func20, Try.ntmps20
  go_wp2
  go_ret
  exact ⟨rfl, hx⟩
set_option maxRecDepth 100000 in
set_option maxHeartbeats 4000000 in
theorem ask_old {B : Nat} (p : Nat) (mb : Option Nat) (r : Rl) (q : Qn) (t : Int) (w : World) (h : RW B w p mb r) (hs : ¬ q.text.size = 0) (hs4 : q.text.size ≤ 4000) (hc : r.closed = false) (ho : r.timed = true ∧ t < r.last) :
    Calls Try.prog 20 #[.pointer (some ⟨p, 0, none⟩), .int .i64 q.who, .int .i64 t, .string q.text] w fun e w' => e = .returned (.int .i64 32) ∧ Ext w w' := by
  obtain ⟨who, text⟩ := q
  simp only at *
  obtain ⟨hte, hti⟩ := txt_ne hs
  have h4 : ¬ (4000 : Int) < text.size := by omega
  have hx := Ext.alloc (Ext.refl w) (.cells #[.int .i64 who, .string text] 66)
  obtain ⟨-, -, -, -, -, c5⟩ := Rl.cells_at (h.ext hx).row
  rw [hc] at c5
  have hO := old_any p mb r t _ (h.ext hx).row
  rw [show (r.timed && decide (t < r.last)) = true by simp [ho.1, ho.2]] at hO
  clear hc h ho
  go_enter Try.func20, Try.ntmps20
  go_wp2_with (go_at_call 26; (with_reducible refine hO.mono ?_); rintro e w1 ⟨rfl, rfl⟩)
  go_ret
  exact ⟨rfl, hx⟩
end Go.Proofs.Ytbeoihjfjkbfhaa

namespace Go.Proofs.Ytbeoihjfjkbfhaa
set_option linter.unusedVariables false
set_option linter.unusedSimpArgs false
open Go.RowKit
set_option maxRecDepth 100000 in
set_option maxHeartbeats 4000000 in
theorem ask_twice {B : Nat} (p : Nat) (mb : Option Nat) (r : Rl) (q : Qn) (t : Int) (w : World) (h : RW B w p mb r) (hs : ¬ q.text.size = 0) (hq : OkQ q) (hc : r.closed = false) (ho : ¬ (r.timed = true ∧ t < r.last)) (hm : q ∈ r.l.map (·.1)) :
    Calls Try.prog 20 #[.pointer (some ⟨p, 0, none⟩), .int .i64 q.who, .int .i64 t, .string q.text] w fun e w' => e = .returned (.int .i64 33) ∧ Ext w w' := by
  have hs4 := hq.2
  have hx := Ext.alloc (Ext.refl w) (.cells #[.int .i64 q.who, .string q.text] 66)
  have HX := Lib.hid hx
  have hL := fun n => look_mq ((h.ext hx).map.ext ((Ext.refl _).drewN n)) hq
  simp only [decide_eq_true hm, encQ] at hL
  obtain ⟨who, text⟩ := q
  simp only at *
  obtain ⟨hte, hti⟩ := txt_ne hs
  have h4 : ¬ (4000 : Int) < text.size := by omega
  obtain ⟨-, -, c2, -, -, c5⟩ := Rl.cells_at (h.ext hx).row
  rw [hc] at c5
  have hO := old_any p mb r t _ (h.ext hx).row
  rw [show (r.timed && decide (t < r.last)) = false by
    cases ht : r.timed
    · rfl
    · simp only [Bool.true_and, decide_eq_false_iff_not]; exact fun h => ho ⟨ht, h⟩] at hO
  obtain ⟨p9, hp9⟩ : ∃ p9, p9 = w.heap.size := ⟨_, rfl⟩
  have q0 : (w.alloc (.cells #[.int .i64 who, .string text] 66)).cell? ⟨p9, 0, none⟩ = some (.int .i64 who) := by rw [hp9]; exact cell_of_row _ _ 0 _ _ _ (alloc_at w _)
  have q1 : (w.alloc (.cells #[.int .i64 who, .string text] 66)).cell? ⟨p9, 1, none⟩ = some (.string text) := by rw [hp9]; exact cell_of_row _ _ 1 _ _ _ (alloc_at w _)
  clear hc h ho hm hq
  go_enter Try.func20, Try.ntmps20
  go_upto_region 8 with (go_at_call 26; (with_reducible refine hO.mono ?_); rintro e w1 ⟨rfl, rfl⟩)
  rw [← hp9]
  clear hp9 hO
  generalize w.alloc (.cells #[.int .i64 who, .string text] 66) = W at *
  generalize valQ r.l _ = z at *
  go_quiet (fail)
  go_wp2
  go_ret
  exact ⟨rfl, HX.out.drewN _⟩
set_option maxRecDepth 100000 in
set_option maxHeartbeats 4000000 in
theorem ask_many {B : Nat} (p : Nat) (mb : Option Nat) (r : Rl) (q : Qn) (t : Int) (w : World) (h : RW B w p mb r) (hs : ¬ q.text.size = 0) (hq : OkQ q) (hc : r.closed = false) (ho : ¬ (r.timed = true ∧ t < r.last)) (hm : ¬ q ∈ r.l.map (·.1)) (hn : 1000 ≤ r.l.length) :
    Calls Try.prog 20 #[.pointer (some ⟨p, 0, none⟩), .int .i64 q.who, .int .i64 t, .string q.text] w fun e w' => e = .returned (.int .i64 2) ∧ Ext w w' := by
  have hs4 := hq.2
  have hx := Ext.alloc (Ext.refl w) (.cells #[.int .i64 q.who, .string q.text] 66)
  have HX := Lib.hid hx
  have hL := fun n => look_mq ((h.ext hx).map.ext ((Ext.refl _).drewN n)) hq
  simp only [decide_eq_false hm, encQ] at hL
  have hLen := fun n => len_mq ((h.ext hx).map.ext ((Ext.refl _).drewN n)) 3
  obtain ⟨who, text⟩ := q
  simp only at *
  obtain ⟨hte, hti⟩ := txt_ne hs
  have h4 : ¬ (4000 : Int) < text.size := by omega
  obtain ⟨-, -, c2, -, -, c5⟩ := Rl.cells_at (h.ext hx).row
  rw [hc] at c5
  have hO := old_any p mb r t _ (h.ext hx).row
  rw [show (r.timed && decide (t < r.last)) = false by
    cases ht : r.timed
    · rfl
    · simp only [Bool.true_and, decide_eq_false_iff_not]; exact fun h => ho ⟨ht, h⟩] at hO
  obtain ⟨p9, hp9⟩ : ∃ p9, p9 = w.heap.size := ⟨_, rfl⟩
  have q0 : (w.alloc (.cells #[.int .i64 who, .string text] 66)).cell? ⟨p9, 0, none⟩ = some (.int .i64 who) := by rw [hp9]; exact cell_of_row _ _ 0 _ _ _ (alloc_at w _)
  have q1 : (w.alloc (.cells #[.int .i64 who, .string text] 66)).cell? ⟨p9, 1, none⟩ = some (.string text) := by rw [hp9]; exact cell_of_row _ _ 1 _ _ _ (alloc_at w _)
  clear hc h ho hm hq
  go_enter Try.func20, Try.ntmps20
  go_upto_region 8 with (go_at_call 26; (with_reducible refine hO.mono ?_); rintro e w1 ⟨rfl, rfl⟩)
  rw [← hp9]
  clear hp9 hO
  generalize w.alloc (.cells #[.int .i64 who, .string text] 66) = W at *
  generalize valQ r.l _ = z at *
  have hn2 : (1000 : Int) ≤ (r.l.length : Nat) := by omega
  generalize r.l.length = len at *
  clear hn
  go_quiet (fail)
  go_wp2
  go_ret
  exact ⟨rfl, HX.out.drewN _⟩
end Go.Proofs.Ytbeoihjfjkbfhaa

namespace Go.Proofs.Ytbeoihjfjkbfhaa
set_option linter.unusedVariables false
set_option linter.unusedSimpArgs false
open Go.RowKit
theorem put_new {l : List (Qn × Int)} {q : Qn} (h : ¬ q ∈ l.map (·.1)) (z : Int) : putL (mapL l) q (.int .i64 z) = mapL (l ++ [(q, z)]) := by
  unfold putL
  rw [mapL_keys, if_neg h]
  simp [mapL]
theorem perF_ok {every t : Int} (ht : OkI t) : OkI (perF every t) := by
  have h1 : 1 ≤ max every 1 := by omega
  have h2 := tdiv_in ht h1
  unfold perF
  rw [perF_tdiv _ t h1]
  split
  · exact h2.2 (by assumption)
  · exact h2.1
/-- The store of the question, and what comes after. -/
def Rl.asked (r : Rl) (q : Qn) (t : Int) : Rl := { r with last := t, timed := true, l := r.l ++ [(q, perF r.every t)] }
set_option maxRecDepth 100000 in
set_option maxHeartbeats 4000000 in
theorem ask_ok {B : Nat} (p : Nat) (mb : Option Nat) (r : Rl) (q : Qn) (t : Int) (w : World) (h : RW B w p mb r) (hB : B ≤ w.heap.size) (hs : ¬ q.text.size = 0) (hq : OkQ q) (ht : OkI t) (hc : r.closed = false) (ho : ¬ (r.timed = true ∧ t < r.last)) (hm : ¬ q ∈ r.l.map (·.1)) (hn : ¬ 1000 ≤ r.l.length) :
    Calls Try.prog 20 #[.pointer (some ⟨p, 0, none⟩), .int .i64 q.who, .int .i64 t, .string q.text] w fun e w' => e = .returned (.int .i64 0) ∧ ∃ mb', RW B w' p mb' (r.asked q t) ∧ KW p mb w w' ∧ (mb' = mb ∨ ∃ b, mb' = some b ∧ w.heap.size ≤ b) := by
  have hs4 := hq.2
  have hx := Ext.alloc (Ext.refl w) (.cells #[.int .i64 q.who, .string q.text] 66)
  have HX := Lib.hid hx
  have hL := fun n => look_mq ((h.ext hx).map.ext ((Ext.refl _).drewN n)) hq
  simp only [decide_eq_false hm, encQ] at hL
  have hLen := fun n => len_mq ((h.ext hx).map.ext ((Ext.refl _).drewN n)) 3
  have HQ := Lib.hid hq; have HM := Lib.hid hm; have HH := Lib.hid h; have HT := Lib.hid ht; have HB := Lib.hid hB; have HN := Lib.hid hn
  obtain ⟨who, text⟩ := q
  simp only at *
  obtain ⟨hte, hti⟩ := txt_ne hs
  have h4 : ¬ (4000 : Int) < text.size := by omega
  obtain ⟨-, -, c2, c3, c4, c5⟩ := Rl.cells_at (h.ext hx).row
  rw [hc] at c5
  have HC := Lib.hid hc
  have hO := old_any p mb r t _ (h.ext hx).row
  rw [show (r.timed && decide (t < r.last)) = false by
    cases ht : r.timed
    · rfl
    · simp only [Bool.true_and, decide_eq_false_iff_not]; exact fun h => ho ⟨ht, h⟩] at hO
  obtain ⟨p9, hp9⟩ : ∃ p9, p9 = w.heap.size := ⟨_, rfl⟩
  have HR9 : Hid ((w.alloc (.cells #[.int .i64 who, .string text] 66)).heap[p9]? = some (.cells #[.int .i64 who, .string text] 66)) := Lib.hid (by rw [hp9]; exact alloc_at w _)
  have q0 : (w.alloc (.cells #[.int .i64 who, .string text] 66)).cell? ⟨p9, 0, none⟩ = some (.int .i64 who) := cell_of_row _ _ 0 _ _ _ HR9.out
  have q1 : (w.alloc (.cells #[.int .i64 who, .string text] 66)).cell? ⟨p9, 1, none⟩ = some (.string text) := cell_of_row _ _ 1 _ _ _ HR9.out
  have hmm := @run_makeMap Try.prog
  have qT : ∀ (w : World) (r : Option Nat), (binOp .eql 54 (.map r) (.map none)).run Try.prog w = .ok (.bool r.isNone) w := fun w r => run_eql_map_nil w _ _ _ r Try.underlying54
  have HRP := Lib.hid (h.ext hx).row
  have HMP := Lib.hid (h.ext hx).map
  have f2 := (Rg.cells_of HRP.out).2.1 2
  have f3 := (Rg.cells_of HRP.out).2.1 3
  have f4 := (Rg.cells_of HRP.out).2.1 4
  have hpl := Rg.lt_of_heap HRP.out
  have hpne : ¬ p = p9 := by rw [hp9]; exact Nat.ne_of_lt h.lt
  clear hc h ho hm hq ht hB hx
  go_enter Try.func20, Try.ntmps20
  go_upto_region 8 with (go_at_call 26; (with_reducible refine hO.mono ?_); rintro e w1 ⟨rfl, rfl⟩)
  rw [← hp9]
  have HP9 := Lib.hid hp9
  clear hp9 hO
  generalize w.alloc (.cells #[.int .i64 who, .string text] 66) = W at *
  generalize valQ r.l _ = z at *
  have hn2 : ¬ (1000 : Int) ≤ (r.l.length : Nat) := by omega
  obtain ⟨len, hlen⟩ : ∃ len, len = r.l.length := ⟨_, rfl⟩
  rw [← hlen] at hn2
  simp only [← hlen] at hLen
  clear hn hlen
  go_quiet (fail)
  clear hL
  cases mb with
  | none =>
    go_upto_region 14 with (fail)
    have hWr : ((W.drewN nq).alloc (.map #[] 0)).heap[p]? = some (.cells (r.cells none) 56) := ((Ext.alloc (Ext.refl (W.drewN nq)) _).block p hpl).trans HRP.out
    have e2 : ((W.drewN nq).alloc (.map #[] 0)).cell? ⟨p, 2, none⟩ = some (.map none) := (Rl.cells_at hWr).2.2.1
    have g2 := (Rg.cells_of hWr).2.1 2
    have hMn : MP encQ OkQ ((W.drewN nq).alloc (.map #[] 0)) (W.drewN nq).heap.size [] := MP.made _
    have hr0 : r.l = [] := HMP.out
    go_upto_region 15 with (fail)
    obtain ⟨b, hb⟩ : ∃ b, b = W.heap.size := ⟨_, rfl⟩
    have hbp : b ≠ p := by omega
    have hb9 : p9 ≠ b := by have := Rg.lt_of_heap HR9.out; omega
    have hWb : (W.drewN nq).heap.size = b := hb.symm
    have hW0 : W.heap.size = b := hb.symm
    have hbw : w.heap.size ≤ b := by have := HX.out.size; omega
    have h15 := heap_setCell_row (o := 2) (.map (some (W.drewN nq).heap.size)) hWr
    rw [hWb] at h15 hMn
    simp only [hW0]
    have h16 : (((W.drewN nq).alloc (.map #[] 0)).setCell ⟨p, 2, none⟩ (.map (some b))).heap[p]? = some (.cells (r.cells (some b)) 56) := h15
    have h9X : (((W.drewN nq).alloc (.map #[] 0)).setCell ⟨p, 2, none⟩ (.map (some b))).heap[p9]? = some (.cells #[.int .i64 who, .string text] 66) := by
      rw [heap_setCell_other _ (Ne.symm hpne)]
      exact ((Ext.alloc (Ext.refl (W.drewN nq)) _).block p9 (Rg.lt_of_heap HR9.out)).trans HR9.out
    have hMX : MP encQ OkQ (((W.drewN nq).alloc (.map #[] 0)).setCell ⟨p, 2, none⟩ (.map (some b))) b (mapL r.l) := by
      rw [hr0]
      exact hMn.setCell hbp _
    have hKX : KW p (some b) w (((W.drewN nq).alloc (.map #[] 0)).setCell ⟨p, 2, none⟩ (.map (some b))) := (KW.of_ext ((HX.out.drewN nq).alloc _)).setCell _
    generalize ((W.drewN nq).alloc (.map #[] 0)).setCell ⟨p, 2, none⟩ (.map (some b)) = X at *
    obtain ⟨-, -, -, x3, x4, -⟩ := Rl.cells_at h16
    have y3 := (Rg.cells_of h16).2.1 3
    have y4 := (Rg.cells_of h16).2.1 4
    have ypl := Rg.lt_of_heap h16
    have H16 := Lib.hid h16; have H9X := Lib.hid h9X; have HMX := Lib.hid hMX; have HKX := Lib.hid hKX; have HB9 := Lib.hid hb9; have HBP := Lib.hid hbp; have HBW := Lib.hid hbw
    clear h15 h16 h9X hMX hKX hb9 hbp hWr e2 g2 hMn hb hWb hW0 hbw
    go_upto_region 16 with (fail)
    have hV : ((X.setCell ⟨p, 3, none⟩ (.int .i64 t)).setCell ⟨p, 4, none⟩ (.bool true)).heap[p]? = some (.cells (({ r with last := t, timed := true } : Rl).cells (some b)) 56) := by
      have h1 := heap_setCell_row (o := 3) (.int .i64 t) H16.out
      have h2 := heap_setCell_row (o := 4) (.bool true) h1
      exact h2
    have hK : KW p (some b) w ((X.setCell ⟨p, 3, none⟩ (.int .i64 t)).setCell ⟨p, 4, none⟩ (.bool true)) := (HKX.out.setCell _).setCell _
    have hbp := HBP.out
    have hMV : MP encQ OkQ ((X.setCell ⟨p, 3, none⟩ (.int .i64 t)).setCell ⟨p, 4, none⟩ (.bool true)) b (mapL r.l) := (HMX.out.setCell hbp _).setCell hbp _
    have h9V : ((X.setCell ⟨p, 3, none⟩ (.int .i64 t)).setCell ⟨p, 4, none⟩ (.bool true)).heap[p9]? = some (.cells #[.int .i64 who, .string text] 66) := by rw [heap_setCell_other _ (Ne.symm hpne), heap_setCell_other _ (Ne.symm hpne)]; exact H9X.out
    have hBb : B ≤ b := Nat.le_trans HB.out HBW.out
    have hmb : ((some b : Option Nat) = none ∨ ∃ b', some b = some b' ∧ w.heap.size ≤ b') ∧ ∀ w3, KW p (some b) w w3 → KW p none w w3 := ⟨.inr ⟨b, rfl, HBW.out⟩, fun _ h => ⟨h.os, h.tape, h.output, h.size, fun k hk hp _ => h.block k hk hp (fun e => by injection e with e; have := HBW.out; omega)⟩⟩
    generalize (X.setCell ⟨p, 3, none⟩ (.int .i64 t)).setCell ⟨p, 4, none⟩ (.bool true) = V at *
    clear x3 x4 y3 y4 ypl
    have hb9 : b ≠ p9 := by
      rintro rfl
      obtain ⟨-, -, es, ck, hb, -⟩ := hMV
      rw [h9V] at hb
      cases hb
    have hPer := Lib.hid (fun wz (hw : Ext V wz) => period_any p (some b) _ t wz ((hw.block _ (Rg.lt_of_heap hV)).trans hV) HH.out.ok.every HT.out)
    obtain ⟨per, hper⟩ : ∃ per, per = perF r.every t := ⟨_, rfl⟩
    have hPer2 : Hid (∀ wz, Ext V wz → Calls Try.prog 27 #[.pointer (some ⟨p, 0, none⟩), .int .i64 t] wz fun e w' => e = .returned (.int .i64 per) ∧ Ext wz w') := Lib.hid (fun wz hw => (hPer.out wz hw).mono fun _ _ ⟨a, b⟩ => ⟨by rw [a, hper], b ▸ Ext.refl _⟩)
    have HPE := Lib.hid hper
    obtain ⟨-, -, d2, -, -, -⟩ := Rl.cells_at hV
    have d8 : V.cell? ⟨p9, 0, none⟩ = some (.int .i64 who) := cell_of_row _ _ 0 _ _ _ h9V
    have d9 : V.cell? ⟨p9, 1, none⟩ = some (.string text) := cell_of_row _ _ 1 _ _ _ h9V
    have l1 := Rg.lt_of_heap hV
    have l9 := Rg.lt_of_heap h9V
    have KV := Lib.hid hV; have KM := Lib.hid hMV; have KK := Lib.hid hK; have KB := Lib.hid hmb; have KBB := Lib.hid hBb; have KBP := Lib.hid hbp
    clear hV hMV hK hmb hBb hbp h9V hPer hper c2 c3 c4 c5 q0 q1 f2 f3 f4 hpl hLen hmm qT
    refine Rr.wp_region [(0, .y), (1, .y), (2, .y), (3, .y), (4, .y), (5, .y), (6, .y), (7, .y)] (fun _ => (.cells #[] 29, Rg.ptr)) (by kernel_rfl) (by kernel_rfl) ?_
    (refine Rr.wr_y (by simp only [List.getElem?_toArray, List.getElem?_cons_succ, List.getElem?_cons_zero]; rfl) (by rfl) ?_
     apply Exists.intro
     refine ⟨fun wz hw _ => ?_, ?_⟩
     · have hcz := hw.cells.1
       go_simp
       (with_reducible exact Rg.up_value)
     simp only [Act.put, List.setIfInBounds_toArray, List.set_cons_zero, List.set_cons_succ])
    (refine Rr.wr_y (by simp only [List.getElem?_toArray, List.getElem?_cons_succ, List.getElem?_cons_zero]; rfl) (by rfl) ?_
     apply Exists.intro
     refine ⟨fun wz hw _ => ?_, ?_⟩
     · have hcz := hw.cells.1
       go_simp
       (with_reducible exact Rg.up_value)
     simp only [Act.put, List.setIfInBounds_toArray, List.set_cons_zero, List.set_cons_succ])
    (refine Rr.wr_y (by simp only [List.getElem?_toArray, List.getElem?_cons_succ, List.getElem?_cons_zero]; rfl) (by rfl) ?_
     apply Exists.intro
     refine ⟨fun wz hw _ => ?_, ?_⟩
     · have hcz := hw.cells.1
       go_simp
       (with_reducible exact Rg.up_value)
     simp only [Act.put, List.setIfInBounds_toArray, List.set_cons_zero, List.set_cons_succ])
    (refine Rr.wr_y (by simp only [List.getElem?_toArray, List.getElem?_cons_succ, List.getElem?_cons_zero]; rfl) (by rfl) ?_
     apply Exists.intro
     refine ⟨fun wz hw _ => ?_, ?_⟩
     · have hcz := hw.cells.1
       go_simp
       (with_reducible exact Rg.up_value)
     simp only [Act.put, List.setIfInBounds_toArray, List.set_cons_zero, List.set_cons_succ])
    (refine Rr.wr_y (by simp only [List.getElem?_toArray, List.getElem?_cons_succ, List.getElem?_cons_zero]; rfl) (by rfl) ?_
     apply Exists.intro
     refine ⟨fun wz hw _ => ?_, ?_⟩
     · have hcz := hw.cells.1
       go_simp
       (with_reducible exact Rg.up_value)
     simp only [Act.put, List.setIfInBounds_toArray, List.set_cons_zero, List.set_cons_succ])
    (refine Rr.wr_y (by simp only [List.getElem?_toArray, List.getElem?_cons_succ, List.getElem?_cons_zero]; rfl) (by rfl) ?_
     apply Exists.intro
     refine ⟨fun wz hw _ => ?_, ?_⟩
     · have hcz := hw.cells.1
       go_simp
       (with_reducible exact Rg.up_value)
     simp only [Act.put, List.setIfInBounds_toArray, List.set_cons_zero, List.set_cons_succ])
    (refine Rr.wr_y (by simp only [List.getElem?_toArray, List.getElem?_cons_succ, List.getElem?_cons_zero]; rfl) (by rfl) ?_
     apply Exists.intro
     refine ⟨fun wz hw _ => ?_, ?_⟩
     · have hcz := hw.cells.1
       go_simp
       (with_reducible exact Rg.up_value)
     simp only [Act.put, List.setIfInBounds_toArray, List.set_cons_zero, List.set_cons_succ])
    (refine Rr.wr_y (by simp only [List.getElem?_toArray, List.getElem?_cons_succ, List.getElem?_cons_zero]; rfl) (by rfl) ?_
     apply Exists.intro
     refine ⟨fun wz hw _ => ?_, ?_⟩
     · have hcz := hw.cells.1
       go_simp
       apply Rg.up_enter
       (with_reducible refine (hPer2.out _ hw).mono ?_)
       rintro e w3 ⟨rfl, hb3⟩
       exact ⟨rfl, hb3⟩
     simp only [Act.put, List.setIfInBounds_toArray, List.set_cons_zero, List.set_cons_succ])
    refine Rr.wr_nil ?_
    intro wy hy hh
    clear hh
    simp only [List.length_cons, List.length_nil, List.drop_succ_cons, List.drop_zero, Nat.reduceAdd]
    go_wp2_with (refine wpList_store rfl (.tmp 71) (.tmp 72) (.tmp 75) 54 rfl 66 3 keQ under54 b _ (by rfl) (KM.out.ext hy) ⟨who, text⟩ (by rfl) HQ.out (.int .i64 per) (by rfl) ?_; intro w3 hm3 hg3)
    go_ret
    rw [put_new HM.out, HPE.out] at hm3
    have hrow3 : w3.heap[p]? = some (.cells ((r.asked ⟨who, text⟩ t).cells (some b)) 56) := (hg3.block p (Nat.lt_of_lt_of_le l1 hy.size) (fun e => KBP.out (by injection e with e; exact e.symm))).trans ((hy.block _ l1).trans KV.out)
    refine ⟨rfl, some b, ⟨HH.out.at_, hrow3, ⟨KBB.out, hm3⟩, ⟨HH.out.ok.least, HH.out.ok.every, HT.out, ?_, ?_⟩⟩, KB.out.2 _ ((KK.out.trans (KW.of_ext hy)).grown hg3), by first | exact KB.out.1 | exact .inl rfl⟩
    · intro x hx
      rcases List.mem_append.1 hx with hx | hx
      · exact HH.out.ok.per x hx
      · rw [List.mem_singleton] at hx
        subst hx
        exact perF_ok HT.out
    · have := HN.out
      simp [Rl.asked]
      omega
  | some b =>
    go_upto_region 16 with (fail)
    have hV : ((((W.drewN nq).setCell ⟨p, 3, none⟩ (.int .i64 t)).setCell ⟨p, 4, none⟩ (.bool true))).heap[p]? = some (.cells (({ r with last := t, timed := true } : Rl).cells (some b)) 56) := by
      have h1 := heap_setCell_row (o := 3) (.int .i64 t) (show (W.drewN nq).heap[p]? = _ from HRP.out)
      have h2 := heap_setCell_row (o := 4) (.bool true) h1
      exact h2
    have hK : KW p (some b) w ((((W.drewN nq).setCell ⟨p, 3, none⟩ (.int .i64 t)).setCell ⟨p, 4, none⟩ (.bool true))) := ((KW.of_ext (HX.out.drewN nq)).setCell _).setCell _
    have hMb := HMP.out.2
    have hbp : b ≠ p := by
      rintro rfl
      obtain ⟨-, -, es, ck, hb, -⟩ := hMb
      rw [HRP.out] at hb
      cases hb
    have hMV : MP encQ OkQ ((((W.drewN nq).setCell ⟨p, 3, none⟩ (.int .i64 t)).setCell ⟨p, 4, none⟩ (.bool true))) b (mapL r.l) := hMb.of_block (by rw [heap_setCell_other _ hbp, heap_setCell_other _ hbp]; rfl)
    have h9V : ((((W.drewN nq).setCell ⟨p, 3, none⟩ (.int .i64 t)).setCell ⟨p, 4, none⟩ (.bool true))).heap[p9]? = some (.cells #[.int .i64 who, .string text] 66) := by rw [heap_setCell_other _ (Ne.symm hpne), heap_setCell_other _ (Ne.symm hpne)]; exact HR9.out
    have hBb : B ≤ b := HMP.out.1
    have hmb : ((some b : Option Nat) = some b ∨ ∃ b', some b = some b' ∧ w.heap.size ≤ b') ∧ ∀ w3, KW p (some b) w w3 → KW p (some b) w w3 := ⟨.inl rfl, fun _ h => h⟩
    generalize (((W.drewN nq).setCell ⟨p, 3, none⟩ (.int .i64 t)).setCell ⟨p, 4, none⟩ (.bool true)) = V at *
    have hb9 : b ≠ p9 := by
      rintro rfl
      obtain ⟨-, -, es, ck, hb, -⟩ := hMV
      rw [h9V] at hb
      cases hb
    have hPer := Lib.hid (fun wz (hw : Ext V wz) => period_any p (some b) _ t wz ((hw.block _ (Rg.lt_of_heap hV)).trans hV) HH.out.ok.every HT.out)
    obtain ⟨per, hper⟩ : ∃ per, per = perF r.every t := ⟨_, rfl⟩
    have hPer2 : Hid (∀ wz, Ext V wz → Calls Try.prog 27 #[.pointer (some ⟨p, 0, none⟩), .int .i64 t] wz fun e w' => e = .returned (.int .i64 per) ∧ Ext wz w') := Lib.hid (fun wz hw => (hPer.out wz hw).mono fun _ _ ⟨a, b⟩ => ⟨by rw [a, hper], b ▸ Ext.refl _⟩)
    have HPE := Lib.hid hper
    obtain ⟨-, -, d2, -, -, -⟩ := Rl.cells_at hV
    have d8 : V.cell? ⟨p9, 0, none⟩ = some (.int .i64 who) := cell_of_row _ _ 0 _ _ _ h9V
    have d9 : V.cell? ⟨p9, 1, none⟩ = some (.string text) := cell_of_row _ _ 1 _ _ _ h9V
    have l1 := Rg.lt_of_heap hV
    have l9 := Rg.lt_of_heap h9V
    have KV := Lib.hid hV; have KM := Lib.hid hMV; have KK := Lib.hid hK; have KB := Lib.hid hmb; have KBB := Lib.hid hBb; have KBP := Lib.hid hbp
    clear hV hMV hK hmb hBb hbp h9V hPer hper c2 c3 c4 c5 q0 q1 f2 f3 f4 hpl hLen hmm qT
    refine Rr.wp_region [(0, .y), (1, .y), (2, .y), (3, .y), (4, .y), (5, .y), (6, .y), (7, .y)] (fun _ => (.cells #[] 29, Rg.ptr)) (by kernel_rfl) (by kernel_rfl) ?_
    (refine Rr.wr_y (by simp only [List.getElem?_toArray, List.getElem?_cons_succ, List.getElem?_cons_zero]; rfl) (by rfl) ?_
     apply Exists.intro
     refine ⟨fun wz hw _ => ?_, ?_⟩
     · have hcz := hw.cells.1
       go_simp
       (with_reducible exact Rg.up_value)
     simp only [Act.put, List.setIfInBounds_toArray, List.set_cons_zero, List.set_cons_succ])
    (refine Rr.wr_y (by simp only [List.getElem?_toArray, List.getElem?_cons_succ, List.getElem?_cons_zero]; rfl) (by rfl) ?_
     apply Exists.intro
     refine ⟨fun wz hw _ => ?_, ?_⟩
     · have hcz := hw.cells.1
       go_simp
       (with_reducible exact Rg.up_value)
     simp only [Act.put, List.setIfInBounds_toArray, List.set_cons_zero, List.set_cons_succ])
    (refine Rr.wr_y (by simp only [List.getElem?_toArray, List.getElem?_cons_succ, List.getElem?_cons_zero]; rfl) (by rfl) ?_
     apply Exists.intro
     refine ⟨fun wz hw _ => ?_, ?_⟩
     · have hcz := hw.cells.1
       go_simp
       (with_reducible exact Rg.up_value)
     simp only [Act.put, List.setIfInBounds_toArray, List.set_cons_zero, List.set_cons_succ])
    (refine Rr.wr_y (by simp only [List.getElem?_toArray, List.getElem?_cons_succ, List.getElem?_cons_zero]; rfl) (by rfl) ?_
     apply Exists.intro
     refine ⟨fun wz hw _ => ?_, ?_⟩
     · have hcz := hw.cells.1
       go_simp
       (with_reducible exact Rg.up_value)
     simp only [Act.put, List.setIfInBounds_toArray, List.set_cons_zero, List.set_cons_succ])
    (refine Rr.wr_y (by simp only [List.getElem?_toArray, List.getElem?_cons_succ, List.getElem?_cons_zero]; rfl) (by rfl) ?_
     apply Exists.intro
     refine ⟨fun wz hw _ => ?_, ?_⟩
     · have hcz := hw.cells.1
       go_simp
       (with_reducible exact Rg.up_value)
     simp only [Act.put, List.setIfInBounds_toArray, List.set_cons_zero, List.set_cons_succ])
    (refine Rr.wr_y (by simp only [List.getElem?_toArray, List.getElem?_cons_succ, List.getElem?_cons_zero]; rfl) (by rfl) ?_
     apply Exists.intro
     refine ⟨fun wz hw _ => ?_, ?_⟩
     · have hcz := hw.cells.1
       go_simp
       (with_reducible exact Rg.up_value)
     simp only [Act.put, List.setIfInBounds_toArray, List.set_cons_zero, List.set_cons_succ])
    (refine Rr.wr_y (by simp only [List.getElem?_toArray, List.getElem?_cons_succ, List.getElem?_cons_zero]; rfl) (by rfl) ?_
     apply Exists.intro
     refine ⟨fun wz hw _ => ?_, ?_⟩
     · have hcz := hw.cells.1
       go_simp
       (with_reducible exact Rg.up_value)
     simp only [Act.put, List.setIfInBounds_toArray, List.set_cons_zero, List.set_cons_succ])
    (refine Rr.wr_y (by simp only [List.getElem?_toArray, List.getElem?_cons_succ, List.getElem?_cons_zero]; rfl) (by rfl) ?_
     apply Exists.intro
     refine ⟨fun wz hw _ => ?_, ?_⟩
     · have hcz := hw.cells.1
       go_simp
       apply Rg.up_enter
       (with_reducible refine (hPer2.out _ hw).mono ?_)
       rintro e w3 ⟨rfl, hb3⟩
       exact ⟨rfl, hb3⟩
     simp only [Act.put, List.setIfInBounds_toArray, List.set_cons_zero, List.set_cons_succ])
    refine Rr.wr_nil ?_
    intro wy hy hh
    clear hh
    simp only [List.length_cons, List.length_nil, List.drop_succ_cons, List.drop_zero, Nat.reduceAdd]
    go_wp2_with (refine wpList_store rfl (.tmp 71) (.tmp 72) (.tmp 75) 54 rfl 66 3 keQ under54 b _ (by rfl) (KM.out.ext hy) ⟨who, text⟩ (by rfl) HQ.out (.int .i64 per) (by rfl) ?_; intro w3 hm3 hg3)
    go_ret
    rw [put_new HM.out, HPE.out] at hm3
    have hrow3 : w3.heap[p]? = some (.cells ((r.asked ⟨who, text⟩ t).cells (some b)) 56) := (hg3.block p (Nat.lt_of_lt_of_le l1 hy.size) (fun e => KBP.out (by injection e with e; exact e.symm))).trans ((hy.block _ l1).trans KV.out)
    refine ⟨rfl, some b, ⟨HH.out.at_, hrow3, ⟨KBB.out, hm3⟩, ⟨HH.out.ok.least, HH.out.ok.every, HT.out, ?_, ?_⟩⟩, KB.out.2 _ ((KK.out.trans (KW.of_ext hy)).grown hg3), by first | exact KB.out.1 | exact .inl rfl⟩
    · intro x hx
      rcases List.mem_append.1 hx with hx | hx
      · exact HH.out.ok.per x hx
      · rw [List.mem_singleton] at hx
        subst hx
        exact perF_ok HT.out
    · have := HN.out
      simp [Rl.asked]
      omega
end Go.Proofs.Ytbeoihjfjkbfhaa

namespace Go.Proofs.Ytbeoihjfjkbfhaa
set_option linter.unusedVariables false
set_option linter.unusedSimpArgs false
open Go.RowKit

section
variable {κ : Type} {enc : κ → Value} {good : κ → Prop} {w w' : World} {o : Option Nat} {r : Nat} {m left : List (κ × Value)}
/-- A map, or none, of the pairs m. -/
def MPO (enc : κ → Value) (good : κ → Prop) (w : World) (o : Option Nat) (m : List (κ × Value)) : Prop := match o with | none => m = [] | some b => MP enc good w b m
/-- A loop over a map, or over none. -/
def RGO (enc : κ → Value) (good : κ → Prop) (w : World) (o : Option Nat) (r : Nat) (m left : List (κ × Value)) : Prop := match o with | none => left = [] ∧ w.heap[r]? = some (.mapIter none 0 #[] 0) | some b => RG enc good w b r m left
theorem RGO.lt (h : RGO enc good w o r m left) : r < w.heap.size := by
  cases o with
  | none => exact (Array.getElem?_eq_some_iff.1 h.2).1
  | some b => exact RG.lt h
theorem RGO.ext (h : RGO enc good w o r m left) (e : Ext w w') : RGO enc good w' o r m left := by
  cases o with
  | none => exact ⟨h.1, (e.block _ (Array.getElem?_eq_some_iff.1 h.2).1).trans h.2⟩
  | some b => exact RG.ext h e
theorem RGO.kept {row : Option Nat} (h : RGO enc good w o r m left) (x : w.grownBy w' row) (hb : ∀ b, o = some b → some b ≠ row) (hr : some r ≠ row) : RGO enc good w' o r m left := by
  cases o with
  | none => exact ⟨h.1, (x.block r (Array.getElem?_eq_some_iff.1 h.2).1 hr).trans h.2⟩
  | some b => exact RG.kept h x (hb b rfl) hr
variable {ops : Array Oper} {rest : List Oper} {op : Oper} {a : Act} {Q : Exit → Act → World → Prop} {P : Program}
theorem wpList_rangeO (hg : op.guard = none) (x : Operand) (t : TypeId) (hop : op.op = Op.range t x) (k e : TypeId) (ht : P.underlying t = some (.map k e)) (o : Option Nat) (l : List (κ × Value)) (hm : a.eval x = .map o) (h : MPO enc good w o l)
    (hK : ∀ w', RGO enc good w' o w.heap.size l l → Ext w w' → w'.heap.size = w.heap.size + 1 → wpList P ops Q rest (a.put op.dst (.pointer (some ⟨w.heap.size, 0, none⟩))) w') : wpList P ops Q (op :: rest) a w := by
  cases o with
  | none =>
    refine wpList_plain hg fun K' hK' => ?_
    have hrun := run_range_nilMap (P := P) w t k e ht
    unfold Oper.wp
    simp [execOp, hop, hm, hrun, Result.andThen]
    exact hK' _ _ (hK _ ⟨h, heap_alloc_new w _⟩ (Ext.alloc (Ext.refl _) _) (by simp))
  | some b => exact wpList_range hg x t hop k e ht b l hm h hK
theorem wpList_nextO (hg : op.guard = none) (it : Operand) (hop : op.op = Op.next it false) (o : Option Nat) (r : Nat) (l left : List (κ × Value)) (hit : a.eval it = .pointer (some ⟨r, 0, none⟩)) (h : RGO enc good w o r l left)
    (hDone : left = [] → wpList P ops Q rest (a.put op.dst (.tuple #[.bool false])) w)
    (hMore : ∀ b pre x v post w', o = some b → left = pre ++ (x, v) :: post → RGO enc good w' o r l (pre ++ post) → w.grownBy w' (some r) → w'.heap.size = w.heap.size → (Instr.entry (.pointer (some ⟨r, 0, none⟩))).run P w' = .ok (.tuple #[enc x, v]) w' → w'.rangeLeft b r < w.rangeLeft b r → wpList P ops Q rest (a.put op.dst (.tuple #[.bool true, enc x, v])) w') : wpList P ops Q (op :: rest) a w := by
  cases o with
  | none =>
    refine wpList_plain hg fun K' hK' => ?_
    have hrun : (Instr.next (.pointer (some ⟨r, 0, none⟩)) false op.type).run P w = .ok (.tuple #[.bool false]) w := by
      simp only [Instr.next, getObj, Sem.run_bind, Sem.run, h.2, Result.andThen]
      rfl
    unfold Oper.wp
    simp [execOp, hop, hit, hrun, Result.andThen]
    exact hK' _ _ (hDone h.1)
  | some b =>
    refine wpList_next hg it hop b r l left hit h hDone (fun pre x v post w' h1 h2 h3 h4 h5 => hMore b pre x v post w' rfl h1 h2 h3 h4 h5 ?_)
    rw [RG.left_eq h2, RG.left_eq h, h1]
    simp
/-- How many entries are still to come. -/
def leftO (w : World) (o : Option Nat) (r : Nat) : Nat := match o with | none => 0 | some b => w.rangeLeft b r
end
theorem leftO_eq {κ : Type} {enc : κ → Value} {good : κ → Prop} {w : World} {o : Option Nat} {r : Nat} {m left : List (κ × Value)} (h : RGO enc good w o r m left) : leftO w o r = left.length := by
  cases o with
  | none => rw [h.1]; rfl
  | some b => exact RG.left_eq h
theorem RGO.good {κ : Type} {enc : κ → Value} {good : κ → Prop} {w : World} {o : Option Nat} {r : Nat} {m left : List (κ × Value)} (h : RGO enc good w o r m left) : ∀ p ∈ left, good p.1 := by
  cases o with
  | none => rw [h.1]; simp
  | some b => exact fun p hp => h.1.gd p (h.2.1 p hp)
theorem MPO.nodup {κ : Type} {enc : κ → Value} {good : κ → Prop} {w : World} {o : Option Nat} {m : List (κ × Value)} (h : MPO enc good w o m) : (m.map (·.1)).Nodup := by
  cases o with
  | none => rw [show m = [] from h]; exact List.Pairwise.nil
  | some b => exact MP.nodup h
theorem RGO.sub {κ : Type} {enc : κ → Value} {good : κ → Prop} {w : World} {o : Option Nat} {r : Nat} {m left : List (κ × Value)} (h : RGO enc good w o r m left) : ∀ p ∈ left, p ∈ m := by
  cases o with
  | none => rw [h.1]; simp
  | some b => exact fun p hp => h.2.1 p hp
theorem RGO.iter {κ : Type} {enc : κ → Value} {good : κ → Prop} {w : World} {o : Option Nat} {r : Nat} {m left : List (κ × Value)} (h : RGO enc good w o r m left) : ∃ a s q c, w.heap[r]? = some (.mapIter a s q c) := by
  cases o with
  | none => exact ⟨_, _, _, _, h.2⟩
  | some b =>
    obtain ⟨-, -, es, clock, since, seen, c0, hb, hr, -⟩ := h
    exact ⟨_, _, _, _, hr⟩
theorem in_rest {α : Type} {pre post : List α} {x y : α} (h : y ∈ pre ++ x :: post) (hne : y ≠ x) : y ∈ pre ++ post := by
  rcases List.mem_append.1 h with h | h
  · exact List.mem_append_left _ h
  · rcases List.mem_cons.1 h with h | h
    · exact absurd h hne
    · exact List.mem_append_right _ h
theorem perm_mid {α β : Type} (f : α → β) (pre post : List α) (x : α) (acc : List β) {t : List β} (h : (acc ++ (pre ++ x :: post).map f).Perm t) : ((acc ++ [f x]) ++ (pre ++ post).map f).Perm t := by
  refine List.Perm.trans ?_ h
  rw [List.append_assoc]
  refine List.Perm.append_left acc ?_
  rw [List.map_append, List.map_append, List.map_cons]
  exact (List.perm_middle (a := f x) (l₁ := pre.map f) (l₂ := post.map f)).symm
end Go.Proofs.Ytbeoihjfjkbfhaa

namespace Go.Proofs.Ytbeoihjfjkbfhaa
set_option linter.unusedVariables false
set_option linter.unusedSimpArgs false
open Go.RowKit
/-- The function f with cap answers due. -/
structure DueF (f : Nat) (cap : Array Value) (due : Int → Bool) (w : World) : Prop where
  ent : ∀ args w, (callFunc f args).run Try.prog w = .ok (.enter f args) w
  run : ∀ z wz, Ext w wz → Calls Try.prog f (#[.int .i64 z] ++ cap) wz fun e w' => e = .returned (.bool (due z)) ∧ Ext wz w'
theorem DueF.ext {f : Nat} {cap : Array Value} {due : Int → Bool} {w w' : World} (h : DueF f cap due w) (x : Ext w w') : DueF f cap due w' := ⟨h.ent, fun z wz hz => h.run z wz (x.trans hz)⟩
theorem due_all (w : World) : DueF 32 #[] (fun _ => true) w := by
  refine ⟨enters_of Try.func32 (by kernel_rfl) rfl, fun z wz hz => ?_⟩
  change Calls Try.prog 32 #[.int .i64 z] wz _
  go_enter Try.func32, Try.ntmps32
  go_wp2
  go_ret
  exact ⟨rfl, Ext.refl _⟩
theorem due_before (c : Nat) (now : Int) (w : World) (hc : w.cell? ⟨c, 0, none⟩ = some (.int .i64 now)) : DueF 29 #[.pointer (some ⟨c, 0, none⟩)] (fun z => decide (z < now)) w := by
  refine ⟨enters_of Try.func29 (by kernel_rfl) rfl, fun z wz hz => ?_⟩
  change Calls Try.prog 29 #[.int .i64 z, .pointer (some ⟨c, 0, none⟩)] wz _
  have c0 := (hz.cells.1 _ _ (World.block_lt_of_cell? w _ hc)).trans hc
  clear hc hz
  go_enter Try.func29, Try.ntmps29
  go_wp2
  go_ret
  exact ⟨rfl, Ext.refl _⟩
theorem give1_any {f : Nat} {cap : Array Value} {due : Int → Bool} {w : World} (h : DueF f cap due w) (bx : Nat) (hb : w.cell? ⟨bx, 0, none⟩ = some (.func (.func f) #[] cap)) (q : Qn) (z : Int) (wz : World) (hz : Ext w wz) :
    Calls Try.prog 35 #[.agg #[.int .i64 q.who, .string q.text], .int .i64 z, .pointer (some ⟨bx, 0, none⟩)] wz fun e w' => e = .returned (.bool (due z)) ∧ Ext wz w' := by
  have hbl := World.block_lt_of_cell? w _ hb
  have hx1 := Ext.alloc (Ext.refl wz) (.cells #[.int .i64 q.who, .string q.text] 66)
  have c0 := ((hz.trans hx1).cells.1 _ _ hbl).trans hb
  have hR := h.run z _ (hz.trans hx1)
  have hE := h.ent
  clear hb h hz
  go_enter Try.func35, Try.ntmps35
  go_wp2_with (with_reducible refine hR.mono ?_; rintro e' w1 ⟨rfl, hx2⟩)
  go_ret
  exact ⟨rfl, hx1.trans hx2⟩
end Go.Proofs.Ytbeoihjfjkbfhaa

namespace Go.Proofs.Ytbeoihjfjkbfhaa
set_option linter.unusedVariables false
set_option linter.unusedSimpArgs false
open Go.RowKit
def dueV (due : Int → Bool) (p : Qn × Value) : Bool := match p.2 with
  | .int _ z => due z
  | _ => false
theorem mapL_due (due : Int → Bool) (l : List (Qn × Int)) : ((mapL l).filter (dueV due)).map (·.1) = (l.filter fun p => due p.2).map (·.1) := by
  unfold mapL
  rw [List.filter_map, List.map_map]
  rfl
theorem tk_step {due : Int → Bool} {pre post : List (Qn × Value)} {x : Qn} {v : Value} {out t : List Qn} (h : (out ++ ((pre ++ (x, v) :: post).filter (dueV due)).map (·.1)).Perm t) :
    ((if dueV due (x, v) = true then out ++ [x] else out) ++ ((pre ++ post).filter (dueV due)).map (·.1)).Perm t := by
  rw [List.filter_append, List.filter_cons] at h
  by_cases hd : dueV due (x, v) = true
  · rw [if_pos hd] at h ⊢
    have := perm_mid (fun p : Qn × Value => p.1) _ _ _ _ h
    rw [List.filter_append]
    exact this
  · rw [if_neg hd] at h ⊢
    rw [List.filter_append]
    exact h
theorem fst_inj {α β : Type} : ∀ {l : List (α × β)}, (l.map (·.1)).Nodup → ∀ {p q : α × β}, p ∈ l → q ∈ l → p.1 = q.1 → p = q
  | [], _, p, q, hp, _, _ => by cases hp
  | x :: l, hn, p, q, hp, hq, he => by
    simp only [List.map_cons, List.nodup_cons] at hn
    rcases List.mem_cons.1 hp with hp1 | hp2
    · rcases List.mem_cons.1 hq with hq1 | hq2
      · rw [hp1, hq1]
      · exact absurd (List.mem_map.2 ⟨q, hq2, by rw [← he, hp1]⟩) hn.1
    · rcases List.mem_cons.1 hq with hq1 | hq2
      · exact absurd (List.mem_map.2 ⟨p, hp2, by rw [he, hq1]⟩) hn.1
      · exact fst_inj hn.2 hp2 hq2 he
theorem append_q {ops : Array Oper} {rest : List Oper} {o : Oper} {a : Act} {Q : Exit → Act → World → Prop} {w : World} (hgd : o.guard = none) (s x : Operand)
    (ho : o.op = .call { callee := .builtin .append, args := #[s, x], argTypes := #[71, 71] }) (B : Nat) (v : Value) (zs : List Qn) (hs : a.eval s = v) (hF : w.ownsRow B 66 2 v zs.length (zs.flatMap Qn.cs))
    (p : Nat) (i : Qn) (hx : a.eval x = .slice (some ⟨p, 0, none⟩) 1 1) (hp : w.heap[p]? = some (.cells #[.int .i64 i.who, .string i.text] 66)) (hn : zs.length < 1000000) (hB : B ≤ w.heap.size)
    (h : ∀ g cap w', w'.ownsRow B 66 2 (.slice (some ⟨g, 0, none⟩) (zs.length + 1) cap) (zs ++ [i]).length ((zs ++ [i]).flatMap Qn.cs) → Below B w w' → wpList Try.prog ops Q rest (a.put o.dst (.slice (some ⟨g, 0, none⟩) (zs.length + 1) cap)) w') : wpList Try.prog ops Q (o :: rest) a w :=
  append_one (cs := Qn.cs) (z := .agg #[.int .i64 0, .string ⟨#[]⟩]) (fun _ => ⟨rfl, by simp [Qn.cs, Value.oneCell']⟩) 71 66 24 Try.underlying71 (by kernel_rfl) (by rfl) (by decide) (by decide) hgd s x ho B v zs hs hF p i hx hp hn hB h
set_option maxRecDepth 100000 in
set_option maxHeartbeats 4000000 in
theorem take_any (b bx f : Nat) (cap : Array Value) (due : Int → Bool) (m : List (Qn × Int)) (w : World) (hm : MP encQ OkQ w b (mapL m)) (hf : DueF f cap due w) (hbx : w.cell? ⟨bx, 0, none⟩ = some (.func (.func f) #[] cap)) (hlen : m.length ≤ 1000) :
    Calls Try.prog 34 #[.map (some b), .func (.func 35) #[] #[.pointer (some ⟨bx, 0, none⟩)]] w fun e w' => ∃ v out, e = .returned v ∧ SR Qn.cs 2 w' v out ∧ out.Perm ((m.filter (fun p => due p.2)).map (·.1)) ∧ MP encQ OkQ w' b (mapL (m.filter (fun p => !due p.2))) ∧ w.grownBy w' (some b) := by
  have HF := Lib.hid hf; have HBX := Lib.hid hbx; have HM0 := Lib.hid hm
  have HL := Lib.hid hlen
  have hE : ∀ args w, (callFunc 35 args).run Try.prog w = .ok (.enter 35 args) w := enters_of Try.func35 (by kernel_rfl) rfl
  clear hf hbx hlen
  go_enter Try.func34, Try.ntmps34
  go_upto_region 3 with (refine wpList_range rfl _ 54 rfl 66 3 under54 b (mapL m) (by rfl) hm ?_; intro w1 hrg hx1 hs1)
  go_frame
  clear hm
  obtain ⟨r, hr⟩ : ∃ r, r = w.heap.size := ⟨_, rfl⟩
  rw [← hr] at hrg ⊢
  have HR := Lib.hid hr; have HX1 := Lib.hid hx1; have HS1 := Lib.hid hs1; have HG1 := Lib.hid hrg
  clear hr hx1 hs1 hrg
  have HST : Hid ((([] : List Qn) ++ ((mapL m).filter (dueV due)).map (fun p : Qn × Value => p.1)).Perm ((m.filter (fun p : Qn × Int => due p.2)).map (fun p : Qn × Int => p.1))) := Lib.hid (by rw [List.nil_append, mapL_due])
  go_loopw [5] (fun o wr => ∃ (out : List Qn) (left : List (Qn × Value)), RG encQ OkQ wr b r (mapL m) left ∧ wr.ownsRow w1.heap.size 66 2 o out.length (out.flatMap Qn.cs) ∧ Hid ((out ++ (left.filter (dueV due)).map (·.1)).Perm ((m.filter (fun p => due p.2)).map (·.1))) ∧ Hid (out.length + left.length ≤ m.length) ∧ Ext w wr) (fun _ wr => wr.rangeLeft b r)
  case atStart => exact ⟨[], mapL m, HG1.out, World.ownsRow_nil _ _ _ _, HST, Lib.hid (by simp [mapL_len]), HX1.out⟩
  case round =>
    obtain ⟨out, left, hrgr, hrow, HI, HN, hx⟩ := hrel
    go_upto_region 4 with (refine wpList_next rfl _ rfl b r (mapL m) left (by rfl) hrgr ?_ ?_)
    · intro hl
      subst hl
      have hp0 := HI.out
      simp only [List.filter_nil, List.map_nil, List.append_nil] at hp0
      have hon : out.length ≤ 1000000 := by have h8 := HN.out; have h9 := HL.out; rw [List.length_nil] at h8; omega
      have hsr := SR.of_row (cs := Qn.cs) (fun _ => rfl) hrow hon
      have hM1 := hrgr.1
      have HP0 := Lib.hid hp0; have HXW := Lib.hid hx
      have hok : ∀ q ∈ out, OkQ q := fun q hq => by
        obtain ⟨p, hp, rfl⟩ := List.mem_map.1 (hp0.mem_iff.1 hq)
        exact HM0.out.gd (p.1, .int .i64 p.2) (List.mem_map.2 ⟨p, (List.mem_filter.1 hp).1, rfl⟩)
      have HOK := Lib.hid hok
      have hstart : MP encQ OkQ wr b (mapL (m.filter fun p => decide (p.1 ∉ out.take 0))) := by
        rw [List.filter_eq_self.2 (by simp)]
        exact hM1
      have HSTA := Lib.hid hstart
      clear hrgr hrow hp0 hx hok hM1 hstart HI HN HG1
      obtain ⟨base, cp, rfl⟩ := hsr.form
      go_wp2_with (fail)
      go_loopw [27] (fun k wq => ∃ i : Nat, k = .int .i64 i ∧ i ≤ out.length ∧ Hid (MP encQ OkQ wq b (mapL (m.filter fun p => decide (p.1 ∉ out.take i)))) ∧ SR Qn.cs 2 wq (.slice base out.length cp) out ∧ Hid (wr.grownBy wq (some b))) (fun k _ => out.length - (iof k).toNat)
      case atStart => exact ⟨0, rfl, Nat.zero_le _, HSTA, hsr, Lib.hid ⟨rfl, rfl, rfl, Nat.le_refl _, fun _ _ _ => rfl⟩⟩
      case round =>
        rename_i wr0
        obtain ⟨i, rfl, hi, HMI, hsi, HGI⟩ := hrel
        by_cases hil : i < out.length
        · obtain ⟨b2, rfl, hbl, c0, c1⟩ := qn_at hsi i hil
          have hq := HOK.out out[i] (List.getElem_mem _)
          have hf2 : Hid ((mapL (m.filter fun p => decide (p.1 ∉ out.take i))).filter (fun p => decide (p.1 ≠ out[i])) = mapL (m.filter fun p => decide (p.1 ∉ out.take (i + 1)))) := Lib.hid (by
            unfold mapL
            rw [List.filter_map, List.filter_filter]
            congr 1
            apply List.filter_congr
            intro p _
            rw [List.take_succ_eq_append_getElem hil]
            simp only [Function.comp, List.mem_append, List.mem_singleton, not_or, Bool.decide_and, ne_eq]
            exact Bool.and_comm _ _)
          have hbb : b2 ≠ b := by
            rintro rfl
            obtain ⟨-, -, es, ck, hb, -⟩ := HMI.out
            simp [World.cell?, hb] at c0
          have HBB := Lib.hid hbb
          clear hbb
          generalize out[i] = q at *
          obtain ⟨qw, qt⟩ := q
          simp only at c0 c1
          go_upto_region 10 with (fail)
          have hxa : Ext wr (wr.alloc (.cells #[.int .i64 qw, .string qt] 66)) := Ext.alloc (Ext.refl _) _
          have HMA := Lib.hid (HMI.out.ext hxa)
          have hsa := hsi.ext hxa
          have hp6 : (wr.alloc (.cells #[.int .i64 qw, .string qt] 66)).heap[wr.heap.size]? = some (.cells #[.int .i64 qw, .string qt] 66) := alloc_at wr _
          obtain ⟨p6, hpe⟩ : ∃ p6, p6 = wr.heap.size := ⟨_, rfl⟩
          rw [← hpe] at hp6 ⊢
          generalize wr.alloc (.cells #[.int .i64 qw, .string qt] 66) = Wa at *
          have a0 : Wa.cell? ⟨p6, 0, none⟩ = some (.int .i64 qw) := cell_of_row _ _ 0 _ _ _ hp6
          have a1 : Wa.cell? ⟨p6, 1, none⟩ = some (.string qt) := cell_of_row _ _ 1 _ _ _ hp6
          have hpl := Rg.lt_of_heap hp6
          have HXA := Lib.hid hxa; have HSA := Lib.hid hsa
          clear hp6 hsi hsa c0 c1 hxa hpe
          go_wp2_with (refine wpList_delete _ rfl (.tmp 31) (.tmp 32) 54 66 rfl 66 3 keQ under54 b _ (by rfl) HMA.out ⟨qw, qt⟩ (by rfl) hq ?_; intro w4 hm4 hg4)
          rw [hf2.out] at hm4
          have hs4 : SR Qn.cs 2 w4 (.slice (some ⟨b2, 0, none⟩) out.length cp) out := by
            obtain ⟨base', cap', e1, e2, e3⟩ := HSA.out
            injection e1 with e4 e5 e6
            subst e4 e6
            refine ⟨_, _, rfl, e2, e3.imp id fun ⟨b', hb', hc'⟩ => ⟨b', hb', fun k hk j u hu => ?_⟩⟩
            injection hb' with hb'
            injection hb' with hb'
            subst hb'
            have h1 := hc' k hk j u hu
            rw [World.cell?_of_block (a := ⟨b2, k * 2 + j, none⟩) (hg4.block b2 (World.block_lt_of_cell? _ _ h1) (fun e => HBB.out (by injection e)))]
            exact h1
          exact ⟨⟨i + 1, by simp, by omega, Lib.hid hm4, hs4, Lib.hid (HGI.out.trans ((⟨HXA.out.os, HXA.out.tape, HXA.out.output, HXA.out.size, fun k hk _ => HXA.out.block k hk⟩ : wr.grownBy Wa (some b)).trans hg4))⟩, by simp [iof]; omega⟩
        · obtain rfl : i = out.length := by omega
          have hfin : (m.filter fun p => decide (p.1 ∉ out.take out.length)) = m.filter fun p => !due p.2 := by
            rw [List.take_length]
            apply List.filter_congr
            intro p hp
            have hnd := HM0.out.nodup
            rw [mapL_keys] at hnd
            have h1 : p.1 ∈ out ↔ due p.2 = true := by
              rw [HP0.out.mem_iff]
              constructor
              · intro h
                obtain ⟨p', hp', he⟩ := List.mem_map.1 h
                obtain ⟨h3, h4⟩ := List.mem_filter.1 hp'
                have := fst_inj hnd h3 hp he
                rw [← this]
                exact h4
              · intro h
                exact List.mem_map.2 ⟨p, List.mem_filter.2 ⟨hp, h⟩, rfl⟩
            cases hd : due p.2
            · simp [h1, hd]
            · simp [h1, hd]
          have hMf := HMI.out
          rw [hfin] at hMf
          have HMF := Lib.hid hMf
          clear hMf hfin HMI
          go_wp2_with (fail)
          go_ret
          have hgw : w.grownBy wr (some b) := (⟨HXW.out.os, HXW.out.tape, HXW.out.output, HXW.out.size, fun k hk _ => HXW.out.block k hk⟩ : w.grownBy _ (some b)).trans HGI.out
          exact ⟨_, out, rfl, hsi, HP0.out, HMF.out, hgw⟩
    · intro pre x v post w2 hl hrg2 hg2 hs2 hen
      subst hl
      have hvm : ∃ z, v = .int .i64 z := by
        obtain ⟨p, hp, he⟩ := List.mem_map.1 (hrgr.2.1 (x, v) (List.mem_append_right _ List.mem_cons_self))
        simp only [Prod.mk.injEq] at he
        exact ⟨p.2, he.2.symm⟩
      obtain ⟨z, rfl⟩ := hvm
      have hstep : Hid (((if due z = true then out ++ [x] else out) ++ ((pre ++ post).filter (dueV due)).map (fun p : Qn × Value => p.1)).Perm ((m.filter (fun p : Qn × Int => due p.2)).map (fun p : Qn × Int => p.1))) := Lib.hid (tk_step (due := due) HI.out)
      have hn2 : out.length + (pre ++ post).length + 1 ≤ m.length := by
        have := HN.out
        simp only [List.length_append, List.length_cons] at this ⊢
        omega
      have HLE := Lib.hid (hrgr.left_eq)
      have hrow2 := World.ownsRow.kept hrow hg2 (by
        cases ho : u5.ownBlock with
        | none => exact .inl rfl
        | some g => have := (hrow.lt g ho).1; have := HS1.out; have := HR.out; exact .inr (by simp; omega))
      have hx2 : Ext w w2 := Below.trans hx ⟨hg2.os, hg2.tape, hg2.output, hg2.size, fun k hk => hg2.block k (by have := hx.size; omega) (by have := HR.out; simp; omega)⟩
      have hms : w2.rangeLeft b r < wr.rangeLeft b r := by
        rw [HLE.out, hrg2.left_eq]
        simp
      have HMS := Lib.hid hms; have HN2 := Lib.hid hn2
      clear hrgr hx hrow HI hms hn2
      have hsz2 : w1.heap.size ≤ w2.heap.size := by have := hrg2.lt; have := HS1.out; have := HR.out; omega
      have HSZ := Lib.hid hsz2
      have hG1 := Lib.hid (fun wz (hz : Ext w wz) => give1_any HF.out bx HBX.out x z wz hz)
      obtain ⟨xw, xt⟩ := x
      simp only at hG1
      unfold encQ at hen
      simp only at hen
      clear hs2
      go_upto_region 5 with (fail)
      have hxa : Ext w2 (w2.alloc (.cells #[.int .i64 xw, .string xt] 66)) := Ext.alloc (Ext.refl _) _
      have hp6 : (w2.alloc (.cells #[.int .i64 xw, .string xt] 66)).heap[w2.heap.size]? = some (.cells #[.int .i64 xw, .string xt] 66) := alloc_at w2 _
      obtain ⟨p6, hpe⟩ : ∃ p6, p6 = w2.heap.size := ⟨_, rfl⟩
      rw [← hpe] at hp6 ⊢
      generalize w2.alloc (.cells #[.int .i64 xw, .string xt] 66) = Wa at *
      have a0 : Wa.cell? ⟨p6, 0, none⟩ = some (.int .i64 xw) := cell_of_row _ _ 0 _ _ _ hp6
      have a1 : Wa.cell? ⟨p6, 1, none⟩ = some (.string xt) := cell_of_row _ _ 1 _ _ _ hp6
      have hpl := Rg.lt_of_heap hp6
      have HP6 := Lib.hid hp6; have HXA := Lib.hid hxa; have HX2 := Lib.hid hx2; have HG2 := Lib.hid hrg2; have HRW := Lib.hid hrow2; have HHM := Lib.hid hg2
      have hGz := hG1.out Wa (hx2.trans hxa)
      clear hp6 hxa hx2 hrg2 hrow2 hpe hen hg2 hsz2
      cases hd : due z with
      | true =>
        rw [hd] at hGz
        rw [hd, if_pos rfl] at hstep
        clear hd
        go_upto_region 6 with (go_at_call 35; (with_reducible refine hGz.mono ?_); rintro e w3 ⟨rfl, hx3⟩)
        have b0 := (hx3.cells.1 _ _ hpl).trans a0
        have b1 := (hx3.cells.1 _ _ hpl).trans a1
        have hpl3 : p6 < w3.heap.size := Nat.lt_of_lt_of_le hpl hx3.size
        have HX3 := Lib.hid hx3
        clear hx3 a0 a1 hpl hGz
        go_wp2_with (refine append_q rfl (.tmp 21) (.tmp 23) rfl w1.heap.size _ out rfl (row_ext HRW.out (HXA.out.trans (HX3.out.trans (Ext.alloc (Ext.refl _) _)))) w3.heap.size ⟨xw, xt⟩ (by rfl) (alloc_at w3 _) (by have := HN2.out; have := HL.out; omega) (by have := HSZ.out; have := HXA.out.size; have := HX3.out.size; simp; omega) ?_; intro g cap' w4 hr4 hb4)
        have hx4 : Ext w2 (w3.alloc (.cells #[.int .i64 xw, .string xt] 66)) := HXA.out.trans (HX3.out.trans (Ext.alloc (Ext.refl _) _))
        have hrg4 : RG encQ OkQ w4 b r (mapL m) (pre ++ post) := (HG2.out.ext hx4).of_blocks (hb4.block _ (by have := HG1.out.1.lt; omega)) (hb4.block _ (by have := HG1.out.lt; omega))
        refine ⟨⟨out ++ [⟨xw, xt⟩], pre ++ post, hrg4, by simpa using hr4, hstep, Lib.hid (by have := HN2.out; simp at this ⊢; omega), Below.trans (HX2.out.trans hx4) ⟨hb4.os, hb4.tape, hb4.output, hb4.size, fun k hk => hb4.block k (by have := HS1.out; omega)⟩⟩, ?_⟩
        rw [hrg4.left_eq, ← HG2.out.left_eq]
        exact HMS.out
      | false =>
        rw [hd] at hGz
        rw [hd, if_neg (by simp)] at hstep
        clear hd
        go_wp2_with (go_at_call 35; (with_reducible refine hGz.mono ?_); rintro e w3 ⟨rfl, hx3⟩)
        have hrg3 := HG2.out.ext (HXA.out.trans hx3)
        refine ⟨⟨out, pre ++ post, hrg3, row_ext HRW.out (HXA.out.trans hx3), hstep, Lib.hid (by have := HN2.out; simp at this ⊢; omega), HX2.out.trans (HXA.out.trans hx3)⟩, ?_⟩
        rw [hrg3.left_eq, ← HG2.out.left_eq]
        exact HMS.out
end Go.Proofs.Ytbeoihjfjkbfhaa

namespace Go.Proofs.Ytbeoihjfjkbfhaa
set_option linter.unusedVariables false
set_option linter.unusedSimpArgs false
open Go.RowKit
/-- A list without what comes again. -/
def dis : List Int → List Int
  | [] => []
  | x :: l => if x ∈ l then dis l else x :: dis l
theorem mem_dis {x : Int} : ∀ {l : List Int}, x ∈ dis l ↔ x ∈ l
  | [] => Iff.rfl
  | y :: l => by
    unfold dis
    by_cases h : y ∈ l
    · rw [if_pos h, mem_dis]
      constructor
      · exact fun h => List.mem_cons_of_mem _ h
      · intro h2
        rcases List.mem_cons.1 h2 with rfl | h2
        · exact h
        · exact h2
    · rw [if_neg h, List.mem_cons, List.mem_cons, mem_dis]
theorem nodup_dis : ∀ l : List Int, (dis l).Nodup
  | [] => List.Pairwise.nil
  | y :: l => by
    unfold dis
    by_cases h : y ∈ l
    · rw [if_pos h]; exact nodup_dis l
    · rw [if_neg h]; exact List.nodup_cons.2 ⟨fun h2 => h (mem_dis.1 h2), nodup_dis l⟩
theorem nodup_le {α : Type} [DecidableEq α] : ∀ {l m : List α}, l.Nodup → (∀ x ∈ l, x ∈ m) → l.length ≤ m.length
  | [], _, _, _ => Nat.zero_le _
  | x :: l, m, hn, hs => by
    have hx := hs x List.mem_cons_self
    rw [List.nodup_cons] at hn
    have := nodup_le (m := m.erase x) hn.2 (fun y hy => (List.mem_erase_of_ne (fun e => hn.1 (by rw [← e]; exact hy))).2 (hs y (List.mem_cons_of_mem _ hy)))
    rw [List.length_erase_of_mem hx] at this
    have := List.length_pos_of_mem hx
    simp only [List.length_cons]
    omega
theorem len_dis {k l : List Int} (hk : k.Nodup) (h : ∀ x, x ∈ k ↔ x ∈ l) : k.length = (dis l).length :=
  Nat.le_antisymm (nodup_le hk fun x hx => mem_dis.2 ((h x).1 hx)) (nodup_le (nodup_dis l) fun x hx => (h x).2 (mem_dis.1 hx))
def dueL (r : Rl) (due : Int → Bool) : List (Qn × Int) := r.l.filter fun p => due p.2
def whos (l : List (Qn × Int)) : List Int := l.map fun p => p.1.who
def texts (l : List (Qn × Int)) : List ByteArray := l.map fun p => p.1.text
open Classical in
/-- The batch that is given out, if there is one, and the relay then. -/
noncomputable def giveF (r : Rl) (due : Int → Bool) : Option (List ByteArray) × Rl :=
  if ((dis (whos (dueL r due))).length : Int) < max r.least 1 then (none, r) else (some (srtT (texts (dueL r due))), { r with l := r.l.filter fun p => !due p.2 })
/-- A batch in memory, all of it from n on. -/
def BatR (n : Nat) (w : World) (v : Value) : Option (List ByteArray) → Prop
  | none => v = .slice none 0 0
  | some ts => ∃ g u, v = .slice (some ⟨g, 0, none⟩) 1 1 ∧ n ≤ g ∧ w.heap[g]? = some (.cells #[u] 38) ∧ w.ownsRow n 9 1 u ts.length (ts.flatMap celS)
theorem BatR.ext {n : Nat} {w w' : World} {v : Value} {o : Option (List ByteArray)} (h : BatR n w v o) (x : Ext w w') : BatR n w' v o := by
  cases o with
  | none => exact h
  | some ts =>
    obtain ⟨g, u, h1, h2, h3, h4⟩ := h
    exact ⟨g, u, h1, h2, (x.block _ (Rg.lt_of_heap h3)).trans h3, row_ext h4 x⟩
/-- The set of askers while the loop runs. -/
theorem who_step {due : Int → Bool} {pre post : List (Qn × Value)} {x : Qn} {v : Value} {ks ws : List Int} (h : ∀ k, (k ∈ ks ∨ k ∈ ((pre ++ (x, v) :: post).filter (dueV due)).map (fun p => p.1.who)) ↔ k ∈ ws) :
    ∀ k, ((if dueV due (x, v) = true then k = x.who ∨ k ∈ ks else k ∈ ks) ∨ k ∈ ((pre ++ post).filter (dueV due)).map (fun p => p.1.who)) ↔ k ∈ ws := by
  intro k
  rw [← h k]
  simp only [List.filter_append, List.filter_cons, List.map_append, List.mem_append]
  by_cases hd : dueV due (x, v) = true
  · simp only [hd, if_true, List.map_cons, List.mem_cons]
    constructor
    · rintro ((rfl | h) | h | h)
      · exact .inr (.inr (.inl rfl))
      · exact .inl h
      · exact .inr (.inl h)
      · exact .inr (.inr (.inr h))
    · rintro (h | h | rfl | h)
      · exact .inl (.inr h)
      · exact .inr (.inl h)
      · exact .inl (.inl rfl)
      · exact .inr (.inr h)
  · simp only [hd, if_false, Bool.false_eq_true]
theorem mapL_whos (due : Int → Bool) (l : List (Qn × Int)) : ((mapL l).filter (dueV due)).map (fun p => p.1.who) = whos (l.filter fun p => due p.2) := by
  unfold mapL whos
  rw [List.filter_map, List.map_map]
  rfl
end Go.Proofs.Ytbeoihjfjkbfhaa
