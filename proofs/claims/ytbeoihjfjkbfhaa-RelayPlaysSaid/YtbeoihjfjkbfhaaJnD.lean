/-
  Joined: the lemmas of this claim that other texts of it use, part 4. Nothing is asked.
-/
import Derived.Test.YtbeoihjfjkbfhaaJnC
import Derived.Lib.BytesEntry
import Derived.Sort.LotA
import Derived.StillTail
import Derived.Sort.Grow
import Derived.Shelf.Strconv.Clone
import Derived.DeepKeys4
import Derived.LoopTactic
import Derived.Deep.CutBlock
namespace Go.Proofs.Ytbeoihjfjkbfhaa
set_option linter.unusedVariables false
set_option linter.unusedSimpArgs false
open Go.RowKit Go.Sort
/-- The first that is not 0. -/
def orF (l : List Int) : Int := (l.find? fun z => decide (z ≠ 0)).getD 0
theorem or_any (v : Value) (l : List Int) (w : World) (hl : IRd w v l) : Calls Try.prog 41 #[v] w fun e w' => e = .returned (.int .i64 (orF l)) ∧ w' = w := by
  obtain ⟨A, c, rfl, hlen, -, hcell⟩ := hl
  go_enter Try.func41, Try.ntmps41
  go_wp2_with (fail)
  go_loopw [8] (fun k wr => ∃ i : Nat, k = .int .i64 i ∧ i ≤ l.length ∧ Hid (orF l = orF (l.drop i)) ∧ w = wr) (fun k _ => l.length - (iof k).toNat)
  case atStart => exact ⟨0, rfl, Nat.zero_le _, Lib.hid rfl, rfl⟩
  case round =>
    obtain ⟨i, rfl, hi, HI, rfl⟩ := hrel
    by_cases hil : i < l.length
    · obtain ⟨b, off, rfl, hc⟩ := hcell.resolve_left (by intro e; rw [e] at hil; simp at hil)
      have c0 := hc i hil
      have Hs : Hid (orF (l.drop i) = if l[i] = 0 then orF (l.drop (i + 1)) else l[i]) := Lib.hid (by
        unfold orF
        rw [List.drop_eq_getElem_cons hil, List.find?_cons]
        by_cases e : l[i] = 0
        · rw [e]; simp
        · simp [e])
      clear hc
      generalize l[i] = z at *
      by_cases hz : z = 0
      · subst hz
        go_wp2_with (fail)
        exact ⟨⟨i + 1, by simp, by omega, Lib.hid (by rw [HI.out, Hs.out, if_pos rfl]), by simp⟩, by simp [iof]; omega⟩
      · have HZ := Lib.hid hz
        go_wp2_with (fail)
        go_ret
        exact ⟨by rw [HI.out, Hs.out, if_neg HZ.out]; rfl, rfl⟩
    · obtain rfl : i = l.length := by omega
      go_wp2_with (fail)
      go_ret
      exact ⟨by rw [HI.out, List.drop_length]; rfl, rfl⟩

/-- A comparison that is a total order. -/
structure GC {α : Type} (c : α → α → Int) : Prop where
  anti : ∀ x y, c y x = - c x y
  eq : ∀ x y, c x y = 0 → x = y
  tr : ∀ x y z, c x y < 0 → c y z < 0 → c x z < 0
theorem GC.self {α : Type} {c : α → α → Int} (h : GC c) (x : α) : c x x = 0 := by have := h.anti x x; omega
theorem GC.swo {α : Type} {c : α → α → Int} (h : GC c) : SWO (ltOf c) where
  irrefl x := by simp [ltOf, h.self]
  trans x y z h1 h2 := by simp only [ltOf, decide_eq_true_eq] at *; exact h.tr x y z h1 h2
  ntrans x y z h1 h2 := by
    simp only [ltOf, decide_eq_false_iff_not] at *
    intro h3
    by_cases e : c x y = 0
    · obtain rfl := h.eq _ _ e
      exact h2 h3
    · have h4 : c y x < 0 := by have := h.anti x y; omega
      exact h2 (h.tr y x z h4 h3)
theorem GC.total {α : Type} {c : α → α → Int} (h : GC c) (x y : α) (h1 : ltOf c x y = false) (h2 : ltOf c y x = false) : x = y := by
  simp only [ltOf, decide_eq_false_iff_not] at *
  have := h.anti x y
  exact h.eq x y (by omega)
def lexC {α β : Type} (c : α → α → Int) (d : β → β → Int) : α × β → α × β → Int := fun x y => if c x.1 y.1 = 0 then d x.2 y.2 else c x.1 y.1
theorem GC.lex {α β : Type} {c : α → α → Int} {d : β → β → Int} (h : GC c) (k : GC d) : GC (lexC c d) := by
  refine ⟨fun x y => ?_, fun x y e => ?_, fun x y z h1 h2 => ?_⟩
  · unfold lexC
    have := h.anti x.1 y.1
    by_cases e : c x.1 y.1 = 0
    · rw [if_pos e, if_pos (by omega), k.anti]
    · rw [if_neg e, if_neg (by omega), this]
  · unfold lexC at e
    by_cases e1 : c x.1 y.1 = 0
    · rw [if_pos e1] at e
      exact Prod.ext (h.eq _ _ e1) (k.eq _ _ e)
    · rw [if_neg e1] at e
      exact absurd e e1
  · unfold lexC at *
    by_cases e1 : c x.1 y.1 = 0
    · rw [if_pos e1] at h1
      have e2 := h.eq _ _ e1
      rw [e2]
      by_cases e3 : c y.1 z.1 = 0
      · rw [if_pos e3] at h2 ⊢
        exact k.tr _ _ _ h1 h2
      · rw [if_neg e3] at h2 ⊢
        exact h2
    · rw [if_neg e1] at h1
      by_cases e3 : c y.1 z.1 = 0
      · have e4 := h.eq _ _ e3
        rw [← e4, if_neg e1]
        exact h1
      · rw [if_neg e3] at h2
        have := h.tr _ _ _ h1 h2
        rw [if_neg (by omega)]
        exact this
theorem GC.via {α β : Type} {c : α → α → Int} (h : GC c) (f : β → α) (hf : ∀ x y, f x = f y → x = y) : GC fun x y => c (f x) (f y) :=
  ⟨fun _ _ => h.anti _ _, fun x y e => hf x y (h.eq _ _ e), fun _ _ _ h1 h2 => h.tr _ _ _ h1 h2⟩
theorem gcB : GC Lib.compareBytes := by
  have hself : ∀ x : List UInt8, Lib.compareBytes x x = 0 := by
    intro x
    induction x with
    | nil => rfl
    | cons a x ih => simp [Lib.compareBytes, UInt8.lt_irrefl, ih]
  refine ⟨?_, ?_, ?_⟩
  · intro x
    induction x with
    | nil => intro y; cases y <;> rfl
    | cons a x ih =>
      intro y
      cases y with
      | nil => rfl
      | cons b y =>
        simp only [Lib.compareBytes]
        by_cases h1 : a < b
        · have h2 : ¬ b < a := fun h => UInt8.lt_irrefl _ (UInt8.lt_trans h1 h)
          simp [h1, h2]
        · by_cases h2 : b < a
          · simp [h1, h2]
          · simp [h1, h2, ih]
  · intro x
    induction x with
    | nil => intro y h; cases y with
      | nil => rfl
      | cons b y => simp [Lib.compareBytes] at h
    | cons a x ih =>
      intro y h
      cases y with
      | nil => simp [Lib.compareBytes] at h
      | cons b y =>
        simp only [Lib.compareBytes] at h
        by_cases h1 : a < b
        · simp [h1] at h
        · by_cases h2 : b < a
          · simp [h1, h2] at h
          · simp only [h1, h2, if_false] at h
            have e : a = b := UInt8.le_antisymm (UInt8.not_lt.1 h2) (UInt8.not_lt.1 h1)
            rw [e, ih y h]
  · intro x
    induction x with
    | nil =>
      intro y z h1 h2
      cases z with
      | nil => cases y <;> simp [Lib.compareBytes] at h1 h2
      | cons c z => simp [Lib.compareBytes]
    | cons a x ih =>
      intro y z h1 h2
      cases y with
      | nil => simp [Lib.compareBytes] at h1
      | cons b y =>
        cases z with
        | nil => simp [Lib.compareBytes] at h2
        | cons c z =>
          simp only [Lib.compareBytes] at *
          by_cases ab : a < b
          · by_cases bc : b < c
            · simp [UInt8.lt_trans ab bc]
            · by_cases cb : c < b
              · simp [bc, cb] at h2
              · have e : b = c := UInt8.le_antisymm (UInt8.not_lt.1 cb) (UInt8.not_lt.1 bc)
                rw [← e]
                simp [ab]
          · by_cases ba : b < a
            · simp [ab, ba] at h1
            · have e : a = b := UInt8.le_antisymm (UInt8.not_lt.1 ba) (UInt8.not_lt.1 ab)
              rw [e] at h1 ⊢
              simp only [UInt8.lt_irrefl, if_false] at h1
              by_cases bc : b < c
              · simp [bc]
              · by_cases cb : c < b
                · simp [bc, cb] at h2
                · simp only [bc, cb, if_false] at h2 ⊢
                  exact ih y z h1 h2
/-- The hash of a text, as bytes. -/
def hashB (s : ByteArray) : List UInt8 := Lib.bytesOf (sumV (bytesI s))
def cmpT (a b : ByteArray) : Int := orF [Lib.compareBytes (hashB a) (hashB b), Lib.compareBytes a.data.toList b.data.toList]
theorem cmpT_lex (a b : ByteArray) : cmpT a b = lexC Lib.compareBytes Lib.compareBytes (hashB a, a.data.toList) (hashB b, b.data.toList) := by
  unfold cmpT orF lexC
  simp only [List.find?_cons, List.find?_nil]
  by_cases h1 : Lib.compareBytes (hashB a) (hashB b) = 0
  · by_cases h2 : Lib.compareBytes a.data.toList b.data.toList = 0 <;> simp [h1, h2]
  · simp [h1]
theorem gcT : GC cmpT := by
  have h := (gcB.lex gcB).via (fun a : ByteArray => (hashB a, a.data.toList)) (fun x y e => by
    have e2 := congrArg Prod.snd e
    simp only at e2
    exact Go.WideShapes.bytes_inj e2)
  rw [show cmpT = fun a b : ByteArray => lexC Lib.compareBytes Lib.compareBytes (hashB a, a.data.toList) (hashB b, b.data.toList) from by funext x y; exact cmpT_lex x y]
  exact h
theorem run_compareB {P : Program} (xs ys : List Int) (a b : Addr) (c d : Nat) (w : World) (hx : ∀ j x, xs[j]? = some x → w.cell? (a.add j) = some (.int .u8 x)) (hy : ∀ j x, ys[j]? = some x → w.cell? (b.add j) = some (.int .u8 x)) :
    (Extern.BytealgCompare.compare #[.slice (some a) xs.length c, .slice (some b) ys.length d]).run P w = .ok (.int .i64 (Lib.compareBytes (Lib.bytesOf xs) (Lib.bytesOf ys))) w := by
  change Sem.run P (do pure (goInt (Extern.BytealgCompare.cmp (← Extern.Bytes.bytesOf (.slice (some a) xs.length c)) (← Extern.Bytes.bytesOf (.slice (some b) ys.length d))))) w = _
  simp only [Extern.Bytes.bytesOf, Sem.run_bind, Sem.run_pure, Result.andThen, Lib.run_loadBytesX w xs a .empty hx, Lib.run_loadBytesX w ys b .empty hy]
  rw [Lib.cmp_eq]
  simp
  rfl
set_option maxRecDepth 100000 in
theorem bytesCmp_any (xs ys : List Int) (a b : Addr) (c d : Nat) (w : World) (hx : ∀ j x, xs[j]? = some x → w.cell? (a.add j) = some (.int .u8 x)) (hy : ∀ j x, ys[j]? = some x → w.cell? (b.add j) = some (.int .u8 x)) :
    Calls Try.prog 42 #[.slice (some a) xs.length c, .slice (some b) ys.length d] w fun e w' => e = .returned (.int .i64 (Lib.compareBytes (Lib.bytesOf xs) (Lib.bytesOf ys))) ∧ w' = w := by
  have HX := Lib.hid hx; have HY := Lib.hid hy
  clear hx hy
  go_enter Try.func42, Try.ntmps42
  go_wp2
  rw [run_callFunc_extern Try.func52 (by kernel_rfl) (by kernel_rfl) (by kernel_rfl) (e := Extern.BytealgCompare.compare) (by kernel_rfl), run_compareB xs ys a b c d w HX.out HY.out]
  simp only [Result.andThen]
  rw [Oper.upon_value]
  go_wp2
  go_ret
  exact ⟨rfl, rfl⟩
theorem strCmp_any (a b : ByteArray) (w : World) : Calls Try.prog 43 #[.string a, .string b] w fun e w' => e = .returned (.int .i64 (Lib.compareBytes a.data.toList b.data.toList)) ∧ w' = w := Any.strings_Compare cmpS a b w
end Go.Proofs.Ytbeoihjfjkbfhaa

namespace Go.Proofs.Ytbeoihjfjkbfhaa
set_option linter.unusedVariables false
set_option linter.unusedSimpArgs false
open Go.RowKit Go.Sort
theorem rowB_cell {w : World} {p : Nat} {A : List Int} {t : TypeId} {fr : Nat × Nat} (h : w.heap[p]? = some (.cells (A.map (Value.int .u8)).toArray t fr)) : ∀ j x, A[j]? = some x → w.cell? ((⟨p, 0, none⟩ : Addr).add j) = some (.int .u8 x) := by
  intro j x hj
  rw [show (⟨p, 0, none⟩ : Addr).add j = ⟨p, j, none⟩ from by unfold Addr.add; split <;> simp_all]
  refine (cell_of_row _ _ j _ _ _ h).trans ?_
  simp [hj]
theorem cmpB_in (a b : List UInt8) : -9223372036854775808 ≤ Lib.compareBytes a b ∧ Lib.compareBytes a b ≤ 9223372036854775807 := by
  have h : Lib.compareBytes a b = -1 ∨ Lib.compareBytes a b = 0 ∨ Lib.compareBytes a b = 1 := by
    induction a generalizing b with
    | nil => cases b <;> simp [Lib.compareBytes]
    | cons x a ih =>
      cases b with
      | nil => simp [Lib.compareBytes]
      | cons y b =>
        simp only [Lib.compareBytes]
        by_cases h1 : x < y
        · simp [h1]
        · by_cases h2 : y < x
          · simp [h1, h2]
          · simpa [h1, h2] using ih b
  omega
set_option maxRecDepth 100000 in
set_option maxHeartbeats 4000000 in
theorem cmpT_any (a b : ByteArray) (w : World) (ha : a.size ≤ 4000) (hb : b.size ≤ 4000) :
    Calls Try.prog 39 #[.string a, .string b] w fun e w' => e = .returned (.int .i64 (cmpT a b)) ∧ Ext w w' := by
  have HC : Hid (cmpT a b = orF [Lib.compareBytes (Lib.bytesOf (sumV (bytesI a))) (Lib.bytesOf (sumV (bytesI b))), Lib.compareBytes a.data.toList b.data.toList]) := Lib.hid rfl
  have HA := Lib.hid (fun w => sum_any a w ha); have HB := Lib.hid (fun w => sum_any b w hb)
  have la := sumV_len (bytesI a); have lb := sumV_len (bytesI b)
  generalize sumV (bytesI a) = A at *
  generalize sumV (bytesI b) = B at *
  generalize cmpT a b = R at *
  have HS := Lib.hid (strCmp_any a b)
  have k2 := cmpB_in a.data.toList b.data.toList
  generalize Lib.compareBytes a.data.toList b.data.toList = c2 at *
  have sa : (A.map (Value.int .u8)).toArray.size = 32 := by simpa using la
  have sb : (B.map (Value.int .u8)).toArray.size = 32 := by simpa using lb
  have oa : ∀ v ∈ ((A.map (Value.int .u8)).toArray).toList, v.oneCell' = true := by
    intro v hv
    obtain ⟨y, -, rfl⟩ := List.mem_map.1 hv
    rfl
  have ob : ∀ v ∈ ((B.map (Value.int .u8)).toArray).toList, v.oneCell' = true := by
    intro v hv
    obtain ⟨y, -, rfl⟩ := List.mem_map.1 hv
    rfl
  obtain ⟨RA, hRA⟩ : ∃ RA, RA = (A.map (Value.int .u8)).toArray := ⟨_, rfl⟩
  obtain ⟨RB, hRB⟩ : ∃ RB, RB = (B.map (Value.int .u8)).toArray := ⟨_, rfl⟩
  rw [← hRA] at HA sa oa
  rw [← hRB] at HB sb ob
  have HRA := Lib.hid hRA; have HRB := Lib.hid hRB
  have LA := Lib.hid la; have LB := Lib.hid lb
  clear hRA hRB la lb ha hb
  go_enter Try.func39, Try.ntmps39
  go_upto_region 2 with (first
    | (go_at_call 40; (with_reducible refine (HA.out _).mono ?_); rintro e w1 ⟨rfl, hx1⟩)
    | (go_at_call 40; (with_reducible refine (HB.out _).mono ?_); rintro e w2 ⟨rfl, hx2⟩)
    | (refine wpList_store_row (hgd := rfl) 78 (.tmp 5) (.tmp 8) rfl w2.heap.size (by rfl) RA (by rfl) (rowB []) 78 (two_blocks _ _ _).1 (by rw [sa]; rfl) (by rw [sa]; kernel_rfl) oa ?_)
    | (refine wpList_store_row (hgd := rfl) 78 (.tmp 6) (.tmp 10) rfl (w2.heap.size + 1) (by rfl) RB (by rfl) (rowB []) 78 ((setRow_other _ _ _ _ (by omega)).trans (two_blocks _ _ _).2) (by rw [sb]; rfl) (by rw [sb]; kernel_rfl) ob ?_))
  change Code.wp _ _ _ _ ((((w2.alloc (.cells (rowB []) 78)).alloc (.cells (rowB []) 78)).setRow w2.heap.size RA).setRow (w2.heap.size + 1) RB)
  have hX : Ext w ((((w2.alloc (.cells (rowB []) 78)).alloc (.cells (rowB []) 78)).setRow w2.heap.size RA).setRow (w2.heap.size + 1) RB) := by
    have h12 := hx1.size; have h22 := hx2.size
    exact below_setRow (below_setRow (Ext.alloc (Ext.alloc (hx1.trans hx2) _) _) (by omega) _) (by omega) _
  have hP : ((((w2.alloc (.cells (rowB []) 78)).alloc (.cells (rowB []) 78)).setRow w2.heap.size RA).setRow (w2.heap.size + 1) RB).heap[w2.heap.size]? = some (.cells RA 78) :=
    (setRow_other _ _ _ _ (by omega)).trans (setRow_heap _ _ _ _ _ _ (two_blocks _ _ _).1)
  have hQ : ((((w2.alloc (.cells (rowB []) 78)).alloc (.cells (rowB []) 78)).setRow w2.heap.size RA).setRow (w2.heap.size + 1) RB).heap[w2.heap.size + 1]? = some (.cells RB 78) :=
    setRow_heap _ _ _ _ _ _ ((setRow_other _ _ _ _ (by omega)).trans (two_blocks _ _ _).2)
  generalize ((((w2.alloc (.cells (rowB []) 78)).alloc (.cells (rowB []) 78)).setRow w2.heap.size RA).setRow (w2.heap.size + 1) RB) = W at *
  obtain ⟨p, hp⟩ : ∃ p, p = w2.heap.size := ⟨_, rfl⟩
  obtain ⟨q, hq⟩ : ∃ q, q = w2.heap.size + 1 := ⟨_, rfl⟩
  rw [← hq] at hQ ⊢
  rw [← hp] at hP ⊢
  have HX := Lib.hid hX
  have HM : Hid (∀ wz, Ext W wz → Calls Try.prog 42 #[.slice (some ⟨p, 0, none⟩) 32 32, .slice (some ⟨q, 0, none⟩) 32 32] wz fun e w' => e = .returned (.int .i64 (Lib.compareBytes (Lib.bytesOf A) (Lib.bytesOf B))) ∧ Ext wz w') := Lib.hid (fun wz hz => by
    have h1 := (hz.block _ (Rg.lt_of_heap hP)).trans hP
    have h2 := (hz.block _ (Rg.lt_of_heap hQ)).trans hQ
    rw [HRA.out] at h1
    rw [HRB.out] at h2
    have h := bytesCmp_any A B ⟨p, 0, none⟩ ⟨q, 0, none⟩ 32 32 wz (rowB_cell h1) (rowB_cell h2)
    rw [LA.out, LB.out] at h
    exact h.mono fun _ _ ⟨he, hw⟩ => ⟨he, hw ▸ Ext.refl _⟩)
  have HT : Hid (∀ wz, Calls Try.prog 43 #[.string a, .string b] wz fun e w' => e = .returned (.int .i64 c2) ∧ Ext wz w') := Lib.hid (fun wz => (HS.out wz).mono fun _ _ ⟨he, hw⟩ => ⟨he, hw ▸ Ext.refl _⟩)
  have k1 := cmpB_in (Lib.bytesOf A) (Lib.bytesOf B)
  generalize Lib.compareBytes (Lib.bytesOf A) (Lib.bytesOf B) = c1 at *
  clear hX hP hQ hp hq hx1 hx2 sa sb oa ob
  refine Rr.wp_region [(0, .y), (1, .y), (2, .y), (3, .y), (4, .y), (5, .y), (6, .m), (7, .y)] (fun _ => (.cells #[.int .i64 c1, .int .i64 c2] 3, fun p => .slice (some ⟨p, 0, none⟩) 2 2)) (by kernel_rfl) (by kernel_rfl) ?_
  (refine Rr.wr_y (by simp only [List.getElem?_toArray, List.getElem?_cons_succ, List.getElem?_cons_zero]; rfl) (by rfl) ?_
   apply Exists.intro
   refine ⟨fun wz hw _ => ?_, ?_⟩
   · have hcz := hw.cells.1
     go_simp
     (with_reducible exact Rg.up_value)
   simp only [Act.put, List.setIfInBounds_toArray, List.set_cons_zero, List.set_cons_succ])
  (refine Rr.wr_y (by simp only [List.getElem?_toArray, List.getElem?_cons_succ, List.getElem?_cons_zero]; rfl) (by rfl) ?_
   apply Exists.intro
   refine ⟨fun wz hw _ => ?_, ?_⟩
   · have hcz := hw.cells.1
     go_simp
     (with_reducible exact Rg.up_value)
   simp only [Act.put, List.setIfInBounds_toArray, List.set_cons_zero, List.set_cons_succ])
  (refine Rr.wr_y (by simp only [List.getElem?_toArray, List.getElem?_cons_succ, List.getElem?_cons_zero]; rfl) (by rfl) ?_
   apply Exists.intro
   refine ⟨fun wz hw _ => ?_, ?_⟩
   · have hcz := hw.cells.1
     go_simp
     apply Rg.up_enter
     (with_reducible refine (HM.out _ hw).mono ?_)
     rintro e w3 ⟨rfl, hb3⟩
     exact ⟨rfl, hb3⟩
   simp only [Act.put, List.setIfInBounds_toArray, List.set_cons_zero, List.set_cons_succ])
  (refine Rr.wr_y (by simp only [List.getElem?_toArray, List.getElem?_cons_succ, List.getElem?_cons_zero]; rfl) (by rfl) ?_
   apply Exists.intro
   refine ⟨fun wz hw _ => ?_, ?_⟩
   · have hcz := hw.cells.1
     go_simp
     (with_reducible exact Rg.up_value)
   simp only [Act.put, List.setIfInBounds_toArray, List.set_cons_zero, List.set_cons_succ])
  (refine Rr.wr_y (by simp only [List.getElem?_toArray, List.getElem?_cons_succ, List.getElem?_cons_zero]; rfl) (by rfl) ?_
   apply Exists.intro
   refine ⟨fun wz hw _ => ?_, ?_⟩
   · have hcz := hw.cells.1
     go_simp
     (with_reducible exact Rg.up_value)
   simp only [Act.put, List.setIfInBounds_toArray, List.set_cons_zero, List.set_cons_succ])
  (refine Rr.wr_y (by simp only [List.getElem?_toArray, List.getElem?_cons_succ, List.getElem?_cons_zero]; rfl) (by rfl) ?_
   apply Exists.intro
   refine ⟨fun wz hw _ => ?_, ?_⟩
   · have hcz := hw.cells.1
     go_simp
     apply Rg.up_enter
     (with_reducible refine (HT.out _).mono ?_)
     rintro e w3 ⟨rfl, hb3⟩
     exact ⟨rfl, hb3⟩
   simp only [Act.put, List.setIfInBounds_toArray, List.set_cons_zero, List.set_cons_succ])
  refine Rr.wr_m (by simp only [List.getElem?_toArray, List.getElem?_cons_succ, List.getElem?_cons_zero]; rfl) (by rfl) (fun wz => by go_simp) (fun p3 hp3 => ?_)
  simp only [Act.put, List.setIfInBounds_toArray, List.set_cons_zero, List.set_cons_succ]
  (refine Rr.wr_y (by simp only [List.getElem?_toArray, List.getElem?_cons_succ, List.getElem?_cons_zero]; rfl) (by rfl) ?_
   apply Exists.intro
   refine ⟨fun wz hw hh => ?_, ?_⟩
   · obtain ⟨-, hb⟩ := hh _ List.mem_cons_self
     have hl : IRd wz (.slice (some ⟨p3, 0, none⟩) 2 2) [c1, c2] := ⟨_, _, rfl, by simp, (by
       intro z hz
       simp only [List.mem_cons, List.not_mem_nil, or_false] at hz
       rcases hz with rfl | rfl <;> assumption), .inr ⟨p3, 0, rfl, fun k hk => by
       rw [cell_of_row wz p3 _ _ _ _ hb]
       match k, hk with
       | 0, _ => rfl
       | 1, _ => rfl⟩⟩
     go_simp
     apply Rg.up_enter
     (with_reducible refine (or_any _ _ wz hl).mono ?_)
     rintro e w3 ⟨rfl, rfl⟩
     exact ⟨rfl, Ext.refl _⟩
   simp only [Act.put, List.setIfInBounds_toArray, List.set_cons_zero, List.set_cons_succ])
  refine Rr.wr_nil ?_
  intro wy hy hh
  simp only [List.length_cons, List.length_nil, List.drop_succ_cons, List.drop_zero, Nat.reduceAdd]
  go_wp2_with (fail)
  go_ret
  exact ⟨by rw [HC.out]; rfl, HX.out.trans hy⟩
end Go.Proofs.Ytbeoihjfjkbfhaa

namespace Go.Proofs.Ytbeoihjfjkbfhaa.Dw
set_option linter.unusedVariables false
set_option linter.unusedSimpArgs false
open Go.RowKit
/-- Nothing that was there has turned, and no less has been drawn. -/
structure Ext (w w' : World) : Prop where
  os : w'.os = w.os
  tape : w'.tape = w.tape
  output : w'.output = w.output
  size : w.heap.size ≤ w'.heap.size
  block : ∀ k, k < w.heap.size → w'.heap[k]? = w.heap[k]?
  drawn : w.drawn ≤ w'.drawn
section
variable {a w w' : World}
theorem Ext.below (h : Ext w w') : Below w.heap.size w w' := ⟨h.os, h.tape, h.output, h.size, h.block⟩
theorem Ext.refl (w : World) : Ext w w := ⟨rfl, rfl, rfl, Nat.le_refl _, fun _ _ => rfl, Nat.le_refl _⟩
theorem Ext.drewN (h : Ext a w) (n : Nat) : Ext a (w.drewN n) := ⟨h.os, h.tape, h.output, h.size, h.block, Nat.le_trans h.drawn (Nat.le_add_right _ _)⟩
theorem Ext.drew (h : Ext a w) : Ext a w.drew := ⟨h.os, h.tape, h.output, h.size, h.block, Nat.le_trans h.drawn (Nat.le_add_right _ _)⟩
theorem Ext.trans (h : Ext a w) (k : Ext w w') : Ext a w' := ⟨k.os.trans h.os, k.tape.trans h.tape, k.output.trans h.output, Nat.le_trans h.size k.size, fun i hi => (k.block i (Nat.lt_of_lt_of_le hi h.size)).trans (h.block i hi), Nat.le_trans h.drawn k.drawn⟩
theorem Ext.alloc (h : Ext a w) (o : Obj) : Ext a (w.alloc o) := by
  have hb := Below.alloc h.below h.size o
  exact ⟨hb.os, hb.tape, hb.output, hb.size, hb.block, h.drawn⟩
theorem Ext.cells (h : Ext a w) : (∀ b o, b < a.heap.size → w.cell? ⟨b, o, none⟩ = a.cell? ⟨b, o, none⟩) ∧ (∀ b o, b < a.heap.size → w.frozen? ⟨b, o, none⟩ = a.frozen? ⟨b, o, none⟩) :=
  ⟨fun b o hb => Below.cell (p := ⟨b, o, none⟩) h.below hb, fun b o hb => Below.frozen (p := ⟨b, o, none⟩) h.below hb⟩
/-- So the world is the old one, grown. -/
theorem Ext.grow (h : Ext w w') : ∃ q os, w' = Go.Sort.grow (w.drewN q) os := by
  refine ⟨w'.drawn - w.drawn, w'.heap.extract w.heap.size w'.heap.size, ?_⟩
  have hh : w'.heap = w.heap ++ w'.heap.extract w.heap.size w'.heap.size := by
    refine Array.ext_getElem? fun i => ?_
    rw [Array.getElem?_append]
    split
    · rename_i hi
      exact h.block i hi
    · rename_i hi
      rw [Array.getElem?_extract]
      have hs := h.size
      by_cases hi2 : i < w'.heap.size
      · rw [if_pos (by omega)]
        congr 1
        omega
      · rw [if_neg (by omega)]
        exact Array.getElem?_eq_none (by omega)
  have hd := h.drawn
  have ht := h.tape
  have ho := h.os
  have hu := h.output
  cases w
  cases w'
  simp only [Go.Sort.grow, World.drewN] at *
  subst ht ho hu
  simp only [World.mk.injEq, true_and, and_true]
  exact ⟨hh, by omega⟩
end
end Go.Proofs.Ytbeoihjfjkbfhaa.Dw

namespace Go.Proofs.Ytbeoihjfjkbfhaa.Dw.Rg
open Go.RowKit Go.Proofs.Ytbeoihjfjkbfhaa Go.Proofs.Ytbeoihjfjkbfhaa.Dw

section
variable {P : Program} {ops : Array Oper} {md : Region.Mode} {w0 : World} {M : Nat → Option Obj} {n : Nat}

/-- What an operation, carried out in world w, may come to: the value v, the world grown. -/
def up (P : Program) (w : World) (v : Value) : Result Next → Prop
  | .ok (.value u) w' => w' = w ∧ u = v
  | .ok .skip w' => w' = w ∧ v = undef
  | .ok (.enter f args) w' => w' = w ∧ Calls P f args w (fun e w'' => e = .returned v ∧ Ext w w'')
  | _ => False
theorem up_value {w : World} {v : Value} : up P w v (.ok (.value v) w) := ⟨rfl, rfl⟩
theorem up_enter {w : World} {v : Value} {f : FuncId} {args : Array Value} (h : Calls P f args w (fun e w'' => e = .returned v ∧ Ext w w'')) : up P w v (.ok (.enter f args) w) := ⟨rfl, h⟩

def Y (P : Program) (ops : Array Oper) (w0 : World) (o : Oper) (v : Value) (a : Act) : Prop :=
  (Region.wanted o (yielded ops a.tmps) = true ∧ ∀ w, Ext w0 w → up P w v ((execOp a.eval o).run P w)) ∨ (Region.wanted o (yielded ops a.tmps) = false ∧ v = undef)

theorem Y.of_same {o : Oper} {v : Value} {a a' : Act} (hy : Y P ops w0 o v a) (he : execOp a'.eval o = execOp a.eval o)
    (hw : Region.wanted o (yielded ops a'.tmps) = Region.wanted o (yielded ops a.tmps)) : Y P ops w0 o v a' := by
  unfold Y at *
  rw [he, hw]
  exact hy

abbrev ptr (p : Nat) : Value := .pointer (some ⟨p, 0, none⟩)

/-- It makes the block ob, whatever the frame, and yields a pointer to it. -/
def Makes (P : Program) (o : Oper) (ob : Obj) : Prop :=
  o.guard = none ∧ ∀ (a : Act) (w : World), (execOp a.eval o).run P w = .ok (.value (ptr w.heap.size)) (w.alloc ob)

def stp (P : Program) (ops : Array Oper) (w0 : World) (M : Nat → Option Obj) (i : Nat) (K : Act → List (Nat × Obj) → Prop) (a : Act) (bs : List (Nat × Obj)) : Prop :=
  match ops[i]? with
  | none => False
  | some o => match M i with
    | some ob => Makes P o ob ∧ ∀ p, K (a.put o.dst (ptr p)) ((p, ob) :: bs)
    | none => ∃ v, Y P ops w0 o v a ∧ K (a.put o.dst v) bs

def WX (P : Program) (md : Region.Mode) (ops : Array Oper) (w0 : World) (M : Nat → Option Obj) (n : Nat) (T : Array Bool → Act → List (Nat × Obj) → Prop) : Nat → Array Bool → Act → List (Nat × Obj) → Prop
  | 0, listed, a, bs => T listed a bs
  | f + 1, listed, a, bs => Region.ready md ops listed ≠ [] ∧ ∀ i ∈ Region.ready md ops listed, i < n ∧ stp P ops w0 M i (WX P md ops w0 M n T f (listed.setIfInBounds i true)) a bs

/-- The blocks that were made lie there, apart from each other. -/
def F (w0 : World) (bs : List (Nat × Obj)) (w : World) : Prop :=
  bs.Pairwise (fun x y => x.1 ≠ y.1) ∧ ∀ b ∈ bs, w0.heap.size ≤ b.1 ∧ w.heap[b.1]? = some b.2

theorem lt_of_heap {w : World} {p : Nat} {o : Obj} (h : w.heap[p]? = some o) : p < w.heap.size := by
  rcases Nat.lt_or_ge p w.heap.size with h' | h'
  · exact h'
  · rw [Array.getElem?_eq_none h'] at h; cases h

theorem F.ext {bs : List (Nat × Obj)} {w w' : World} (h : F w0 bs w) (e : Ext w w') : F w0 bs w' :=
  ⟨h.1, fun b hb => ⟨(h.2 b hb).1, (e.block _ (lt_of_heap (h.2 b hb).2)).trans (h.2 b hb).2⟩⟩

theorem F.make {bs : List (Nat × Obj)} {w : World} (h : F w0 bs w) (e : Ext w0 w) (ob : Obj) : F w0 ((w.heap.size, ob) :: bs) (w.alloc ob) := by
  refine ⟨List.pairwise_cons.2 ⟨fun b hb => Nat.ne_of_gt (lt_of_heap (h.2 b hb).2), h.1⟩, fun b hb => ?_⟩
  rcases List.mem_cons.1 hb with rfl | hb
  · refine ⟨e.size, ?_⟩
    show (w.heap.push ob)[w.heap.size]? = _
    simp
  · exact ⟨(h.2 b hb).1, (Below.heap_alloc w ob b.1 (lt_of_heap (h.2 b hb).2)).trans (h.2 b hb).2⟩

theorem Y.wpOp {i : Nat} {o : Oper} {v : Value} {a : Act} {w : World} {K : Act → World → Prop} {Q : Exit → Act → World → Prop} (hi : ops[i]? = some o) (hy : Y P ops w0 o v a) (hw : Ext w0 w)
    (h : ∀ w', Ext w w' → K (a.put o.dst v) w') : wpOp P ops Q i K a w := by
  unfold Go.wpOp
  simp only [hi]
  rcases hy with ⟨hwt, hu⟩ | ⟨hwt, rfl⟩
  · simp only [hwt, if_true]
    refine .inl ?_
    have := hu w hw
    unfold Oper.wp
    generalize (execOp a.eval o).run P w = r at *
    cases r with
    | ok x w' =>
      cases x <;> simp only [up] at this <;> simp only [Oper.upon]
      case value u => obtain ⟨rfl, rfl⟩ := this; exact h _ (Ext.refl _)
      case skip => obtain ⟨rfl, rfl⟩ := this; exact h _ (Ext.refl _)
      case enter f args =>
        obtain ⟨rfl, hc⟩ := this
        exact hc.mono fun e w'' ⟨he, hb⟩ => by subst he; exact h _ hb
    | halt x w' => simp only [up] at this
  · simp only [hwt, Bool.false_eq_true, if_false]
    exact h _ (Ext.refl _)

theorem WX.sound {T : Array Bool → Act → List (Nat × Obj) → Prop} {Q : Exit → Act → World → Prop} {g : Nat}
    (hT : ∀ listed a bs w, T listed a bs → Ext w0 w → F w0 bs w → wpAny P md ops Q g listed a w) :
    ∀ (f : Nat) (listed : Array Bool) (a : Act) (bs : List (Nat × Obj)) (w : World), WX P md ops w0 M n T f listed a bs → Ext w0 w → F w0 bs w → wpAny P md ops Q (f + g) listed a w
  | 0, listed, a, bs, w, h, e, hF => by rw [Nat.zero_add]; exact hT _ _ _ _ h e hF
  | f + 1, listed, a, bs, w, h, e, hF => by
    rw [show f + 1 + g = (f + g) + 1 by omega]
    refine ⟨fun h0 => absurd h0 h.1, fun i hi => ?_⟩
    have hs := (h.2 i hi).2
    unfold stp at hs
    split at hs
    · exact hs.elim
    · rename_i o ho
      split at hs
      · rename_i ob hob
        obtain ⟨⟨hg, hm⟩, hp⟩ := hs
        have hwt : Region.wanted o (yielded ops a.tmps) = true := by simp [Region.wanted, hg]
        unfold wpOp
        simp only [ho, hwt, if_true]
        refine .inl ?_
        unfold Oper.wp
        rw [hm]
        simp only [Oper.upon]
        exact WX.sound hT f _ _ _ _ (hp w.heap.size) (e.alloc ob) (hF.make e ob)
      · obtain ⟨v, hy, hk⟩ := hs
        exact hy.wpOp ho e fun w' hw' => WX.sound hT f _ _ _ _ hk (e.trans hw') (hF.ext hw')

theorem WX_first {T : Array Bool → Act → List (Nat × Obj) → Prop} {i : Nat} {oi : Oper} {v : Value} (hi : ops[i]? = some oi) (hM : M i = none)
    (hsel : ∀ (j : Nat) (o : Oper) cs b, ops[j]? = some o → o.op ≠ .select cs b)
    (hs : Region.sinkB md ops n = true) (hc : Region.chainB md ops n = true) (hn : n < ops.size) (hin : i < n)
    (hdone : ∀ listed a bs, T listed a bs → ∀ j ∈ Region.ready md ops listed, n ≤ j) :
    ∀ (f : Nat) (listed : Array Bool) (a : Act) (bs : List (Nat × Obj)), HeadInv md ops n listed →
      (∀ j oj, ops[j]? = some oj → j ≠ i → listed.getD j true = false → (∀ e ∈ oj.after, Region.binds md e = true → e.on ≠ i) → oi.apart ops oj = true) →
      i ∈ Region.ready md ops listed → Y P ops w0 oi v a →
      WX P md ops w0 M n T f (listed.setIfInBounds i true) (a.put oi.dst v) bs → WX P md ops w0 M n T (f + 1) listed a bs := by
  have self : ∀ (K : Act → List (Nat × Obj) → Prop) (a : Act) (bs : List (Nat × Obj)), Y P ops w0 oi v a → K (a.put oi.dst v) bs → stp P ops w0 M i K a bs := by
    intro K a bs hy hk
    unfold stp
    simp only [hi, hM]
    exact ⟨v, hy, hk⟩
  intro f
  induction f with
  | zero =>
    intro listed a bs inv _ hr hy H
    have hun := (mem_ready.1 hr).1
    refine ⟨fun h => (by rw [h] at hr; cases hr), fun j hj => ?_⟩
    have hjn : j < n := by
      rcases Nat.lt_or_ge j n with h | h
      · exact h
      · exact absurd hj (tail_waits hs hc hn inv _ i rfl hin hun j h)
    refine ⟨hjn, ?_⟩
    by_cases hji : j = i
    · subst hji; exact self _ _ _ hy H
    · have := hdone _ _ _ H j (ready_mono hj hji)
      omega
  | succ f ih =>
    intro listed a bs inv hfree hr hy H
    have hun := (mem_ready.1 hr).1
    refine ⟨fun h => (by rw [h] at hr; cases hr), fun j hj => ?_⟩
    have hjn : j < n := by
      rcases Nat.lt_or_ge j n with h | h
      · exact h
      · exact absurd hj (tail_waits hs hc hn inv _ i rfl hin hun j h)
    refine ⟨hjn, ?_⟩
    by_cases hji : j = i
    · subst hji; exact self _ _ _ hy H
    · have h1 := (H.2 j (ready_mono hj hji)).2
      obtain ⟨hjun, oj, hoj, hall⟩ := mem_ready.1 hj
      have hnot : ∀ e ∈ oj.after, Region.binds md e = true → e.on ≠ i := fun e he hb heq => by
        have h1 := hall e he hb
        rw [heq, getD_both hun] at h1
        cases h1
      have hap := hfree j oj hoj hji hjun hnot
      obtain ⟨k1, k2, k3⟩ := Oper.apart_spec hap
      have keep : ∀ u, Y P ops w0 oi v (a.put oj.dst u) := fun u =>
        hy.of_same (execOp_put oi (fun cs b => hsel i oi cs b hi) a oj.dst u k3) (wanted_put oi a oj.dst u k3)
      have hfree' : ∀ k ok, ops[k]? = some ok → k ≠ i → (listed.setIfInBounds j true).getD k true = false →
          (∀ e ∈ ok.after, Region.binds md e = true → e.on ≠ i) → oi.apart ops ok = true := fun k ok hk hki hun hno => by
        refine hfree k ok hk hki ?_ hno
        by_cases hjk : j = k
        · subst hjk; exact hjun
        · rw [getD_set_ne true hjk] at hun; exact hun
      have inv' := inv.set hj hjn
      have hr' := ready_mono hr (Ne.symm hji)
      have go : ∀ (u : Value) (bs' : List (Nat × Obj)), WX P md ops w0 M n T f ((listed.setIfInBounds i true).setIfInBounds j true) ((a.put oi.dst v).put oj.dst u) bs' →
          WX P md ops w0 M n T (f + 1) (listed.setIfInBounds j true) (a.put oj.dst u) bs' := fun u bs' h => by
        refine ih _ _ _ inv' hfree' hr' (keep u) ?_
        rw [Array.setIfInBounds_comm _ _ hji, ← Act.put_comm a v u k2]
        exact h
      unfold stp at h1 ⊢
      simp only [hoj] at h1 ⊢
      split at h1
      · exact ⟨h1.1, fun p => go _ _ (h1.2 p)⟩
      · obtain ⟨u, hyj, hk⟩ := h1
        exact ⟨u, hyj.of_same (execOp_put oj (fun cs b => hsel j oj cs b hoj) a oi.dst v k1).symm (wanted_put oj a oi.dst v k1).symm, go _ _ hk⟩

/-- The walk in the text's order over the operations that only read. -/
def wk (P : Program) (ops : Array Oper) (w0 : World) (fin : Act → Prop) : List Oper → Act → Prop
  | [], a => fin a
  | o :: rest, a => ∃ v, Y P ops w0 o v a ∧ wk P ops w0 fin rest (a.put o.dst v)

theorem wk_nil {fin : Act → Prop} {a : Act} (h : fin a) : wk P ops w0 fin [] a := h
theorem wk_cons {fin : Act → Prop} {a : Act} {o : Oper} {rest : List Oper} (v : Value) (hw : Region.wanted o (yielded ops a.tmps) = true)
    (h : ∀ w, Ext w0 w → up P w v ((execOp a.eval o).run P w)) (k : wk P ops w0 fin rest (a.put o.dst v)) : wk P ops w0 fin (o :: rest) a := ⟨v, .inl ⟨hw, h⟩, k⟩
theorem wk_step {fin : Act → Prop} {a : Act} {o : Oper} {rest : List Oper} (hw : Region.wanted o (yielded ops a.tmps) = true)
    (h : ∃ v, (∀ w, Ext w0 w → up P w v ((execOp a.eval o).run P w)) ∧ wk P ops w0 fin rest (a.put o.dst v)) : wk P ops w0 fin (o :: rest) a := ⟨h.choose, .inl ⟨hw, h.choose_spec.1⟩, h.choose_spec.2⟩
theorem wk_skip {fin : Act → Prop} {a : Act} {o : Oper} {rest : List Oper} (hw : Region.wanted o (yielded ops a.tmps) = false)
    (k : wk P ops w0 fin rest (a.put o.dst undef)) : wk P ops w0 fin (o :: rest) a := ⟨undef, .inr ⟨hw, rfl⟩, k⟩

def lexX (md : Region.Mode) (ops : Array Oper) (base : Nat → Array Bool → Bool) : Nat → Nat → Array Bool → Bool
  | 0, k, listed => base k listed
  | f + 1, k, listed => (Region.ready md ops listed).contains k && Region.free md ops listed k && lexX md ops base f (k + 1) (listed.setIfInBounds k true)

/-- m allocations (0, 1 or 2) that may come in any order, then g operations in a forced one. -/
def mkB (md : Region.Mode) (ops : Array Oper) (g : Nat) : Nat → Nat → Array Bool → Bool
  | 0, k, listed => Region.seqB md ops g k listed
  | 1, k, listed => decide (Region.ready md ops listed = [k]) && Region.seqB md ops g (k + 1) (listed.setIfInBounds k true)
  | 2, k, listed => decide (Region.ready md ops listed = [k, k + 1]) && decide (Region.ready md ops (listed.setIfInBounds k true) = [k + 1]) && decide (Region.ready md ops (listed.setIfInBounds (k + 1) true) = [k]) &&
      Region.seqB md ops g (k + 2) ((listed.setIfInBounds k true).setIfInBounds (k + 1) true)
  | _, _, _ => false

def allB (md : Region.Mode) (ops : Array Oper) (n1 n : Nat) : Bool :=
  Region.noSelect ops && decide (n < ops.size) && decide (n1 ≤ n) && Region.sinkB md ops n && Region.chainB md ops n && lexX md ops (mkB md ops (ops.size - n) (n - n1)) n1 0 (Array.replicate ops.size false)

theorem WX_lex {T : Array Bool → Act → List (Nat × Obj) → Prop} {fin : Act → Prop} {n1 m : Nat} {base : Nat → Array Bool → Bool} (hsel : Region.noSelect ops = true) (hs : Region.sinkB md ops n = true) (hc : Region.chainB md ops n = true) (hn : n < ops.size) (hn1 : n1 ≤ n)
    (hM : ∀ i, i < n1 → M i = none) (hdone : ∀ listed a bs, T listed a bs → ∀ j ∈ Region.ready md ops listed, n ≤ j)
    (hb : ∀ listed a, HeadInv md ops n listed → base n1 listed = true → fin a → WX P md ops w0 M n T m listed a []) :
    ∀ (l : List Oper) (k : Nat) (listed : Array Bool) (a : Act), (∀ j, j < l.length → l[j]? = ops[k + j]?) → k + l.length = n1 → HeadInv md ops n listed →
    lexX md ops base l.length k listed = true → wk P ops w0 fin l a → WX P md ops w0 M n T (l.length + m) listed a []
  | [], k, listed, a, _, hk, inv, hB, h => by
    have : k = n1 := by simpa using hk
    subst this
    rw [List.length_nil, Nat.zero_add]
    exact hb listed a inv (by simpa [lexX] using hB) h
  | o :: l, k, listed, a, hl, hk, inv, hB, h => by
    have h0 : ops[k]? = some o := by simpa using (hl 0 (by simp)).symm
    simp only [List.length_cons, lexX, Bool.and_eq_true] at hB
    obtain ⟨⟨hr, hf⟩, hB'⟩ := hB
    have hkn : k < n1 := by simp only [List.length_cons] at hk; omega
    have hr' : k ∈ Region.ready md ops listed := by simpa using hr
    obtain ⟨v, hy, hK⟩ := h
    rw [List.length_cons, show l.length + 1 + m = (l.length + m) + 1 by omega]
    exact WX_first h0 (hM k hkn) (Region.noSelect_spec hsel) hs hc hn (by omega) hdone (l.length + m) listed a [] inv (Region.free_spec h0 hf) hr' hy
      (WX_lex hsel hs hc hn hn1 hM hdone hb l (k + 1) _ _ (fun j hj => by have := hl (j + 1) (by simp; omega); simpa [Nat.add_assoc, Nat.add_comm 1 j] using this) (by simp only [List.length_cons] at hk; omega) (inv.set hr' (by omega)) hB' hK)

/-- What is asked behind the reading operations: by how many allocations there are. -/
def fin (P : Program) (ops : Array Oper) (w0 : World) (M : Nat → Option Obj) (Q : Exit → Act → World → Prop) (n1 n : Nat) (tail : List Oper) (a : Act) : Prop :=
  match n - n1 with
  | 0 => ∀ w, Ext w0 w → wpList P ops Q tail a w
  | 1 => ∃ o ob, ops[n1]? = some o ∧ M n1 = some ob ∧ Makes P o ob ∧ ∀ p w, Ext w0 w → w0.heap.size ≤ p → w.heap[p]? = some ob → wpList P ops Q tail (a.put o.dst (ptr p)) w
  | 2 => ∃ o ob o' ob', ops[n1]? = some o ∧ M n1 = some ob ∧ Makes P o ob ∧ ops[n1 + 1]? = some o' ∧ M (n1 + 1) = some ob' ∧ Makes P o' ob' ∧ (∀ d, o.dst = some d → o'.dst ≠ some d) ∧
      ∀ p q w, Ext w0 w → p ≠ q → w0.heap.size ≤ p → w0.heap.size ≤ q → w.heap[p]? = some ob → w.heap[q]? = some ob' → wpList P ops Q tail ((a.put o.dst (ptr p)).put o'.dst (ptr q)) w
  | _ => False

theorem fin0 {Q : Exit → Act → World → Prop} {n1 : Nat} {tail : List Oper} {a : Act} (e : n - n1 = 0) (h : ∀ w, Ext w0 w → wpList P ops Q tail a w) : fin P ops w0 M Q n1 n tail a := by
  unfold fin; rw [e]; exact h
theorem fin1 {Q : Exit → Act → World → Prop} {n1 : Nat} {tail : List Oper} {a : Act} {o : Oper} {ob : Obj} (e : n - n1 = 1) (ho : ops[n1]? = some o) (hM : M n1 = some ob) (hk : Makes P o ob)
    (h : ∀ p w, Ext w0 w → w0.heap.size ≤ p → w.heap[p]? = some ob → wpList P ops Q tail (a.put o.dst (ptr p)) w) : fin P ops w0 M Q n1 n tail a := by
  unfold fin; rw [e]; exact ⟨o, ob, ho, hM, hk, h⟩
theorem fin2 {Q : Exit → Act → World → Prop} {n1 : Nat} {tail : List Oper} {a : Act} {o o' : Oper} {ob ob' : Obj} (e : n - n1 = 2) (ho : ops[n1]? = some o) (hM : M n1 = some ob) (hk : Makes P o ob)
    (ho' : ops[n1 + 1]? = some o') (hM' : M (n1 + 1) = some ob') (hk' : Makes P o' ob') (hne : ∀ d, o.dst = some d → o'.dst ≠ some d)
    (h : ∀ p q w, Ext w0 w → p ≠ q → w0.heap.size ≤ p → w0.heap.size ≤ q → w.heap[p]? = some ob → w.heap[q]? = some ob' → wpList P ops Q tail ((a.put o.dst (ptr p)).put o'.dst (ptr q)) w) : fin P ops w0 M Q n1 n tail a := by
  unfold fin; rw [e]; exact ⟨o, ob, o', ob', ho, hM, hk, ho', hM', hk', hne, h⟩
theorem cells_of {w : World} {p : Nat} {cs : Array Value} {t : TypeId} (h : w.heap[p]? = some (.cells cs t)) : (∀ i, w.cell? ⟨p, i, none⟩ = cs[i]?) ∧ (∀ i, w.frozen? ⟨p, i, none⟩ = false) ∧ p < w.heap.size :=
  ⟨fun i => by simp [World.cell?, h], fun i => by simp [World.frozen?, h], lt_of_heap h⟩

theorem wp_region {id : Nat} {Q : Exit → Act → World → Prop} {a : Act} {w : World} {l : List Oper} (n1 n : Nat) (M : Nat → Option Obj) (hM : ∀ i, i < n1 → M i = none) (hm : P.follows .mixedOrders = true) (hB : allB .any l.toArray n1 n = true)
    (h : wk P l.toArray w (fin P l.toArray w M Q n1 n (l.drop n)) (l.take n1) a) : (Code.region id l.toArray true).wp P Q a w := by
  simp only [allB, Bool.and_eq_true, decide_eq_true_eq] at hB
  obtain ⟨⟨⟨⟨⟨hsel, hn⟩, hn1⟩, hs⟩, hc⟩, hlex⟩ := hB
  have hn' : n < l.length := by simpa using hn
  have htl : (l.take n1).length = n1 := by simp; omega
  have hdl : (l.drop n).length = l.toArray.size - n := by simp
  have inv0 : HeadInv .any l.toArray n (Array.replicate l.toArray.size false) :=
    ⟨by simp, fun j oj _ hl => (by rw [getD_replicate_false] at hl; cases hl), fun t _ ht => getD_in (by simpa using ht) (getD_replicate_false _ _)⟩
  let T : Array Bool → Act → List (Nat × Obj) → Prop := fun listed a bs => Region.seqB .any l.toArray (l.toArray.size - n) n listed = true ∧ ∀ w', Ext w w' → F w bs w' → wpList P l.toArray Q (l.drop n) a w'
  have hdone : ∀ listed a bs, T listed a bs → ∀ j ∈ Region.ready .any l.toArray listed, n ≤ j := fun listed a bs hT => seqB_ready hT.1
  have hb : ∀ listed a, HeadInv .any l.toArray n listed → mkB .any l.toArray (l.toArray.size - n) (n - n1) n1 listed = true → fin P l.toArray w M Q n1 n (l.drop n) a → WX P .any l.toArray w M n T (n - n1) listed a [] := by
    intro listed a _ hB hf
    unfold fin at hf
    split at hf
    · rename_i e
      rw [e] at hB ⊢
      have : n1 = n := by omega
      subst this
      exact ⟨hB, fun w' e1 _ => hf w' e1⟩
    · rename_i e
      rw [e] at hB ⊢
      obtain ⟨o, ob, ho, hMo, hmk, hp⟩ := hf
      simp only [mkB, Bool.and_eq_true, decide_eq_true_eq] at hB
      have e1 : n = n1 + 1 := by omega
      refine ⟨by rw [hB.1]; simp, fun i hi => ?_⟩
      rw [hB.1] at hi
      have hi' : i = n1 := by simpa using hi
      subst hi'
      refine ⟨by omega, ?_⟩
      unfold stp
      simp only [ho, hMo]
      refine ⟨hmk, fun p => ?_⟩
      show T _ _ _
      refine ⟨by rw [e1]; rw [e1] at hB; exact hB.2, fun w' hw hF => ?_⟩
      have := hF.2 (p, ob) (by simp)
      exact hp p w' hw this.1 this.2
    · rename_i e
      rw [e] at hB ⊢
      obtain ⟨o, ob, o', ob', ho, hMo, hmk, ho', hMo', hmk', hne, hp⟩ := hf
      simp only [mkB, Bool.and_eq_true, decide_eq_true_eq] at hB
      have e1 : n = n1 + 2 := by omega
      obtain ⟨⟨⟨b1, b2⟩, b3⟩, b4⟩ := hB
      have fact : ∀ p q w', Ext w w' → (F w [(q, ob'), (p, ob)] w' ∨ F w [(p, ob), (q, ob')] w') → wpList P l.toArray Q (l.drop n) ((a.put o.dst (ptr p)).put o'.dst (ptr q)) w' := by
        intro p q w' hw hF
        rcases hF with hF | hF
        · have h1 := hF.2 (p, ob) (by simp); have h2 := hF.2 (q, ob') (by simp)
          have h3 := hF.1
          simp at h3
          exact hp p q w' hw (fun e => h3 e.symm) h1.1 h2.1 h1.2 h2.2
        · have h1 := hF.2 (p, ob) (by simp); have h2 := hF.2 (q, ob') (by simp)
          have h3 := hF.1
          simp at h3
          exact hp p q w' hw h3 h1.1 h2.1 h1.2 h2.2
      refine ⟨by rw [b1]; simp, fun i hi => ?_⟩
      rw [b1] at hi
      have hi' : i = n1 ∨ i = n1 + 1 := by simpa using hi
      rcases hi' with rfl | rfl
      · refine ⟨by omega, ?_⟩
        unfold stp
        simp only [ho, hMo]
        refine ⟨hmk, fun p => ?_⟩
        refine ⟨by rw [b2]; simp, fun j hj => ?_⟩
        rw [b2] at hj
        have hj' : j = i + 1 := by simpa using hj
        subst hj'
        refine ⟨by omega, ?_⟩
        unfold stp
        simp only [ho', hMo']
        refine ⟨hmk', fun q => ?_⟩
        show T _ _ _
        exact ⟨by rw [e1]; rw [e1] at b4; exact b4, fun w' hw hF => fact p q w' hw (.inl hF)⟩
      · refine ⟨by omega, ?_⟩
        unfold stp
        simp only [ho', hMo']
        refine ⟨hmk', fun q => ?_⟩
        refine ⟨by rw [b3]; simp, fun j hj => ?_⟩
        rw [b3] at hj
        have hj' : j = n1 := by simpa using hj
        subst hj'
        refine ⟨by omega, ?_⟩
        unfold stp
        simp only [ho, hMo]
        refine ⟨hmk, fun p => ?_⟩
        show T _ _ _
        rw [← Act.put_comm a (ptr p) (ptr q) hne, Array.setIfInBounds_comm _ _ (by omega)]
        exact ⟨by rw [e1]; rw [e1] at b4; exact b4, fun w' hw hF => fact p q w' hw (.inr hF)⟩
    · exact hf.elim
  have H := WX_lex (md := .any) (M := M) (T := T) hsel hs hc hn hn1 hM hdone hb (l.take n1) 0 _ a (fun j hj => by
    have hj' : j < n1 := by rw [htl] at hj; exact hj
    simp [hj']) (by simpa using htl) inv0 (by rw [htl]; exact hlex) h
  refine wp_region_any hm ?_
  have := WX.sound (Q := Q) (g := l.toArray.size - n) (fun listed a' bs w' hT hw hF => by
    have := wpAny_of_seq (md := .any) (Q' := Q) (l.drop n) n listed a' w' (fun j => by simp [List.getElem?_drop]) (by rw [hdl]; exact hT.1) (hT.2 w' hw hF)
    rwa [hdl] at this) _ _ _ _ { w with drawn := w.drawn + 1 } H (Ext.drew (Ext.refl w)) ⟨List.Pairwise.nil, fun b hb => by cases hb⟩
  rw [htl, show n1 + (n - n1) + (l.toArray.size - n) = l.toArray.size by omega] at this
  exact this
end
end Go.Proofs.Ytbeoihjfjkbfhaa.Dw.Rg

namespace Go.Proofs.Ytbeoihjfjkbfhaa.Dw.Rr
open Go.RowKit Go.Proofs.Ytbeoihjfjkbfhaa Go.Proofs.Ytbeoihjfjkbfhaa.Dw Go.Proofs.Ytbeoihjfjkbfhaa.Dw.Rg

inductive Kd | y | z | m
deriving DecidableEq

/-- What a call may panic with. -/
abbrev Pnc := List PanicEntry → World → Prop

section
variable {P : Program} {ops : Array Oper} {md : Region.Mode} {w0 : World} {kd : Nat → Kd} {M : Nat → Obj × (Nat → Value)} {n : Nat} {Pn : Pnc} {E : List Nat}

abbrev Fs := List (World → Prop)
def Holds (fs : Fs) (w : World) : Prop := ∀ f ∈ fs, f w
/-- What holds of a world holds of every world grown out of it. -/
def Keeps (f : World → Prop) : Prop := ∀ w w', f w → Ext w w' → f w'
def Blk (w0 : World) (p : Nat) (ob : Obj) : World → Prop := fun w => w0.heap.size ≤ p ∧ w.heap[p]? = some ob
theorem Blk.keeps {p : Nat} {ob : Obj} : Keeps (Blk w0 p ob) := fun _ _ h e => ⟨h.1, (e.block _ (lt_of_heap h.2)).trans h.2⟩
abbrev Le (fs fs' : Fs) : Prop := ∀ f ∈ fs, f ∈ fs'
theorem Holds.le {fs fs' : Fs} {w : World} (h : Holds fs' w) (l : Le fs fs') : Holds fs w := fun f hf => h f (l f hf)

/-- One value, in every grown world in which the facts hold. -/
def Y (P : Program) (ops : Array Oper) (w0 : World) (fs : Fs) (o : Oper) (v : Value) (a : Act) : Prop :=
  (Region.wanted o (yielded ops a.tmps) = true ∧ ∀ w, Ext w0 w → Holds fs w → up P w v ((execOp a.eval o).run P w)) ∨ (Region.wanted o (yielded ops a.tmps) = false ∧ v = undef)
theorem Y.of_same {fs : Fs} {o : Oper} {v : Value} {a a' : Act} (hy : Y P ops w0 fs o v a) (he : execOp a'.eval o = execOp a.eval o)
    (hw : Region.wanted o (yielded ops a'.tmps) = Region.wanted o (yielded ops a.tmps)) : Y P ops w0 fs o v a' := by
  unfold Y at *
  rw [he, hw]
  exact hy
theorem Y.more {fs fs' : Fs} {o : Oper} {v : Value} {a : Act} (hy : Y P ops w0 fs o v a) (l : Le fs fs') : Y P ops w0 fs' o v a :=
  hy.imp (fun ⟨h1, h2⟩ => ⟨h1, fun w e hf => h2 w e (hf.le l)⟩) id

def upR (P : Program) (Pn : Pnc) (w : World) (R : Value → World → Prop) : Result Next → Prop
  | .ok (.value v) w' => Ext w w' ∧ R v w'
  | .ok (.enter f args) w' => w' = w ∧ Calls P f args w (fun e w'' => Ext w w'' ∧ ((∃ v, e = .returned v ∧ R v w'') ∨ ∃ c, e = .panicked c ∧ Pn c w''))
  | _ => False
theorem upR_value {w w' : World} {R : Value → World → Prop} {v : Value} (h : Ext w w') (r : R v w') : upR P Pn w R (.ok (.value v) w') := ⟨h, r⟩
theorem upR_enter {w : World} {R : Value → World → Prop} {f : FuncId} {args : Array Value} (h : Calls P f args w (fun e w'' => ∃ v, e = .returned v ∧ Ext w w'' ∧ R v w'')) : upR P Pn w R (.ok (.enter f args) w) := ⟨rfl, h.mono fun _ _ ⟨v, he, hx, hr⟩ => ⟨hx, .inl ⟨v, he, hr⟩⟩⟩
theorem upR_panic {w : World} {R : Value → World → Prop} {f : FuncId} {args : Array Value} (h : Calls P f args w (fun e w'' => ∃ c, e = .panicked c ∧ Ext w w'' ∧ Pn c w'')) : upR P Pn w R (.ok (.enter f args) w) := ⟨rfl, h.mono fun _ _ ⟨v, he, hx, hr⟩ => ⟨hx, .inr ⟨v, he, hr⟩⟩⟩

/-- An operation whose result is known by a relation. -/
def Z (P : Program) (Pn : Pnc) (ops : Array Oper) (w0 : World) (fs : Fs) (o : Oper) (R : Value → World → Prop) (a : Act) : Prop :=
  Region.wanted o (yielded ops a.tmps) = true ∧ (∀ v, Keeps (R v)) ∧ ∀ w, Ext w0 w → Holds fs w → upR P Pn w R ((execOp a.eval o).run P w)
theorem Z.of_same {fs : Fs} {o : Oper} {R : Value → World → Prop} {a a' : Act} (hy : Z P Pn ops w0 fs o R a) (he : execOp a'.eval o = execOp a.eval o)
    (hw : Region.wanted o (yielded ops a'.tmps) = Region.wanted o (yielded ops a.tmps)) : Z P Pn ops w0 fs o R a' := by
  unfold Z at *
  rw [he, hw]
  exact hy
theorem Z.more {fs fs' : Fs} {o : Oper} {R : Value → World → Prop} {a : Act} (hy : Z P Pn ops w0 fs o R a) (l : Le fs fs') : Z P Pn ops w0 fs' o R a :=
  ⟨hy.1, hy.2.1, fun w e hf => hy.2.2 w e (hf.le l)⟩

/-- It makes a block, and its value is known by the block's place. -/
def Mk (P : Program) (ops : Array Oper) (o : Oper) (m : Obj × (Nat → Value)) (a : Act) : Prop :=
  Region.wanted o (yielded ops a.tmps) = true ∧ ∀ w, (execOp a.eval o).run P w = .ok (.value (m.2 w.heap.size)) (w.alloc m.1)
theorem Mk.of_same {o : Oper} {m : Obj × (Nat → Value)} {a a' : Act} (hy : Mk P ops o m a) (he : execOp a'.eval o = execOp a.eval o)
    (hw : Region.wanted o (yielded ops a'.tmps) = Region.wanted o (yielded ops a.tmps)) : Mk P ops o m a' := by
  unfold Mk at *
  rw [he, hw]
  exact hy

/-- K: what goes on. -/
def stp (P : Program) (Pn : Pnc) (ops : Array Oper) (w0 : World) (kd : Nat → Kd) (M : Nat → Obj × (Nat → Value)) (i : Nat) (K : Act → List Nat → Fs → Prop) (a : Act) (bs : List Nat) (fs : Fs) : Prop :=
  match ops[i]? with
  | none => False
  | some o => match kd i with
    | .m => Mk P ops o (M i) a ∧ ∀ p, p ∉ bs → K (a.put o.dst ((M i).2 p)) (p :: bs) (Blk w0 p (M i).1 :: fs)
    | .z => ∃ R, Z P Pn ops w0 fs o R a ∧ ∀ v, K (a.put o.dst v) bs (R v :: fs)
    | .y => ∃ v, Y P ops w0 fs o v a ∧ K (a.put o.dst v) bs fs

/-- What may come next, where the first operation of the tail is made to wait for those of E besides. -/
def rdy (md : Region.Mode) (ops : Array Oper) (n : Nat) (E : List Nat) (listed : Array Bool) : List Nat := (Region.ready md ops listed).filter fun j => j != n || E.all fun i => listed.getD i false
theorem mem_rdy {j : Nat} {listed : Array Bool} : j ∈ rdy md ops n E listed ↔ j ∈ Region.ready md ops listed ∧ (j = n → ∀ i ∈ E, listed.getD i false = true) := by
  unfold rdy
  rw [List.mem_filter]
  refine and_congr_right fun _ => ?_
  by_cases h : j = n
  · simp [h]
  · simp [h]
theorem rdy_mono {i j : Nat} {listed : Array Bool} (hj : j ∈ rdy md ops n E listed) (hne : j ≠ i) : j ∈ rdy md ops n E (listed.setIfInBounds i true) := by
  rw [mem_rdy] at hj ⊢
  exact ⟨ready_mono hj.1 hne, fun h k hk => getD_set_true (hj.2 h k hk)⟩

def sinkE (md : Region.Mode) (ops : Array Oper) (E : List Nat) (n : Nat) : Bool :=
  (List.range n).all fun i => E.contains i || (List.range (n + 1)).any fun j => decide (i < j) && Region.waitsFor md ops j i

theorem tailE {listed : Array Bool} (hs : sinkE md ops E n = true) (hc : Region.chainB md ops n = true) (hn : n < ops.size) (inv : HeadInv md ops n listed) :
    ∀ (d i : Nat), n - i = d → i < n → listed.getD i true = false → ∀ t, n ≤ t → t ∉ rdy md ops n E listed := by
  intro d
  induction d using Nat.strongRecOn with
  | _ d ih =>
    intro i hd hi hun t ht hr
    obtain ⟨hrr, hEr⟩ := mem_rdy.1 hr
    obtain ⟨_, ot, hot, hall⟩ := mem_ready.1 hrr
    have htlt : t < ops.size := (Array.getElem?_eq_some_iff.1 hot).1
    by_cases htn : t = n
    · subst htn
      have h1 := List.all_eq_true.1 hs i (List.mem_range.2 hi)
      rw [Bool.or_eq_true] at h1
      rcases h1 with h1 | h1
      · have := hEr rfl i (by simpa using h1)
        rw [getD_both hun] at this; cases this
      · obtain ⟨j, hj, hj2⟩ := List.any_eq_true.1 h1
        simp only [Bool.and_eq_true, decide_eq_true_eq] at hj2
        obtain ⟨oj, hoj, e, he, hb, hon⟩ := Region.waitsFor_spec hj2.2
        have hjle : j ≤ t := by have := List.mem_range.1 hj; omega
        by_cases hjt : j = t
        · subst hjt
          have : oj = ot := Option.some.inj (hoj.symm.trans hot)
          subst this
          have h2 := hall e he hb
          rw [hon, getD_both hun] at h2
          cases h2
        · cases hl : listed.getD j false with
          | true =>
            have h2 := inv.closed j oj hoj hl e he hb
            rw [hon, getD_both hun] at h2
            cases h2
          | false =>
            have hjs : j < listed.size := by rw [inv.size]; omega
            exact ih (t - j) (by omega) j rfl (by omega) (getD_in hjs hl) t (Nat.le_refl _) hr
    · have h1 := List.all_eq_true.1 hc t (List.mem_range.2 htlt)
      simp only [Bool.or_eq_true, decide_eq_true_eq] at h1
      rcases h1 with h1 | h1
      · omega
      · obtain ⟨o', ho', e, he, hb, hon⟩ := Region.waitsFor_spec h1
        have : o' = ot := Option.some.inj (ho'.symm.trans hot)
        subst this
        have h2 := hall e he hb
        rw [hon, getD_both (inv.tail (t - 1) (by omega) (by omega))] at h2
        cases h2

/-- Without a guard, of the frame alone. -/
def fieldB (P : Program) (s : TypeId) (f : Nat) : Bool := match P.underlying s with
  | some (.struct fs) => (match fs[f]? with | some fl => (match P.info? fl.type with | some i => i.size != 0 | none => false) | none => false)
  | _ => false
def pureB (P : Program) (o : Oper) : Bool := o.guard.isNone && match o.op with | .extract _ _ => true | .move _ => true | .fieldAddr s _ f => fieldB P s f | _ => false
theorem pure_run {o : Oper} (h : pureB P o = true) {ρ : Operand → Value} {w : World} {v : Value} (hu : up P w v ((execOp ρ o).run P w)) : ∀ w', (execOp ρ o).run P w' = .ok (.value v) w' := by
  intro w'
  obtain ⟨dst, op, ty, ps, af, gd⟩ := o
  unfold pureB at h
  rw [Bool.and_eq_true] at h
  obtain ⟨-, h⟩ := h
  cases op <;> simp only [Bool.false_eq_true] at h
  case fieldAddr s x f =>
    unfold fieldB at h
    generalize hx : ρ x = u at *
    split at h
    · rename_i fs hs
      split at h
      · rename_i fl hf
        split at h
        · rename_i i hi
          have hz : i.size ≠ 0 := by simpa using h
          cases u <;> simp [go_sem, up, hx, hs, hf, hi, hz, Instr.fieldAt, underlying, fieldPlace, sizeOf, typeInfo, Instr.sureAddr] at hu ⊢
          rename_i a
          cases a <;> simp [go_sem, hs, hf, hi, hz, Instr.fieldAt, underlying, fieldPlace, sizeOf, typeInfo, Instr.sureAddr] at hu ⊢
          exact hu
        · cases h
      · cases h
    · cases h
  case move x => simp [go_sem, up] at hu ⊢; exact hu
  case extract x k =>
    generalize hx : ρ x = u at *
    cases u <;> simp [go_sem, up, hx] at hu ⊢
    rename_i vs
    cases hk : vs[k]? with
    | none => simp [go_sem, up, hk] at hu
    | some y => simp [go_sem, up, hk] at hu ⊢; exact hu

/-- What is asked of E. -/
def eagerB (P : Program) (md : Region.Mode) (ops : Array Oper) (kd : Nat → Kd) (E : List Nat) (n : Nat) : Bool :=
  E.all fun i => decide (i < n) && decide (kd i = .y) && Region.free md ops ((List.range ops.size).map fun j => Region.waitsFor md ops n j).toArray i && match ops[i]? with
    | some o => pureB P o && o.after.all fun e => !Region.binds md e || Region.waitsFor md ops n e.on
    | none => false

def WX (P : Program) (Pn : Pnc) (E : List Nat) (md : Region.Mode) (ops : Array Oper) (w0 : World) (kd : Nat → Kd) (M : Nat → Obj × (Nat → Value)) (n : Nat) (T : Array Bool → Act → Fs → Prop) : Nat → Array Bool → Act → List Nat → Fs → Prop
  | 0, listed, a, _, fs => T listed a fs
  | f + 1, listed, a, bs, fs => rdy md ops n E listed ≠ [] ∧ ∀ i ∈ rdy md ops n E listed, i < n ∧ stp P Pn ops w0 kd M i (WX P Pn E md ops w0 kd M n T f (listed.setIfInBounds i true)) a bs fs

theorem le_cons {fs fs' : Fs} (l : Le fs fs') (f : World → Prop) : Le (f :: fs) (f :: fs') := fun g hg => by
  rcases List.mem_cons.1 hg with rfl | hg
  · exact List.mem_cons_self
  · exact List.mem_cons_of_mem _ (l g hg)
theorem le_swap {fs : Fs} (f g : World → Prop) : Le (f :: g :: fs) (g :: f :: fs) := fun x hx => by
  simp only [List.mem_cons] at hx ⊢
  rcases hx with h | h | h
  · exact .inr (.inl h)
  · exact .inl h
  · exact .inr (.inr h)

theorem WX.mono {T : Array Bool → Act → Fs → Prop} (hT : ∀ listed a fs fs', Le fs fs' → T listed a fs → T listed a fs') :
    ∀ (f : Nat) (listed : Array Bool) (a : Act) (bs bs' : List Nat) (fs fs' : Fs), (∀ b ∈ bs, b ∈ bs') → Le fs fs' → WX P Pn E md ops w0 kd M n T f listed a bs fs → WX P Pn E md ops w0 kd M n T f listed a bs' fs'
  | 0, _, _, _, _, _, _, _, l, h => hT _ _ _ _ l h
  | f + 1, listed, a, bs, bs', fs, fs', hb, l, h => by
    refine ⟨h.1, fun i hi => ⟨(h.2 i hi).1, ?_⟩⟩
    have h1 := (h.2 i hi).2
    unfold stp at h1 ⊢
    split at h1
    · exact h1.elim
    · split at h1
      · refine ⟨h1.1, fun p hp => WX.mono hT f _ _ _ _ _ _ (fun b hb' => ?_) (le_cons l _) (h1.2 p fun h => hp (hb _ h))⟩
        rcases List.mem_cons.1 hb' with rfl | hb'
        · exact List.mem_cons_self
        · exact List.mem_cons_of_mem _ (hb b hb')
      · obtain ⟨R, hz, hk⟩ := h1
        exact ⟨R, hz.more l, fun v => WX.mono hT f _ _ _ _ _ _ hb (le_cons l _) (hk v)⟩
      · obtain ⟨v, hy, hk⟩ := h1
        exact ⟨v, hy.more l, WX.mono hT f _ _ _ _ _ _ hb l hk⟩

theorem Y.wpOp {fs : Fs} {i : Nat} {o : Oper} {v : Value} {a : Act} {w : World} {K : Act → World → Prop} {Q : Exit → Act → World → Prop} (hi : ops[i]? = some o) (hy : Y P ops w0 fs o v a) (hw : Ext w0 w) (hf : Holds fs w)
    (h : ∀ w', Ext w w' → K (a.put o.dst v) w') : wpOp P ops Q i K a w := by
  unfold Go.wpOp
  simp only [hi]
  rcases hy with ⟨hwt, hu⟩ | ⟨hwt, rfl⟩
  · simp only [hwt, if_true]
    refine .inl ?_
    have := hu w hw hf
    unfold Oper.wp
    generalize (execOp a.eval o).run P w = r at *
    cases r with
    | ok x w' =>
      cases x <;> simp only [up] at this <;> simp only [Oper.upon]
      case value u => obtain ⟨rfl, rfl⟩ := this; exact h _ (Ext.refl _)
      case skip => obtain ⟨rfl, rfl⟩ := this; exact h _ (Ext.refl _)
      case enter f args =>
        obtain ⟨rfl, hc⟩ := this
        exact hc.mono fun e w'' ⟨he, hb⟩ => by subst he; exact h _ hb
    | halt x w' => simp only [up] at this
  · simp only [hwt, Bool.false_eq_true, if_false]
    exact h _ (Ext.refl _)

theorem Z.wpOp {fs : Fs} {i : Nat} {o : Oper} {R : Value → World → Prop} {a : Act} {w : World} {K : Act → World → Prop} {Q : Exit → Act → World → Prop} (hi : ops[i]? = some o) (hy : Z P Pn ops w0 fs o R a) (hw : Ext w0 w) (hf : Holds fs w)
    (hQ : ∀ c w', Ext w0 w' → Pn c w' → Q (.panic c) a w')
    (h : ∀ v w', Ext w w' → R v w' → K (a.put o.dst v) w') : wpOp P ops Q i K a w := by
  unfold Go.wpOp
  obtain ⟨hwt, _, hu⟩ := hy
  simp only [hi, hwt, if_true]
  refine .inl ?_
  have := hu w hw hf
  unfold Oper.wp
  generalize (execOp a.eval o).run P w = r at *
  cases r with
  | ok x w' =>
    cases x <;> simp only [upR] at this
    case value v =>
      simp only [Oper.upon]
      exact h _ _ this.1 this.2
    case enter f args =>
      simp only [Oper.upon]
      obtain ⟨rfl, hc⟩ := this
      refine hc.mono fun e w'' ⟨hb, hr⟩ => ?_
      rcases hr with ⟨v, he, hr⟩ | ⟨c, he, hr⟩
      · subst he; exact h _ _ hb hr
      · subst he; exact hQ _ _ (hw.trans hb) hr
  | halt x w' => simp only [upR] at this

theorem Holds.cons {f : World → Prop} {fs : Fs} {w : World} (h : f w) (hs : Holds fs w) : Holds (f :: fs) w := fun g hg => by
  rcases List.mem_cons.1 hg with rfl | hg
  · exact h
  · exact hs g hg

theorem put_defers (a : Act) (d : Option Tmp) (v : Value) : (a.put d v).defers = a.defers := by cases d <;> rfl

theorem WX.sound {T : Array Bool → Act → Fs → Prop} {Q : Exit → Act → World → Prop} {g : Nat} {ds : List Deferred}
    (hT : ∀ listed a fs w, T listed a fs → Ext w0 w → Holds fs w → wpAny P md ops Q g listed a w) (hQ : ∀ c a w', a.defers = ds → Ext w0 w' → Pn c w' → Q (.panic c) a w')
    (hsel : ∀ (j : Nat) (o : Oper) cs b, ops[j]? = some o → o.op ≠ .select cs b) (hEB : eagerB P md ops kd E n = true) (hQp : E ≠ [] → ∀ c a d v w, Q (.panic c) (a.put d v) w → Q (.panic c) a w) :
    ∀ (f : Nat) (listed : Array Bool) (a : Act) (bs : List Nat) (fs : Fs) (w : World), a.defers = ds → HeadInv md ops n listed → WX P Pn E md ops w0 kd M n T f listed a bs fs → Ext w0 w → (∀ b ∈ bs, b < w.heap.size) → Holds fs w → (∀ x ∈ fs, Keeps x) → wpAny P md ops Q (f + g) listed a w
  | 0, listed, a, bs, fs, w, _, _, h, e, _, hH, _ => by rw [Nat.zero_add]; exact hT _ _ _ _ h e hH
  | f + 1, listed, a, bs, fs, w, hd, inv, h, e, hB, hH, hK => by
    rw [show f + 1 + g = (f + g) + 1 by omega]
    have ext : ∀ w', Ext w w' → Holds fs w' := fun w' hw' x hx => hK x hx w w' (hH x hx) hw'
    have blw : ∀ w', Ext w w' → ∀ b ∈ bs, b < w'.heap.size := fun w' hw' b hb => Nat.lt_of_lt_of_le (hB b hb) hw'.size
    by_cases hE : ∃ i ∈ E, n ∈ Region.ready md ops listed ∧ listed.getD i false = false
    · obtain ⟨i, hiE, hnr, hun⟩ := hE
      have hb := List.all_eq_true.1 hEB i hiE
      simp only [Bool.and_eq_true, decide_eq_true_eq] at hb
      obtain ⟨⟨⟨hin, hky⟩, hfree⟩, hb⟩ := hb
      split at hb
      · rename_i o ho
        rw [Bool.and_eq_true] at hb
        obtain ⟨hpu, haf⟩ := hb
        obtain ⟨_, on, hon, hall⟩ := mem_ready.1 hnr
        have his : i < listed.size := by rw [inv.size]; exact (Array.getElem?_eq_some_iff.1 ho).1
        have hir : i ∈ Region.ready md ops listed := mem_ready.2 ⟨getD_in his hun, o, ho, fun e he hbi => by
          have h1 := Array.all_eq_true_iff_forall_mem.1 haf e he
          rw [hbi, Bool.not_true, Bool.false_or] at h1
          obtain ⟨on', hon', e', he', hb', hee⟩ := Region.waitsFor_spec h1
          have : on' = on := Option.some.inj (hon'.symm.trans hon)
          subst this
          rw [← hee]
          exact hall e' he' hb'⟩
        have hi : i ∈ rdy md ops n E listed := mem_rdy.2 ⟨hir, fun h => absurd h (by omega)⟩
        have hi0 := hir
        have hs := (h.2 i hi).2
        unfold stp at hs
        simp only [ho, hky] at hs
        obtain ⟨v, hy, hk⟩ := hs
        have hyi : Yields P ops o v a := hy.imp (fun ⟨h1, h2⟩ => ⟨h1, pure_run hpu (h2 w e hH)⟩) id
        refine wpAny_first ho hsel (fun c a w => hQp (fun h => by rw [h] at hiE; cases hiE) c a _ _ w) (f + g) listed a w (fun j oj hj hne hju hno => Region.free_spec ho hfree j oj hj hne (by
          have hjs := (Array.getElem?_eq_some_iff.1 hj).1
          cases hwj : Region.waitsFor md ops n j with
          | false => simp [hjs, hwj]
          | true =>
            obtain ⟨on', hon', e', he', hb', hee⟩ := Region.waitsFor_spec hwj
            have : on' = on := Option.some.inj (hon'.symm.trans hon)
            subst this
            have := hall e' he' hb'
            rw [hee, getD_both hju] at this
            cases this) hno) hir hyi ?_
        exact WX.sound hT hQ hsel hEB hQp f _ _ _ _ _ ((put_defers _ _ _).trans hd) (inv.set hi0 (h.2 i hi).1) hk e hB hH hK
      · cases hb
    have hrd : ∀ j, j ∈ Region.ready md ops listed → j ∈ rdy md ops n E listed := fun j hj => mem_rdy.2 ⟨hj, fun hjn i hiE => by
      cases hc : listed.getD i false with
      | true => rfl
      | false => exact absurd ⟨i, hiE, hjn ▸ hj, hc⟩ hE⟩
    refine ⟨fun h0 => absurd (List.eq_nil_iff_forall_not_mem.2 fun j hj => by rw [h0] at hrd; have := (mem_rdy.1 hj).1; rw [h0] at this; cases this) h.1, fun i hi0 => ?_⟩
    have hi := hrd i hi0
    have hs := (h.2 i hi).2
    unfold stp at hs
    split at hs
    · exact hs.elim
    · rename_i o ho
      split at hs
      · obtain ⟨⟨hwt, hm⟩, hp⟩ := hs
        unfold wpOp
        simp only [ho, hwt, if_true]
        refine .inl ?_
        unfold Oper.wp
        rw [hm]
        simp only [Oper.upon]
        have e1 : Ext w (w.alloc (M i).1) := (Ext.refl w).alloc _
        have hsz : (w.alloc (M i).1).heap.size = w.heap.size + 1 := by show (w.heap.push _).size = _; simp
        refine WX.sound hT hQ hsel hEB hQp f _ _ _ _ _ ((put_defers _ _ _).trans hd) (inv.set hi0 (h.2 i hi).1) (hp w.heap.size fun h => Nat.lt_irrefl _ (hB _ h)) (e.alloc _) (fun b hb => ?_) (Holds.cons ⟨e.size, ?_⟩ (ext _ e1)) fun x hx => ?_
        · rcases List.mem_cons.1 hb with rfl | hb
          · omega
          · exact blw _ e1 b hb
        · show (w.heap.push _)[w.heap.size]? = _
          simp
        · rcases List.mem_cons.1 hx with rfl | hx
          · exact Blk.keeps
          · exact hK x hx
      · obtain ⟨R, hz, hk⟩ := hs
        exact hz.wpOp ho e hH (fun c w' => hQ c a w' hd) fun v w' hw' hr => WX.sound hT hQ hsel hEB hQp f _ _ _ _ _ ((put_defers _ _ _).trans hd) (inv.set hi0 (h.2 i hi).1) (hk v) (e.trans hw') (blw w' hw') (Holds.cons hr (ext w' hw'))
          (fun x hx => (List.mem_cons.1 hx).elim (fun e => e ▸ hz.2.1 v) (fun h => hK x h))
      · obtain ⟨v, hy, hk⟩ := hs
        exact hy.wpOp ho e hH fun w' hw' => WX.sound hT hQ hsel hEB hQp f _ _ _ _ _ ((put_defers _ _ _).trans hd) (inv.set hi0 (h.2 i hi).1) hk (e.trans hw') (blw w' hw') (ext w' hw') hK

/-- What the first step needs of an operation i: its kind, and what follows it. -/
def At (P : Program) (Pn : Pnc) (ops : Array Oper) (w0 : World) (M : Nat → Obj × (Nat → Value)) (i : Nat) (oi : Oper) (k : Kd) (a : Act) (fs : Fs) (R : Value → World → Prop) (u : Value) : Prop :=
  match k with
  | .m => Mk P ops oi (M i) a
  | .z => Z P Pn ops w0 fs oi R a
  | .y => Y P ops w0 fs oi u a
def Goes (w0 : World) (M : Nat → Obj × (Nat → Value)) (i : Nat) (oi : Oper) (k : Kd) (K : Act → List Nat → Fs → Prop) (a : Act) (bs : List Nat) (fs : Fs) (R : Value → World → Prop) (u : Value) : Prop :=
  match k with
  | .m => ∀ p, p ∉ bs → K (a.put oi.dst ((M i).2 p)) (p :: bs) (Blk w0 p (M i).1 :: fs)
  | .z => ∀ v, K (a.put oi.dst v) bs (R v :: fs)
  | .y => K (a.put oi.dst u) bs fs

theorem stp_of {i : Nat} {oi : Oper} {R : Value → World → Prop} {u : Value} (hi : ops[i]? = some oi) {K : Act → List Nat → Fs → Prop} {a : Act} {bs : List Nat} {fs : Fs} (h1 : At P Pn ops w0 M i oi (kd i) a fs R u) (h2 : Goes w0 M i oi (kd i) K a bs fs R u) : stp P Pn ops w0 kd M i K a bs fs := by
  unfold stp
  simp only [hi]
  unfold At Goes at *
  revert h1 h2
  cases kd i <;> intro h1 h2
  · exact ⟨u, h1, h2⟩
  · exact ⟨R, h1, h2⟩
  · exact ⟨h1, h2⟩
theorem of_stp {i : Nat} {oi : Oper} (hi : ops[i]? = some oi) {K : Act → List Nat → Fs → Prop} {a : Act} {bs : List Nat} {fs : Fs} (h : stp P Pn ops w0 kd M i K a bs fs) : ∃ R u, At P Pn ops w0 M i oi (kd i) a fs R u ∧ Goes w0 M i oi (kd i) K a bs fs R u := by
  unfold stp at h
  simp only [hi] at h
  unfold At Goes
  revert h
  cases kd i <;> intro h
  · obtain ⟨v, h1, h2⟩ := h; exact ⟨fun _ _ => True, v, h1, h2⟩
  · obtain ⟨R, h1, h2⟩ := h; exact ⟨R, undef, h1, h2⟩
  · exact ⟨fun _ _ => True, undef, h⟩
theorem At.of_same {i : Nat} {oi : Oper} {k : Kd} {a a' : Act} {fs : Fs} {R : Value → World → Prop} {u : Value} (h : At P Pn ops w0 M i oi k a fs R u) (he : execOp a'.eval oi = execOp a.eval oi)
    (hw : Region.wanted oi (yielded ops a'.tmps) = Region.wanted oi (yielded ops a.tmps)) : At P Pn ops w0 M i oi k a' fs R u := by
  unfold At at *
  cases k
  · exact Y.of_same h he hw
  · exact Z.of_same h he hw
  · exact Mk.of_same h he hw
theorem At.more {i : Nat} {oi : Oper} {k : Kd} {a : Act} {fs fs' : Fs} {R : Value → World → Prop} {u : Value} (h : At P Pn ops w0 M i oi k a fs R u) (l : Le fs fs') : At P Pn ops w0 M i oi k a fs' R u := by
  unfold At at *
  cases k
  · exact Y.more h l
  · exact Z.more h l
  · exact h
theorem At.less {i : Nat} {oi : Oper} {a : Act} {fs fs' : Fs} {R : Value → World → Prop} {u : Value} (h : At P Pn ops w0 M i oi .m a fs R u) : At P Pn ops w0 M i oi .m a fs' R u := h

theorem fresh_nat : ∀ bs : List Nat, ∃ p, ∀ b ∈ bs, b < p
  | [] => ⟨0, fun _ h => by cases h⟩
  | b :: bs => by
    obtain ⟨p, hp⟩ := fresh_nat bs
    refine ⟨p + b + 1, fun x hx => ?_⟩
    rcases List.mem_cons.1 hx with rfl | hx
    · omega
    · have := hp x hx; omega

/-- The value and the facts that a step of kind k brings. -/
theorem Goes.some {i : Nat} {oi : Oper} {k : Kd} {K : Act → List Nat → Fs → Prop} {a : Act} {bs : List Nat} {fs : Fs} {R : Value → World → Prop} {u : Value} (h : Goes w0 M i oi k K a bs fs R u) : ∃ v bs' fs', K (a.put oi.dst v) bs' fs' := by
  unfold Goes at h
  cases k
  · exact ⟨_, _, _, h⟩
  · exact ⟨_, _, _, h undef⟩
  · obtain ⟨p, hp⟩ := fresh_nat bs
    exact ⟨_, _, _, h p fun h => Nat.lt_irrefl _ (hp p h)⟩

/-- Whatever is listed ahead of i: the others that come up are allocations. -/
def Alone (md : Region.Mode) (ops : Array Oper) (kd : Nat → Kd) (n : Nat) (i : Nat) (listed : Array Bool) : Prop :=
  ∀ listed', HeadInv md ops n listed' → (∀ k, listed.getD k true = true → listed'.getD k true = true) → listed'.getD i true = false → ∀ j ∈ Region.ready md ops listed', j ≠ i → j < n → kd j = .m

theorem WX_first {T : Array Bool → Act → Fs → Prop} {i : Nat} {oi : Oper} (hi : ops[i]? = some oi) (hT : ∀ listed a fs fs', Le fs fs' → T listed a fs → T listed a fs')
    (hsel : ∀ (j : Nat) (o : Oper) cs b, ops[j]? = some o → o.op ≠ .select cs b)
    (hs : sinkE md ops E n = true) (hc : Region.chainB md ops n = true) (hn : n < ops.size) (hin : i < n)
    (hdone : ∀ listed a fs, T listed a fs → ∀ j ∈ rdy md ops n E listed, n ≤ j) (R : Value → World → Prop) (u : Value) :
    ∀ (f : Nat) (listed : Array Bool) (a : Act) (bs : List Nat) (fs : Fs), HeadInv md ops n listed →
      (∀ j oj, ops[j]? = some oj → j ≠ i → listed.getD j true = false → (∀ e ∈ oj.after, Region.binds md e = true → e.on ≠ i) → oi.apart ops oj = true) →
      (kd i = .y ∨ Alone md ops kd n i listed) →
      i ∈ rdy md ops n E listed → At P Pn ops w0 M i oi (kd i) a fs R u →
      Goes w0 M i oi (kd i) (WX P Pn E md ops w0 kd M n T f (listed.setIfInBounds i true)) a bs fs R u → WX P Pn E md ops w0 kd M n T (f + 1) listed a bs fs := by
  intro f
  induction f with
  | zero =>
    intro listed a bs fs inv _ _ hr hy H
    have hun := (mem_ready.1 (mem_rdy.1 hr).1).1
    refine ⟨fun h => (by rw [h] at hr; cases hr), fun j hj => ?_⟩
    have hjn : j < n := by
      rcases Nat.lt_or_ge j n with h | h
      · exact h
      · exact absurd hj (tailE hs hc hn inv _ i rfl hin hun j h)
    refine ⟨hjn, ?_⟩
    by_cases hji : j = i
    · subst hji; exact stp_of hi hy H
    · obtain ⟨_, _, _, h⟩ := H.some
      have := hdone _ _ _ h j (rdy_mono hj hji)
      omega
  | succ f ih =>
    intro listed a bs fs inv hfree hal hr hy H
    have hun := (mem_ready.1 (mem_rdy.1 hr).1).1
    refine ⟨fun h => (by rw [h] at hr; cases hr), fun j hj => ?_⟩
    have hjn : j < n := by
      rcases Nat.lt_or_ge j n with h | h
      · exact h
      · exact absurd hj (tailE hs hc hn inv _ i rfl hin hun j h)
    refine ⟨hjn, ?_⟩
    by_cases hji : j = i
    · subst hji; exact stp_of hi hy H
    · obtain ⟨hjun, oj, hoj, hall⟩ := mem_ready.1 (mem_rdy.1 hj).1
      have hnot : ∀ e ∈ oj.after, Region.binds md e = true → e.on ≠ i := fun e he hb heq => by
        have h1 := hall e he hb
        rw [heq, getD_both hun] at h1
        cases h1
      have hap := hfree j oj hoj hji hjun hnot
      obtain ⟨k1, k2, k3⟩ := Oper.apart_spec hap
      have keep : ∀ v, At P Pn ops w0 M i oi (kd i) (a.put oj.dst v) fs R u := fun v =>
        hy.of_same (execOp_put oi (fun cs b => hsel i oi cs b hi) a oj.dst v k3) (wanted_put oi a oj.dst v k3)
      have hfree' : ∀ k ok, ops[k]? = some ok → k ≠ i → (listed.setIfInBounds j true).getD k true = false →
          (∀ e ∈ ok.after, Region.binds md e = true → e.on ≠ i) → oi.apart ops ok = true := fun k ok hk hki hun hno => by
        refine hfree k ok hk hki ?_ hno
        by_cases hjk : j = k
        · subst hjk; exact hjun
        · rw [getD_set_ne true hjk] at hun; exact hun
      have hal' : kd i = .y ∨ Alone md ops kd n i (listed.setIfInBounds j true) := hal.imp id fun h l' i' m' u' => h l' i' (fun k hk => m' k (by
        by_cases hjk : j = k
        · subst hjk; rcases Nat.lt_or_ge j listed.size with h | h <;> simp [h]
        · rw [getD_set_ne true hjk]; exact hk)) u'
      have inv' := inv.set (mem_rdy.1 hj).1 hjn
      have hr' := rdy_mono hr (Ne.symm hji)
      have back : ∀ (v v' : Value), execOp (a.put oi.dst v).eval oj = execOp a.eval oj ∧ Region.wanted oj (yielded ops (a.put oi.dst v).tmps) = Region.wanted oj (yielded ops a.tmps) :=
        fun v _ => ⟨execOp_put oj (fun cs b => hsel j oj cs b hoj) a oi.dst v k1, wanted_put oj a oi.dst v k1⟩
      have swap : ∀ (v v' : Value) (bs' bs'' : List Nat) (fs' fs'' : Fs), (∀ b ∈ bs', b ∈ bs'') → Le fs' fs'' → WX P Pn E md ops w0 kd M n T f ((listed.setIfInBounds i true).setIfInBounds j true) ((a.put oi.dst v).put oj.dst v') bs' fs' →
          WX P Pn E md ops w0 kd M n T f ((listed.setIfInBounds j true).setIfInBounds i true) ((a.put oj.dst v').put oi.dst v) bs'' fs'' := fun v v' bs' bs'' fs' fs'' hb hl h => by
        rw [Array.setIfInBounds_comm _ _ hji, ← Act.put_comm a v v' k2]
        exact h.mono hT f _ _ _ _ _ _ hb hl
      -- j is an allocation, or i reads
      rcases hal with hky | hal
      · rw [hky] at H hy keep
        have h1 := of_stp hoj (H.2 j (rdy_mono hj hji)).2
        obtain ⟨Rj, uj, hAt, hGo⟩ := h1
        refine stp_of hoj (R := Rj) (u := uj) (hAt.of_same (back u u).1.symm (back u u).2.symm) ?_
        have run : ∀ (v : Value) (bs' : List Nat) (fs' : Fs), Le fs fs' → WX P Pn E md ops w0 kd M n T f ((listed.setIfInBounds i true).setIfInBounds j true) ((a.put oi.dst u).put oj.dst v) bs' fs' → WX P Pn E md ops w0 kd M n T (f + 1) (listed.setIfInBounds j true) (a.put oj.dst v) bs' fs' := by
          intro v bs' fs' hl h
          refine ih _ _ _ _ inv' hfree' hal' hr' (by rw [hky]; exact (keep v).more hl) ?_
          rw [hky]
          exact swap u v bs' bs' fs' fs' (fun _ h => h) (fun _ h => h) h
        revert hGo
        unfold Goes
        cases kd j <;> intro hGo
        · exact run _ _ _ (fun _ h => h) hGo
        · exact fun v => run _ _ _ (fun _ h => List.mem_cons_of_mem _ h) (hGo v)
        · exact fun p hp => run _ _ _ (fun _ h => List.mem_cons_of_mem _ h) (hGo p hp)
      · have hkm : kd j = .m := hal listed inv (fun _ h => h) hun j (mem_rdy.1 hj).1 hji hjn
        have from_i : ∀ v bs' fs', WX P Pn E md ops w0 kd M n T (f + 1) (listed.setIfInBounds i true) (a.put oi.dst v) bs' fs' → Mk P ops oj (M j) a ∧ ∀ q, q ∉ bs' → WX P Pn E md ops w0 kd M n T f ((listed.setIfInBounds i true).setIfInBounds j true) ((a.put oi.dst v).put oj.dst ((M j).2 q)) (q :: bs') (Blk w0 q (M j).1 :: fs') := by
          intro v bs' fs' h
          have h1 := (h.2 j (rdy_mono hj hji)).2
          unfold stp at h1
          simp only [hoj, hkm] at h1
          exact ⟨h1.1.of_same (back v v).1.symm (back v v).2.symm, h1.2⟩
        unfold stp
        simp only [hoj, hkm]
        obtain ⟨v0, b0, f0, h0⟩ := H.some
        refine ⟨(from_i v0 b0 f0 h0).1, fun q hq => ?_⟩
        refine ih _ _ _ _ inv' hfree' hal' hr' ((keep _).more (fun _ h => List.mem_cons_of_mem _ h)) ?_
        revert H
        unfold Goes
        cases kd i <;> intro H
        · exact swap _ _ _ _ _ _ (fun _ h => h) (fun _ h => h) ((from_i _ _ _ H).2 q hq)
        · exact fun v => swap _ _ _ _ _ _ (fun _ h => h) (le_swap _ _) ((from_i _ _ _ (H v)).2 q hq)
        · intro p hp
          refine swap _ _ _ _ _ _ (fun b hb => ?_) (le_swap _ _) ((from_i _ _ _ (H p fun h => hp (List.mem_cons_of_mem _ h))).2 q fun h => ?_)
          · simp only [List.mem_cons] at hb ⊢
            rcases hb with h | h | h
            · exact .inr (.inl h)
            · exact .inl h
            · exact .inr (.inr h)
          · rcases List.mem_cons.1 h with h | h
            · exact hp (h ▸ List.mem_cons_self)
            · exact hq h

/-- The walk in a given order. -/
def wr (P : Program) (Pn : Pnc) (ops : Array Oper) (w0 : World) (M : Nat → Obj × (Nat → Value)) (fin : Act → Fs → Prop) : List (Nat × Kd) → Act → List Nat → Fs → Prop
  | [], a, _, fs => fin a fs
  | (i, .y) :: rest, a, bs, fs => ∃ o, ops[i]? = some o ∧ ∃ v, Y P ops w0 fs o v a ∧ wr P Pn ops w0 M fin rest (a.put o.dst v) bs fs
  | (i, .z) :: rest, a, bs, fs => ∃ o, ops[i]? = some o ∧ ∃ R, Z P Pn ops w0 fs o R a ∧ ∀ v, wr P Pn ops w0 M fin rest (a.put o.dst v) bs (R v :: fs)
  | (i, .m) :: rest, a, bs, fs => ∃ o, ops[i]? = some o ∧ Mk P ops o (M i) a ∧ ∀ p, p ∉ bs → wr P Pn ops w0 M fin rest (a.put o.dst ((M i).2 p)) (p :: bs) (Blk w0 p (M i).1 :: fs)

theorem wr_nil {fin : Act → Fs → Prop} {a : Act} {bs : List Nat} {fs : Fs} (h : fin a fs) : wr P Pn ops w0 M fin [] a bs fs := h
theorem wr_y {fin : Act → Fs → Prop} {a : Act} {bs : List Nat} {fs : Fs} {i : Nat} {o : Oper} {rest : List (Nat × Kd)} (ho : ops[i]? = some o) (hw : Region.wanted o (yielded ops a.tmps) = true)
    (h : ∃ v, (∀ w, Ext w0 w → Holds fs w → up P w v ((execOp a.eval o).run P w)) ∧ wr P Pn ops w0 M fin rest (a.put o.dst v) bs fs) : wr P Pn ops w0 M fin ((i, .y) :: rest) a bs fs :=
  ⟨o, ho, h.choose, .inl ⟨hw, h.choose_spec.1⟩, h.choose_spec.2⟩
theorem wr_skip {fin : Act → Fs → Prop} {a : Act} {bs : List Nat} {fs : Fs} {i : Nat} {o : Oper} {rest : List (Nat × Kd)} (ho : ops[i]? = some o) (hw : Region.wanted o (yielded ops a.tmps) = false)
    (h : wr P Pn ops w0 M fin rest (a.put o.dst undef) bs fs) : wr P Pn ops w0 M fin ((i, .y) :: rest) a bs fs :=
  ⟨o, ho, undef, .inr ⟨hw, rfl⟩, h⟩
theorem wr_z {fin : Act → Fs → Prop} {a : Act} {bs : List Nat} {fs : Fs} {i : Nat} {o : Oper} {rest : List (Nat × Kd)} (R : Value → World → Prop) (ho : ops[i]? = some o) (hw : Region.wanted o (yielded ops a.tmps) = true) (hk : ∀ v, Keeps (R v))
    (h : ∀ w, Ext w0 w → Holds fs w → upR P Pn w R ((execOp a.eval o).run P w)) (k : ∀ v, wr P Pn ops w0 M fin rest (a.put o.dst v) bs (R v :: fs)) : wr P Pn ops w0 M fin ((i, .z) :: rest) a bs fs :=
  ⟨o, ho, R, ⟨hw, hk, h⟩, k⟩
theorem wr_m {fin : Act → Fs → Prop} {a : Act} {bs : List Nat} {fs : Fs} {i : Nat} {o : Oper} {rest : List (Nat × Kd)} (ho : ops[i]? = some o) (hw : Region.wanted o (yielded ops a.tmps) = true)
    (h : ∀ w, (execOp a.eval o).run P w = .ok (.value ((M i).2 w.heap.size)) (w.alloc (M i).1)) (k : ∀ p, p ∉ bs → wr P Pn ops w0 M fin rest (a.put o.dst ((M i).2 p)) (p :: bs) (Blk w0 p (M i).1 :: fs)) : wr P Pn ops w0 M fin ((i, .m) :: rest) a bs fs :=
  ⟨o, ho, ⟨hw, h⟩, k⟩

/-- All that has not been listed, but i, waits for i or for another such operation ahead of it, or is an allocation, or belongs to the tail. -/
def aloneB (md : Region.Mode) (ops : Array Oper) (kd : Nat → Kd) (n : Nat) (listed : Array Bool) (i : Nat) : Bool :=
  (List.range n).all fun j => decide (kd j = .m) || (j == i) || listed.getD j true ||
    (match ops[j]? with | some o => o.after.any fun e => Region.binds md e && (e.on == i || (decide (e.on < j) && !listed.getD e.on true && !decide (kd e.on = .m))) | none => true)

theorem alone_of {listed : Array Bool} {i : Nat} (h : aloneB md ops kd n listed i = true) : Alone md ops kd n i listed := by
  have key : ∀ (j : Nat), j < n → j ≠ i → kd j ≠ .m → listed.getD j true = false → ∀ listed', HeadInv md ops n listed' → listed'.getD i true = false →
      (∀ oj, ops[j]? = some oj → ¬ ∀ e ∈ oj.after, Region.binds md e = true → listed'.getD e.on false = true) := by
    intro j
    induction j using Nat.strongRecOn with
    | _ j ih =>
      intro hjn hji hkj hun listed' inv hui oj hoj hall
      have h1 := List.all_eq_true.1 h j (List.mem_range.2 hjn)
      simp only [hoj, hun, Bool.or_eq_true, decide_eq_true_eq, beq_iff_eq, Bool.false_eq_true, or_false] at h1
      rcases h1 with (h1 | h1) | h1
      · exact hkj h1
      · exact hji h1
      · obtain ⟨e, he, hb⟩ := Array.any_eq_true'.1 h1
        simp only [Bool.and_eq_true, Bool.or_eq_true, beq_iff_eq, decide_eq_true_eq, Bool.not_eq_true', decide_eq_false_iff_not] at hb
        obtain ⟨hbi, hb⟩ := hb
        have hl := hall e he hbi
        rcases hb with hb | ⟨⟨hlt, hune⟩, hme⟩
        · rw [hb, getD_both hui] at hl; cases hl
        · by_cases hei : e.on = i
          · rw [hei, getD_both hui] at hl; cases hl
          · have hes : e.on < ops.size := by
              have h2 := getD_both hune
              rcases Nat.lt_or_ge e.on ops.size with h | h
              · exact h
              · have : listed'.size ≤ e.on := by rw [inv.size]; exact h
                simp [Array.getElem?_eq_none this] at hl
            exact ih e.on hlt (by omega) hei hme hune listed' inv hui (ops[e.on]'hes) (by simp [hes]) (fun e' he' hb' => inv.closed e.on _ (by simp [hes]) hl e' he' hb')
  intro listed' inv mon hui j hj hji hjn
  obtain ⟨hjun, oj, hoj, hall⟩ := mem_ready.1 hj
  by_cases hkj : kd j = .m
  · exact hkj
  · refine absurd hall (key j hjn hji hkj ?_ listed' inv hui oj hoj)
    cases hc : listed.getD j true with
    | false => rfl
    | true => rw [mon j hc] at hjun; cases hjun

def kdOf (s : List (Nat × Kd)) (i : Nat) : Kd := match s.find? (fun x => x.1 == i) with | some x => x.2 | none => .y

def lexR (md : Region.Mode) (ops : Array Oper) (kd : Nat → Kd) (E : List Nat) (n : Nat) : List (Nat × Kd) → Array Bool → Bool
  | [], listed => Region.seqB md ops (ops.size - n) n listed
  | (i, k) :: rest, listed => decide (i < n) && decide (kd i = k) && (rdy md ops n E listed).contains i && Region.free md ops listed i && (decide (k = .y) || aloneB md ops kd n listed i) && lexR md ops kd E n rest (listed.setIfInBounds i true)

theorem WX_lex {T : Array Bool → Act → Fs → Prop} {fin : Act → Fs → Prop} (hT : ∀ listed a fs fs', Le fs fs' → T listed a fs → T listed a fs') (hsel : Region.noSelect ops = true) (hs : sinkE md ops E n = true) (hc : Region.chainB md ops n = true) (hn : n < ops.size)
    (hdone : ∀ listed a fs, T listed a fs → ∀ j ∈ rdy md ops n E listed, n ≤ j)
    (hb : ∀ listed a fs, Region.seqB md ops (ops.size - n) n listed = true → fin a fs → T listed a fs) :
    ∀ (s : List (Nat × Kd)) (listed : Array Bool) (a : Act) (bs : List Nat) (fs : Fs), HeadInv md ops n listed →
    lexR md ops kd E n s listed = true → wr P Pn ops w0 M fin s a bs fs → WX P Pn E md ops w0 kd M n T s.length listed a bs fs
  | [], listed, a, bs, fs, inv, hB, h => hb listed a fs (by simpa [lexR] using hB) h
  | (i, k) :: rest, listed, a, bs, fs, inv, hB, h => by
    simp only [lexR, Bool.and_eq_true, decide_eq_true_eq, Bool.or_eq_true] at hB
    obtain ⟨⟨⟨⟨⟨hin, hk⟩, hr⟩, hf⟩, hal⟩, hB'⟩ := hB
    have hr' : i ∈ rdy md ops n E listed := by simpa using hr
    have next := fun a bs fs h => WX_lex hT hsel hs hc hn hdone hb rest (listed.setIfInBounds i true) a bs fs (inv.set (mem_rdy.1 hr').1 hin) hB' h
    have hal' : kd i = .y ∨ Alone md ops kd n i listed := hal.imp (fun h => hk.trans h) alone_of
    rw [List.length_cons]
    cases k with
    | y =>
      obtain ⟨o, ho, v, hy, hK⟩ := h
      exact WX_first ho hT (Region.noSelect_spec hsel) hs hc hn hin hdone (fun _ _ => True) v _ listed a bs fs inv (Region.free_spec ho hf) hal' hr' (by rw [hk]; exact hy) (by rw [hk]; exact next _ _ _ hK)
    | z =>
      obtain ⟨o, ho, R, hy, hK⟩ := h
      exact WX_first ho hT (Region.noSelect_spec hsel) hs hc hn hin hdone R undef _ listed a bs fs inv (Region.free_spec ho hf) hal' hr' (by rw [hk]; exact hy) (by rw [hk]; exact fun v => next _ _ _ (hK v))
    | m =>
      obtain ⟨o, ho, hy, hK⟩ := h
      exact WX_first ho hT (Region.noSelect_spec hsel) hs hc hn hin hdone (fun _ _ => True) undef _ listed a bs fs inv (Region.free_spec ho hf) hal' hr' (by rw [hk]; exact hy) (by rw [hk]; exact fun p hp => next _ _ _ (hK p hp))

def allR (P : Program) (md : Region.Mode) (ops : Array Oper) (E : List Nat) (s : List (Nat × Kd)) : Bool :=
  Region.noSelect ops && decide (s.length < ops.size) && sinkE md ops E s.length && Region.chainB md ops s.length && eagerB P md ops (kdOf s) E s.length && lexR md ops (kdOf s) E s.length s (Array.replicate ops.size false)

theorem wp_regionG {id : Nat} {Q : Exit → Act → World → Prop} {a : Act} {w : World} {l : List Oper} (E : List Nat) (s : List (Nat × Kd)) (M : Nat → Obj × (Nat → Value)) (Pn : Pnc) (hQ : ∀ c a' w', a'.defers = a.defers → Ext w w' → Pn c w' → Q (.panic c) a' w')
    (hQp : E ≠ [] → ∀ c a d v w, Q (.panic c) (a.put d v) w → Q (.panic c) a w) (hm : P.follows .mixedOrders = true) (hB : allR P .any l.toArray E s = true)
    (h : wr P Pn l.toArray w M (fun a fs => ∀ w', Ext w w' → Holds fs w' → wpList P l.toArray Q (l.drop s.length) a w') s a [] []) : (Code.region id l.toArray true).wp P Q a w := by
  simp only [allR, Bool.and_eq_true, decide_eq_true_eq] at hB
  obtain ⟨⟨⟨⟨⟨hsel, hn⟩, hs⟩, hc⟩, heb⟩, hlex⟩ := hB
  have hn' : s.length < l.length := by simpa using hn
  have hdl : (l.drop s.length).length = l.toArray.size - s.length := by simp
  have inv0 : HeadInv .any l.toArray s.length (Array.replicate l.toArray.size false) :=
    ⟨by simp, fun j oj _ hl => (by rw [getD_replicate_false] at hl; cases hl), fun t _ ht => getD_in (by simpa using ht) (getD_replicate_false _ _)⟩
  let T : Array Bool → Act → Fs → Prop := fun listed a fs => Region.seqB .any l.toArray (l.toArray.size - s.length) s.length listed = true ∧ ∀ w', Ext w w' → Holds fs w' → wpList P l.toArray Q (l.drop s.length) a w'
  have H := WX_lex (P := P) (Pn := Pn) (E := E) (w0 := w) (M := M) (md := .any) (kd := kdOf s) (T := T) (fun _ _ _ _ l h => ⟨h.1, fun w' e hf => h.2 w' e (hf.le l)⟩) hsel hs hc hn (fun listed a fs hT j hj => seqB_ready hT.1 j (mem_rdy.1 hj).1) (fun listed a fs h1 h2 => ⟨h1, h2⟩) s _ a [] [] inv0 hlex h
  refine wp_region_any hm ?_
  have := WX.sound (Q := Q) (g := l.toArray.size - s.length) (fun listed a' fs w' hT hw hF => by
    have := wpAny_of_seq (md := .any) (Q' := Q) (l.drop s.length) s.length listed a' w' (fun j => by simp [List.getElem?_drop]) (by rw [hdl]; exact hT.1) (hT.2 w' hw hF)
    rwa [hdl] at this) hQ (Region.noSelect_spec hsel) heb hQp _ _ _ _ _ { w with drawn := w.drawn + 1 } rfl inv0 H (Ext.drew (Ext.refl w)) (fun b hb => by cases hb) (fun b hb => by cases hb) (fun b hb => by cases hb)
  rw [show s.length + (l.toArray.size - s.length) = l.toArray.size by omega] at this
  exact this

theorem wp_regionP {id : Nat} {Q : Exit → Act → World → Prop} {a : Act} {w : World} {l : List Oper} (s : List (Nat × Kd)) (M : Nat → Obj × (Nat → Value)) (Pn : Pnc) (hQ : ∀ c a' w', a'.defers = a.defers → Ext w w' → Pn c w' → Q (.panic c) a' w') (hm : P.follows .mixedOrders = true) (hB : allR P .any l.toArray [] s = true)
    (h : wr P Pn l.toArray w M (fun a fs => ∀ w', Ext w w' → Holds fs w' → wpList P l.toArray Q (l.drop s.length) a w') s a [] []) : (Code.region id l.toArray true).wp P Q a w :=
  wp_regionG [] s M Pn hQ (fun h => absurd rfl h) hm hB h

theorem wp_region {id : Nat} {Q : Exit → Act → World → Prop} {a : Act} {w : World} {l : List Oper} (s : List (Nat × Kd)) (M : Nat → Obj × (Nat → Value)) (hm : P.follows .mixedOrders = true) (hB : allR P .any l.toArray [] s = true)
    (h : wr P (fun _ _ => False) l.toArray w M (fun a fs => ∀ w', Ext w w' → Holds fs w' → wpList P l.toArray Q (l.drop s.length) a w') s a [] []) : (Code.region id l.toArray true).wp P Q a w :=
  wp_regionP s M _ (fun _ _ _ _ _ h => h.elim) hm hB h

theorem wp_regionE {id : Nat} {Q : Exit → Act → World → Prop} {a : Act} {w : World} {l : List Oper} (E : List Nat) (s : List (Nat × Kd)) (M : Nat → Obj × (Nat → Value)) (hQp : ∀ c a d v w, Q (.panic c) (a.put d v) w → Q (.panic c) a w) (hm : P.follows .mixedOrders = true) (hB : allR P .any l.toArray E s = true)
    (h : wr P (fun _ _ => False) l.toArray w M (fun a fs => ∀ w', Ext w w' → Holds fs w' → wpList P l.toArray Q (l.drop s.length) a w') s a [] []) : (Code.region id l.toArray true).wp P Q a w :=
  wp_regionG E s M _ (fun _ _ _ _ _ h => h.elim) (fun _ => hQp) hm hB h

theorem bodyPost_put {fn : Func} {R : Ending → World → Prop} (c : List PanicEntry) (a : Act) (d : Option Tmp) (v : Value) (w : World) (h : bodyPost P fn R (.panic c) (a.put d v) w) : bodyPost P fn R (.panic c) a w :=
  ⟨(put_defers a d v).symm.trans h.1, h.2⟩

/-- Nothing follows what cannot return. -/
theorem wr_dead {fin : Act → Fs → Prop} (hfin : ∀ a fs, (∃ f ∈ fs, ∀ w, ¬ f w) → fin a fs) : ∀ (s : List (Nat × Kd)) (a : Act) (bs : List Nat) (fs : Fs), (∃ f ∈ fs, ∀ w, ¬ f w) →
    (∀ x ∈ s, ∃ o, ops[x.1]? = some o ∧ (x.2 = .y ∨ (x.2 = .m ∧ ∀ a, Mk P ops o (M x.1) a))) → wr P Pn ops w0 M fin s a bs fs
  | [], a, _, fs, hd, _ => hfin a fs hd
  | (i, k) :: rest, a, bs, fs, hd, hx => by
    obtain ⟨o, ho, hk⟩ := hx (i, k) List.mem_cons_self
    have more : ∀ f, ∃ g ∈ f :: fs, ∀ w, ¬ g w := fun f => hd.imp fun g ⟨h1, h2⟩ => ⟨List.mem_cons_of_mem _ h1, h2⟩
    have hx' := fun x h => hx x (List.mem_cons_of_mem _ h)
    rcases hk with hk | ⟨hk, hmk⟩ <;> simp only at hk <;> subst hk
    · refine ⟨o, ho, undef, ?_, wr_dead hfin rest _ _ _ hd hx'⟩
      unfold Y
      cases Region.wanted o (yielded ops a.tmps)
      · exact .inr ⟨rfl, rfl⟩
      · obtain ⟨f, hf, hno⟩ := hd
        exact .inl ⟨rfl, fun w _ hh => absurd (hh f hf) (hno w)⟩
    · exact ⟨o, ho, hmk a, fun p _ => wr_dead hfin rest _ _ _ (more _) hx'⟩
end
end Go.Proofs.Ytbeoihjfjkbfhaa.Dw.Rr

namespace Go.Proofs.Ytbeoihjfjkbfhaa
set_option linter.unusedVariables false
set_option linter.unusedSimpArgs false
open Go.RowKit Go.Sort
abbrev Tx := { s : ByteArray // s.size ≤ 4000 }
instance : Inhabited Tx := ⟨⟨⟨#[]⟩, by decide⟩⟩
def cmpX (a b : Tx) : Int := cmpT a.1 b.1
theorem gcX : GC cmpX := gcT.via (fun a : Tx => a.1) (fun _ _ e => Subtype.ext e)
def srtT (l : List ByteArray) : List ByteArray := l.mergeSort fun x y => !(ltOf cmpT) y x
theorem srtT_perm (l : List ByteArray) : (srtT l).Perm l := List.mergeSort_perm _ _
theorem srtT_sorted (l : List ByteArray) : (srtT l).Pairwise fun x y => ltOf cmpT y x = false := by
  have hs := List.pairwise_mergeSort (le := fun x y : ByteArray => !(ltOf cmpT) y x) (fun a b c h1 h2 => by
    simp only [Bool.not_eq_true'] at *
    exact gcT.swo.ntrans c b a h2 h1) (fun a b => by
    simp only [Bool.or_eq_true, Bool.not_eq_true']
    by_cases h : ltOf cmpT b a = true
    · refine .inr ?_
      cases h2 : ltOf cmpT a b
      · rfl
      · have h3 := gcT.swo.trans a b a h2 h
        rw [gcT.swo.irrefl] at h3
        cases h3
    · exact .inl (by simpa using h)) l
  exact hs.imp (by simp)
theorem srtT_eq {l m : List ByteArray} (h : m.Perm l) (hs : m.Pairwise fun x y => ltOf cmpT y x = false) : m = srtT l :=
  (h.trans (srtT_perm l).symm).eq_of_pairwise (le := fun x y => ltOf cmpT y x = false) (fun a b _ _ h1 h2 => gcT.total a b h2 h1) hs (srtT_sorted l)
theorem srtT_of_perm {l m : List ByteArray} (h : l.Perm m) : srtT l = srtT m := srtT_eq ((srtT_perm l).trans h) (srtT_sorted l)
theorem srtT_len (l : List ByteArray) : (srtT l).length = l.length := (srtT_perm l).length_eq
theorem tx_lift : ∀ (l : List ByteArray), (∀ s ∈ l, s.size ≤ 4000) → ∃ m : List Tx, m.map Subtype.val = l
  | [], _ => ⟨[], rfl⟩
  | s :: l, h => by
    obtain ⟨m, rfl⟩ := tx_lift l (fun x hx => h x (by simp [hx]))
    exact ⟨⟨s, h s (by simp)⟩ :: m, rfl⟩
theorem srtX (m : List Tx) : (m.mergeSort fun x y => !(ltOf cmpX) y x).map Subtype.val = srtT (m.map Subtype.val) := by
  refine srtT_eq ((List.mergeSort_perm _ _).map _) ?_
  have hs := List.pairwise_mergeSort (le := fun x y : Tx => !(ltOf cmpX) y x) (fun a b c h1 h2 => by
    simp only [Bool.not_eq_true'] at *
    exact gcX.swo.ntrans c b a h2 h1) (fun a b => by
    simp only [Bool.or_eq_true, Bool.not_eq_true']
    by_cases h : ltOf cmpX b a = true
    · refine .inr ?_
      cases h2 : ltOf cmpX a b
      · rfl
      · have h3 := gcX.swo.trans a b a h2 h
        rw [gcX.swo.irrefl] at h3
        cases h3
    · exact .inl (by simpa using h)) m
  rw [List.pairwise_map]
  exact hs.imp (fun {a b} h => by
    have h2 : (!(ltOf cmpX) b a) = true := h
    rw [Bool.not_eq_true'] at h2
    exact h2)
def celS (s : ByteArray) : List Value := [.string s]
theorem celS_map (l : List ByteArray) : l.flatMap celS = l.map Value.string := by
  induction l with
  | nil => rfl
  | cons a l ih => simp [celS, ih]
def encX (x : Tx) : Value := .string x.1
theorem holds_blockX {w : World} {g : Nat} {cur : Array Value} {e : TypeId} {m : List Tx} (hb : w.heap[g]? = some (.cells cur e (0, 0))) (ht : cur.toList.take m.length = m.map encX) : Holds encX w g 0 m.toArray := by
  intro j hj
  have hj' : j < m.length := by simpa using hj
  refine ⟨?_, by simp [World.frozen?, hb]⟩
  have h1 : (cur.toList.take m.length)[j]? = (m.map encX)[j]? := by rw [ht]
  rw [List.getElem?_take_of_lt hj'] at h1
  simp only [World.cell?, hb, Nat.zero_add]
  rw [getElem!_pos m.toArray j (by simpa using hj')]
  simpa [hj'] using h1
theorem heap_putX {w : World} {g n : Nat} {os : Array Obj} {cur : Array Value} {e : TypeId} {fr : Nat × Nat} (d : Array Tx) (hb : w.heap[g]? = some (.cells cur e fr)) :
    (grow (putRow encX (Sort.ahead w n) g 0 d) os).heap[g]? = some (.cells (putCells encX 0 d cur) e fr) := by
  have hg : g < w.heap.size := (Array.getElem?_eq_some_iff.1 hb).1
  rw [heap_grow_old _ _ (by simpa using hg)]
  simp [putRow, mapBlock, Sort.ahead, Array.getElem?_modify, hb, onCells]
theorem take_putX (cur : Array Value) (ts : List Tx) (h : ts.length ≤ cur.size) : (putCells encX 0 ts.toArray cur).toList.take ts.length = ts.map encX := by
  apply List.ext_getElem?
  intro j
  by_cases hj : j < ts.length
  · rw [List.getElem?_take_of_lt hj, Array.getElem?_toList]
    simp [putCells, hj, show j < cur.size by omega]
  · rw [List.getElem?_take_eq_none (by omega), List.getElem?_eq_none (by simp; omega)]
theorem grown_putRow {α : Type} [Inhabited α] {enc : α → Value} {w : World} {g n : Nat} {os : Array Obj} (d : Array α) : w.grownBy (grow (putRow enc (Sort.ahead w n) g 0 d) os) (some g) := by
  refine ⟨rfl, rfl, rfl, by simp, fun k hk hne => ?_⟩
  rw [heap_grow_old _ _ (by simpa using hk)]
  have : g ≠ k := fun e => hne (by rw [e])
  simp [putRow, mapBlock, Sort.ahead, Array.getElem?_modify, this]
set_option maxRecDepth 100000 in
theorem sortT_own (B : Nat) (v : Value) (l : List ByteArray) (w : World) (hrow : w.ownsRow B 9 1 v l.length (l.flatMap celS)) (hs : ∀ s ∈ l, s.size ≤ 4000) (hn : l.length ≤ 1000000) :
    Calls Try.prog 38 #[v, .func (.func 39) #[] #[]] w fun e w' => e = .returned (.tuple #[]) ∧ w'.ownsRow B 9 1 v l.length ((srtT l).flatMap celS) ∧ w.grownBy w' v.ownBlock := by
  by_cases h0 : l = []
  · subst h0
    have hf : ∃ A c, v = .slice A 0 c := by
      rcases hrow.2 with ⟨rfl, -⟩ | ⟨g, cap, cur, rfl, -⟩
      · exact ⟨_, _, rfl⟩
      · exact ⟨_, _, rfl⟩
    obtain ⟨A, c, rfl⟩ := hf
    have hN := AnyF.slices_SortFunc_none sortS0 A c (.func (.func 39) #[] #[]) w
    change Calls Try.prog 38 _ _ _ at hN
    refine hN.mono ?_
    rintro e w1 ⟨rfl, rfl⟩
    exact ⟨rfl, by simpa [srtT] using hrow, ⟨rfl, rfl, rfl, Nat.le_refl _, fun _ _ _ => rfl⟩⟩
  · have hp : 0 < l.length := List.length_pos_iff.2 h0
    have hr2 := hrow
    rw [celS_map] at hr2
    obtain ⟨m, rfl⟩ := tx_lift l hs
    rcases hr2.2 with ⟨-, h⟩ | ⟨g, cap, cur, rfl, hBg, hb, h1, h2, h3, h4⟩
    · omega
    · rw [List.length_map] at *
      have htk : cur.toList.take m.length = m.map encX := by rw [← Nat.mul_one m.length, h4]; simp [encX]
      have hcs : m.length ≤ cur.size := by
        have := congrArg List.length htk
        simp at this
        omega
      have hH := holds_blockX hb htk
      have hS := Any.slices_SortFunc_total sortS encX (fun _ => rfl) cmpX gcX.swo 39 #[] g 0 cap m.toArray w
        (enters_of Try.func39 (by kernel_rfl) rfl) (fun k os dk _ x y => (calls_drawn (v := .int .i64 (cmpX x y)) (cmpT_any x.1 y.1 _ x.2 y.2) (fun _ _ h => h.1)).mono fun _ _ ⟨⟨a, b⟩, c⟩ => ⟨a, Dw.Ext.grow ⟨b.os, b.tape, b.output, b.size, b.block, c⟩⟩) hH (Rg.lt_of_heap hb) (by simp; omega) (fun x y a b => gcX.total x y a b)
      change Calls Try.prog 38 _ _ _ at hS
      have hsz : m.toArray.size = m.length := by simp
      rw [hsz] at hS
      have hlt : (m.mergeSort fun x y => !(ltOf cmpX) y x).length = m.length := (List.mergeSort_perm _ _).length_eq
      have hsx := srtX m
      refine hS.mono ?_
      rintro e w1 ⟨rfl, q, os, hw1⟩
      subst hw1
      change _ ∧ World.ownsRow _ _ _ _ _ _ _ ∧ _
      generalize (m.mergeSort fun x y => !(ltOf cmpX) y x) = ts at *
      rw [← hsx]
      refine ⟨rfl, ⟨?_, .inr ⟨g, cap, _, rfl, hBg, heap_putX ts.toArray hb, h1, h2, ?_, ?_⟩⟩, grown_putRow _⟩
      · rw [celS_map]; simp [hlt]
      · simpa [putCells] using h3
      · rw [celS_map, Nat.mul_one, ← hlt, take_putX cur ts (by omega)]
        simp [encX]
end Go.Proofs.Ytbeoihjfjkbfhaa

namespace Go.Proofs.Ytbeoihjfjkbfhaa
set_option linter.unusedVariables false
set_option linter.unusedSimpArgs false
open Go.Shelf
def cloneS_ren : Go.Shelf.Ren := ⟨fun | 316 => 45 | n => n, fun | 9 => 9 | 3 => 3 | 4 => 4 | 37 => 51 | 0 => 0 | 127 => 98 | 5 => 5 | n => n, fun | n => n⟩
theorem cloneS : Go.Proofs.LaysM.n316 Try.prog cloneS_ren := {
  mixed := by kernel_rfl
  f316 := Try.func45.trans (congrArg some (by kernel_rfl))
  t0 := Try.underlying0
  a0 := Try.isAgg0
  z0 := Try.sizeOf0
  v0 := Try.zeroValue0
  t3 := Try.underlying3
  a3 := Try.isAgg3
  z3 := Try.sizeOf3
  v3 := Try.zeroValue3
  t4 := Try.underlying4
  a4 := Try.isAgg4
  z4 := Try.sizeOf4
  v4 := Try.zeroValue4
  t9 := Try.underlying9
  a9 := Try.isAgg9
  z9 := Try.sizeOf9
  v9 := Try.zeroValue9
  t37 := Try.underlying51
  a37 := Try.isAgg51
  z37 := Try.sizeOf51
  v37 := Try.zeroValue51
  t127 := Try.underlying98
  a127 := Try.isAgg98
  z127 := Try.sizeOf98
  v127 := Try.zeroValue98
  t5 := Try.underlying5
  a5 := Try.isAgg5
  z5 := Try.sizeOf5
  v5 := Try.zeroValue5
  i0 := by kernel_rfl
  i3 := by kernel_rfl
  i4 := by kernel_rfl
  i5 := by kernel_rfl
  i9 := by kernel_rfl
  i37 := by kernel_rfl
  i127 := by kernel_rfl }
theorem clone_any (s : ByteArray) (w : World) (h : s.size ≤ 4000) : Calls Try.prog 37 #[.string s] w fun e w' => e = .returned (.string s) ∧ Ext w w' := by
  have hC : Calls Try.prog 45 #[.string s] w fun e w' => e = .returned (.string s) ∧ Ext w w' := Any.stringslite_Clone cloneS s w (by omega)
  go_enter Try.func37, Try.ntmps37
  go_wp2_with (go_at_call 45; (with_reducible refine hC.mono ?_); rintro e w1 ⟨rfl, hx⟩)
  go_ret
  exact ⟨rfl, hx⟩
open Go.RowKit Go.Sort
/-- A question. -/
structure Qn where
  who : Int
  text : ByteArray
def Qn.cs (q : Qn) : List Value := [.int .i64 q.who, .string q.text]
def Qn.v (q : Qn) : Value := .agg q.cs.toArray
theorem celS_len (x : ByteArray) : (celS x).length = 1 ∧ ∀ c ∈ celS x, c.oneCell' = true := ⟨rfl, by simp [celS, Value.oneCell']⟩
theorem append_str {ops : Array Oper} {rest : List Oper} {o : Oper} {a : Act} {Q : Exit → Act → World → Prop} {w : World} (hgd : o.guard = none) (s x : Operand)
    (ho : o.op = .call { callee := .builtin .append, args := #[s, x], argTypes := #[38, 38] }) (B : Nat) (v : Value) (zs : List ByteArray) (hs : a.eval s = v) (hF : w.ownsRow B 9 1 v zs.length (zs.flatMap celS))
    (p : Nat) (i : ByteArray) (hx : a.eval x = .slice (some ⟨p, 0, none⟩) 1 1) (hp : w.heap[p]? = some (.cells #[.string i] 9)) (hn : zs.length < 1000000) (hB : B ≤ w.heap.size)
    (h : ∀ g cap w', w'.ownsRow B 9 1 (.slice (some ⟨g, 0, none⟩) (zs.length + 1) cap) (zs ++ [i]).length ((zs ++ [i]).flatMap celS) → Below B w w' → wpList Try.prog ops Q rest (a.put o.dst (.slice (some ⟨g, 0, none⟩) (zs.length + 1) cap)) w') : wpList Try.prog ops Q (o :: rest) a w :=
  append_one (cs := celS) (z := .string ⟨#[]⟩) celS_len 38 9 16 Try.underlying38 (by kernel_rfl) (by rfl) (by decide) (by decide) hgd s x ho B v zs hs hF p i hx hp hn hB h
theorem grown_ext {w0 w w' : World} {v : Value} {B E sz n : Nat} {xs : List Value} (h : Ext w0 w) (hr : w.ownsRow B E sz v n xs) (hB : w0.heap.size ≤ B) (hg : w.grownBy w' v.ownBlock) : Ext w0 w' :=
  Below.trans h ⟨hg.os, hg.tape, hg.output, hg.size, fun k hk => hg.block k (by have := h.size; omega) (fun e => by have := (hr.lt k e.symm).1; omega)⟩
theorem qn_at {w : World} {base : Option Addr} {n c : Nat} {l : List Qn} (h : SR Qn.cs 2 w (.slice base n c) l) (k : Nat) (hk : k < l.length) :
    ∃ b, base = some ⟨b, 0, none⟩ ∧ b < w.heap.size ∧ w.cell? ⟨b, k * 2, none⟩ = some (.int .i64 l[k].who) ∧ w.cell? ⟨b, k * 2 + 1, none⟩ = some (.string l[k].text) := by
  obtain ⟨b, h1, h2, h3⟩ := h.block k hk
  have h4 := h3 k hk 0 _ rfl
  exact ⟨b, h1, World.block_lt_of_cell? w _ h4, h4, h3 k hk 1 _ rfl⟩
set_option maxRecDepth 100000 in
set_option maxHeartbeats 4000000 in
theorem shuffled_any (v : Value) (l : List Qn) (w : World) (hl : SR Qn.cs 2 w v l) (hs : ∀ q ∈ l, q.text.size ≤ 4000) :
    Calls Try.prog 33 #[v] w fun e w' => ∃ u, e = .returned u ∧ w'.ownsRow w.heap.size 9 1 u l.length ((srtT (l.map (·.text))).flatMap celS) ∧ Ext w w' := by
  obtain ⟨base, cp, rfl⟩ := hl.form; have hle := hl.le
  have HS := Lib.hid hs
  clear hs
  obtain ⟨B, hB⟩ : ∃ B, B = w.heap.size := ⟨_, rfl⟩
  rw [← hB]
  have HB := Lib.hid hB
  clear hB
  go_enter Try.func33, Try.ntmps33
  go_wp2_with (fail)
  go_loopw [3, 8] (fun u k wr => ∃ i : Nat, k = .int .i64 i ∧ i ≤ l.length ∧ Hid (wr.ownsRow B 9 1 u i (((l.take i).map (·.text)).flatMap celS)) ∧ Ext w wr) (fun _ k _ => l.length - (iof k).toNat)
  case atStart => exact ⟨0, rfl, Nat.zero_le _, Lib.hid (World.ownsRow_nil _ _ _ _), Ext.refl _⟩
  case round =>
    obtain ⟨i, rfl, hi, HR, hx⟩ := hrel
    by_cases hil : i < l.length
    · obtain ⟨b, rfl, hbl, c0, c1⟩ := qn_at (hl.ext hx) i hil
      have hts := HS.out l[i] (List.getElem_mem _)
      have HN : Hid ((l.take (i + 1)).map (·.text) = (l.take i).map (·.text) ++ [l[i].text]) := Lib.hid (by rw [List.take_succ_eq_append_getElem hil, List.map_append]; rfl)
      have hti : ((l.take i).map (·.text)).length = i := by simp; omega
      generalize l[i].who = qw at *
      generalize l[i].text = qt at *
      generalize (l.take i).map (·.text) = ts at *
      go_upto_region 5 with (refine wpList_store_row (hgd := rfl) 66 (.tmp 5) (.tmp 11) rfl wr.heap.size (by rfl) #[.int .i64 qw, .string qt] (by rfl) #[.int .i64 0, .string ⟨#[]⟩] 66 (alloc_at wr _) (by rfl) (by kernel_rfl) (by simp [Value.oneCell']) ?_)
      have hxa : Ext wr ((wr.alloc (.cells #[.int .i64 0, .string ⟨#[]⟩] 66)).setRow wr.heap.size #[.int .i64 qw, .string qt]) := below_setRow (Ext.alloc (Ext.refl _) _) (Nat.le_refl _) _
      have hp : ((wr.alloc (.cells #[.int .i64 0, .string ⟨#[]⟩] 66)).setRow wr.heap.size #[.int .i64 qw, .string qt]).heap[wr.heap.size]? = some (.cells #[.int .i64 qw, .string qt] 66) := setRow_heap _ _ _ _ _ _ (alloc_at wr _)
      have HRa : Hid (World.ownsRow _ B 9 1 u3 ts.length (ts.flatMap celS)) := Lib.hid (row_ext (hti.symm ▸ HR.out) hxa)
      have HTI := Lib.hid hti
      clear hti HR c0 c1
      obtain ⟨p, hpe⟩ : ∃ p, p = wr.heap.size := ⟨_, rfl⟩
      rw [← hpe] at hp hxa HRa ⊢
      generalize (wr.alloc (.cells #[.int .i64 0, .string ⟨#[]⟩] 66)).setRow p #[.int .i64 qw, .string qt] = W1 at *
      clear hpe
      have p1 := cell_of_row W1 p 1 _ _ _ hp
      have hBW : B ≤ W1.heap.size := by have := hx.size; have := hxa.size; have := HB.out; omega
      have HBW := Lib.hid hBW
      have hpl := Rg.lt_of_heap hp
      clear hp hBW
      simp only [Act.put, List.setIfInBounds_toArray, List.set_cons_zero, List.set_cons_succ]
      go_wp2_with (first
        | (go_at_call 37; (with_reducible refine (clone_any _ _ hts).mono ?_); rintro e w2 ⟨rfl, hx2⟩)
        | (refine append_str rfl (.tmp 12) (.tmp 16) rfl B _ ts rfl (row_ext HRa.out (hx2.trans (Ext.alloc (Ext.refl _) _))) w2.heap.size qt (by rfl) (alloc_at w2 _) (by have := HTI.out; omega) (by have := HBW.out; have := hx2.size; simp; omega) ?_; intro g cap w3 hr3 hb3))
      have hlen : (ts ++ [qt]).length = i + 1 := by have := HTI.out; simp; omega
      refine ⟨⟨i + 1, by simp, by omega, Lib.hid ?_, Ext.below_trans (hx.trans (hxa.trans (hx2.trans (Ext.alloc (Ext.refl _) _)))) (HB.out ▸ hb3)⟩, by simp [iof]; omega⟩
      rw [HN.out]
      rw [hlen] at hr3
      exact hr3
    · obtain rfl : i = l.length := by omega
      have hR2 := HR.out
      rw [List.take_length, show l.length = (l.map (·.text)).length by simp] at hR2
      have hso := sortT_own B u3 (l.map (·.text)) wr hR2 (fun s hs => by
        obtain ⟨q, hq, rfl⟩ := List.mem_map.1 hs
        exact HS.out q hq) (by simpa using hle)
      have HSO := Lib.hid hso; have HR2 := Lib.hid hR2
      clear hso hR2 HR
      go_wp2_with (go_at_call 38; (with_reducible refine HSO.out.mono ?_); rintro e w2 ⟨rfl, hr2, hg2⟩)
      go_ret
      refine ⟨_, rfl, ?_, grown_ext hx HR2.out (Nat.le_of_eq HB.out.symm) hg2⟩
      rw [List.length_map] at hr2
      exact hr2
end Go.Proofs.Ytbeoihjfjkbfhaa

namespace Go.Proofs.Ytbeoihjfjkbfhaa
set_option linter.unusedVariables false
set_option linter.unusedSimpArgs false
open Go.RowKit Go.MapKept Go.ChangeMaps
open Go.Maps (Keyed)
theorem map_erase {α β : Type} (f : α → β) : ∀ (l : List α) (j : Nat), (l.eraseIdx j).map f = (l.map f).eraseIdx j
  | [], _ => rfl
  | _ :: _, 0 => rfl
  | a :: l, j + 1 => by simp [map_erase f l j]
theorem erase_filter {κ β : Type} [DecidableEq κ] : ∀ (l : List (κ × β)) (j : Nat) (x : κ) (v : β), (l.map (·.1)).Nodup → l[j]? = some (x, v) → l.eraseIdx j = l.filter (fun p => decide (p.1 ≠ x))
  | [], j, x, v, _, h => by simp at h
  | p :: l, 0, x, v, hn, h => by
    simp only [List.getElem?_cons_zero, Option.some.injEq] at h
    subst h
    simp only [List.map_cons, List.nodup_cons] at hn
    simp only [List.eraseIdx_cons_zero, List.filter_cons, ne_eq, not_true_eq_false, decide_false, Bool.false_eq_true, if_false]
    refine (List.filter_eq_self.2 fun q hq => ?_).symm
    rw [decide_eq_true_eq]
    rintro rfl
    exact hn.1 (List.mem_map.2 ⟨q, hq, rfl⟩)
  | p :: l, j + 1, x, v, hn, h => by
    simp only [List.map_cons, List.nodup_cons] at hn
    have h2 : l[j]? = some (x, v) := by simpa using h
    have hne : p.1 ≠ x := by
      rintro rfl
      exact hn.1 (List.mem_map.2 ⟨_, List.mem_of_getElem? h2, rfl⟩)
    rw [List.eraseIdx_cons_succ, erase_filter l j x v hn.2 h2, List.filter_cons, if_pos (by simpa using hne)]
section
variable {κ : Type} [DecidableEq κ] {enc : κ → Value} {good : κ → Prop} {P : Program} {k e t : TypeId} {w w' : World} {b : Nat} {l : List (κ × Value)}
theorem MP.delete (K : KE P k enc good) (ht : P.underlying t = some (.map k e)) (h : MP enc good w b l) {x : κ} (hx : good x) (k2 ty : TypeId) :
    ∃ w', (Builtin.delete_ #[t, k2] ty #[.map (some b), enc x]).run P w = .ok (.tuple #[]) w' ∧ MP enc good w' b (l.filter fun p => decide (p.1 ≠ x)) ∧ w.grownBy w' (some b) := by
  have h0 := h
  obtain ⟨h1, h2, es, clock, hb, hes, hst⟩ := h
  obtain ⟨li, hli⟩ := K.lit x hx
  have hsub : ∀ p ∈ l.filter (fun p => decide (p.1 ≠ x)), good p.1 := fun p hp => h1 p (List.mem_filter.1 hp).1
  have hnd : ((l.filter (fun p => decide (p.1 ≠ x))).map (·.1)).Nodup := h2.sublist (List.filter_sublist.map _)
  rcases MP.find K h0 hx hes with ⟨hf, hl⟩ | ⟨j, v0, hf, hl, e0, hj, hek, hev, hlj⟩
  · have hm := lookup_none.1 hl
    have hfl : l.filter (fun p => decide (p.1 ≠ x)) = l := List.filter_eq_self.2 fun q hq => by
      rw [decide_eq_true_eq]
      rintro rfl
      exact hm (List.mem_map.2 ⟨q, hq, rfl⟩)
    rw [hfl]
    refine ⟨setBlock w b (.map es clock), ?_, ⟨h1, h2, _, _, heap_setBlock_same hb _, hes, hst⟩, ⟨rfl, rfl, rfl, by simp [setBlock], fun i _ hi => heap_setBlock_other hb _ (fun e => hi (by rw [e]))⟩⟩
    simp [Builtin.delete_, run_underlying ht, MapKept.run_getObj_map hb, K.keyed.check w _ hli, hf, Result.andThen, MapKept.run_setObj_map _ hb]
    rfl
  · have hel := erase_filter l j x v0 h2 hlj
    refine ⟨setBlock w b (.map (es.eraseIdxIfInBounds j) clock), ?_, ⟨hsub, hnd, _, _, heap_setBlock_same hb _, ?_, MapKept.stamped_erase hst j⟩, ⟨rfl, rfl, rfl, by simp [setBlock], fun i _ hi => heap_setBlock_other hb _ (fun e => hi (by rw [e]))⟩⟩
    · simp [Builtin.delete_, run_underlying ht, MapKept.run_getObj_map hb, K.keyed.check w _ hli, hf, Result.andThen, MapKept.run_setObj_map _ hb]
      rfl
    · rw [← hel]
      have e1 : (es.eraseIdxIfInBounds j).toList = es.toList.eraseIdx j := by
        rw [Array.eraseIdxIfInBounds_eq]
        split
        · simp
        · rename_i hlt
          rw [List.eraseIdx_of_length_le (by simpa using hlt)]
      rw [e1, map_erase, map_erase, hes]
theorem wpList_delete (ops : Array Oper) {rest : List Oper} {o : Oper} {a : Act} {Q : Exit → Act → World → Prop} (hg : o.guard = none) (m x : Operand) (t k2 : TypeId) (hop : o.op = Op.call { callee := Callee.builtin Builtin.delete, args := #[m, x], argTypes := #[t, k2] })
    (k e : TypeId) (K : KE P k enc good) (ht : P.underlying t = some (.map k e)) (b : Nat) (l : List (κ × Value)) (hm : a.eval m = .map (some b)) (h : MP enc good w b l) (key : κ) (hx : a.eval x = enc key) (hgd : good key)
    (hK : ∀ w', MP enc good w' b (l.filter fun p => decide (p.1 ≠ key)) → w.grownBy w' (some b) → wpList P ops Q rest (a.put o.dst (.tuple #[])) w') : wpList P ops Q (o :: rest) a w := by
  refine wpList_plain hg fun K' hK' => ?_
  obtain ⟨w', hrun, r1, r2⟩ := h.delete K ht hgd k2 o.type
  unfold Oper.wp
  simp [execOp, hop, resolve, invoke, builtin, hm, hx, hrun, Result.andThen]
  exact hK' _ _ (hK w' r1 r2)
end
/-- An int of the machine. -/
def OkI (a : Int) : Prop := -9223372036854775808 ≤ a ∧ a ≤ 9223372036854775807
theorem OkI.wf {a : Int} (h : OkI a) : (Lit.int .i64 a).wf = true := by
  obtain ⟨h1, h2⟩ := h
  simp [Lit.wf, IntKind.min, IntKind.max, IntKind.signed, IntKind.bits]
  omega
abbrev encI (i : Int) : Value := .int .i64 i
abbrev encQ (q : Qn) : Value := .agg #[.int .i64 q.who, .string q.text]
def OkQ (q : Qn) : Prop := OkI q.who ∧ q.text.size ≤ 4000
instance : DecidableEq Qn := fun a b => by
  obtain ⟨a1, a2⟩ := a
  obtain ⟨b1, b2⟩ := b
  rw [Qn.mk.injEq]
  infer_instance
theorem laid : laidOutB Try.prog = true := by kernel_rfl
theorem c3 : Try.prog.cellsOf 3 = 1 := by kernel_rfl
theorem c9 : Try.prog.cellsOf 9 = 1 := by kernel_rfl
theorem c66 : Try.prog.cellsOf 66 = 2 := by kernel_rfl
theorem lits3 (d : Nat) {a : Int} (h : OkI a) : Try.prog.keyLits (d + 1) 3 [.int .i64 a] = some [.int .i64 a] := by
  simp [Program.keyLits, Try.underlying3, h.wf]
theorem lits9 (d : Nat) {s : ByteArray} (h : s.size ≤ maxLen) : Try.prog.keyLits (d + 1) 9 [.string s] = some [.string s.data.toList] := by
  simp [Program.keyLits, Try.underlying9, h]
theorem lits66 (d : Nat) {a : Int} {s : ByteArray} (ha : OkI a) (hs : s.size ≤ maxLen) : Try.prog.keyLits (d + 2) 66 [.int .i64 a, .string s] = some [.int .i64 a, .string s.data.toList] := by
  unfold Program.keyLits
  rw [Try.underlying66]
  simp [c66, c3, c9, lits3 d ha, lits9 d hs]
theorem keI : KE Try.prog 3 encI OkI := ⟨Go.Maps.int_keyed Try.underlying3, fun a b h => by injection h, fun a h => ⟨_, Go.Maps.keyOf_int_mk Try.underlying3 h.wf⟩⟩
theorem keQ : KE Try.prog 66 encQ OkQ := ⟨Go.Maps.Keyed.of_law (deep_law_laid laid (m := 9) (by omega) (of_decide_eq_true (by kernel_rfl)) (by kernel_rfl) (by kernel_rfl)), fun a b h => by
    obtain ⟨a1, a2⟩ := a
    obtain ⟨b1, b2⟩ := b
    simpa using h, fun a h => by
    have h1 : Try.prog.keyType 66 = true := by kernel_rfl
    have h2 : Try.prog.types.size + 1 = 138 + 2 := by kernel_rfl
    refine ⟨.string (keyBytes [.int .i64 a.who, .string a.text.data.toList]), ?_⟩
    unfold keyOf
    rw [h2]
    simp [Try.underlying66, h1, Value.formed, c66, Value.cells, lits66 138 h.1 (show a.text.size ≤ maxLen by have := h.2; unfold maxLen; omega)]⟩
end Go.Proofs.Ytbeoihjfjkbfhaa

namespace Go.Proofs.Ytbeoihjfjkbfhaa
set_option linter.unusedVariables false
set_option linter.unusedSimpArgs false
open Go.RowKit

structure Rl where
  least : Int
  every : Int
  l : List (Qn × Int)
  last : Int
  timed : Bool
  closed : Bool
def Rl.cells (r : Rl) (mb : Option Nat) : Array Value := #[.int .i64 r.least, .int .i64 r.every, .map mb, .int .i64 r.last, .bool r.timed, .bool r.closed]
def mapL (l : List (Qn × Int)) : List (Qn × Value) := l.map fun p => (p.1, .int .i64 p.2)
theorem mapL_keys (l : List (Qn × Int)) : (mapL l).map (·.1) = l.map (·.1) := by simp [mapL]
theorem mapL_len (l : List (Qn × Int)) : (mapL l).length = l.length := by simp [mapL]
/-- The questions in the map. -/
def MQ (B : Nat) (w : World) : Option Nat → List (Qn × Int) → Prop
  | none, l => l = []
  | some b, l => B ≤ b ∧ MP encQ OkQ w b (mapL l)
structure Rl.ok (r : Rl) : Prop where
  least : OkI r.least
  every : OkI r.every
  last : OkI r.last
  per : ∀ p ∈ r.l, OkI p.2
  len : r.l.length ≤ 1000
/-- The relay at p, its map at mb, both from B on. -/
structure RW (B : Nat) (w : World) (p : Nat) (mb : Option Nat) (r : Rl) : Prop where
  at_ : B ≤ p
  row : w.heap[p]? = some (.cells (r.cells mb) 56)
  map : MQ B w mb r.l
  ok : r.ok
/-- Nothing that was there has turned but p and mb. -/
structure KW (p : Nat) (mb : Option Nat) (w w' : World) : Prop where
  os : w'.os = w.os
  tape : w'.tape = w.tape
  output : w'.output = w.output
  size : w.heap.size ≤ w'.heap.size
  block : ∀ k, k < w.heap.size → k ≠ p → some k ≠ mb → w'.heap[k]? = w.heap[k]?
theorem KW.refl (p : Nat) (mb : Option Nat) (w : World) : KW p mb w w := ⟨rfl, rfl, rfl, Nat.le_refl _, fun _ _ _ _ => rfl⟩
theorem KW.of_ext {p : Nat} {mb : Option Nat} {w w' : World} (h : Ext w w') : KW p mb w w' := ⟨h.os, h.tape, h.output, h.size, fun k hk _ _ => h.block k hk⟩
theorem KW.trans {p : Nat} {mb : Option Nat} {a b c : World} (h : KW p mb a b) (k : KW p mb b c) : KW p mb a c :=
  ⟨k.os.trans h.os, k.tape.trans h.tape, k.output.trans h.output, Nat.le_trans h.size k.size, fun i hi hp hm => (k.block i (Nat.lt_of_lt_of_le hi h.size) hp hm).trans (h.block i hi hp hm)⟩
theorem KW.setCell {p o : Nat} {mb : Option Nat} {a b : World} (h : KW p mb a b) (v : Value) : KW p mb a (b.setCell ⟨p, o, none⟩ v) :=
  ⟨h.os, h.tape, h.output, by simpa using h.size, fun i hi hp hm => (heap_setCell_other _ hp).trans (h.block i hi hp hm)⟩
theorem KW.grown {p b : Nat} {a w w' : World} (h : KW p (some b) a w) (g : w.grownBy w' (some b)) : KW p (some b) a w' :=
  ⟨g.os.trans h.os, g.tape.trans h.tape, g.output.trans h.output, Nat.le_trans h.size g.size, fun i hi hp hm => (g.block i (Nat.lt_of_lt_of_le hi h.size) hm).trans (h.block i hi hp hm)⟩
theorem KW.below {p B : Nat} {mb : Option Nat} {w w' : World} (h : KW p mb w w') (hB : B ≤ w.heap.size) (hp : B ≤ p) (hm : ∀ b, mb = some b → B ≤ b) : Below B w w' :=
  ⟨h.os, h.tape, h.output, h.size, fun k hk => h.block k (by omega) (by omega) (fun e => by have := hm k e.symm; omega)⟩
theorem MQ.lt {B : Nat} {w : World} {mb : Option Nat} {l : List (Qn × Int)} (h : MQ B w mb l) : ∀ b, mb = some b → B ≤ b ∧ b < w.heap.size := by
  rintro b rfl
  exact ⟨h.1, MP.lt h.2⟩
theorem MQ.of_block {B : Nat} {w w' : World} {mb : Option Nat} {l : List (Qn × Int)} (h : MQ B w mb l) (hb : ∀ b, mb = some b → w'.heap[b]? = w.heap[b]?) : MQ B w' mb l := by
  cases mb with
  | none => exact h
  | some b => exact ⟨h.1, MP.of_block h.2 (hb b rfl)⟩
theorem MQ.ext {B : Nat} {w w' : World} {mb : Option Nat} {l : List (Qn × Int)} (h : MQ B w mb l) (x : Ext w w') : MQ B w' mb l := h.of_block fun b e => x.block b (h.lt b e).2
theorem RW.lt {B : Nat} {w : World} {p : Nat} {mb : Option Nat} {r : Rl} (h : RW B w p mb r) : p < w.heap.size := Rg.lt_of_heap h.row
theorem RW.ne {B : Nat} {w : World} {p : Nat} {mb : Option Nat} {r : Rl} (h : RW B w p mb r) : mb ≠ some p := by
  rintro rfl
  obtain ⟨-, -, -, es, clock, hb, -⟩ := h.map
  rw [h.row] at hb
  cases hb
theorem RW.ext {B : Nat} {w w' : World} {p : Nat} {mb : Option Nat} {r : Rl} (h : RW B w p mb r) (x : Ext w w') : RW B w' p mb r := ⟨h.at_, (x.block _ h.lt).trans h.row, h.map.ext x, h.ok⟩
/-- Another relay stays. -/
theorem RW.other {B : Nat} {w w' : World} {p p2 : Nat} {mb mb2 : Option Nat} {r r2 : Rl} (h : RW B w p mb r) (h2 : RW B w p2 mb2 r2) (k : KW p2 mb2 w w') (hp : p ≠ p2) (hm : ∀ b, mb = some b → mb2 ≠ some b) : RW B w' p mb r := by
  have e1 : mb2 ≠ some p := by
    rintro rfl
    obtain ⟨-, -, -, es, clock, hb, -⟩ := h2.map
    rw [h.row] at hb
    cases hb
  refine ⟨h.at_, (k.block p h.lt hp (fun e => e1 e.symm)).trans h.row, h.map.of_block fun b e => k.block b (h.map.lt b e).2 ?_ (fun e2 => hm b e e2.symm), h.ok⟩
  rintro rfl
  subst e
  obtain ⟨-, -, -, es, clock, hb, -⟩ := h.map
  rw [h2.row] at hb
  cases hb
theorem Rl.cells_at {w : World} {p : Nat} {mb : Option Nat} {r : Rl} (h : w.heap[p]? = some (.cells (r.cells mb) 56)) :
    w.cell? ⟨p, 0, none⟩ = some (.int .i64 r.least) ∧ w.cell? ⟨p, 1, none⟩ = some (.int .i64 r.every) ∧ w.cell? ⟨p, 2, none⟩ = some (.map mb) ∧ w.cell? ⟨p, 3, none⟩ = some (.int .i64 r.last) ∧ w.cell? ⟨p, 4, none⟩ = some (.bool r.timed) ∧ w.cell? ⟨p, 5, none⟩ = some (.bool r.closed) :=
  ⟨cell_of_row w p 0 _ _ _ h, cell_of_row w p 1 _ _ _ h, cell_of_row w p 2 _ _ _ h, cell_of_row w p 3 _ _ _ h, cell_of_row w p 4 _ _ _ h, cell_of_row w p 5 _ _ _ h⟩
def perF (every t : Int) : Int := t / max every 1
theorem perF_tdiv (e t : Int) (he : 1 ≤ e) : t / e = if t.tmod e < 0 then t.tdiv e - 1 else t.tdiv e := by
  have h1 := Int.mul_tdiv_add_tmod t e
  have h2 := Int.mul_ediv_add_emod t e
  have h3 := Int.emod_nonneg t (show e ≠ 0 by omega)
  have h4 := Int.emod_lt_of_pos t (show 0 < e by omega)
  by_cases ht : 0 ≤ t
  · have h5 := Int.tmod_nonneg e ht
    rw [if_neg (by omega), Int.tdiv_eq_ediv_of_nonneg ht]
  · have hs : e.sign = 1 := Int.sign_eq_one_of_pos (by omega)
    have ha : (e.natAbs : Int) = e := Int.natAbs_of_nonneg (by omega)
    rw [Int.tdiv_eq_ediv, Int.tmod_eq_emod, hs]
    by_cases hd : e ∣ t
    · have h0 := Int.emod_eq_zero_of_dvd hd
      have hc : (0 ≤ t ∨ e ∣ t) = True := by simp [hd]
      simp only [hc, if_true]
      rw [if_neg (by omega)]
      omega
    · have hc : (0 ≤ t ∨ e ∣ t) = False := by simp [hd, ht]
      simp only [hc, if_false, ha]
      rw [if_pos (by omega)]
      omega
theorem tdiv_in {t e : Int} (ht : OkI t) (he : 1 ≤ e) : OkI (t.tdiv e) ∧ (t.tmod e < 0 → OkI (t.tdiv e - 1)) := by
  obtain ⟨h1, h2⟩ := ht
  have h3 := Int.mul_tdiv_add_tmod t e
  have h5 := perF_tdiv e t he
  have h6 := Int.emod_nonneg t (show e ≠ 0 by omega)
  have h7 := Int.emod_lt_of_pos t (show 0 < e by omega)
  have h8 := Int.mul_ediv_add_emod t e
  have h9 : (-9223372036854775808 : Int) ≤ t / e := by
    rw [Int.le_ediv_iff_mul_le (by omega)]
    have : e * 9223372036854775808 ≥ 1 * 9223372036854775808 := Int.mul_le_mul_of_nonneg_right he (by omega)
    omega
  have h10 : t / e ≤ 9223372036854775807 := by
    by_cases h0 : 0 ≤ t
    · exact Int.le_trans (Int.ediv_le_self _ h0) h2
    · have : t / e < 0 := Int.ediv_neg_of_neg_of_pos (by omega) (by omega)
      omega
  by_cases hm : t.tmod e < 0
  · rw [if_pos hm] at h5
    exact ⟨⟨by omega, by
      by_cases h0 : 0 ≤ t
      · have := Int.tmod_nonneg e h0
        omega
      · have : t / e < 0 := Int.ediv_neg_of_neg_of_pos (by omega) (by omega)
        omega⟩, fun _ => ⟨by omega, by omega⟩⟩
  · rw [if_neg hm] at h5
    exact ⟨⟨by omega, by omega⟩, fun h => absurd h hm⟩
theorem new_any (least every : Int) (w : World) (hl : OkI least) (he : OkI every) :
    Calls Try.prog 12 #[.int .i64 least, .int .i64 every] w fun e w' => e = .returned (.pointer (some ⟨w.heap.size, 0, none⟩)) ∧ RW w.heap.size w' w.heap.size none ⟨least, every, [], 0, false, false⟩ ∧ Ext w w' := by
  go_enter Try.func12, Try.ntmps12
  go_wp2
  go_ret
  exact ⟨rfl, ⟨Nat.le_refl _, alloc_at w _, rfl, ⟨hl, he, show OkI 0 from ⟨by decide, by decide⟩, by simp, by simp⟩⟩, Ext.alloc (Ext.refl _) _⟩
theorem old_any (p : Nat) (mb : Option Nat) (r : Rl) (t : Int) (w : World) (h : w.heap[p]? = some (.cells (r.cells mb) 56)) :
    Calls Try.prog 26 #[.pointer (some ⟨p, 0, none⟩), .int .i64 t] w fun e w' => e = .returned (.bool (r.timed && decide (t < r.last))) ∧ w' = w := by
  obtain ⟨-, -, -, c3, c4, -⟩ := Rl.cells_at h
  clear h
  generalize r.last = la at *
  cases ht : r.timed with
  | true =>
    rw [ht] at c4
    clear ht
    go_enter Try.func26, Try.ntmps26
    go_wp2
    go_ret
    exact ⟨rfl, rfl⟩
  | false =>
    rw [ht] at c4
    clear ht
    go_enter Try.func26, Try.ntmps26
    go_wp2
    go_ret
    exact ⟨rfl, rfl⟩
theorem wrap64_in {x : Int} (h : OkI x) : wrap64 x = x := by
  obtain ⟨h1, h2⟩ := h
  unfold wrap64
  omega
theorem period_any (p : Nat) (mb : Option Nat) (r : Rl) (t : Int) (w : World) (h : w.heap[p]? = some (.cells (r.cells mb) 56)) (hr : OkI r.every) (ht : OkI t) :
    Calls Try.prog 27 #[.pointer (some ⟨p, 0, none⟩), .int .i64 t] w fun e w' => e = .returned (.int .i64 (perF r.every t)) ∧ w' = w := by
  obtain ⟨-, c1, -, -, -, -⟩ := Rl.cells_at h
  clear h
  unfold perF
  generalize r.every = ev at *
  have h1 : 1 ≤ max ev 1 := by omega
  have h2 := tdiv_in ht h1
  have h3 := perF_tdiv (max ev 1) t h1
  have h4 : max ev 1 ≤ 9223372036854775807 := by have := hr.2; omega
  have HM : Hid (t / max ev 1 = if t.tmod (max ev 1) < 0 then t.tdiv (max ev 1) - 1 else t.tdiv (max ev 1)) := Lib.hid h3
  clear h3
  generalize t / max ev 1 = R at *
  go_enter Try.func27, Try.ntmps27
  go_upto_region 2 with (fail)
  clear hr c1
  generalize max ev 1 = m at *
  obtain ⟨hq1, hq2⟩ := h2
  have hm0 : ¬ m = 0 := by omega
  have hwq : wrap64 (t.tdiv m) = t.tdiv m := wrap64_in hq1
  cases hz : decide (t.tmod m < 0) with
  | true =>
    have hz1 := of_decide_eq_true hz
    have hq3 := hq2 hz1
    have hwq2 : wrap64 (t.tdiv m - 1) = t.tdiv m - 1 := wrap64_in hq3
    have HR : Hid (R = t.tdiv m - 1) := Lib.hid (HM.out.trans (if_pos hz1))
    clear HM hq2
    clear hz
    go_wp2
    go_ret
    exact ⟨by rw [HR.out]; show Ending.returned (.int .i64 (wrap64 (t.tdiv m - 1))) = _; rw [hwq2], rfl⟩
  | false =>
    have hz1 := of_decide_eq_false hz
    have HR : Hid (R = t.tdiv m) := Lib.hid (HM.out.trans (if_neg hz1))
    clear HM hq2
    clear hz
    go_wp2
    go_ret
    exact ⟨by rw [HR.out]; rfl, rfl⟩
end Go.Proofs.Ytbeoihjfjkbfhaa
