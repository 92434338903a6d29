/-
  Joined: the lemmas of this claim that other texts of it use, part 4. Nothing is asked.
-/
import Derived.Test.YtbeoihjfjkbfhaaJnC
import Derived.Lib.BytesEntry
import Derived.Sort.LotA
namespace Go.Proofs.Ytbeoihjfjkbfhaa
set_option linter.unusedVariables false
set_option linter.unusedSimpArgs false
open Go.RowKit Go.Sort
/-- The first that is not 0. -/
def orF (l : List Int) : Int := (l.find? fun z => decide (z ≠ 0)).getD 0
theorem or_any (v : Value) (l : List Int) (w : World) (hl : IRd w v l) : Calls Try.prog 41 #[v] w fun e w' => e = .returned (.int .i64 (orF l)) ∧ w' = w := by
  obtain ⟨A, c, rfl, hlen, -, hcell⟩ := hl
  go_enter Try.func41, Try.ntmps41
  go_wp2_with (fail)
  go_loopw [8] (fun k wr => ∃ i : Nat, k = .int .i64 i ∧ i ≤ l.length ∧ Hid (orF l = orF (l.drop i)) ∧ w = wr) (fun k _ => l.length - (iof k).toNat)
  case atStart => exact ⟨0, rfl, Nat.zero_le _, Lib.hid rfl, rfl⟩
  case round =>
    obtain ⟨i, rfl, hi, HI, rfl⟩ := hrel
    by_cases hil : i < l.length
    · obtain ⟨b, off, rfl, hc⟩ := hcell.resolve_left (by intro e; rw [e] at hil; simp at hil)
      have c0 := hc i hil
      have Hs : Hid (orF (l.drop i) = if l[i] = 0 then orF (l.drop (i + 1)) else l[i]) := Lib.hid (by
        unfold orF
        rw [List.drop_eq_getElem_cons hil, List.find?_cons]
        by_cases e : l[i] = 0
        · rw [e]; simp
        · simp [e])
      clear hc
      generalize l[i] = z at *
      by_cases hz : z = 0
      · subst hz
        go_wp2_with (fail)
        exact ⟨⟨i + 1, by simp, by omega, Lib.hid (by rw [HI.out, Hs.out, if_pos rfl]), by simp⟩, by simp [iof]; omega⟩
      · have HZ := Lib.hid hz
        go_wp2_with (fail)
        go_ret
        exact ⟨by rw [HI.out, Hs.out, if_neg HZ.out]; rfl, rfl⟩
    · obtain rfl : i = l.length := by omega
      go_wp2_with (fail)
      go_ret
      exact ⟨by rw [HI.out, List.drop_length]; rfl, rfl⟩

/-- A comparison that is a total order. -/
structure GC {α : Type} (c : α → α → Int) : Prop where
  anti : ∀ x y, c y x = - c x y
  eq : ∀ x y, c x y = 0 → x = y
  tr : ∀ x y z, c x y < 0 → c y z < 0 → c x z < 0
theorem GC.self {α : Type} {c : α → α → Int} (h : GC c) (x : α) : c x x = 0 := by have := h.anti x x; omega
theorem GC.swo {α : Type} {c : α → α → Int} (h : GC c) : SWO (ltOf c) where
  irrefl x := by simp [ltOf, h.self]
  trans x y z h1 h2 := by simp only [ltOf, decide_eq_true_eq] at *; exact h.tr x y z h1 h2
  ntrans x y z h1 h2 := by
    simp only [ltOf, decide_eq_false_iff_not] at *
    intro h3
    by_cases e : c x y = 0
    · obtain rfl := h.eq _ _ e
      exact h2 h3
    · have h4 : c y x < 0 := by have := h.anti x y; omega
      exact h2 (h.tr y x z h4 h3)
theorem GC.total {α : Type} {c : α → α → Int} (h : GC c) (x y : α) (h1 : ltOf c x y = false) (h2 : ltOf c y x = false) : x = y := by
  simp only [ltOf, decide_eq_false_iff_not] at *
  have := h.anti x y
  exact h.eq x y (by omega)
def lexC {α β : Type} (c : α → α → Int) (d : β → β → Int) : α × β → α × β → Int := fun x y => if c x.1 y.1 = 0 then d x.2 y.2 else c x.1 y.1
theorem GC.lex {α β : Type} {c : α → α → Int} {d : β → β → Int} (h : GC c) (k : GC d) : GC (lexC c d) := by
  refine ⟨fun x y => ?_, fun x y e => ?_, fun x y z h1 h2 => ?_⟩
  · unfold lexC
    have := h.anti x.1 y.1
    by_cases e : c x.1 y.1 = 0
    · rw [if_pos e, if_pos (by omega), k.anti]
    · rw [if_neg e, if_neg (by omega), this]
  · unfold lexC at e
    by_cases e1 : c x.1 y.1 = 0
    · rw [if_pos e1] at e
      exact Prod.ext (h.eq _ _ e1) (k.eq _ _ e)
    · rw [if_neg e1] at e
      exact absurd e e1
  · unfold lexC at *
    by_cases e1 : c x.1 y.1 = 0
    · rw [if_pos e1] at h1
      have e2 := h.eq _ _ e1
      rw [e2]
      by_cases e3 : c y.1 z.1 = 0
      · rw [if_pos e3] at h2 ⊢
        exact k.tr _ _ _ h1 h2
      · rw [if_neg e3] at h2 ⊢
        exact h2
    · rw [if_neg e1] at h1
      by_cases e3 : c y.1 z.1 = 0
      · have e4 := h.eq _ _ e3
        rw [← e4, if_neg e1]
        exact h1
      · rw [if_neg e3] at h2
        have := h.tr _ _ _ h1 h2
        rw [if_neg (by omega)]
        exact this
theorem GC.via {α β : Type} {c : α → α → Int} (h : GC c) (f : β → α) (hf : ∀ x y, f x = f y → x = y) : GC fun x y => c (f x) (f y) :=
  ⟨fun _ _ => h.anti _ _, fun x y e => hf x y (h.eq _ _ e), fun _ _ _ h1 h2 => h.tr _ _ _ h1 h2⟩
theorem gcB : GC Lib.compareBytes := by
  have hself : ∀ x : List UInt8, Lib.compareBytes x x = 0 := by
    intro x
    induction x with
    | nil => rfl
    | cons a x ih => simp [Lib.compareBytes, UInt8.lt_irrefl, ih]
  refine ⟨?_, ?_, ?_⟩
  · intro x
    induction x with
    | nil => intro y; cases y <;> rfl
    | cons a x ih =>
      intro y
      cases y with
      | nil => rfl
      | cons b y =>
        simp only [Lib.compareBytes]
        by_cases h1 : a < b
        · have h2 : ¬ b < a := fun h => UInt8.lt_irrefl _ (UInt8.lt_trans h1 h)
          simp [h1, h2]
        · by_cases h2 : b < a
          · simp [h1, h2]
          · simp [h1, h2, ih]
  · intro x
    induction x with
    | nil => intro y h; cases y with
      | nil => rfl
      | cons b y => simp [Lib.compareBytes] at h
    | cons a x ih =>
      intro y h
      cases y with
      | nil => simp [Lib.compareBytes] at h
      | cons b y =>
        simp only [Lib.compareBytes] at h
        by_cases h1 : a < b
        · simp [h1] at h
        · by_cases h2 : b < a
          · simp [h1, h2] at h
          · simp only [h1, h2, if_false] at h
            have e : a = b := UInt8.le_antisymm (UInt8.not_lt.1 h2) (UInt8.not_lt.1 h1)
            rw [e, ih y h]
  · intro x
    induction x with
    | nil =>
      intro y z h1 h2
      cases z with
      | nil => cases y <;> simp [Lib.compareBytes] at h1 h2
      | cons c z => simp [Lib.compareBytes]
    | cons a x ih =>
      intro y z h1 h2
      cases y with
      | nil => simp [Lib.compareBytes] at h1
      | cons b y =>
        cases z with
        | nil => simp [Lib.compareBytes] at h2
        | cons c z =>
          simp only [Lib.compareBytes] at *
          by_cases ab : a < b
          · by_cases bc : b < c
            · simp [UInt8.lt_trans ab bc]
            · by_cases cb : c < b
              · simp [bc, cb] at h2
              · have e : b = c := UInt8.le_antisymm (UInt8.not_lt.1 cb) (UInt8.not_lt.1 bc)
                rw [← e]
                simp [ab]
          · by_cases ba : b < a
            · simp [ab, ba] at h1
            · have e : a = b := UInt8.le_antisymm (UInt8.not_lt.1 ba) (UInt8.not_lt.1 ab)
              rw [e] at h1 ⊢
              simp only [UInt8.lt_irrefl, if_false] at h1
              by_cases bc : b < c
              · simp [bc]
              · by_cases cb : c < b
                · simp [bc, cb] at h2
                · simp only [bc, cb, if_false] at h2 ⊢
                  exact ih y z h1 h2
/-- The hash of a text, as bytes. -/
def hashB (s : ByteArray) : List UInt8 := Lib.bytesOf (sumV (bytesI s))
def cmpT (a b : ByteArray) : Int := orF [Lib.compareBytes (hashB a) (hashB b), Lib.compareBytes a.data.toList b.data.toList]
theorem cmpT_lex (a b : ByteArray) : cmpT a b = lexC Lib.compareBytes Lib.compareBytes (hashB a, a.data.toList) (hashB b, b.data.toList) := by
  unfold cmpT orF lexC
  simp only [List.find?_cons, List.find?_nil]
  by_cases h1 : Lib.compareBytes (hashB a) (hashB b) = 0
  · by_cases h2 : Lib.compareBytes a.data.toList b.data.toList = 0 <;> simp [h1, h2]
  · simp [h1]
theorem gcT : GC cmpT := by
  have h := (gcB.lex gcB).via (fun a : ByteArray => (hashB a, a.data.toList)) (fun x y e => by
    have e2 := congrArg Prod.snd e
    simp only at e2
    exact Go.WideShapes.bytes_inj e2)
  rw [show cmpT = fun a b : ByteArray => lexC Lib.compareBytes Lib.compareBytes (hashB a, a.data.toList) (hashB b, b.data.toList) from by funext x y; exact cmpT_lex x y]
  exact h
theorem run_compareB {P : Program} (xs ys : List Int) (a b : Addr) (c d : Nat) (w : World) (hx : ∀ j x, xs[j]? = some x → w.cell? (a.add j) = some (.int .u8 x)) (hy : ∀ j x, ys[j]? = some x → w.cell? (b.add j) = some (.int .u8 x)) :
    (Extern.BytealgCompare.compare #[.slice (some a) xs.length c, .slice (some b) ys.length d]).run P w = .ok (.int .i64 (Lib.compareBytes (Lib.bytesOf xs) (Lib.bytesOf ys))) w := by
  change Sem.run P (do pure (goInt (Extern.BytealgCompare.cmp (← Extern.Bytes.bytesOf (.slice (some a) xs.length c)) (← Extern.Bytes.bytesOf (.slice (some b) ys.length d))))) w = _
  simp only [Extern.Bytes.bytesOf, Sem.run_bind, Sem.run_pure, Result.andThen, Lib.run_loadBytesX w xs a .empty hx, Lib.run_loadBytesX w ys b .empty hy]
  rw [Lib.cmp_eq]
  simp
  rfl
set_option maxRecDepth 100000 in
theorem bytesCmp_any (xs ys : List Int) (a b : Addr) (c d : Nat) (w : World) (hx : ∀ j x, xs[j]? = some x → w.cell? (a.add j) = some (.int .u8 x)) (hy : ∀ j x, ys[j]? = some x → w.cell? (b.add j) = some (.int .u8 x)) :
    Calls Try.prog 42 #[.slice (some a) xs.length c, .slice (some b) ys.length d] w fun e w' => e = .returned (.int .i64 (Lib.compareBytes (Lib.bytesOf xs) (Lib.bytesOf ys))) ∧ w' = w := by
  have HX := Lib.hid hx; have HY := Lib.hid hy
  clear hx hy
  go_enter Try.func42, Try.ntmps42
  go_wp2
  rw [run_callFunc_extern Try.func52 (by kernel_rfl) (by kernel_rfl) (by kernel_rfl) (e := Extern.BytealgCompare.compare) (by kernel_rfl), run_compareB xs ys a b c d w HX.out HY.out]
  simp only [Result.andThen]
  rw [Oper.upon_value]
  go_wp2
  go_ret
  exact ⟨rfl, rfl⟩
theorem strCmp_any (a b : ByteArray) (w : World) : Calls Try.prog 43 #[.string a, .string b] w fun e w' => e = .returned (.int .i64 (Lib.compareBytes a.data.toList b.data.toList)) ∧ w' = w := Any.strings_Compare cmpS a b w
end Go.Proofs.Ytbeoihjfjkbfhaa

namespace Go.Proofs.Ytbeoihjfjkbfhaa
set_option linter.unusedVariables false
set_option linter.unusedSimpArgs false
open Go.RowKit Go.Sort
theorem rowB_cell {w : World} {p : Nat} {A : List Int} {t : TypeId} {fr : Nat × Nat} (h : w.heap[p]? = some (.cells (A.map (Value.int .u8)).toArray t fr)) : ∀ j x, A[j]? = some x → w.cell? ((⟨p, 0, none⟩ : Addr).add j) = some (.int .u8 x) := by
  intro j x hj
  rw [show (⟨p, 0, none⟩ : Addr).add j = ⟨p, j, none⟩ from by unfold Addr.add; split <;> simp_all]
  refine (cell_of_row _ _ j _ _ _ h).trans ?_
  simp [hj]
theorem cmpB_in (a b : List UInt8) : -9223372036854775808 ≤ Lib.compareBytes a b ∧ Lib.compareBytes a b ≤ 9223372036854775807 := by
  have h : Lib.compareBytes a b = -1 ∨ Lib.compareBytes a b = 0 ∨ Lib.compareBytes a b = 1 := by
    induction a generalizing b with
    | nil => cases b <;> simp [Lib.compareBytes]
    | cons x a ih =>
      cases b with
      | nil => simp [Lib.compareBytes]
      | cons y b =>
        simp only [Lib.compareBytes]
        by_cases h1 : x < y
        · simp [h1]
        · by_cases h2 : y < x
          · simp [h1, h2]
          · simpa [h1, h2] using ih b
  omega
set_option maxRecDepth 100000 in
set_option maxHeartbeats 4000000 in
theorem cmpT_any (a b : ByteArray) (w : World) (ha : a.size ≤ 4000) (hb : b.size ≤ 4000) :
    Calls Try.prog 39 #[.string a, .string b] w fun e w' => e = .returned (.int .i64 (cmpT a b)) ∧ Ext w w' := by
  have HC : Hid (cmpT a b = orF [Lib.compareBytes (Lib.bytesOf (sumV (bytesI a))) (Lib.bytesOf (sumV (bytesI b))), Lib.compareBytes a.data.toList b.data.toList]) := Lib.hid rfl
  have HA := Lib.hid (fun w => sum_any a w ha); have HB := Lib.hid (fun w => sum_any b w hb)
  have la := sumV_len (bytesI a); have lb := sumV_len (bytesI b)
  generalize sumV (bytesI a) = A at *
  generalize sumV (bytesI b) = B at *
  generalize cmpT a b = R at *
  have HS := Lib.hid (strCmp_any a b)
  have k2 := cmpB_in a.data.toList b.data.toList
  generalize Lib.compareBytes a.data.toList b.data.toList = c2 at *
  have sa : (A.map (Value.int .u8)).toArray.size = 32 := by simpa using la
  have sb : (B.map (Value.int .u8)).toArray.size = 32 := by simpa using lb
  have oa : ∀ v ∈ ((A.map (Value.int .u8)).toArray).toList, v.oneCell' = true := by
    intro v hv
    obtain ⟨y, -, rfl⟩ := List.mem_map.1 hv
    rfl
  have ob : ∀ v ∈ ((B.map (Value.int .u8)).toArray).toList, v.oneCell' = true := by
    intro v hv
    obtain ⟨y, -, rfl⟩ := List.mem_map.1 hv
    rfl
  obtain ⟨RA, hRA⟩ : ∃ RA, RA = (A.map (Value.int .u8)).toArray := ⟨_, rfl⟩
  obtain ⟨RB, hRB⟩ : ∃ RB, RB = (B.map (Value.int .u8)).toArray := ⟨_, rfl⟩
  rw [← hRA] at HA sa oa
  rw [← hRB] at HB sb ob
  have HRA := Lib.hid hRA; have HRB := Lib.hid hRB
  have LA := Lib.hid la; have LB := Lib.hid lb
  clear hRA hRB la lb ha hb
  go_enter Try.func39, Try.ntmps39
  go_upto_region 2 with (first
    | (go_at_call 40; (with_reducible refine (HA.out _).mono ?_); rintro e w1 ⟨rfl, hx1⟩)
    | (go_at_call 40; (with_reducible refine (HB.out _).mono ?_); rintro e w2 ⟨rfl, hx2⟩)
    | (refine wpList_store_row (hgd := rfl) 78 (.tmp 5) (.tmp 8) rfl w2.heap.size (by rfl) RA (by rfl) (rowB []) 78 (two_blocks _ _ _).1 (by rw [sa]; rfl) (by rw [sa]; kernel_rfl) oa ?_)
    | (refine wpList_store_row (hgd := rfl) 78 (.tmp 6) (.tmp 10) rfl (w2.heap.size + 1) (by rfl) RB (by rfl) (rowB []) 78 ((setRow_other _ _ _ _ (by omega)).trans (two_blocks _ _ _).2) (by rw [sb]; rfl) (by rw [sb]; kernel_rfl) ob ?_))
  change Code.wp _ _ _ _ ((((w2.alloc (.cells (rowB []) 78)).alloc (.cells (rowB []) 78)).setRow w2.heap.size RA).setRow (w2.heap.size + 1) RB)
  have hX : Ext w ((((w2.alloc (.cells (rowB []) 78)).alloc (.cells (rowB []) 78)).setRow w2.heap.size RA).setRow (w2.heap.size + 1) RB) := by
    have h12 := hx1.size; have h22 := hx2.size
    exact below_setRow (below_setRow (Ext.alloc (Ext.alloc (hx1.trans hx2) _) _) (by omega) _) (by omega) _
  have hP : ((((w2.alloc (.cells (rowB []) 78)).alloc (.cells (rowB []) 78)).setRow w2.heap.size RA).setRow (w2.heap.size + 1) RB).heap[w2.heap.size]? = some (.cells RA 78) :=
    (setRow_other _ _ _ _ (by omega)).trans (setRow_heap _ _ _ _ _ _ (two_blocks _ _ _).1)
  have hQ : ((((w2.alloc (.cells (rowB []) 78)).alloc (.cells (rowB []) 78)).setRow w2.heap.size RA).setRow (w2.heap.size + 1) RB).heap[w2.heap.size + 1]? = some (.cells RB 78) :=
    setRow_heap _ _ _ _ _ _ ((setRow_other _ _ _ _ (by omega)).trans (two_blocks _ _ _).2)
  generalize ((((w2.alloc (.cells (rowB []) 78)).alloc (.cells (rowB []) 78)).setRow w2.heap.size RA).setRow (w2.heap.size + 1) RB) = W at *
  obtain ⟨p, hp⟩ : ∃ p, p = w2.heap.size := ⟨_, rfl⟩
  obtain ⟨q, hq⟩ : ∃ q, q = w2.heap.size + 1 := ⟨_, rfl⟩
  rw [← hq] at hQ ⊢
  rw [← hp] at hP ⊢
  have HX := Lib.hid hX
  have HM : Hid (∀ wz, Ext W wz → Calls Try.prog 42 #[.slice (some ⟨p, 0, none⟩) 32 32, .slice (some ⟨q, 0, none⟩) 32 32] wz fun e w' => e = .returned (.int .i64 (Lib.compareBytes (Lib.bytesOf A) (Lib.bytesOf B))) ∧ Ext wz w') := Lib.hid (fun wz hz => by
    have h1 := (hz.block _ (Rg.lt_of_heap hP)).trans hP
    have h2 := (hz.block _ (Rg.lt_of_heap hQ)).trans hQ
    rw [HRA.out] at h1
    rw [HRB.out] at h2
    have h := bytesCmp_any A B ⟨p, 0, none⟩ ⟨q, 0, none⟩ 32 32 wz (rowB_cell h1) (rowB_cell h2)
    rw [LA.out, LB.out] at h
    exact h.mono fun _ _ ⟨he, hw⟩ => ⟨he, hw ▸ Ext.refl _⟩)
  have HT : Hid (∀ wz, Calls Try.prog 43 #[.string a, .string b] wz fun e w' => e = .returned (.int .i64 c2) ∧ Ext wz w') := Lib.hid (fun wz => (HS.out wz).mono fun _ _ ⟨he, hw⟩ => ⟨he, hw ▸ Ext.refl _⟩)
  have k1 := cmpB_in (Lib.bytesOf A) (Lib.bytesOf B)
  generalize Lib.compareBytes (Lib.bytesOf A) (Lib.bytesOf B) = c1 at *
  clear hX hP hQ hp hq hx1 hx2 sa sb oa ob
  refine Rr.wp_region [(0, .y), (1, .y), (2, .y), (3, .y), (4, .y), (5, .y), (6, .m), (7, .y)] (fun _ => (.cells #[.int .i64 c1, .int .i64 c2] 3, fun p => .slice (some ⟨p, 0, none⟩) 2 2)) (by kernel_rfl) (by kernel_rfl) ?_
  (refine Rr.wr_y (by simp only [List.getElem?_toArray, List.getElem?_cons_succ, List.getElem?_cons_zero]; rfl) (by rfl) ?_
   apply Exists.intro
   refine ⟨fun wz hw _ => ?_, ?_⟩
   · have hcz := hw.cells.1
     go_simp
     (with_reducible exact Rg.up_value)
   simp only [Act.put, List.setIfInBounds_toArray, List.set_cons_zero, List.set_cons_succ])
  (refine Rr.wr_y (by simp only [List.getElem?_toArray, List.getElem?_cons_succ, List.getElem?_cons_zero]; rfl) (by rfl) ?_
   apply Exists.intro
   refine ⟨fun wz hw _ => ?_, ?_⟩
   · have hcz := hw.cells.1
     go_simp
     (with_reducible exact Rg.up_value)
   simp only [Act.put, List.setIfInBounds_toArray, List.set_cons_zero, List.set_cons_succ])
  (refine Rr.wr_y (by simp only [List.getElem?_toArray, List.getElem?_cons_succ, List.getElem?_cons_zero]; rfl) (by rfl) ?_
   apply Exists.intro
   refine ⟨fun wz hw _ => ?_, ?_⟩
   · have hcz := hw.cells.1
     go_simp
     apply Rg.up_enter
     (with_reducible refine (HM.out _ hw).mono ?_)
     rintro e w3 ⟨rfl, hb3⟩
     exact ⟨rfl, hb3⟩
   simp only [Act.put, List.setIfInBounds_toArray, List.set_cons_zero, List.set_cons_succ])
  (refine Rr.wr_y (by simp only [List.getElem?_toArray, List.getElem?_cons_succ, List.getElem?_cons_zero]; rfl) (by rfl) ?_
   apply Exists.intro
   refine ⟨fun wz hw _ => ?_, ?_⟩
   · have hcz := hw.cells.1
     go_simp
     (with_reducible exact Rg.up_value)
   simp only [Act.put, List.setIfInBounds_toArray, List.set_cons_zero, List.set_cons_succ])
  (refine Rr.wr_y (by simp only [List.getElem?_toArray, List.getElem?_cons_succ, List.getElem?_cons_zero]; rfl) (by rfl) ?_
   apply Exists.intro
   refine ⟨fun wz hw _ => ?_, ?_⟩
   · have hcz := hw.cells.1
     go_simp
     (with_reducible exact Rg.up_value)
   simp only [Act.put, List.setIfInBounds_toArray, List.set_cons_zero, List.set_cons_succ])
  (refine Rr.wr_y (by simp only [List.getElem?_toArray, List.getElem?_cons_succ, List.getElem?_cons_zero]; rfl) (by rfl) ?_
   apply Exists.intro
   refine ⟨fun wz hw _ => ?_, ?_⟩
   · have hcz := hw.cells.1
     go_simp
     apply Rg.up_enter
     (with_reducible refine (HT.out _).mono ?_)
     rintro e w3 ⟨rfl, hb3⟩
     exact ⟨rfl, hb3⟩
   simp only [Act.put, List.setIfInBounds_toArray, List.set_cons_zero, List.set_cons_succ])
  refine Rr.wr_m (by simp only [List.getElem?_toArray, List.getElem?_cons_succ, List.getElem?_cons_zero]; rfl) (by rfl) (fun wz => by go_simp) (fun p3 hp3 => ?_)
  simp only [Act.put, List.setIfInBounds_toArray, List.set_cons_zero, List.set_cons_succ]
  (refine Rr.wr_y (by simp only [List.getElem?_toArray, List.getElem?_cons_succ, List.getElem?_cons_zero]; rfl) (by rfl) ?_
   apply Exists.intro
   refine ⟨fun wz hw hh => ?_, ?_⟩
   · obtain ⟨-, hb⟩ := hh _ List.mem_cons_self
     have hl : IRd wz (.slice (some ⟨p3, 0, none⟩) 2 2) [c1, c2] := ⟨_, _, rfl, by simp, (by
       intro z hz
       simp only [List.mem_cons, List.not_mem_nil, or_false] at hz
       rcases hz with rfl | rfl <;> assumption), .inr ⟨p3, 0, rfl, fun k hk => by
       rw [cell_of_row wz p3 _ _ _ _ hb]
       match k, hk with
       | 0, _ => rfl
       | 1, _ => rfl⟩⟩
     go_simp
     apply Rg.up_enter
     (with_reducible refine (or_any _ _ wz hl).mono ?_)
     rintro e w3 ⟨rfl, rfl⟩
     exact ⟨rfl, Ext.refl _⟩
   simp only [Act.put, List.setIfInBounds_toArray, List.set_cons_zero, List.set_cons_succ])
  refine Rr.wr_nil ?_
  intro wy hy hh
  simp only [List.length_cons, List.length_nil, List.drop_succ_cons, List.drop_zero, Nat.reduceAdd]
  go_wp2_with (fail)
  go_ret
  exact ⟨by rw [HC.out]; rfl, HX.out.trans hy⟩
end Go.Proofs.Ytbeoihjfjkbfhaa
