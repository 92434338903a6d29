/-
  Final of a book. Condition: what the book holds.
-/
import Derived.Test.YtnplnfkmcfalhaaGreatDoorGdD
namespace Go.Proofs.YtnplnfkmcfalhaaGreatDoor
set_option linter.unusedVariables false
set_option linter.unusedSimpArgs false
open Go.RowKit

section
variable {κ : Type} {enc : κ → Value} {good : κ → Prop} {w w' : World} {o : Option Nat} {r : Nat} {m left : List (κ × Value)}
/-- A map, or none, of the pairs m. -/
def MPO (enc : κ → Value) (good : κ → Prop) (w : World) (o : Option Nat) (m : List (κ × Value)) : Prop := match o with | none => m = [] | some b => MP enc good w b m
/-- A loop over a map, or over none. -/
def RGO (enc : κ → Value) (good : κ → Prop) (w : World) (o : Option Nat) (r : Nat) (m left : List (κ × Value)) : Prop := match o with | none => left = [] ∧ w.heap[r]? = some (.mapIter none 0 #[] 0) | some b => RG enc good w b r m left
theorem RGO.lt (h : RGO enc good w o r m left) : r < w.heap.size := by
  cases o with
  | none => exact (Array.getElem?_eq_some_iff.1 h.2).1
  | some b => exact RG.lt h
theorem RGO.ext (h : RGO enc good w o r m left) (e : Ext w w') : RGO enc good w' o r m left := by
  cases o with
  | none => exact ⟨h.1, (e.block _ (Array.getElem?_eq_some_iff.1 h.2).1).trans h.2⟩
  | some b => exact RG.ext h e
theorem RGO.kept {row : Option Nat} (h : RGO enc good w o r m left) (x : w.grownBy w' row) (hb : ∀ b, o = some b → some b ≠ row) (hr : some r ≠ row) : RGO enc good w' o r m left := by
  cases o with
  | none => exact ⟨h.1, (x.block r (Array.getElem?_eq_some_iff.1 h.2).1 hr).trans h.2⟩
  | some b => exact RG.kept h x (hb b rfl) hr
variable {ops : Array Oper} {rest : List Oper} {op : Oper} {a : Act} {Q : Exit → Act → World → Prop} {P : Program}
theorem wpList_rangeO (hg : op.guard = none) (x : Operand) (t : TypeId) (hop : op.op = Op.range t x) (k e : TypeId) (ht : P.underlying t = some (.map k e)) (o : Option Nat) (l : List (κ × Value)) (hm : a.eval x = .map o) (h : MPO enc good w o l)
    (hK : ∀ w', RGO enc good w' o w.heap.size l l → Ext w w' → w'.heap.size = w.heap.size + 1 → wpList P ops Q rest (a.put op.dst (.pointer (some ⟨w.heap.size, 0, none⟩))) w') : wpList P ops Q (op :: rest) a w := by
  cases o with
  | none =>
    refine wpList_plain hg fun K' hK' => ?_
    have hrun := run_range_nilMap (P := P) w t k e ht
    unfold Oper.wp
    simp [execOp, hop, hm, hrun, Result.andThen]
    exact hK' _ _ (hK _ ⟨h, heap_alloc_new w _⟩ (Ext.alloc (Ext.refl _) _) (by simp))
  | some b => exact wpList_range hg x t hop k e ht b l hm h hK
theorem wpList_nextO (hg : op.guard = none) (it : Operand) (hop : op.op = Op.next it false) (o : Option Nat) (r : Nat) (l left : List (κ × Value)) (hit : a.eval it = .pointer (some ⟨r, 0, none⟩)) (h : RGO enc good w o r l left)
    (hDone : left = [] → wpList P ops Q rest (a.put op.dst (.tuple #[.bool false])) w)
    (hMore : ∀ b pre x v post w', o = some b → left = pre ++ (x, v) :: post → RGO enc good w' o r l (pre ++ post) → w.grownBy w' (some r) → w'.heap.size = w.heap.size → (Instr.entry (.pointer (some ⟨r, 0, none⟩))).run P w' = .ok (.tuple #[enc x, v]) w' → w'.rangeLeft b r < w.rangeLeft b r → wpList P ops Q rest (a.put op.dst (.tuple #[.bool true, enc x, v])) w') : wpList P ops Q (op :: rest) a w := by
  cases o with
  | none =>
    refine wpList_plain hg fun K' hK' => ?_
    have hrun : (Instr.next (.pointer (some ⟨r, 0, none⟩)) false op.type).run P w = .ok (.tuple #[.bool false]) w := by
      simp only [Instr.next, getObj, Sem.run_bind, Sem.run, h.2, Result.andThen]
      rfl
    unfold Oper.wp
    simp [execOp, hop, hit, hrun, Result.andThen]
    exact hK' _ _ (hDone h.1)
  | some b =>
    refine wpList_next hg it hop b r l left hit h hDone (fun pre x v post w' h1 h2 h3 h4 h5 => hMore b pre x v post w' rfl h1 h2 h3 h4 h5 ?_)
    rw [RG.left_eq h2, RG.left_eq h, h1]
    simp
/-- How many entries are still to come. -/
def leftO (w : World) (o : Option Nat) (r : Nat) : Nat := match o with | none => 0 | some b => w.rangeLeft b r
end
theorem leftO_eq {κ : Type} {enc : κ → Value} {good : κ → Prop} {w : World} {o : Option Nat} {r : Nat} {m left : List (κ × Value)} (h : RGO enc good w o r m left) : leftO w o r = left.length := by
  cases o with
  | none => rw [h.1]; rfl
  | some b => exact RG.left_eq h
theorem RGO.good {κ : Type} {enc : κ → Value} {good : κ → Prop} {w : World} {o : Option Nat} {r : Nat} {m left : List (κ × Value)} (h : RGO enc good w o r m left) : ∀ p ∈ left, good p.1 := by
  cases o with
  | none => rw [h.1]; simp
  | some b => exact fun p hp => h.1.gd p (h.2.1 p hp)
theorem MPO.nodup {κ : Type} {enc : κ → Value} {good : κ → Prop} {w : World} {o : Option Nat} {m : List (κ × Value)} (h : MPO enc good w o m) : (m.map (·.1)).Nodup := by
  cases o with
  | none => rw [show m = [] from h]; exact List.Pairwise.nil
  | some b => exact MP.nodup h
theorem RGO.sub {κ : Type} {enc : κ → Value} {good : κ → Prop} {w : World} {o : Option Nat} {r : Nat} {m left : List (κ × Value)} (h : RGO enc good w o r m left) : ∀ p ∈ left, p ∈ m := by
  cases o with
  | none => rw [h.1]; simp
  | some b => exact fun p hp => h.2.1 p hp
theorem RGO.iter {κ : Type} {enc : κ → Value} {good : κ → Prop} {w : World} {o : Option Nat} {r : Nat} {m left : List (κ × Value)} (h : RGO enc good w o r m left) : ∃ a s q c, w.heap[r]? = some (.mapIter a s q c) := by
  cases o with
  | none => exact ⟨_, _, _, _, h.2⟩
  | some b =>
    obtain ⟨-, -, es, clock, since, seen, c0, hb, hr, -⟩ := h
    exact ⟨_, _, _, _, hr⟩
theorem ird_iter {κ : Type} {enc : κ → Value} {good : κ → Prop} {w w' : World} {o : Option Nat} {r : Nat} {m left : List (κ × Value)} {v : Value} {l : List Int} (hi : IRd w v l) (h : RGO enc good w o r m left) (g : w.grownBy w' (some r)) : IRd w' v l := by
  obtain ⟨A, cap, h1, h2, h3, h4⟩ := hi
  refine ⟨A, cap, h1, h2, h3, h4.imp id fun ⟨b, off, ha, hc⟩ => ⟨b, off, ha, fun k hk => ?_⟩⟩
  have hq := hc k hk
  have hl := World.block_lt_of_cell? w _ hq
  rw [World.cell?_of_block (a := ⟨b, off + k, none⟩) (g.block b hl (fun e => ?_))]
  · exact hq
  · obtain ⟨a, s, q, c, hr⟩ := h.iter
    injection e with e
    subst e
    simp [World.cell?, hr] at hq
theorem in_rest {α : Type} {pre post : List α} {x y : α} (h : y ∈ pre ++ x :: post) (hne : y ≠ x) : y ∈ pre ++ post := by
  rcases List.mem_append.1 h with h | h
  · exact List.mem_append_left _ h
  · rcases List.mem_cons.1 h with h | h
    · exact absurd h hne
    · exact List.mem_append_right _ h
theorem MO.mpo {κ : Type} [DecidableEq κ] {enc : κ → Value} {good : κ → Prop} {w : World} {o : Option Nat} {f : κ → Option Value} (h : MO enc good w o f) : ∃ m, MPO enc good w o m ∧ ∀ k, m.lookup k = f k := by
  cases o with
  | none => exact ⟨[], rfl, fun k => (h k).symm⟩
  | some b => exact h

def hasA (b : Bk) (bid : Int) : Prop := ∃ a, b.dut ⟨a, bid⟩ = true
def few (b : Bk) (bid : Int) : Prop := ∃ lot name a, b.lots lot = true ∧ (b.crit name).isSome = true ∧ b.dut ⟨a, bid⟩ = true ∧ b.gr ⟨bid, lot, name, a⟩ = none
open Classical in
noncomputable def finE (b : Bk) (bid : Int) : Int := if ¬ hasA b bid then 34 else if b.fin bid = true then 33 else if few b bid then 24 else 0
def Bk.fine (b : Bk) (bid : Int) : Bk := { b with fin := fun i => if i = bid then true else b.fin i }
noncomputable def finB (b : Bk) (bid : Int) : Bk := if finE b bid = 0 then b.fine bid else b
theorem finE_34 {b : Bk} {bid : Int} (h : ¬ hasA b bid) : finE b bid = 34 := if_pos h
theorem finE_33 {b : Bk} {bid : Int} (h : hasA b bid) (h2 : b.fin bid = true) : finE b bid = 33 := by unfold finE; rw [if_neg (by simpa using h), if_pos h2]
theorem finE_24 {b : Bk} {bid : Int} (h : hasA b bid) (h2 : b.fin bid = false) (h3 : few b bid) : finE b bid = 24 := by unfold finE; rw [if_neg (by simpa using h), if_neg (by simp [h2]), if_pos h3]
theorem finE_0 {b : Bk} {bid : Int} (h : hasA b bid) (h2 : b.fin bid = false) (h3 : ¬ few b bid) : finE b bid = 0 := by unfold finE; rw [if_neg (by simpa using h), if_neg (by simp [h2]), if_neg h3]
theorem finB_ne {b : Bk} {bid : Int} (h : finE b bid ≠ 0) : finB b bid = b := if_neg h

/-- Where the map of finals has turned, the others stay. -/
theorem fine_done {w W : World} {p : Nat} {b : Bk} {F : List Nat} {bid : Int} {ml mc md mg mf : Option Nat} {cv : Value} {bf : Nat}
    (hp : w.heap[p]? = some (.cells #[.map ml, .map mc, .map md, .map mg, .map mf, cv] 40)) (hF : F = blks p ml mc md mg mf cv) (hD : DM ml mc md mg mf)
    (h1 : MO encI OkI w ml (boolF b.lots)) (h2 : MO encS OkS w mc (fun n => (b.crit n).map Cr.v)) (h3 : MO encD OkD w md (boolF b.dut)) (h4 : MO encP OkP w mg (fun k => (b.gr k).map Gd.v)) (h5 : MO encI OkI w mf (boolF b.fin))
    (h6 : w.ownsRow 0 23 6 cv b.old.length (b.old.flatMap Gd.cs)) (h7 : (∀ n c, b.crit n = some c → c.ok ∧ c.name = n) ∧ (∀ k g, b.gr k = some g → g.ok ∧ g.pl = k) ∧ (∀ g ∈ b.old, g.ok) ∧ DB w md)
    (hbf : BGd mf bf w.heap.size)
    (hp' : W.heap[p]? = some (.cells #[.map ml, .map mc, .map md, .map mg, .map (some bf), cv] 40))
    (hm' : ∃ m, MP encI OkI W bf m ∧ ∀ k, m.lookup k = boolF (b.fine bid).fin k)
    (hK : KF F w W) (hsame : ∀ k, k < w.heap.size → k ≠ p → some k ≠ mf → W.heap[k]? = w.heap[k]?) : GP F w p (b.fine bid) W := by
  subst hF
  have hne : ∀ {κ : Type} [DecidableEq κ] {enc : κ → Value} {good : κ → Prop} {o : Option Nat} {f : κ → Option Value}, MO enc good w o f → (∀ q, mf = some q → o ≠ some q) → ∀ q, o = some q → W.heap[q]? = w.heap[q]? := fun {κ _ enc good o f} h hg q e => by
    exact hsame q (h.lt q e) (fun e1 => h.ne_cells hp (e1 ▸ e)) (fun e1 => hg q e1.symm e)
  have e1 := hne h1 (fun q e => (hD.2 q e).1)
  have e2 := hne h2 (fun q e => (hD.2 q e).2.1)
  have e3 := hne h3 (fun q e => (hD.2 q e).2.2.1)
  have e4 := hne h4 (fun q e => (hD.2 q e).2.2.2)
  have l1 := h1.lt; have l2 := h2.lt; have l3 := h3.lt; have l4 := h4.lt
  have hbn : ∀ o, (∀ q, o = some q → q < w.heap.size) → (∀ q, mf = some q → o ≠ some q) → o ≠ some bf := fun o hl hn e => by
    rcases hbf with h | ⟨-, h⟩
    · exact hn bf h e
    · have := hl bf e; omega
  have e6 : ∀ q, cv.ownBlock = some q → W.heap[q]? = w.heap[q]? := fun q e => by
    obtain ⟨cs, hc⟩ := row_block h6 e
    exact hsame q (h6.lt q e).2 (fun e1 => by rw [e1, hp] at hc; cases hc) (fun e1 => h5.ne_cells hc e1.symm)
  refine ⟨_, ⟨ml, mc, md, mg, some bf, cv, hp', rfl, ⟨hD.1, fun q e => ?_⟩, h1.of_block e1, h2.of_block e2, h3.of_block e3, h4.of_block e4, hm', row_of_block h6 e6, h7.1, h7.2.1, h7.2.2.1, h7.2.2.2.of_block e3⟩, fun k hk => ?_, hK⟩
  · injection e with e
    subst e
    exact ⟨hbn ml l1 (fun q h => (hD.2 q h).1), hbn mc l2 (fun q h => (hD.2 q h).2.1), hbn md l3 (fun q h => (hD.2 q h).2.2.1), hbn mg l4 (fun q h => (hD.2 q h).2.2.2)⟩
  · rw [mem_blks] at hk ⊢
    rcases hk with h | h | h | h | h | h | h
    · exact .inl (.inl h)
    · exact .inl (.inr (.inl h))
    · exact .inl (.inr (.inr (.inl h)))
    · exact .inl (.inr (.inr (.inr (.inl h))))
    · exact .inl (.inr (.inr (.inr (.inr (.inl h)))))
    · injection h with h
      subst h
      rcases hbf with h | ⟨-, h⟩
      · exact .inl (.inr (.inr (.inr (.inr (.inr (.inl h))))))
      · exact .inr h
    · exact .inl (.inr (.inr (.inr (.inr (.inr (.inr h))))))
theorem fine_look {b : Bk} {bid : Int} {m : List (Int × Value)} (h : ∀ k, m.lookup k = boolF b.fin k) (k : Int) : (putL m bid (.bool true)).lookup k = boolF (b.fine bid).fin k := by
  rw [lookup_put, h]
  unfold boolF Bk.fine
  by_cases hk : k = bid
  · simp [hk]
  · simp [hk]

set_option maxRecDepth 100000 in
set_option maxHeartbeats 4000000 in
theorem Final_any (p : Nat) (b : Bk) (F : List Nat) (bid : Int) (hbid : OkI bid) (w : World) (h : BR w p b F) :
    Calls Tryz.prog 11 #[.pointer (some ⟨p, 0, none⟩), .int .i64 bid] w fun e w' => e = .returned (.int .i64 (finE b bid)) ∧ GP F w p (finB b bid) w' := by
  have HB := Lib.hid h
  obtain ⟨ml, mc, md, mg, mf, cv, hp, hF, hnd, h1, h2, h3, h4, h5, h6, h7⟩ := h
  have HPW := Lib.hid hp; have HFF := Lib.hid hF; have HND := Lib.hid hnd; have HH1 := Lib.hid h1; have HH2 := Lib.hid h2; have HH3 := Lib.hid h3; have HH4 := Lib.hid h4; have HH5 := Lib.hid h5; have HH6 := Lib.hid h6; have HH7 := Lib.hid h7
  have HP : Hid (∀ W, Ext w W → W.heap[p]? = some (.cells #[.map ml, .map mc, .map md, .map mg, .map mf, cv] 40)) := Lib.hid fun W hW => (hW.block _ (Rg.lt_of_heap hp)).trans hp
  have HG : Hid (∀ W, Ext w W → ∀ lot name a, OkI lot → OkS name → OkI a → (Instr.lookup 38 (.map mg) (.agg #[.int .i64 bid, .int .i64 lot, .string name, .int .i64 a]) true).run Tryz.prog W = .ok (.tuple #[((b.gr ⟨bid, lot, name, a⟩).map Gd.v).getD (.agg #[.int .i64 0, .int .i64 0, .int .i64 0, .string ⟨#[]⟩, .int .i64 0, .int .i64 0]), .bool (b.gr ⟨bid, lot, name, a⟩).isSome]) W) := Lib.hid fun W hW lot name a hl hn ha => by
    have := (h4.of_block (fun k hk => hW.block k (h4.lt k hk))).look keP Tryz.underlying38 (z := .agg #[.int .i64 0, .int .i64 0, .int .i64 0, .string ⟨#[]⟩, .int .i64 0, .int .i64 0]) (by rfl) (x := ⟨bid, lot, name, a⟩) ⟨hbid, hl, hn, ha⟩ true
    simpa using this
  have H5 : Hid (∀ W, Ext w W → (Instr.lookup 35 (.map mf) (.int .i64 bid) false).run Tryz.prog W = .ok (.bool (b.fin bid)) W) := Lib.hid fun W hW => by
    have := (h5.of_block (fun k hk => hW.block k (h5.lt k hk))).look keI Tryz.underlying35 (z := .bool false) (by rfl) hbid false
    simpa only [boolF_get, Bool.false_eq_true, if_false] using this
  have hlt := Rg.lt_of_heap hp
  clear hp hF hnd h1 h2 h3 h4 h5 h6 h7
  have HBI := Lib.hid hbid; clear hbid
  go_enter Tryz.func11, Tryz.ntmps11
  go_upto_region 4 with (go_at_call 26; (with_reducible refine (assessors_any p b F bid _ HB.out).mono ?_); rintro e w1 ⟨r, l, rfl, hr, hI, ⟨hok, hll⟩, hx1⟩; obtain ⟨lb, lc, rfl, -⟩ := id hr)
  have HI := Lib.hid hI; have HR := Lib.hid hr; have HOK := Lib.hid hok
  clear hI hr hok
  by_cases hl0 : l = []
  · subst hl0
    have hno : ¬ hasA b bid := fun ⟨a, ha⟩ => by
      rcases (HI.out.mem a).1 ha with h | ⟨v, h⟩
      · cases h
      · cases h
    have HNO := Lib.hid hno
    clear hno
    go_wp2_with (fail)
    go_ret
    rw [finB_ne (by rw [finE_34 HNO.out]; decide), finE_34 HNO.out]
    exact ⟨rfl, GP.same HB.out hx1⟩
  · have HA : Hid (hasA b bid) := Lib.hid (by
      cases l with
      | nil => exact absurd rfl hl0
      | cons a t => exact ⟨a, (HI.out.mem a).2 (.inl List.mem_cons_self)⟩)
    have hpos : 0 < l.length := List.length_pos_iff.2 hl0
    have hlz : ((l.length : Int) == 0) = false := by simp; omega
    clear hl0
    have c4 := cell_of_row w1 p 4 _ _ _ (HP.out w1 hx1)
    have r5 := H5.out w1 hx1
    cases hf : b.fin bid with
    | true =>
      rw [hf] at r5
      have HF := Lib.hid hf; clear hf
      go_wp2_with (fail)
      go_ret
      rw [finB_ne (by rw [finE_33 HA.out HF.out]; decide), finE_33 HA.out HF.out]
      exact ⟨rfl, GP.same HB.out hx1⟩
    | false =>
      rw [hf] at r5
      have HF := Lib.hid hf; clear hf
      have c0 := cell_of_row w1 p 0 _ _ _ (HP.out w1 hx1)
      obtain ⟨m1, hm1, hlk1⟩ := (HH1.out.of_block (fun k hk => hx1.block k (HH1.out.lt k hk))).mpo
      go_upto_region 9 with (at_range; go_loud (refine wpList_rangeO rfl _ 35 rfl 3 4 Tryz.underlying35 ml m1 (by rfl) hm1 ?_; intro w2 hrg hx2 hs2))
      go_frame
      obtain ⟨ri, hri⟩ : ∃ ri, ri = w1.heap.size := ⟨_, rfl⟩
      rw [← hri] at hrg ⊢
      have HRI : Hid (w.heap.size ≤ ri) := Lib.hid (by rw [hri]; exact hx1.size)
      have hxw : Ext w w2 := hx1.trans hx2
      have HST : Hid (∀ lot, b.lots lot = true → (∃ v, (lot, v) ∈ m1) ∨ ∀ name a, (b.crit name).isSome = true → b.dut ⟨a, bid⟩ = true → b.gr ⟨bid, lot, name, a⟩ ≠ none) := Lib.hid fun lot hl => .inl (by
        have := hlk1 lot
        unfold boolF at this
        rw [if_pos hl] at this
        exact ⟨_, lookup_mem this⟩)
      have HNC : Hid (∀ W, Ext w W → ∃ m2, MPO encS OkS W mc m2 ∧ ∀ k, lkp m2 k = (b.crit k).map Cr.v) := Lib.hid fun W hW => (HH2.out.of_block (fun k hk => hW.block k (HH2.out.lt k hk))).mpo
      have HR2 := Lib.hid (HR.out.ext hx2)
      have HK1 : Hid (∀ lot v, (lot, v) ∈ m1 → b.lots lot = true) := Lib.hid fun lot v hv => by
        have h1 := hlk1 lot
        rw [mem_lookup hm1.nodup hv] at h1
        unfold boolF at h1
        cases hb : b.lots lot
        · rw [hb] at h1; cases h1
        · rfl
      clear hri hs2 hx1 hx2 c0 c4 r5 hm1 hlk1 HR
      go_loopw [6] (fun _ wr => ∃ left, RGO encI OkI wr ml ri m1 left ∧ Hid (∀ lot, b.lots lot = true → (∃ v, (lot, v) ∈ left) ∨ ∀ name a, (b.crit name).isSome = true → b.dut ⟨a, bid⟩ = true → b.gr ⟨bid, lot, name, a⟩ ≠ none) ∧ Ext w wr ∧ IRd wr (.slice lb l.length lc) l) (fun _ wr => leftO wr ml ri)
      case atStart => exact ⟨m1, hrg, HST, hxw, HR2.out⟩
      case round =>
        clear hrg HST hxw HR2
        obtain ⟨left, hrg, HS, hxr, hir⟩ := hrel
        go_upto_region 10 with (at_next; go_loud (refine wpList_nextO rfl _ rfl ml ri m1 left (by rfl) hrg ?_ ?_))
        · intro hl
          subst hl
          have HNF : Hid (¬ few b bid) := Lib.hid (by
            rintro ⟨lot, name, a, h1, h2, h3, h4⟩
            rcases HS.out lot h1 with ⟨v, h⟩ | h
            · cases h
            · exact h name a h2 h3 h4)
          have HR0 : Hid (finB b bid = b.fine bid ∧ finE b bid = 0) := Lib.hid ⟨if_pos (finE_0 HA.out HF.out HNF.out), finE_0 HA.out HF.out HNF.out⟩
          have bw := HP.out wr hxr
          have q4 := cell_of_row wr p 4 _ _ _ bw
          have hne := run_eql_map_nil (P := Tryz.prog) wr 35 3 4 mf Tryz.underlying35
          have hwz := hxr.size
          cases mf with
          | some bf =>
            obtain ⟨m, hm, hlk⟩ := HH5.out.of_block (w' := wr) (fun k hk => hxr.block k (HH5.out.lt k hk))
            simp only [Option.isNone_some] at hne
            have HLK : Hid (∀ k, m.lookup k = boolF b.fin k) := Lib.hid hlk
            have HBF : Hid (BGd (some bf) bf w.heap.size) := Lib.hid (.inl rfl)
            have HM6 := Lib.hid hm; have HB6 := Lib.hid bw
            have HK6 : Hid (KF F w wr) := Lib.hid (KF.of hxr)
            have HS6 : Hid (∀ k, k < w.heap.size → k ≠ p → wr.heap[k]? = w.heap[k]?) := Lib.hid fun k hk _ => hxr.block k hk
            clear hlk bw
            go_upto_region 24 with (at_mapUpdate; refine wpList_store rfl _ _ _ 35 rfl 3 4 keI Tryz.underlying35 bf m (by rfl) hm bid (by rfl) HBI.out (.bool true) (by rfl) ?_; intro wf hmf hgf)
            have HMF := Lib.hid hmf; have HGF := Lib.hid hgf
            clear hmf hgf
            go_wp2_with (fail)
            go_ret
            rw [HR0.out.1, HR0.out.2]
            refine ⟨rfl, fine_done HPW.out HFF.out HND.out HH1.out HH2.out HH3.out HH4.out HH5.out HH6.out HH7.out HBF.out ?_ ⟨_, HMF.out, fine_look HLK.out⟩ ⟨?_, ?_, ?_, ?_, fun k hk hn => ?_⟩ (fun k hk hkp hkm => ?_)⟩
            · exact (HGF.out.block p (Rg.lt_of_heap HB6.out) (fun e => by
                injection e with e
                obtain ⟨-, -, es, clock, hm0, -⟩ := HM6.out
                rw [← e, HB6.out] at hm0
                cases hm0)).trans HB6.out
            · exact HGF.out.os.trans HK6.out.os
            · exact HGF.out.tape.trans HK6.out.tape
            · exact HGF.out.output.trans HK6.out.output
            · exact Nat.le_trans HK6.out.size HGF.out.size
            · refine (HGF.out.block k (by have := HK6.out.size; omega) (fun e => hn ?_)).trans (HK6.out.block k hk hn)
              rw [HFF.out, mem_blks, e]
              exact .inr (.inr (.inr (.inr (.inr (.inl (HBF.out.old (by injection e with e; omega)))))))
            · refine (HGF.out.block k (by have := HK6.out.size; omega) (fun e => hkm ?_)).trans (HS6.out k hk hkp)
              exact e.trans (HBF.out.old (by injection e with e; omega)).symm
          | none =>
            have hmm := @run_makeMap Tryz.prog
            have hfn : ∀ k, boolF b.fin k = none := HH5.out
            have HFN := Lib.hid hfn; clear hfn
            simp only [Option.isNone_none] at hne
            have l5 := Rg.lt_of_heap bw
            have f4 : wr.frozen? ⟨p, 4, none⟩ = false := by simp [World.frozen?, bw]
            go_upto_region 23 with (fail)
            obtain ⟨bf, hbf⟩ : ∃ bf, bf = wr.heap.size := ⟨_, rfl⟩
            have hsz : (wr.setCell ⟨p, 4, none⟩ (.map (some bf))).heap.size = wr.heap.size := World.size_setCell _ _ _
            have hold : ∀ k, k < wr.heap.size → k ≠ p → ((wr.setCell ⟨p, 4, none⟩ (.map (some bf))).alloc (.map #[] 0)).heap[k]? = wr.heap[k]? := fun k hk hkp => (Below.heap_alloc _ _ k (by rw [hsz]; exact hk)).trans (heap_setCell_other wr _ k _ hkp)
            have b6 : ((wr.setCell ⟨p, 4, none⟩ (.map (some bf))).alloc (.map #[] 0)).heap[p]? = some (.cells #[.map ml, .map mc, .map md, .map mg, .map (some bf), cv] 40) := (Below.heap_alloc _ _ p (by rw [hsz]; exact l5)).trans (heap_setCell_same wr p 4 _ _ _ bw)
            have hm : MP encI OkI ((wr.setCell ⟨p, 4, none⟩ (.map (some bf))).alloc (.map #[] 0)) bf [] := by
              have := MP.made (enc := encI) (good := OkI) (wr.setCell ⟨p, 4, none⟩ (.map (some bf)))
              rw [hsz, ← hbf] at this
              exact this
            have HLK : Hid (∀ k, ([] : List (Int × Value)).lookup k = boolF b.fin k) := Lib.hid fun k => by rw [HFN.out k]; rfl
            have HBF : Hid (BGd none bf w.heap.size) := Lib.hid (.inr ⟨rfl, by rw [hbf]; exact hwz⟩)
            have HS6 : Hid (∀ k, k < w.heap.size → k ≠ p → ((wr.setCell ⟨p, 4, none⟩ (.map (some bf))).alloc (.map #[] 0)).heap[k]? = w.heap[k]?) := Lib.hid fun k hk hkp => (hold k (by omega) hkp).trans (hxr.block k hk)
            have HK6 : Hid (KF F w ((wr.setCell ⟨p, 4, none⟩ (.map (some bf))).alloc (.map #[] 0))) := Lib.hid ⟨hxr.os, hxr.tape, hxr.output, by rw [World.size_alloc, hsz]; omega, fun k hk hn => HS6.out k hk (fun e => hn (by rw [HFF.out, mem_blks]; exact .inl e))⟩
            rw [← hbf]
            clear hold hsz hmm hne q4 bw l5 f4 hbf hwz
            generalize (wr.setCell ⟨p, 4, none⟩ (.map (some bf))).alloc (.map #[] 0) = W6 at *
            have HM6 := Lib.hid hm; have HB6 := Lib.hid b6
            have q6 := cell_of_row W6 p 4 _ _ _ b6
            clear b6
            go_upto_region 24 with (at_mapUpdate; refine wpList_store rfl _ _ _ 35 rfl 3 4 keI Tryz.underlying35 bf _ (by rfl) hm bid (by rfl) HBI.out (.bool true) (by rfl) ?_; intro wf hmf hgf)
            have HMF := Lib.hid hmf; have HGF := Lib.hid hgf
            clear hmf hgf
            go_wp2_with (fail)
            go_ret
            rw [HR0.out.1, HR0.out.2]
            refine ⟨rfl, fine_done HPW.out HFF.out HND.out HH1.out HH2.out HH3.out HH4.out HH5.out HH6.out HH7.out HBF.out ?_ ⟨_, HMF.out, fine_look HLK.out⟩ ⟨?_, ?_, ?_, ?_, fun k hk hn => ?_⟩ (fun k hk hkp hkm => ?_)⟩
            · exact (HGF.out.block p (Rg.lt_of_heap HB6.out) (fun e => by
                injection e with e
                obtain ⟨-, -, es, clock, hm0, -⟩ := HM6.out
                rw [← e, HB6.out] at hm0
                cases hm0)).trans HB6.out
            · exact HGF.out.os.trans HK6.out.os
            · exact HGF.out.tape.trans HK6.out.tape
            · exact HGF.out.output.trans HK6.out.output
            · exact Nat.le_trans HK6.out.size HGF.out.size
            · refine (HGF.out.block k (by have := HK6.out.size; omega) (fun e => hn ?_)).trans (HK6.out.block k hk hn)
              rw [HFF.out, mem_blks, e]
              exact .inr (.inr (.inr (.inr (.inr (.inl (HBF.out.old (by injection e with e; omega)))))))
            · refine (HGF.out.block k (by have := HK6.out.size; omega) (fun e => hkm ?_)).trans (HS6.out k hk hkp)
              exact e.trans (HBF.out.old (by injection e with e; omega)).symm
        · intro bm pre x v post w3 hbm hl hrg3 hg3 hs3 hen hms
          subst hl
          have HOX := Lib.hid (hrg.good (x, v) (List.mem_append_right _ List.mem_cons_self))
          have HLX : Hid (b.lots x = true) := Lib.hid (HK1.out x v (hrg.sub (x, v) (List.mem_append_right _ List.mem_cons_self)))
          have HSZ := Lib.hid hs3
          have hx3 : Ext w w3 := gro_base hg3 hxr HRI.out
          have HRG3 := Lib.hid hrg3
          have HLF := Lib.hid (leftO_eq hrg)
          have hir3 : IRd w3 (.slice lb l.length lc) l := ird_iter hir hrg hg3
          have HIR3 := Lib.hid hir3
          have c1 := cell_of_row w3 p 1 _ _ _ (HP.out w3 hx3)
          obtain ⟨m2, hm2, hlk2⟩ := HNC.out w3 hx3
          have HEN := Lib.hid hen
          clear hbm hs3 hms hrg3 hg3 hrg hir hir3 hxr
          go_upto_region 12 with (at_range; go_loud (refine wpList_rangeO rfl _ 36 rfl 9 73 Tryz.underlying36 mc m2 (by rfl) hm2 ?_; intro w4 hrg4 hx4 hs4))
          obtain ⟨rj, hrj⟩ : ∃ rj, rj = w3.heap.size := ⟨_, rfl⟩
          rw [← hrj] at hrg4 ⊢
          have hrj3 : w3.heap.size ≤ rj := by omega
          have hx34 : Ext w w4 := hx3.trans hx4
          have HRG4 := Lib.hid (HRG3.out.ext hx4)
          have HIR4 := Lib.hid (HIR3.out.ext hx4)
          have HSJ : Hid (w.heap.size ≤ rj ∧ ri < rj) := Lib.hid ⟨by have := hx3.size; omega, by have := HRG3.out.lt; omega⟩
          have HS4 : Hid (∀ name, (b.crit name).isSome = true → (∃ v, (name, v) ∈ m2) ∨ ∀ a, b.dut ⟨a, bid⟩ = true → b.gr ⟨bid, x, name, a⟩ ≠ none) := Lib.hid fun name hn => .inl (by
            have := hlk2 name
            cases hc : b.crit name with
            | none => rw [hc] at hn; cases hn
            | some c =>
              rw [hc] at this
              exact ⟨_, lookup_mem this⟩)
          have HK2 : Hid (∀ name v, (name, v) ∈ m2 → (b.crit name).isSome = true) := Lib.hid fun name v hv => by
            have h1 := hlk2 name
            unfold lkp at h1
            rw [mem_lookup hm2.nodup hv] at h1
            cases hb : b.crit name
            · rw [hb] at h1; cases h1
            · rfl
          clear hrj hrj3 hs4 hx4 hx3 c1 hm2 hlk2 HRG3 HIR3
          go_loopw [7] (fun _ wq => ∃ left2, RGO encS OkS wq mc rj m2 left2 ∧ Hid (∀ name, (b.crit name).isSome = true → (∃ v, (name, v) ∈ left2) ∨ ∀ a, b.dut ⟨a, bid⟩ = true → b.gr ⟨bid, x, name, a⟩ ≠ none) ∧ RGO encI OkI wq ml ri m1 (pre ++ post) ∧ IRd wq (.slice lb l.length lc) l ∧ Ext w wq) (fun _ wq => leftO wq mc rj)
          case atStart => exact ⟨m2, hrg4, HS4, HRG4.out, HIR4.out, hx34⟩
          case round =>
            clear hrg4 HS4 HRG4 HIR4 hx34
            obtain ⟨left2, hrg2, HS2, hrg1, hir, hxq⟩ := hrel
            go_upto_region 13 with (at_next; go_loud (refine wpList_nextO rfl _ rfl mc rj m2 left2 (by rfl) hrg2 ?_ ?_))
            · intro hl
              subst hl
              have HNX : Hid (∀ lot, b.lots lot = true → (∃ v, (lot, v) ∈ pre ++ post) ∨ ∀ name a, (b.crit name).isSome = true → b.dut ⟨a, bid⟩ = true → b.gr ⟨bid, lot, name, a⟩ ≠ none) := Lib.hid fun lot hl => by
                by_cases e : lot = x
                · subst e
                  refine .inr fun name a h1 h2 => ?_
                  rcases HS2.out name h1 with ⟨v, h⟩ | h
                  · cases h
                  · exact h a h2
                · rcases HS.out lot hl with ⟨v', h⟩ | h
                  · exact .inl ⟨v', in_rest h (fun h => e (by injection h))⟩
                  · exact .inr h
              go_wp2_with (fail)
              refine ⟨⟨pre ++ post, hrg1, HNX, hxq, hir⟩, ?_⟩
              rw [leftO_eq hrg1, HLF.out]
              simp
            · intro bm pre2 y v2 post2 w5 hbm hl hrg5 hg5 hs5 hen2 hms2
              subst hl
              have HOY := Lib.hid (hrg2.good (y, v2) (List.mem_append_right _ List.mem_cons_self))
              have HNY : Hid ((b.crit y).isSome = true) := Lib.hid (HK2.out y v2 (hrg2.sub (y, v2) (List.mem_append_right _ List.mem_cons_self)))
              have hx5 : Ext w w5 := gro_base hg5 hxq HSJ.out.1
              have HRG5 := Lib.hid hrg5
              have HLF2 := Lib.hid (leftO_eq hrg2)
              have HR15 := Lib.hid (hrg1.kept hg5 (fun bb e e2 => by
                injection e2 with e2
                subst e e2
                obtain ⟨aa, s, q, c, hr⟩ := hrg2.iter
                obtain ⟨-, -, es, clock, hb, -⟩ := hrg1.1
                rw [hb] at hr
                cases hr) (by have := HSJ.out; simp; omega))
              have HIR5 := Lib.hid (ird_iter hir hrg2 hg5)
              clear hbm hs5 hms2 hrg5 hg5 hrg2 hrg1 hir hxq
              have HX5 := Lib.hid hx5
              go_upto_region 15 with (fail)
              obtain ⟨w6, hw6⟩ : ∃ w6, w6 = w5 := ⟨_, rfl⟩
              subst hw6
              go_loopw [48] (fun k wz => ∃ i : Nat, k = .int .i64 i ∧ i ≤ l.length ∧ Hid (∀ a ∈ l.take i, b.gr ⟨bid, x, y, a⟩ ≠ none) ∧ Ext w6 wz) (fun k _ => l.length - (iof k).toNat)
              case atStart => exact ⟨0, rfl, by omega, Lib.hid (by simp), Ext.refl _⟩
              case round =>
                obtain ⟨i, rfl, hi, HD, hxz⟩ := hrel
                have hxx := HX5.out.trans hxz
                by_cases hil : i < l.length
                · obtain ⟨A', c', e1, -, -, hcell⟩ := HIR5.out.ext hxz
                  injection e1 with e1 e2 e3
                  subst e1 e3
                  obtain ⟨qb, qo, rfl, hc⟩ := hcell.resolve_left (by intro e; rw [e] at hil; simp at hil)
                  have cq := hc i hil
                  have hoa := HOK.out l[i] (List.getElem_mem _)
                  have HTK := Lib.hid (List.take_succ_eq_append_getElem hil)
                  have HIN : Hid (b.dut ⟨l[i], bid⟩ = true) := Lib.hid ((HI.out.mem l[i]).2 (.inl (List.getElem_mem _)))
                  clear hc hcell e2
                  generalize l[i] = a at *
                  have r4 := HG.out wr hxx x y a HOX.out HOY.out hoa
                  have c3 := cell_of_row wr p 3 _ _ _ (HP.out wr hxx)
                  obtain ⟨o, th, hov, hth, hoc⟩ : ∃ (o : Gd) (th : Bool), ((b.gr ⟨bid, x, y, a⟩).map Gd.v).getD (.agg #[.int .i64 0, .int .i64 0, .int .i64 0, .string ⟨#[]⟩, .int .i64 0, .int .i64 0]) = o.v ∧ (b.gr ⟨bid, x, y, a⟩).isSome = th ∧ (th = false ↔ b.gr ⟨bid, x, y, a⟩ = none) := by
                    cases ho : b.gr ⟨bid, x, y, a⟩ with
                    | none => exact ⟨⟨0, 0, 0, ⟨#[]⟩, 0, 0⟩, false, rfl, rfl, by simp⟩
                    | some o => exact ⟨o, true, rfl, rfl, by simp⟩
                  rw [hov, hth] at r4
                  have HOC := Lib.hid hoc
                  clear hov hth hoc hoa
                  obtain ⟨oa, ob, ol, on, oN, ot⟩ := o
                  simp only [Gd.v] at r4
                  cases th
                  · have HFW : Hid (few b bid) := Lib.hid ⟨x, y, a, HLX.out, HNY.out, HIN.out, HOC.out.1 rfl⟩
                    go_wp2_with (fail)
                    go_ret
                    rw [finB_ne (by rw [finE_24 HA.out HF.out HFW.out]; decide), finE_24 HA.out HF.out HFW.out]
                    exact ⟨rfl, GP.same HB.out (hxx.trans (Ext.alloc (Ext.refl _) _))⟩
                  · have HNN : Hid (b.gr ⟨bid, x, y, a⟩ ≠ none) := Lib.hid (fun h => by have := HOC.out.2 h; cases this)
                    go_wp2_with (fail)
                    exact ⟨⟨i + 1, by simp, by omega, Lib.hid (by
                      rw [HTK.out]
                      intro a' ha'
                      rcases List.mem_append.1 ha' with h | h
                      · exact HD.out a' h
                      · rw [List.mem_singleton] at h
                        subst h
                        exact HNN.out), hxz.trans (Ext.alloc (Ext.refl _) _)⟩, by simp; omega⟩
                · obtain rfl : i = l.length := by omega
                  rw [List.take_length] at HD
                  have HS5 : Hid (∀ name, (b.crit name).isSome = true → (∃ v, (name, v) ∈ pre2 ++ post2) ∨ ∀ a, b.dut ⟨a, bid⟩ = true → b.gr ⟨bid, x, name, a⟩ ≠ none) := Lib.hid fun name hn => by
                    by_cases e : name = y
                    · subst e
                      refine .inr fun a ha => ?_
                      rcases (HI.out.mem a).1 ha with h | ⟨v', h⟩
                      · exact HD.out a h
                      · cases h
                    · rcases HS2.out name hn with ⟨v', h⟩ | h
                      · exact .inl ⟨v', in_rest h (fun h => e (by injection h))⟩
                      · exact .inr h
                  go_wp2_with (fail)
                  refine ⟨⟨pre2 ++ post2, HRG5.out.ext hxz, HS5, HR15.out.ext hxz, HIR5.out.ext hxz, hxx⟩, ?_⟩
                  rw [leftO_eq (HRG5.out.ext hxz), HLF2.out]
                  simp
end Go.Proofs.YtnplnfkmcfalhaaGreatDoor
