/-
  Grades, duties, criteria and places as plain data; which values are keys. Nothing is asked.
-/
import Derived.Test.YtnplnfkmcfalhaaGreatDoorMp
import Derived.Test.YtnplnfkmcfalhaaGreatDoorSl
import Derived.DeepKeys4
import Derived.LoopTactic
import Derived.Deep.CutBlock
namespace Go.Proofs.YtnplnfkmcfalhaaGreatDoor
set_option linter.unusedVariables false
set_option linter.unusedSimpArgs false
open Go.RowKit

/-- An int of the machine. -/
def OkI (a : Int) : Prop := -9223372036854775808 ≤ a ∧ a ≤ 9223372036854775807
theorem OkI.wf {a : Int} (h : OkI a) : (Lit.int .i64 a).wf = true := by
  obtain ⟨h1, h2⟩ := h
  simp [Lit.wf, IntKind.min, IntKind.max, IntKind.signed, IntKind.bits]
  omega
def OkS (s : ByteArray) : Prop := s.size ≤ maxLen
abbrev encI (i : Int) : Value := .int .i64 i
abbrev encS (s : ByteArray) : Value := .string s
/-- Where a grade is kept. -/
structure Pl where
  bid : Int
  lot : Int
  name : ByteArray
  ass : Int
deriving DecidableEq
/-- A duty. -/
structure Dy where
  ass : Int
  bid : Int
deriving DecidableEq
abbrev encD (d : Dy) : Value := .agg #[.int .i64 d.ass, .int .i64 d.bid]
abbrev encP (p : Pl) : Value := .agg #[.int .i64 p.bid, .int .i64 p.lot, .string p.name, .int .i64 p.ass]
def OkD (d : Dy) : Prop := OkI d.ass ∧ OkI d.bid
def OkP (p : Pl) : Prop := OkI p.bid ∧ OkI p.lot ∧ OkS p.name ∧ OkI p.ass

theorem laid : laidOutB Tryz.prog = true := by kernel_rfl
theorem c3 : Tryz.prog.cellsOf 3 = 1 := by kernel_rfl
theorem c9 : Tryz.prog.cellsOf 9 = 1 := by kernel_rfl
theorem c51 : Tryz.prog.cellsOf 57 = 2 := by kernel_rfl
theorem c96 : Tryz.prog.cellsOf 89 = 3 := by kernel_rfl
theorem c98 : Tryz.prog.cellsOf 91 = 4 := by kernel_rfl
theorem lits3 (d : Nat) {a : Int} (h : OkI a) : Tryz.prog.keyLits (d + 1) 3 [.int .i64 a] = some [.int .i64 a] := by
  simp [Program.keyLits, Tryz.underlying3, h.wf]
theorem lits9 (d : Nat) {s : ByteArray} (h : OkS s) : Tryz.prog.keyLits (d + 1) 9 [.string s] = some [.string s.data.toList] := by
  unfold OkS at h
  simp [Program.keyLits, Tryz.underlying9, h]
theorem lits51 (d : Nat) {a b : Int} (ha : OkI a) (hb : OkI b) : Tryz.prog.keyLits (d + 2) 57 [.int .i64 a, .int .i64 b] = some [.int .i64 a, .int .i64 b] := by
  unfold Program.keyLits
  rw [Tryz.underlying57]
  simp [c51, c3, lits3 d ha, lits3 d hb]
theorem lits96 (d : Nat) {a b : Int} {s : ByteArray} (ha : OkI a) (hb : OkI b) (hs : OkS s) : Tryz.prog.keyLits (d + 2) 89 [.int .i64 a, .int .i64 b, .string s] = some [.int .i64 a, .int .i64 b, .string s.data.toList] := by
  unfold Program.keyLits
  rw [Tryz.underlying89]
  simp [c96, c3, c9, lits3 d ha, lits3 d hb, lits9 d hs]
theorem lits98 (d : Nat) {a b e : Int} {s : ByteArray} (ha : OkI a) (hb : OkI b) (hs : OkS s) (he : OkI e) : Tryz.prog.keyLits (d + 3) 91 [.int .i64 a, .int .i64 b, .string s, .int .i64 e] = some [.int .i64 a, .int .i64 b, .string s.data.toList, .int .i64 e] := by
  unfold Program.keyLits
  rw [Tryz.underlying91]
  simp [c98, c96, c3, lits96 d ha hb hs, lits3 (d + 1) he]
theorem keI : KE Tryz.prog 3 encI OkI := ⟨Go.Maps.int_keyed Tryz.underlying3, fun a b h => by injection h, fun a h => ⟨_, Go.Maps.keyOf_int_mk Tryz.underlying3 h.wf⟩⟩
theorem keS : KE Tryz.prog 9 encS OkS := ⟨Go.Maps.string_keyed Tryz.underlying9, fun a b h => by injection h, fun a h => ⟨_, by unfold OkS at h; simp [keyOf, Tryz.underlying9, mapKey, h]; rfl⟩⟩
theorem keD : KE Tryz.prog 57 encD OkD := ⟨Go.Maps.Keyed.of_law (deep_law_laid laid (m := 9) (by omega) (of_decide_eq_true (by kernel_rfl)) (by kernel_rfl) (by kernel_rfl)), fun a b h => by
    obtain ⟨a1, a2⟩ := a
    obtain ⟨b1, b2⟩ := b
    simpa using h, fun a h => by
    have h1 : Tryz.prog.keyType 57 = true := by kernel_rfl
    have h2 : Tryz.prog.types.size + 1 = 209 + 2 := by kernel_rfl
    refine ⟨.string (keyBytes [.int .i64 a.ass, .int .i64 a.bid]), ?_⟩
    unfold keyOf
    rw [h2]
    simp [Tryz.underlying57, h1, Value.formed, c51, Value.cells, lits51 209 h.1 h.2]⟩
theorem keP : KE Tryz.prog 91 encP OkP := ⟨Go.Maps.Keyed.of_law (deep_law_laid laid (m := 9) (by omega) (of_decide_eq_true (by kernel_rfl)) (by kernel_rfl) (by kernel_rfl)), fun a b h => by
    obtain ⟨a1, a2, a3, a4⟩ := a
    obtain ⟨b1, b2, b3, b4⟩ := b
    simpa using h, fun a h => by
    have h1 : Tryz.prog.keyType 91 = true := by kernel_rfl
    have h2 : Tryz.prog.types.size + 1 = 208 + 3 := by kernel_rfl
    refine ⟨.string (keyBytes [.int .i64 a.bid, .int .i64 a.lot, .string a.name.data.toList, .int .i64 a.ass]), ?_⟩
    unfold keyOf
    rw [h2]
    simp [Tryz.underlying91, h1, Value.formed, c98, Value.cells, lits98 208 h.1 h.2.1 h.2.2.1 h.2.2.2]⟩

/-- A criterion. -/
structure Cr where
  name : ByteArray
  kind : Int
  low : Int
  high : Int
  less : Bool
def Cr.cs (c : Cr) : List Value := [.string c.name, .int .i64 c.kind, .int .i64 c.low, .int .i64 c.high, .bool c.less]
def Cr.v (c : Cr) : Value := .agg #[.string c.name, .int .i64 c.kind, .int .i64 c.low, .int .i64 c.high, .bool c.less]
def Cr.ok (c : Cr) : Prop := OkS c.name ∧ OkI c.kind ∧ OkI c.low ∧ OkI c.high
/-- A grade. -/
structure Gd where
  ass : Int
  bid : Int
  lot : Int
  name : ByteArray
  n : Int
  tm : Int
def Gd.cs (g : Gd) : List Value := [.int .i64 g.ass, .int .i64 g.bid, .int .i64 g.lot, .string g.name, .int .i64 g.n, .int .i64 g.tm]
def Gd.v (g : Gd) : Value := .agg #[.int .i64 g.ass, .int .i64 g.bid, .int .i64 g.lot, .string g.name, .int .i64 g.n, .int .i64 g.tm]
def Gd.ok (g : Gd) : Prop := OkI g.ass ∧ OkI g.bid ∧ OkI g.lot ∧ OkS g.name ∧ OkI g.n ∧ OkI g.tm
def Gd.pl (g : Gd) : Pl := ⟨g.bid, g.lot, g.name, g.ass⟩
theorem Gd.okP {g : Gd} (h : g.ok) : OkP g.pl := ⟨h.2.1, h.2.2.1, h.2.2.2.1, h.1⟩

/-- What a book holds. -/
structure Bk where
  lots : Int → Bool
  crit : ByteArray → Option Cr
  dut : Dy → Bool
  gr : Pl → Option Gd
  fin : Int → Bool
  old : List Gd

/-- A map, or none, that answers as f. -/
def MO {κ : Type} [DecidableEq κ] (enc : κ → Value) (good : κ → Prop) (w : World) (o : Option Nat) (f : κ → Option Value) : Prop :=
  match o with
  | none => ∀ k, f k = none
  | some b => ∃ m, MP enc good w b m ∧ ∀ k, m.lookup k = f k
section
variable {κ : Type} [DecidableEq κ] {enc : κ → Value} {good : κ → Prop} {w w' : World} {o : Option Nat} {f : κ → Option Value}
theorem MO.of_block (h : MO enc good w o f) (hb : ∀ b, o = some b → w'.heap[b]? = w.heap[b]?) : MO enc good w' o f := by
  cases o with
  | none => exact h
  | some b =>
    obtain ⟨m, h1, h2⟩ := h
    exact ⟨m, h1.of_block (hb b rfl), h2⟩
theorem MO.lt (h : MO enc good w o f) : ∀ b, o = some b → b < w.heap.size := fun b e => by
  subst e
  obtain ⟨m, h1, -⟩ := h
  exact h1.lt
variable {P : Program} {k e t : TypeId}
theorem MO.look (K : KE P k enc good) (ht : P.underlying t = some (.map k e)) {z : Value} (hz : (zeroValue e).run P w = .ok z w) (h : MO enc good w o f) {x : κ} (hx : good x) (c : Bool) :
    (Instr.lookup t (.map o) (enc x) c).run P w = .ok (if c then .tuple #[(f x).getD z, .bool (f x).isSome] else (f x).getD z) w := by
  cases o with
  | none =>
    have h1 : f x = none := h x
    rw [h1]
    exact look_nil K ht hz hx c
  | some b =>
    obtain ⟨m, h1, h2⟩ := h
    rw [← h2]
    exact h1.look K ht hz hx c
end

/-- Only the blocks of F, and new ones, have turned. -/
structure KF (F : List Nat) (w w' : World) : Prop where
  os : w'.os = w.os
  tape : w'.tape = w.tape
  output : w'.output = w.output
  size : w.heap.size ≤ w'.heap.size
  block : ∀ k, k < w.heap.size → k ∉ F → w'.heap[k]? = w.heap[k]?
theorem KF.refl (F : List Nat) (w : World) : KF F w w := ⟨rfl, rfl, rfl, Nat.le_refl _, fun _ _ _ => rfl⟩
theorem KF.of {F : List Nat} {w w' : World} (e : Ext w w') : KF F w w' := ⟨e.os, e.tape, e.output, e.size, fun k hk _ => e.block k hk⟩
theorem KF.trans {F F' : List Nat} {w w1 w2 : World} (h : KF F w w1) (h2 : KF F' w1 w2) (hF : ∀ k ∈ F', k ∈ F ∨ w.heap.size ≤ k) : KF F w w2 :=
  ⟨h2.os.trans h.os, h2.tape.trans h.tape, h2.output.trans h.output, Nat.le_trans h.size h2.size, fun k hk hn => (h2.block k (Nat.lt_of_lt_of_le hk h.size) (fun hm => by rcases hF k hm with h | h; exact hn h; omega)).trans (h.block k hk hn)⟩
theorem KF.below {F : List Nat} {B : Nat} {w w' : World} (h : KF F w w') (hF : ∀ k ∈ F, B ≤ k) (hB : B ≤ w.heap.size) : Below B w w' :=
  ⟨h.os, h.tape, h.output, h.size, fun k hk => h.block k (by omega) (fun hm => by have := hF k hm; omega)⟩
theorem KF.grown {F : List Nat} {w w' : World} {row : Option Nat} (h : w.grownBy w' row) (hr : ∀ k, row = some k → k ∈ F) : KF F w w' :=
  ⟨h.os, h.tape, h.output, h.size, fun k hk hn => h.block k hk (fun e => hn (hr k e.symm))⟩

/-- The blocks of a book. -/
def blks (p : Nat) (ml mc md mg mf : Option Nat) (cv : Value) : List Nat := p :: (ml.toList ++ (mc.toList ++ (md.toList ++ (mg.toList ++ (mf.toList ++ cv.ownBlock.toList)))))
def boolF {κ : Type} (f : κ → Bool) : κ → Option Value := fun k => if f k then some (.bool true) else none
/-- A map of at most 1000 entries. -/
def DB (w : World) (o : Option Nat) : Prop := ∀ b es clock, o = some b → w.heap[b]? = some (.map es clock) → es.size ≤ 1000
theorem DB.len {κ : Type} {enc : κ → Value} {good : κ → Prop} {w : World} {b : Nat} {m : List (κ × Value)} (h : DB w (some b)) (hm : MP enc good w b m) : m.length ≤ 1000 := by
  obtain ⟨-, -, es, clock, hb, hes, -⟩ := hm
  have := h b es clock rfl hb
  have h2 := congrArg List.length hes
  simp only [List.length_map, Array.length_toList] at h2
  omega
theorem DB.of_block {w w' : World} {o : Option Nat} (h : DB w o) (hb : ∀ b, o = some b → w'.heap[b]? = w.heap[b]?) : DB w' o := fun b es clock e hh => h b es clock e ((hb b e).symm.trans hh)
/-- The maps of grades and of finals lie apart from the others. -/
def DM (ml mc md mg mf : Option Nat) : Prop := (∀ q, mg = some q → ml ≠ some q ∧ mc ≠ some q ∧ md ≠ some q) ∧ ∀ q, mf = some q → ml ≠ some q ∧ mc ≠ some q ∧ md ≠ some q ∧ mg ≠ some q
/-- The book at p holds b, in the blocks F. -/
def BR (w : World) (p : Nat) (b : Bk) (F : List Nat) : Prop :=
  ∃ ml mc md mg mf cv, w.heap[p]? = some (.cells #[.map ml, .map mc, .map md, .map mg, .map mf, cv] 40) ∧ F = blks p ml mc md mg mf cv ∧ DM ml mc md mg mf ∧
    MO encI OkI w ml (boolF b.lots) ∧ MO encS OkS w mc (fun n => (b.crit n).map Cr.v) ∧ MO encD OkD w md (boolF b.dut) ∧ MO encP OkP w mg (fun k => (b.gr k).map Gd.v) ∧ MO encI OkI w mf (boolF b.fin) ∧
    w.ownsRow 0 23 6 cv b.old.length (b.old.flatMap Gd.cs) ∧ (∀ n c, b.crit n = some c → c.ok ∧ c.name = n) ∧ (∀ k g, b.gr k = some g → g.ok ∧ g.pl = k) ∧ (∀ g ∈ b.old, g.ok) ∧ DB w md
theorem BR.lt {w : World} {p : Nat} {b : Bk} {F : List Nat} (h : BR w p b F) : ∀ k ∈ F, k < w.heap.size := by
  obtain ⟨ml, mc, md, mg, mf, cv, hp, rfl, -, h1, h2, h3, h4, h5, h6, -⟩ := h
  intro k hk
  unfold blks at hk
  simp only [List.mem_cons, List.mem_append, Option.mem_toList] at hk
  rcases hk with rfl | hk | hk | hk | hk | hk | hk
  · exact Rg.lt_of_heap hp
  · exact h1.lt k hk
  · exact h2.lt k hk
  · exact h3.lt k hk
  · exact h4.lt k hk
  · exact h5.lt k hk
  · exact (h6.lt k hk).2
theorem row_of_block {B E sz n : Nat} {w w' : World} {v : Value} {xs : List Value} (ho : w.ownsRow B E sz v n xs) (e : ∀ k, v.ownBlock = some k → w'.heap[k]? = w.heap[k]?) : w'.ownsRow B E sz v n xs := by
  refine ⟨ho.1, ?_⟩
  rcases ho.2 with hn | ⟨g, cap, cur, hv, hb, hg, rest⟩
  · exact .inl hn
  · exact .inr ⟨g, cap, cur, hv, hb, (e g (by rw [hv]; rfl)).trans hg, rest⟩
/-- A book stays where none of its blocks turns. -/
theorem BR.stay {w w' : World} {p : Nat} {b : Bk} {F : List Nat} (h : BR w p b F) (hb : ∀ k ∈ F, w'.heap[k]? = w.heap[k]?) : BR w' p b F := by
  obtain ⟨ml, mc, md, mg, mf, cv, hp, rfl, hn, h1, h2, h3, h4, h5, h6, h7⟩ := h
  have hb' : ∀ k, k = p ∨ ml = some k ∨ mc = some k ∨ md = some k ∨ mg = some k ∨ mf = some k ∨ cv.ownBlock = some k → w'.heap[k]? = w.heap[k]? := fun k hk => hb k (by
    unfold blks
    simp only [List.mem_cons, List.mem_append, Option.mem_toList]
    exact hk)
  exact ⟨ml, mc, md, mg, mf, cv, (hb' p (.inl rfl)).trans hp, rfl, hn, h1.of_block (fun k e => hb' k (.inr (.inl e))), h2.of_block (fun k e => hb' k (.inr (.inr (.inl e)))), h3.of_block (fun k e => hb' k (.inr (.inr (.inr (.inl e))))), h4.of_block (fun k e => hb' k (.inr (.inr (.inr (.inr (.inl e)))))), h5.of_block (fun k e => hb' k (.inr (.inr (.inr (.inr (.inr (.inl e))))))), row_of_block h6 (fun k e => hb' k (.inr (.inr (.inr (.inr (.inr (.inr e))))))), h7.1, h7.2.1, h7.2.2.1, h7.2.2.2.of_block (fun k e => hb' k (.inr (.inr (.inr (.inl e)))))⟩
theorem BR.ext {w w' : World} {p : Nat} {b : Bk} {F : List Nat} (h : BR w p b F) (e : Ext w w') : BR w' p b F := h.stay (fun k hk => e.block k (h.lt k hk))
theorem BR.apart {w w' : World} {p : Nat} {b : Bk} {F G : List Nat} (h : BR w p b F) (e : KF G w w') (hd : ∀ k ∈ F, k ∉ G) : BR w' p b F := h.stay (fun k hk => e.block k (h.lt k hk) (hd k hk))
end Go.Proofs.YtnplnfkmcfalhaaGreatDoor
