/-
  Items and messages as plain data, and how slices hold them. Nothing is asked.
-/
import Derived.Test.YthdhlocoiipbaaaSl
import Derived.Test.YthdhlocoiipbaaaMi
namespace Go.Proofs.Ythdhlocoiipbaaa
set_option linter.unusedVariables false
set_option linter.unusedSimpArgs false
open Go.RowKit

/-- An int of the machine. -/
def OkI (a : Int) : Prop := -9223372036854775808 ≤ a ∧ a ≤ 9223372036854775807
theorem OkI.wf {a : Int} (h : OkI a) : (Lit.int .i64 a).wf = true := by
  obtain ⟨h1, h2⟩ := h
  simp [Lit.wf, IntKind.min, IntKind.max, IntKind.signed, IntKind.bits]
  omega

/-- The slice v reads as xs, each of sz cells, from some place of a block on. -/
def SQ {α : Type} (cs : α → List Value) (sz : Nat) (w : World) (v : Value) (xs : List α) : Prop :=
  ∃ base cap, v = .slice base xs.length cap ∧ xs.length ≤ 1000000 ∧ (xs = [] ∨ ∃ b off, base = some ⟨b, off, none⟩ ∧ ∀ k (h : k < xs.length) j u, (cs xs[k])[j]? = some u → w.cell? ⟨b, off + k * sz + j, none⟩ = some u)
section
variable {α : Type} {cs : α → List Value} {sz : Nat} {w w' : World} {v : Value} {xs : List α}
theorem SQ.ext (h : SQ cs sz w v xs) (e : Ext w w') : SQ cs sz w' v xs := by
  obtain ⟨base, cap, h1, h2, h3⟩ := h
  exact ⟨base, cap, h1, h2, h3.imp id fun ⟨b, off, hb, hc⟩ => ⟨b, off, hb, fun k hk j u hu => (e.cells.1 _ _ (World.block_lt_of_cell? w _ (hc k hk j u hu))).trans (hc k hk j u hu)⟩⟩
theorem SQ.form (h : SQ cs sz w v xs) : ∃ base cap, v = .slice base xs.length cap := by
  obtain ⟨base, cap, h1, -⟩ := h
  exact ⟨base, cap, h1⟩
theorem SQ.le (h : SQ cs sz w v xs) : xs.length ≤ 1000000 := by
  obtain ⟨base, cap, h1, h2, -⟩ := h
  exact h2
theorem SQ.block {base : Option Addr} {n c : Nat} (h : SQ cs sz w (.slice base n c) xs) (k : Nat) (hk : k < xs.length) :
    ∃ b off, base = some ⟨b, off, none⟩ ∧ n = xs.length ∧ ∀ k (h : k < xs.length) j u, (cs xs[k])[j]? = some u → w.cell? ⟨b, off + k * sz + j, none⟩ = some u := by
  obtain ⟨base', cap, h1, h2, h3⟩ := h
  injection h1 with e1 e2 e3
  subst e1 e2
  obtain ⟨b, off, hb, hc⟩ := h3.resolve_left (by intro e; rw [e] at hk; simp at hk)
  exact ⟨b, off, hb, rfl, hc⟩
theorem SR.sq (h : SR cs sz w v xs) : SQ cs sz w v xs := by
  obtain ⟨base, cap, h1, h2, h3⟩ := h
  exact ⟨base, cap, h1, h2, h3.imp id fun ⟨b, hb, hc⟩ => ⟨b, 0, hb, fun k hk j u hu => by rw [Nat.zero_add]; exact hc k hk j u hu⟩⟩
end

/-- An item; fv is the slice of its origins. -/
structure It where
  id : Int
  label : Int
  fv : Value
  frm : List Int
def It.cs (x : It) : List Value := [.int .i64 x.id, .int .i64 x.label, x.fv]
def It.v (x : It) : Value := .agg #[.int .i64 x.id, .int .i64 x.label, x.fv]
/-- What a slot of an item holds of a world. -/
def It.good (w : World) (x : It) : Prop := OkI x.id ∧ OkI x.label ∧ IRd w x.fv x.frm
theorem It.good.ext {w w' : World} {x : It} (h : x.good w) (e : Ext w w') : x.good w' := ⟨h.1, h.2.1, h.2.2.ext e⟩
/-- The slice v holds the items xs. -/
def RI (w : World) (v : Value) (xs : List It) : Prop := SQ It.cs 3 w v xs ∧ ∀ x ∈ xs, x.good w
theorem RI.ext {w w' : World} {v : Value} {xs : List It} (h : RI w v xs) (e : Ext w w') : RI w' v xs := ⟨h.1.ext e, fun x hx => (h.2 x hx).ext e⟩

theorem it_at {w : World} {base : Option Addr} {n c : Nat} {xs : List It} (h : SQ It.cs 3 w (.slice base n c) xs) (k : Nat) (hk : k < xs.length) :
    ∃ b off, base = some ⟨b, off, none⟩ ∧ n = xs.length ∧ w.cell? ⟨b, off + k * 3, none⟩ = some (.int .i64 xs[k].id) ∧ w.cell? ⟨b, off + k * 3 + 1, none⟩ = some (.int .i64 xs[k].label) ∧ w.cell? ⟨b, off + k * 3 + 2, none⟩ = some xs[k].fv := by
  obtain ⟨b, off, h1, h2, h3⟩ := h.block k hk
  exact ⟨b, off, h1, h2, h3 k hk 0 _ rfl, h3 k hk 1 _ rfl, h3 k hk 2 _ rfl⟩

/-- A message; iv is the slice of its items. -/
structure Ms where
  src : Int
  dst : Int
  tm : Int
  iv : Value
  its : List Int
def Ms.cs (x : Ms) : List Value := [.int .i64 x.src, .int .i64 x.dst, .int .i64 x.tm, x.iv]
def Ms.v (x : Ms) : Value := .agg #[.int .i64 x.src, .int .i64 x.dst, .int .i64 x.tm, x.iv]
def Ms.good (w : World) (x : Ms) : Prop := OkI x.src ∧ OkI x.dst ∧ OkI x.tm ∧ IRd w x.iv x.its
theorem Ms.good.ext {w w' : World} {x : Ms} (h : x.good w) (e : Ext w w') : x.good w' := ⟨h.1, h.2.1, h.2.2.1, h.2.2.2.ext e⟩
/-- The slice v holds the messages ms. -/
def RM (w : World) (v : Value) (ms : List Ms) : Prop := SQ Ms.cs 4 w v ms ∧ ∀ x ∈ ms, x.good w
theorem RM.ext {w w' : World} {v : Value} {ms : List Ms} (h : RM w v ms) (e : Ext w w') : RM w' v ms := ⟨h.1.ext e, fun x hx => (h.2 x hx).ext e⟩

theorem ms_at {w : World} {base : Option Addr} {n c : Nat} {xs : List Ms} (h : SQ Ms.cs 4 w (.slice base n c) xs) (k : Nat) (hk : k < xs.length) :
    ∃ b off, base = some ⟨b, off, none⟩ ∧ n = xs.length ∧ w.cell? ⟨b, off + k * 4, none⟩ = some (.int .i64 xs[k].src) ∧ w.cell? ⟨b, off + k * 4 + 1, none⟩ = some (.int .i64 xs[k].dst) ∧ w.cell? ⟨b, off + k * 4 + 2, none⟩ = some (.int .i64 xs[k].tm) ∧ w.cell? ⟨b, off + k * 4 + 3, none⟩ = some xs[k].iv := by
  obtain ⟨b, off, h1, h2, h3⟩ := h.block k hk
  exact ⟨b, off, h1, h2, h3 k hk 0 _ rfl, h3 k hk 1 _ rfl, h3 k hk 2 _ rfl, h3 k hk 3 _ rfl⟩

/-- Maps of items, and of bools, by ints. -/
abbrev encI (i : Int) : Value := .int .i64 i
abbrev MI (w : World) (b : Nat) (l : List (Int × Value)) : Prop := MP encI OkI w b l
theorem keI : KE Try.prog 3 encI OkI := ⟨Go.Maps.int_keyed Try.underlying3, fun a b h => by injection h, fun a h => ⟨_, Go.Maps.keyOf_int_mk Try.underlying3 h.wf⟩⟩

/-- The first item with an Id. -/
def fnd (xs : List It) (id : Int) : Option It := xs.find? (fun x => x.id == id)
/-- The table, as it is made from behind. -/
def tabl (xs : List It) : List (Int × Value) := xs.foldr (fun x m => putL m x.id x.v) []
theorem tabl_look (xs : List It) (id : Int) : (tabl xs).lookup id = (fnd xs id).map It.v := by
  induction xs with
  | nil => rfl
  | cons x xs ih =>
    unfold fnd tabl at *
    rw [List.foldr_cons, lookup_put, List.find?_cons, ih]
    by_cases h : id = x.id
    · subst h; simp
    · rw [if_neg h]
      have : (x.id == id) = false := by simpa using fun e => h e.symm
      rw [this]
theorem tabl_keys (xs : List It) (id : Int) : id ∈ (tabl xs).map (·.1) ↔ id ∈ xs.map (·.id) := by
  induction xs with
  | nil => simp [tabl]
  | cons x xs ih =>
    unfold tabl at *
    rw [List.foldr_cons, putL_keys]
    split
    · rename_i h
      rw [ih, List.map_cons, List.mem_cons]
      constructor
      · exact .inr
      · rintro (rfl | h')
        · exact ih.1 h
        · exact h'
    · rw [List.mem_append, List.mem_singleton, ih, List.map_cons, List.mem_cons]
      exact Or.comm
/-- The table has as many entries as there are items just where all Ids differ. -/
theorem tabl_len (xs : List It) : (tabl xs).length ≤ xs.length ∧ ((tabl xs).length = xs.length ↔ (xs.map (·.id)).Nodup) := by
  induction xs with
  | nil => simp [tabl]
  | cons x xs ih =>
    have hk := tabl_keys xs x.id
    have h1 : (tabl (x :: xs)).length = if x.id ∈ (tabl xs).map (·.1) then (tabl xs).length else (tabl xs).length + 1 := by
      have := congrArg List.length (putL_keys (tabl xs) x.id x.v)
      rw [List.length_map] at this
      show (putL (tabl xs) x.id x.v).length = _
      rw [this]
      split <;> simp
    rw [h1, List.map_cons, List.nodup_cons, List.length_cons]
    by_cases hm : x.id ∈ xs.map (·.id)
    · rw [if_pos (hk.2 hm)]
      refine ⟨by omega, ⟨fun e => ?_, fun h => absurd hm h.1⟩⟩
      omega
    · rw [if_neg (fun h => hm (hk.1 h))]
      refine ⟨by omega, ⟨fun e => ⟨hm, ih.2.1 (by omega)⟩, fun h => by rw [ih.2.2 h.2]⟩⟩

end Go.Proofs.Ythdhlocoiipbaaa
