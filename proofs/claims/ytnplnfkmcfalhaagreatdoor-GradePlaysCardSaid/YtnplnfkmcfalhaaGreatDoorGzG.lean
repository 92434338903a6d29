/-
  A builder of the call's own beside other rows: what a write keeps; the text of a book. Condition: what the builder holds.
-/
import Derived.Shelf.Strings.BuilderK
import Derived.Test.YtnplnfkmcfalhaaGreatDoorGzF
namespace Go.Proofs.YtnplnfkmcfalhaaGreatDoor
set_option linter.unusedVariables false
set_option linter.unusedSimpArgs false
open Go.RowKit Go.Sort Go.Shelf

structure KB (b : Nat) (w w' : World) : Prop where
  below : Below b w w'
  kept : Lib.OthersKept 5 (some b) w w'
theorem KB.refl (b : Nat) (w : World) : KB b w w := ⟨Below.refl _ _, Lib.OthersKept.refl _ _ _⟩
theorem KB.trans {b : Nat} {a c d : World} (h : KB b a c) (k : KB b c d) : KB b a d := ⟨Below.trans h.below k.below, h.kept.trans k.kept⟩
theorem KB.of_ext {b : Nat} {w w' : World} (h : Ext w w') (hb : b ≤ w.heap.size) : KB b w w' :=
  ⟨⟨h.os, h.tape, h.output, h.size, fun i hi => h.block i (by omega)⟩, fun k o hk _ _ => (h.block k (Rg.lt_of_heap hk)).trans hk⟩
theorem KB.heap {b k : Nat} {w w' : World} (h : KB b w w') {c : Array Value} {t : TypeId} {fz : Nat × Nat} (hk : w.heap[k]? = some (.cells c t fz)) (hkb : k ≠ b) (ht : t ≠ 5) : w'.heap[k]? = some (.cells c t fz) :=
  h.kept k _ hk (fun e => hkb (Option.some.inj e)) (fun _ _ e => by injection e with _ e _; exact ht e)
/-- The builder at b holds the text l. -/
def BU (b : Nat) (l : List UInt8) (w : World) : Prop := Lib.IsBuilderF 99 5 b b (Lib.byteCells l) w
theorem BU.at {b : Nat} {l : List UInt8} {w : World} (h : BU b l w) : ∃ c fz, w.heap[b]? = some (.cells c 99 fz) := by
  rcases h with ⟨-, v, h, -⟩ | ⟨-, v, h, -⟩ <;> exact ⟨_, _, h⟩
theorem BU.lt {b : Nat} {l : List UInt8} {w : World} (h : BU b l w) : b < w.heap.size := by
  obtain ⟨c, fz, h⟩ := h.at
  exact Rg.lt_of_heap h
theorem BU.ext {b : Nat} {l : List UInt8} {w w' : World} (h : BU b l w) (e : Ext w w') : BU b l w' := by
  have key : ∀ p, Lib.BuilderAtF 99 5 b b p (Lib.byteCells l) w → Lib.BuilderAtF 99 5 b b p (Lib.byteCells l) w' := by
    rintro p ⟨h1, v, h2, h3, h4⟩
    refine ⟨h1, v, (e.block _ (Rg.lt_of_heap h2)).trans h2, ⟨h3.1, ?_⟩, h4⟩
    rcases h3.2 with h | ⟨g, cap, cur, fz, k1, k2, k3, k4⟩
    · exact .inl h
    · exact .inr ⟨g, cap, cur, fz, k1, k2, (e.block _ (Rg.lt_of_heap k3)).trans k3, k4⟩
  exact h.elim (fun x => .inl (key _ x)) (fun x => .inr (key _ x))
theorem BU.new (w : World) : BU w.heap.size [] (w.alloc (.cells #[.pointer none, .slice none 0 0] 99)) := Lib.IsBuilderF.of (Lib.fresh_isBuilder 99 5 w)
theorem ws_any {b : Nat} {l : List UInt8} {w : World} (s : ByteArray) (h : BU b l w) (hl : l.length + s.size ≤ 140737488355328) :
    Calls Tryz.prog 32 #[.pointer (some ⟨b, 0, none⟩), .string s] w fun e w' => e = .returned (.tuple #[.int .i64 s.size, .nilIface]) ∧ BU b (l ++ s.data.toList) w' ∧ KB b w w' := by
  have := Any.Builder_WriteString_k lays166 builder_Extra156 b b (Lib.byteCells l) s w h (by rw [Lib.byteCells_length]; exact hl) (Nat.le_of_lt h.lt)
  refine Calls.mono this ?_
  rintro e w' ⟨h1, h2, h3, h4⟩
  refine ⟨h1, .inr ?_, h3, h4⟩
  rw [show Lib.byteCells (l ++ s.data.toList) = Lib.byteCells l ++ Lib.strCells s by simp [Lib.byteCells, Lib.strCells]]
  exact h2
theorem str_any {b : Nat} {l : List UInt8} {w : World} (h : BU b l w) :
    Calls Tryz.prog 37 #[.pointer (some ⟨b, 0, none⟩)] w fun e w' => e = .returned (.string ⟨l.toArray⟩) ∧ KB b w w' := by
  have := Any.Builder_String_any_k lays169 builder_Extra b b l w h (Nat.le_of_lt h.lt)
  refine Calls.mono this ?_
  rintro e w' ⟨h1, -, h3, h4⟩
  exact ⟨h1, h3, h4⟩
theorem SR.kb {α : Type} {cs : α → List Value} {sz b : Nat} {w w' : World} {v : Value} {xs : List α} {t : TypeId} (h : SR cs sz w v xs) (ht : TG t w v) (h5 : t ≠ 5) (h9 : t ≠ 99) {c : Array Value} {fz : Nat × Nat} (hb : w.heap[b]? = some (.cells c 99 fz)) (k : KB b w w') : SR cs sz w' v xs := by
  obtain ⟨base, cap, h1, h2, h3⟩ := h
  refine ⟨base, cap, h1, h2, h3.imp id fun ⟨q, hq, hc⟩ => ⟨q, hq, fun i hi j u hu => ?_⟩⟩
  subst h1
  subst hq
  obtain ⟨cc, f2, hh⟩ := ht _ _ _ _ _ rfl (by omega)
  have := k.heap hh (fun e => by subst e; rw [hb] at hh; injection hh with hh; injection hh with _ e _; exact h9 e.symm) h5
  have hcu := hc i hi j u hu
  unfold World.cell? at hcu ⊢
  rw [hh] at hcu
  rw [this]
  exact hcu
theorem IRd.kb {b : Nat} {w w' : World} {v : Value} {xs : List Int} {t : TypeId} (h : IRd w v xs) (ht : TG t w v) (h5 : t ≠ 5) (h9 : t ≠ 99) {c : Array Value} {fz : Nat × Nat} (hb : w.heap[b]? = some (.cells c 99 fz)) (k : KB b w w') : IRd w' v xs := by
  obtain ⟨A, cap, h1, h2, h3, h4⟩ := h
  refine ⟨A, cap, h1, h2, h3, h4.imp id fun ⟨q, off, hq, hc⟩ => ⟨q, off, hq, fun i hi => ?_⟩⟩
  subst h1
  subst hq
  obtain ⟨cc, f2, hh⟩ := ht _ _ _ _ _ rfl (by omega)
  have := k.heap hh (fun e => by subst e; rw [hb] at hh; injection hh with hh; injection hh with _ e _; exact h9 e.symm) h5
  have hcu := hc i hi
  unfold World.cell? at hcu ⊢
  rw [hh] at hcu
  rw [this]
  exact hcu

/-! ### A book's text -/
def gradeW : ByteArray := ⟨#[103, 114, 97, 100, 101]⟩
def changedW : ByteArray := ⟨#[99, 104, 97, 110, 103, 101, 100]⟩
def gd0 : Gd := ⟨0, 0, 0, ⟨#[]⟩, 0, 0⟩
def grS (b : Bk) (k : Pl) : ByteArray := lineS gradeW ((b.gr k).getD gd0)
def finS (n : Int) : ByteArray := ((⟨#[102, 105, 110, 97, 108, 32]⟩ : ByteArray) ++ itoaS n) ++ ⟨#[10]⟩
def oldS (g : Gd) : ByteArray := lineS changedW g
def encL (b : Bk) (ks : List Pl) (ns : List Int) : List UInt8 :=
  (ks.flatMap fun k => (grS b k).data.toList) ++ (ns.flatMap fun n => (finS n).data.toList) ++ (b.old.flatMap fun g => (oldS g).data.toList)
/-- s is the text of the book b. -/
def EncR (b : Bk) (s : ByteArray) : Prop :=
  ∃ (ks : List Pl) (ns : List Int), ks.Nodup ∧ (∀ k, k ∈ ks ↔ (b.gr k).isSome) ∧ ns.Nodup ∧ (∀ n, n ∈ ns ↔ b.fin n = true) ∧ s = ⟨(encL b (srtP ks) (srtI ns)).toArray⟩
theorem EncR.same {b b' : Bk} {s s' : ByteArray} (h : EncR b s) (h' : EncR b' s') (hg : b.gr = b'.gr) (hf : b.fin = b'.fin) (ho : b.old = b'.old) : s = s' := by
  obtain ⟨ks, ns, h1, h2, h3, h4, rfl⟩ := h
  obtain ⟨ks', ns', k1, k2, k3, k4, rfl⟩ := h'
  have e1 : srtP ks = srtP ks' := srtP_of_perm ((List.perm_ext_iff_of_nodup h1 k1).2 fun a => by rw [h2, k2, hg])
  have e2 : srtI ns = srtI ns' := srtI_of_perm ((List.perm_ext_iff_of_nodup h3 k3).2 fun a => by rw [h4, k4, hf])
  unfold encL grS
  rw [e1, e2, hg, ho]
theorem lineS_size (word : ByteArray) (g : Gd) (hw : word.size ≤ 100) (hg : g.ok) (hs : g.name.size ≤ 1000) : (lineS word g).size ≤ 3000 := by
  have hlen : (Lib.join ([word, itoaS g.bid, itoaS g.lot, g.name, itoaS g.ass, itoaS g.n, itoaS g.tm].map (·.data.toList)) [32]).length ≤ 2000 := by
    simp only [List.map_cons, List.map_nil, Lib.join_length, Lib.lens, List.map_cons, List.sum_cons, bsize]
    have h1 := itoaS_size hg.1
    have h2 := itoaS_size hg.2.1
    have h3 := itoaS_size hg.2.2.1
    have h4 := itoaS_size hg.2.2.2.2.1
    have h5 := itoaS_size hg.2.2.2.2.2
    simp
    omega
  unfold lineS
  rw [ByteArray.size_append, ← bsize]
  exact Nat.le_trans (Nat.add_le_add_right hlen 1) (by decide)
theorem finS_size {n : Int} (h : OkI n) : (finS n).size ≤ 3000 := by
  unfold finS
  rw [ByteArray.size_append, ByteArray.size_append]
  have h1 := itoaS_size h
  have h2 : (⟨#[102, 105, 110, 97, 108, 32]⟩ : ByteArray).size = 6 := rfl
  have h3 : (⟨#[10]⟩ : ByteArray).size = 1 := rfl
  omega
theorem flat_le {α : Type} (f : α → ByteArray) : ∀ (l : List α), (∀ x ∈ l, (f x).size ≤ 3000) → (l.flatMap fun x => (f x).data.toList).length ≤ 3000 * l.length
  | [], _ => by simp
  | x :: l, h => by
    rw [List.flatMap_cons, List.length_append, bsize, List.length_cons]
    have h1 := h x List.mem_cons_self
    have h2 := flat_le f l (fun y hy => h y (List.mem_cons_of_mem _ hy))
    omega
theorem flat_take {α : Type} (f : α → ByteArray) (l : List α) (i : Nat) (h : i < l.length) : ((l.take i).flatMap fun x => (f x).data.toList) ++ (f l[i]).data.toList = (l.take (i + 1)).flatMap fun x => (f x).data.toList := by
  rw [List.take_add_one, List.getElem?_eq_getElem h, List.flatMap_append]
  simp only [Option.toList_some, List.flatMap_cons, List.flatMap_nil, List.append_nil]
end Go.Proofs.YtnplnfkmcfalhaaGreatDoor
