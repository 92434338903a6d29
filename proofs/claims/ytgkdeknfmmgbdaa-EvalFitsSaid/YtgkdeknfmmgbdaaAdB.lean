/-
  Slices of structs that read as lists; tenders and bids as plain data; what Admit answers, as a plain function. Nothing is asked.
-/
import Derived.Test.YtgkdeknfmmgbdaaAdA
import Derived.Test.YtgkdeknfmmgbdaaRp
import Derived.Deep.AppendLies
namespace Go.Proofs.Ytgkdeknfmmgbdaa
set_option linter.unusedVariables false
set_option linter.unusedSimpArgs false
open Go.RowKit

/-- The slice v reads as xs, each of sz cells. -/
def SR {α : Type} (cs : α → List Value) (sz : Nat) (w : World) (v : Value) (xs : List α) : Prop :=
  ∃ base cap, v = .slice base xs.length cap ∧ xs.length ≤ 1000000 ∧ (xs = [] ∨ ∃ b, base = some ⟨b, 0, none⟩ ∧ ∀ k (h : k < xs.length) j u, (cs xs[k])[j]? = some u → w.cell? ⟨b, k * sz + j, none⟩ = some u)
theorem SR.ext {α : Type} {cs : α → List Value} {sz : Nat} {w w' : World} {v : Value} {xs : List α} (h : SR cs sz w v xs) (e : Ext w w') : SR cs sz w' v xs := by
  obtain ⟨base, cap, h1, h2, h3⟩ := h
  exact ⟨base, cap, h1, h2, h3.imp id fun ⟨b, hb, hc⟩ => ⟨b, hb, fun k hk j u hu => (e.cells.1 _ _ (World.block_lt_of_cell? w _ (hc k hk j u hu))).trans (hc k hk j u hu)⟩⟩
theorem SR.form {α : Type} {cs : α → List Value} {sz : Nat} {w : World} {v : Value} {xs : List α} (h : SR cs sz w v xs) : ∃ base cap, v = .slice base xs.length cap := by
  obtain ⟨base, cap, h1, -⟩ := h
  exact ⟨base, cap, h1⟩
theorem SR.le {α : Type} {cs : α → List Value} {sz : Nat} {w : World} {v : Value} {xs : List α} (h : SR cs sz w v xs) : xs.length ≤ 1000000 := by
  obtain ⟨base, cap, h1, h2, -⟩ := h
  exact h2
/-- The block, where there is an element. -/
theorem SR.block {α : Type} {cs : α → List Value} {sz : Nat} {w : World} {base : Option Addr} {n c : Nat} {xs : List α} (h : SR cs sz w (.slice base n c) xs) (k : Nat) (hk : k < xs.length) :
    ∃ b, base = some ⟨b, 0, none⟩ ∧ n = xs.length ∧ ∀ k (h : k < xs.length) j u, (cs xs[k])[j]? = some u → w.cell? ⟨b, k * sz + j, none⟩ = some u := by
  obtain ⟨base', cap, h1, h2, h3⟩ := h
  injection h1 with e1 e2 e3
  subst e1 e2
  obtain ⟨b, hb, hc⟩ := h3.resolve_left (by intro e; rw [e] at hk; simp at hk)
  exact ⟨b, hb, rfl, hc⟩
theorem flat_get {α : Type} {cs : α → List Value} {sz : Nat} : ∀ (us : List α) (_ : ∀ x ∈ us, (cs x).length = sz) (k : Nat) (h : k < us.length) (j : Nat) (u : Value), (cs us[k])[j]? = some u → (us.flatMap cs)[k * sz + j]? = some u
  | x :: us, hl, 0, h, j, u, hu => by
    have hj : j < (cs x).length := (List.getElem?_eq_some_iff.1 hu).1
    rw [List.flatMap_cons, List.getElem?_append_left (by omega), Nat.zero_mul, Nat.zero_add]
    exact hu
  | x :: us, hl, k + 1, h, j, u, hu => by
    have h1 := hl x List.mem_cons_self
    have h2 : (k + 1) * sz = k * sz + sz := Nat.succ_mul k sz
    rw [List.flatMap_cons, List.getElem?_append_right (by omega), show (k + 1) * sz + j - (cs x).length = k * sz + j by omega]
    exact flat_get us (fun y hy => hl y (List.mem_cons_of_mem _ hy)) k (by simpa using h) j u hu
theorem SR.of_row {α : Type} {cs : α → List Value} {sz : Nat} (hl : ∀ x, (cs x).length = sz) {B E : Nat} {w : World} {v : Value} {xs : List α} (h : w.ownsRow B E sz v xs.length (xs.flatMap cs)) (hn : xs.length ≤ 1000000) : SR cs sz w v xs := by
  by_cases h0 : xs = []
  · subst h0
    rcases h.2 with ⟨hn, -⟩ | ⟨g, cap, cur, hv, -⟩
    · exact ⟨none, 0, hn, by simp, .inl rfl⟩
    · exact ⟨_, cap, hv, by simp, .inl rfl⟩
  · have hp : 0 < xs.length := List.length_pos_iff.2 h0
    obtain ⟨g, cap, rfl, -, hlt⟩ := h.form hp
    refine ⟨_, cap, rfl, hn, .inr ⟨g, rfl, fun k hk j u hu => ?_⟩⟩
    have h1 := flat_get xs (fun x _ => hl x) k hk j u hu
    rw [h.cellAt (k * sz + j) (by rw [← h.1]; exact (List.getElem?_eq_some_iff.1 h1).1)]
    exact h1
theorem row_ext {B E sz n : Nat} {w w' : World} {v : Value} {xs : List Value} (ho : w.ownsRow B E sz v n xs) (e : Ext w w') : w'.ownsRow B E sz v n xs := by
  refine ⟨ho.1, ?_⟩
  rcases ho.2 with hn | ⟨g, cap, cur, hv, hb, hg, rest⟩
  · exact .inl hn
  · exact .inr ⟨g, cap, cur, hv, hb, (e.block g (Rg.lt_of_heap hg)).trans hg, rest⟩

/-- 'append' of one element, which lies in a block of its own. -/
theorem append_one {α : Type} {cs : α → List Value} {sz : Nat} (hl : ∀ x, (cs x).length = sz ∧ ∀ c ∈ cs x, c.oneCell' = true) (T E bytes : Nat) {z : Value} (hT : Try.prog.underlying T = some (.slice E))
    (hinfo : (Try.prog.info? E).map (fun i => (i.zero, i.size, i.bytes)) = some (some z, sz, bytes)) (hz : z.cells.size = sz) (h0 : 0 < sz) (hby : bytes ≤ 100000)
    {ops : Array Oper} {rest : List Oper} {o : Oper} {a : Act} {Q : Exit → Act → World → Prop} {w : World} (hgd : o.guard = none) (s x : Operand)
    (ho : o.op = .call { callee := .builtin .append, args := #[s, x], argTypes := #[T, T] }) (B : Nat) (v : Value) (vs : List α) (hs : a.eval s = v) (hF : w.ownsRow B E sz v vs.length (vs.flatMap cs))
    (p : Nat) (u : α) (hx : a.eval x = .slice (some ⟨p, 0, none⟩) 1 1) (hp : w.heap[p]? = some (.cells (cs u).toArray E)) (hn : vs.length < 1000000) (hB : B ≤ w.heap.size)
    (h : ∀ g cap w', w'.ownsRow B E sz (.slice (some ⟨g, 0, none⟩) (vs.length + 1) cap) (vs ++ [u]).length ((vs ++ [u]).flatMap cs) → Below B w w' → wpList Try.prog ops Q rest (a.put o.dst (.slice (some ⟨g, 0, none⟩) (vs.length + 1) cap)) w') : wpList Try.prog ops Q (o :: rest) a w := by
  obtain ⟨i0, hi, hz0, hz1, hz2⟩ := info_parts hinfo
  refine wpList_append_lies w hgd s x T ho B E i0 _ sz bytes hT hi hz0 hz1 hz2 hz h0 v vs.length _ hs hF ⟨p, 0, none⟩ 1 1 (cs u) hx (by rw [(hl u).1, Nat.one_mul]) ?_ (hl u).2 (by decide) (by unfold maxLen; omega) ?_ hB w.heap.size rfl ?_
  · intro j c hc
    rw [addr_add, cell_of_row w p _ _ _ _ hp]
    simpa using hc
  · have : (vs.length + 1) * bytes ≤ 1000000 * 100000 := Nat.mul_le_mul (by omega) hby
    omega
  · intro g cap w' hw hg hat hlt
    refine h g cap w' ?_ ⟨hg.os, hg.tape, hg.output, hg.size, fun k hk => hg.block k (by omega) ?_⟩
    · rw [List.flatMap_append, List.length_append]
      simpa using hw
    · intro e
      have := (hF.lt k e.symm).1
      omega

/-- A criterion and a requirement. -/
structure Cr where
  name : ByteArray
  kind : Int
  low : Int
  high : Int
  less : Bool
structure Rq where
  name : ByteArray
  rel : ByteArray
  value : Int
def cellsLot (p : Int × Int) : List Value := [.int .i64 p.1, .int .i64 p.2]
def cellsCr (c : Cr) : List Value := [.string c.name, .int .i64 c.kind, .int .i64 c.low, .int .i64 c.high, .bool c.less]
def cellsRq (r : Rq) : List Value := [.string r.name, .string r.rel, .int .i64 r.value]
abbrev Sl := Option Addr × Nat × Nat
abbrev slV (x : Sl) : Value := .slice x.1 x.2.1 x.2.2
/-- A tender's cells. -/
structure TnR where
  nm : ByteArray
  ls : Sl
  cs : Sl
  rs : Sl
  low : Int
  high : Int
  fo : ByteArray
  f1 : Int
  f2 : Int
  fn : ByteArray
  fa : Sl
  ts : Sl
  most : Int
  ks : Sl
  budget : Int
  t0 : Int
  t1 : Int
  t2 : Int
  t3 : Int
  t4 : Int
abbrev tenC (r : TnR) : Array Value := #[.string r.nm, slV r.ls, slV r.cs, slV r.rs, .int .i64 r.low, .int .i64 r.high, .string r.fo, .int .i64 r.f1, .int .i64 r.f2, .string r.fn, slV r.fa, slV r.ts, .int .i64 r.most, slV r.ks, .int .i64 r.budget, .int .i64 r.t0, .int .i64 r.t1, .int .i64 r.t2, .int .i64 r.t3, .int .i64 r.t4]
abbrev entC (bidder lot receipt price : Int) (vs : Sl) : Array Value := #[.int .i64 bidder, .int .i64 lot, .int .i64 receipt, .int .i64 price, slV vs]

abbrev leB : ByteArray := ⟨#[60, 61]⟩
abbrev geB : ByteArray := ⟨#[62, 61]⟩
def okC (vs : Vals) (c : Cr) : Bool := decide ((lkv vs c.name).2 = 1) && decide (c.low ≤ (lkv vs c.name).1) && decide ((lkv vs c.name).1 ≤ c.high)
def knownC (cs : List Cr) (nm : ByteArray) : Bool := cs.any fun c => c.name.toList == nm.toList
def reqE (vs : Vals) (r : Rq) : Int :=
  if (lkv vs r.name).2 = 0 then 13
  else if (r.rel.toList == [60, 61]) = false ∧ (r.rel.toList == [62, 61]) = false then 1
  else if ((r.rel.toList == [60, 61]) = true ∧ r.value < (lkv vs r.name).1) ∨ ((r.rel.toList == [62, 61]) = true ∧ (lkv vs r.name).1 < r.value) then 37 else 0
def reqsE (vs : Vals) : List Rq → Int
  | [] => 0
  | r :: l => if reqE vs r = 0 then reqsE vs l else reqE vs r
def restE (cs : List Cr) (rs : List Rq) (vs : Vals) : Int :=
  if cs.all (okC vs) = false then 16 else if vs.all (fun v => knownC cs v.1) = false then 13 else reqsE vs rs
def lotAt (ls : List (Int × Int)) (lot : Int) : Option (Int × Int) := ls.find? fun l => l.1 == lot
def admitI (ls : List (Int × Int)) (cs : List Cr) (rs : List Rq) (low high lot price : Int) (vs : Vals) : Int :=
  match lotAt ls lot with
  | none => 34
  | some l => if price < low ∨ high < price ∨ l.2 < price then 16 else restE cs rs vs

theorem all_drop {α : Type} (xs : List α) (p : α → Bool) (k : Nat) (h : k < xs.length) : (xs.drop k).all p = (p xs[k] && (xs.drop (k + 1)).all p) := by
  rw [List.drop_eq_getElem_cons h, List.all_cons]
theorem reqs_drop (vs : Vals) (rs : List Rq) (k : Nat) (h : k < rs.length) : reqsE vs (rs.drop k) = if reqE vs rs[k] = 0 then reqsE vs (rs.drop (k + 1)) else reqE vs rs[k] := by
  rw [List.drop_eq_getElem_cons h, reqsE]
/-- The first place at which p holds, and the first element. -/
theorem idx_find {α : Type} (q : α → Bool) (xs : List α) (p : Nat → Bool) (hp : ∀ k (h : k < xs.length), p k = q xs[k]) :
    (xs.find? q = none ∧ idxZ p xs.length = -1) ∨ ∃ k, ∃ h : k < xs.length, xs.find? q = some xs[k] ∧ idxZ p xs.length = k := by
  have key : ∀ d k, d = xs.length - k → k ≤ xs.length → ((xs.drop k).find? q = none ∧ idxFrom p xs.length d = -1) ∨ ∃ j, ∃ h : j < xs.length, (xs.drop k).find? q = some xs[j] ∧ idxFrom p xs.length d = j := by
    intro d
    induction d with
    | zero => intro k hd hk; exact .inl ⟨by rw [List.drop_eq_nil_of_le (by omega)]; rfl, rfl⟩
    | succ d ih =>
      intro k hd hk
      have hlt : k < xs.length := by omega
      rw [List.drop_eq_getElem_cons hlt, List.find?_cons, idxFrom, show xs.length - (d + 1) = k by omega, hp k hlt]
      cases hq : q xs[k]
      · simp only [Bool.false_eq_true, if_false]
        exact ih (k + 1) (by omega) (by omega)
      · exact .inr ⟨k, hlt, by simp, by simp⟩
  have := key xs.length 0 (by omega) (by omega)
  simpa [idxZ] using this

theorem info83 : (Try.prog.info? 83).map (fun i => (i.zero, i.size, i.bytes)) = some (some (.agg #[.int .i64 0, .int .i64 0]), 2, 16) := by kernel_rfl
theorem info85 : (Try.prog.info? 85).map (fun i => (i.zero, i.size, i.bytes)) = some (some (.agg #[.string ⟨#[]⟩, .int .i64 0, .int .i64 0, .int .i64 0, .bool false]), 5, 48) := by kernel_rfl
theorem info108 : (Try.prog.info? 108).map (fun i => (i.zero, i.size, i.bytes)) = some (some (.agg #[.string ⟨#[]⟩, .string ⟨#[]⟩, .int .i64 0]), 3, 40) := by kernel_rfl
theorem one_lot (x : Int × Int) : (cellsLot x).length = 2 ∧ ∀ c ∈ cellsLot x, c.oneCell' = true := ⟨rfl, by intro c hc; simp [cellsLot] at hc; rcases hc with rfl | rfl <;> rfl⟩
theorem one_cr (x : Cr) : (cellsCr x).length = 5 ∧ ∀ c ∈ cellsCr x, c.oneCell' = true := ⟨rfl, by intro c hc; simp [cellsCr] at hc; rcases hc with rfl | rfl | rfl | rfl | rfl <;> rfl⟩
theorem one_rq (x : Rq) : (cellsRq x).length = 3 ∧ ∀ c ∈ cellsRq x, c.oneCell' = true := ⟨rfl, by intro c hc; simp [cellsRq] at hc; rcases hc with rfl | rfl | rfl <;> rfl⟩
theorem one_val (x : ByteArray × Int) : (cellsP x).length = 2 ∧ ∀ c ∈ cellsP x, c.oneCell' = true := ⟨rfl, by intro c hc; simp [cellsP] at hc; rcases hc with rfl | rfl <;> rfl⟩
end Go.Proofs.Ytgkdeknfmmgbdaa
