/-
  Lemmas of this claim (JtQ). Nothing is asked.
-/
import Derived.Test.YteomcpplajeidaaGreatJtP
import Derived.Deep.AppendLies
import Derived.Test.YteomcpplajeidaaGreatJtO
import Derived.BigQuiet
import Derived.Deep.QuietTactic
namespace Go.Proofs.YteomcpplajeidaaGreat
set_option linter.unusedVariables false
set_option linter.unusedSimpArgs false
set_option maxRecDepth 100000
open Go.RowKit
def SR {α : Type} (cs : α → List Value) (sz : Nat) (w : World) (v : Value) (xs : List α) : Prop :=
  ∃ base cap, v = .slice base xs.length cap ∧ xs.length ≤ 1000000 ∧ (xs = [] ∨ ∃ b, base = some ⟨b, 0, none⟩ ∧ ∀ k (h : k < xs.length) j u, (cs xs[k])[j]? = some u → w.cell? ⟨b, k * sz + j, none⟩ = some u)
theorem SR.ext {α : Type} {cs : α → List Value} {sz : Nat} {w w' : World} {v : Value} {xs : List α} (h : SR cs sz w v xs) (e : Ext w w') : SR cs sz w' v xs := by
  obtain ⟨base, cap, h1, h2, h3⟩ := h
  exact ⟨base, cap, h1, h2, h3.imp id fun ⟨b, hb, hc⟩ => ⟨b, hb, fun k hk j u hu => (e.cells.1 _ _ (World.block_lt_of_cell? w _ (hc k hk j u hu))).trans (hc k hk j u hu)⟩⟩
theorem SR.form {α : Type} {cs : α → List Value} {sz : Nat} {w : World} {v : Value} {xs : List α} (h : SR cs sz w v xs) : ∃ base cap, v = .slice base xs.length cap := by
  obtain ⟨base, cap, h1, -⟩ := h
  exact ⟨base, cap, h1⟩
theorem SR.le {α : Type} {cs : α → List Value} {sz : Nat} {w : World} {v : Value} {xs : List α} (h : SR cs sz w v xs) : xs.length ≤ 1000000 := by
  obtain ⟨base, cap, h1, h2, -⟩ := h
  exact h2
theorem SR.block {α : Type} {cs : α → List Value} {sz : Nat} {w : World} {base : Option Addr} {n c : Nat} {xs : List α} (h : SR cs sz w (.slice base n c) xs) (k : Nat) (hk : k < xs.length) :
    ∃ b, base = some ⟨b, 0, none⟩ ∧ n = xs.length ∧ ∀ k (h : k < xs.length) j u, (cs xs[k])[j]? = some u → w.cell? ⟨b, k * sz + j, none⟩ = some u := by
  obtain ⟨base', cap, h1, h2, h3⟩ := h
  injection h1 with e1 e2 e3
  subst e1 e2
  obtain ⟨b, hb, hc⟩ := h3.resolve_left (by intro e; rw [e] at hk; simp at hk)
  exact ⟨b, hb, rfl, hc⟩
theorem flat_get {α : Type} {cs : α → List Value} {sz : Nat} : ∀ (us : List α) (_ : ∀ x ∈ us, (cs x).length = sz) (k : Nat) (h : k < us.length) (j : Nat) (u : Value), (cs us[k])[j]? = some u → (us.flatMap cs)[k * sz + j]? = some u
  | x :: us, hl, 0, h, j, u, hu => by
    have hj : j < (cs x).length := (List.getElem?_eq_some_iff.1 hu).1
    rw [List.flatMap_cons, List.getElem?_append_left (by omega), Nat.zero_mul, Nat.zero_add]
    exact hu
  | x :: us, hl, k + 1, h, j, u, hu => by
    have h1 := hl x List.mem_cons_self
    have h2 : (k + 1) * sz = k * sz + sz := Nat.succ_mul k sz
    rw [List.flatMap_cons, List.getElem?_append_right (by omega), show (k + 1) * sz + j - (cs x).length = k * sz + j by omega]
    exact flat_get us (fun y hy => hl y (List.mem_cons_of_mem _ hy)) k (by simpa using h) j u hu
theorem SR.of_row {α : Type} {cs : α → List Value} {sz : Nat} (hl : ∀ x, (cs x).length = sz) {B E : Nat} {w : World} {v : Value} {xs : List α} (h : w.ownsRow B E sz v xs.length (xs.flatMap cs)) (hn : xs.length ≤ 1000000) : SR cs sz w v xs := by
  by_cases h0 : xs = []
  · subst h0
    rcases h.2 with ⟨hn, -⟩ | ⟨g, cap, cur, hv, -⟩
    · exact ⟨none, 0, hn, by simp, .inl rfl⟩
    · exact ⟨_, cap, hv, by simp, .inl rfl⟩
  · have hp : 0 < xs.length := List.length_pos_iff.2 h0
    obtain ⟨g, cap, rfl, -, hlt⟩ := h.form hp
    refine ⟨_, cap, rfl, hn, .inr ⟨g, rfl, fun k hk j u hu => ?_⟩⟩
    have h1 := flat_get xs (fun x _ => hl x) k hk j u hu
    rw [h.cellAt (k * sz + j) (by rw [← h.1]; exact (List.getElem?_eq_some_iff.1 h1).1)]
    exact h1
theorem row_ext {B E sz n : Nat} {w w' : World} {v : Value} {xs : List Value} (ho : w.ownsRow B E sz v n xs) (e : Ext w w') : w'.ownsRow B E sz v n xs := by
  refine ⟨ho.1, ?_⟩
  rcases ho.2 with hn | ⟨g, cap, cur, hv, hb, hg, rest⟩
  · exact .inl hn
  · exact .inr ⟨g, cap, cur, hv, hb, (e.block g (Rg.lt_of_heap hg)).trans hg, rest⟩
theorem append_one {α : Type} {cs : α → List Value} {sz : Nat} (hl : ∀ x, (cs x).length = sz ∧ ∀ c ∈ cs x, c.oneCell' = true) (T E bytes : Nat) {z : Value} (hT : Tryz.prog.underlying T = some (.slice E))
    (hinfo : (Tryz.prog.info? E).map (fun i => (i.zero, i.size, i.bytes)) = some (some z, sz, bytes)) (hz : z.cells.size = sz) (h0 : 0 < sz) (hby : bytes ≤ 100000)
    {ops : Array Oper} {rest : List Oper} {o : Oper} {a : Act} {Q : Exit → Act → World → Prop} {w : World} (hgd : o.guard = none) (s x : Operand)
    (ho : o.op = .call { callee := .builtin .append, args := #[s, x], argTypes := #[T, T] }) (B : Nat) (v : Value) (vs : List α) (hs : a.eval s = v) (hF : w.ownsRow B E sz v vs.length (vs.flatMap cs))
    (p : Nat) (u : α) (hx : a.eval x = .slice (some ⟨p, 0, none⟩) 1 1) (hp : w.heap[p]? = some (.cells (cs u).toArray E)) (hn : vs.length < 1000000) (hB : B ≤ w.heap.size)
    (h : ∀ g cap w', w'.ownsRow B E sz (.slice (some ⟨g, 0, none⟩) (vs.length + 1) cap) (vs ++ [u]).length ((vs ++ [u]).flatMap cs) → Below B w w' → wpList Tryz.prog ops Q rest (a.put o.dst (.slice (some ⟨g, 0, none⟩) (vs.length + 1) cap)) w') : wpList Tryz.prog ops Q (o :: rest) a w := by
  obtain ⟨i0, hi, hz0, hz1, hz2⟩ := info_parts hinfo
  refine wpList_append_lies w hgd s x T ho B E i0 _ sz bytes hT hi hz0 hz1 hz2 hz h0 v vs.length _ hs hF ⟨p, 0, none⟩ 1 1 (cs u) hx (by rw [(hl u).1, Nat.one_mul]) ?_ (hl u).2 (by decide) (by unfold maxLen; omega) ?_ hB w.heap.size rfl ?_
  · intro j c hc
    rw [addr_add, cell_of_row w p _ _ _ _ hp]
    simpa using hc
  · have : (vs.length + 1) * bytes ≤ 1000000 * 100000 := Nat.mul_le_mul (by omega) hby
    omega
  · intro g cap w' hw hg hat hlt
    refine h g cap w' ?_ ⟨hg.os, hg.tape, hg.output, hg.size, fun k hk => hg.block k (by omega) ?_⟩
    · rw [List.flatMap_append, List.length_append]
      simpa using hw
    · intro e
      have := (hF.lt k e.symm).1
      omega
structure Cr where
  name : ByteArray
  kind : Int
  low : Int
  high : Int
  less : Bool
structure Rq where
  name : ByteArray
  rel : ByteArray
  value : Int
def cellsLot (p : Int × Int) : List Value := [.int .i64 p.1, .int .i64 p.2]
def cellsCr (c : Cr) : List Value := [.string c.name, .int .i64 c.kind, .int .i64 c.low, .int .i64 c.high, .bool c.less]
def cellsRq (r : Rq) : List Value := [.string r.name, .string r.rel, .int .i64 r.value]
abbrev Sl := Option Addr × Nat × Nat
abbrev slV (x : Sl) : Value := .slice x.1 x.2.1 x.2.2
structure TnR where
  nm : ByteArray
  ls : Sl
  cs : Sl
  rs : Sl
  low : Int
  high : Int
  fo : ByteArray
  f1 : Int
  f2 : Int
  fn : ByteArray
  fa : Sl
  ts : Sl
  most : Int
  ks : Sl
  budget : Int
  t0 : Int
  t1 : Int
  t2 : Int
  t3 : Int
  t4 : Int
abbrev tenC (r : TnR) : Array Value := #[.string r.nm, slV r.ls, slV r.cs, slV r.rs, .int .i64 r.low, .int .i64 r.high, .string r.fo, .int .i64 r.f1, .int .i64 r.f2, .string r.fn, slV r.fa, slV r.ts, .int .i64 r.most, slV r.ks, .int .i64 r.budget, .int .i64 r.t0, .int .i64 r.t1, .int .i64 r.t2, .int .i64 r.t3, .int .i64 r.t4]
abbrev entC (bidder lot receipt price : Int) (vs : Sl) : Array Value := #[.int .i64 bidder, .int .i64 lot, .int .i64 receipt, .int .i64 price, slV vs]
def okC (vs : Vals) (c : Cr) : Bool := decide ((lkv vs c.name).2 = 1) && decide (c.low ≤ (lkv vs c.name).1) && decide ((lkv vs c.name).1 ≤ c.high)
def knownC (cs : List Cr) (nm : ByteArray) : Bool := cs.any fun c => c.name.toList == nm.toList
def reqE (vs : Vals) (r : Rq) : Int :=
  if (lkv vs r.name).2 = 0 then 13
  else if (r.rel.toList == [60, 61]) = false ∧ (r.rel.toList == [62, 61]) = false then 1
  else if ((r.rel.toList == [60, 61]) = true ∧ r.value < (lkv vs r.name).1) ∨ ((r.rel.toList == [62, 61]) = true ∧ (lkv vs r.name).1 < r.value) then 37 else 0
def reqsE (vs : Vals) : List Rq → Int
  | [] => 0
  | r :: l => if reqE vs r = 0 then reqsE vs l else reqE vs r
def restE (cs : List Cr) (rs : List Rq) (vs : Vals) : Int :=
  if cs.all (okC vs) = false then 16 else if vs.all (fun v => knownC cs v.1) = false then 13 else reqsE vs rs
def lotAt (ls : List (Int × Int)) (lot : Int) : Option (Int × Int) := ls.find? fun l => l.1 == lot
def admitI (ls : List (Int × Int)) (cs : List Cr) (rs : List Rq) (low high lot price : Int) (vs : Vals) : Int :=
  match lotAt ls lot with
  | none => 34
  | some l => if price < low ∨ high < price ∨ l.2 < price then 16 else restE cs rs vs
theorem all_drop {α : Type} (xs : List α) (p : α → Bool) (k : Nat) (h : k < xs.length) : (xs.drop k).all p = (p xs[k] && (xs.drop (k + 1)).all p) := by
  rw [List.drop_eq_getElem_cons h, List.all_cons]
theorem reqs_drop (vs : Vals) (rs : List Rq) (k : Nat) (h : k < rs.length) : reqsE vs (rs.drop k) = if reqE vs rs[k] = 0 then reqsE vs (rs.drop (k + 1)) else reqE vs rs[k] := by
  rw [List.drop_eq_getElem_cons h, reqsE]
theorem idx_find {α : Type} (q : α → Bool) (xs : List α) (p : Nat → Bool) (hp : ∀ k (h : k < xs.length), p k = q xs[k]) :
    (xs.find? q = none ∧ idxZ p xs.length = -1) ∨ ∃ k, ∃ h : k < xs.length, xs.find? q = some xs[k] ∧ idxZ p xs.length = k := by
  have key : ∀ d k, d = xs.length - k → k ≤ xs.length → ((xs.drop k).find? q = none ∧ idxFrom p xs.length d = -1) ∨ ∃ j, ∃ h : j < xs.length, (xs.drop k).find? q = some xs[j] ∧ idxFrom p xs.length d = j := by
    intro d
    induction d with
    | zero => intro k hd hk; exact .inl ⟨by rw [List.drop_eq_nil_of_le (by omega)]; rfl, rfl⟩
    | succ d ih =>
      intro k hd hk
      have hlt : k < xs.length := by omega
      rw [List.drop_eq_getElem_cons hlt, List.find?_cons, idxFrom, show xs.length - (d + 1) = k by omega, hp k hlt]
      cases hq : q xs[k]
      · simp only [Bool.false_eq_true, if_false]
        exact ih (k + 1) (by omega) (by omega)
      · exact .inr ⟨k, hlt, by simp, by simp⟩
  have := key xs.length 0 (by omega) (by omega)
  simpa [idxZ] using this
end Go.Proofs.YteomcpplajeidaaGreat
namespace Go.Proofs.YteomcpplajeidaaGreat
set_option linter.unusedVariables false
set_option linter.unusedSimpArgs false
set_option maxRecDepth 100000
open Go.RowKit
def worS (s : ByteArray) : Bool := namS s && !(s.toList == [112, 114, 105, 99, 101]) && !(s.toList == [108, 111, 119]) && !(s.toList == [109, 105, 110]) && !(s.toList == [109, 97, 120])
set_option maxHeartbeats 4000000 in
theorem IsWord_any (s : ByteArray) (hs : s.size ≤ 1000000) (w : World) : Calls Tryz.prog 150 #[.string s] w fun e w' => e = .returned (.bool (worS s)) ∧ w = w' := by
  have HN := Lib.hid (IsName_any s hs w)
  unfold worS
  cases h0 : namS s with
  | false =>
    rw [h0] at HN
    clear h0
    go_enter Tryz.func150, Tryz.ntmps150
    go_wp2_with (go_at_call 93; (with_reducible refine HN.out.mono ?_); rintro e w1 ⟨rfl, rfl⟩)
    go_ret
    exact ⟨rfl, rfl⟩
  | true =>
    rw [h0] at HN
    clear h0
    cases h1 : (s.toList == [112, 114, 105, 99, 101])
    · cases h2 : (s.toList == [108, 111, 119])
      · cases h3 : (s.toList == [109, 105, 110])
        · cases h4 : (s.toList == [109, 97, 120])
          · skip
            go_enter Tryz.func150, Tryz.ntmps150
            go_wp2_with (go_at_call 93; (with_reducible refine HN.out.mono ?_); rintro e w1 ⟨rfl, rfl⟩)
            go_ret
            exact ⟨by simp, rfl⟩
          · skip
            go_enter Tryz.func150, Tryz.ntmps150
            go_wp2_with (go_at_call 93; (with_reducible refine HN.out.mono ?_); rintro e w1 ⟨rfl, rfl⟩)
            go_ret
            exact ⟨by simp, rfl⟩
        · skip
          go_enter Tryz.func150, Tryz.ntmps150
          go_wp2_with (go_at_call 93; (with_reducible refine HN.out.mono ?_); rintro e w1 ⟨rfl, rfl⟩)
          go_ret
          exact ⟨by simp, rfl⟩
      · skip
        go_enter Tryz.func150, Tryz.ntmps150
        go_wp2_with (go_at_call 93; (with_reducible refine HN.out.mono ?_); rintro e w1 ⟨rfl, rfl⟩)
        go_ret
        exact ⟨by simp, rfl⟩
    · skip
      go_enter Tryz.func150, Tryz.ntmps150
      go_wp2_with (go_at_call 93; (with_reducible refine HN.out.mono ?_); rintro e w1 ⟨rfl, rfl⟩)
      go_ret
      exact ⟨by simp, rfl⟩
def tokC (t : ByteArray × Int) : List Value := [.string t.1, .int .i64 t.2]
theorem tok_at {w : World} {base : Option Addr} {n c : Nat} {l : List (ByteArray × Int)} (h : SR tokC 2 w (.slice base n c) l) (k : Nat) (hk : k < l.length) :
    ∃ g, base = some ⟨g, 0, none⟩ ∧ n = l.length ∧ g < w.heap.size ∧ w.cell? ⟨g, k * 2, none⟩ = some (.string l[k].1) ∧ w.cell? ⟨g, k * 2 + 1, none⟩ = some (.int .i64 l[k].2) := by
  obtain ⟨b, hb, hn, hc⟩ := h.block k hk
  have h0 := hc k hk 0 _ rfl
  have h1 := hc k hk 1 _ rfl
  exact ⟨b, hb, hn, World.block_lt_of_cell? w _ h0, h0, h1⟩
set_option maxHeartbeats 4000000 in
theorem text_any (p : Nat) (tv : Value) (l : List (ByteArray × Int)) (k : Nat) (w : World) (h0 : w.cell? ⟨p, 0, none⟩ = some tv) (h1 : w.cell? ⟨p, 1, none⟩ = some (.int .i64 k)) (hl : SR tokC 2 w tv l) (hk : k < l.length) :
    Calls Tryz.prog 140 #[.pointer (some ⟨p, 0, none⟩)] w fun e w' => e = .returned (.string l[k].1) ∧ Ext w w' := by
  obtain ⟨base, cap, rfl⟩ := hl.form
  have hll := hl.le
  obtain ⟨g, rfl, -, hg, d0, -⟩ := tok_at hl k hk
  have hp := World.block_lt_of_cell? w _ h0
  generalize l[k].1 = s at *
  clear hl
  go_enter Tryz.func140, Tryz.ntmps140
  go_upto_region 1 with (fail)
  go_quiet (fail)
  go_wp2_with (fail)
  go_ret
  exact ⟨rfl, (by with_reducible repeat (first | exact Ext.refl _ | assumption | apply Ext.drewN | apply Ext.drew | apply Ext.alloc | (refine Ext.setCell ?_ (by simp <;> omega) _) | (refine Ext.trans ?_ (by assumption))))⟩
end Go.Proofs.YteomcpplajeidaaGreat
namespace Go.Proofs.YteomcpplajeidaaGreat
set_option linter.unusedVariables false
set_option linter.unusedSimpArgs false
set_option maxRecDepth 100000
open Go.RowKit
def strC (s : ByteArray) : List Value := [.string s]
def amoS (l : List ByteArray) (s : ByteArray) : Bool := l.any fun x => x.toList == s.toList
theorem str_at {w : World} {base : Option Addr} {n c : Nat} {l : List ByteArray} (h : SR strC 1 w (.slice base n c) l) (k : Nat) (hk : k < l.length) :
    ∃ g, base = some ⟨g, 0, none⟩ ∧ n = l.length ∧ g < w.heap.size ∧ w.cell? ⟨g, k, none⟩ = some (.string l[k]) := by
  obtain ⟨b, hb, hn, hc⟩ := h.block k hk
  have h0 := hc k hk 0 _ rfl
  rw [Nat.mul_one, Nat.add_zero] at h0
  exact ⟨b, hb, hn, World.block_lt_of_cell? w _ h0, h0⟩
set_option maxHeartbeats 4000000 in
theorem among_any (v : Value) (l : List ByteArray) (s : ByteArray) (w : World) (hl : SR strC 1 w v l) : Calls Tryz.prog 141 #[v, .string s] w fun e w' => e = .returned (.bool (amoS l s)) ∧ Ext w w' := by
  obtain ⟨base, cap, rfl⟩ := hl.form
  have hll := hl.le
  have HL := Lib.hid hl
  have HA : Hid (amoS l s = l.any fun x => x.toList == s.toList) := Lib.hid rfl
  clear hl
  go_enter Tryz.func141, Tryz.ntmps141
  go_upto_region 2 with (fail)
  go_loopw [5] (fun kv wr => ∃ k : Nat, kv = .int .i64 k ∧ k ≤ l.length ∧ Hid ((l.take k).any (fun x => x.toList == s.toList) = false) ∧ Hid (Ext w wr)) (fun kv _ => l.length - (iof kv).toNat)
  case atStart => exact ⟨0, rfl, Nat.zero_le _, Lib.hid rfl, Lib.hid (Ext.refl _)⟩
  case round =>
    rename World => wo
    obtain ⟨k, rfl, hk, HD, HX⟩ := hrel
    by_cases hkl : k < l.length
    · obtain ⟨g, rfl, -, hg, d0⟩ := str_at (HL.out.ext HX.out) k hkl
      have HTK : Hid (l.take (k + 1) = l.take k ++ [l[k]]) := Lib.hid (List.take_succ_eq_append_getElem hkl)
      have HIN : Hid (l[k] ∈ l) := Lib.hid (List.getElem_mem hkl)
      generalize l[k] = x at *
      cases he : (x.toList == s.toList) with
      | true =>
        have HR : Hid (amoS l s = true) := Lib.hid (by rw [HA.out]; exact List.any_eq_true.2 ⟨x, HIN.out, he⟩)
        go_wp2_with (fail)
        go_ret
        exact ⟨by rw [HR.out]; rfl, HX.out.trans (by with_reducible repeat (first | exact Ext.refl _ | assumption | apply Ext.drewN | apply Ext.drew | apply Ext.alloc | (refine Ext.setCell ?_ (by simp <;> omega) _) | (refine Ext.trans ?_ (by assumption))))⟩
      | false =>
        have HN : Hid ((l.take (k + 1)).any (fun x => x.toList == s.toList) = false) := Lib.hid (by rw [HTK.out, List.any_append, HD.out]; simp [he])
        go_wp2_with (fail)
        exact ⟨⟨k + 1, by simp, by omega, HN, Lib.hid (HX.out.trans (by with_reducible repeat (first | exact Ext.refl _ | assumption | apply Ext.drewN | apply Ext.drew | apply Ext.alloc | (refine Ext.setCell ?_ (by simp <;> omega) _) | (refine Ext.trans ?_ (by assumption)))))⟩, by simp [iof]; omega⟩
    · obtain rfl : k = l.length := by omega
      have HR : Hid (amoS l s = false) := Lib.hid (by rw [HA.out, ← HD.out, List.take_length])
      go_wp2_with (fail)
      go_ret
      exact ⟨by rw [HR.out]; rfl, HX.out⟩
set_option maxHeartbeats 4000000 in
theorem seenW_any (p : Nat) (v : Value) (l : List ByteArray) (s : ByteArray) (w : World) (hp : w.cell? ⟨p, 25, none⟩ = some v) (hl : SR strC 1 w v l) : Calls Tryz.prog 92 #[.pointer (some ⟨p, 0, none⟩), .string s] w fun e w' => e = .returned (.bool (amoS l s)) ∧ Ext w w' := by
  obtain ⟨base, cap, rfl⟩ := hl.form
  have hll := hl.le
  have HL := Lib.hid hl
  have HP := Lib.hid hp
  have HPL := Lib.hid (World.block_lt_of_cell? w _ hp)
  have HA : Hid (amoS l s = l.any fun x => x.toList == s.toList) := Lib.hid rfl
  clear hl hp
  go_enter Tryz.func92, Tryz.ntmps92
  go_upto_region 2 with (fail)
  go_loopw [5] (fun kv wr => ∃ k : Nat, kv = .int .i64 k ∧ k ≤ l.length ∧ Hid ((l.take k).any (fun x => x.toList == s.toList) = false) ∧ Hid (Ext w wr)) (fun kv _ => l.length - (iof kv).toNat)
  case atStart => exact ⟨0, rfl, Nat.zero_le _, Lib.hid rfl, Lib.hid (Ext.refl _)⟩
  case round =>
    rename World => wo
    obtain ⟨k, rfl, hk, HD, HX⟩ := hrel
    have p0 := (HX.out.cells.1 _ _ HPL.out).trans HP.out
    have pl := Nat.lt_of_lt_of_le HPL.out HX.out.size
    by_cases hkl : k < l.length
    · obtain ⟨g, hga, -, hg, d0⟩ := str_at (HL.out.ext HX.out) k hkl
      rw [hga] at p0
      clear hga
      have HTK : Hid (l.take (k + 1) = l.take k ++ [l[k]]) := Lib.hid (List.take_succ_eq_append_getElem hkl)
      have HIN : Hid (l[k] ∈ l) := Lib.hid (List.getElem_mem hkl)
      generalize l[k] = x at *
      cases he : (x.toList == s.toList) with
      | true =>
        have HR : Hid (amoS l s = true) := Lib.hid (by rw [HA.out]; exact List.any_eq_true.2 ⟨x, HIN.out, he⟩)
        go_wp2_with (fail)
        go_ret
        exact ⟨by rw [HR.out]; rfl, HX.out.trans (by with_reducible repeat (first | exact Ext.refl _ | assumption | apply Ext.drewN | apply Ext.drew | apply Ext.alloc | (refine Ext.setCell ?_ (by simp <;> omega) _) | (refine Ext.trans ?_ (by assumption))))⟩
      | false =>
        have HN : Hid ((l.take (k + 1)).any (fun x => x.toList == s.toList) = false) := Lib.hid (by rw [HTK.out, List.any_append, HD.out]; simp [he])
        go_wp2_with (fail)
        exact ⟨⟨k + 1, by simp, by omega, HN, Lib.hid (HX.out.trans (by with_reducible repeat (first | exact Ext.refl _ | assumption | apply Ext.drewN | apply Ext.drew | apply Ext.alloc | (refine Ext.setCell ?_ (by simp <;> omega) _) | (refine Ext.trans ?_ (by assumption)))))⟩, by simp [iof]; omega⟩
    · obtain rfl : k = l.length := by omega
      have HR : Hid (amoS l s = false) := Lib.hid (by rw [HA.out, ← HD.out, List.take_length])
      go_wp2_with (fail)
      go_ret
      exact ⟨by rw [HR.out]; rfl, HX.out⟩
end Go.Proofs.YteomcpplajeidaaGreat
