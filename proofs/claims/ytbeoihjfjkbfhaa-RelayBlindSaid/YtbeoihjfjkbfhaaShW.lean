/-
  strings.Clone; relay.shuffled. Condition: each text has at most 4000 bytes.
-/
import Derived.Shelf.Strconv.Clone
import Derived.Test.YtbeoihjfjkbfhaaShV
namespace Go.Proofs.Ytbeoihjfjkbfhaa
set_option linter.unusedVariables false
set_option linter.unusedSimpArgs false
open Go.Shelf
def cloneS_ren : Go.Shelf.Ren := ⟨fun | 316 => 45 | n => n, fun | 9 => 9 | 3 => 3 | 4 => 4 | 37 => 51 | 0 => 0 | 127 => 98 | 5 => 5 | n => n, fun | n => n⟩
theorem cloneS : Go.Proofs.LaysM.n316 Try.prog cloneS_ren := {
  mixed := by kernel_rfl
  f316 := Try.func45.trans (congrArg some (by kernel_rfl))
  t0 := Try.underlying0
  a0 := Try.isAgg0
  z0 := Try.sizeOf0
  v0 := Try.zeroValue0
  t3 := Try.underlying3
  a3 := Try.isAgg3
  z3 := Try.sizeOf3
  v3 := Try.zeroValue3
  t4 := Try.underlying4
  a4 := Try.isAgg4
  z4 := Try.sizeOf4
  v4 := Try.zeroValue4
  t9 := Try.underlying9
  a9 := Try.isAgg9
  z9 := Try.sizeOf9
  v9 := Try.zeroValue9
  t37 := Try.underlying51
  a37 := Try.isAgg51
  z37 := Try.sizeOf51
  v37 := Try.zeroValue51
  t127 := Try.underlying98
  a127 := Try.isAgg98
  z127 := Try.sizeOf98
  v127 := Try.zeroValue98
  t5 := Try.underlying5
  a5 := Try.isAgg5
  z5 := Try.sizeOf5
  v5 := Try.zeroValue5
  i0 := by kernel_rfl
  i3 := by kernel_rfl
  i4 := by kernel_rfl
  i5 := by kernel_rfl
  i9 := by kernel_rfl
  i37 := by kernel_rfl
  i127 := by kernel_rfl }
theorem clone_any (s : ByteArray) (w : World) (h : s.size ≤ 4000) : Calls Try.prog 37 #[.string s] w fun e w' => e = .returned (.string s) ∧ Ext w w' := by
  have hC : Calls Try.prog 45 #[.string s] w fun e w' => e = .returned (.string s) ∧ Ext w w' := Any.stringslite_Clone cloneS s w (by omega)
  go_enter Try.func37, Try.ntmps37
  go_wp2_with (go_at_call 45; (with_reducible refine hC.mono ?_); rintro e w1 ⟨rfl, hx⟩)
  go_ret
  exact ⟨rfl, hx⟩
open Go.RowKit Go.Sort
/-- A question. -/
structure Qn where
  who : Int
  text : ByteArray
def Qn.cs (q : Qn) : List Value := [.int .i64 q.who, .string q.text]
def Qn.v (q : Qn) : Value := .agg q.cs.toArray
theorem celS_len (x : ByteArray) : (celS x).length = 1 ∧ ∀ c ∈ celS x, c.oneCell' = true := ⟨rfl, by simp [celS, Value.oneCell']⟩
theorem append_str {ops : Array Oper} {rest : List Oper} {o : Oper} {a : Act} {Q : Exit → Act → World → Prop} {w : World} (hgd : o.guard = none) (s x : Operand)
    (ho : o.op = .call { callee := .builtin .append, args := #[s, x], argTypes := #[38, 38] }) (B : Nat) (v : Value) (zs : List ByteArray) (hs : a.eval s = v) (hF : w.ownsRow B 9 1 v zs.length (zs.flatMap celS))
    (p : Nat) (i : ByteArray) (hx : a.eval x = .slice (some ⟨p, 0, none⟩) 1 1) (hp : w.heap[p]? = some (.cells #[.string i] 9)) (hn : zs.length < 1000000) (hB : B ≤ w.heap.size)
    (h : ∀ g cap w', w'.ownsRow B 9 1 (.slice (some ⟨g, 0, none⟩) (zs.length + 1) cap) (zs ++ [i]).length ((zs ++ [i]).flatMap celS) → Below B w w' → wpList Try.prog ops Q rest (a.put o.dst (.slice (some ⟨g, 0, none⟩) (zs.length + 1) cap)) w') : wpList Try.prog ops Q (o :: rest) a w :=
  append_one (cs := celS) (z := .string ⟨#[]⟩) celS_len 38 9 16 Try.underlying38 (by kernel_rfl) (by rfl) (by decide) (by decide) hgd s x ho B v zs hs hF p i hx hp hn hB h
theorem grown_ext {w0 w w' : World} {v : Value} {B E sz n : Nat} {xs : List Value} (h : Ext w0 w) (hr : w.ownsRow B E sz v n xs) (hB : w0.heap.size ≤ B) (hg : w.grownBy w' v.ownBlock) : Ext w0 w' :=
  Below.trans h ⟨hg.os, hg.tape, hg.output, hg.size, fun k hk => hg.block k (by have := h.size; omega) (fun e => by have := (hr.lt k e.symm).1; omega)⟩
theorem qn_at {w : World} {base : Option Addr} {n c : Nat} {l : List Qn} (h : SR Qn.cs 2 w (.slice base n c) l) (k : Nat) (hk : k < l.length) :
    ∃ b, base = some ⟨b, 0, none⟩ ∧ b < w.heap.size ∧ w.cell? ⟨b, k * 2, none⟩ = some (.int .i64 l[k].who) ∧ w.cell? ⟨b, k * 2 + 1, none⟩ = some (.string l[k].text) := by
  obtain ⟨b, h1, h2, h3⟩ := h.block k hk
  have h4 := h3 k hk 0 _ rfl
  exact ⟨b, h1, World.block_lt_of_cell? w _ h4, h4, h3 k hk 1 _ rfl⟩
set_option maxRecDepth 100000 in
set_option maxHeartbeats 4000000 in
theorem shuffled_any (v : Value) (l : List Qn) (w : World) (hl : SR Qn.cs 2 w v l) (hs : ∀ q ∈ l, q.text.size ≤ 4000) :
    Calls Try.prog 33 #[v] w fun e w' => ∃ u, e = .returned u ∧ w'.ownsRow w.heap.size 9 1 u l.length ((srtT (l.map (·.text))).flatMap celS) ∧ Ext w w' := by
  obtain ⟨base, cp, rfl⟩ := hl.form; have hle := hl.le
  have HS := Lib.hid hs
  clear hs
  obtain ⟨B, hB⟩ : ∃ B, B = w.heap.size := ⟨_, rfl⟩
  rw [← hB]
  have HB := Lib.hid hB
  clear hB
  go_enter Try.func33, Try.ntmps33
  go_wp2_with (fail)
  go_loopw [3, 8] (fun u k wr => ∃ i : Nat, k = .int .i64 i ∧ i ≤ l.length ∧ Hid (wr.ownsRow B 9 1 u i (((l.take i).map (·.text)).flatMap celS)) ∧ Ext w wr) (fun _ k _ => l.length - (iof k).toNat)
  case atStart => exact ⟨0, rfl, Nat.zero_le _, Lib.hid (World.ownsRow_nil _ _ _ _), Ext.refl _⟩
  case round =>
    obtain ⟨i, rfl, hi, HR, hx⟩ := hrel
    by_cases hil : i < l.length
    · obtain ⟨b, rfl, hbl, c0, c1⟩ := qn_at (hl.ext hx) i hil
      have hts := HS.out l[i] (List.getElem_mem _)
      have HN : Hid ((l.take (i + 1)).map (·.text) = (l.take i).map (·.text) ++ [l[i].text]) := Lib.hid (by rw [List.take_succ_eq_append_getElem hil, List.map_append]; rfl)
      have hti : ((l.take i).map (·.text)).length = i := by simp; omega
      generalize l[i].who = qw at *
      generalize l[i].text = qt at *
      generalize (l.take i).map (·.text) = ts at *
      go_upto_region 5 with (refine wpList_store_row (hgd := rfl) 66 (.tmp 5) (.tmp 11) rfl wr.heap.size (by rfl) #[.int .i64 qw, .string qt] (by rfl) #[.int .i64 0, .string ⟨#[]⟩] 66 (alloc_at wr _) (by rfl) (by kernel_rfl) (by simp [Value.oneCell']) ?_)
      have hxa : Ext wr ((wr.alloc (.cells #[.int .i64 0, .string ⟨#[]⟩] 66)).setRow wr.heap.size #[.int .i64 qw, .string qt]) := below_setRow (Ext.alloc (Ext.refl _) _) (Nat.le_refl _) _
      have hp : ((wr.alloc (.cells #[.int .i64 0, .string ⟨#[]⟩] 66)).setRow wr.heap.size #[.int .i64 qw, .string qt]).heap[wr.heap.size]? = some (.cells #[.int .i64 qw, .string qt] 66) := setRow_heap _ _ _ _ _ _ (alloc_at wr _)
      have HRa : Hid (World.ownsRow _ B 9 1 u3 ts.length (ts.flatMap celS)) := Lib.hid (row_ext (hti.symm ▸ HR.out) hxa)
      have HTI := Lib.hid hti
      clear hti HR c0 c1
      obtain ⟨p, hpe⟩ : ∃ p, p = wr.heap.size := ⟨_, rfl⟩
      rw [← hpe] at hp hxa HRa ⊢
      generalize (wr.alloc (.cells #[.int .i64 0, .string ⟨#[]⟩] 66)).setRow p #[.int .i64 qw, .string qt] = W1 at *
      clear hpe
      have p1 := cell_of_row W1 p 1 _ _ _ hp
      have hBW : B ≤ W1.heap.size := by have := hx.size; have := hxa.size; have := HB.out; omega
      have HBW := Lib.hid hBW
      have hpl := Rg.lt_of_heap hp
      clear hp hBW
      simp only [Act.put, List.setIfInBounds_toArray, List.set_cons_zero, List.set_cons_succ]
      go_wp2_with (first
        | (go_at_call 37; (with_reducible refine (clone_any _ _ hts).mono ?_); rintro e w2 ⟨rfl, hx2⟩)
        | (refine append_str rfl (.tmp 12) (.tmp 16) rfl B _ ts rfl (row_ext HRa.out (hx2.trans (Ext.alloc (Ext.refl _) _))) w2.heap.size qt (by rfl) (alloc_at w2 _) (by have := HTI.out; omega) (by have := HBW.out; have := hx2.size; simp; omega) ?_; intro g cap w3 hr3 hb3))
      have hlen : (ts ++ [qt]).length = i + 1 := by have := HTI.out; simp; omega
      refine ⟨⟨i + 1, by simp, by omega, Lib.hid ?_, Ext.below_trans (hx.trans (hxa.trans (hx2.trans (Ext.alloc (Ext.refl _) _)))) (HB.out ▸ hb3)⟩, by simp [iof]; omega⟩
      rw [HN.out]
      rw [hlen] at hr3
      exact hr3
    · obtain rfl : i = l.length := by omega
      have hR2 := HR.out
      rw [List.take_length, show l.length = (l.map (·.text)).length by simp] at hR2
      have hso := sortT_own B u3 (l.map (·.text)) wr hR2 (fun s hs => by
        obtain ⟨q, hq, rfl⟩ := List.mem_map.1 hs
        exact HS.out q hq) (by simpa using hle)
      have HSO := Lib.hid hso; have HR2 := Lib.hid hR2
      clear hso hR2 HR
      go_wp2_with (go_at_call 38; (with_reducible refine HSO.out.mono ?_); rintro e w2 ⟨rfl, hr2, hg2⟩)
      go_ret
      refine ⟨_, rfl, ?_, grown_ext hx HR2.out (Nat.le_of_eq HB.out.symm) hg2⟩
      rw [List.length_map] at hr2
      exact hr2
end Go.Proofs.Ytbeoihjfjkbfhaa
