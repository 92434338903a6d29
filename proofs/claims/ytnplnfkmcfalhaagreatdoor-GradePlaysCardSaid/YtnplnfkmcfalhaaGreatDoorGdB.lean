/-
  where, IsFinal, assessors and Changed of a book. Condition: what the book holds.
-/
import Derived.Test.YtnplnfkmcfalhaaGreatDoorGdA
import Derived.Laws.CopyOwn
import Derived.Deep.Upon
import Derived.ArgAppend
namespace Go.Proofs.YtnplnfkmcfalhaaGreatDoor
set_option linter.unusedVariables false
set_option linter.unusedSimpArgs false
open Go.RowKit

def celI (i : Int) : List Value := [.int .i64 i]
theorem celI_len : ∀ x : Int, (celI x).length = 1 ∧ ∀ c ∈ celI x, c.oneCell' = true := fun x => ⟨rfl, by simp [celI, Value.oneCell']⟩
theorem celI_map (zs : List Int) : zs.flatMap celI = zs.map (Value.int .i64) := by
  induction zs with
  | nil => rfl
  | cons z zs ih => rw [List.flatMap_cons, ih]; rfl
theorem ird_row {B : Nat} {w : World} {v : Value} {zs : List Int} (h : w.ownsRow B 3 1 v zs.length (zs.flatMap celI)) (hz : ∀ z ∈ zs, OkI z) (hl : zs.length ≤ 1000000) : IRd w v zs := by
  have h1 := SR.of_row (cs := celI) (fun x => (celI_len x).1) h hl
  obtain ⟨base, cap, rfl, h2, h3⟩ := h1
  exact ⟨base, cap, rfl, by omega, hz, h3.imp id fun ⟨b, hb, hc⟩ => ⟨b, 0, hb, fun k hk => by have := hc k hk 0 _ rfl; simpa using this⟩⟩
theorem append_int {ops : Array Oper} {rest : List Oper} {o : Oper} {a : Act} {Q : Exit → Act → World → Prop} {w : World} (hgd : o.guard = none) (s x : Operand)
    (ho : o.op = .call { callee := .builtin .append, args := #[s, x], argTypes := #[60, 60] }) (B : Nat) (v : Value) (zs : List Int) (hs : a.eval s = v) (hF : w.ownsRow B 3 1 v zs.length (zs.flatMap celI))
    (p : Nat) (i : Int) (hx : a.eval x = .slice (some ⟨p, 0, none⟩) 1 1) (hp : w.heap[p]? = some (.cells #[.int .i64 i] 3)) (hn : zs.length < 1000000) (hB : B ≤ w.heap.size)
    (h : ∀ g cap w', w'.ownsRow B 3 1 (.slice (some ⟨g, 0, none⟩) (zs.length + 1) cap) (zs ++ [i]).length ((zs ++ [i]).flatMap celI) → Below B w w' → wpList Tryz.prog ops Q rest (a.put o.dst (.slice (some ⟨g, 0, none⟩) (zs.length + 1) cap)) w') : wpList Tryz.prog ops Q (o :: rest) a w :=
  append_one (cs := celI) (z := .int .i64 0) celI_len 60 3 8 Tryz.underlying60 (by kernel_rfl) (by rfl) (by decide) (by decide) hgd s x ho B v zs hs hF p i hx hp hn hB h
def iof : Value → Int
  | .int _ n => n
  | _ => 0
@[simp] theorem iof_int (k : IntKind) (n : Int) : iof (.int k n) = n := rfl
theorem boolF_get {κ : Type} (f : κ → Bool) (k : κ) : (boolF f k).getD (.bool false) = .bool (f k) := by
  unfold boolF
  cases f k <;> rfl

set_option maxRecDepth 100000 in
theorem where_any (g : Gd) (w : World) : Calls Tryz.prog 28 #[g.v] w fun e w' => e = .returned (encP g.pl) ∧ Ext w w' := by
  unfold Gd.v Gd.pl encP
  obtain ⟨g0, g1, g2, g3, g4, g5⟩ := g
  simp only
  go_enter Tryz.func28, Tryz.ntmps28
  go_wp2_with (fail)
  exact bodyPost_ret (v := .agg #[.int .i64 g1, .int .i64 g2, .string g3, .int .i64 g0]) (by simp [results, Tryz.results28, go_sem]) rfl ⟨rfl, Ext.alloc (Ext.alloc (Ext.refl _) _) _⟩

set_option maxRecDepth 100000 in
theorem IsFinal_any (p : Nat) (b : Bk) (F : List Nat) (bid : Int) (hbid : OkI bid) (w : World) (h : BR w p b F) :
    Calls Tryz.prog 12 #[.pointer (some ⟨p, 0, none⟩), .int .i64 bid] w fun e w' => e = .returned (.bool (b.fin bid)) ∧ w' = w := by
  obtain ⟨ml, mc, md, mg, mf, cv, hp, -, -, -, -, -, -, h5, -⟩ := h
  have hrun := h5.look keI Tryz.underlying35 (z := .bool false) (by rfl) hbid false
  simp only [boolF_get, Bool.false_eq_true, if_false] at hrun
  have c4 := cell_of_row w p 4 _ _ _ hp
  go_enter Tryz.func12, Tryz.ntmps12
  go_wp2_with (fail)
  go_ret
  exact ⟨rfl, rfl⟩

/-- The assessors of a bidder that have been found, and the duties that are still to come. -/
structure AsI (dut : Dy → Bool) (bid : Int) (l : List Int) (left : List (Dy × Value)) : Prop where
  mem : ∀ a, dut ⟨a, bid⟩ = true ↔ a ∈ l ∨ ∃ v, (⟨a, bid⟩, v) ∈ left
  nd : l.Nodup
  apart : ∀ a ∈ l, ∀ v, (⟨a, bid⟩, v) ∉ left
  keys : (left.map (·.1)).Nodup
theorem AsI.start {w : World} {bd : Nat} {m : List (Dy × Value)} {dut : Dy → Bool} (bid : Int) (hm : MP encD OkD w bd m) (hf : ∀ k, m.lookup k = boolF dut k) : AsI dut bid [] m := by
  refine ⟨fun a => ?_, List.Pairwise.nil, by simp, hm.nodup⟩
  have h := hf ⟨a, bid⟩
  unfold boolF at h
  constructor
  · intro hd
    rw [hd] at h
    exact .inr ⟨_, lookup_mem h⟩
  · rintro (h1 | ⟨v, hv⟩)
    · cases h1
    · rw [mem_lookup hm.nodup hv] at h
      cases hd : dut ⟨a, bid⟩
      · rw [hd] at h; cases h
      · rfl
theorem AsI.step {dut : Dy → Bool} {bid : Int} {l : List Int} {pre post : List (Dy × Value)} {x : Dy} {v : Value} (h : AsI dut bid l (pre ++ (x, v) :: post)) : AsI dut bid (if x.bid = bid then l ++ [x.ass] else l) (pre ++ post) := by
  have hk := h.keys
  rw [List.map_append, List.map_cons] at hk
  have hnx : ∀ v', (x, v') ∉ pre ++ post := fun v' hm => by
    rw [List.nodup_append, List.nodup_cons] at hk
    rcases List.mem_append.1 hm with hm | hm
    · exact hk.2.2 x (List.mem_map.2 ⟨_, hm, rfl⟩) x List.mem_cons_self rfl
    · exact hk.2.1.1 (List.mem_map.2 ⟨_, hm, rfl⟩)
  have hsub : ∀ y, y ∈ pre ++ post → y ∈ pre ++ (x, v) :: post := fun y hy => by
    rcases List.mem_append.1 hy with hy | hy
    · exact List.mem_append_left _ hy
    · exact List.mem_append_right _ (List.mem_cons_of_mem _ hy)
  have hinv : ∀ y, y ∈ pre ++ (x, v) :: post → y = (x, v) ∨ y ∈ pre ++ post := fun y hy => by
    rcases List.mem_append.1 hy with hy | hy
    · exact .inr (List.mem_append_left _ hy)
    · rcases List.mem_cons.1 hy with hy | hy
      · exact .inl hy
      · exact .inr (List.mem_append_right _ hy)
  have hkeys : ((pre ++ post).map (·.1)).Nodup := by
    rw [List.map_append]
    refine List.Sublist.nodup ?_ hk
    exact List.Sublist.append (List.Sublist.refl _) (List.sublist_cons_self _ _)
  obtain ⟨x1, x2⟩ := x
  by_cases hx : x2 = bid
  · rw [if_pos hx]
    subst hx
    have hx1 : x1 ∉ l := fun hm => h.apart x1 hm v (List.mem_append_right _ List.mem_cons_self)
    refine ⟨fun a => (h.mem a).trans ?_, ?_, fun a ha v' hm => ?_, hkeys⟩
    · rw [List.mem_append, List.mem_singleton]
      constructor
      · rintro (h1 | ⟨v', h1⟩)
        · exact .inl (.inl h1)
        · rcases hinv _ h1 with h2 | h2
          · injection h2 with h2
            injection h2 with h2
            exact .inl (.inr h2)
          · exact .inr ⟨v', h2⟩
      · rintro ((h1 | h1) | ⟨v', h1⟩)
        · exact .inl h1
        · subst h1
          exact .inr ⟨v, List.mem_append_right _ List.mem_cons_self⟩
        · exact .inr ⟨v', hsub _ h1⟩
    · rw [List.nodup_append]
      exact ⟨h.nd, by simp, fun a ha b hb => by rw [List.mem_singleton] at hb; subst hb; exact fun e => hx1 (e ▸ ha)⟩
    · rcases List.mem_append.1 ha with ha | ha
      · exact h.apart a ha v' (hsub _ hm)
      · rw [List.mem_singleton] at ha
        subst ha
        exact hnx v' hm
  · rw [if_neg hx]
    refine ⟨fun a => (h.mem a).trans ?_, h.nd, fun a ha v' hm => h.apart a ha v' (hsub _ hm), hkeys⟩
    constructor
    · rintro (h1 | ⟨v', h1⟩)
      · exact .inl h1
      · rcases hinv _ h1 with h2 | h2
        · injection h2 with h2
          injection h2 with h2 h3
          exact absurd h3.symm hx
        · exact .inr ⟨v', h2⟩
    · rintro (h1 | ⟨v', h1⟩)
      · exact .inl h1
      · exact .inr ⟨v', hsub _ h1⟩

set_option maxRecDepth 100000 in
set_option maxHeartbeats 1000000 in
theorem assessors_any (p : Nat) (b : Bk) (F : List Nat) (bid : Int) (w : World) (h : BR w p b F) :
    Calls Tryz.prog 26 #[.pointer (some ⟨p, 0, none⟩), .int .i64 bid] w fun e w' => ∃ r l, e = .returned r ∧ IRd w' r l ∧ AsI b.dut bid l [] ∧ ((∀ a ∈ l, OkI a) ∧ l.length ≤ 1000) ∧ Ext w w' := by
  have hB := h
  obtain ⟨ml, mc, md, mg, mf, cv, hp, -, -, -, -, h3, -, -, -, -, -, -, hdb⟩ := h
  have c2 := cell_of_row w p 2 _ _ _ hp
  cases md with
  | none =>
    have hr := run_range_nilMap (P := Tryz.prog) w 37 57 4 Tryz.underlying37
    have hn := fun ty => run_next_nilMap (P := Tryz.prog) w ty 0 0 #[]
    have h3' : ∀ k, boolF b.dut k = none := h3
    have HF : Hid (∀ a, b.dut ⟨a, bid⟩ = false) := Lib.hid fun a => by
      have := h3' ⟨a, bid⟩
      unfold boolF at this
      cases hd : b.dut ⟨a, bid⟩
      · rfl
      · rw [hd] at this; cases this
    clear h3 h3' hB hp hdb
    go_enter Tryz.func26, Tryz.ntmps26
    go_upto_region 3 with (fail)
    go_loopw [5] (fun o wr => o = .slice none 0 0 ∧ wr = w.alloc (.mapIter none 0 #[] 0)) (fun _ _ => 0)
    case atStart => exact ⟨rfl, rfl⟩
    case round =>
      obtain ⟨rfl, rfl⟩ := hrel
      go_wp2_with (fail)
      go_ret
      exact ⟨_, [], rfl, ⟨none, 0, rfl, by simp, by simp, .inl rfl⟩, ⟨fun a => by simp [HF.out a], List.Pairwise.nil, by simp, List.Pairwise.nil⟩, ⟨by simp, by simp⟩, Ext.alloc (Ext.refl _) _⟩
  | some bd =>
    obtain ⟨m, hm, hf⟩ := h3
    have HS := Lib.hid (AsI.start bid hm hf)
    have hlen := hdb.len hm
    clear hdb
    have HG := Lib.hid hm.gd
    clear hf hB hp
    go_enter Tryz.func26, Tryz.ntmps26
    go_upto_region 3 with (at_range; go_loud (refine wpList_range rfl _ 37 rfl 57 4 Tryz.underlying37 bd m (by rfl) hm ?_; intro w1 hrg hx1 hs1))
    go_frame
    have HS1 := Lib.hid hs1; clear hs1
    clear c2 hm
    obtain ⟨r, hr⟩ : ∃ r, r = w.heap.size := ⟨_, rfl⟩
    rw [← hr] at hrg ⊢
    have HRR := Lib.hid hr; clear hr
    go_loopw [5] (fun o wr => ∃ (l : List Int) (left : List (Dy × Value)), RG encD OkD wr bd r m left ∧ wr.ownsRow w1.heap.size 3 1 o l.length (l.flatMap celI) ∧ Hid (AsI b.dut bid l left) ∧ (∀ a ∈ l, OkI a) ∧ l.length + left.length ≤ m.length ∧ Ext w wr) (fun _ wr => wr.rangeLeft bd r)
    case atStart => exact ⟨[], m, hrg, World.ownsRow_nil _ _ _ _, HS, by simp, by simp, hx1⟩
    case round =>
      obtain ⟨l, left, hrgr, hrow, HI, hok, hll, hx⟩ := hrel
      go_upto_region 4 with (at_next; go_loud (refine wpList_next rfl _ rfl bd r m left (by rfl) hrgr ?_ ?_))
      · intro hl
        subst hl
        go_wp2_with (fail)
        go_ret
        exact ⟨_, l, rfl, ird_row hrow hok (by simp at hll; omega), HI.out, ⟨hok, by simp at hll; omega⟩, hx⟩
      · intro pre x v post w2 hl hrg2 hg2 hs2 hen
        subst hl
        have HSZ := Lib.hid hs2; clear hs2
        have hxo := HG.out (x, v) (hrgr.2.1 _ (List.mem_append_right _ List.mem_cons_self))
        have hI2 := Lib.hid HI.out.step
        have hll2 : l.length + (pre ++ post).length + 1 ≤ m.length := by
          simp only [List.length_append, List.length_cons] at hll ⊢
          omega
        have HLE := Lib.hid (hrgr.left_eq)
        have hrow2 := World.ownsRow.kept hrow hg2 (by
          cases ho : u5.ownBlock with
          | none => exact .inl rfl
          | some g => have := (hrow.lt g ho).1; have := HS1.out; have := HRR.out; exact .inr (by simp; omega))
        have hx2 : Ext w w2 := Below.trans hx ⟨hg2.os, hg2.tape, hg2.output, hg2.size, fun k hk => hg2.block k (by have := hx.size; omega) (by have := HRR.out; simp; omega)⟩
        clear hrgr hx hrow HI hll
        obtain ⟨x1, x2⟩ := x
        obtain ⟨hx1', hx2'⟩ := hxo
        simp only at hI2 hx1' hx2'
        have hms : w2.rangeLeft bd r < wr.rangeLeft bd r := by
          rw [HLE.out, hrg2.left_eq]
          simp
        by_cases hb : x2 = bid
        · rw [if_pos hb] at hI2
          have Hb := Lib.hid hb; clear hb
          have hB2 : w1.heap.size ≤ w2.heap.size := by have := hrg2.lt; have := HS1.out; have := HRR.out; omega
          have hnw : ((w2.alloc (.cells #[.int .i64 x1, .int .i64 x2] 57)).alloc (.cells #[.int .i64 x1] 3)).heap[w2.heap.size + 1]? = some (.cells #[.int .i64 x1] 3) := by
            have := heap_alloc_new (w2.alloc (.cells #[.int .i64 x1, .int .i64 x2] 57)) (.cells #[.int .i64 x1] 3)
            rwa [World.size_alloc] at this
          have Hbb : Hid ((x2 == bid) = true) := Lib.hid (by simpa using Hb.out)
          have hbe := Hbb.out
          go_wp2_with (at_builtin; go_loud (refine append_int rfl _ _ rfl w1.heap.size _ l (by rfl) (row_ext hrow2 (Ext.alloc (Ext.alloc (Ext.refl _) _) _)) (w2.heap.size + 1) x1 (by rfl) hnw (by omega) (by simp; omega) ?_; intro g cap' w3 hr3 hb3))
          have hw3 : Ext w w3 := Below.trans (hx2.trans (Ext.alloc (Ext.alloc (Ext.refl _) _) _)) ⟨hb3.os, hb3.tape, hb3.output, hb3.size, fun k hk => hb3.block k (by have := HS1.out; have := HRR.out; omega)⟩
          have hrg3 : RG encD OkD w3 bd r m (pre ++ post) := by
            have h1 := hrg2.ext (Ext.alloc (Ext.alloc (Ext.refl w2) (.cells #[.int .i64 x1, .int .i64 x2] 57)) (.cells #[.int .i64 x1] 3))
            have hbd : bd < w1.heap.size := hrg.1.lt
            have hr1 : r < w1.heap.size := hrg.lt
            exact h1.of_blocks (hb3.block _ hbd) (hb3.block _ hr1)
          refine ⟨⟨l ++ [x1], pre ++ post, hrg3, by simpa using hr3, hI2, fun a ha => ?_, by simp at hll2 ⊢; omega, hw3⟩, ?_⟩
          · rcases List.mem_append.1 ha with ha | ha
            · exact hok a ha
            · rw [List.mem_singleton] at ha
              subst ha
              exact hx1'
          · rw [hrg3.left_eq, ← hrg2.left_eq]
            exact hms
        · rw [if_neg hb] at hI2
          go_wp2_with (fail)
          refine ⟨⟨l, pre ++ post, hrg2.ext (Ext.alloc (Ext.refl _) _), row_ext hrow2 (Ext.alloc (Ext.refl _) _), hI2, hok, by omega, hx2.trans (Ext.alloc (Ext.refl _) _)⟩, ?_⟩
          rw [(hrg2.ext (Ext.alloc (Ext.refl _) _)).left_eq, ← hrg2.left_eq]
          exact hms
end Go.Proofs.YtnplnfkmcfalhaaGreatDoor
