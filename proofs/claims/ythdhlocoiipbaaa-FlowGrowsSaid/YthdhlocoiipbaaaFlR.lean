/-
  The reference's small functions: mod, find, among, Ints, Same, SameAll. Conditions: what the slices hold.
-/
import Derived.Test.YthdhlocoiipbaaaFlC
namespace Go.Proofs.Ythdhlocoiipbaaa
set_option linter.unusedVariables false
set_option linter.unusedSimpArgs false
open Go.RowKit

theorem tmod_bd (n : Int) {m : Int} (hm : 0 < m) : -m < n.tmod m ∧ n.tmod m < m := by
  have h1 := Int.tmod_lt_of_pos n hm
  have h2 := Int.tmod_lt_of_pos (-n) hm
  rw [Int.neg_tmod] at h2
  exact ⟨by omega, h1⟩
theorem modZ_eq (n m : Int) : (n.tmod m + m) % m = n % m := by
  rw [Int.add_emod_right]
  conv => rhs; rw [← Int.tmod_add_mul_tdiv n m]
  rw [Int.add_mul_emod_self_left]
theorem modZ_bd (n : Int) {m : Int} (hm : 0 < m) : 0 ≤ n % m ∧ n % m < m :=
  ⟨Int.emod_nonneg _ (by omega), Int.emod_lt_of_pos _ hm⟩

set_option maxHeartbeats 400000 in
theorem mod_any (n m : Int) (hm : 0 < m) (hm2 : m ≤ 1000000) (h : OkI n) (w : World) :
    Calls Try.prog 25 #[.int .i64 n, .int .i64 m] w fun e w' => e = .returned (.int .i64 (n % m)) ∧ w = w' := by
  obtain ⟨h1, h2⟩ := h
  have hm0 : ¬ m = 0 := by omega
  have b := tmod_bd n hm
  have HE := Lib.hid (modZ_eq n m)
  go_enter Try.func25, Try.ntmps25
  go_wp2
  go_ret
  exact ⟨by rw [HE.out]; rfl, rfl⟩

/-- The place of an Id, or -1. -/
def FI (xs : List It) (id z : Int) : Prop := (z = -1 ∧ fnd xs id = none) ∨ ∃ k, ∃ hk : k < xs.length, z = k ∧ fnd xs id = some xs[k] ∧ ∀ i (h : i < k), xs[i].id ≠ id
theorem fnd_at {xs : List It} {id : Int} {k : Nat} (hk : k < xs.length) (h1 : xs[k].id = id) (h2 : ∀ i (h : i < k), xs[i].id ≠ id) : fnd xs id = some xs[k] := by
  unfold fnd
  rw [List.find?_eq_some_iff_getElem]
  exact ⟨by simpa using h1, k, hk, rfl, fun j hj => by simpa using h2 j hj⟩

set_option maxRecDepth 100000 in
set_option maxHeartbeats 1000000 in
theorem find_any (v : Value) (xs : List It) (id : Int) (w : World) (h : SQ It.cs 3 w v xs) :
    Calls Try.prog 28 #[v, .int .i64 id] w fun e w' => ∃ z, e = .returned (.int .i64 z) ∧ FI xs id z ∧ w' = w := by
  obtain ⟨base, cap, rfl⟩ := h.form
  have hle := h.le
  go_enter Try.func28, Try.ntmps28
  go_wp2_with (fail)
  go_loopw [5] (fun i wr => ∃ k : Nat, i = .int .i64 k ∧ k ≤ xs.length ∧ (∀ i (h : i < k) (hi : i < xs.length), xs[i].id ≠ id) ∧ wr = w) (fun i _ => xs.length - (iof i).toNat)
  case atStart => exact ⟨0, rfl, by omega, by intro i h; omega, rfl⟩
  case round =>
    obtain ⟨k, rfl, hk, hne, rfl⟩ := hrel
    by_cases hlt : k < xs.length
    · obtain ⟨b, off, rfl, -, c0, -, -⟩ := it_at h k hlt
      have HN := Lib.hid hne; clear hne
      by_cases hid : xs[k].id = id
      · have Hid := Lib.hid hid
        rw [hid] at c0
        clear hid
        go_wp2_with (fail)
        go_ret
        exact ⟨_, rfl, .inr ⟨k, hlt, rfl, fnd_at hlt Hid.out (fun i hi => HN.out i hi (by omega)), fun i hi => HN.out i hi (by omega)⟩, rfl⟩
      · go_wp2_with (fail)
        refine ⟨⟨k + 1, by simp, by omega, ?_, trivial⟩, by simp; omega⟩
        intro i hi hil
        by_cases e : i = k
        · subst e; exact hid
        · exact HN.out i (by omega) hil
    · obtain rfl : k = xs.length := by omega
      have HN := Lib.hid hne; clear hne
      go_wp2_with (fail)
      go_ret
      refine ⟨_, rfl, .inl ⟨rfl, ?_⟩, rfl⟩
      rw [fnd_none]
      intro hm
      obtain ⟨x, hx, hxe⟩ := List.mem_map.1 hm
      obtain ⟨i, hi, rfl⟩ := List.getElem_of_mem hx
      exact HN.out i hi hi hxe

set_option maxRecDepth 100000 in
set_option maxHeartbeats 1000000 in
theorem among_any (v : Value) (l : List Int) (x : Int) (w : World) (hl : IRd w v l) :
    Calls Try.prog 38 #[v, .int .i64 x] w fun e w' => e = .returned (.bool (l.contains x)) ∧ w' = w := by
  obtain ⟨A, c, rfl, hlen, -, hcell⟩ := hl
  go_enter Try.func38, Try.ntmps38
  go_wp2_with (fail)
  go_loopw [5] (fun i wr => ∃ k : Nat, k ≤ l.length ∧ i = .int .i64 k ∧ Hid (l.contains x = (l.drop k).contains x) ∧ wr = w) (fun i _ => l.length - (iof i).toNat)
  case atStart => exact ⟨0, Nat.zero_le _, rfl, Lib.hid rfl, rfl⟩
  case round =>
    obtain ⟨k, hk, rfl, Hi, rfl⟩ := hrel
    by_cases hlt : k < l.length
    · obtain ⟨b, off, rfl, hc⟩ := hcell.resolve_left (by intro e; rw [e] at hlt; simp at hlt)
      have c0 := hc k hlt
      clear hc hcell
      have hs : (l.drop k).contains x = (decide (x = l[k]) || (l.drop (k + 1)).contains x) := by
        rw [List.drop_eq_getElem_cons hlt, List.contains_cons]
        rfl
      have Hs := Lib.hid hs; clear hs
      by_cases hp : l[k] = x
      · have Hp := Lib.hid hp
        rw [hp] at c0
        clear hp
        go_wp2_with (fail)
        go_ret
        exact ⟨by rw [Hi.out, Hs.out, decide_eq_true Hp.out.symm]; rfl, rfl⟩
      · have Hp := Lib.hid hp
        go_wp2_with (fail)
        exact ⟨⟨k + 1, by omega, by simp, Lib.hid (by rw [Hi.out, Hs.out, decide_eq_false (fun e => Hp.out e.symm)]; rfl), trivial⟩, by simp; omega⟩
    · have hkn : k = l.length := by omega
      subst hkn
      go_wp2_with (fail)
      go_ret
      exact ⟨by rw [Hi.out, List.drop_length]; rfl, rfl⟩

set_option maxRecDepth 100000 in
set_option maxHeartbeats 1000000 in
theorem Ints_any (v u : Value) (l m : List Int) (w : World) (hl : IRd w v l) (hm : IRd w u m) :
    Calls Try.prog 14 #[v, u] w fun e w' => e = .returned (.bool (decide (l = m))) ∧ Ext w w' := by
  obtain ⟨A, c, rfl, hlen, -, hcell⟩ := hl
  obtain ⟨A', c', rfl, hlen', -, hcell'⟩ := hm
  by_cases hlm : l.length = m.length
  · rw [← hlm]
    have HL := Lib.hid hlm; clear hlm
    obtain ⟨n, hn⟩ : ∃ n, l.length = n := ⟨_, rfl⟩
    rw [hn] at hlen ⊢
    go_enter Try.func14, Try.ntmps14
    go_wp2_with (fail)
    go_loopw [5] (fun i wr => ∃ k : Nat, k ≤ n ∧ i = .int .i64 k ∧ Hid (l.take k = m.take k) ∧ Ext w wr) (fun i _ => n - (iof i).toNat)
    case atStart => exact ⟨0, Nat.zero_le _, rfl, Lib.hid rfl, Ext.refl _⟩
    case round =>
      obtain ⟨k, hk, rfl, Hi, hx⟩ := hrel
      by_cases hlt : k < n
      · have h1 : k < l.length := by omega
        have h2 : k < m.length := by have := HL.out; omega
        obtain ⟨b, off, rfl, hc⟩ := hcell.resolve_left (by intro e; rw [e] at h1; simp at h1)
        obtain ⟨b', off', rfl, hc'⟩ := hcell'.resolve_left (by intro e; rw [e] at h2; simp at h2)
        have c0 := (hx.cells.1 _ _ (World.block_lt_of_cell? w _ (hc k h1))).trans (hc k h1)
        have c1 := (hx.cells.1 _ _ (World.block_lt_of_cell? w _ (hc' k h2))).trans (hc' k h2)
        clear hc hc' hcell hcell'
        by_cases hp : l[k] = m[k]
        · have Hp := Lib.hid hp
          rw [hp] at c0
          clear hp
          go_upto_region 6 with (fail)
          go_quiet (fail)
          go_wp2_with (fail)
          refine ⟨⟨k + 1, by omega, by simp, Lib.hid ?_, Ext.drewN hx _⟩, by simp; omega⟩
          rw [List.take_succ_eq_append_getElem h1, List.take_succ_eq_append_getElem h2, Hi.out, Hp.out]
        · have Hp := Lib.hid hp
          go_upto_region 6 with (fail)
          go_quiet (fail)
          go_wp2_with (fail)
          go_ret
          exact ⟨by rw [decide_eq_false (fun e => Hp.out (by simp only [e]))]; rfl, Ext.drewN hx _⟩
      · obtain rfl : k = n := by omega
        go_wp2_with (fail)
        go_ret
        refine ⟨?_, hx⟩
        have ht := Hi.out
        have := HL.out
        rw [List.take_of_length_le (by omega), List.take_of_length_le (by omega)] at ht
        rw [decide_eq_true ht]
        rfl
  · have hne : ¬ l = m := fun e => hlm (by rw [e])
    go_enter Try.func14, Try.ntmps14
    go_wp2_with (fail)
    go_ret
    rw [decide_eq_false hne]
    exact ⟨rfl, Ext.refl _⟩

/-- Two messages are alike. -/
def sameM (a b : Ms) : Bool := decide (a.src = b.src ∧ a.dst = b.dst ∧ a.tm = b.tm ∧ a.its = b.its)

set_option maxRecDepth 100000 in
set_option maxHeartbeats 2000000 in
theorem Same_any (a b : Ms) (w : World) (ha : a.good w) (hb : b.good w) :
    Calls Try.prog 23 #[a.v, b.v] w fun e w' => e = .returned (.bool (sameM a b)) ∧ Ext w w' := by
  obtain ⟨a0, a1, a2, av, l⟩ := a
  obtain ⟨b0, b1, b2, bv, m⟩ := b
  obtain ⟨-, -, -, A, c, ha, hlen, -, hcell⟩ := ha
  obtain ⟨-, -, -, A', c', hb, hlen', -, hcell'⟩ := hb
  simp only at ha hb
  subst ha hb
  simp only [Ms.v]
  unfold sameM
  simp only
  simp only at hlen hlen' hcell hcell'
  by_cases h0 : a0 = b0 ∧ a1 = b1 ∧ a2 = b2 ∧ l.length = m.length
  · obtain ⟨rfl, rfl, rfl, hlm⟩ := h0
    have hd : decide (a0 = a0 ∧ a1 = a1 ∧ a2 = a2 ∧ l = m) = decide (l = m) := by simp
    rw [hd]
    clear hd
    rw [← hlm]
    have HL := Lib.hid hlm; clear hlm
    obtain ⟨n, hn⟩ : ∃ n, l.length = n := ⟨_, rfl⟩
    rw [hn] at hlen ⊢
    go_enter Try.func23, Try.ntmps23
    go_wp2_with (fail)
    have N := news [.cells #[.int .i64 a0, .int .i64 a1, .int .i64 a2, .slice A n c] 48, .cells #[.int .i64 a0, .int .i64 a1, .int .i64 a2, .slice A' n c'] 48] w
    have n1 := N 0 (by simp)
    have n2 := N 1 (by simp)
    have hW : Ext w _ := exts [.cells #[.int .i64 a0, .int .i64 a1, .int .i64 a2, .slice A n c] 48, .cells #[.int .i64 a0, .int .i64 a1, .int .i64 a2, .slice A' n c'] 48] w
    simp only [List.foldl_cons, List.foldl_nil] at n1 n2 hW
    clear N
    generalize hW2 : (w.alloc (.cells #[.int .i64 a0, .int .i64 a1, .int .i64 a2, .slice A n c] 48)).alloc (.cells #[.int .i64 a0, .int .i64 a1, .int .i64 a2, .slice A' n c'] 48) = W2 at *
    go_loopw [5] (fun i wr => ∃ k : Nat, k ≤ n ∧ i = .int .i64 k ∧ Hid (l.take k = m.take k) ∧ Ext W2 wr) (fun i _ => n - (iof i).toNat)
    case atStart => exact ⟨0, Nat.zero_le _, rfl, Lib.hid rfl, Ext.refl _⟩
    case round =>
      obtain ⟨k, hk, rfl, Hi, hx⟩ := hrel
      have q1 := cell_of_row wr w.heap.size 3 _ _ _ ((hx.block _ (Rg.lt_of_heap n1)).trans n1)
      have q2 := cell_of_row wr (w.heap.size + 1) 3 _ _ _ ((hx.block _ (Rg.lt_of_heap n2)).trans n2)
      by_cases hlt : k < n
      · have h1 : k < l.length := by omega
        have h2 : k < m.length := by have := HL.out; omega
        obtain ⟨b, off, rfl, hc⟩ := hcell.resolve_left (by intro e; rw [e] at h1; simp at h1)
        obtain ⟨b', off', rfl, hc'⟩ := hcell'.resolve_left (by intro e; rw [e] at h2; simp at h2)
        have c0 := ((hW.trans hx).cells.1 _ _ (World.block_lt_of_cell? w _ (hc k h1))).trans (hc k h1)
        have c1 := ((hW.trans hx).cells.1 _ _ (World.block_lt_of_cell? w _ (hc' k h2))).trans (hc' k h2)
        clear hc hc' hcell hcell' n1 n2
        by_cases hp : l[k] = m[k]
        · have Hp := Lib.hid hp
          rw [hp] at c0
          clear hp
          go_upto_region 6 with (fail)
          go_quiet (fail)
          go_wp2_with (fail)
          refine ⟨⟨k + 1, by omega, by simp, Lib.hid ?_, Ext.drewN hx _⟩, by simp; omega⟩
          rw [List.take_succ_eq_append_getElem h1, List.take_succ_eq_append_getElem h2, Hi.out, Hp.out]
        · have Hp := Lib.hid hp
          go_upto_region 6 with (fail)
          go_quiet (fail)
          go_wp2_with (fail)
          go_ret
          exact ⟨by rw [decide_eq_false (fun e => Hp.out (by simp only [e]))]; rfl, Ext.drewN (hW.trans hx) _⟩
      · obtain rfl : k = n := by omega
        go_wp2_with (fail)
        go_ret
        refine ⟨?_, hW.trans hx⟩
        have ht := Hi.out
        have := HL.out
        rw [List.take_of_length_le (by omega), List.take_of_length_le (by omega)] at ht
        rw [decide_eq_true ht]
        rfl
  · have hne : ¬ (a0 = b0 ∧ a1 = b1 ∧ a2 = b2 ∧ l = m) := fun e => h0 ⟨e.1, e.2.1, e.2.2.1, by rw [e.2.2.2]⟩
    rw [decide_eq_false hne]
    have H0 := Lib.hid h0; clear h0 hne
    go_enter Try.func23, Try.ntmps23
    by_cases h1 : a0 = b0
    · subst h1
      by_cases h1 : a1 = b1
      · subst h1
        by_cases h1 : a2 = b2
        · subst h1
          have h4 : ¬ l.length = m.length := fun e => H0.out ⟨rfl, rfl, rfl, e⟩
          go_wp2_with (fail)
          go_ret
          exact ⟨rfl, Ext.alloc (Ext.alloc (Ext.refl _) _) _⟩
        · go_wp2_with (fail)
          go_ret
          exact ⟨rfl, Ext.alloc (Ext.alloc (Ext.refl _) _) _⟩
      · go_wp2_with (fail)
        go_ret
        exact ⟨rfl, Ext.alloc (Ext.alloc (Ext.refl _) _) _⟩
    · go_wp2_with (fail)
      go_ret
      exact ⟨rfl, Ext.alloc (Ext.alloc (Ext.refl _) _) _⟩

end Go.Proofs.Ythdhlocoiipbaaa
