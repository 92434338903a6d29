/-
  The reference's Made, walked. Conditions: the argument reads as a list of ints.
-/
import Derived.Test.YtgkdeknfmmgbdaaMd
import Derived.Outline
namespace Go.Proofs.Ytgkdeknfmmgbdaa
set_option linter.unusedVariables false
set_option linter.unusedSimpArgs false
open Go.RowKit

abbrev opTab : Array Value := #[.string ⟨#[43]⟩, .string ⟨#[45]⟩, .string ⟨#[42]⟩, .string ⟨#[47]⟩, .string ⟨#[109, 105, 110]⟩, .string ⟨#[109, 97, 120]⟩]
theorem opTab_at {w : World} {p : Nat} (h : w.heap[p]? = some (.cells opTab 9)) (i : Nat) (hi : i < 6) : w.cell? ⟨p, i, none⟩ = some (.string (opNm i)) := by
  rw [cell_of_row w p _ _ _ _ h]
  match i, hi with
  | 0, _ => rfl
  | 1, _ => rfl
  | 2, _ => rfl
  | 3, _ => rfl
  | 4, _ => rfl
  | 5, _ => rfl
theorem nameTab_at {w : World} {p : Nat} (h : w.heap[p]? = some (.cells #[.string priceB, .string lowB, .string qualB, .string ⟨#[100, 97, 121, 115]⟩] 9)) (i : Nat) (hi : i < 4) : w.cell? ⟨p, i, none⟩ = some (.string (nameB4 i)) := by
  rw [cell_of_row w p _ _ _ _ h]
  match i, hi with
  | 0, _ => rfl
  | 1, _ => rfl
  | 2, _ => rfl
  | 3, _ => rfl


/-- The stack after j numbers. -/
def madeN (ls : List Int) (j : Nat) : List Ex := (ls.take j).foldl madeStep []
theorem madeN_succ (ls : List Int) (j : Nat) (h : j < ls.length) : madeN ls (j + 1) = madeStep (madeN ls j) ls[j] := by
  unfold madeN
  rw [List.take_add_one, List.getElem?_eq_getElem h, Option.toList_some, List.foldl_append]
  rfl
theorem madeStep_num {st : List Ex} {z n : Int} (h : n = modZ z 1000) (hr : n % 10 = 0 ∨ n % 10 = 1) : madeStep st z = st ++ [numE (quickZ (n / 10 % 13 - 3) (1 + n / 10 / 13 % 4))] := by
  subst h
  exact if_pos hr
theorem madeStep_name {st : List Ex} {z n : Int} (h : n = modZ z 1000) (hr : n % 10 = 2 ∨ n % 10 = 3 ∨ n % 10 = 4) : madeStep st z = st ++ [nameE (nameB4 (n / 10 % 4).toNat)] := by
  subst h
  unfold madeStep
  dsimp only
  rw [if_neg (by omega), if_pos hr]
theorem madeStep_op {r : List Ex} {a b : Ex} {z n : Int} (h : n = modZ z 1000) (hr : 5 ≤ n % 10) : madeStep (r ++ [a, b]) z = r ++ [opE' (opNm (n / 10 % 6).toNat) a b] := by
  subst h
  unfold madeStep
  dsimp only
  rw [if_neg (by omega), if_neg (by omega)]
  simp
theorem madeStep_skip {st : List Ex} {z n : Int} (h : n = modZ z 1000) (hr : 5 ≤ n % 10) (hs : st.length ≤ 1) : madeStep st z = st := by
  subst h
  unfold madeStep
  dsimp only
  rw [if_neg (by omega), if_neg (by omega)]
  match st, hs with
  | [], _ => rfl
  | [_], _ => rfl

theorem quickZ_i2 (n d : Int) (hn : -1000000 ≤ n ∧ n ≤ 1000000) (hd : 1 ≤ d ∧ d ≤ 1000000) : I2 (quickZ n d) := by
  have h1 := Int.natAbs_tdiv_le_natAbs n (Int.gcd n d : Int)
  have h2 := Int.natAbs_tdiv_le_natAbs d (Int.gcd n d : Int)
  unfold quickZ
  generalize n.tdiv (Int.gcd n d : Int) = a at *
  generalize d.tdiv (Int.gcd n d : Int) = b at *
  exact ⟨by show (_ : Int) ≤ a; omega, by show a ≤ _; omega, by show (_ : Int) ≤ b; omega, by show b ≤ _; omega⟩

theorem FR.cap_le {B g n cap : Nat} {w : World} {ts : List Ex} (h : FR B w (.slice (some ⟨g, 0, none⟩) n cap) ts) : ts.length ≤ cap := by
  obtain ⟨us, hl, ho, hr⟩ := h
  rcases ho with ⟨hxs, ⟨h', _⟩ | ⟨g', cap', cur, h', hb, hg, hnc, hcm, hcs, htake⟩⟩
  · cases h'
  · injection h' with e1 _ e3
    omega

def madeFin : List Ex → Ex
  | [] => nameE priceB
  | t :: ts => madeJoin t ts
theorem madeE_fin (ls : List Int) (j : Nat) (h : ls.take 80 = ls.take j) : madeE ls = madeFin (madeN ls j) := by
  unfold madeE madeN
  rw [h]
  cases List.foldl madeStep [] (List.take j ls) <;> rfl
/-- The join of the first k. -/
def joinN : List Ex → Nat → Ex
  | t :: ts, k => madeJoin t (ts.take k)
  | [], _ => nameE priceB
theorem madeJoin_snoc (t : Ex) (ts : List Ex) (u : Ex) : madeJoin t (ts ++ [u]) = opE' addB (madeJoin t ts) u := by
  induction ts generalizing t with
  | nil => rfl
  | cons a ts ih => exact ih _
theorem madeJoin_take (t : Ex) (ts : List Ex) (k : Nat) (h : k < ts.length) : madeJoin t (ts.take (k + 1)) = opE' addB (madeJoin t (ts.take k)) ts[k] := by
  rw [List.take_add_one, List.getElem?_eq_getElem h, Option.toList_some, madeJoin_snoc]
theorem two_op {s : ByteArray} {a b : Ex} (ha : twoB a = true) (hb : twoB b = true) : twoB (opE' s a b) = true := by simp [twoB, twoL, ha, hb]
theorem madeStep_two (st : List Ex) (z : Int) (h : ∀ t ∈ st, twoB t = true) : ∀ t ∈ madeStep st z, twoB t = true := by
  obtain ⟨n, hn⟩ : ∃ n, n = modZ z 1000 := ⟨_, rfl⟩
  have hb := modZ_bd z (m := 1000) (by omega)
  rw [← hn] at hb
  rcases (show (n % 10 = 0 ∨ n % 10 = 1) ∨ (n % 10 = 2 ∨ n % 10 = 3 ∨ n % 10 = 4) ∨ 5 ≤ n % 10 by omega) with hr | hr | hr
  · rw [madeStep_num hn hr]
    intro t ht
    rcases List.mem_append.1 ht with ht | ht
    · exact h t ht
    · rw [List.mem_singleton.1 ht]; rfl
  · rw [madeStep_name hn hr]
    intro t ht
    rcases List.mem_append.1 ht with ht | ht
    · exact h t ht
    · rw [List.mem_singleton.1 ht]; rfl
  · rcases Nat.lt_or_ge 1 st.length with h2 | h2
    · obtain ⟨i, hi⟩ : ∃ i, st.length = i + 2 := ⟨st.length - 2, by omega⟩
      have hst : st = st.take i ++ [st[i]'(by omega), st[i + 1]'(by omega)] := by
        conv => lhs; rw [← List.take_append_drop i st]
        rw [List.drop_eq_getElem_cons (by omega), List.drop_eq_getElem_cons (by omega), List.drop_eq_nil_of_le (by omega)]
      have ha := h _ (List.getElem_mem (show i < st.length by omega))
      have hb := h _ (List.getElem_mem (show i + 1 < st.length by omega))
      rw [hst, madeStep_op hn hr]
      intro t ht
      rcases List.mem_append.1 ht with ht | ht
      · exact h t (List.mem_of_mem_take ht)
      · rw [List.mem_singleton.1 ht]; exact two_op ha hb
    · rw [madeStep_skip hn hr h2]; exact h
theorem madeN_two (ls : List Int) (j : Nat) : ∀ t ∈ madeN ls j, twoB t = true := by
  unfold madeN
  generalize ls.take j = l
  have key : ∀ (l : List Int) (st : List Ex), (∀ t ∈ st, twoB t = true) → ∀ t ∈ l.foldl madeStep st, twoB t = true := by
    intro l
    induction l with
    | nil => intro st h; exact h
    | cons z l ih => intro st h; exact ih _ (madeStep_two st z h)
  exact key l [] (fun t h => absurd h List.not_mem_nil)
theorem madeJoin_two (t : Ex) (ts : List Ex) (h : twoB t = true) (hs : ∀ u ∈ ts, twoB u = true) : twoB (madeJoin t ts) = true := by
  induction ts generalizing t with
  | nil => exact h
  | cons a ts ih => exact ih _ (two_op h (hs a List.mem_cons_self)) (fun u hu => hs u (List.mem_cons_of_mem _ hu))
theorem madeE_two (ls : List Int) : twoB (madeE ls) = true := by
  rw [madeE_fin ls 80 rfl]
  have h := madeN_two ls 80
  generalize madeN ls 80 = st at *
  match st with
  | [] => rfl
  | t :: ts => exact madeJoin_two t ts (h t List.mem_cons_self) (fun u hu => h u (List.mem_cons_of_mem _ hu))
theorem set5_far' {w : World} {p : Nat} {c0 c1 c2 c3 c4 : Value} (b o : Nat) (hb : ¬ b = p) :
    (((((w.setCell ⟨p, 0, none⟩ c0).setCell ⟨p, 1, none⟩ c1).setCell ⟨p, 2, none⟩ c2).setCell ⟨p, 3, none⟩ c3).setCell ⟨p, 4, none⟩ c4).cell? ⟨b, o, none⟩ = w.cell? ⟨b, o, none⟩ := by
  have h3 : ¬ p = b := fun e => hb e.symm
  go_simp
theorem set5_heap' {w : World} {p : Nat} {d0 d1 d2 d3 d4 c0 c1 c2 c3 c4 : Value} {t : TypeId} (h : w.heap[p]? = some (.cells #[d0, d1, d2, d3, d4] t)) :
    (((((w.setCell ⟨p, 0, none⟩ c0).setCell ⟨p, 1, none⟩ c1).setCell ⟨p, 2, none⟩ c2).setCell ⟨p, 3, none⟩ c3).setCell ⟨p, 4, none⟩ c4).heap[p]? = some (.cells #[c0, c1, c2, c3, c4] t) := by
  simp [World.setCell, Array.getElem?_modify, h]
theorem row5 {w : World} {p : Nat} {c0 c1 c2 c3 c4 : Value} {t : TypeId} (h : w.heap[p]? = some (.cells #[c0, c1, c2, c3, c4] t)) :
    w.cell? ⟨p, 0, none⟩ = some c0 ∧ w.cell? ⟨p, 1, none⟩ = some c1 ∧ w.cell? ⟨p, 2, none⟩ = some c2 ∧ w.cell? ⟨p, 3, none⟩ = some c3 ∧ w.cell? ⟨p, 4, none⟩ = some c4 ∧ (∀ i, w.frozen? ⟨p, i, none⟩ = false) ∧ p < w.heap.size := by
  obtain ⟨h1, h2, h3⟩ := Rg.cells_of h
  exact ⟨h1 0, h1 1, h1 2, h1 3, h1 4, h2, h3⟩

set_option maxRecDepth 100000 in
set_option maxHeartbeats 4000000 in
theorem Made_any (ls : List Int) (w : World) (v : Value) (hv : IRd w v ls) : Calls Try.prog 14 #[v] w fun e w' => ∃ u, e = .returned u ∧ Ext w w' ∧ Rd All w' (madeE ls) u := by
  obtain ⟨A, cap, rfl, hlen, hrange, hc⟩ := hv
  go_enter Try.func14, Try.ntmps14
  go_wp2_with (fail)
  have hx0 : Ext w ((w.alloc (.cells #[.string ⟨#[]⟩, .int .i64 0, .int .i64 0, .string ⟨#[]⟩, .slice none 0 0] 29)).alloc (.cells opTab 9)) := (by with_reducible repeat (first | exact Ext.refl _ | assumption | apply Ext.drewN | apply Ext.drew | apply Ext.alloc | (refine Ext.setCell ?_ (by simp <;> omega) _) | (refine Ext.trans ?_ (by assumption))))
  have hR : ((w.alloc (.cells #[.string ⟨#[]⟩, .int .i64 0, .int .i64 0, .string ⟨#[]⟩, .slice none 0 0] 29)).alloc (.cells opTab 9)).heap[w.heap.size]? = some (.cells #[.string ⟨#[]⟩, .int .i64 0, .int .i64 0, .string ⟨#[]⟩, .slice none 0 0] 29) := by
    rw [Below.heap_alloc _ _ _ (by simp)]; exact block_new rfl
  have hT : ((w.alloc (.cells #[.string ⟨#[]⟩, .int .i64 0, .int .i64 0, .string ⟨#[]⟩, .slice none 0 0] 29)).alloc (.cells opTab 9)).heap[w.heap.size + 1]? = some (.cells opTab 9) := block_new (by simp)
  generalize ((w.alloc (.cells #[.string ⟨#[]⟩, .int .i64 0, .int .i64 0, .string ⟨#[]⟩, .slice none 0 0] 29)).alloc (.cells opTab 9)) = we at *
  have hr0 : w.heap.size ≤ w.heap.size + 1 := by omega
  have HR := Lib.hid hR
  have HT := Lib.hid hT
  have HC := Lib.hid hc
  have HRG := Lib.hid hrange
  have hre : w.heap.size < we.heap.size := Rg.lt_of_heap hR
  have hle : (ls.length : Int) ≤ 9223372036854775807 := by omega
  clear hR hT hc hrange
  go_loopw [3, 5] (fun l k wr => ∃ j : Nat, k = .int .i64 j ∧ j ≤ ls.length ∧ j ≤ 80 ∧ FR we.heap.size wr l (madeN ls j) ∧ Hid ((madeN ls j).length ≤ j) ∧ Ext we wr) (fun _ k _ => 80 - (intOf k).toNat)
  case atStart => exact ⟨0, by go_num, Nat.zero_le _, by omega, FR.nil _ _, Lib.hid (by simp [madeN]), Ext.refl _⟩
  case round =>
    obtain ⟨j, rfl, hj, hj80, hF, hlj, hx⟩ := hrel
    have HF := Lib.hid hF
    clear hF
    by_cases hgo : j < ls.length ∧ j < 80
    · obtain ⟨hlt, h80⟩ := hgo
      have hj81 : (j : Int) ≤ 79 := by omega
      have hne : ¬ ls = [] := by intro e; rw [e] at hlt; simp at hlt
      obtain ⟨b, off, rfl, hc⟩ := HC.out.resolve_left hne
      have hcj := hc j hlt
      have hbw := World.block_lt_of_cell? w _ hcj
      have hcr := ((hx0.trans hx).cells.1 _ _ hbw).trans hcj
      have HM := Lib.hid (Mod_any ls[j] 1000 (by omega) (by omega) (HRG.out _ (List.getElem_mem hlt)).1 (HRG.out _ (List.getElem_mem hlt)).2)
      have hbd := modZ_bd ls[j] (m := 1000) (by omega)
      obtain ⟨n, hn⟩ : ∃ n, n = modZ ls[j] 1000 := ⟨_, rfl⟩
      rw [← hn] at HM hbd
      have HN := Lib.hid hn
      clear hn hc hcj HC
      obtain ⟨n0, n1⟩ := hbd
      have hs := madeN_succ ls j hlt
      have HS := Lib.hid hs
      clear hs
      generalize madeN ls j = st at *
      generalize ls[j] = z at *
      rcases (show (n % 10 = 0 ∨ n % 10 = 1) ∨ (n % 10 = 2 ∨ n % 10 = 3 ∨ n % 10 = 4) ∨ 5 ≤ n % 10 by omega) with hr | hr | hr
      · have HS' := Lib.hid (HS.out.trans (madeStep_num HN.out hr))
        clear HS HN
        have HK := Lib.hid (Make_any (n / 10 % 13 - 3) (1 + n / 10 / 13 % 4) ⟨by omega, by omega⟩ ⟨by omega, by omega⟩)
        have HI := Lib.hid (quickZ_i2 (n / 10 % 13 - 3) (1 + n / 10 / 13 % 4) ⟨by omega, by omega⟩ ⟨by omega, by omega⟩)
        generalize quickZ (n / 10 % 13 - 3) (1 + n / 10 / 13 % 4) = q at *
        obtain ⟨q1, q2⟩ := q
        go_wp2_with (first
          | (go_at_call 39; (with_reducible refine (HM.out _).mono ?_); rintro e w5 ⟨rfl, rfl⟩)
          | (go_at_call 40; (with_reducible refine (HK.out _).mono ?_); rintro e w5 ⟨rfl, hb5⟩)
          | (at_builtin; refine append_tree rfl (.tmp 79) (.tmp 82) rfl we.heap.size _ st (by rfl) (HF.out.ext (by with_reducible repeat (first | exact Ext.refl _ | assumption | apply Ext.drewN | apply Ext.drew | apply Ext.alloc | (refine Ext.setCell ?_ (by simp <;> omega) _) | (refine Ext.trans ?_ (by assumption))))) (w5.heap.size + 1) (leafV numB (q1, q2) nilB) (numE (q1, q2)) (by rfl) (block_new (by simp)) (Rd.leaf HI.out) (by have := hlj.out; omega) (by have := hx.size; have := hb5.size; simp; omega) ?_; intro g cap6 w6 hF6 hb6))
        all_goals
          go_roundw
          case rel =>
            have h1 : Ext wr ((w5.alloc (.cells #[.int .i64 q1, .int .i64 q2] 26)).alloc (.cells (cellsV (leafV numB (q1, q2) nilB)).toArray 29)) := (by with_reducible repeat (first | exact Ext.refl _ | assumption | apply Ext.drewN | apply Ext.drew | apply Ext.alloc | (refine Ext.setCell ?_ (by simp <;> omega) _) | (refine Ext.trans ?_ (by assumption))))
            have hl := hlj.out
            exact ⟨j + 1, by go_num, by omega, by omega, by rw [HS'.out]; simpa using hF6, Lib.hid (by rw [HS'.out, List.length_append, List.length_singleton]; omega), Below.trans (Ext.trans hx h1) hb6⟩
          case measure => simp [intOf]; omega
      · have HS' := Lib.hid (HS.out.trans (madeStep_name HN.out hr))
        clear HS HN
        have i0 : 0 ≤ n / 10 % 4 := by omega
        have i1 : n / 10 % 4 < 4 := by omega
        go_wp2_with (first
          | (go_at_call 39; (with_reducible refine (HM.out _).mono ?_); rintro e w5 ⟨rfl, rfl⟩)
          | (go_at_call 41; (with_reducible refine (Names_any _).mono ?_); rintro e w5 ⟨pn, rfl, hpn, hhn, hb5⟩; have hcn := nameTab_at hhn (n / 10 % 4).toNat (by omega); have hpl := Rg.lt_of_heap hhn)
          | (at_builtin; refine append_tree rfl (.tmp 88) (.tmp 95) rfl we.heap.size _ st (by rfl) (HF.out.ext (by with_reducible repeat (first | exact Ext.refl _ | assumption | apply Ext.drewN | apply Ext.drew | apply Ext.alloc | (refine Ext.setCell ?_ (by simp <;> omega) _) | (refine Ext.trans ?_ (by assumption))))) w5.heap.size (leafV nameB (0, 0) (nameB4 (n / 10 % 4).toNat)) (nameE (nameB4 (n / 10 % 4).toNat)) (by rfl) (block_new (by simp)) (Rd.leaf I2.zero) (by have := hlj.out; omega) (by have := hx.size; have := hb5.size; simp; omega) ?_; intro g cap6 w6 hF6 hb6))
        all_goals
          go_roundw
          case rel =>
            have h1 : Ext wr (w5.alloc (.cells (cellsV (leafV nameB (0, 0) (nameB4 (n / 10 % 4).toNat))).toArray 29)) := (by with_reducible repeat (first | exact Ext.refl _ | assumption | apply Ext.drewN | apply Ext.drew | apply Ext.alloc | (refine Ext.setCell ?_ (by simp <;> omega) _) | (refine Ext.trans ?_ (by assumption))))
            have hl := hlj.out
            exact ⟨j + 1, by go_num, by omega, by omega, by rw [HS'.out]; simpa using hF6, Lib.hid (by rw [HS'.out, List.length_append, List.length_singleton]; omega), Below.trans (Ext.trans hx h1) hb6⟩
          case measure => simp [intOf]; omega
      · have hL := hlj.out
        rcases Nat.lt_or_ge 1 st.length with h2 | h2
        · obtain ⟨g, cap1, rfl, hg⟩ := HF.out.form (by omega)
          obtain ⟨i, hi⟩ : ∃ i, st.length = i + 2 := ⟨st.length - 2, by omega⟩
          obtain ⟨oa, a1, a2, na, ba, la, ca, hgl1, hc1, hr1⟩ := HF.out.at i (by omega)
          obtain ⟨ob, b1, b2, nb, bb, lb, cb, -, hc2, hr2⟩ := HF.out.at (i + 1) (by omega)
          obtain ⟨d0, d1, d2, d3, d4, lg⟩ := cells_at hc1 (Ext.refl _) hgl1
          obtain ⟨d5, d6, d7, d8, d9, -⟩ := cells_at hc2 (Ext.refl _) hgl1
          have HST : Hid (st = st.take i ++ [st[i]'(by omega), st[i + 1]'(by omega)]) := Lib.hid (by
            conv => lhs; rw [← List.take_append_drop i st]
            rw [List.drop_eq_getElem_cons (by omega), List.drop_eq_getElem_cons (by omega), List.drop_eq_nil_of_le (by omega)])
          generalize st[i]'(by omega) = ta at *
          generalize st[i + 1]'(by omega) = tb at *
          have r1 := Lib.hid hr1
          have r2 := Lib.hid hr2
          have k1 : ((st.length : Int) - 2).toNat = i := by omega
          have k2 : 0 ≤ (st.length : Int) - 2 := by omega
          have k3 : ((st.length : Int) - 1).toNat = i + 1 := by omega
          have k4 : 0 ≤ (st.length : Int) - 1 := by omega
          have k5 : (st.length : Int) ≤ 80 := by omega
          have k6 := HF.out.cap_le
          have h2' : (1 : Int) < (st.length : Int) := by omega
          clear hr1 hr2 hc1 hc2 hgl1
          have Hi := Lib.hid hi
          clear hi
          go_wp2_with (go_at_call 39; (with_reducible refine (HM.out _).mono ?_); rintro e w5 ⟨rfl, rfl⟩)
          have hx12 : Ext wr ((wr.alloc (.cells #[.string oa, .int .i64 a1, .int .i64 a2, .string na, .slice ba la ca] 29)).alloc (.cells #[.string ob, .int .i64 b1, .int .i64 b2, .string nb, .slice bb lb cb] 29)) := (by with_reducible repeat (first | exact Ext.refl _ | assumption | apply Ext.drewN | apply Ext.drew | apply Ext.alloc | (refine Ext.setCell ?_ (by simp <;> omega) _) | (refine Ext.trans ?_ (by assumption))))
          have hA : ((wr.alloc (.cells #[.string oa, .int .i64 a1, .int .i64 a2, .string na, .slice ba la ca] 29)).alloc (.cells #[.string ob, .int .i64 b1, .int .i64 b2, .string nb, .slice bb lb cb] 29)).heap[wr.heap.size]? = some (.cells #[.string oa, .int .i64 a1, .int .i64 a2, .string na, .slice ba la ca] 29) := by
            rw [Below.heap_alloc _ _ _ (by simp)]; exact block_new rfl
          have hB : ((wr.alloc (.cells #[.string oa, .int .i64 a1, .int .i64 a2, .string na, .slice ba la ca] 29)).alloc (.cells #[.string ob, .int .i64 b1, .int .i64 b2, .string nb, .slice bb lb cb] 29)).heap[wr.heap.size + 1]? = some (.cells #[.string ob, .int .i64 b1, .int .i64 b2, .string nb, .slice bb lb cb] 29) := block_new (by simp)
          have HFT := Lib.hid ((HF.out.ext hx12).trunc i (by have := Hi.out; omega))
          have R1 := Lib.hid (r1.out.ext hx12)
          have R2 := Lib.hid (r2.out.ext hx12)
          have hop := opTab_at ((hx.trans hx12).block _ (Rg.lt_of_heap HT.out) |>.trans HT.out) (n / 10 % 6).toNat (by omega)
          have hlo := Rg.lt_of_heap (((hx.trans hx12).block _ (Rg.lt_of_heap HT.out)).trans HT.out)
          have kv : (2 : Int) ≤ (st.length : Int) := by omega
          have kw : IntKind.i64.wrap ((st.length : Int) - 2) = (st.length : Int) - 2 := by rw [IntKind.wrap_i64]; omega
          have ku : (st.length : Int) - 2 ≤ (cap1 : Int) := by omega
          have tm : (n / 10).tmod 6 = n / 10 % 6 := Int.tmod_eq_emod_of_nonneg (by omega)
          have m0 : 0 ≤ n / 10 % 6 := by omega
          have m1 : n / 10 % 6 < 6 := by omega
          generalize ((wr.alloc (.cells #[.string oa, .int .i64 a1, .int .i64 a2, .string na, .slice ba la ca] 29)).alloc (.cells #[.string ob, .int .i64 b1, .int .i64 b2, .string nb, .slice bb lb cb] 29)) = W12 at *
          have lA := Rg.lt_of_heap hA
          have lB := Rg.lt_of_heap hB
          have cA0 : W12.cell? ⟨wr.heap.size, 0, none⟩ = some (.string oa) := by rw [cell_of_row W12 _ _ _ _ _ hA]; rfl
          have cA1 : W12.cell? ⟨wr.heap.size, 1, none⟩ = some (.int .i64 a1) := by rw [cell_of_row W12 _ _ _ _ _ hA]; rfl
          have cA2 : W12.cell? ⟨wr.heap.size, 2, none⟩ = some (.int .i64 a2) := by rw [cell_of_row W12 _ _ _ _ _ hA]; rfl
          have cA3 : W12.cell? ⟨wr.heap.size, 3, none⟩ = some (.string na) := by rw [cell_of_row W12 _ _ _ _ _ hA]; rfl
          have cA4 : W12.cell? ⟨wr.heap.size, 4, none⟩ = some (.slice ba la ca) := by rw [cell_of_row W12 _ _ _ _ _ hA]; rfl
          have cB0 : W12.cell? ⟨wr.heap.size + 1, 0, none⟩ = some (.string ob) := by rw [cell_of_row W12 _ _ _ _ _ hB]; rfl
          have cB1 : W12.cell? ⟨wr.heap.size + 1, 1, none⟩ = some (.int .i64 b1) := by rw [cell_of_row W12 _ _ _ _ _ hB]; rfl
          have cB2 : W12.cell? ⟨wr.heap.size + 1, 2, none⟩ = some (.int .i64 b2) := by rw [cell_of_row W12 _ _ _ _ _ hB]; rfl
          have cB3 : W12.cell? ⟨wr.heap.size + 1, 3, none⟩ = some (.string nb) := by rw [cell_of_row W12 _ _ _ _ _ hB]; rfl
          have cB4 : W12.cell? ⟨wr.heap.size + 1, 4, none⟩ = some (.slice bb lb cb) := by rw [cell_of_row W12 _ _ _ _ _ hB]; rfl
          have lg12 : g < W12.heap.size := Nat.lt_of_lt_of_le lg hx12.size
          clear hA hB d0 d1 d2 d3 d4 d5 d6 d7 d8 d9
          refine Rr.wp_region [(0, .y), (1, .y), (2, .y), (3, .y), (4, .y), (5, .y), (6, .y), (7, .y), (8, .y), (9, .y), (10, .y), (11, .y), (12, .m), (13, .y), (14, .z)] (fun _ => (.cells #[.string oa, .int .i64 a1, .int .i64 a2, .string na, .slice ba la ca, .string ob, .int .i64 b1, .int .i64 b2, .string nb, .slice bb lb cb] 29, fun p => .slice (some ⟨p, 0, none⟩) 2 2)) (by kernel_rfl) (by kernel_rfl) ?_
          (refine Rr.wr_y (by simp only [List.getElem?_toArray, List.getElem?_cons_succ, List.getElem?_cons_zero]; rfl) (by rfl) ?_
           apply Exists.intro
           refine ⟨fun wz hw _ => ?_, ?_⟩
           · have hcz := hw.cells.1
             go_simp
             (with_reducible exact Rg.up_value)
           simp only [Act.put, List.setIfInBounds_toArray, List.set_cons_zero, List.set_cons_succ])
          (refine Rr.wr_y (by simp only [List.getElem?_toArray, List.getElem?_cons_succ, List.getElem?_cons_zero]; rfl) (by rfl) ?_
           apply Exists.intro
           refine ⟨fun wz hw _ => ?_, ?_⟩
           · have hcz := hw.cells.1
             go_simp
             (with_reducible exact Rg.up_value)
           simp only [Act.put, List.setIfInBounds_toArray, List.set_cons_zero, List.set_cons_succ])
          (refine Rr.wr_y (by simp only [List.getElem?_toArray, List.getElem?_cons_succ, List.getElem?_cons_zero]; rfl) (by rfl) ?_
           apply Exists.intro
           refine ⟨fun wz hw _ => ?_, ?_⟩
           · have hcz := hw.cells.1
             go_simp
             (with_reducible exact Rg.up_value)
           simp only [Act.put, List.setIfInBounds_toArray, List.set_cons_zero, List.set_cons_succ])
          (refine Rr.wr_y (by simp only [List.getElem?_toArray, List.getElem?_cons_succ, List.getElem?_cons_zero]; rfl) (by rfl) ?_
           apply Exists.intro
           refine ⟨fun wz hw _ => ?_, ?_⟩
           · have hcz := hw.cells.1
             go_simp
             (with_reducible exact Rg.up_value)
           simp only [Act.put, List.setIfInBounds_toArray, List.set_cons_zero, List.set_cons_succ])
          (refine Rr.wr_y (by simp only [List.getElem?_toArray, List.getElem?_cons_succ, List.getElem?_cons_zero]; rfl) (by rfl) ?_
           apply Exists.intro
           refine ⟨fun wz hw _ => ?_, ?_⟩
           · have hcz := hw.cells.1
             go_simp
             (with_reducible exact Rg.up_value)
           simp only [Act.put, List.setIfInBounds_toArray, List.set_cons_zero, List.set_cons_succ])
          (refine Rr.wr_y (by simp only [List.getElem?_toArray, List.getElem?_cons_succ, List.getElem?_cons_zero]; rfl) (by rfl) ?_
           apply Exists.intro
           refine ⟨fun wz hw _ => ?_, ?_⟩
           · have hcz := hw.cells.1
             go_simp
             (with_reducible exact Rg.up_value)
           simp only [Act.put, List.setIfInBounds_toArray, List.set_cons_zero, List.set_cons_succ])
          (refine Rr.wr_y (by simp only [List.getElem?_toArray, List.getElem?_cons_succ, List.getElem?_cons_zero]; rfl) (by rfl) ?_
           apply Exists.intro
           refine ⟨fun wz hw _ => ?_, ?_⟩
           · have hcz := hw.cells.1
             go_simp
             (with_reducible exact Rg.up_value)
           simp only [Act.put, List.setIfInBounds_toArray, List.set_cons_zero, List.set_cons_succ])
          (refine Rr.wr_y (by simp only [List.getElem?_toArray, List.getElem?_cons_succ, List.getElem?_cons_zero]; rfl) (by rfl) ?_
           apply Exists.intro
           refine ⟨fun wz hw _ => ?_, ?_⟩
           · have hcz := hw.cells.1
             go_simp
             (with_reducible exact Rg.up_value)
           simp only [Act.put, List.setIfInBounds_toArray, List.set_cons_zero, List.set_cons_succ])
          (refine Rr.wr_y (by simp only [List.getElem?_toArray, List.getElem?_cons_succ, List.getElem?_cons_zero]; rfl) (by rfl) ?_
           apply Exists.intro
           refine ⟨fun wz hw _ => ?_, ?_⟩
           · have hcz := hw.cells.1
             go_simp
             (with_reducible exact Rg.up_value)
           simp only [Act.put, List.setIfInBounds_toArray, List.set_cons_zero, List.set_cons_succ])
          (refine Rr.wr_y (by simp only [List.getElem?_toArray, List.getElem?_cons_succ, List.getElem?_cons_zero]; rfl) (by rfl) ?_
           apply Exists.intro
           refine ⟨fun wz hw _ => ?_, ?_⟩
           · have hcz := hw.cells.1
             go_simp
             (with_reducible exact Rg.up_value)
           simp only [Act.put, List.setIfInBounds_toArray, List.set_cons_zero, List.set_cons_succ])
          (refine Rr.wr_y (by simp only [List.getElem?_toArray, List.getElem?_cons_succ, List.getElem?_cons_zero]; rfl) (by rfl) ?_
           apply Exists.intro
           refine ⟨fun wz hw _ => ?_, ?_⟩
           · have hcz := hw.cells.1
             exact up_load29 (by rfl) ((hcz _ _ lA).trans cA0) ((hcz _ _ lA).trans cA1) ((hcz _ _ lA).trans cA2) ((hcz _ _ lA).trans cA3) ((hcz _ _ lA).trans cA4)
           simp only [Act.put, List.setIfInBounds_toArray, List.set_cons_zero, List.set_cons_succ])
          (refine Rr.wr_y (by simp only [List.getElem?_toArray, List.getElem?_cons_succ, List.getElem?_cons_zero]; rfl) (by rfl) ?_
           apply Exists.intro
           refine ⟨fun wz hw _ => ?_, ?_⟩
           · have hcz := hw.cells.1
             exact up_load29 (by rfl) ((hcz _ _ lB).trans cB0) ((hcz _ _ lB).trans cB1) ((hcz _ _ lB).trans cB2) ((hcz _ _ lB).trans cB3) ((hcz _ _ lB).trans cB4)
           simp only [Act.put, List.setIfInBounds_toArray, List.set_cons_zero, List.set_cons_succ])
          refine Rr.wr_m (by simp only [List.getElem?_toArray, List.getElem?_cons_succ, List.getElem?_cons_zero]; rfl) (by rfl) (fun wz => by go_simp) (fun p hp => ?_)
          simp only [Act.put, List.setIfInBounds_toArray, List.set_cons_zero, List.set_cons_succ]
          (refine Rr.wr_y (by simp only [List.getElem?_toArray, List.getElem?_cons_succ, List.getElem?_cons_zero]; rfl) (by rfl) ?_
           apply Exists.intro
           refine ⟨fun wz hw _ => ?_, ?_⟩
           · have hcz := hw.cells.1
             go_simp
             (with_reducible exact Rg.up_value)
           simp only [Act.put, List.setIfInBounds_toArray, List.set_cons_zero, List.set_cons_succ])
          refine Rr.wr_z (fun v w' => ∃ p', v = .slice (some ⟨p', 0, none⟩) 1 1 ∧ w'.heap[p']? = some (.cells #[.string (opNm (n / 10 % 6).toNat), .int .i64 0, .int .i64 0, .string nilB, .slice (some ⟨p, 0, none⟩) 2 2] 29)) (by simp only [List.getElem?_toArray, List.getElem?_cons_succ, List.getElem?_cons_zero]; rfl) (by rfl) (fun v w1 w2 h e => by obtain ⟨p, h1, h2⟩ := h; exact ⟨p, h1, (e.block p (Rg.lt_of_heap h2)).trans h2⟩) (fun wz hw hh => ?_) (fun u2 => ?_)
          · go_simp
            exact Rr.upR_value (Ext.alloc (Ext.refl _) _) ⟨_, rfl, block_new rfl⟩
          simp only [Act.put, List.setIfInBounds_toArray, List.set_cons_zero, List.set_cons_succ]
          refine Rr.wr_nil ?_
          intro wy hy hh
          obtain ⟨p', rfl, hp'⟩ := holds_hd hh
          have hbl := hh _ (List.mem_cons_of_mem _ List.mem_cons_self)
          simp only [List.length_cons, List.length_nil, List.drop_succ_cons, List.drop_zero, Nat.reduceAdd]
          obtain ⟨hb1, hb2⟩ := hbl
          have HS' := Lib.hid (HS.out.trans ((congrArg (madeStep · z) HST.out).trans (madeStep_op HN.out hr)))
          have hlt6 : (st.take i).length = i := by rw [List.length_take]; omega
          have RP := Lib.hid (rd_pair (S := Off (.slice (some ⟨g, 0, none⟩) i cap1)) (s := opNm (n / 10 % 6).toNat) hb2 (R1.out.ext hy) (R2.out.ext hy) (fun e => by injection e with e; have e : g = p := e; omega))
          have HP := Lib.hid hp'
          have HF7 := Lib.hid (HFT.out.ext hy)
          clear hh hp' hb2 HN HS R1 R2 r1 r2 HST HFT
          refine append_tree rfl (.tmp 53) (.tmp 63) rfl we.heap.size _ (st.take i) (by rfl) HF7.out p' (.agg #[.string (opNm (n / 10 % 6).toNat), .int .i64 0, .int .i64 0, .string nilB, .slice (some ⟨p, 0, none⟩) 2 2]) (opE' (opNm (n / 10 % 6).toNat) ta tb) (by rfl) HP.out RP.out (by omega) (by have := hx.size; have := hx12.size; have := hy.size; omega) ?_
          intro g' cap' w6 hF6 hb6
          rw [hlt6] at hF6 ⊢
          go_wp2
          go_roundw
          case rel => exact ⟨j + 1, by go_num, by omega, by omega, by rw [HS'.out]; exact hF6, Lib.hid (by have := Hi.out; rw [HS'.out, List.length_append, hlt6, List.length_singleton]; omega), Below.trans (hx.trans (hx12.trans hy)) hb6⟩
          case measure => simp [intOf]; omega
        · have HS' := Lib.hid (HS.out.trans (madeStep_skip HN.out hr h2))
          obtain ⟨A1, cap1, rfl⟩ := HF.out.shape
          have h2' : ¬ (1 : Int) < (st.length : Int) := by omega
          go_wp2_with (go_at_call 39; (with_reducible refine (HM.out _).mono ?_); rintro e w5 ⟨rfl, rfl⟩)
          go_roundw
          case rel => exact ⟨j + 1, by go_num, by omega, by omega, by rw [HS'.out]; exact HF.out, Lib.hid (by rw [HS'.out]; omega), hx⟩
          case measure => simp [intOf]; omega
    · have hE := madeE_fin ls j (by
        rcases Nat.lt_or_ge j 80 with h | h
        · rw [List.take_of_length_le (by omega), List.take_of_length_le (by omega)]
        · rw [show j = 80 by omega])
      have hl80 : (madeN ls j).length ≤ 80 := by have := hlj.out; omega
      have hRr := (hx.block _ hre).trans HR.out
      obtain ⟨c0, c1, c2, c3, c4, cf, cl⟩ := row5 hRr
      have c5 := (Rg.cells_of hRr).1 5
      generalize madeN ls j = st at *
      have HE := Lib.hid hE
      clear hE hRr
      rcases st with _ | ⟨t, ts⟩
      · obtain ⟨A1, cap1, rfl⟩ := HF.out.shape
        rcases (show ((j : Int) < (ls.length : Int) ∧ ¬ (j : Int) < 80) ∨ ¬ (j : Int) < (ls.length : Int) by omega) with ⟨h1, h2⟩ | h1
        · go_wp2
          exact bodyPost_ret (v := leafV nameB (0, 0) priceB) (by simp [results, Try.results14, go_sem, c0, c1, c2, c3, c4, cf]) rfl ⟨_, rfl, (by with_reducible repeat (first | exact Ext.refl _ | assumption | apply Ext.drewN | apply Ext.drew | apply Ext.alloc | (refine Ext.setCell ?_ (by simp <;> omega) _) | (refine Ext.trans ?_ (by assumption)))), by rw [HE.out]; exact Rd.leaf I2.zero⟩
        · go_wp2
          exact bodyPost_ret (v := leafV nameB (0, 0) priceB) (by simp [results, Try.results14, go_sem, c0, c1, c2, c3, c4, cf]) rfl ⟨_, rfl, (by with_reducible repeat (first | exact Ext.refl _ | assumption | apply Ext.drewN | apply Ext.drew | apply Ext.alloc | (refine Ext.setCell ?_ (by simp <;> omega) _) | (refine Ext.trans ?_ (by assumption)))), by rw [HE.out]; exact Rd.leaf I2.zero⟩
      · obtain ⟨g, cap1, rfl, hg⟩ := HF.out.form (by simp)
        obtain ⟨op, n1, n2, nm, base, len, cc, hgl1, hc1, hr1⟩ := HF.out.at 0 (by simp)
        obtain ⟨d0, d1, d2, d3, d4, lg⟩ := cells_at hc1 (Ext.refl _) hgl1
        rw [Nat.zero_mul] at d0 d1 d2 d3 d4
        have r1 := Lib.hid (Rd.alive _ _ hr1)
        have hm : ((t :: ts).length : Int) = (ts.length : Int) + 1 := by simp
        have hm1 : (t :: ts).length = ts.length + 1 := by simp
        have hm0 : ¬ ((t :: ts).length : Int) = 0 := by omega
        have hmp : (0 : Int) < ((t :: ts).length : Int) := by omega
        have hm80 : ((t :: ts).length : Int) ≤ 80 := by omega
        have HM := Lib.hid hm1
        clear hr1 hc1 hgl1 hm hm1
        generalize (t :: ts).length = m at *
        rcases (show ((j : Int) < (ls.length : Int) ∧ ¬ (j : Int) < 80) ∨ ¬ (j : Int) < (ls.length : Int) by omega) with ⟨h1, h2⟩ | h1
        all_goals
          obtain ⟨wo, rfl⟩ : ∃ wo : World, wo = wr := ⟨_, rfl⟩
          go_wp2_with (fail)
          have hq5 : (wo.alloc (.cells #[.string op, .int .i64 n1, .int .i64 n2, .string nm, .slice base len cc] 29)).heap[wo.heap.size]? = some (.cells #[.string op, .int .i64 n1, .int .i64 n2, .string nm, .slice base len cc] 29) := block_new rfl
          have hx5 : Ext wo (wo.alloc (.cells #[.string op, .int .i64 n1, .int .i64 n2, .string nm, .slice base len cc] 29)) := (by with_reducible repeat (first | exact Ext.refl _ | assumption | apply Ext.drewN | apply Ext.drew | apply Ext.alloc | (refine Ext.setCell ?_ (by simp <;> omega) _) | (refine Ext.trans ?_ (by assumption))))
          have hr5 : Rd (fun b => ¬ b = wo.heap.size) (wo.alloc (.cells #[.string op, .int .i64 n1, .int .i64 n2, .string nm, .slice base len cc] 29)) t (.agg #[.string op, .int .i64 n1, .int .i64 n2, .string nm, .slice base len cc]) :=
            Rd.frame (fun b o ⟨_, h⟩ _ => hx5.cells.1 b o h) (fun b ⟨_, h⟩ => by omega) _ _ r1.out
          have Hq := Lib.hid hq5
          have Hr := Lib.hid hr5
          clear hq5 hr5
          have hqq : wo.heap.size ≤ wo.heap.size := Nat.le_refl _
          go_loopw [13] (fun k ws => ∃ (i : Nat) (op : ByteArray) (n1 n2 : Int) (nm : ByteArray) (base : Option Addr) (len cc : Nat), k = .int .i64 (i + 1 : Nat) ∧ i ≤ ts.length ∧ ws.heap[wo.heap.size]? = some (.cells #[.string op, .int .i64 n1, .int .i64 n2, .string nm, .slice base len cc] 29) ∧
            Rd (fun b => ¬ b = wo.heap.size) ws (madeJoin t (ts.take i)) (.agg #[.string op, .int .i64 n1, .int .i64 n2, .string nm, .slice base len cc]) ∧ Ext wo ws) (fun k _ => ts.length + 1 - (intOf k).toNat)
          case atStart => exact ⟨0, _, _, _, _, _, _, _, by go_num, Nat.zero_le _, Hq.out, Hr.out, hx5⟩
          case round =>
            obtain ⟨i, op, n1, n2, nm, base, len, cc, rfl, hi, hq, hr, hxs⟩ := hrel
            obtain ⟨ws, rfl⟩ : ∃ ws : World, ws = wr := ⟨_, rfl⟩
            have HR5 := Lib.hid hr
            have HQ5 := Lib.hid hq
            obtain ⟨e0, e1, e2, e3, e4, ef, lq⟩ := row5 hq
            clear hr hq
            rcases Nat.lt_or_ge i ts.length with hlt | hge
            · obtain ⟨ob, b1, b2, nb, bb, lb, cb, hgl2, hc2, hr2⟩ := HF.out.at (i + 1) (by rw [List.length_cons]; omega)
              rw [List.getElem_cons_succ] at hr2
              obtain ⟨d5, d6, d7, d8, d9, lg5⟩ := cells_at hc2 hxs hgl2
              have r2 : Rd (fun b => ¬ b = wo.heap.size) ws ts[i] _ := Rd.frame (fun b o ⟨_, h⟩ _ => hxs.cells.1 b o h) (fun b ⟨_, h⟩ => by omega) _ _ (Rd.alive _ _ hr2)
              have R2 := Lib.hid r2
              have HJ := Lib.hid (madeJoin_take t ts i hlt)
              have k1 : (i : Int) + 1 < (m : Int) := by have := HM.out; omega
              have k2 : (0 : Int) ≤ (i : Int) + 1 := by omega
              have k3 : ((i : Int) + 1).toNat = i + 1 := by omega
              have k4 : (i : Int) ≤ 80 := by omega
              clear r2 hr2 hc2 hgl2
              go_wp2_with (fail)
              refine Rr.wp_region [(0, .y), (1, .y), (2, .y), (3, .y), (4, .y), (5, .m), (6, .y)] (fun _ => (.cells #[.string op, .int .i64 n1, .int .i64 n2, .string nm, .slice base len cc, .string ob, .int .i64 b1, .int .i64 b2, .string nb, .slice bb lb cb] 29, fun p => .slice (some ⟨p, 0, none⟩) 2 2)) (by kernel_rfl) (by kernel_rfl) ?_
              (refine Rr.wr_y (by simp only [List.getElem?_toArray, List.getElem?_cons_succ, List.getElem?_cons_zero]; rfl) (by rfl) ?_
               apply Exists.intro
               refine ⟨fun wz hw _ => ?_, ?_⟩
               · have hcz := hw.cells.1
                 exact up_load29 (by rfl) ((hcz _ _ lq).trans e0) ((hcz _ _ lq).trans e1) ((hcz _ _ lq).trans e2) ((hcz _ _ lq).trans e3) ((hcz _ _ lq).trans e4)
               simp only [Act.put, List.setIfInBounds_toArray, List.set_cons_zero, List.set_cons_succ])
              (refine Rr.wr_y (by simp only [List.getElem?_toArray, List.getElem?_cons_succ, List.getElem?_cons_zero]; rfl) (by rfl) ?_
               apply Exists.intro
               refine ⟨fun wz hw _ => ?_, ?_⟩
               · have hcz := hw.cells.1
                 go_simp
                 (with_reducible exact Rg.up_value)
               simp only [Act.put, List.setIfInBounds_toArray, List.set_cons_zero, List.set_cons_succ])
              (refine Rr.wr_y (by simp only [List.getElem?_toArray, List.getElem?_cons_succ, List.getElem?_cons_zero]; rfl) (by rfl) ?_
               apply Exists.intro
               refine ⟨fun wz hw _ => ?_, ?_⟩
               · have hcz := hw.cells.1
                 go_simp
                 (with_reducible exact Rg.up_value)
               simp only [Act.put, List.setIfInBounds_toArray, List.set_cons_zero, List.set_cons_succ])
              (refine Rr.wr_y (by simp only [List.getElem?_toArray, List.getElem?_cons_succ, List.getElem?_cons_zero]; rfl) (by rfl) ?_
               apply Exists.intro
               refine ⟨fun wz hw _ => ?_, ?_⟩
               · have hcz := hw.cells.1
                 go_simp
                 (with_reducible exact Rg.up_value)
               simp only [Act.put, List.setIfInBounds_toArray, List.set_cons_zero, List.set_cons_succ])
              (refine Rr.wr_y (by simp only [List.getElem?_toArray, List.getElem?_cons_succ, List.getElem?_cons_zero]; rfl) (by rfl) ?_
               apply Exists.intro
               refine ⟨fun wz hw _ => ?_, ?_⟩
               · have hcz := hw.cells.1
                 exact up_load29 (by rfl) ((hcz _ _ lg5).trans d5) ((hcz _ _ lg5).trans d6) ((hcz _ _ lg5).trans d7) ((hcz _ _ lg5).trans d8) ((hcz _ _ lg5).trans d9)
               simp only [Act.put, List.setIfInBounds_toArray, List.set_cons_zero, List.set_cons_succ])
              refine Rr.wr_m (by simp only [List.getElem?_toArray, List.getElem?_cons_succ, List.getElem?_cons_zero]; rfl) (by rfl) (fun wz => by go_simp) (fun p hp => ?_)
              simp only [Act.put, List.setIfInBounds_toArray, List.set_cons_zero, List.set_cons_succ]
              (refine Rr.wr_y (by simp only [List.getElem?_toArray, List.getElem?_cons_succ, List.getElem?_cons_zero]; rfl) (by rfl) ?_
               apply Exists.intro
               refine ⟨fun wz hw _ => ?_, ?_⟩
               · have hcz := hw.cells.1
                 go_simp
                 (with_reducible exact Rg.up_value)
               simp only [Act.put, List.setIfInBounds_toArray, List.set_cons_zero, List.set_cons_succ])
              refine Rr.wr_nil ?_
              intro wy hy hh
              have hbl := hh _ List.mem_cons_self
              simp only [List.length_cons, List.length_nil, List.drop_succ_cons, List.drop_zero, Nat.reduceAdd]
              obtain ⟨hb1, hb2⟩ := hbl
              have HQ6 := (hy.block _ lq).trans HQ5.out
              obtain ⟨f0, f1, f2, f3, f4, ff, lf⟩ := row5 HQ6
              have RP := Lib.hid (rd_pair (S := fun b => ¬ b = wo.heap.size) (s := addB) hb2 (HR5.out.ext hy) (R2.out.ext hy) (by omega))
              have HQ7 := Lib.hid HQ6
              clear hh hb2 HQ6 R2 HR5 HQ5 d5 d6 d7 d8 d9 e0 e1 e2 e3 e4 ef
              have hxy := hxs.trans hy
              go_wp2
              go_roundw
              case rel => exact ⟨i + 1, _, _, _, _, _, _, _, by go_num, by omega, set5_heap' HQ7.out, by rw [HJ.out]; exact Rd.frame (fun b o h _ => set5_far' b o h) (fun _ h => h) _ _ RP.out, (by with_reducible repeat (first | exact Ext.refl _ | assumption | apply Ext.drewN | apply Ext.drew | apply Ext.alloc | (refine Ext.setCell ?_ (by simp <;> omega) _) | (refine Ext.trans ?_ (by assumption))))⟩
              case measure => simp [intOf]; omega
            · obtain rfl : i = ts.length := by omega
              have hJ := HR5.out
              rw [List.take_of_length_le (Nat.le_refl _)] at hJ
              have h2 := madeE_two ls
              rw [HE.out] at h2
              have HJ := Lib.hid (Rd.frame (S' := All) (fun _ _ _ _ => rfl) (fun _ _ => trivial) _ _ hJ)
              have H2 := Lib.hid h2
              have k1 : ¬ (ts.length : Int) + 1 < (m : Int) := by have := HM.out; omega
              have k5 := (hxs.cells.1 w.heap.size 5 cl)
              have k0 := (hxs.cells.1 w.heap.size 0 cl).trans c0
              have k1' := (hxs.cells.1 w.heap.size 1 cl).trans c1
              have k2 := (hxs.cells.1 w.heap.size 2 cl).trans c2
              have k3 := (hxs.cells.1 w.heap.size 3 cl).trans c3
              have k4 := (hxs.cells.1 w.heap.size 4 cl).trans c4
              have kf : ∀ i, ws.frozen? ⟨w.heap.size, i, none⟩ = false := fun i => (hxs.cells.2 w.heap.size i cl).trans (cf i)
              have H5 := Lib.hid (k5.trans c5)
              clear hJ h2 k5 c0 c1 c2 c3 c4 cf HR5
              go_wp2
              exact bodyPost_ret (v := .agg #[.string op, .int .i64 n1, .int .i64 n2, .string nm, .slice base len cc]) (by simp [results, Try.results14, go_sem, k0, k1', k2, k3, k4, kf]) rfl ⟨_, rfl, (by with_reducible repeat (first | exact Ext.refl _ | assumption | apply Ext.drewN | apply Ext.drew | apply Ext.alloc | (refine Ext.setCell ?_ (by simp <;> omega) _) | (refine Ext.trans ?_ (by assumption)))), by rw [HE.out]; exact Rd.past H2.out HJ.out H5.out (fun b o h _ => set5_far' b o h)⟩
end Go.Proofs.Ytgkdeknfmmgbdaa
