/-
  Joined: the lemmas of this claim that other texts of it use, part 5. Nothing is asked.
-/
import Derived.Test.YtgkdeknfmmgbdaaJnD
import Derived.Outline
import Derived.Deep.AppendLies
import Derived.BigQuiet
import Derived.Deep.QuietTactic
namespace Go.Proofs.Ytgkdeknfmmgbdaa
set_option linter.unusedVariables false
set_option linter.unusedSimpArgs false
open Go.RowKit

abbrev opTab : Array Value := #[.string ⟨#[43]⟩, .string ⟨#[45]⟩, .string ⟨#[42]⟩, .string ⟨#[47]⟩, .string ⟨#[109, 105, 110]⟩, .string ⟨#[109, 97, 120]⟩]
theorem opTab_at {w : World} {p : Nat} (h : w.heap[p]? = some (.cells opTab 9)) (i : Nat) (hi : i < 6) : w.cell? ⟨p, i, none⟩ = some (.string (opNm i)) := by
  rw [cell_of_row w p _ _ _ _ h]
  match i, hi with
  | 0, _ => rfl
  | 1, _ => rfl
  | 2, _ => rfl
  | 3, _ => rfl
  | 4, _ => rfl
  | 5, _ => rfl
theorem nameTab_at {w : World} {p : Nat} (h : w.heap[p]? = some (.cells #[.string priceB, .string lowB, .string qualB, .string ⟨#[100, 97, 121, 115]⟩] 9)) (i : Nat) (hi : i < 4) : w.cell? ⟨p, i, none⟩ = some (.string (nameB4 i)) := by
  rw [cell_of_row w p _ _ _ _ h]
  match i, hi with
  | 0, _ => rfl
  | 1, _ => rfl
  | 2, _ => rfl
  | 3, _ => rfl


/-- The stack after j numbers. -/
def madeN (ls : List Int) (j : Nat) : List Ex := (ls.take j).foldl madeStep []
theorem madeN_succ (ls : List Int) (j : Nat) (h : j < ls.length) : madeN ls (j + 1) = madeStep (madeN ls j) ls[j] := by
  unfold madeN
  rw [List.take_add_one, List.getElem?_eq_getElem h, Option.toList_some, List.foldl_append]
  rfl
theorem madeStep_num {st : List Ex} {z n : Int} (h : n = modZ z 1000) (hr : n % 10 = 0 ∨ n % 10 = 1) : madeStep st z = st ++ [numE (quickZ (n / 10 % 13 - 3) (1 + n / 10 / 13 % 4))] := by
  subst h
  exact if_pos hr
theorem madeStep_name {st : List Ex} {z n : Int} (h : n = modZ z 1000) (hr : n % 10 = 2 ∨ n % 10 = 3 ∨ n % 10 = 4) : madeStep st z = st ++ [nameE (nameB4 (n / 10 % 4).toNat)] := by
  subst h
  unfold madeStep
  dsimp only
  rw [if_neg (by omega), if_pos hr]
theorem madeStep_op {r : List Ex} {a b : Ex} {z n : Int} (h : n = modZ z 1000) (hr : 5 ≤ n % 10) : madeStep (r ++ [a, b]) z = r ++ [opE' (opNm (n / 10 % 6).toNat) a b] := by
  subst h
  unfold madeStep
  dsimp only
  rw [if_neg (by omega), if_neg (by omega)]
  simp
theorem madeStep_skip {st : List Ex} {z n : Int} (h : n = modZ z 1000) (hr : 5 ≤ n % 10) (hs : st.length ≤ 1) : madeStep st z = st := by
  subst h
  unfold madeStep
  dsimp only
  rw [if_neg (by omega), if_neg (by omega)]
  match st, hs with
  | [], _ => rfl
  | [_], _ => rfl

theorem quickZ_i2 (n d : Int) (hn : -1000000 ≤ n ∧ n ≤ 1000000) (hd : 1 ≤ d ∧ d ≤ 1000000) : I2 (quickZ n d) := by
  have h1 := Int.natAbs_tdiv_le_natAbs n (Int.gcd n d : Int)
  have h2 := Int.natAbs_tdiv_le_natAbs d (Int.gcd n d : Int)
  unfold quickZ
  generalize n.tdiv (Int.gcd n d : Int) = a at *
  generalize d.tdiv (Int.gcd n d : Int) = b at *
  exact ⟨by show (_ : Int) ≤ a; omega, by show a ≤ _; omega, by show (_ : Int) ≤ b; omega, by show b ≤ _; omega⟩

theorem FR.cap_le {B g n cap : Nat} {w : World} {ts : List Ex} (h : FR B w (.slice (some ⟨g, 0, none⟩) n cap) ts) : ts.length ≤ cap := by
  obtain ⟨us, hl, ho, hr⟩ := h
  rcases ho with ⟨hxs, ⟨h', _⟩ | ⟨g', cap', cur, h', hb, hg, hnc, hcm, hcs, htake⟩⟩
  · cases h'
  · injection h' with e1 _ e3
    omega

def madeFin : List Ex → Ex
  | [] => nameE priceB
  | t :: ts => madeJoin t ts
theorem madeE_fin (ls : List Int) (j : Nat) (h : ls.take 80 = ls.take j) : madeE ls = madeFin (madeN ls j) := by
  unfold madeE madeN
  rw [h]
  cases List.foldl madeStep [] (List.take j ls) <;> rfl
/-- The join of the first k. -/
def joinN : List Ex → Nat → Ex
  | t :: ts, k => madeJoin t (ts.take k)
  | [], _ => nameE priceB
theorem madeJoin_snoc (t : Ex) (ts : List Ex) (u : Ex) : madeJoin t (ts ++ [u]) = opE' addB (madeJoin t ts) u := by
  induction ts generalizing t with
  | nil => rfl
  | cons a ts ih => exact ih _
theorem madeJoin_take (t : Ex) (ts : List Ex) (k : Nat) (h : k < ts.length) : madeJoin t (ts.take (k + 1)) = opE' addB (madeJoin t (ts.take k)) ts[k] := by
  rw [List.take_add_one, List.getElem?_eq_getElem h, Option.toList_some, madeJoin_snoc]
theorem two_op {s : ByteArray} {a b : Ex} (ha : twoB a = true) (hb : twoB b = true) : twoB (opE' s a b) = true := by simp [twoB, twoL, ha, hb]
theorem madeStep_two (st : List Ex) (z : Int) (h : ∀ t ∈ st, twoB t = true) : ∀ t ∈ madeStep st z, twoB t = true := by
  obtain ⟨n, hn⟩ : ∃ n, n = modZ z 1000 := ⟨_, rfl⟩
  have hb := modZ_bd z (m := 1000) (by omega)
  rw [← hn] at hb
  rcases (show (n % 10 = 0 ∨ n % 10 = 1) ∨ (n % 10 = 2 ∨ n % 10 = 3 ∨ n % 10 = 4) ∨ 5 ≤ n % 10 by omega) with hr | hr | hr
  · rw [madeStep_num hn hr]
    intro t ht
    rcases List.mem_append.1 ht with ht | ht
    · exact h t ht
    · rw [List.mem_singleton.1 ht]; rfl
  · rw [madeStep_name hn hr]
    intro t ht
    rcases List.mem_append.1 ht with ht | ht
    · exact h t ht
    · rw [List.mem_singleton.1 ht]; rfl
  · rcases Nat.lt_or_ge 1 st.length with h2 | h2
    · obtain ⟨i, hi⟩ : ∃ i, st.length = i + 2 := ⟨st.length - 2, by omega⟩
      have hst : st = st.take i ++ [st[i]'(by omega), st[i + 1]'(by omega)] := by
        conv => lhs; rw [← List.take_append_drop i st]
        rw [List.drop_eq_getElem_cons (by omega), List.drop_eq_getElem_cons (by omega), List.drop_eq_nil_of_le (by omega)]
      have ha := h _ (List.getElem_mem (show i < st.length by omega))
      have hb := h _ (List.getElem_mem (show i + 1 < st.length by omega))
      rw [hst, madeStep_op hn hr]
      intro t ht
      rcases List.mem_append.1 ht with ht | ht
      · exact h t (List.mem_of_mem_take ht)
      · rw [List.mem_singleton.1 ht]; exact two_op ha hb
    · rw [madeStep_skip hn hr h2]; exact h
theorem madeN_two (ls : List Int) (j : Nat) : ∀ t ∈ madeN ls j, twoB t = true := by
  unfold madeN
  generalize ls.take j = l
  have key : ∀ (l : List Int) (st : List Ex), (∀ t ∈ st, twoB t = true) → ∀ t ∈ l.foldl madeStep st, twoB t = true := by
    intro l
    induction l with
    | nil => intro st h; exact h
    | cons z l ih => intro st h; exact ih _ (madeStep_two st z h)
  exact key l [] (fun t h => absurd h List.not_mem_nil)
theorem madeJoin_two (t : Ex) (ts : List Ex) (h : twoB t = true) (hs : ∀ u ∈ ts, twoB u = true) : twoB (madeJoin t ts) = true := by
  induction ts generalizing t with
  | nil => exact h
  | cons a ts ih => exact ih _ (two_op h (hs a List.mem_cons_self)) (fun u hu => hs u (List.mem_cons_of_mem _ hu))
theorem madeE_two (ls : List Int) : twoB (madeE ls) = true := by
  rw [madeE_fin ls 80 rfl]
  have h := madeN_two ls 80
  generalize madeN ls 80 = st at *
  match st with
  | [] => rfl
  | t :: ts => exact madeJoin_two t ts (h t List.mem_cons_self) (fun u hu => h u (List.mem_cons_of_mem _ hu))
theorem set5_far' {w : World} {p : Nat} {c0 c1 c2 c3 c4 : Value} (b o : Nat) (hb : ¬ b = p) :
    (((((w.setCell ⟨p, 0, none⟩ c0).setCell ⟨p, 1, none⟩ c1).setCell ⟨p, 2, none⟩ c2).setCell ⟨p, 3, none⟩ c3).setCell ⟨p, 4, none⟩ c4).cell? ⟨b, o, none⟩ = w.cell? ⟨b, o, none⟩ := by
  have h3 : ¬ p = b := fun e => hb e.symm
  go_simp
theorem set5_heap' {w : World} {p : Nat} {d0 d1 d2 d3 d4 c0 c1 c2 c3 c4 : Value} {t : TypeId} (h : w.heap[p]? = some (.cells #[d0, d1, d2, d3, d4] t)) :
    (((((w.setCell ⟨p, 0, none⟩ c0).setCell ⟨p, 1, none⟩ c1).setCell ⟨p, 2, none⟩ c2).setCell ⟨p, 3, none⟩ c3).setCell ⟨p, 4, none⟩ c4).heap[p]? = some (.cells #[c0, c1, c2, c3, c4] t) := by
  simp [World.setCell, Array.getElem?_modify, h]
theorem row5 {w : World} {p : Nat} {c0 c1 c2 c3 c4 : Value} {t : TypeId} (h : w.heap[p]? = some (.cells #[c0, c1, c2, c3, c4] t)) :
    w.cell? ⟨p, 0, none⟩ = some c0 ∧ w.cell? ⟨p, 1, none⟩ = some c1 ∧ w.cell? ⟨p, 2, none⟩ = some c2 ∧ w.cell? ⟨p, 3, none⟩ = some c3 ∧ w.cell? ⟨p, 4, none⟩ = some c4 ∧ (∀ i, w.frozen? ⟨p, i, none⟩ = false) ∧ p < w.heap.size := by
  obtain ⟨h1, h2, h3⟩ := Rg.cells_of h
  exact ⟨h1 0, h1 1, h1 2, h1 3, h1 4, h2, h3⟩

set_option maxRecDepth 100000 in
set_option maxHeartbeats 4000000 in
theorem Made_any (ls : List Int) (w : World) (v : Value) (hv : IRd w v ls) : Calls Try.prog 14 #[v] w fun e w' => ∃ u, e = .returned u ∧ Ext w w' ∧ Rd All w' (madeE ls) u := by
  obtain ⟨A, cap, rfl, hlen, hrange, hc⟩ := hv
  go_enter Try.func14, Try.ntmps14
  go_wp2_with (fail)
  have hx0 : Ext w ((w.alloc (.cells #[.string ⟨#[]⟩, .int .i64 0, .int .i64 0, .string ⟨#[]⟩, .slice none 0 0] 29)).alloc (.cells opTab 9)) := (by with_reducible repeat (first | exact Ext.refl _ | assumption | apply Ext.drewN | apply Ext.drew | apply Ext.alloc | (refine Ext.setCell ?_ (by simp <;> omega) _) | (refine Ext.trans ?_ (by assumption))))
  have hR : ((w.alloc (.cells #[.string ⟨#[]⟩, .int .i64 0, .int .i64 0, .string ⟨#[]⟩, .slice none 0 0] 29)).alloc (.cells opTab 9)).heap[w.heap.size]? = some (.cells #[.string ⟨#[]⟩, .int .i64 0, .int .i64 0, .string ⟨#[]⟩, .slice none 0 0] 29) := by
    rw [Below.heap_alloc _ _ _ (by simp)]; exact block_new rfl
  have hT : ((w.alloc (.cells #[.string ⟨#[]⟩, .int .i64 0, .int .i64 0, .string ⟨#[]⟩, .slice none 0 0] 29)).alloc (.cells opTab 9)).heap[w.heap.size + 1]? = some (.cells opTab 9) := block_new (by simp)
  generalize ((w.alloc (.cells #[.string ⟨#[]⟩, .int .i64 0, .int .i64 0, .string ⟨#[]⟩, .slice none 0 0] 29)).alloc (.cells opTab 9)) = we at *
  have hr0 : w.heap.size ≤ w.heap.size + 1 := by omega
  have HR := Lib.hid hR
  have HT := Lib.hid hT
  have HC := Lib.hid hc
  have HRG := Lib.hid hrange
  have hre : w.heap.size < we.heap.size := Rg.lt_of_heap hR
  have hle : (ls.length : Int) ≤ 9223372036854775807 := by omega
  clear hR hT hc hrange
  go_loopw [3, 5] (fun l k wr => ∃ j : Nat, k = .int .i64 j ∧ j ≤ ls.length ∧ j ≤ 80 ∧ FR we.heap.size wr l (madeN ls j) ∧ Hid ((madeN ls j).length ≤ j) ∧ Ext we wr) (fun _ k _ => 80 - (intOf k).toNat)
  case atStart => exact ⟨0, by go_num, Nat.zero_le _, by omega, FR.nil _ _, Lib.hid (by simp [madeN]), Ext.refl _⟩
  case round =>
    obtain ⟨j, rfl, hj, hj80, hF, hlj, hx⟩ := hrel
    have HF := Lib.hid hF
    clear hF
    by_cases hgo : j < ls.length ∧ j < 80
    · obtain ⟨hlt, h80⟩ := hgo
      have hj81 : (j : Int) ≤ 79 := by omega
      have hne : ¬ ls = [] := by intro e; rw [e] at hlt; simp at hlt
      obtain ⟨b, off, rfl, hc⟩ := HC.out.resolve_left hne
      have hcj := hc j hlt
      have hbw := World.block_lt_of_cell? w _ hcj
      have hcr := ((hx0.trans hx).cells.1 _ _ hbw).trans hcj
      have HM := Lib.hid (Mod_any ls[j] 1000 (by omega) (by omega) (HRG.out _ (List.getElem_mem hlt)).1 (HRG.out _ (List.getElem_mem hlt)).2)
      have hbd := modZ_bd ls[j] (m := 1000) (by omega)
      obtain ⟨n, hn⟩ : ∃ n, n = modZ ls[j] 1000 := ⟨_, rfl⟩
      rw [← hn] at HM hbd
      have HN := Lib.hid hn
      clear hn hc hcj HC
      obtain ⟨n0, n1⟩ := hbd
      have hs := madeN_succ ls j hlt
      have HS := Lib.hid hs
      clear hs
      generalize madeN ls j = st at *
      generalize ls[j] = z at *
      rcases (show (n % 10 = 0 ∨ n % 10 = 1) ∨ (n % 10 = 2 ∨ n % 10 = 3 ∨ n % 10 = 4) ∨ 5 ≤ n % 10 by omega) with hr | hr | hr
      · have HS' := Lib.hid (HS.out.trans (madeStep_num HN.out hr))
        clear HS HN
        have HK := Lib.hid (Make_any (n / 10 % 13 - 3) (1 + n / 10 / 13 % 4) ⟨by omega, by omega⟩ ⟨by omega, by omega⟩)
        have HI := Lib.hid (quickZ_i2 (n / 10 % 13 - 3) (1 + n / 10 / 13 % 4) ⟨by omega, by omega⟩ ⟨by omega, by omega⟩)
        generalize quickZ (n / 10 % 13 - 3) (1 + n / 10 / 13 % 4) = q at *
        obtain ⟨q1, q2⟩ := q
        go_wp2_with (first
          | (go_at_call 39; (with_reducible refine (HM.out _).mono ?_); rintro e w5 ⟨rfl, rfl⟩)
          | (go_at_call 40; (with_reducible refine (HK.out _).mono ?_); rintro e w5 ⟨rfl, hb5⟩)
          | (at_builtin; refine append_tree rfl (.tmp 79) (.tmp 82) rfl we.heap.size _ st (by rfl) (HF.out.ext (by with_reducible repeat (first | exact Ext.refl _ | assumption | apply Ext.drewN | apply Ext.drew | apply Ext.alloc | (refine Ext.setCell ?_ (by simp <;> omega) _) | (refine Ext.trans ?_ (by assumption))))) (w5.heap.size + 1) (leafV numB (q1, q2) nilB) (numE (q1, q2)) (by rfl) (block_new (by simp)) (Rd.leaf HI.out) (by have := hlj.out; omega) (by have := hx.size; have := hb5.size; simp; omega) ?_; intro g cap6 w6 hF6 hb6))
        all_goals
          go_roundw
          case rel =>
            have h1 : Ext wr ((w5.alloc (.cells #[.int .i64 q1, .int .i64 q2] 26)).alloc (.cells (cellsV (leafV numB (q1, q2) nilB)).toArray 29)) := (by with_reducible repeat (first | exact Ext.refl _ | assumption | apply Ext.drewN | apply Ext.drew | apply Ext.alloc | (refine Ext.setCell ?_ (by simp <;> omega) _) | (refine Ext.trans ?_ (by assumption))))
            have hl := hlj.out
            exact ⟨j + 1, by go_num, by omega, by omega, by rw [HS'.out]; simpa using hF6, Lib.hid (by rw [HS'.out, List.length_append, List.length_singleton]; omega), Below.trans (Ext.trans hx h1) hb6⟩
          case measure => simp [intOf]; omega
      · have HS' := Lib.hid (HS.out.trans (madeStep_name HN.out hr))
        clear HS HN
        have i0 : 0 ≤ n / 10 % 4 := by omega
        have i1 : n / 10 % 4 < 4 := by omega
        go_wp2_with (first
          | (go_at_call 39; (with_reducible refine (HM.out _).mono ?_); rintro e w5 ⟨rfl, rfl⟩)
          | (go_at_call 41; (with_reducible refine (Names_any _).mono ?_); rintro e w5 ⟨pn, rfl, hpn, hhn, hb5⟩; have hcn := nameTab_at hhn (n / 10 % 4).toNat (by omega); have hpl := Rg.lt_of_heap hhn)
          | (at_builtin; refine append_tree rfl (.tmp 88) (.tmp 95) rfl we.heap.size _ st (by rfl) (HF.out.ext (by with_reducible repeat (first | exact Ext.refl _ | assumption | apply Ext.drewN | apply Ext.drew | apply Ext.alloc | (refine Ext.setCell ?_ (by simp <;> omega) _) | (refine Ext.trans ?_ (by assumption))))) w5.heap.size (leafV nameB (0, 0) (nameB4 (n / 10 % 4).toNat)) (nameE (nameB4 (n / 10 % 4).toNat)) (by rfl) (block_new (by simp)) (Rd.leaf I2.zero) (by have := hlj.out; omega) (by have := hx.size; have := hb5.size; simp; omega) ?_; intro g cap6 w6 hF6 hb6))
        all_goals
          go_roundw
          case rel =>
            have h1 : Ext wr (w5.alloc (.cells (cellsV (leafV nameB (0, 0) (nameB4 (n / 10 % 4).toNat))).toArray 29)) := (by with_reducible repeat (first | exact Ext.refl _ | assumption | apply Ext.drewN | apply Ext.drew | apply Ext.alloc | (refine Ext.setCell ?_ (by simp <;> omega) _) | (refine Ext.trans ?_ (by assumption))))
            have hl := hlj.out
            exact ⟨j + 1, by go_num, by omega, by omega, by rw [HS'.out]; simpa using hF6, Lib.hid (by rw [HS'.out, List.length_append, List.length_singleton]; omega), Below.trans (Ext.trans hx h1) hb6⟩
          case measure => simp [intOf]; omega
      · have hL := hlj.out
        rcases Nat.lt_or_ge 1 st.length with h2 | h2
        · obtain ⟨g, cap1, rfl, hg⟩ := HF.out.form (by omega)
          obtain ⟨i, hi⟩ : ∃ i, st.length = i + 2 := ⟨st.length - 2, by omega⟩
          obtain ⟨oa, a1, a2, na, ba, la, ca, hgl1, hc1, hr1⟩ := HF.out.at i (by omega)
          obtain ⟨ob, b1, b2, nb, bb, lb, cb, -, hc2, hr2⟩ := HF.out.at (i + 1) (by omega)
          obtain ⟨d0, d1, d2, d3, d4, lg⟩ := cells_at hc1 (Ext.refl _) hgl1
          obtain ⟨d5, d6, d7, d8, d9, -⟩ := cells_at hc2 (Ext.refl _) hgl1
          have HST : Hid (st = st.take i ++ [st[i]'(by omega), st[i + 1]'(by omega)]) := Lib.hid (by
            conv => lhs; rw [← List.take_append_drop i st]
            rw [List.drop_eq_getElem_cons (by omega), List.drop_eq_getElem_cons (by omega), List.drop_eq_nil_of_le (by omega)])
          generalize st[i]'(by omega) = ta at *
          generalize st[i + 1]'(by omega) = tb at *
          have r1 := Lib.hid hr1
          have r2 := Lib.hid hr2
          have k1 : ((st.length : Int) - 2).toNat = i := by omega
          have k2 : 0 ≤ (st.length : Int) - 2 := by omega
          have k3 : ((st.length : Int) - 1).toNat = i + 1 := by omega
          have k4 : 0 ≤ (st.length : Int) - 1 := by omega
          have k5 : (st.length : Int) ≤ 80 := by omega
          have k6 := HF.out.cap_le
          have h2' : (1 : Int) < (st.length : Int) := by omega
          clear hr1 hr2 hc1 hc2 hgl1
          have Hi := Lib.hid hi
          clear hi
          go_wp2_with (go_at_call 39; (with_reducible refine (HM.out _).mono ?_); rintro e w5 ⟨rfl, rfl⟩)
          have hx12 : Ext wr ((wr.alloc (.cells #[.string oa, .int .i64 a1, .int .i64 a2, .string na, .slice ba la ca] 29)).alloc (.cells #[.string ob, .int .i64 b1, .int .i64 b2, .string nb, .slice bb lb cb] 29)) := (by with_reducible repeat (first | exact Ext.refl _ | assumption | apply Ext.drewN | apply Ext.drew | apply Ext.alloc | (refine Ext.setCell ?_ (by simp <;> omega) _) | (refine Ext.trans ?_ (by assumption))))
          have hA : ((wr.alloc (.cells #[.string oa, .int .i64 a1, .int .i64 a2, .string na, .slice ba la ca] 29)).alloc (.cells #[.string ob, .int .i64 b1, .int .i64 b2, .string nb, .slice bb lb cb] 29)).heap[wr.heap.size]? = some (.cells #[.string oa, .int .i64 a1, .int .i64 a2, .string na, .slice ba la ca] 29) := by
            rw [Below.heap_alloc _ _ _ (by simp)]; exact block_new rfl
          have hB : ((wr.alloc (.cells #[.string oa, .int .i64 a1, .int .i64 a2, .string na, .slice ba la ca] 29)).alloc (.cells #[.string ob, .int .i64 b1, .int .i64 b2, .string nb, .slice bb lb cb] 29)).heap[wr.heap.size + 1]? = some (.cells #[.string ob, .int .i64 b1, .int .i64 b2, .string nb, .slice bb lb cb] 29) := block_new (by simp)
          have HFT := Lib.hid ((HF.out.ext hx12).trunc i (by have := Hi.out; omega))
          have R1 := Lib.hid (r1.out.ext hx12)
          have R2 := Lib.hid (r2.out.ext hx12)
          have hop := opTab_at ((hx.trans hx12).block _ (Rg.lt_of_heap HT.out) |>.trans HT.out) (n / 10 % 6).toNat (by omega)
          have hlo := Rg.lt_of_heap (((hx.trans hx12).block _ (Rg.lt_of_heap HT.out)).trans HT.out)
          have kv : (2 : Int) ≤ (st.length : Int) := by omega
          have kw : IntKind.i64.wrap ((st.length : Int) - 2) = (st.length : Int) - 2 := by rw [IntKind.wrap_i64]; omega
          have ku : (st.length : Int) - 2 ≤ (cap1 : Int) := by omega
          have tm : (n / 10).tmod 6 = n / 10 % 6 := Int.tmod_eq_emod_of_nonneg (by omega)
          have m0 : 0 ≤ n / 10 % 6 := by omega
          have m1 : n / 10 % 6 < 6 := by omega
          generalize ((wr.alloc (.cells #[.string oa, .int .i64 a1, .int .i64 a2, .string na, .slice ba la ca] 29)).alloc (.cells #[.string ob, .int .i64 b1, .int .i64 b2, .string nb, .slice bb lb cb] 29)) = W12 at *
          have lA := Rg.lt_of_heap hA
          have lB := Rg.lt_of_heap hB
          have cA0 : W12.cell? ⟨wr.heap.size, 0, none⟩ = some (.string oa) := by rw [cell_of_row W12 _ _ _ _ _ hA]; rfl
          have cA1 : W12.cell? ⟨wr.heap.size, 1, none⟩ = some (.int .i64 a1) := by rw [cell_of_row W12 _ _ _ _ _ hA]; rfl
          have cA2 : W12.cell? ⟨wr.heap.size, 2, none⟩ = some (.int .i64 a2) := by rw [cell_of_row W12 _ _ _ _ _ hA]; rfl
          have cA3 : W12.cell? ⟨wr.heap.size, 3, none⟩ = some (.string na) := by rw [cell_of_row W12 _ _ _ _ _ hA]; rfl
          have cA4 : W12.cell? ⟨wr.heap.size, 4, none⟩ = some (.slice ba la ca) := by rw [cell_of_row W12 _ _ _ _ _ hA]; rfl
          have cB0 : W12.cell? ⟨wr.heap.size + 1, 0, none⟩ = some (.string ob) := by rw [cell_of_row W12 _ _ _ _ _ hB]; rfl
          have cB1 : W12.cell? ⟨wr.heap.size + 1, 1, none⟩ = some (.int .i64 b1) := by rw [cell_of_row W12 _ _ _ _ _ hB]; rfl
          have cB2 : W12.cell? ⟨wr.heap.size + 1, 2, none⟩ = some (.int .i64 b2) := by rw [cell_of_row W12 _ _ _ _ _ hB]; rfl
          have cB3 : W12.cell? ⟨wr.heap.size + 1, 3, none⟩ = some (.string nb) := by rw [cell_of_row W12 _ _ _ _ _ hB]; rfl
          have cB4 : W12.cell? ⟨wr.heap.size + 1, 4, none⟩ = some (.slice bb lb cb) := by rw [cell_of_row W12 _ _ _ _ _ hB]; rfl
          have lg12 : g < W12.heap.size := Nat.lt_of_lt_of_le lg hx12.size
          clear hA hB d0 d1 d2 d3 d4 d5 d6 d7 d8 d9
          refine Rr.wp_region [(0, .y), (1, .y), (2, .y), (3, .y), (4, .y), (5, .y), (6, .y), (7, .y), (8, .y), (9, .y), (10, .y), (11, .y), (12, .m), (13, .y), (14, .z)] (fun _ => (.cells #[.string oa, .int .i64 a1, .int .i64 a2, .string na, .slice ba la ca, .string ob, .int .i64 b1, .int .i64 b2, .string nb, .slice bb lb cb] 29, fun p => .slice (some ⟨p, 0, none⟩) 2 2)) (by kernel_rfl) (by kernel_rfl) ?_
          (refine Rr.wr_y (by simp only [List.getElem?_toArray, List.getElem?_cons_succ, List.getElem?_cons_zero]; rfl) (by rfl) ?_
           apply Exists.intro
           refine ⟨fun wz hw _ => ?_, ?_⟩
           · have hcz := hw.cells.1
             go_simp
             (with_reducible exact Rg.up_value)
           simp only [Act.put, List.setIfInBounds_toArray, List.set_cons_zero, List.set_cons_succ])
          (refine Rr.wr_y (by simp only [List.getElem?_toArray, List.getElem?_cons_succ, List.getElem?_cons_zero]; rfl) (by rfl) ?_
           apply Exists.intro
           refine ⟨fun wz hw _ => ?_, ?_⟩
           · have hcz := hw.cells.1
             go_simp
             (with_reducible exact Rg.up_value)
           simp only [Act.put, List.setIfInBounds_toArray, List.set_cons_zero, List.set_cons_succ])
          (refine Rr.wr_y (by simp only [List.getElem?_toArray, List.getElem?_cons_succ, List.getElem?_cons_zero]; rfl) (by rfl) ?_
           apply Exists.intro
           refine ⟨fun wz hw _ => ?_, ?_⟩
           · have hcz := hw.cells.1
             go_simp
             (with_reducible exact Rg.up_value)
           simp only [Act.put, List.setIfInBounds_toArray, List.set_cons_zero, List.set_cons_succ])
          (refine Rr.wr_y (by simp only [List.getElem?_toArray, List.getElem?_cons_succ, List.getElem?_cons_zero]; rfl) (by rfl) ?_
           apply Exists.intro
           refine ⟨fun wz hw _ => ?_, ?_⟩
           · have hcz := hw.cells.1
             go_simp
             (with_reducible exact Rg.up_value)
           simp only [Act.put, List.setIfInBounds_toArray, List.set_cons_zero, List.set_cons_succ])
          (refine Rr.wr_y (by simp only [List.getElem?_toArray, List.getElem?_cons_succ, List.getElem?_cons_zero]; rfl) (by rfl) ?_
           apply Exists.intro
           refine ⟨fun wz hw _ => ?_, ?_⟩
           · have hcz := hw.cells.1
             go_simp
             (with_reducible exact Rg.up_value)
           simp only [Act.put, List.setIfInBounds_toArray, List.set_cons_zero, List.set_cons_succ])
          (refine Rr.wr_y (by simp only [List.getElem?_toArray, List.getElem?_cons_succ, List.getElem?_cons_zero]; rfl) (by rfl) ?_
           apply Exists.intro
           refine ⟨fun wz hw _ => ?_, ?_⟩
           · have hcz := hw.cells.1
             go_simp
             (with_reducible exact Rg.up_value)
           simp only [Act.put, List.setIfInBounds_toArray, List.set_cons_zero, List.set_cons_succ])
          (refine Rr.wr_y (by simp only [List.getElem?_toArray, List.getElem?_cons_succ, List.getElem?_cons_zero]; rfl) (by rfl) ?_
           apply Exists.intro
           refine ⟨fun wz hw _ => ?_, ?_⟩
           · have hcz := hw.cells.1
             go_simp
             (with_reducible exact Rg.up_value)
           simp only [Act.put, List.setIfInBounds_toArray, List.set_cons_zero, List.set_cons_succ])
          (refine Rr.wr_y (by simp only [List.getElem?_toArray, List.getElem?_cons_succ, List.getElem?_cons_zero]; rfl) (by rfl) ?_
           apply Exists.intro
           refine ⟨fun wz hw _ => ?_, ?_⟩
           · have hcz := hw.cells.1
             go_simp
             (with_reducible exact Rg.up_value)
           simp only [Act.put, List.setIfInBounds_toArray, List.set_cons_zero, List.set_cons_succ])
          (refine Rr.wr_y (by simp only [List.getElem?_toArray, List.getElem?_cons_succ, List.getElem?_cons_zero]; rfl) (by rfl) ?_
           apply Exists.intro
           refine ⟨fun wz hw _ => ?_, ?_⟩
           · have hcz := hw.cells.1
             go_simp
             (with_reducible exact Rg.up_value)
           simp only [Act.put, List.setIfInBounds_toArray, List.set_cons_zero, List.set_cons_succ])
          (refine Rr.wr_y (by simp only [List.getElem?_toArray, List.getElem?_cons_succ, List.getElem?_cons_zero]; rfl) (by rfl) ?_
           apply Exists.intro
           refine ⟨fun wz hw _ => ?_, ?_⟩
           · have hcz := hw.cells.1
             go_simp
             (with_reducible exact Rg.up_value)
           simp only [Act.put, List.setIfInBounds_toArray, List.set_cons_zero, List.set_cons_succ])
          (refine Rr.wr_y (by simp only [List.getElem?_toArray, List.getElem?_cons_succ, List.getElem?_cons_zero]; rfl) (by rfl) ?_
           apply Exists.intro
           refine ⟨fun wz hw _ => ?_, ?_⟩
           · have hcz := hw.cells.1
             exact up_load29 (by rfl) ((hcz _ _ lA).trans cA0) ((hcz _ _ lA).trans cA1) ((hcz _ _ lA).trans cA2) ((hcz _ _ lA).trans cA3) ((hcz _ _ lA).trans cA4)
           simp only [Act.put, List.setIfInBounds_toArray, List.set_cons_zero, List.set_cons_succ])
          (refine Rr.wr_y (by simp only [List.getElem?_toArray, List.getElem?_cons_succ, List.getElem?_cons_zero]; rfl) (by rfl) ?_
           apply Exists.intro
           refine ⟨fun wz hw _ => ?_, ?_⟩
           · have hcz := hw.cells.1
             exact up_load29 (by rfl) ((hcz _ _ lB).trans cB0) ((hcz _ _ lB).trans cB1) ((hcz _ _ lB).trans cB2) ((hcz _ _ lB).trans cB3) ((hcz _ _ lB).trans cB4)
           simp only [Act.put, List.setIfInBounds_toArray, List.set_cons_zero, List.set_cons_succ])
          refine Rr.wr_m (by simp only [List.getElem?_toArray, List.getElem?_cons_succ, List.getElem?_cons_zero]; rfl) (by rfl) (fun wz => by go_simp) (fun p hp => ?_)
          simp only [Act.put, List.setIfInBounds_toArray, List.set_cons_zero, List.set_cons_succ]
          (refine Rr.wr_y (by simp only [List.getElem?_toArray, List.getElem?_cons_succ, List.getElem?_cons_zero]; rfl) (by rfl) ?_
           apply Exists.intro
           refine ⟨fun wz hw _ => ?_, ?_⟩
           · have hcz := hw.cells.1
             go_simp
             (with_reducible exact Rg.up_value)
           simp only [Act.put, List.setIfInBounds_toArray, List.set_cons_zero, List.set_cons_succ])
          refine Rr.wr_z (fun v w' => ∃ p', v = .slice (some ⟨p', 0, none⟩) 1 1 ∧ w'.heap[p']? = some (.cells #[.string (opNm (n / 10 % 6).toNat), .int .i64 0, .int .i64 0, .string nilB, .slice (some ⟨p, 0, none⟩) 2 2] 29)) (by simp only [List.getElem?_toArray, List.getElem?_cons_succ, List.getElem?_cons_zero]; rfl) (by rfl) (fun v w1 w2 h e => by obtain ⟨p, h1, h2⟩ := h; exact ⟨p, h1, (e.block p (Rg.lt_of_heap h2)).trans h2⟩) (fun wz hw hh => ?_) (fun u2 => ?_)
          · go_simp
            exact Rr.upR_value (Ext.alloc (Ext.refl _) _) ⟨_, rfl, block_new rfl⟩
          simp only [Act.put, List.setIfInBounds_toArray, List.set_cons_zero, List.set_cons_succ]
          refine Rr.wr_nil ?_
          intro wy hy hh
          obtain ⟨p', rfl, hp'⟩ := holds_hd hh
          have hbl := hh _ (List.mem_cons_of_mem _ List.mem_cons_self)
          simp only [List.length_cons, List.length_nil, List.drop_succ_cons, List.drop_zero, Nat.reduceAdd]
          obtain ⟨hb1, hb2⟩ := hbl
          have HS' := Lib.hid (HS.out.trans ((congrArg (madeStep · z) HST.out).trans (madeStep_op HN.out hr)))
          have hlt6 : (st.take i).length = i := by rw [List.length_take]; omega
          have RP := Lib.hid (rd_pair (S := Off (.slice (some ⟨g, 0, none⟩) i cap1)) (s := opNm (n / 10 % 6).toNat) hb2 (R1.out.ext hy) (R2.out.ext hy) (fun e => by injection e with e; have e : g = p := e; omega))
          have HP := Lib.hid hp'
          have HF7 := Lib.hid (HFT.out.ext hy)
          clear hh hp' hb2 HN HS R1 R2 r1 r2 HST HFT
          refine append_tree rfl (.tmp 53) (.tmp 63) rfl we.heap.size _ (st.take i) (by rfl) HF7.out p' (.agg #[.string (opNm (n / 10 % 6).toNat), .int .i64 0, .int .i64 0, .string nilB, .slice (some ⟨p, 0, none⟩) 2 2]) (opE' (opNm (n / 10 % 6).toNat) ta tb) (by rfl) HP.out RP.out (by omega) (by have := hx.size; have := hx12.size; have := hy.size; omega) ?_
          intro g' cap' w6 hF6 hb6
          rw [hlt6] at hF6 ⊢
          go_wp2
          go_roundw
          case rel => exact ⟨j + 1, by go_num, by omega, by omega, by rw [HS'.out]; exact hF6, Lib.hid (by have := Hi.out; rw [HS'.out, List.length_append, hlt6, List.length_singleton]; omega), Below.trans (hx.trans (hx12.trans hy)) hb6⟩
          case measure => simp [intOf]; omega
        · have HS' := Lib.hid (HS.out.trans (madeStep_skip HN.out hr h2))
          obtain ⟨A1, cap1, rfl⟩ := HF.out.shape
          have h2' : ¬ (1 : Int) < (st.length : Int) := by omega
          go_wp2_with (go_at_call 39; (with_reducible refine (HM.out _).mono ?_); rintro e w5 ⟨rfl, rfl⟩)
          go_roundw
          case rel => exact ⟨j + 1, by go_num, by omega, by omega, by rw [HS'.out]; exact HF.out, Lib.hid (by rw [HS'.out]; omega), hx⟩
          case measure => simp [intOf]; omega
    · have hE := madeE_fin ls j (by
        rcases Nat.lt_or_ge j 80 with h | h
        · rw [List.take_of_length_le (by omega), List.take_of_length_le (by omega)]
        · rw [show j = 80 by omega])
      have hl80 : (madeN ls j).length ≤ 80 := by have := hlj.out; omega
      have hRr := (hx.block _ hre).trans HR.out
      obtain ⟨c0, c1, c2, c3, c4, cf, cl⟩ := row5 hRr
      have c5 := (Rg.cells_of hRr).1 5
      generalize madeN ls j = st at *
      have HE := Lib.hid hE
      clear hE hRr
      rcases st with _ | ⟨t, ts⟩
      · obtain ⟨A1, cap1, rfl⟩ := HF.out.shape
        rcases (show ((j : Int) < (ls.length : Int) ∧ ¬ (j : Int) < 80) ∨ ¬ (j : Int) < (ls.length : Int) by omega) with ⟨h1, h2⟩ | h1
        · go_wp2
          exact bodyPost_ret (v := leafV nameB (0, 0) priceB) (by simp [results, Try.results14, go_sem, c0, c1, c2, c3, c4, cf]) rfl ⟨_, rfl, (by with_reducible repeat (first | exact Ext.refl _ | assumption | apply Ext.drewN | apply Ext.drew | apply Ext.alloc | (refine Ext.setCell ?_ (by simp <;> omega) _) | (refine Ext.trans ?_ (by assumption)))), by rw [HE.out]; exact Rd.leaf I2.zero⟩
        · go_wp2
          exact bodyPost_ret (v := leafV nameB (0, 0) priceB) (by simp [results, Try.results14, go_sem, c0, c1, c2, c3, c4, cf]) rfl ⟨_, rfl, (by with_reducible repeat (first | exact Ext.refl _ | assumption | apply Ext.drewN | apply Ext.drew | apply Ext.alloc | (refine Ext.setCell ?_ (by simp <;> omega) _) | (refine Ext.trans ?_ (by assumption)))), by rw [HE.out]; exact Rd.leaf I2.zero⟩
      · obtain ⟨g, cap1, rfl, hg⟩ := HF.out.form (by simp)
        obtain ⟨op, n1, n2, nm, base, len, cc, hgl1, hc1, hr1⟩ := HF.out.at 0 (by simp)
        obtain ⟨d0, d1, d2, d3, d4, lg⟩ := cells_at hc1 (Ext.refl _) hgl1
        rw [Nat.zero_mul] at d0 d1 d2 d3 d4
        have r1 := Lib.hid (Rd.alive _ _ hr1)
        have hm : ((t :: ts).length : Int) = (ts.length : Int) + 1 := by simp
        have hm1 : (t :: ts).length = ts.length + 1 := by simp
        have hm0 : ¬ ((t :: ts).length : Int) = 0 := by omega
        have hmp : (0 : Int) < ((t :: ts).length : Int) := by omega
        have hm80 : ((t :: ts).length : Int) ≤ 80 := by omega
        have HM := Lib.hid hm1
        clear hr1 hc1 hgl1 hm hm1
        generalize (t :: ts).length = m at *
        rcases (show ((j : Int) < (ls.length : Int) ∧ ¬ (j : Int) < 80) ∨ ¬ (j : Int) < (ls.length : Int) by omega) with ⟨h1, h2⟩ | h1
        all_goals
          obtain ⟨wo, rfl⟩ : ∃ wo : World, wo = wr := ⟨_, rfl⟩
          go_wp2_with (fail)
          have hq5 : (wo.alloc (.cells #[.string op, .int .i64 n1, .int .i64 n2, .string nm, .slice base len cc] 29)).heap[wo.heap.size]? = some (.cells #[.string op, .int .i64 n1, .int .i64 n2, .string nm, .slice base len cc] 29) := block_new rfl
          have hx5 : Ext wo (wo.alloc (.cells #[.string op, .int .i64 n1, .int .i64 n2, .string nm, .slice base len cc] 29)) := (by with_reducible repeat (first | exact Ext.refl _ | assumption | apply Ext.drewN | apply Ext.drew | apply Ext.alloc | (refine Ext.setCell ?_ (by simp <;> omega) _) | (refine Ext.trans ?_ (by assumption))))
          have hr5 : Rd (fun b => ¬ b = wo.heap.size) (wo.alloc (.cells #[.string op, .int .i64 n1, .int .i64 n2, .string nm, .slice base len cc] 29)) t (.agg #[.string op, .int .i64 n1, .int .i64 n2, .string nm, .slice base len cc]) :=
            Rd.frame (fun b o ⟨_, h⟩ _ => hx5.cells.1 b o h) (fun b ⟨_, h⟩ => by omega) _ _ r1.out
          have Hq := Lib.hid hq5
          have Hr := Lib.hid hr5
          clear hq5 hr5
          have hqq : wo.heap.size ≤ wo.heap.size := Nat.le_refl _
          go_loopw [13] (fun k ws => ∃ (i : Nat) (op : ByteArray) (n1 n2 : Int) (nm : ByteArray) (base : Option Addr) (len cc : Nat), k = .int .i64 (i + 1 : Nat) ∧ i ≤ ts.length ∧ ws.heap[wo.heap.size]? = some (.cells #[.string op, .int .i64 n1, .int .i64 n2, .string nm, .slice base len cc] 29) ∧
            Rd (fun b => ¬ b = wo.heap.size) ws (madeJoin t (ts.take i)) (.agg #[.string op, .int .i64 n1, .int .i64 n2, .string nm, .slice base len cc]) ∧ Ext wo ws) (fun k _ => ts.length + 1 - (intOf k).toNat)
          case atStart => exact ⟨0, _, _, _, _, _, _, _, by go_num, Nat.zero_le _, Hq.out, Hr.out, hx5⟩
          case round =>
            obtain ⟨i, op, n1, n2, nm, base, len, cc, rfl, hi, hq, hr, hxs⟩ := hrel
            obtain ⟨ws, rfl⟩ : ∃ ws : World, ws = wr := ⟨_, rfl⟩
            have HR5 := Lib.hid hr
            have HQ5 := Lib.hid hq
            obtain ⟨e0, e1, e2, e3, e4, ef, lq⟩ := row5 hq
            clear hr hq
            rcases Nat.lt_or_ge i ts.length with hlt | hge
            · obtain ⟨ob, b1, b2, nb, bb, lb, cb, hgl2, hc2, hr2⟩ := HF.out.at (i + 1) (by rw [List.length_cons]; omega)
              rw [List.getElem_cons_succ] at hr2
              obtain ⟨d5, d6, d7, d8, d9, lg5⟩ := cells_at hc2 hxs hgl2
              have r2 : Rd (fun b => ¬ b = wo.heap.size) ws ts[i] _ := Rd.frame (fun b o ⟨_, h⟩ _ => hxs.cells.1 b o h) (fun b ⟨_, h⟩ => by omega) _ _ (Rd.alive _ _ hr2)
              have R2 := Lib.hid r2
              have HJ := Lib.hid (madeJoin_take t ts i hlt)
              have k1 : (i : Int) + 1 < (m : Int) := by have := HM.out; omega
              have k2 : (0 : Int) ≤ (i : Int) + 1 := by omega
              have k3 : ((i : Int) + 1).toNat = i + 1 := by omega
              have k4 : (i : Int) ≤ 80 := by omega
              clear r2 hr2 hc2 hgl2
              go_wp2_with (fail)
              refine Rr.wp_region [(0, .y), (1, .y), (2, .y), (3, .y), (4, .y), (5, .m), (6, .y)] (fun _ => (.cells #[.string op, .int .i64 n1, .int .i64 n2, .string nm, .slice base len cc, .string ob, .int .i64 b1, .int .i64 b2, .string nb, .slice bb lb cb] 29, fun p => .slice (some ⟨p, 0, none⟩) 2 2)) (by kernel_rfl) (by kernel_rfl) ?_
              (refine Rr.wr_y (by simp only [List.getElem?_toArray, List.getElem?_cons_succ, List.getElem?_cons_zero]; rfl) (by rfl) ?_
               apply Exists.intro
               refine ⟨fun wz hw _ => ?_, ?_⟩
               · have hcz := hw.cells.1
                 exact up_load29 (by rfl) ((hcz _ _ lq).trans e0) ((hcz _ _ lq).trans e1) ((hcz _ _ lq).trans e2) ((hcz _ _ lq).trans e3) ((hcz _ _ lq).trans e4)
               simp only [Act.put, List.setIfInBounds_toArray, List.set_cons_zero, List.set_cons_succ])
              (refine Rr.wr_y (by simp only [List.getElem?_toArray, List.getElem?_cons_succ, List.getElem?_cons_zero]; rfl) (by rfl) ?_
               apply Exists.intro
               refine ⟨fun wz hw _ => ?_, ?_⟩
               · have hcz := hw.cells.1
                 go_simp
                 (with_reducible exact Rg.up_value)
               simp only [Act.put, List.setIfInBounds_toArray, List.set_cons_zero, List.set_cons_succ])
              (refine Rr.wr_y (by simp only [List.getElem?_toArray, List.getElem?_cons_succ, List.getElem?_cons_zero]; rfl) (by rfl) ?_
               apply Exists.intro
               refine ⟨fun wz hw _ => ?_, ?_⟩
               · have hcz := hw.cells.1
                 go_simp
                 (with_reducible exact Rg.up_value)
               simp only [Act.put, List.setIfInBounds_toArray, List.set_cons_zero, List.set_cons_succ])
              (refine Rr.wr_y (by simp only [List.getElem?_toArray, List.getElem?_cons_succ, List.getElem?_cons_zero]; rfl) (by rfl) ?_
               apply Exists.intro
               refine ⟨fun wz hw _ => ?_, ?_⟩
               · have hcz := hw.cells.1
                 go_simp
                 (with_reducible exact Rg.up_value)
               simp only [Act.put, List.setIfInBounds_toArray, List.set_cons_zero, List.set_cons_succ])
              (refine Rr.wr_y (by simp only [List.getElem?_toArray, List.getElem?_cons_succ, List.getElem?_cons_zero]; rfl) (by rfl) ?_
               apply Exists.intro
               refine ⟨fun wz hw _ => ?_, ?_⟩
               · have hcz := hw.cells.1
                 exact up_load29 (by rfl) ((hcz _ _ lg5).trans d5) ((hcz _ _ lg5).trans d6) ((hcz _ _ lg5).trans d7) ((hcz _ _ lg5).trans d8) ((hcz _ _ lg5).trans d9)
               simp only [Act.put, List.setIfInBounds_toArray, List.set_cons_zero, List.set_cons_succ])
              refine Rr.wr_m (by simp only [List.getElem?_toArray, List.getElem?_cons_succ, List.getElem?_cons_zero]; rfl) (by rfl) (fun wz => by go_simp) (fun p hp => ?_)
              simp only [Act.put, List.setIfInBounds_toArray, List.set_cons_zero, List.set_cons_succ]
              (refine Rr.wr_y (by simp only [List.getElem?_toArray, List.getElem?_cons_succ, List.getElem?_cons_zero]; rfl) (by rfl) ?_
               apply Exists.intro
               refine ⟨fun wz hw _ => ?_, ?_⟩
               · have hcz := hw.cells.1
                 go_simp
                 (with_reducible exact Rg.up_value)
               simp only [Act.put, List.setIfInBounds_toArray, List.set_cons_zero, List.set_cons_succ])
              refine Rr.wr_nil ?_
              intro wy hy hh
              have hbl := hh _ List.mem_cons_self
              simp only [List.length_cons, List.length_nil, List.drop_succ_cons, List.drop_zero, Nat.reduceAdd]
              obtain ⟨hb1, hb2⟩ := hbl
              have HQ6 := (hy.block _ lq).trans HQ5.out
              obtain ⟨f0, f1, f2, f3, f4, ff, lf⟩ := row5 HQ6
              have RP := Lib.hid (rd_pair (S := fun b => ¬ b = wo.heap.size) (s := addB) hb2 (HR5.out.ext hy) (R2.out.ext hy) (by omega))
              have HQ7 := Lib.hid HQ6
              clear hh hb2 HQ6 R2 HR5 HQ5 d5 d6 d7 d8 d9 e0 e1 e2 e3 e4 ef
              have hxy := hxs.trans hy
              go_wp2
              go_roundw
              case rel => exact ⟨i + 1, _, _, _, _, _, _, _, by go_num, by omega, set5_heap' HQ7.out, by rw [HJ.out]; exact Rd.frame (fun b o h _ => set5_far' b o h) (fun _ h => h) _ _ RP.out, (by with_reducible repeat (first | exact Ext.refl _ | assumption | apply Ext.drewN | apply Ext.drew | apply Ext.alloc | (refine Ext.setCell ?_ (by simp <;> omega) _) | (refine Ext.trans ?_ (by assumption))))⟩
              case measure => simp [intOf]; omega
            · obtain rfl : i = ts.length := by omega
              have hJ := HR5.out
              rw [List.take_of_length_le (Nat.le_refl _)] at hJ
              have h2 := madeE_two ls
              rw [HE.out] at h2
              have HJ := Lib.hid (Rd.frame (S' := All) (fun _ _ _ _ => rfl) (fun _ _ => trivial) _ _ hJ)
              have H2 := Lib.hid h2
              have k1 : ¬ (ts.length : Int) + 1 < (m : Int) := by have := HM.out; omega
              have k5 := (hxs.cells.1 w.heap.size 5 cl)
              have k0 := (hxs.cells.1 w.heap.size 0 cl).trans c0
              have k1' := (hxs.cells.1 w.heap.size 1 cl).trans c1
              have k2 := (hxs.cells.1 w.heap.size 2 cl).trans c2
              have k3 := (hxs.cells.1 w.heap.size 3 cl).trans c3
              have k4 := (hxs.cells.1 w.heap.size 4 cl).trans c4
              have kf : ∀ i, ws.frozen? ⟨w.heap.size, i, none⟩ = false := fun i => (hxs.cells.2 w.heap.size i cl).trans (cf i)
              have H5 := Lib.hid (k5.trans c5)
              clear hJ h2 k5 c0 c1 c2 c3 c4 cf HR5
              go_wp2
              exact bodyPost_ret (v := .agg #[.string op, .int .i64 n1, .int .i64 n2, .string nm, .slice base len cc]) (by simp [results, Try.results14, go_sem, k0, k1', k2, k3, k4, kf]) rfl ⟨_, rfl, (by with_reducible repeat (first | exact Ext.refl _ | assumption | apply Ext.drewN | apply Ext.drew | apply Ext.alloc | (refine Ext.setCell ?_ (by simp <;> omega) _) | (refine Ext.trans ?_ (by assumption)))), by rw [HE.out]; exact Rd.past H2.out HJ.out H5.out (fun b o h _ => set5_far' b o h)⟩
end Go.Proofs.Ytgkdeknfmmgbdaa

namespace Go.Proofs.Ytgkdeknfmmgbdaa
set_option linter.unusedVariables false
set_option linter.unusedSimpArgs false
open Go.RowKit

def valN : Nat → List Int → Vals
  | _, [] => []
  | k, z :: zs => (nameB4 (k % 4), z) :: valN (k + 1) zs
theorem valN_snoc (k : Nat) (l : List Int) (z : Int) : valN k (l ++ [z]) = valN k l ++ [(nameB4 ((k + l.length) % 4), z)] := by
  induction l generalizing k with
  | nil => rfl
  | cons a l ih => simp only [List.cons_append, valN, ih, List.length_cons]; rw [show k + 1 + l.length = k + (l.length + 1) by omega]
theorem valN_length (k : Nat) (l : List Int) : (valN k l).length = l.length := by
  induction l generalizing k with
  | nil => rfl
  | cons a l ih => simp [valN, ih]
theorem valN_range (k : Nat) (l : List Int) (h : ∀ z ∈ l, -9223372036854775808 ≤ z ∧ z ≤ 9223372036854775807) : VR (valN k l) := by
  induction l generalizing k with
  | nil => intro x hx; cases hx
  | cons a l ih =>
    intro x hx
    rcases List.mem_cons.1 hx with rfl | hx
    · exact h a List.mem_cons_self
    · exact ih (k + 1) (fun z hz => h z (List.mem_cons_of_mem _ hz)) x hx
def valuesE (ls : List Int) : Vals := valN 0 (ls.take 6)

def cellsP (p : ByteArray × Int) : List Value := [.string p.1, .int .i64 p.2]
theorem flat2 : ∀ (us : Vals) (i : Nat) (h : i < us.length), (us.flatMap cellsP)[i * 2]? = some (.string us[i].1) ∧ (us.flatMap cellsP)[i * 2 + 1]? = some (.int .i64 us[i].2)
  | u :: us, 0, h => ⟨rfl, rfl⟩
  | u :: us, i + 1, h => by
    have := flat2 us i (by simpa using h)
    rw [List.flatMap_cons, List.getElem?_append_right (by simp [cellsP]; omega), List.getElem?_append_right (by simp [cellsP]; omega)]
    simp only [cellsP, List.length_cons, List.length_nil, List.getElem_cons_succ]
    rw [show (i + 1) * 2 - (0 + 1 + 1) = i * 2 by omega, show (i + 1) * 2 + 1 - (0 + 1 + 1) = i * 2 + 1 by omega]
    exact this
/-- The slice v, made by the call, holds the values. -/
abbrev PR (B : Nat) (w : World) (v : Value) (vs : Vals) : Prop := w.ownsRow B 51 2 v vs.length (vs.flatMap cellsP)
theorem PR.ext {B : Nat} {w w' : World} {v : Value} {vs : Vals} (ho : PR B w v vs) (e : Ext w w') : PR B w' v vs := by
  refine ⟨ho.1, ?_⟩
  rcases ho.2 with hn | ⟨g, cap, cur, hv, hb, hg, rest⟩
  · exact .inl hn
  · exact .inr ⟨g, cap, cur, hv, hb, (e.block g (Rg.lt_of_heap hg)).trans hg, rest⟩
theorem PR.vrd {B : Nat} {w : World} {v : Value} {vs : Vals} (ho : PR B w v vs) (hr : VR vs) (hn : vs.length ≤ 1000000) : VRd All w vs v := by
  by_cases h0 : vs = []
  · subst h0
    rcases ho.2 with ⟨hn, -⟩ | ⟨g, cap, cur, hv, -⟩
    · exact ⟨none, 0, hn, by simp, hr, .inl rfl⟩
    · exact ⟨_, cap, hv, by simp, hr, .inl rfl⟩
  · have hp : 0 < vs.length := List.length_pos_iff.2 h0
    obtain ⟨g, cap, rfl, -, hlt⟩ := ho.form hp
    refine ⟨_, cap, rfl, hn, hr, .inr ⟨g, rfl, trivial, fun k hk => ?_⟩⟩
    have := flat2 vs k hk
    rw [ho.cellAt (k * 2) (by omega), ho.cellAt (k * 2 + 1) (by omega)]
    exact this

theorem info51 : (Try.prog.info? 51).map (fun i => (i.zero, i.size, i.bytes)) = some (some (.agg #[.string ⟨#[]⟩, .int .i64 0]), 2, 24) := by kernel_rfl
/-- 'append' of one value. -/
theorem append_val {ops : Array Oper} {rest : List Oper} {o : Oper} {a : Act} {Q : Exit → Act → World → Prop} {w : World} (hgd : o.guard = none) (s x : Operand)
    (ho : o.op = .call { callee := .builtin .append, args := #[s, x], argTypes := #[31, 31] }) (B : Nat) (v : Value) (vs : Vals) (hs : a.eval s = v) (hF : PR B w v vs)
    (p : Nat) (u : ByteArray × Int) (hx : a.eval x = .slice (some ⟨p, 0, none⟩) 1 1) (hp : w.heap[p]? = some (.cells #[.string u.1, .int .i64 u.2] 51)) (hn : vs.length < 1000000) (hB : B ≤ w.heap.size)
    (h : ∀ g cap w', PR B w' (.slice (some ⟨g, 0, none⟩) (vs.length + 1) cap) (vs ++ [u]) → Below B w w' → wpList Try.prog ops Q rest (a.put o.dst (.slice (some ⟨g, 0, none⟩) (vs.length + 1) cap)) w') : wpList Try.prog ops Q (o :: rest) a w := by
  obtain ⟨i0, hi, hz0, hz1, hz2⟩ := info_parts info51
  refine wpList_append_lies w hgd s x 31 ho B 51 i0 _ 2 24 (by kernel_rfl) hi hz0 hz1 hz2 rfl (by decide) v vs.length _ hs hF ⟨p, 0, none⟩ 1 1 (cellsP u) hx rfl ?_ ?_ (by decide) (by unfold maxLen; omega) (by omega) hB w.heap.size rfl ?_
  · intro j c hc
    rw [addr_add, cell_of_row w p _ _ _ _ hp, ← hc]
    simp [cellsP]
  · intro c hc
    simp [cellsP] at hc
    rcases hc with rfl | rfl <;> rfl
  · intro g cap w' hw hg hat hlt
    refine h g cap w' ?_ ⟨hg.os, hg.tape, hg.output, hg.size, fun k hk => hg.block k (by omega) ?_⟩
    · show w'.ownsRow B 51 2 _ (vs ++ [u]).length _
      rw [List.flatMap_append, List.length_append]
      simpa using hw
    · intro e
      have := (hF.lt k e.symm).1
      omega

def blkV : Value → Nat
  | .slice (some a) _ _ => a.block
  | _ => 0
set_option maxRecDepth 100000 in
set_option maxHeartbeats 4000000 in
theorem Values_any (ls : List Int) (w : World) (v : Value) (hv : IRd w v ls) : Calls Try.prog 15 #[v] w fun e w' => ∃ u, e = .returned u ∧ Ext w w' ∧ VRd All w' (valuesE ls) u ∧ PR w.heap.size w' u (valuesE ls) ∧ (valuesE ls = [] → u = .slice none 0 0) := by
  obtain ⟨A, cap, rfl, hlen, hrange, hc⟩ := hv
  have HVR := Lib.hid (valN_range 0 (ls.take 6) (fun z hz => hrange z (List.mem_of_mem_take hz)))
  have HC := Lib.hid hc
  have hle : (ls.length : Int) ≤ 9223372036854775807 := by omega
  clear hc hrange
  go_enter Try.func15, Try.ntmps15
  go_wp2_with (fail)
  go_loopw [3, 4] (fun l k wr => ∃ j : Nat, k = .int .i64 j ∧ j ≤ ls.length ∧ j ≤ 6 ∧ PR w.heap.size wr l (valN 0 (ls.take j)) ∧ Ext w wr ∧ Hid (j = 0 → l = .slice none 0 0)) (fun _ k _ => 6 - (intOf k).toNat)
  case atStart => exact ⟨0, by go_num, Nat.zero_le _, by omega, World.ownsRow_nil w _ 51 2, Ext.refl _, Lib.hid (fun _ => rfl)⟩
  case round =>
    obtain ⟨j, rfl, hj, hj6, hF, hx, hz⟩ := hrel
    have HF := Lib.hid hF
    clear hF
    have hlv : (valN 0 (ls.take j)).length = j := by rw [valN_length, List.length_take]; omega
    by_cases hgo : j < ls.length ∧ j < 6
    · obtain ⟨hlt, h6⟩ := hgo
      have hne : ¬ ls = [] := by intro e; rw [e] at hlt; simp at hlt
      obtain ⟨b, off, rfl, hc⟩ := HC.out.resolve_left hne
      have hcj := hc j hlt
      have hbw := World.block_lt_of_cell? w _ hcj
      have hcr := (hx.cells.1 _ _ hbw).trans hcj
      have hbr := Nat.lt_of_lt_of_le hbw hx.size
      have hs : valN 0 (ls.take (j + 1)) = valN 0 (ls.take j) ++ [(nameB4 (j % 4), ls[j])] := by
        rw [List.take_add_one, List.getElem?_eq_getElem hlt, Option.toList_some, valN_snoc, List.length_take, show 0 + min j ls.length = j by omega]
      have HS := Lib.hid hs
      have HL := Lib.hid hlv
      generalize valN 0 (ls.take j) = st at *
      generalize ls[j] = z at *
      have kt : ((j : Int)).tmod 4 = (j : Int) % 4 := Int.tmod_eq_emod_of_nonneg (by omega)
      have k0 : 0 ≤ (j : Int) % 4 := by omega
      have k1 : (j : Int) % 4 < 4 := by omega
      have k2 : ((j : Int) % 4).toNat = j % 4 := by omega
      have k6 : (j : Int) ≤ 5 := by omega
      have k7 : (j : Int) < (ls.length : Int) := by omega
      clear hs hlv hcj hc HC
      go_wp2_with (fail)
      refine Rr.wp_region [(0, .y), (2, .y), (3, .y), (6, .y), (7, .y), (8, .y), (9, .y), (1, .z), (4, .y), (5, .y), (10, .y), (11, .z)] (fun _ => (.cells #[] 29, Rg.ptr)) (by kernel_rfl) (by kernel_rfl) ?_
      (refine Rr.wr_y (by simp only [List.getElem?_toArray, List.getElem?_cons_succ, List.getElem?_cons_zero]; rfl) (by rfl) ?_
       apply Exists.intro
       refine ⟨fun wz hw _ => ?_, ?_⟩
       · have hcz := hw.cells.1
         go_simp
         (with_reducible exact Rg.up_value)
       simp only [Act.put, List.setIfInBounds_toArray, List.set_cons_zero, List.set_cons_succ])
      (refine Rr.wr_y (by simp only [List.getElem?_toArray, List.getElem?_cons_succ, List.getElem?_cons_zero]; rfl) (by rfl) ?_
       apply Exists.intro
       refine ⟨fun wz hw _ => ?_, ?_⟩
       · have hcz := hw.cells.1
         go_simp
         (with_reducible exact Rg.up_value)
       simp only [Act.put, List.setIfInBounds_toArray, List.set_cons_zero, List.set_cons_succ])
      (refine Rr.wr_y (by simp only [List.getElem?_toArray, List.getElem?_cons_succ, List.getElem?_cons_zero]; rfl) (by rfl) ?_
       apply Exists.intro
       refine ⟨fun wz hw _ => ?_, ?_⟩
       · have hcz := hw.cells.1
         go_simp
         (with_reducible exact Rg.up_value)
       simp only [Act.put, List.setIfInBounds_toArray, List.set_cons_zero, List.set_cons_succ])
      (refine Rr.wr_y (by simp only [List.getElem?_toArray, List.getElem?_cons_succ, List.getElem?_cons_zero]; rfl) (by rfl) ?_
       apply Exists.intro
       refine ⟨fun wz hw _ => ?_, ?_⟩
       · have hcz := hw.cells.1
         go_simp
         (with_reducible exact Rg.up_value)
       simp only [Act.put, List.setIfInBounds_toArray, List.set_cons_zero, List.set_cons_succ])
      (refine Rr.wr_y (by simp only [List.getElem?_toArray, List.getElem?_cons_succ, List.getElem?_cons_zero]; rfl) (by rfl) ?_
       apply Exists.intro
       refine ⟨fun wz hw _ => ?_, ?_⟩
       · have hcz := hw.cells.1
         go_simp
         (with_reducible exact Rg.up_value)
       simp only [Act.put, List.setIfInBounds_toArray, List.set_cons_zero, List.set_cons_succ])
      (refine Rr.wr_y (by simp only [List.getElem?_toArray, List.getElem?_cons_succ, List.getElem?_cons_zero]; rfl) (by rfl) ?_
       apply Exists.intro
       refine ⟨fun wz hw _ => ?_, ?_⟩
       · have hcz := hw.cells.1
         go_simp
         (with_reducible exact Rg.up_value)
       simp only [Act.put, List.setIfInBounds_toArray, List.set_cons_zero, List.set_cons_succ])
      (refine Rr.wr_y (by simp only [List.getElem?_toArray, List.getElem?_cons_succ, List.getElem?_cons_zero]; rfl) (by rfl) ?_
       apply Exists.intro
       refine ⟨fun wz hw _ => ?_, ?_⟩
       · have hcz := hw.cells.1
         go_simp
         (with_reducible exact Rg.up_value)
       simp only [Act.put, List.setIfInBounds_toArray, List.set_cons_zero, List.set_cons_succ])
      refine Rr.wr_z (fun v w' => ∃ p, v = .slice (some ⟨p, 0, none⟩) 4 4 ∧ w'.heap[p]? = some (.cells #[.string priceB, .string lowB, .string qualB, .string ⟨#[100, 97, 121, 115]⟩] 9)) (by simp only [List.getElem?_toArray, List.getElem?_cons_succ, List.getElem?_cons_zero]; rfl) (by rfl) (fun v w1 w2 h e => by obtain ⟨p, h1, h2⟩ := h; exact ⟨p, h1, (e.block p (Rg.lt_of_heap h2)).trans h2⟩) (fun wz hw hh => ?_) (fun u1 => ?_)
      · go_simp
        apply Rr.upR_enter
        (with_reducible refine (Names_any _).mono ?_)
        rintro e w3 ⟨p, rfl, -, hh3, hx3⟩
        exact ⟨_, rfl, hx3, p, rfl, hh3⟩
      simp only [Act.put, List.setIfInBounds_toArray, List.set_cons_zero, List.set_cons_succ]
      refine Rr.wr_y (by simp only [List.getElem?_toArray, List.getElem?_cons_succ, List.getElem?_cons_zero]; rfl) (by rfl) ⟨.pointer (some ⟨blkV u1, j % 4, none⟩), fun wz hw hh => ?_, ?_⟩
      · obtain ⟨p, rfl, hp⟩ := holds_hd hh
        go_simp
        exact Rg.up_value
      simp only [Act.put, List.setIfInBounds_toArray, List.set_cons_zero, List.set_cons_succ]
      refine Rr.wr_y (by simp only [List.getElem?_toArray, List.getElem?_cons_succ, List.getElem?_cons_zero]; rfl) (by rfl) ⟨.string (nameB4 (j % 4)), fun wz hw hh => ?_, ?_⟩
      · obtain ⟨p, rfl, hp⟩ := holds_hd hh
        have hcn := nameTab_at hp (j % 4) (by omega)
        show Rg.up _ _ _ _
        simp only [blkV]
        go_simp
        exact Rg.up_value
      simp only [Act.put, List.setIfInBounds_toArray, List.set_cons_zero, List.set_cons_succ]
      (refine Rr.wr_y (by simp only [List.getElem?_toArray, List.getElem?_cons_succ, List.getElem?_cons_zero]; rfl) (by rfl) ?_
       apply Exists.intro
       refine ⟨fun wz hw _ => ?_, ?_⟩
       · have hcz := hw.cells.1
         go_simp
         (with_reducible exact Rg.up_value)
       simp only [Act.put, List.setIfInBounds_toArray, List.set_cons_zero, List.set_cons_succ])
      refine Rr.wr_z (fun v w' => ∃ p', v = .slice (some ⟨p', 0, none⟩) 1 1 ∧ w'.heap[p']? = some (.cells #[.string (nameB4 (j % 4)), .int .i64 z] 51)) (by simp only [List.getElem?_toArray, List.getElem?_cons_succ, List.getElem?_cons_zero]; rfl) (by rfl) (fun v w1 w2 h e => by obtain ⟨p, h1, h2⟩ := h; exact ⟨p, h1, (e.block p (Rg.lt_of_heap h2)).trans h2⟩) (fun wz hw hh => ?_) (fun u2 => ?_)
      · go_simp
        exact Rr.upR_value (Ext.alloc (Ext.refl _) _) ⟨_, rfl, block_new rfl⟩
      simp only [Act.put, List.setIfInBounds_toArray, List.set_cons_zero, List.set_cons_succ]
      refine Rr.wr_nil ?_
      intro wy hy hh
      obtain ⟨p', rfl, hp'⟩ := holds_hd hh
      simp only [List.length_cons, List.length_nil, List.drop_succ_cons, List.drop_zero, Nat.reduceAdd]
      have HP := Lib.hid hp'
      have HF7 := Lib.hid (PR.ext HF.out hy)
      clear hh hp'
      refine append_val rfl (.tmp 15) (.tmp 26) rfl w.heap.size _ st (by rfl) HF7.out p' (nameB4 (j % 4), z) (by rfl) HP.out (by have := HL.out; omega) (by have := hx.size; have := hy.size; omega) ?_
      intro g' cap' w6 hF6 hb6
      have HF6 := Lib.hid hF6
      clear hF6
      go_wp2
      go_roundw
      case rel => exact ⟨j + 1, by go_num, by omega, by omega, by rw [HS.out]; exact HF6.out, Below.trans (hx.trans hy) hb6, Lib.hid (fun h => by omega)⟩
      case measure => simp [intOf]; omega
    · have ht : ls.take 6 = ls.take j := by
        rcases Nat.lt_or_ge j 6 with h | h
        · rw [List.take_of_length_le (by omega), List.take_of_length_le (by omega)]
        · rw [show j = 6 by omega]
      have HV := Lib.hid (PR.vrd HF.out (by rw [← ht]; exact HVR.out) (by omega))
      rcases (show ((j : Int) < (ls.length : Int) ∧ ¬ (j : Int) < 6) ∨ ¬ (j : Int) < (ls.length : Int) by omega) with ⟨h1, h2⟩ | h1
      all_goals
        go_wp2
        go_ret
        exact ⟨_, rfl, hx, by unfold valuesE; rw [ht]; exact ⟨HV.out, HF.out, fun h => hz.out (by rw [h] at hlv; exact hlv.symm)⟩⟩
end Go.Proofs.Ytgkdeknfmmgbdaa

namespace Go.Proofs.Ytgkdeknfmmgbdaa
set_option linter.unusedVariables false
set_option linter.unusedSimpArgs false
open Go.RowKit

/-- The first value with a name (0 where there is none), and how many there are. -/
def lkv : Vals → ByteArray → Int × Nat
  | [], _ => (0, 0)
  | x :: l, nm => if x.1.toList == nm.toList then (x.2, (lkv l nm).2 + 1) else lkv l nm
def cmb (n : Int) (m : Nat) (r : Int × Nat) : Int × Nat := if m = 0 then r else (n, m + r.2)
theorem lkv_le (vs : Vals) (nm : ByteArray) : (lkv vs nm).2 ≤ vs.length := by
  induction vs with
  | nil => exact Nat.le_refl _
  | cons x l ih => rw [lkv]; split <;> simp only [List.length_cons] <;> omega
theorem lkv_drop (vs : Vals) (nm : ByteArray) (k : Nat) (h : k < vs.length) : lkv (vs.drop k) nm = if vs[k].1.toList == nm.toList then (vs[k].2, (lkv (vs.drop (k + 1)) nm).2 + 1) else lkv (vs.drop (k + 1)) nm := by
  rw [List.drop_eq_getElem_cons h, lkv]
theorem cmb_yes0 {n : Int} {r : Int × Nat} {m : Nat} (hm : m = 0) (v : Int) : cmb n m (v, r.2 + 1) = cmb v (m + 1) r := by
  subst hm; unfold cmb; rw [if_pos rfl, if_neg (by omega)]; congr 1; omega
theorem cmb_yes {n : Int} {r : Int × Nat} {m : Nat} (hm : ¬ m = 0) (v : Int) : cmb n m (v, r.2 + 1) = cmb n (m + 1) r := by
  unfold cmb; rw [if_neg hm, if_neg (by omega)]; congr 1; omega

set_option maxRecDepth 100000 in
set_option maxHeartbeats 1000000 in
theorem lookup_any (vs : Vals) (nm : ByteArray) (w : World) (sl : Value) (hs : VRd All w vs sl) :
    Calls Try.prog 61 #[sl, .string nm] w fun e w' => e = .returned (.tuple #[.int .i64 (lkv vs nm).1, .int .i64 (lkv vs nm).2]) ∧ Ext w w' := by
  obtain ⟨base, cap, rfl, hlen, hr, hc⟩ := hs
  have HC := Lib.hid hc
  clear hr hc
  have HL := Lib.hid (lkv_le vs nm)
  go_enter Try.func61, Try.ntmps61
  go_wp2
  go_loopw [4, 5, 10] (fun n m i wr => ∃ (k c : Nat) (z : Int), k ≤ vs.length ∧ c ≤ k ∧ i = .int .i64 k ∧ n = .int .i64 z ∧ m = .int .i64 c ∧ Hid (lkv vs nm = cmb z c (lkv (vs.drop k) nm)) ∧ Hid (c = 0 → z = 0) ∧ Ext w wr) (fun _ _ i _ => vs.length - (intOf i).toNat)
  case atStart => exact ⟨0, 0, 0, Nat.zero_le _, Nat.zero_le _, by go_num, by go_num, by go_num, Lib.hid (by unfold cmb; rw [if_pos rfl]; rfl), Lib.hid (fun _ => rfl), Ext.refl _⟩
  case round =>
    obtain ⟨k, c, z, hk, hck, rfl, rfl, rfl, hi, hz, hx⟩ := hrel
    rcases Nat.lt_or_ge k vs.length with hlt | hge
    · obtain ⟨b, rfl, -, hcs⟩ := HC.out.resolve_left (by intro e; rw [e] at hlt; simp at hlt)
      have h0 := (hcs k hlt).1
      have h1 := (hcs k hlt).2
      have hb := World.block_lt_of_cell? w _ h0
      have h0' := (hx.cells.1 b _ hb).trans h0
      have h1' := (hx.cells.1 b _ hb).trans h1
      have HD := Lib.hid (hi.out.trans (congrArg (cmb z c) (lkv_drop vs nm k hlt)))
      generalize vs[k] = u at *
      obtain ⟨un, uz⟩ := u
      clear hcs h0 h1 HL
      cases hq : (un.toList == nm.toList)
      · have HE := Lib.hid (show lkv vs nm = cmb z c (lkv (vs.drop (k + 1)) nm) by rw [HD.out, hq]; rfl)
        go_wp2
        go_roundw
        case rel => exact ⟨k + 1, c, z, by omega, by omega, by go_num, rfl, rfl, HE, hz, (by with_reducible repeat (first | exact Ext.refl _ | assumption | apply Ext.drewN | apply Ext.drew | apply Ext.alloc | (refine Ext.setCell ?_ (by simp <;> omega) _) | (refine Ext.trans ?_ (by assumption))))⟩
        case measure => simp [intOf]; omega
      · rcases Nat.eq_zero_or_pos c with h0c | h0c
        · have HE := Lib.hid (show lkv vs nm = cmb uz (c + 1) (lkv (vs.drop (k + 1)) nm) by rw [HD.out, hq]; exact cmb_yes0 h0c uz)
          have hd : ((c : Int) == 0) = true := by simp [h0c]
          go_wp2
          go_roundw
          case rel => exact ⟨k + 1, c + 1, uz, by omega, by omega, by go_num, rfl, by go_num, HE, Lib.hid (fun h => by omega), (by with_reducible repeat (first | exact Ext.refl _ | assumption | apply Ext.drewN | apply Ext.drew | apply Ext.alloc | (refine Ext.setCell ?_ (by simp <;> omega) _) | (refine Ext.trans ?_ (by assumption))))⟩
          case measure => simp [intOf]; omega
        · have HE := Lib.hid (show lkv vs nm = cmb z (c + 1) (lkv (vs.drop (k + 1)) nm) by rw [HD.out, hq]; exact cmb_yes (by omega) uz)
          have hd : ((c : Int) == 0) = false := by simp; omega
          go_wp2
          go_roundw
          case rel => exact ⟨k + 1, c + 1, z, by omega, by omega, by go_num, rfl, by go_num, HE, Lib.hid (fun h => by omega), (by with_reducible repeat (first | exact Ext.refl _ | assumption | apply Ext.drewN | apply Ext.drew | apply Ext.alloc | (refine Ext.setCell ?_ (by simp <;> omega) _) | (refine Ext.trans ?_ (by assumption))))⟩
          case measure => simp [intOf]; omega
    · have HE := Lib.hid (show lkv vs nm = (z, c) by
        rw [hi.out, List.drop_eq_nil_of_le (by omega), lkv]; unfold cmb
        by_cases h : c = 0
        · rw [if_pos h, h, hz.out h]
        · rw [if_neg h]; rfl)
      have hkl : ¬ (k : Int) < (vs.length : Int) := by omega
      go_wp2
      go_ret2
      exact ⟨by rw [HE.out]; rfl, hx⟩

set_option maxRecDepth 100000 in
set_option maxHeartbeats 1000000 in
/-- The reference's: from the end. -/
theorem Find_any (vs : Vals) (nm : ByteArray) (w : World) (sl : Value) (hs : VRd All w vs sl) :
    Calls Try.prog 65 #[sl, .string nm] w fun e w' => e = .returned (.tuple #[.int .i64 (lkv vs nm).1, .int .i64 (lkv vs nm).2]) ∧ Ext w w' := by
  obtain ⟨base, cap, rfl, hlen, hr, hc⟩ := hs
  have HC := Lib.hid hc
  clear hr hc
  go_enter Try.func65, Try.ntmps65
  go_wp2
  go_loopw [6, 7, 8] (fun n m i wr => ∃ (k : Nat), k ≤ vs.length ∧ i = .int .i64 ((k : Int) - 1) ∧ n = .int .i64 (lkv (vs.drop k) nm).1 ∧ m = .int .i64 (lkv (vs.drop k) nm).2 ∧ Ext w wr) (fun _ _ i _ => (intOf i + 1).toNat)
  case atStart => exact ⟨vs.length, Nat.le_refl _, by go_num, by rw [List.drop_eq_nil_of_le (Nat.le_refl _)]; rfl, by rw [List.drop_eq_nil_of_le (Nat.le_refl _)]; rfl, Ext.refl _⟩
  case round =>
    obtain ⟨k, hk, rfl, rfl, rfl, hx⟩ := hrel
    rcases Nat.eq_zero_or_pos k with rfl | hpos
    · have HE := Lib.hid (show lkv (vs.drop 0) nm = lkv vs nm by rfl)
      generalize lkv (vs.drop 0) nm = r at *
      go_wp2
      go_ret2
      exact ⟨by rw [← HE.out]; rfl, hx⟩
    · obtain ⟨j, rfl⟩ : ∃ j, k = j + 1 := ⟨k - 1, by omega⟩
      have hlt : j < vs.length := by omega
      obtain ⟨b, rfl, -, hcs⟩ := HC.out.resolve_left (by intro e; rw [e] at hlt; simp at hlt)
      have h0 := (hcs j hlt).1
      have h1 := (hcs j hlt).2
      have hb := World.block_lt_of_cell? w _ h0
      have h0' := (hx.cells.1 b _ hb).trans h0
      have h1' := (hx.cells.1 b _ hb).trans h1
      have HD := Lib.hid (lkv_drop vs nm j hlt)
      have hle := lkv_le (vs.drop (j + 1)) nm
      rw [List.length_drop] at hle
      generalize lkv (vs.drop (j + 1)) nm = r at *
      obtain ⟨r1, r2⟩ := r
      have hle' : r2 ≤ 1000000 := by have h : r2 ≤ vs.length - (j + 1) := hle; omega
      generalize vs[j] = u at *
      obtain ⟨un, uz⟩ := u
      have hj : ((j + 1 : Nat) : Int) - 1 = (j : Int) := by omega
      rw [hj]
      clear hcs h0 h1 hle hj
      cases hq : (un.toList == nm.toList)
      · have HE := Lib.hid (show lkv (vs.drop j) nm = (r1, r2) by rw [HD.out, hq]; rfl)
        go_wp2
        go_roundw
        case rel => exact ⟨j, by omega, by go_num, by rw [HE.out], by rw [HE.out], (by with_reducible repeat (first | exact Ext.refl _ | assumption | apply Ext.drewN | apply Ext.drew | apply Ext.alloc | (refine Ext.setCell ?_ (by simp <;> omega) _) | (refine Ext.trans ?_ (by assumption))))⟩
        case measure => simp [intOf]
      · have HE := Lib.hid (show lkv (vs.drop j) nm = (uz, r2 + 1) by rw [HD.out, hq]; rfl)
        go_wp2
        go_roundw
        case rel => exact ⟨j, by omega, by go_num, by rw [HE.out], by rw [HE.out]; go_num, (by with_reducible repeat (first | exact Ext.refl _ | assumption | apply Ext.drewN | apply Ext.drew | apply Ext.alloc | (refine Ext.setCell ?_ (by simp <;> omega) _) | (refine Ext.trans ?_ (by assumption))))⟩
        case measure => simp [intOf]
end Go.Proofs.Ytgkdeknfmmgbdaa

namespace Go.Proofs.Ytgkdeknfmmgbdaa.Rp
set_option linter.unusedVariables false
set_option linter.unusedSimpArgs false
open Go.RowKit Go.Proofs.Ytgkdeknfmmgbdaa Go.Proofs.Ytgkdeknfmmgbdaa.Rr
open Go.Proofs.Ytgkdeknfmmgbdaa.Rg (lt_of_heap)

def mv (p : List Nat) (o : Oper) : Oper := { o with after := o.after.map (fun e => { e with on := p.idxOf e.on }), guard := o.guard.map (fun g => (p.idxOf g.1, g.2)) }
def perm (p : List Nat) (ops : Array Oper) : Array Oper := (p.map fun i => mv p (ops.getD i default)).toArray
def permB (p : List Nat) (n : Nat) : Bool := decide (p.length = n) && p.all (fun i => decide (i < n)) && decide p.Nodup && (List.range n).all (fun i => p.contains i)

structure Perm (p : List Nat) (n : Nat) : Prop where
  len : p.length = n
  lt : ∀ i ∈ p, i < n
  nodup : p.Nodup
  all : ∀ i, i < n → i ∈ p
theorem permB_spec {p : List Nat} {n : Nat} (h : permB p n = true) : Perm p n := by
  simp only [permB, Bool.and_eq_true, decide_eq_true_eq, List.all_eq_true, List.mem_range, List.contains_iff_mem] at h
  exact ⟨h.1.1.1, h.1.1.2, h.1.2, h.2⟩

section
variable {p : List Nat} {n : Nat}
theorem Perm.idx_lt (h : Perm p n) {i : Nat} (hi : i < n) : p.idxOf i < n := by
  rw [← h.len]; exact List.idxOf_lt_length_of_mem (h.all i hi)
theorem Perm.idx_ge (h : Perm p n) {i : Nat} (hi : n ≤ i) : p.idxOf i = n := by
  rw [← h.len]; exact List.idxOf_eq_length (fun hm => by have := h.lt i hm; omega)
theorem Perm.get_idx (h : Perm p n) {i : Nat} (hi : i < n) : p[p.idxOf i]? = some i := by
  have h1 : p.idxOf i < p.length := by rw [h.len]; exact h.idx_lt hi
  rw [List.getElem?_eq_getElem h1, List.getElem_idxOf h1]
theorem Perm.inj (h : Perm p n) {i j : Nat} (hi : i < n) (hj : j < n) (e : p.idxOf i = p.idxOf j) : i = j := by
  have h1 := h.get_idx hi
  rw [e, h.get_idx hj] at h1
  exact (Option.some.inj h1).symm
theorem Perm.idx_get (h : Perm p n) {j : Nat} (hj : j < n) : ∃ i, i < n ∧ p[j]? = some i ∧ p.idxOf i = j := by
  have hj' : j < p.length := by rw [h.len]; exact hj
  have hlt := h.lt p[j] (List.getElem_mem hj')
  refine ⟨p[j], hlt, List.getElem?_eq_getElem hj', ?_⟩
  have h1 := h.get_idx hlt
  have h2 : p.idxOf p[j] < p.length := by rw [h.len]; exact h.idx_lt hlt
  rw [List.getElem?_eq_getElem h2] at h1
  exact (List.getElem_inj h.nodup).1 (Option.some.inj h1)
end

theorem mv_exec (p : List Nat) (o : Oper) (ρ : Operand → Value) : execOp ρ (mv p o) = execOp ρ o := rfl

section
variable {p : List Nat} {n : Nat} {ops : Array Oper} {md : Region.Mode} {P : Program} {Q : Exit → Act → World → Prop}
theorem get_perm (h : Perm p ops.size) {i : Nat} (hi : i < ops.size) : (perm p ops)[p.idxOf i]? = (ops[i]?).map (mv p) := by
  unfold perm
  rw [List.getElem?_toArray, List.getElem?_map, h.get_idx hi, Option.map_some, Array.getElem?_eq_getElem hi, Option.map_some]
  simp [Array.getD, hi]
theorem size_perm (h : Perm p ops.size) : (perm p ops).size = ops.size := by
  unfold perm; simp [h.len]
theorem yielded_perm (h : Perm p ops.size) (t : Array Value) (j : Nat) : yielded (perm p ops) t (p.idxOf j) = yielded ops t j := by
  unfold yielded
  rcases Nat.lt_or_ge j ops.size with hj | hj
  · rw [get_perm h hj]
    cases ops[j]? <;> rfl
  · rw [h.idx_ge hj, Array.getElem?_eq_none (by rw [size_perm h]; exact Nat.le_refl _), Array.getElem?_eq_none hj]
theorem wanted_perm (h : Perm p ops.size) (t : Array Value) (o : Oper) : Region.wanted (mv p o) (yielded (perm p ops) t) = Region.wanted o (yielded ops t) := by
  unfold Region.wanted mv
  cases o.guard with
  | none => rfl
  | some g => simp only [Option.map_some]; rw [yielded_perm h]

def Rl (p : List Nat) (n : Nat) (l l' : Array Bool) : Prop := l.size = n ∧ l'.size = n ∧ ∀ i, i < n → l'[p.idxOf i]? = l[i]?
theorem Rl.getD {l l' : Array Bool} (h : Perm p n) (r : Rl p n l l') (i : Nat) (b : Bool) : l'.getD (p.idxOf i) b = l.getD i b := by
  obtain ⟨h1, h2, h3⟩ := r
  rw [Array.getD_eq_getD_getElem?, Array.getD_eq_getD_getElem?]
  rcases Nat.lt_or_ge i n with hi | hi
  · rw [h3 i hi]
  · rw [h.idx_ge hi, Array.getElem?_eq_none (by omega), Array.getElem?_eq_none (by omega)]
theorem Rl.set {l l' : Array Bool} (h : Perm p n) (r : Rl p n l l') {i : Nat} (hi : i < n) : Rl p n (l.setIfInBounds i true) (l'.setIfInBounds (p.idxOf i) true) := by
  obtain ⟨h1, h2, h3⟩ := r
  refine ⟨by simpa using h1, by simpa using h2, fun k hk => ?_⟩
  rw [Array.getElem?_setIfInBounds, Array.getElem?_setIfInBounds]
  by_cases e : i = k
  · subst e
    have := h.idx_lt hi
    simp [h1, h2, hi, this]
  · have : p.idxOf i ≠ p.idxOf k := fun e' => e (h.inj hi hk e')
    rw [if_neg this, if_neg e, h3 k hk]

theorem ready_perm (h : Perm p ops.size) {l l' : Array Bool} (r : Rl p ops.size l l') {i : Nat} (hi : i < ops.size) : p.idxOf i ∈ Region.ready md (perm p ops) l' ↔ i ∈ Region.ready md ops l := by
  rw [mem_ready, mem_ready, r.getD h, get_perm h hi]
  refine and_congr_right fun _ => ?_
  cases ho : ops[i]? with
  | none => simp
  | some o =>
    simp only [Option.map_some, Option.some.injEq, exists_eq_left']
    constructor
    · intro h1 e he hb
      have := h1 { e with on := p.idxOf e.on } (by simp only [mv]; exact Array.mem_map.2 ⟨e, he, rfl⟩) hb
      rwa [r.getD h] at this
    · intro h1 e he hb
      simp only [mv] at he
      obtain ⟨e', he', rfl⟩ := Array.mem_map.1 he
      rw [r.getD h]
      exact h1 e' he' hb

theorem ready_lt {l : Array Bool} {i : Nat} (h : i ∈ Region.ready md ops l) : i < ops.size := by
  obtain ⟨_, o, ho, _⟩ := mem_ready.1 h
  exact (Array.getElem?_eq_some_iff.1 ho).1

theorem wpOp_perm (h : Perm p ops.size) {i : Nat} (hi : i < ops.size) {K : Act → World → Prop} {a : Act} {w : World} (hh : wpOp P (perm p ops) Q (p.idxOf i) K a w) : wpOp P ops Q i K a w := by
  unfold wpOp at *
  rw [get_perm h hi] at hh
  cases ho : ops[i]? with
  | none => rw [ho] at hh; exact hh
  | some o =>
    rw [ho] at hh
    simp only [Option.map_some] at hh ⊢
    rw [wanted_perm h] at hh
    exact hh

theorem wpAny_perm (h : Perm p ops.size) : ∀ (f : Nat) (l l' : Array Bool) (a : Act) (w : World), Rl p ops.size l l' → wpAny P md (perm p ops) Q f l' a w → wpAny P md ops Q f l a w
  | 0, l, l', a, w, r, hh => by
    refine ⟨?_, hh.2⟩
    refine List.eq_nil_iff_forall_not_mem.2 fun i hi => ?_
    have := (ready_perm h r (ready_lt hi)).2 hi
    rw [hh.1] at this
    cases this
  | f + 1, l, l', a, w, r, hh => by
    refine ⟨fun h0 => hh.1 (List.eq_nil_iff_forall_not_mem.2 fun j hj => ?_), fun i hi => ?_⟩
    · have hjl := ready_lt hj
      rw [size_perm h] at hjl
      obtain ⟨i, hi, _, rfl⟩ := h.idx_get hjl
      have := (ready_perm h r hi).1 hj
      rw [h0] at this
      cases this
    · have hil := ready_lt hi
      refine wpOp_perm h hil (wpOp_mono (fun a w hk => ?_) (hh.2 _ ((ready_perm h r hil).2 hi)))
      exact wpAny_perm h f _ _ a w (r.set h hil) hk

theorem wpList_perm (h : Perm p ops.size) : ∀ (l : List Oper) (a : Act) (w : World), wpList P ops Q l a w → wpList P (perm p ops) Q (l.map (mv p)) a w
  | [], _, _, hh => hh
  | o :: rest, a, w, hh => by
    rw [List.map_cons]
    unfold wpList at hh ⊢
    rw [wanted_perm h]
    by_cases hw : Region.wanted o (yielded ops a.tmps) = true
    · rw [if_pos hw] at hh ⊢
      exact hh.imp (Oper.wp_mono (fun a w hk => wpList_perm h rest a w hk)) id
    · rw [if_neg hw] at hh ⊢
      exact wpList_perm h rest _ w hh
end

section
variable {P : Program} {ops : Array Oper} {w0 : World} {Pn : Pnc} {p : List Nat} {M : Nat → Obj × (Nat → Value)}
theorem Y_perm (h : Perm p ops.size) {fs : Fs} {o : Oper} {v : Value} {a : Act} (hy : Y P ops w0 fs o v a) : Y P (perm p ops) w0 fs (mv p o) v a := by
  unfold Y at *
  rw [mv_exec, wanted_perm h]
  exact hy
theorem Z_perm (h : Perm p ops.size) {fs : Fs} {o : Oper} {R : Value → World → Prop} {a : Act} (hy : Z P Pn ops w0 fs o R a) : Z P Pn (perm p ops) w0 fs (mv p o) R a := by
  unfold Z at *
  rw [mv_exec, wanted_perm h]
  exact hy
theorem Mk_perm (h : Perm p ops.size) {o : Oper} {m : Obj × (Nat → Value)} {a : Act} (hy : Mk P ops o m a) : Mk P (perm p ops) (mv p o) m a := by
  unfold Mk at *
  rw [mv_exec, wanted_perm h]
  exact hy

def re (p : List Nat) (s : List (Nat × Kd)) : List (Nat × Kd) := s.map fun x => (p.idxOf x.1, x.2)
theorem wr_perm (h : Perm p ops.size) {fin fin' : Act → Fs → Prop} (hf : ∀ a fs, fin a fs → fin' a fs) : ∀ (s : List (Nat × Kd)) (a : Act) (bs : List Nat) (fs : Fs),
    wr P Pn ops w0 M fin s a bs fs → wr P Pn (perm p ops) w0 (fun j => M (p.getD j 0)) fin' (re p s) a bs fs
  | [], a, bs, fs, hh => hf a fs hh
  | (i, k) :: rest, a, bs, fs, hh => by
    have key : ∀ o, ops[i]? = some o → (perm p ops)[p.idxOf i]? = some (mv p o) ∧ p.getD (p.idxOf i) 0 = i := fun o ho => by
      have hi := (Array.getElem?_eq_some_iff.1 ho).1
      exact ⟨by rw [get_perm h hi, ho]; rfl, by rw [List.getD_eq_getElem?_getD, h.get_idx hi]; rfl⟩
    unfold re
    rw [List.map_cons]
    cases k with
    | y =>
      obtain ⟨o, ho, v, hy, hk⟩ := hh
      exact ⟨mv p o, (key o ho).1, v, Y_perm h hy, wr_perm h hf rest _ _ _ hk⟩
    | z =>
      obtain ⟨o, ho, R, hy, hk⟩ := hh
      exact ⟨mv p o, (key o ho).1, R, Z_perm h hy, fun v => wr_perm h hf rest _ _ _ (hk v)⟩
    | m =>
      obtain ⟨o, ho, hy, hk⟩ := hh
      refine ⟨mv p o, (key o ho).1, ?_, fun q hq => ?_⟩
      · simp only [(key o ho).2]; exact Mk_perm h hy
      · simp only [(key o ho).2]; exact wr_perm h hf rest _ _ _ (hk q hq)

def allT (P : Program) (s : List (Nat × Kd)) (tl : List Nat) (E : List Nat) (l : List Oper) : Bool :=
  permB (s.map (·.1) ++ tl) l.length && allR P .any (perm (s.map (·.1) ++ tl) l.toArray) (E.map fun i => (s.map (·.1) ++ tl).idxOf i) (re (s.map (·.1) ++ tl) s)

theorem wpAny_G {Q : Exit → Act → World → Prop} {a : Act} {w : World} {l : List Oper} (E : List Nat) (s : List (Nat × Kd)) (M : Nat → Obj × (Nat → Value)) (Pn : Pnc) (hQ : ∀ c a' w', a'.defers = a.defers → Ext w w' → Pn c w' → Q (.panic c) a' w')
    (hQp : E ≠ [] → ∀ c a d v w, Q (.panic c) (a.put d v) w → Q (.panic c) a w) (hB : allR P .any l.toArray E s = true)
    (h : wr P Pn l.toArray w M (fun a fs => ∀ w', Ext w w' → Holds fs w' → wpList P l.toArray Q (l.drop s.length) a w') s a [] []) : wpAny P .any l.toArray Q l.toArray.size (Array.replicate l.toArray.size false) a { w with drawn := w.drawn + 1 } := by
  simp only [allR, Bool.and_eq_true, decide_eq_true_eq] at hB
  obtain ⟨⟨⟨⟨⟨hsel, hn⟩, hs⟩, hc⟩, heb⟩, hlex⟩ := hB
  have hn' : s.length < l.length := by simpa using hn
  have hdl : (l.drop s.length).length = l.toArray.size - s.length := by simp
  have inv0 : HeadInv .any l.toArray s.length (Array.replicate l.toArray.size false) :=
    ⟨by simp, fun j oj _ hl => (by rw [getD_replicate_false] at hl; cases hl), fun t _ ht => getD_in (by simpa using ht) (getD_replicate_false _ _)⟩
  let T : Array Bool → Act → Fs → Prop := fun listed a fs => Region.seqB .any l.toArray (l.toArray.size - s.length) s.length listed = true ∧ ∀ w', Ext w w' → Holds fs w' → wpList P l.toArray Q (l.drop s.length) a w'
  have H := WX_lex (P := P) (Pn := Pn) (E := E) (w0 := w) (M := M) (md := .any) (kd := kdOf s) (T := T) (fun _ _ _ _ l h => ⟨h.1, fun w' e hf => h.2 w' e (hf.le l)⟩) hsel hs hc hn (fun listed a fs hT j hj => seqB_ready hT.1 j (mem_rdy.1 hj).1) (fun listed a fs h1 h2 => ⟨h1, h2⟩) s _ a [] [] inv0 hlex h
  have := WX.sound (Q := Q) (g := l.toArray.size - s.length) (fun listed a' fs w' hT hw hF => by
    have := wpAny_of_seq (md := .any) (Q' := Q) (l.drop s.length) s.length listed a' w' (fun j => by simp [List.getElem?_drop]) (by rw [hdl]; exact hT.1) (hT.2 w' hw hF)
    rwa [hdl] at this) hQ (Region.noSelect_spec hsel) heb hQp _ _ _ _ _ { w with drawn := w.drawn + 1 } rfl inv0 H (Ext.drew (Ext.refl w)) (fun b hb => by cases hb) (fun b hb => by cases hb) (fun b hb => by cases hb)
  rw [show s.length + (l.toArray.size - s.length) = l.toArray.size by omega] at this
  exact this

/-- As Rr.wp_regionG, the forced operations being those at the places tl. -/
theorem wp_regionG {id : Nat} {Q : Exit → Act → World → Prop} {a : Act} {w : World} {l : List Oper} (E : List Nat) (s : List (Nat × Kd)) (tl : List Nat) (M : Nat → Obj × (Nat → Value)) (Pn : Pnc) (hQ : ∀ c a' w', a'.defers = a.defers → Ext w w' → Pn c w' → Q (.panic c) a' w')
    (hQp : E ≠ [] → ∀ c a d v w, Q (.panic c) (a.put d v) w → Q (.panic c) a w) (hm : P.follows .mixedOrders = true) (hB : allT P s tl E l = true)
    (h : wr P Pn l.toArray w M (fun a fs => ∀ w', Ext w w' → Holds fs w' → wpList P l.toArray Q (tl.filterMap (l[·]?)) a w') s a [] []) : (Code.region id l.toArray true).wp P Q a w := by
  unfold allT at hB
  rw [Bool.and_eq_true] at hB
  obtain ⟨hp, hB⟩ := hB
  generalize hpe : s.map (·.1) ++ tl = p at *
  have hP : Perm p l.toArray.size := by simpa using permB_spec hp
  have htl : ∀ i ∈ tl, i < l.length := fun i hi => by simpa using hP.lt i (by rw [← hpe]; exact List.mem_append_right _ hi)
  have hdrop : (perm p l.toArray).toList.drop (re p s).length = (tl.filterMap (l[·]?)).map (mv p) := by
    unfold perm re
    rw [List.length_map]
    show (p.map _).drop s.length = _
    rw [← List.map_drop, show p.drop s.length = tl by rw [← hpe, List.drop_append_of_le_length (by simp), List.drop_eq_nil_of_le (by simp), List.nil_append]]
    clear hpe hB hp hP h
    induction tl with
    | nil => rfl
    | cons i t ih =>
      have hi := htl i List.mem_cons_self
      rw [List.map_cons, ih (fun j hj => htl j (List.mem_cons_of_mem _ hj)), List.filterMap_cons, List.getElem?_eq_getElem hi]
      simp [Array.getD, hi]
  refine wp_region_any hm ?_
  refine wpAny_perm hP _ (Array.replicate l.toArray.size false) (Array.replicate l.toArray.size false) a _ ⟨by simp, by simp, fun i hi => by rw [Array.getElem?_replicate, Array.getElem?_replicate, if_pos hi, if_pos (hP.idx_lt hi)]⟩ ?_
  have key := wpAny_G (l := (perm p l.toArray).toList) (w := w) (a := a) (Q := Q) (P := P) (E.map fun i => p.idxOf i) (re p s) (fun j => M (p.getD j 0)) Pn hQ (fun hne => hQp (fun h0 => hne (by rw [h0]; rfl))) (by simpa using hB) (by
    rw [hdrop]
    exact wr_perm hP (fun a fs hf w' e hh => wpList_perm hP _ a w' (hf w' e hh)) s a [] [] h)
  have hs := size_perm hP
  simpa [hs] using key
theorem wp_regionT {id : Nat} {Q : Exit → Act → World → Prop} {a : Act} {w : World} {l : List Oper} (s : List (Nat × Kd)) (tl : List Nat) (M : Nat → Obj × (Nat → Value)) (hm : P.follows .mixedOrders = true) (hB : allT P s tl [] l = true)
    (h : wr P (fun _ _ => False) l.toArray w M (fun a fs => ∀ w', Ext w w' → Holds fs w' → wpList P l.toArray Q (tl.filterMap (l[·]?)) a w') s a [] []) : (Code.region id l.toArray true).wp P Q a w :=
  wp_regionG [] s tl M _ (fun _ _ _ _ _ h => h.elim) (fun h => absurd rfl h) hm hB h
theorem wp_regionTE {id : Nat} {Q : Exit → Act → World → Prop} {a : Act} {w : World} {l : List Oper} (E : List Nat) (s : List (Nat × Kd)) (tl : List Nat) (M : Nat → Obj × (Nat → Value)) (hQp : ∀ c a d v w, Q (.panic c) (a.put d v) w → Q (.panic c) a w) (hm : P.follows .mixedOrders = true) (hB : allT P s tl E l = true)
    (h : wr P (fun _ _ => False) l.toArray w M (fun a fs => ∀ w', Ext w w' → Holds fs w' → wpList P l.toArray Q (tl.filterMap (l[·]?)) a w') s a [] []) : (Code.region id l.toArray true).wp P Q a w :=
  wp_regionG E s tl M _ (fun _ _ _ _ _ h => h.elim) (fun _ => hQp) hm hB h
end
end Go.Proofs.Ytgkdeknfmmgbdaa.Rp

namespace Go.Proofs.Ytgkdeknfmmgbdaa
set_option linter.unusedVariables false
set_option linter.unusedSimpArgs false
open Go.RowKit

/-- The slice v reads as xs, each of sz cells. -/
def SR {α : Type} (cs : α → List Value) (sz : Nat) (w : World) (v : Value) (xs : List α) : Prop :=
  ∃ base cap, v = .slice base xs.length cap ∧ xs.length ≤ 1000000 ∧ (xs = [] ∨ ∃ b, base = some ⟨b, 0, none⟩ ∧ ∀ k (h : k < xs.length) j u, (cs xs[k])[j]? = some u → w.cell? ⟨b, k * sz + j, none⟩ = some u)
theorem SR.ext {α : Type} {cs : α → List Value} {sz : Nat} {w w' : World} {v : Value} {xs : List α} (h : SR cs sz w v xs) (e : Ext w w') : SR cs sz w' v xs := by
  obtain ⟨base, cap, h1, h2, h3⟩ := h
  exact ⟨base, cap, h1, h2, h3.imp id fun ⟨b, hb, hc⟩ => ⟨b, hb, fun k hk j u hu => (e.cells.1 _ _ (World.block_lt_of_cell? w _ (hc k hk j u hu))).trans (hc k hk j u hu)⟩⟩
theorem SR.form {α : Type} {cs : α → List Value} {sz : Nat} {w : World} {v : Value} {xs : List α} (h : SR cs sz w v xs) : ∃ base cap, v = .slice base xs.length cap := by
  obtain ⟨base, cap, h1, -⟩ := h
  exact ⟨base, cap, h1⟩
theorem SR.le {α : Type} {cs : α → List Value} {sz : Nat} {w : World} {v : Value} {xs : List α} (h : SR cs sz w v xs) : xs.length ≤ 1000000 := by
  obtain ⟨base, cap, h1, h2, -⟩ := h
  exact h2
/-- The block, where there is an element. -/
theorem SR.block {α : Type} {cs : α → List Value} {sz : Nat} {w : World} {base : Option Addr} {n c : Nat} {xs : List α} (h : SR cs sz w (.slice base n c) xs) (k : Nat) (hk : k < xs.length) :
    ∃ b, base = some ⟨b, 0, none⟩ ∧ n = xs.length ∧ ∀ k (h : k < xs.length) j u, (cs xs[k])[j]? = some u → w.cell? ⟨b, k * sz + j, none⟩ = some u := by
  obtain ⟨base', cap, h1, h2, h3⟩ := h
  injection h1 with e1 e2 e3
  subst e1 e2
  obtain ⟨b, hb, hc⟩ := h3.resolve_left (by intro e; rw [e] at hk; simp at hk)
  exact ⟨b, hb, rfl, hc⟩
theorem flat_get {α : Type} {cs : α → List Value} {sz : Nat} : ∀ (us : List α) (_ : ∀ x ∈ us, (cs x).length = sz) (k : Nat) (h : k < us.length) (j : Nat) (u : Value), (cs us[k])[j]? = some u → (us.flatMap cs)[k * sz + j]? = some u
  | x :: us, hl, 0, h, j, u, hu => by
    have hj : j < (cs x).length := (List.getElem?_eq_some_iff.1 hu).1
    rw [List.flatMap_cons, List.getElem?_append_left (by omega), Nat.zero_mul, Nat.zero_add]
    exact hu
  | x :: us, hl, k + 1, h, j, u, hu => by
    have h1 := hl x List.mem_cons_self
    have h2 : (k + 1) * sz = k * sz + sz := Nat.succ_mul k sz
    rw [List.flatMap_cons, List.getElem?_append_right (by omega), show (k + 1) * sz + j - (cs x).length = k * sz + j by omega]
    exact flat_get us (fun y hy => hl y (List.mem_cons_of_mem _ hy)) k (by simpa using h) j u hu
theorem SR.of_row {α : Type} {cs : α → List Value} {sz : Nat} (hl : ∀ x, (cs x).length = sz) {B E : Nat} {w : World} {v : Value} {xs : List α} (h : w.ownsRow B E sz v xs.length (xs.flatMap cs)) (hn : xs.length ≤ 1000000) : SR cs sz w v xs := by
  by_cases h0 : xs = []
  · subst h0
    rcases h.2 with ⟨hn, -⟩ | ⟨g, cap, cur, hv, -⟩
    · exact ⟨none, 0, hn, by simp, .inl rfl⟩
    · exact ⟨_, cap, hv, by simp, .inl rfl⟩
  · have hp : 0 < xs.length := List.length_pos_iff.2 h0
    obtain ⟨g, cap, rfl, -, hlt⟩ := h.form hp
    refine ⟨_, cap, rfl, hn, .inr ⟨g, rfl, fun k hk j u hu => ?_⟩⟩
    have h1 := flat_get xs (fun x _ => hl x) k hk j u hu
    rw [h.cellAt (k * sz + j) (by rw [← h.1]; exact (List.getElem?_eq_some_iff.1 h1).1)]
    exact h1
theorem row_ext {B E sz n : Nat} {w w' : World} {v : Value} {xs : List Value} (ho : w.ownsRow B E sz v n xs) (e : Ext w w') : w'.ownsRow B E sz v n xs := by
  refine ⟨ho.1, ?_⟩
  rcases ho.2 with hn | ⟨g, cap, cur, hv, hb, hg, rest⟩
  · exact .inl hn
  · exact .inr ⟨g, cap, cur, hv, hb, (e.block g (Rg.lt_of_heap hg)).trans hg, rest⟩

/-- 'append' of one element, which lies in a block of its own. -/
theorem append_one {α : Type} {cs : α → List Value} {sz : Nat} (hl : ∀ x, (cs x).length = sz ∧ ∀ c ∈ cs x, c.oneCell' = true) (T E bytes : Nat) {z : Value} (hT : Try.prog.underlying T = some (.slice E))
    (hinfo : (Try.prog.info? E).map (fun i => (i.zero, i.size, i.bytes)) = some (some z, sz, bytes)) (hz : z.cells.size = sz) (h0 : 0 < sz) (hby : bytes ≤ 100000)
    {ops : Array Oper} {rest : List Oper} {o : Oper} {a : Act} {Q : Exit → Act → World → Prop} {w : World} (hgd : o.guard = none) (s x : Operand)
    (ho : o.op = .call { callee := .builtin .append, args := #[s, x], argTypes := #[T, T] }) (B : Nat) (v : Value) (vs : List α) (hs : a.eval s = v) (hF : w.ownsRow B E sz v vs.length (vs.flatMap cs))
    (p : Nat) (u : α) (hx : a.eval x = .slice (some ⟨p, 0, none⟩) 1 1) (hp : w.heap[p]? = some (.cells (cs u).toArray E)) (hn : vs.length < 1000000) (hB : B ≤ w.heap.size)
    (h : ∀ g cap w', w'.ownsRow B E sz (.slice (some ⟨g, 0, none⟩) (vs.length + 1) cap) (vs ++ [u]).length ((vs ++ [u]).flatMap cs) → Below B w w' → wpList Try.prog ops Q rest (a.put o.dst (.slice (some ⟨g, 0, none⟩) (vs.length + 1) cap)) w') : wpList Try.prog ops Q (o :: rest) a w := by
  obtain ⟨i0, hi, hz0, hz1, hz2⟩ := info_parts hinfo
  refine wpList_append_lies w hgd s x T ho B E i0 _ sz bytes hT hi hz0 hz1 hz2 hz h0 v vs.length _ hs hF ⟨p, 0, none⟩ 1 1 (cs u) hx (by rw [(hl u).1, Nat.one_mul]) ?_ (hl u).2 (by decide) (by unfold maxLen; omega) ?_ hB w.heap.size rfl ?_
  · intro j c hc
    rw [addr_add, cell_of_row w p _ _ _ _ hp]
    simpa using hc
  · have : (vs.length + 1) * bytes ≤ 1000000 * 100000 := Nat.mul_le_mul (by omega) hby
    omega
  · intro g cap w' hw hg hat hlt
    refine h g cap w' ?_ ⟨hg.os, hg.tape, hg.output, hg.size, fun k hk => hg.block k (by omega) ?_⟩
    · rw [List.flatMap_append, List.length_append]
      simpa using hw
    · intro e
      have := (hF.lt k e.symm).1
      omega

/-- A criterion and a requirement. -/
structure Cr where
  name : ByteArray
  kind : Int
  low : Int
  high : Int
  less : Bool
structure Rq where
  name : ByteArray
  rel : ByteArray
  value : Int
def cellsLot (p : Int × Int) : List Value := [.int .i64 p.1, .int .i64 p.2]
def cellsCr (c : Cr) : List Value := [.string c.name, .int .i64 c.kind, .int .i64 c.low, .int .i64 c.high, .bool c.less]
def cellsRq (r : Rq) : List Value := [.string r.name, .string r.rel, .int .i64 r.value]
abbrev Sl := Option Addr × Nat × Nat
abbrev slV (x : Sl) : Value := .slice x.1 x.2.1 x.2.2
/-- A tender's cells. -/
structure TnR where
  nm : ByteArray
  ls : Sl
  cs : Sl
  rs : Sl
  low : Int
  high : Int
  fo : ByteArray
  f1 : Int
  f2 : Int
  fn : ByteArray
  fa : Sl
  ts : Sl
  most : Int
  ks : Sl
  budget : Int
  t0 : Int
  t1 : Int
  t2 : Int
  t3 : Int
  t4 : Int
abbrev tenC (r : TnR) : Array Value := #[.string r.nm, slV r.ls, slV r.cs, slV r.rs, .int .i64 r.low, .int .i64 r.high, .string r.fo, .int .i64 r.f1, .int .i64 r.f2, .string r.fn, slV r.fa, slV r.ts, .int .i64 r.most, slV r.ks, .int .i64 r.budget, .int .i64 r.t0, .int .i64 r.t1, .int .i64 r.t2, .int .i64 r.t3, .int .i64 r.t4]
abbrev entC (bidder lot receipt price : Int) (vs : Sl) : Array Value := #[.int .i64 bidder, .int .i64 lot, .int .i64 receipt, .int .i64 price, slV vs]

abbrev leB : ByteArray := ⟨#[60, 61]⟩
abbrev geB : ByteArray := ⟨#[62, 61]⟩
def okC (vs : Vals) (c : Cr) : Bool := decide ((lkv vs c.name).2 = 1) && decide (c.low ≤ (lkv vs c.name).1) && decide ((lkv vs c.name).1 ≤ c.high)
def knownC (cs : List Cr) (nm : ByteArray) : Bool := cs.any fun c => c.name.toList == nm.toList
def reqE (vs : Vals) (r : Rq) : Int :=
  if (lkv vs r.name).2 = 0 then 13
  else if (r.rel.toList == [60, 61]) = false ∧ (r.rel.toList == [62, 61]) = false then 1
  else if ((r.rel.toList == [60, 61]) = true ∧ r.value < (lkv vs r.name).1) ∨ ((r.rel.toList == [62, 61]) = true ∧ (lkv vs r.name).1 < r.value) then 37 else 0
def reqsE (vs : Vals) : List Rq → Int
  | [] => 0
  | r :: l => if reqE vs r = 0 then reqsE vs l else reqE vs r
def restE (cs : List Cr) (rs : List Rq) (vs : Vals) : Int :=
  if cs.all (okC vs) = false then 16 else if vs.all (fun v => knownC cs v.1) = false then 13 else reqsE vs rs
def lotAt (ls : List (Int × Int)) (lot : Int) : Option (Int × Int) := ls.find? fun l => l.1 == lot
def admitI (ls : List (Int × Int)) (cs : List Cr) (rs : List Rq) (low high lot price : Int) (vs : Vals) : Int :=
  match lotAt ls lot with
  | none => 34
  | some l => if price < low ∨ high < price ∨ l.2 < price then 16 else restE cs rs vs

theorem all_drop {α : Type} (xs : List α) (p : α → Bool) (k : Nat) (h : k < xs.length) : (xs.drop k).all p = (p xs[k] && (xs.drop (k + 1)).all p) := by
  rw [List.drop_eq_getElem_cons h, List.all_cons]
theorem reqs_drop (vs : Vals) (rs : List Rq) (k : Nat) (h : k < rs.length) : reqsE vs (rs.drop k) = if reqE vs rs[k] = 0 then reqsE vs (rs.drop (k + 1)) else reqE vs rs[k] := by
  rw [List.drop_eq_getElem_cons h, reqsE]
/-- The first place at which p holds, and the first element. -/
theorem idx_find {α : Type} (q : α → Bool) (xs : List α) (p : Nat → Bool) (hp : ∀ k (h : k < xs.length), p k = q xs[k]) :
    (xs.find? q = none ∧ idxZ p xs.length = -1) ∨ ∃ k, ∃ h : k < xs.length, xs.find? q = some xs[k] ∧ idxZ p xs.length = k := by
  have key : ∀ d k, d = xs.length - k → k ≤ xs.length → ((xs.drop k).find? q = none ∧ idxFrom p xs.length d = -1) ∨ ∃ j, ∃ h : j < xs.length, (xs.drop k).find? q = some xs[j] ∧ idxFrom p xs.length d = j := by
    intro d
    induction d with
    | zero => intro k hd hk; exact .inl ⟨by rw [List.drop_eq_nil_of_le (by omega)]; rfl, rfl⟩
    | succ d ih =>
      intro k hd hk
      have hlt : k < xs.length := by omega
      rw [List.drop_eq_getElem_cons hlt, List.find?_cons, idxFrom, show xs.length - (d + 1) = k by omega, hp k hlt]
      cases hq : q xs[k]
      · simp only [Bool.false_eq_true, if_false]
        exact ih (k + 1) (by omega) (by omega)
      · exact .inr ⟨k, hlt, by simp, by simp⟩
  have := key xs.length 0 (by omega) (by omega)
  simpa [idxZ] using this

theorem info83 : (Try.prog.info? 83).map (fun i => (i.zero, i.size, i.bytes)) = some (some (.agg #[.int .i64 0, .int .i64 0]), 2, 16) := by kernel_rfl
theorem info85 : (Try.prog.info? 85).map (fun i => (i.zero, i.size, i.bytes)) = some (some (.agg #[.string ⟨#[]⟩, .int .i64 0, .int .i64 0, .int .i64 0, .bool false]), 5, 48) := by kernel_rfl
theorem info108 : (Try.prog.info? 108).map (fun i => (i.zero, i.size, i.bytes)) = some (some (.agg #[.string ⟨#[]⟩, .string ⟨#[]⟩, .int .i64 0]), 3, 40) := by kernel_rfl
theorem one_lot (x : Int × Int) : (cellsLot x).length = 2 ∧ ∀ c ∈ cellsLot x, c.oneCell' = true := ⟨rfl, by intro c hc; simp [cellsLot] at hc; rcases hc with rfl | rfl <;> rfl⟩
theorem one_cr (x : Cr) : (cellsCr x).length = 5 ∧ ∀ c ∈ cellsCr x, c.oneCell' = true := ⟨rfl, by intro c hc; simp [cellsCr] at hc; rcases hc with rfl | rfl | rfl | rfl | rfl <;> rfl⟩
theorem one_rq (x : Rq) : (cellsRq x).length = 3 ∧ ∀ c ∈ cellsRq x, c.oneCell' = true := ⟨rfl, by intro c hc; simp [cellsRq] at hc; rcases hc with rfl | rfl | rfl <;> rfl⟩
theorem one_val (x : ByteArray × Int) : (cellsP x).length = 2 ∧ ∀ c ∈ cellsP x, c.oneCell' = true := ⟨rfl, by intro c hc; simp [cellsP] at hc; rcases hc with rfl | rfl <;> rfl⟩
end Go.Proofs.Ytgkdeknfmmgbdaa

namespace Go.Proofs.Ytgkdeknfmmgbdaa
set_option linter.unusedVariables false
set_option linter.unusedSimpArgs false
open Go.RowKit

/-- The slice v reads as the digits l. -/
def DR (w : World) (v : Value) (l : List Int) : Prop :=
  ∃ A cap, v = .slice A l.length cap ∧ l.length ≤ cap ∧ l.length ≤ 1000 ∧ Dg l ∧ (l = [] ∨ ∃ b off, A = some ⟨b, off, none⟩ ∧ ∀ k (h : k < l.length), w.cell? ⟨b, off + k, none⟩ = some (.int .i64 l[k]))
theorem DR.ext {w w' : World} {v : Value} {l : List Int} (h : DR w v l) (e : Ext w w') : DR w' v l := by
  obtain ⟨A, cap, h1, h2, h3, h5, h4⟩ := h
  exact ⟨A, cap, h1, h2, h3, h5, h4.imp id fun ⟨b, off, ha, hc⟩ => ⟨b, off, ha, fun k hk => (e.cells.1 _ _ (World.block_lt_of_cell? w _ (hc k hk))).trans (hc k hk)⟩⟩
theorem DR.form {w : World} {v : Value} {l : List Int} (h : DR w v l) : ∃ A cap, v = .slice A l.length cap := by
  obtain ⟨A, cap, h1, -⟩ := h
  exact ⟨A, cap, h1⟩
theorem DR.dg {w : World} {v : Value} {l : List Int} (h : DR w v l) : Dg l := by
  obtain ⟨A, cap, h1, h2, h3, h5, h4⟩ := h; exact h5
theorem DR.le {w : World} {v : Value} {l : List Int} (h : DR w v l) : l.length ≤ 1000 := by
  obtain ⟨A, cap, h1, h2, h3, h5, h4⟩ := h; exact h3
theorem DR.nil (w : World) : DR w (.slice none 0 0) [] := ⟨none, 0, rfl, Nat.le_refl _, by simp, Dg.nil, .inl rfl⟩
theorem DR.keeps (l : List Int) (v : Value) : Rr.Keeps (fun w => DR w v l) := fun _ _ h e => h.ext e
abbrev cellsZ (z : Int) : List Value := [.int .i64 z]
theorem one_z (x : Int) : (cellsZ x).length = 1 ∧ ∀ c ∈ cellsZ x, c.oneCell' = true := ⟨rfl, by intro c hc; simp [cellsZ] at hc; subst hc; rfl⟩
theorem info3z : (Try.prog.info? 3).map (fun i => (i.zero, i.size, i.bytes)) = some (some (.int .i64 0), 1, 8) := by kernel_rfl
theorem flatZ (l : List Int) : l.flatMap cellsZ = l.map (.int .i64) := by
  induction l with
  | nil => rfl
  | cons x l ih => simp [List.flatMap_cons, ih]
theorem DR.of_row {B : Nat} {w : World} {v : Value} {l : List Int} (h : w.ownsRow B 3 1 v l.length (l.flatMap cellsZ)) (hn : l.length ≤ 1000) (hd : Dg l) : DR w v l := by
  by_cases h0 : l = []
  · subst h0
    rcases h.2 with ⟨hv, -⟩ | ⟨g, cap, cur, hv, -⟩
    · exact ⟨none, 0, hv, by simp, by simp, hd, .inl rfl⟩
    · exact ⟨_, cap, hv, by simp, by simp, hd, .inl rfl⟩
  · rcases h.2 with ⟨_, hz⟩ | ⟨g, cap, cur, hv, hb, hg, hnc, hcm, hcs, htake⟩
    · simp at hz; exact absurd hz h0
    · refine ⟨_, cap, hv, hnc, hn, hd, .inr ⟨g, 0, rfl, fun k hk => ?_⟩⟩
      have h1 := flat_get (cs := cellsZ) (sz := 1) l (fun x _ => rfl) k hk 0 _ rfl
      rw [hv] at h
      have h2 := h.cellAt (k * 1 + 0) (by rw [← h.1]; exact (List.getElem?_eq_some_iff.1 h1).1)
      rw [show 0 + k = k * 1 + 0 by omega, h2]
      exact h1
theorem DR.take {w : World} {A : Option Addr} {n cap : Nat} {l : List Int} (h : DR w (.slice A n cap) l) (m : Nat) (hm : m ≤ n) : DR w (.slice A m cap) (l.take m) := by
  obtain ⟨A', cap', h1, h2, h3, h5, h4⟩ := h
  injection h1 with e1 e2 e3
  subst e1 e2 e3
  have hl : (l.take m).length = m := by rw [List.length_take]; omega
  refine ⟨A, cap, by rw [hl], by omega, by omega, h5.take m, ?_⟩
  rcases h4 with rfl | ⟨b, off, ha, hc⟩
  · exact .inl (by simp)
  · exact .inr ⟨b, off, ha, fun k hk => by rw [hl] at hk; rw [List.getElem_take]; exact hc k (by omega)⟩
/-- The block, where there is an element. -/
theorem DR.block {w : World} {A : Option Addr} {n c : Nat} {l : List Int} (h : DR w (.slice A n c) l) (k : Nat) (hk : k < l.length) :
    ∃ b off, A = some ⟨b, off, none⟩ ∧ n = l.length ∧ ∀ k (h : k < l.length), w.cell? ⟨b, off + k, none⟩ = some (.int .i64 l[k]) := by
  obtain ⟨A', cap, h1, h2, h3, h5, h4⟩ := h
  injection h1 with e1 e2 e3
  subst e1 e2
  obtain ⟨b, off, hb, hc⟩ := h4.resolve_left (by intro e; rw [e] at hk; simp at hk)
  exact ⟨b, off, hb, rfl, hc⟩
theorem trimF_take (l : List Int) (j : Nat) (hj : j < l.length) : trimF (j + 1) (l.take (j + 1)) = if l[j] = 0 then trimF j (l.take j) else l.take (j + 1) := by
  have h1 : l.take (j + 1) = l.take j ++ [l[j]] := by rw [List.take_add_one, List.getElem?_eq_getElem hj, Option.toList_some]
  rw [trimF, h1, List.getLast?_concat, List.dropLast_concat]
  by_cases h : l[j] = 0
  · rw [if_pos h, if_pos ⟨by simp; omega, by rw [h]⟩]
  · rw [if_neg h, if_neg (fun hh => h (Option.some.inj hh.2))]

set_option maxRecDepth 100000 in
set_option maxHeartbeats 1000000 in
theorem trim_w (l : List Int) (w : World) (v : Value) (h : DR w v l) :
    Calls Try.prog 79 #[v] w fun e w' => ∃ u, e = .returned u ∧ w' = w ∧ DR w u (trimL l) ∧ ∀ A c, v = .slice A l.length c → ∃ m, u = .slice A m c := by
  obtain ⟨A, cap, rfl⟩ := h.form
  have HD := Lib.hid h
  have hle := h.le
  have hcap : l.length ≤ cap := by obtain ⟨A', cap', h1, h2, -⟩ := h; injection h1 with _ _ e; omega
  clear h
  go_enter Try.func79, Try.ntmps79
  go_wp2
  go_loopw [0] (fun s wr => ∃ m : Nat, s = .slice A m cap ∧ m ≤ l.length ∧ Hid (trimL l = trimF m (l.take m)) ∧ wr = w) (fun s _ => match s with | .slice _ n _ => n | _ => 0)
  case atStart => exact ⟨l.length, rfl, Nat.le_refl _, Lib.hid (by rw [List.take_length]; rfl), rfl⟩
  case round =>
    obtain ⟨m, rfl, hm, hT, rfl⟩ := hrel
    rcases m with _ | j
    · have hE := Lib.hid (show DR wr (.slice A 0 cap) (trimL l) by rw [hT.out]; exact HD.out.take 0 hm)
      go_wp2
      go_ret
      exact ⟨_, rfl, rfl, hE.out, by first | exact ⟨_, rfl⟩ | (intro A' c' e; injection e with e1 e2 e3; subst e1 e3; exact ⟨_, rfl⟩)⟩
    · obtain ⟨b, off, rfl, -, hcs⟩ := HD.out.block j (by omega)
      have hc := hcs j (by omega)
      have hb := World.block_lt_of_cell? wr _ hc
      have HF := Lib.hid (hT.out.trans (trimF_take l j (by omega)))
      have k1 : (0 : Int) < ((j + 1 : Nat) : Int) := by omega
      have k2 : ((j + 1 : Nat) : Int) - 1 = (j : Int) := by omega
      have k3 : IntKind.i64.wrap (((j + 1 : Nat) : Int) - 1) = (j : Int) := by rw [IntKind.wrap_i64]; omega
      have k4 : (j : Int) < ((j + 1 : Nat) : Int) := by omega
      have k5 : (0 : Int) ≤ (j : Int) := by omega
      have k6 : (j : Int) ≤ (cap : Int) := by omega
      generalize hz : l[j] = z at *
      clear hcs hz
      by_cases h0 : z = 0
      · subst h0
        rw [if_pos rfl] at HF
        go_wp2
        go_roundw
        case rel => exact ⟨j, rfl, by omega, HF, trivial⟩
        case measure => simp
      · have hE := Lib.hid (show DR wr (.slice (some ⟨b, off, none⟩) (j + 1) cap) (trimL l) by rw [HF.out, if_neg h0]; exact HD.out.take (j + 1) hm)
        have hz0 : (z == 0) = false := by simp [h0]
        go_wp2
        go_ret
        exact ⟨_, rfl, rfl, hE.out, by first | exact ⟨_, rfl⟩ | (intro A' c' e; injection e with e1 e2 e3; subst e1 e3; exact ⟨_, rfl⟩)⟩
theorem trim_any (l : List Int) (w : World) (v : Value) (h : DR w v l) :
    Calls Try.prog 79 #[v] w fun e w' => ∃ u, e = .returned u ∧ Ext w w' ∧ DR w' u (trimL l) :=
  (trim_w l w v h).mono fun _ _ ⟨u, he, hw, hd, _⟩ => ⟨u, he, by rw [hw]; exact Ext.refl _, by rw [hw]; exact hd⟩
end Go.Proofs.Ytgkdeknfmmgbdaa

namespace Go.Proofs.Ytgkdeknfmmgbdaa
set_option linter.unusedVariables false
set_option linter.unusedSimpArgs false
open Go.RowKit

theorem dv_top {a b : List Int} (ha : Dg a) (hb : Dg b) (j : Nat) (hja : j < a.length) (hjb : j < b.length) (hd : a.drop (j + 1) = b.drop (j + 1)) (h : a[j] < b[j]) : dv a < dv b := by
  have e1 : dv a = dv (a.take j) + 65536 ^ j * (a[j] + 65536 * dv (a.drop (j + 1))) := by
    conv => lhs; rw [← List.take_append_drop j a, dv_app, List.drop_eq_getElem_cons hja, dv]
    rw [List.length_take, show min j a.length = j by omega]
  have e2 : dv b = dv (b.take j) + 65536 ^ j * (b[j] + 65536 * dv (b.drop (j + 1))) := by
    conv => lhs; rw [← List.take_append_drop j b, dv_app, List.drop_eq_getElem_cons hjb, dv]
    rw [List.length_take, show min j b.length = j by omega]
  have h1 := dv_lt (ha.take j)
  rw [List.length_take, show min j a.length = j by omega] at h1
  have h2 := dv_nonneg (hb.take j)
  have h3 := pow_pos' j
  rw [e1, e2, hd]
  generalize dv (b.drop (j + 1)) = D at *
  have h4 : 65536 ^ j * ((a[j] + 65536 * D) + 1) ≤ 65536 ^ j * (b[j] + 65536 * D) := Int.mul_le_mul_of_nonneg_left (by omega) (by omega)
  rw [Int.mul_add _ _ 1] at h4
  omega
theorem cmpL_lt {a b : List Int} (h : dv a < dv b) : cmpL a b = -1 := by unfold cmpL; rw [if_pos h]
theorem cmpL_gt {a b : List Int} (h : dv b < dv a) : cmpL a b = 1 := by unfold cmpL; rw [if_neg (by omega), if_neg (by omega)]

set_option maxRecDepth 100000 in
set_option maxHeartbeats 1000000 in
theorem bcmp_any (l m : List Int) (w : World) (v u : Value) (h : DR w v l) (h' : DR w u m) (hl : Tr l) (hm : Tr m) :
    Calls Try.prog 82 #[v, u] w fun e w' => e = .returned (.int .i64 (cmpL l m)) ∧ Ext w w' := by
  obtain ⟨A, ca, rfl⟩ := h.form
  obtain ⟨B, cb, rfl⟩ := h'.form
  have HA := Lib.hid h
  have HB := Lib.hid h'
  have hla := h.le
  have hlb := h'.le
  have HN : l.length < m.length → Hid (cmpL l m = -1) := fun hh => Lib.hid (cmpL_lt (dv_lt_len h.dg h'.dg hm hh))
  have HP : m.length < l.length → Hid (cmpL l m = 1) := fun hh => Lib.hid (cmpL_gt (dv_lt_len h'.dg h.dg hl hh))
  clear h h'
  rcases Nat.lt_trichotomy l.length m.length with hlt | heq | hgt
  · have hE := HN hlt
    have k1 : (l.length : Int) < (m.length : Int) := by omega
    have k2 : ((l.length : Int) == (m.length : Int)) = false := by simp; omega
    clear HN HP
    go_enter Try.func82, Try.ntmps82
    go_wp2
    go_ret
    exact ⟨by rw [hE.out]; rfl, Ext.refl _⟩
  · clear HN HP
    have HE0 := Lib.hid heq
    have k2 : ((l.length : Int) == (m.length : Int)) = true := by simp; omega
    rw [← heq] at k2 ⊢
    clear heq
    go_enter Try.func82, Try.ntmps82
    go_wp2
    go_loopw [5] (fun s wr => ∃ j : Nat, s = .int .i64 ((j : Int) - 1) ∧ j ≤ l.length ∧ Hid (l.drop j = m.drop j) ∧ Ext w wr) (fun s _ => (intOf s + 1).toNat)
    case atStart => exact ⟨l.length, by go_num, Nat.le_refl _, Lib.hid (by have := HE0.out; rw [List.drop_eq_nil_of_le (Nat.le_refl _), List.drop_eq_nil_of_le (by omega)]), Ext.refl _⟩
    case round =>
      obtain ⟨j, rfl, hj, hT, hx⟩ := hrel
      rcases j with _ | j
      · have hE := Lib.hid (show cmpL l m = 0 by
          have := hT.out
          simp only [List.drop_zero] at this
          rw [this]; unfold cmpL; rw [if_neg (by omega), if_pos rfl])
        go_wp2
        go_ret
        exact ⟨by rw [hE.out]; rfl, hx⟩
      · have hjm : j < m.length := by have := HE0.out; omega
        obtain ⟨b, off, rfl, -, hcs⟩ := HA.out.block j (by omega)
        obtain ⟨b', off', rfl, -, hcs'⟩ := HB.out.block j hjm
        have hc := hcs j (by omega)
        have hc' := hcs' j hjm
        have hb := World.block_lt_of_cell? w _ hc
        have hb' := World.block_lt_of_cell? w _ hc'
        replace hc := (hx.cells.1 _ _ hb).trans hc
        replace hc' := (hx.cells.1 _ _ hb').trans hc'
        have k3 : ((j + 1 : Nat) : Int) - 1 = (j : Int) := by omega
        rw [k3]
        have k4 : (j : Int) < (l.length : Int) := by omega
        have k5 : (0 : Int) ≤ (j : Int) := by omega
        have HLt : Hid (l[j] < m[j] → cmpL l m = -1) := Lib.hid (fun hh => cmpL_lt (dv_top HA.out.dg HB.out.dg j (by omega) hjm hT.out hh))
        have HGt : Hid (m[j] < l[j] → cmpL l m = 1) := Lib.hid (fun hh => cmpL_gt (dv_top HB.out.dg HA.out.dg j hjm (by omega) hT.out.symm hh))
        have HEq : Hid (l[j] = m[j] → l.drop j = m.drop j) := Lib.hid (fun hh => by rw [List.drop_eq_getElem_cons (show j < l.length by omega), List.drop_eq_getElem_cons hjm, hh, hT.out])
        generalize l[j] = x at *
        generalize m[j] = y at *
        clear hcs hcs' k3
        rcases Int.lt_trichotomy x y with hlt | heq | hgt
        · have hE := Lib.hid (HLt.out hlt)
          have k6 : (x == y) = false := by simp; omega
          clear HLt HGt HEq
          go_upto_region 8 with (fail)
          go_quiet (fail)
          go_upto_region 9 with (fail)
          go_quiet (fail)
          go_wp2
          go_ret
          exact ⟨by rw [hE.out]; rfl, (by with_reducible repeat (first | exact Ext.refl _ | assumption | apply Ext.drewN | apply Ext.drew | apply Ext.alloc | (refine Ext.setCell ?_ (by simp <;> omega) _) | (refine Ext.trans ?_ (by assumption))))⟩
        · subst heq
          have hD := Lib.hid (HEq.out rfl)
          have k6 : (x == x) = true := by simp
          clear HLt HGt HEq
          go_upto_region 8 with (fail)
          go_quiet (fail)
          go_wp2
          go_roundw
          case rel => exact ⟨j, by go_num, by omega, hD, (by with_reducible repeat (first | exact Ext.refl _ | assumption | apply Ext.drewN | apply Ext.drew | apply Ext.alloc | (refine Ext.setCell ?_ (by simp <;> omega) _) | (refine Ext.trans ?_ (by assumption))))⟩
          case measure => simp [intOf]
        · have hE := Lib.hid (HGt.out hgt)
          have k6 : (x == y) = false := by simp; omega
          have k7 : ¬ x < y := by omega
          clear HLt HGt HEq
          go_upto_region 8 with (fail)
          go_quiet (fail)
          go_upto_region 9 with (fail)
          go_quiet (fail)
          go_wp2
          go_ret
          exact ⟨by rw [hE.out]; rfl, (by with_reducible repeat (first | exact Ext.refl _ | assumption | apply Ext.drewN | apply Ext.drew | apply Ext.alloc | (refine Ext.setCell ?_ (by simp <;> omega) _) | (refine Ext.trans ?_ (by assumption))))⟩
  · have hE := HP hgt
    have k1 : ¬ (l.length : Int) < (m.length : Int) := by omega
    have k2 : ((l.length : Int) == (m.length : Int)) = false := by simp; omega
    clear HN HP
    go_enter Try.func82, Try.ntmps82
    go_wp2
    go_ret
    exact ⟨by rw [hE.out]; rfl, Ext.refl _⟩
end Go.Proofs.Ytgkdeknfmmgbdaa

namespace Go.Proofs.Ytgkdeknfmmgbdaa
set_option linter.unusedVariables false
set_option linter.unusedSimpArgs false
open Go.RowKit

/-- Digits in a block that the call has made. -/
def OZ (B : Nat) (w : World) (v : Value) (os : List Int) : Prop := w.ownsRow B 3 1 v os.length (os.flatMap cellsZ)
theorem OZ.ext {B : Nat} {w w' : World} {v : Value} {os : List Int} (h : OZ B w v os) (e : Ext w w') : OZ B w' v os := row_ext h e
theorem OZ.nil (B : Nat) (w : World) : OZ B w (.slice none 0 0) [] := World.ownsRow_nil w B 3 1
theorem OZ.dr {B : Nat} {w : World} {v : Value} {os : List Int} (h : OZ B w v os) (hn : os.length ≤ 1000) (hd : Dg os) : DR w v os := DR.of_row h hn hd
theorem append_z {ops : Array Oper} {rest : List Oper} {o : Oper} {a : Act} {Q : Exit → Act → World → Prop} {w : World} (hgd : o.guard = none) (s x : Operand)
    (ho : o.op = .call { callee := .builtin .append, args := #[s, x], argTypes := #[22, 22] }) (B : Nat) (v : Value) (os : List Int) (hs : a.eval s = v) (hF : OZ B w v os)
    (p : Nat) (z : Int) (hx : a.eval x = .slice (some ⟨p, 0, none⟩) 1 1) (hp : w.heap[p]? = some (.cells #[.int .i64 z] 3)) (hn : os.length < 1000000) (hB : B ≤ w.heap.size)
    (h : ∀ g cap w', OZ B w' (.slice (some ⟨g, 0, none⟩) (os.length + 1) cap) (os ++ [z]) → Below B w w' → wpList Try.prog ops Q rest (a.put o.dst (.slice (some ⟨g, 0, none⟩) (os.length + 1) cap)) w') : wpList Try.prog ops Q (o :: rest) a w :=
  append_one one_z 22 3 8 Try.underlying22 info3z rfl (by decide) (by decide) hgd s x ho B v os hs hF p z hx hp hn hB h

/-- The rest of plus from the place j. -/
theorem plusL_yy (c : Int) (l m : List Int) (j : Nat) (hl : j < l.length) (hm : j < m.length) : plusL c (l.drop j) (m.drop j) = (c + l[j] + m[j]) % 65536 :: plusL ((c + l[j] + m[j]) / 65536) (l.drop (j + 1)) (m.drop (j + 1)) := by
  rw [List.drop_eq_getElem_cons hl, List.drop_eq_getElem_cons hm, plusL]
theorem plusL_yn (c : Int) (l m : List Int) (j : Nat) (hl : j < l.length) (hm : m.length ≤ j) : plusL c (l.drop j) (m.drop j) = (c + l[j]) % 65536 :: plusL ((c + l[j]) / 65536) (l.drop (j + 1)) (m.drop (j + 1)) := by
  rw [List.drop_eq_getElem_cons hl, List.drop_eq_nil_of_le hm, List.drop_eq_nil_of_le (show m.length ≤ j + 1 by omega), plusL]
theorem plusL_ny (c : Int) (l m : List Int) (j : Nat) (hl : l.length ≤ j) (hm : j < m.length) : plusL c (l.drop j) (m.drop j) = (c + m[j]) % 65536 :: plusL ((c + m[j]) / 65536) (l.drop (j + 1)) (m.drop (j + 1)) := by
  rw [List.drop_eq_getElem_cons hm, List.drop_eq_nil_of_le hl, List.drop_eq_nil_of_le (show l.length ≤ j + 1 by omega), plusL]
theorem plusL_nn (c : Int) (l m : List Int) (j : Nat) (hl : l.length ≤ j) (hm : m.length ≤ j) : plusL c (l.drop j) (m.drop j) = if 0 < c then [c % 65536] else [] := by
  rw [List.drop_eq_nil_of_le hm, List.drop_eq_nil_of_le hl, plusL]

/-- What holds at the head of plus' loop. -/
def PlusI (l m : List Int) (w : World) (ov cv kv : Value) (wr : World) : Prop :=
  ∃ (j : Nat) (c : Int) (os : List Int), kv = .int .i64 j ∧ cv = .int .i64 c ∧ OZ w.heap.size wr ov os ∧ os.length = j ∧ 0 ≤ c ∧ c ≤ 1 ∧ j ≤ max l.length m.length + 1 ∧ (max l.length m.length < j → c = 0) ∧ plusL 0 l m = os ++ plusL c (l.drop j) (m.drop j) ∧ Ext w wr

set_option maxRecDepth 100000 in
set_option maxHeartbeats 1000000 in
theorem plus_any (l m : List Int) (w : World) (v u : Value) (h : DR w v l) (h' : DR w u m) (hl : l.length ≤ 100) (hm : m.length ≤ 100) :
    Calls Try.prog 81 #[v, u] w fun e w' => ∃ x, e = .returned x ∧ Ext w w' ∧ DR w' x (plusL 0 l m) := by
  obtain ⟨A, ca, rfl⟩ := h.form
  obtain ⟨B, cb, rfl⟩ := h'.form
  have HA := Lib.hid h
  have HB := Lib.hid h'
  clear h h'
  go_enter Try.func81, Try.ntmps81
  go_wp2_with (fail)
  go_loopw [5, 6, 7] (fun o c k wr => PlusI l m w o c k wr) (fun _ _ k _ => max l.length m.length + 1 - (intOf k).toNat)
  case atStart =>
    unfold PlusI
    exact ⟨0, 0, [], by go_num, by go_num, OZ.nil _ _, rfl, by omega, by omega, by omega, by omega, by simp, Ext.refl _⟩
  case round =>
    unfold PlusI at hrel
    obtain ⟨j, c, os, rfl, rfl, hF, hj, hc0, hc1, hjm, hjc, hE, hx⟩ := hrel
    have HF := Lib.hid hF
    have HE := Lib.hid hE
    have HJ := Lib.hid hj
    have HC := Lib.hid hjc
    clear hF hE hj hjc
    have HG : ∀ (q r : Int) (g cap : Nat) (w6 : World), Hid (plusL c (l.drop j) (m.drop j) = r :: plusL q (l.drop (j + 1)) (m.drop (j + 1))) → OZ w.heap.size w6 (.slice (some ⟨g, 0, none⟩) (os.length + 1) cap) (os ++ [r]) → 0 ≤ q → q ≤ 1 → j < max l.length m.length ∨ q = 0 → j ≤ max l.length m.length → Ext w w6 →
        PlusI l m w (.slice (some ⟨g, 0, none⟩) (os.length + 1) cap) (.int .i64 q) (.int .i64 (j + 1)) w6 := fun q r g cap w6 h1 h2 h3 h4 h5 h6 h7 =>
      ⟨j + 1, q, os ++ [r], by go_num, rfl, h2, by rw [List.length_append, HJ.out]; rfl, h3, h4, by omega, by omega, by rw [HE.out, h1.out]; simp, h7⟩
    have HG := Lib.hid HG
    have k1 : (0 : Int) ≤ (j : Int) := by omega
    by_cases hjl : j < l.length
    · have k2 : (j : Int) < (l.length : Int) := by omega
      obtain ⟨b, off, rfl, -, hcs⟩ := HA.out.block j hjl
      have hcl := hcs j hjl
      have hb := World.block_lt_of_cell? w _ hcl
      replace hcl := (hx.cells.1 _ _ hb).trans hcl
      have hbl := Nat.lt_of_lt_of_le hb hx.size
      have hxd := HA.out.dg.at j hjl
      clear hcs
      by_cases hjm2 : j < m.length
      · have k3 : (j : Int) < (m.length : Int) := by omega
        obtain ⟨b', off', rfl, -, hcs⟩ := HB.out.block j hjm2
        have hcm := hcs j hjm2
        have hb' := World.block_lt_of_cell? w _ hcm
        replace hcm := (hx.cells.1 _ _ hb').trans hcm
        have hbm := Nat.lt_of_lt_of_le hb' hx.size
        have hyd := HB.out.dg.at j hjm2
        have HP := Lib.hid (plusL_yy c l m j hjl hjm2)
        clear hcs
        generalize l[j] = x at *
        generalize m[j] = y at *
        have k4 : (c + x + y).tmod 65536 = (c + x + y) % 65536 := Int.tmod_eq_emod_of_nonneg (by omega)
        have k5 : (c + x + y).tdiv 65536 = (c + x + y) / 65536 := Int.tdiv_eq_ediv_of_nonneg (by omega)
        go_wp2_with (at_builtin; refine append_z rfl (.tmp 46) (.tmp 49) rfl w.heap.size _ os (by rfl) (HF.out.ext (by with_reducible repeat (first | exact Ext.refl _ | assumption | apply Ext.drewN | apply Ext.drew | apply Ext.alloc | (refine Ext.setCell ?_ (by simp <;> omega) _) | (refine Ext.trans ?_ (by assumption))))) wr.heap.size ((c + x + y) % 65536) (by rfl) (block_new (by simp)) (by have := HJ.out; omega) (by have := hx.size; simp; omega) ?_; intro g7 cap7 w7 hF7 hb7)
        have HF7 := Lib.hid hF7
        clear hF7
        go_wp2
        go_roundw
        case rel => exact HG.out _ _ _ _ _ HP HF7.out (by omega) (by omega) (by omega) (by omega) (Below.trans (hx.trans ((by with_reducible repeat (first | exact Ext.refl _ | assumption | apply Ext.drewN | apply Ext.drew | apply Ext.alloc | (refine Ext.setCell ?_ (by simp <;> omega) _) | (refine Ext.trans ?_ (by assumption)))) : Ext wr (wr.alloc (.cells #[.int .i64 ((c + x + y) % 65536)] 3)))) hb7)
        case measure => simp [intOf]; omega
      · have k3 : ¬ (j : Int) < (m.length : Int) := by omega
        have HP := Lib.hid (plusL_yn c l m j hjl (by omega))
        generalize l[j] = x at *
        have k4 : (c + x).tmod 65536 = (c + x) % 65536 := Int.tmod_eq_emod_of_nonneg (by omega)
        have k5 : (c + x).tdiv 65536 = (c + x) / 65536 := Int.tdiv_eq_ediv_of_nonneg (by omega)
        go_wp2_with (at_builtin; refine append_z rfl (.tmp 46) (.tmp 49) rfl w.heap.size _ os (by rfl) (HF.out.ext (by with_reducible repeat (first | exact Ext.refl _ | assumption | apply Ext.drewN | apply Ext.drew | apply Ext.alloc | (refine Ext.setCell ?_ (by simp <;> omega) _) | (refine Ext.trans ?_ (by assumption))))) wr.heap.size ((c + x) % 65536) (by rfl) (block_new (by simp)) (by have := HJ.out; omega) (by have := hx.size; simp; omega) ?_; intro g7 cap7 w7 hF7 hb7)
        have HF7 := Lib.hid hF7
        clear hF7
        go_wp2
        go_roundw
        case rel => exact HG.out _ _ _ _ _ HP HF7.out (by omega) (by omega) (by omega) (by omega) (Below.trans (hx.trans ((by with_reducible repeat (first | exact Ext.refl _ | assumption | apply Ext.drewN | apply Ext.drew | apply Ext.alloc | (refine Ext.setCell ?_ (by simp <;> omega) _) | (refine Ext.trans ?_ (by assumption)))) : Ext wr (wr.alloc (.cells #[.int .i64 ((c + x) % 65536)] 3)))) hb7)
        case measure => simp [intOf]; omega
    · have k2 : ¬ (j : Int) < (l.length : Int) := by omega
      by_cases hjm2 : j < m.length
      · have k3 : (j : Int) < (m.length : Int) := by omega
        obtain ⟨b', off', rfl, -, hcs⟩ := HB.out.block j hjm2
        have hcm := hcs j hjm2
        have hb' := World.block_lt_of_cell? w _ hcm
        replace hcm := (hx.cells.1 _ _ hb').trans hcm
        have hbm := Nat.lt_of_lt_of_le hb' hx.size
        have hyd := HB.out.dg.at j hjm2
        have HP := Lib.hid (plusL_ny c l m j (by omega) hjm2)
        clear hcs
        generalize m[j] = y at *
        have k4 : (c + y).tmod 65536 = (c + y) % 65536 := Int.tmod_eq_emod_of_nonneg (by omega)
        have k5 : (c + y).tdiv 65536 = (c + y) / 65536 := Int.tdiv_eq_ediv_of_nonneg (by omega)
        go_wp2_with (at_builtin; refine append_z rfl (.tmp 46) (.tmp 49) rfl w.heap.size _ os (by rfl) (HF.out.ext (by with_reducible repeat (first | exact Ext.refl _ | assumption | apply Ext.drewN | apply Ext.drew | apply Ext.alloc | (refine Ext.setCell ?_ (by simp <;> omega) _) | (refine Ext.trans ?_ (by assumption))))) wr.heap.size ((c + y) % 65536) (by rfl) (block_new (by simp)) (by have := HJ.out; omega) (by have := hx.size; simp; omega) ?_; intro g7 cap7 w7 hF7 hb7)
        have HF7 := Lib.hid hF7
        clear hF7
        go_wp2
        go_roundw
        case rel => exact HG.out _ _ _ _ _ HP HF7.out (by omega) (by omega) (by omega) (by omega) (Below.trans (hx.trans ((by with_reducible repeat (first | exact Ext.refl _ | assumption | apply Ext.drewN | apply Ext.drew | apply Ext.alloc | (refine Ext.setCell ?_ (by simp <;> omega) _) | (refine Ext.trans ?_ (by assumption)))) : Ext wr (wr.alloc (.cells #[.int .i64 ((c + y) % 65536)] 3)))) hb7)
        case measure => simp [intOf]; omega
      · have k3 : ¬ (j : Int) < (m.length : Int) := by omega
        have HP := Lib.hid (plusL_nn c l m j (by omega) (by omega))
        by_cases h0 : c = 0
        · subst h0
          have HD := Lib.hid (show DR wr _ (plusL 0 l m) by
            have h1 := HE.out
            rw [HP.out, if_neg (by omega), List.append_nil] at h1
            rw [h1]
            refine HF.out.dr (by have := HJ.out; omega) ?_
            rw [← h1]
            exact (plusL_spec 0 l m (by omega) (by omega) HA.out.dg HB.out.dg).1)
          go_wp2
          go_ret
          exact ⟨_, rfl, hx, HD.out⟩
        · have h1 : c = 1 := by omega
          subst h1
          have hjc := HC.out
          have HP := Lib.hid (show plusL 1 (l.drop j) (m.drop j) = 1 :: plusL 0 (l.drop (j + 1)) (m.drop (j + 1)) by
            rw [plusL_nn 1 l m j (by omega) (by omega), plusL_nn 0 l m (j + 1) (by omega) (by omega)]; rfl)
          go_wp2_with (at_builtin; refine append_z rfl (.tmp 46) (.tmp 49) rfl w.heap.size _ os (by rfl) (HF.out.ext (by with_reducible repeat (first | exact Ext.refl _ | assumption | apply Ext.drewN | apply Ext.drew | apply Ext.alloc | (refine Ext.setCell ?_ (by simp <;> omega) _) | (refine Ext.trans ?_ (by assumption))))) wr.heap.size 1 (by rfl) (block_new (by simp)) (by have := HJ.out; omega) (by have := hx.size; simp; omega) ?_; intro g7 cap7 w7 hF7 hb7)
          have HF7 := Lib.hid hF7
          clear hF7
          go_wp2
          go_roundw
          case rel => exact HG.out _ _ _ _ _ HP HF7.out (by omega) (by omega) (by omega) (by omega) (Below.trans (hx.trans ((by with_reducible repeat (first | exact Ext.refl _ | assumption | apply Ext.drewN | apply Ext.drew | apply Ext.alloc | (refine Ext.setCell ?_ (by simp <;> omega) _) | (refine Ext.trans ?_ (by assumption)))) : Ext wr (wr.alloc (.cells #[.int .i64 1] 3)))) hb7)
          case measure => simp [intOf]; omega
end Go.Proofs.Ytgkdeknfmmgbdaa

namespace Go.Proofs.Ytgkdeknfmmgbdaa
set_option linter.unusedVariables false
set_option linter.unusedSimpArgs false
open Go.RowKit

theorem minusL_y (c : Int) (l m : List Int) (j : Nat) (hl : j < l.length) (hm : j < m.length) : minusL c (l.drop j) (m.drop j) = if l[j] - c - m[j] < 0 then (l[j] - c - m[j] + 65536) :: minusL 1 (l.drop (j + 1)) (m.drop (j + 1)) else (l[j] - c - m[j]) :: minusL 0 (l.drop (j + 1)) (m.drop (j + 1)) := by
  rw [List.drop_eq_getElem_cons hl, List.drop_eq_getElem_cons hm, minusL]
theorem minusL_n (c : Int) (l m : List Int) (j : Nat) (hl : j < l.length) (hm : m.length ≤ j) : minusL c (l.drop j) (m.drop j) = if l[j] - c < 0 then (l[j] - c + 65536) :: minusL 1 (l.drop (j + 1)) (m.drop (j + 1)) else (l[j] - c) :: minusL 0 (l.drop (j + 1)) (m.drop (j + 1)) := by
  rw [List.drop_eq_getElem_cons hl, List.drop_eq_nil_of_le hm, List.drop_eq_nil_of_le (show m.length ≤ j + 1 by omega), minusL]
def MinusI (l m : List Int) (w : World) (ov cv kv : Value) (wr : World) : Prop :=
  ∃ (j : Nat) (c : Int) (os : List Int), kv = .int .i64 j ∧ cv = .int .i64 c ∧ OZ w.heap.size wr ov os ∧ os.length = j ∧ 0 ≤ c ∧ c ≤ 1 ∧ j ≤ l.length ∧ minusL 0 l m = os ++ minusL c (l.drop j) (m.drop j) ∧ Ext w wr

set_option maxRecDepth 100000 in
set_option maxHeartbeats 1000000 in
theorem minus_any (l m : List Int) (w : World) (v u : Value) (h : DR w v l) (h' : DR w u m) (hl : l.length ≤ 100) (hm : m.length ≤ 100) (hle : dv m ≤ dv l) :
    Calls Try.prog 83 #[v, u] w fun e w' => ∃ x, e = .returned x ∧ Ext w w' ∧ DR w' x (trimL (minusL 0 l m)) := by
  obtain ⟨A, ca, rfl⟩ := h.form
  obtain ⟨B, cb, rfl⟩ := h'.form
  have HA := Lib.hid h
  have HB := Lib.hid h'
  have HD := Lib.hid (minusL_spec 0 l m (by omega) (by omega) h.dg h'.dg (by omega)).1
  clear h h' hle
  go_enter Try.func83, Try.ntmps83
  go_wp2_with (fail)
  go_loopw [5, 6, 7] (fun o c k wr => MinusI l m w o c k wr) (fun _ _ k _ => l.length - (intOf k).toNat)
  case atStart =>
    unfold MinusI
    exact ⟨0, 0, [], by go_num, by go_num, OZ.nil _ _, rfl, by omega, by omega, by omega, by simp, Ext.refl _⟩
  case round =>
    unfold MinusI at hrel
    obtain ⟨j, c, os, rfl, rfl, hF, hj, hc0, hc1, hjm, hE, hx⟩ := hrel
    have HF := Lib.hid hF
    have HE := Lib.hid hE
    have HJ := Lib.hid hj
    clear hF hE hj
    have k1 : (0 : Int) ≤ (j : Int) := by omega
    by_cases hjl : j < l.length
    · have HG : ∀ (q r : Int) (g cap : Nat) (w6 : World), Hid (minusL c (l.drop j) (m.drop j) = r :: minusL q (l.drop (j + 1)) (m.drop (j + 1))) → OZ w.heap.size w6 (.slice (some ⟨g, 0, none⟩) (os.length + 1) cap) (os ++ [r]) → 0 ≤ q → q ≤ 1 → Ext w w6 →
          MinusI l m w (.slice (some ⟨g, 0, none⟩) (os.length + 1) cap) (.int .i64 q) (.int .i64 (j + 1)) w6 := fun q r g cap w6 h1 h2 h3 h4 h7 =>
        ⟨j + 1, q, os ++ [r], by go_num, rfl, h2, by rw [List.length_append, HJ.out]; rfl, h3, h4, by omega, by rw [HE.out, h1.out]; simp, h7⟩
      have HG := Lib.hid HG
      have k2 : (j : Int) < (l.length : Int) := by omega
      obtain ⟨b, off, rfl, -, hcs⟩ := HA.out.block j hjl
      have hcl := hcs j hjl
      have hb := World.block_lt_of_cell? w _ hcl
      replace hcl := (hx.cells.1 _ _ hb).trans hcl
      have hbl := Nat.lt_of_lt_of_le hb hx.size
      have hxd := HA.out.dg.at j hjl
      clear hcs
      by_cases hjm2 : j < m.length
      · have k3 : (j : Int) < (m.length : Int) := by omega
        obtain ⟨b', off', rfl, -, hcs⟩ := HB.out.block j hjm2
        have hcm := hcs j hjm2
        have hb' := World.block_lt_of_cell? w _ hcm
        replace hcm := (hx.cells.1 _ _ hb').trans hcm
        have hbm := Nat.lt_of_lt_of_le hb' hx.size
        have hyd := HB.out.dg.at j hjm2
        have HP := Lib.hid (minusL_y c l m j hjl hjm2)
        clear hcs
        generalize l[j] = x at *
        generalize m[j] = y at *
        by_cases hneg : x - c - y < 0
        · rw [if_pos hneg] at HP
          go_wp2_with (at_builtin; refine append_z rfl (.tmp 35) (.tmp 37) rfl w.heap.size _ os (by rfl) (HF.out.ext (by with_reducible repeat (first | exact Ext.refl _ | assumption | apply Ext.drewN | apply Ext.drew | apply Ext.alloc | (refine Ext.setCell ?_ (by simp <;> omega) _) | (refine Ext.trans ?_ (by assumption))))) wr.heap.size (x - c - y + 65536) (by rfl) (block_new (by simp)) (by have := HJ.out; omega) (by have := hx.size; simp; omega) ?_; intro g7 cap7 w7 hF7 hb7)
          have HF7 := Lib.hid hF7
          clear hF7
          go_wp2
          go_roundw
          case rel => exact HG.out _ _ _ _ _ HP HF7.out (by omega) (by omega) (Below.trans (hx.trans ((by with_reducible repeat (first | exact Ext.refl _ | assumption | apply Ext.drewN | apply Ext.drew | apply Ext.alloc | (refine Ext.setCell ?_ (by simp <;> omega) _) | (refine Ext.trans ?_ (by assumption)))) : Ext wr (wr.alloc (.cells #[.int .i64 (x - c - y + 65536)] 3)))) hb7)
          case measure => simp [intOf]; omega
        · rw [if_neg hneg] at HP
          go_wp2_with (at_builtin; refine append_z rfl (.tmp 35) (.tmp 37) rfl w.heap.size _ os (by rfl) (HF.out.ext (by with_reducible repeat (first | exact Ext.refl _ | assumption | apply Ext.drewN | apply Ext.drew | apply Ext.alloc | (refine Ext.setCell ?_ (by simp <;> omega) _) | (refine Ext.trans ?_ (by assumption))))) wr.heap.size (x - c - y) (by rfl) (block_new (by simp)) (by have := HJ.out; omega) (by have := hx.size; simp; omega) ?_; intro g7 cap7 w7 hF7 hb7)
          have HF7 := Lib.hid hF7
          clear hF7
          go_wp2
          go_roundw
          case rel => exact HG.out _ _ _ _ _ HP HF7.out (by omega) (by omega) (Below.trans (hx.trans ((by with_reducible repeat (first | exact Ext.refl _ | assumption | apply Ext.drewN | apply Ext.drew | apply Ext.alloc | (refine Ext.setCell ?_ (by simp <;> omega) _) | (refine Ext.trans ?_ (by assumption)))) : Ext wr (wr.alloc (.cells #[.int .i64 (x - c - y)] 3)))) hb7)
          case measure => simp [intOf]; omega
      · have k3 : ¬ (j : Int) < (m.length : Int) := by omega
        have HP := Lib.hid (minusL_n c l m j hjl (by omega))
        generalize l[j] = x at *
        by_cases hneg : x - c < 0
        · rw [if_pos hneg] at HP
          go_wp2_with (at_builtin; refine append_z rfl (.tmp 35) (.tmp 37) rfl w.heap.size _ os (by rfl) (HF.out.ext (by with_reducible repeat (first | exact Ext.refl _ | assumption | apply Ext.drewN | apply Ext.drew | apply Ext.alloc | (refine Ext.setCell ?_ (by simp <;> omega) _) | (refine Ext.trans ?_ (by assumption))))) wr.heap.size (x - c + 65536) (by rfl) (block_new (by simp)) (by have := HJ.out; omega) (by have := hx.size; simp; omega) ?_; intro g7 cap7 w7 hF7 hb7)
          have HF7 := Lib.hid hF7
          clear hF7
          go_wp2
          go_roundw
          case rel => exact HG.out _ _ _ _ _ HP HF7.out (by omega) (by omega) (Below.trans (hx.trans ((by with_reducible repeat (first | exact Ext.refl _ | assumption | apply Ext.drewN | apply Ext.drew | apply Ext.alloc | (refine Ext.setCell ?_ (by simp <;> omega) _) | (refine Ext.trans ?_ (by assumption)))) : Ext wr (wr.alloc (.cells #[.int .i64 (x - c + 65536)] 3)))) hb7)
          case measure => simp [intOf]; omega
        · rw [if_neg hneg] at HP
          go_wp2_with (at_builtin; refine append_z rfl (.tmp 35) (.tmp 37) rfl w.heap.size _ os (by rfl) (HF.out.ext (by with_reducible repeat (first | exact Ext.refl _ | assumption | apply Ext.drewN | apply Ext.drew | apply Ext.alloc | (refine Ext.setCell ?_ (by simp <;> omega) _) | (refine Ext.trans ?_ (by assumption))))) wr.heap.size (x - c) (by rfl) (block_new (by simp)) (by have := HJ.out; omega) (by have := hx.size; simp; omega) ?_; intro g7 cap7 w7 hF7 hb7)
          have HF7 := Lib.hid hF7
          clear hF7
          go_wp2
          go_roundw
          case rel => exact HG.out _ _ _ _ _ HP HF7.out (by omega) (by omega) (Below.trans (hx.trans ((by with_reducible repeat (first | exact Ext.refl _ | assumption | apply Ext.drewN | apply Ext.drew | apply Ext.alloc | (refine Ext.setCell ?_ (by simp <;> omega) _) | (refine Ext.trans ?_ (by assumption)))) : Ext wr (wr.alloc (.cells #[.int .i64 (x - c)] 3)))) hb7)
          case measure => simp [intOf]; omega
    · have k2 : ¬ (j : Int) < (l.length : Int) := by omega
      have HD := Lib.hid (show DR wr _ (minusL 0 l m) by
        have h1 := HE.out
        rw [List.drop_eq_nil_of_le (show l.length ≤ j by omega), minusL, List.append_nil] at h1
        rw [h1]
        refine HF.out.dr (by have := HJ.out; omega) ?_
        rw [← h1]
        exact HD.out)
      go_wp2_with (go_at_call 79; (with_reducible refine (trim_any (minusL 0 l m) _ _ HD.out).mono ?_); rintro e w8 ⟨x8, rfl, hx8, hd8⟩)
      go_ret
      exact ⟨_, rfl, hx.trans hx8, hd8⟩
end Go.Proofs.Ytgkdeknfmmgbdaa
