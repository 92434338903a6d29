/-
  Package eval: small and formed. Conditions: the value stands for a tree.
-/
import Derived.Test.YtgkdeknfmmgbdaaExs
namespace Go.Proofs.Ytgkdeknfmmgbdaa
set_option linter.unusedVariables false
set_option linter.unusedSimpArgs false
open Go.RowKit

mutual
def smallO : Ex → Nat → Nat → Option Nat
  | .mk _ _ _ ts, p, d => if p = 0 ∨ d = 0 then none else smallL ts (p - 1) (d - 1)
def smallL : List Ex → Nat → Nat → Option Nat
  | [], p, _ => some p
  | t :: ts, p, d => (smallO t p d).bind fun q => smallL ts q d
end
mutual
theorem smallO_eq : ∀ (t : Ex) (p d : Nat), smallO t p d = if t.parts ≤ p ∧ t.depth ≤ d then some (p - t.parts) else none
  | .mk _ _ _ ts, p, d => by
    rw [smallO, smallL_eq, Ex.parts, Ex.depth]
    by_cases h : p = 0 ∨ d = 0
    · rw [if_pos h, if_neg (by omega)]
    · rw [if_neg h]
      by_cases h2 : Ex.partsL ts ≤ p - 1 ∧ Ex.depthL ts ≤ d - 1
      · rw [if_pos h2, if_pos (by omega)]; congr 1; omega
      · rw [if_neg h2, if_neg (by omega)]
theorem smallL_eq : ∀ (ts : List Ex) (p d : Nat), smallL ts p d = if Ex.partsL ts ≤ p ∧ Ex.depthL ts ≤ d then some (p - Ex.partsL ts) else none
  | [], p, d => by rw [smallL, Ex.partsL, Ex.depthL, if_pos (by omega)]; rfl
  | t :: ts, p, d => by
    rw [smallL, smallO_eq, Ex.partsL, Ex.depthL]
    by_cases h : t.parts ≤ p ∧ t.depth ≤ d
    · rw [if_pos h, Option.bind_some, smallL_eq]
      by_cases h2 : Ex.partsL ts ≤ p - t.parts ∧ Ex.depthL ts ≤ d
      · rw [if_pos h2, if_pos (by omega)]; congr 1; omega
      · rw [if_neg h2, if_neg (by omega)]
    · rw [if_neg h, if_neg (by omega)]; rfl
end

theorem Rd.shape {S : Nat → Prop} {w : World} {t : Ex} {c : Nat → Value} (h : Rd S w t (aggE c)) : ∃ op n1 n2 nm base len cap, c 0 = .string op ∧ c 1 = .int .i64 n1 ∧ c 2 = .int .i64 n2 ∧ c 3 = .string nm ∧ c 4 = .slice base len cap ∧
    aggE c = .agg #[.string op, .int .i64 n1, .int .i64 n2, .string nm, .slice base len cap] := by
  obtain ⟨op, n, nm, ts⟩ := t
  unfold Rd at h
  obtain ⟨base, cap, hv, -, -, -⟩ := h
  have hv' := hv
  unfold aggE at hv'
  injection hv' with hv'
  have := congrArg Array.toList hv'
  simp only [List.cons.injEq] at this
  exact ⟨op, n.1, n.2, nm, base, _, cap, this.1, this.2.1, this.2.2.1, this.2.2.2.1, this.2.2.2.2.1, hv⟩

def smallV : Option Nat → Value
  | none => .tuple #[.int .i64 0, .bool false]
  | some q => .tuple #[.int .i64 q, .bool true]

theorem smallO_le {t : Ex} {p d q : Nat} (h : smallO t p d = some q) : q ≤ p := by
  rw [smallO_eq] at h
  split at h
  · injection h with h; omega
  · cases h

theorem small_base (S : Nat → Prop) (t : Ex) (p d : Nat) (h : p = 0 ∨ (¬ p = 0 ∧ d = 0)) (hp : p ≤ 1000000) (w : World) (v : Value) (hv : Rd S w t v) :
    Calls Try.prog 68 #[v, .int .i64 p, .int .i64 d] w fun e w' => e = .returned (smallV none) ∧ Ext w w' := by
  obtain ⟨op, n, nm, ts⟩ := t
  unfold Rd at hv
  obtain ⟨base, cap, rfl, -, -, -⟩ := hv
  rcases h with rfl | ⟨h, rfl⟩
  · go_enter Try.func68, Try.ntmps68
    go_wp2
    go_ret2
    exact ⟨rfl, (by with_reducible repeat (first | exact Ext.refl _ | assumption | apply Ext.drewN | apply Ext.drew | apply Ext.alloc | (refine Ext.setCell ?_ (by simp <;> omega) _) | (refine Ext.trans ?_ (by assumption))))⟩
  · have hb : (1 : Int) ≤ (p : Int) := by omega
    have hb2 : ¬ (p : Int) < 1 := by omega
    go_enter Try.func68, Try.ntmps68
    go_wp2
    go_ret2
    exact ⟨rfl, (by with_reducible repeat (first | exact Ext.refl _ | assumption | apply Ext.drewN | apply Ext.drew | apply Ext.alloc | (refine Ext.setCell ?_ (by simp <;> omega) _) | (refine Ext.trans ?_ (by assumption))))⟩

set_option maxRecDepth 100000 in
set_option maxHeartbeats 1000000 in
theorem small_any (S : Nat → Prop) : ∀ (d p : Nat) (_ : p ≤ 1000000) (_ : d ≤ 1000) (t : Ex) (w : World) (v : Value) (_ : Rd S w t v),
    Calls Try.prog 68 #[v, .int .i64 p, .int .i64 d] w fun e w' => e = .returned (smallV (smallO t p d)) ∧ Ext w w'
  | 0, p, hp, _, t, w, v, hv => by
    have : smallO t p 0 = none := by rw [smallO_eq, if_neg]; cases t; rw [Ex.depth]; omega
    rw [this]
    exact small_base S t p 0 (by omega) hp w v hv
  | d + 1, 0, hp, _, t, w, v, hv => by
    have : smallO t 0 (d + 1) = none := by rw [smallO_eq, if_neg]; cases t; rw [Ex.parts]; omega
    rw [this]
    exact small_base S t 0 (d + 1) (by omega) hp w v hv
  | d + 1, p + 1, hp, hd, .mk op n nm ts, w, v, hv => by
    have IH := Lib.hid (fun q hq t w v hv => small_any S d q hq (by omega) t w v hv)
    unfold Rd at hv
    obtain ⟨base, cap, rfl, -, hlen, hr⟩ := hv
    have HR := Lib.hid hr; clear hr
    have hs : smallO (.mk op n nm ts) (p + 1) (d + 1) = smallL ts p d := by rw [smallO, if_neg (by omega)]; rfl
    rw [hs]
    clear hs
    have e1 : ((p + 1 : Nat) : Int) = (p : Int) + 1 := by omega
    have e2 : ((d + 1 : Nat) : Int) = (d : Int) + 1 := by omega
    rw [e1, e2]
    clear e1 e2
    have f1 : ¬ (p : Int) + 1 < 1 := by omega
    have f2 : ¬ (d : Int) + 1 < 1 := by omega
    go_enter Try.func68, Try.ntmps68
    go_wp2
    go_loopw [1, 23] (fun x i wr => ∃ k q : Nat, k ≤ ts.length ∧ q ≤ p ∧ i = .int .i64 k ∧ x = .int .i64 q ∧ smallL (ts.drop k) q d = smallL ts p d ∧ Ext w wr) (fun _ i _ => ts.length - (intOf i).toNat)
    case atStart => exact ⟨0, p, Nat.zero_le _, Nat.le_refl _, rfl, by go_num, rfl, (by with_reducible repeat (first | exact Ext.refl _ | assumption | apply Ext.drewN | apply Ext.drew | apply Ext.alloc | (refine Ext.setCell ?_ (by simp <;> omega) _) | (refine Ext.trans ?_ (by assumption))))⟩
    case round =>
      obtain ⟨k, q, hk, hq, rfl, rfl, hi, hx⟩ := hrel
      have Hi := Lib.hid hi; clear hi
      rcases Nat.lt_or_ge k ts.length with hlt | hge
      · rcases HR.out with h | ⟨b, rfl, hs, hl⟩
        · subst h; exact absurd hlt (Nat.not_lt_zero _)
        · obtain ⟨c, hc, hrd⟩ := hl.get k hlt
          obtain ⟨op', n1, n2, nm', base', len', cap', c0, c1, c2, c3, c4, ca⟩ := hrd.shape
          rw [Nat.zero_add] at hc
          have hbl : b < w.heap.size := World.block_lt_of_cell? w _ (hc 0 (by decide))
          have h0 := (hx.cells.1 b _ hbl).trans ((hc 0 (by decide)).trans (congrArg some c0))
          have h1 := (hx.cells.1 b _ hbl).trans ((hc 1 (by decide)).trans (congrArg some c1))
          have h2 := (hx.cells.1 b _ hbl).trans ((hc 2 (by decide)).trans (congrArg some c2))
          have h3 := (hx.cells.1 b _ hbl).trans ((hc 3 (by decide)).trans (congrArg some c3))
          have h4 := (hx.cells.1 b _ hbl).trans ((hc 4 (by decide)).trans (congrArg some c4))
          have hst : smallL (ts.drop k) q d = (smallO ts[k] q d).bind fun q' => smallL (ts.drop (k + 1)) q' d := by
            rw [List.drop_eq_getElem_cons hlt, smallL]
          have HI := Lib.hid (fun w' hw => IH.out q (by omega) ts[k] w' _ (Rd.ext hw (ca ▸ hrd)))
          have Hst := Lib.hid hst
          have Hx := Lib.hid hx
          clear hst hx hc hrd hl c0 c1 c2 c3 c4 ca
          simp only [Nat.add_zero] at h0
          cases ho : smallO ts[k] q d with
          | none =>
            have Ho := Lib.hid ho; clear ho
            go_wp2_with (with_reducible refine (HI.out _ (Ext.trans Hx.out (by with_reducible repeat (first | exact Ext.refl _ | assumption | apply Ext.drewN | apply Ext.drew | apply Ext.alloc | (refine Ext.setCell ?_ (by simp <;> omega) _) | (refine Ext.trans ?_ (by assumption)))))).mono ?_; rintro e' w1 ⟨rfl, hb⟩; rw [Ho.out]; simp only [smallV])
            go_ret2
            refine ⟨?_, Ext.trans Hx.out (by with_reducible repeat (first | exact Ext.refl _ | assumption | apply Ext.drewN | apply Ext.drew | apply Ext.alloc | (refine Ext.setCell ?_ (by simp <;> omega) _) | (refine Ext.trans ?_ (by assumption))))⟩
            have h1 := Hi.out
            rw [Hst.out, Ho.out] at h1
            rw [← h1]
            rfl
          | some q' =>
            have hq' := smallO_le ho
            have Ho := Lib.hid ho; clear ho
            go_wp2_with (with_reducible refine (HI.out _ (Ext.trans Hx.out (by with_reducible repeat (first | exact Ext.refl _ | assumption | apply Ext.drewN | apply Ext.drew | apply Ext.alloc | (refine Ext.setCell ?_ (by simp <;> omega) _) | (refine Ext.trans ?_ (by assumption)))))).mono ?_; rintro e' w1 ⟨rfl, hb⟩; rw [Ho.out]; simp only [smallV])
            go_roundw
            case rel =>
              refine ⟨k + 1, q', by omega, by omega, by go_num, rfl, ?_, Ext.trans Hx.out (by with_reducible repeat (first | exact Ext.refl _ | assumption | apply Ext.drewN | apply Ext.drew | apply Ext.alloc | (refine Ext.setCell ?_ (by simp <;> omega) _) | (refine Ext.trans ?_ (by assumption))))⟩
              have h1 := Hi.out
              rw [Hst.out, Ho.out] at h1
              exact h1
            case measure => simp [intOf]; omega
      · have hkn : k = ts.length := by omega
        subst hkn
        go_wp2
        go_ret2
        refine ⟨?_, hx⟩
        have h1 := Hi.out
        rw [List.drop_length, smallL] at h1
        rw [← h1]
        rfl

end Go.Proofs.Ytgkdeknfmmgbdaa
