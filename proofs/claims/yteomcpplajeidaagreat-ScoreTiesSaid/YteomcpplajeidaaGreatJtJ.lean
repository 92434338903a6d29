/-
  Lemmas of this claim (JtJ). Nothing is asked.
-/
import Derived.Test.YteomcpplajeidaaGreatJtI
namespace Go.Proofs.YteomcpplajeidaaGreat
set_option linter.unusedVariables false
set_option linter.unusedSimpArgs false
set_option maxRecDepth 100000
open Go.RowKit
mutual
def formedB : Ex → Bool
  | .mk op n nm ts =>
    if op.toList == [110, 117, 109] then ts.length == 0 && (nm.toList == [] && rightB n.1 n.2)
    else if op.toList == [110, 97, 109, 101] then ts.length == 0 && (!(nm.toList == []) && (n.1 == 0 && n.2 == 0))
    else !(opIx op == -1) && (ts.length == 2 && (nm.toList == [] && ((n.1 == 0 && n.2 == 0) && formedL ts)))
def formedL : List Ex → Bool
  | [] => true
  | t :: ts => formedB t && formedL ts
end
theorem formed_num (S : Nat → Prop) (op : ByteArray) (n : Int × Int) (nm : ByteArray) (ts : List Ex) (h : (op.toList == [110, 117, 109]) = true) (w : World) (v : Value) (hv : Rd S w (.mk op n nm ts) v) :
    Calls Tryz.prog 134 #[v] w fun e w' => e = .returned (.bool (ts.length == 0 && (nm.toList == [] && rightB n.1 n.2))) ∧ Ext w w' := by
  unfold Rd at hv
  obtain ⟨base, cap, rfl, hn, -, -⟩ := hv
  have HR := Lib.hid (fun w => Right_any n.1 n.2 hn.n1 hn.n2 hn.d2 w)
  clear hn
  cases h1 : (ts.length == 0)
  · have g1 : ¬ ts.length = 0 := by simpa using h1
    clear h1
    go_enter Tryz.func134, Tryz.ntmps134
    go_wp2
    go_ret
    exact ⟨by simp, (by with_reducible repeat (first | exact Ext.refl _ | assumption | apply Ext.drewN | apply Ext.drew | apply Ext.alloc | (refine Ext.setCell ?_ (by simp <;> omega) _) | (refine Ext.trans ?_ (by assumption))))⟩
  · have g1 : ts.length = 0 := by simpa using h1
    rw [g1]
    clear h1
    cases h2 : (nm.toList == [])
    · go_enter Tryz.func134, Tryz.ntmps134
      go_wp2
      go_ret
      exact ⟨by simp, (by with_reducible repeat (first | exact Ext.refl _ | assumption | apply Ext.drewN | apply Ext.drew | apply Ext.alloc | (refine Ext.setCell ?_ (by simp <;> omega) _) | (refine Ext.trans ?_ (by assumption))))⟩
    · go_enter Tryz.func134, Tryz.ntmps134
      go_wp2_with (go_at_call 120; (with_reducible refine (HR.out _).mono ?_); rintro e w1 ⟨rfl, hb⟩)
      go_ret
      exact ⟨by simp, (by with_reducible repeat (first | exact Ext.refl _ | assumption | apply Ext.drewN | apply Ext.drew | apply Ext.alloc | (refine Ext.setCell ?_ (by simp <;> omega) _) | (refine Ext.trans ?_ (by assumption))))⟩
theorem formed_name (S : Nat → Prop) (op : ByteArray) (n : Int × Int) (nm : ByteArray) (ts : List Ex) (h0 : (op.toList == [110, 117, 109]) = false) (h : (op.toList == [110, 97, 109, 101]) = true) (w : World) (v : Value) (hv : Rd S w (.mk op n nm ts) v) :
    Calls Tryz.prog 134 #[v] w fun e w' => e = .returned (.bool (ts.length == 0 && (!(nm.toList == []) && (n.1 == 0 && n.2 == 0)))) ∧ Ext w w' := by
  unfold Rd at hv
  obtain ⟨base, cap, rfl, -, -, -⟩ := hv
  cases h1 : (ts.length == 0)
  · have g1 : ¬ ts.length = 0 := by simpa using h1
    clear h1
    go_enter Tryz.func134, Tryz.ntmps134
    go_wp2
    go_ret
    exact ⟨by simp, (by with_reducible repeat (first | exact Ext.refl _ | assumption | apply Ext.drewN | apply Ext.drew | apply Ext.alloc | (refine Ext.setCell ?_ (by simp <;> omega) _) | (refine Ext.trans ?_ (by assumption))))⟩
  · have g1 : ts.length = 0 := by simpa using h1
    rw [g1]
    clear h1
    cases h2 : (nm.toList == [])
    · go_enter Tryz.func134, Tryz.ntmps134
      go_wp2
      all_goals go_ret
      all_goals exact ⟨by simp [*], (by with_reducible repeat (first | exact Ext.refl _ | assumption | apply Ext.drewN | apply Ext.drew | apply Ext.alloc | (refine Ext.setCell ?_ (by simp <;> omega) _) | (refine Ext.trans ?_ (by assumption))))⟩
    · go_enter Tryz.func134, Tryz.ntmps134
      go_wp2
      go_ret
      exact ⟨by simp, (by with_reducible repeat (first | exact Ext.refl _ | assumption | apply Ext.drewN | apply Ext.drew | apply Ext.alloc | (refine Ext.setCell ?_ (by simp <;> omega) _) | (refine Ext.trans ?_ (by assumption))))⟩
theorem formed_none (S : Nat → Prop) (op : ByteArray) (n : Int × Int) (nm : ByteArray) (ts : List Ex) (h0 : (op.toList == [110, 117, 109]) = false) (h : (op.toList == [110, 97, 109, 101]) = false) (hi : opIx op = -1) (w : World) (v : Value) (hv : Rd S w (.mk op n nm ts) v) :
    Calls Tryz.prog 134 #[v] w fun e w' => e = .returned (.bool false) ∧ Ext w w' := by
  unfold Rd at hv
  obtain ⟨base, cap, rfl, -, -, -⟩ := hv
  have HF := Lib.hid (find_any op)
  rw [hi] at HF
  simp only [findV, if_true] at HF
  go_enter Tryz.func134, Tryz.ntmps134
  go_wp2_with (go_at_call 137; (with_reducible refine (HF.out _).mono ?_); rintro e w1 ⟨rfl, hb⟩; obtain ⟨hc, hf⟩ := hb.cells)
  go_ret
  exact ⟨rfl, (by with_reducible repeat (first | exact Ext.refl _ | assumption | apply Ext.drewN | apply Ext.drew | apply Ext.alloc | (refine Ext.setCell ?_ (by simp <;> omega) _) | (refine Ext.trans ?_ (by assumption))))⟩
theorem find_some (op : ByteArray) (hi : ¬ opIx op = -1) (w : World) : Calls Tryz.prog 137 #[.string op] w fun e w' => e = .returned (.tuple #[.agg #[.string (opNm (opIx op).toNat), .func (.func (opFn (opIx op).toNat)) #[] #[]], .bool true]) ∧ Ext w w' := by
  have h := find_any op w
  rw [findV, if_neg hi] at h
  exact h
set_option maxRecDepth 100000 in
set_option maxHeartbeats 1000000 in
theorem formed_op1 (S : Nat → Prop) (op : ByteArray) (n : Int × Int) (nm : ByteArray) (ts : List Ex) (h0 : (op.toList == [110, 117, 109]) = false) (h : (op.toList == [110, 97, 109, 101]) = false) (hi : ¬ opIx op = -1)
    (h1 : ¬ ts.length = 2 ∨ (ts.length = 2 ∧ (nm.toList == []) = false) ∨ (ts.length = 2 ∧ (nm.toList == []) = true ∧ (n.1 == 0 && n.2 == 0) = false)) (w : World) (v : Value) (hv : Rd S w (.mk op n nm ts) v) :
    Calls Tryz.prog 134 #[v] w fun e w' => e = .returned (.bool false) ∧ Ext w w' := by
  unfold Rd at hv
  obtain ⟨base, cap, rfl, -, -, -⟩ := hv
  have HF := Lib.hid (find_some op hi)
  clear hi
  generalize ts.length = m at *
  rcases h1 with h1 | ⟨rfl, h2⟩ | ⟨rfl, h2, h3⟩
  · have h1' : ¬ (m : Int) = 2 := by omega
    go_enter Tryz.func134, Tryz.ntmps134
    go_wp2_with (go_at_call 137; (with_reducible refine (HF.out _).mono ?_); rintro e w1 ⟨rfl, hb⟩; obtain ⟨hc, hf⟩ := hb.cells; have hz := hb.size; simp at hz; have z1 : w.heap.size < w1.heap.size := (by omega))
    go_ret
    exact ⟨rfl, (by with_reducible repeat (first | exact Ext.refl _ | assumption | apply Ext.drewN | apply Ext.drew | apply Ext.alloc | (refine Ext.setCell ?_ (by simp <;> omega) _) | (refine Ext.trans ?_ (by assumption))))⟩
  · go_enter Tryz.func134, Tryz.ntmps134
    go_wp2_with (go_at_call 137; (with_reducible refine (HF.out _).mono ?_); rintro e w1 ⟨rfl, hb⟩; obtain ⟨hc, hf⟩ := hb.cells; have hz := hb.size; simp at hz; have z1 : w.heap.size < w1.heap.size := (by omega))
    go_ret
    exact ⟨rfl, (by with_reducible repeat (first | exact Ext.refl _ | assumption | apply Ext.drewN | apply Ext.drew | apply Ext.alloc | (refine Ext.setCell ?_ (by simp <;> omega) _) | (refine Ext.trans ?_ (by assumption))))⟩
  · go_enter Tryz.func134, Tryz.ntmps134
    go_wp2_with (go_at_call 137; (with_reducible refine (HF.out _).mono ?_); rintro e w1 ⟨rfl, hb⟩; obtain ⟨hc, hf⟩ := hb.cells; have hz := hb.size; simp at hz; have z1 : w.heap.size < w1.heap.size := (by omega))
    all_goals first | (go_ret; exact ⟨rfl, (by with_reducible repeat (first | exact Ext.refl _ | assumption | apply Ext.drewN | apply Ext.drew | apply Ext.alloc | (refine Ext.setCell ?_ (by simp <;> omega) _) | (refine Ext.trans ?_ (by assumption))))⟩) | (exfalso; simp_all)
set_option maxRecDepth 100000 in
set_option maxHeartbeats 1000000 in
theorem formed_op2 (S : Nat → Prop) (op : ByteArray) (nm : ByteArray) (ta tb : Ex) (h0 : (op.toList == [110, 117, 109]) = false) (h : (op.toList == [110, 97, 109, 101]) = false) (hi : ¬ opIx op = -1)
    (h2 : (nm.toList == []) = true) (w : World) (v : Value) (hv : Rd S w (.mk op (0, 0) nm [ta, tb]) v)
    (ia : ∀ (w : World) (v : Value), Rd S w ta v → Calls Tryz.prog 134 #[v] w fun e w' => e = .returned (.bool (formedB ta)) ∧ Ext w w')
    (ib : ∀ (w : World) (v : Value), Rd S w tb v → Calls Tryz.prog 134 #[v] w fun e w' => e = .returned (.bool (formedB tb)) ∧ Ext w w') :
    Calls Tryz.prog 134 #[v] w fun e w' => e = .returned (.bool (formedB ta && formedB tb)) ∧ Ext w w' := by
  unfold Rd at hv
  obtain ⟨base, cap, rfl, -, -, hr⟩ := hv
  rcases hr with hr | ⟨b, rfl, hs, hl⟩
  · cases hr
  obtain ⟨c, hc, hra⟩ := hl.get 0 (by simp)
  obtain ⟨d, hd, hrb⟩ := hl.get 1 (by simp)
  obtain ⟨oa, a1, a2, na, ba, la, ca, c0, c1, c2, c3, c4, ea⟩ := hra.shape
  obtain ⟨ob, b1, b2, nb, bb, lb, cb, d0, d1, d2, d3, d4, eb⟩ := hrb.shape
  simp only [List.getElem_cons_zero, List.getElem_cons_succ] at hra hrb
  rw [ea] at hra
  rw [eb] at hrb
  have hbl : b < w.heap.size := World.block_lt_of_cell? w _ (hc 0 (by decide))
  have k0 := (hc 0 (by decide)).trans (congrArg some c0)
  have k1 := (hc 1 (by decide)).trans (congrArg some c1)
  have k2 := (hc 2 (by decide)).trans (congrArg some c2)
  have k3 := (hc 3 (by decide)).trans (congrArg some c3)
  have k4 := (hc 4 (by decide)).trans (congrArg some c4)
  have k5 := (hd 0 (by decide)).trans (congrArg some d0)
  have k6 := (hd 1 (by decide)).trans (congrArg some d1)
  have k7 := (hd 2 (by decide)).trans (congrArg some d2)
  have k8 := (hd 3 (by decide)).trans (congrArg some d3)
  have k9 := (hd 4 (by decide)).trans (congrArg some d4)
  simp only [Nat.zero_add, Nat.zero_mul, Nat.add_zero, Nat.one_mul, Nat.reduceAdd] at k0 k1 k2 k3 k4 k5 k6 k7 k8 k9
  have IA := Lib.hid (fun w' hw => ia w' _ (Rd.ext hw hra))
  have IB := Lib.hid (fun w' hw => ib w' _ (Rd.ext hw hrb))
  have HF := Lib.hid (find_some op hi)
  clear hi hc hd c0 c1 c2 c3 c4 d0 d1 d2 d3 d4 ea eb hra hrb hl ia ib
  have g1 : b < w.heap.size + 1 := by omega
  cases hx : formedB ta
  · rw [hx] at IA
    clear hx
    go_enter Tryz.func134, Tryz.ntmps134
    go_wp2_with (first
      | (go_at_call 137; (with_reducible refine (HF.out _).mono ?_); rintro e w1 ⟨rfl, hb⟩; obtain ⟨hc, hf⟩ := hb.cells; have hz := hb.size; simp at hz; have z1 : w.heap.size < w1.heap.size := (by omega); have z2 : b < w1.heap.size := (by omega))
      | (go_at_call 134; (with_reducible refine (IA.out _ (by with_reducible repeat (first | exact Ext.refl _ | assumption | apply Ext.drewN | apply Ext.drew | apply Ext.alloc | (refine Ext.setCell ?_ (by simp <;> omega) _) | (refine Ext.trans ?_ (by assumption))))).mono ?_); rintro e w2 ⟨rfl, hb2⟩))
    go_ret
    exact ⟨rfl, (by with_reducible repeat (first | exact Ext.refl _ | assumption | apply Ext.drewN | apply Ext.drew | apply Ext.alloc | (refine Ext.setCell ?_ (by simp <;> omega) _) | (refine Ext.trans ?_ (by assumption))))⟩
  · rw [hx] at IA
    clear hx
    go_enter Tryz.func134, Tryz.ntmps134
    go_wp2_with (first
      | (go_at_call 137; (with_reducible refine (HF.out _).mono ?_); rintro e w1 ⟨rfl, hb⟩; obtain ⟨hc, hf⟩ := hb.cells; have hz := hb.size; simp at hz; have z1 : w.heap.size < w1.heap.size := (by omega); have z2 : b < w1.heap.size := (by omega))
      | (go_at_call 134; (with_reducible refine (IA.out _ (by with_reducible repeat (first | exact Ext.refl _ | assumption | apply Ext.drewN | apply Ext.drew | apply Ext.alloc | (refine Ext.setCell ?_ (by simp <;> omega) _) | (refine Ext.trans ?_ (by assumption))))).mono ?_); rintro e w2 ⟨rfl, hb2⟩; obtain ⟨hc2, hf2⟩ := hb2.cells; have z3 : w.heap.size < w1.heap.size + 1 := (by omega); have z4 : b < w1.heap.size + 1 := (by omega))
      | (go_at_call 134; (with_reducible refine (IB.out _ (by with_reducible repeat (first | exact Ext.refl _ | assumption | apply Ext.drewN | apply Ext.drew | apply Ext.alloc | (refine Ext.setCell ?_ (by simp <;> omega) _) | (refine Ext.trans ?_ (by assumption))))).mono ?_); rintro e w3 ⟨rfl, hb3⟩))
    go_ret
    exact ⟨by simp, (by with_reducible repeat (first | exact Ext.refl _ | assumption | apply Ext.drewN | apply Ext.drew | apply Ext.alloc | (refine Ext.setCell ?_ (by simp <;> omega) _) | (refine Ext.trans ?_ (by assumption))))⟩
theorem formed_any (S : Nat → Prop) : ∀ (d : Nat) (t : Ex) (_ : t.depth ≤ d) (w : World) (v : Value) (_ : Rd S w t v),
    Calls Tryz.prog 134 #[v] w fun e w' => e = .returned (.bool (formedB t)) ∧ Ext w w'
  | 0, .mk op n nm ts, hd, w, v, hv => by rw [Ex.depth] at hd; omega
  | d + 1, .mk op n nm ts, hd, w, v, hv => by
    rw [formedB]
    cases h0 : (op.toList == [110, 117, 109])
    · cases h : (op.toList == [110, 97, 109, 101])
      · simp only [Bool.false_eq_true, if_false]
        by_cases hi : opIx op = -1
        · rw [hi]
          exact formed_none S op n nm ts h0 h hi w v hv
        · rw [show (opIx op == -1) = false by simpa using hi]
          by_cases h2 : ts.length = 2
          · cases h3 : (nm.toList == [])
            · rw [show (!false && (ts.length == 2 && (false && ((n.1 == 0 && n.2 == 0) && formedL ts)))) = false by simp]
              exact formed_op1 S op n nm ts h0 h hi (.inr (.inl ⟨h2, h3⟩)) w v hv
            · cases h4 : (n.1 == 0 && n.2 == 0)
              · rw [show (!false && (ts.length == 2 && (true && (false && formedL ts)))) = false by simp]
                exact formed_op1 S op n nm ts h0 h hi (.inr (.inr ⟨h2, h3, h4⟩)) w v hv
              · match ts, h2, hv, hd with
                | [ta, tb], _, hv, hd =>
                  have hn : n = (0, 0) := by
                    obtain ⟨n1, n2⟩ := n
                    simp at h4
                    rw [h4.1, h4.2]
                  subst hn
                  rw [Ex.depth, Ex.depthL, Ex.depthL, Ex.depthL] at hd
                  rw [show (!false && ([ta, tb].length == 2 && (true && (true && formedL [ta, tb])))) = (formedB ta && formedB tb) by simp [formedL]]
                  exact formed_op2 S op nm ta tb h0 h hi h3 w v hv (fun w v hv => formed_any S d ta (by omega) w v hv) (fun w v hv => formed_any S d tb (by omega) w v hv)
          · rw [show (!false && (ts.length == 2 && (nm.toList == [] && ((n.1 == 0 && n.2 == 0) && formedL ts)))) = false by simp [h2]]
            exact formed_op1 S op n nm ts h0 h hi (.inl h2) w v hv
      · simp only [Bool.false_eq_true, if_false, if_true]
        exact formed_name S op n nm ts h0 h w v hv
    · simp only [if_true]
      exact formed_num S op n nm ts h0 w v hv
def wrongI (t : Ex) : Int := if t.parts ≤ 60 ∧ t.depth ≤ 12 then (if formedB t then 0 else 1) else 2
theorem wrong_any (S : Nat → Prop) (t : Ex) (w : World) (v : Value) (hv : Rd S w t v) :
    Calls Tryz.prog 88 #[v] w fun e w' => e = .returned (.int .i64 (wrongI t)) ∧ Ext w w' := by
  have HS := Lib.hid (show ∀ w', Ext w w' → Calls Tryz.prog 133 #[v, .int .i64 60, .int .i64 12] w' fun e w'' => e = .returned (smallV (smallO t 60 12)) ∧ Ext w' w'' from fun w' hw => small_any S 12 60 (by decide) (by decide) t w' v (Rd.ext hw hv))
  have hF : t.depth ≤ 12 → ∀ (w' : World), Ext w w' → Calls Tryz.prog 134 #[v] w' fun e w'' => e = .returned (.bool (formedB t)) ∧ Ext w' w'' := fun h w' hw => formed_any S 12 t h w' v (Rd.ext hw hv)
  have hsh : ∃ op n1 n2 nm base len cap, v = .agg #[.string op, .int .i64 n1, .int .i64 n2, .string nm, .slice base len cap] := by
    obtain ⟨op, n, nm, ts⟩ := t
    unfold Rd at hv
    obtain ⟨base, cap, hv, -⟩ := hv
    exact ⟨_, _, _, _, _, _, _, hv⟩
  obtain ⟨op, n1, n2, nm, base, len, cap, rfl⟩ := hsh
  clear hv
  unfold wrongI
  rw [smallO_eq] at HS
  by_cases h : t.parts ≤ 60 ∧ t.depth ≤ 12
  · rw [if_pos h]
    rw [if_pos h] at HS
    have HF := Lib.hid (hF h.2)
    clear hF h
    cases hx : formedB t
    · rw [hx] at HF
      clear hx
      go_enter Tryz.func88, Tryz.ntmps88
      go_wp2_with (first
        | (go_at_call 133; (with_reducible refine (HS.out _ (by with_reducible repeat (first | exact Ext.refl _ | assumption | apply Ext.drewN | apply Ext.drew | apply Ext.alloc | (refine Ext.setCell ?_ (by simp <;> omega) _) | (refine Ext.trans ?_ (by assumption))))).mono ?_); rintro e w1 ⟨rfl, hb⟩; obtain ⟨hc, hf⟩ := hb.cells; simp only [smallV])
        | (go_at_call 134; (with_reducible refine (HF.out _ (by with_reducible repeat (first | exact Ext.refl _ | assumption | apply Ext.drewN | apply Ext.drew | apply Ext.alloc | (refine Ext.setCell ?_ (by simp <;> omega) _) | (refine Ext.trans ?_ (by assumption))))).mono ?_); rintro e w2 ⟨rfl, hb2⟩))
      go_ret
      exact ⟨rfl, (by with_reducible repeat (first | exact Ext.refl _ | assumption | apply Ext.drewN | apply Ext.drew | apply Ext.alloc | (refine Ext.setCell ?_ (by simp <;> omega) _) | (refine Ext.trans ?_ (by assumption))))⟩
    · rw [hx] at HF
      clear hx
      go_enter Tryz.func88, Tryz.ntmps88
      go_wp2_with (first
        | (go_at_call 133; (with_reducible refine (HS.out _ (by with_reducible repeat (first | exact Ext.refl _ | assumption | apply Ext.drewN | apply Ext.drew | apply Ext.alloc | (refine Ext.setCell ?_ (by simp <;> omega) _) | (refine Ext.trans ?_ (by assumption))))).mono ?_); rintro e w1 ⟨rfl, hb⟩; obtain ⟨hc, hf⟩ := hb.cells; simp only [smallV])
        | (go_at_call 134; (with_reducible refine (HF.out _ (by with_reducible repeat (first | exact Ext.refl _ | assumption | apply Ext.drewN | apply Ext.drew | apply Ext.alloc | (refine Ext.setCell ?_ (by simp <;> omega) _) | (refine Ext.trans ?_ (by assumption))))).mono ?_); rintro e w2 ⟨rfl, hb2⟩))
      go_ret
      exact ⟨rfl, (by with_reducible repeat (first | exact Ext.refl _ | assumption | apply Ext.drewN | apply Ext.drew | apply Ext.alloc | (refine Ext.setCell ?_ (by simp <;> omega) _) | (refine Ext.trans ?_ (by assumption))))⟩
  · rw [if_neg h]
    rw [if_neg h] at HS
    clear hF h
    go_enter Tryz.func88, Tryz.ntmps88
    go_wp2_with (go_at_call 133; (with_reducible refine (HS.out _ (by with_reducible repeat (first | exact Ext.refl _ | assumption | apply Ext.drewN | apply Ext.drew | apply Ext.alloc | (refine Ext.setCell ?_ (by simp <;> omega) _) | (refine Ext.trans ?_ (by assumption))))).mono ?_); rintro e w1 ⟨rfl, hb⟩; obtain ⟨hc, hf⟩ := hb.cells; simp only [smallV])
    go_ret
    exact ⟨rfl, (by with_reducible repeat (first | exact Ext.refl _ | assumption | apply Ext.drewN | apply Ext.drew | apply Ext.alloc | (refine Ext.setCell ?_ (by simp <;> omega) _) | (refine Ext.trans ?_ (by assumption))))⟩
end Go.Proofs.YteomcpplajeidaaGreat
