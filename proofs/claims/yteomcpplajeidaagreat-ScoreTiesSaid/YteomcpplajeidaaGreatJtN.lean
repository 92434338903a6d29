/-
  Lemmas of this claim (JtN). Nothing is asked.
-/
import Derived.Test.YteomcpplajeidaaGreatJtL
import Derived.Test.YteomcpplajeidaaGreatJtM
import Derived.Defers
import Derived.Recover
import Derived.Laws.Pointers
import Derived.Laws.OwnMore
import Derived.Deep.AppendLies
import Derived.Deep.Onto
namespace Go.Proofs.YteomcpplajeidaaGreat
set_option linter.unusedVariables false
set_option linter.unusedSimpArgs false
set_option maxRecDepth 100000
open Go.RowKit
theorem valueE_I2 {S : Nat → Prop} {vs : Vals} (hvs : VR vs) : ∀ (d : Nat) (t : Ex) (_ : t.depth ≤ d) {w : World} {v : Value} (_ : Rd S w t v) {x : Int × Int}, valueE vs t = .ok x → I2 x
  | 0, .mk op n nm ts, hd, _, _, _, _, _ => by rw [Ex.depth] at hd; omega
  | d + 1, .mk op n nm ts, hd, w, v, hv, x, hx => by
    unfold Rd at hv
    obtain ⟨base, cap, hv, hn, -, hr⟩ := hv
    rw [valueE] at hx
    split at hx
    · injection hx with hx; rw [← hx]; exact hn
    · split at hx
      · cases hl : look vs nm with
        | none => rw [hl] at hx; cases hx
        | some k =>
          rw [hl] at hx
          injection hx with hx
          have := look_range hvs hl
          rw [← hx]
          exact ⟨this.1, this.2, by show (-9223372036854775808 : Int) ≤ 1; decide, by show (1 : Int) ≤ 9223372036854775807; decide⟩
      · match ts, hd, hr with
        | [], _, _ => simp [valueL] at hx
        | [_], _, _ => simp [valueL] at hx
        | _ :: _ :: _ :: _, _, _ => simp [valueL] at hx
        | [ta, tb], hd, hr =>
          rw [Ex.depth, Ex.depthL, Ex.depthL, Ex.depthL] at hd
          rcases hr with hr | ⟨b, -, -, hl⟩
          · cases hr
          obtain ⟨c, -, hra⟩ := hl.get 0 (by simp)
          obtain ⟨e, -, hrb⟩ := hl.get 1 (by simp)
          simp only [List.getElem_cons_zero, List.getElem_cons_succ] at hra hrb
          simp only [valueL] at hx
          cases ha : valueE vs ta with
          | error f => rw [ha] at hx; cases hx
          | ok y =>
            cases hb : valueE vs tb with
            | error f => rw [ha, hb] at hx; cases hx
            | ok z =>
              rw [ha, hb] at hx
              have ia := valueE_I2 hvs d ta (by omega) hra ha
              have ib := valueE_I2 hvs d tb (by omega) hrb hb
              have := applyI_I2 (opIx op).toNat y z ia ib
              simp only [appE] at hx
              split at hx
              · injection hx with hx; rw [← hx]; exact this
              · cases hx
theorem value_any (S : Nat → Prop) (vs : Vals) : ∀ (d : Nat) (t : Ex) (_ : t.depth ≤ d) (_ : formedB t = true) (w : World) (v sl : Value) (_ : Rd S w t v) (_ : VRd S w vs sl),
    Calls Tryz.prog 90 #[v, sl] w fun e w' => e = endE (valueE vs t) ∧ Ext w w'
  | 0, .mk op n nm ts, hd, _, _, _, _, _, _ => by rw [Ex.depth] at hd; omega
  | d + 1, .mk op n nm ts, hd, hf, w, v, sl, hv, hs => by
    rw [formedB] at hf
    rw [valueE]
    cases h0 : (op.toList == [110, 117, 109])
    · rw [h0] at hf
      cases h : (op.toList == [110, 97, 109, 101])
      · rw [h] at hf
        simp only [Bool.false_eq_true, if_false] at hf ⊢
        simp only [Bool.and_eq_true, Bool.not_eq_true', beq_eq_false_iff_ne, ne_eq, beq_iff_eq] at hf
        obtain ⟨hi, h2, -, -, hl⟩ := hf
        match ts, h2, hl, hd, hv with
        | [ta, tb], _, hl, hd, hv =>
          rw [Ex.depth, Ex.depthL, Ex.depthL, Ex.depthL] at hd
          simp only [formedL, Bool.and_eq_true, Bool.and_true] at hl
          have ia := fun w v sl hv hs => value_any S vs d ta (by omega) hl.1 w v sl hv hs
          have ib := fun w v sl hv hs => value_any S vs d tb (by omega) hl.2 w v sl hv hs
          simp only [valueL]
          cases ha : valueE vs ta with
          | error f => exact value_op1 S op n nm ta tb h0 h hi vs w v sl hv hs _ _ ia ib f ha
          | ok y =>
            cases hb : valueE vs tb with
            | error f => exact value_op2 S op n nm ta tb h0 h hi vs w v sl hv hs _ _ ia ib y f ha hb
            | ok z =>
              have hvs : VR vs := by obtain ⟨_, _, _, _, h, _⟩ := hs; exact h
              have hra : ∃ w v, Rd S w ta v := by
                unfold Rd at hv
                obtain ⟨base, cap, hv, hn, -, hr⟩ := hv
                rcases hr with hr | ⟨b, -, -, hl⟩
                · cases hr
                obtain ⟨c, -, hra⟩ := hl.get 0 (by simp)
                exact ⟨_, _, hra⟩
              have hrb : ∃ w v, Rd S w tb v := by
                unfold Rd at hv
                obtain ⟨base, cap, hv, hn, -, hr⟩ := hv
                rcases hr with hr | ⟨b, -, -, hl⟩
                · cases hr
                obtain ⟨c, -, hrb⟩ := hl.get 1 (by simp)
                exact ⟨_, _, hrb⟩
              obtain ⟨wa, va, hra⟩ := hra
              obtain ⟨wb, vb, hrb⟩ := hrb
              have hb6 := opIx_bd op
              exact value_op3 S op n nm ta tb h0 h hi vs w v sl hv hs _ _ ia ib y z ha hb (applyI (opIx op).toNat y z)
                (fun w => apply_any div64_said _ (by omega) y z (valueE_I2 hvs d ta (by omega) hra ha) (valueE_I2 hvs d tb (by omega) hrb hb) w) _ (Lib.hid rfl)
      · simp only [Bool.false_eq_true, if_false, if_true]
        exact value_name S op n nm ts h0 h vs w v sl hv hs
    · simp only [if_true]
      exact (value_num S op n nm ts h0 w v sl hv)
end Go.Proofs.YteomcpplajeidaaGreat
namespace Go.Proofs.YteomcpplajeidaaGreat
set_option linter.unusedVariables false
set_option linter.unusedSimpArgs false
set_option maxRecDepth 100000
open Go.RowKit
theorem catch_idle (p q : Nat) (w : World) :
    CallsD Tryz.prog 89 #[.pointer (some ⟨p, 0, none⟩), .pointer (some ⟨q, 0, none⟩)] .returning w fun e u' w' => e = .returned (.tuple #[]) ∧ u' = .returning ∧ w' = w := by
  refine callsD_of_wpS Tryz.func89 rfl fun c₀ cs hu => ?_
  apply wpS_seq
  apply wpS_region
  simp [wpOpsS, go_sem, recoverD, hu, Tryz.ntmps89, Exit.thenS]
  refine wpS_of_wp ?_
  go_wp2
  cases c₀
  simp_all [bodyPostS, results, Tryz.results89]
theorem frame14 (a b v : Value) : (#[a, b] ++ (Array.replicate 12 undef).setIfInBounds 3 v : Array Value) = #[a, b, undef, undef, undef, v, undef, undef, undef, undef, undef, undef, undef, undef] := rfl
theorem assert91 (f : Int) (w : World) : (Instr.typeAssert (.iface 159 (.agg #[.int .i64 f])) 20 159 true).run Tryz.prog w = .ok (.tuple #[.agg #[.int .i64 f], .bool true]) w := by kernel_rfl
set_option maxRecDepth 100000 in
theorem catch_panic (B p q : Nat) (f a b c : Int) (older : List PanicEntry) (w : World) (h0 : w.cell? ⟨p, 0, none⟩ = some (.int .i64 a)) (h1 : w.cell? ⟨p, 1, none⟩ = some (.int .i64 b)) (h2 : w.cell? ⟨q, 0, none⟩ = some (.int .i64 c))
   (f0 : w.frozen? ⟨p, 0, none⟩ = false) (f1 : w.frozen? ⟨p, 1, none⟩ = false) (f2 : w.frozen? ⟨q, 0, none⟩ = false) (hpq : ¬ p = q) (hp : B ≤ p) (hq : B ≤ q) (hB : B ≤ w.heap.size) :
    CallsD Tryz.prog 89 #[.pointer (some ⟨p, 0, none⟩), .pointer (some ⟨q, 0, none⟩)] (.panicking ({ v := .iface 159 (.agg #[.int .i64 f]), recovered := false } :: older)) w fun e u' w' => e = .returned (.tuple #[]) ∧ u' = .panicking ({ v := .iface 159 (.agg #[.int .i64 f]), recovered := true } :: older) ∧
      w'.cell? ⟨p, 0, none⟩ = some (.int .i64 0) ∧ w'.cell? ⟨p, 1, none⟩ = some (.int .i64 0) ∧ w'.cell? ⟨q, 0, none⟩ = some (.int .i64 f) ∧ Below B w w' := by
  refine callsD_of_wpS Tryz.func89 rfl fun c₀ cs hu => ?_
  apply wpS_seq
  apply wpS_region
  simp [wpOpsS, go_sem, recoverD, hu, Tryz.ntmps89, Exit.thenS]
  refine wpS_of_wp ?_
  rw [frame14]
  have hta := assert91 f
  have np : ¬ p = w.heap.size := by have := World.block_lt_of_cell? w _ h0; simp at this; omega
  have nq : ¬ q = w.heap.size := by have := World.block_lt_of_cell? w _ h2; simp at this; omega
  have np' : ¬ w.heap.size = p := by omega
  have nq' : ¬ w.heap.size = q := by omega
  go_wp2
  have e0 : Below B w (w.alloc (Obj.cells #[.int .i64 f] 159)) := (Below.refl _ _).alloc hB _
  have hc := (Ext.alloc (Ext.refl w) (Obj.cells #[.int .i64 f] 159)).cells
  have pl : p < w.heap.size := World.block_lt_of_cell? w _ h0
  have ql : q < w.heap.size := World.block_lt_of_cell? w _ h2
  have k0 := (hc.1 _ _ pl).trans h0
  have k1 := (hc.1 _ _ pl).trans h1
  have k2 := (hc.1 _ _ ql).trans h2
  have m0 := (hc.2 _ _ pl).trans f0
  have m1 := (hc.2 _ _ pl).trans f1
  have m2 := (hc.2 _ _ ql).trans f2
  have k3 : (w.alloc (Obj.cells #[.int .i64 f] 159)).cell? ⟨w.heap.size, 0, none⟩ = some (.int .i64 f) := by simp [go_sem]
  clear hc pl ql hB h0 h1 h2 f0 f1 f2
  generalize w.alloc (Obj.cells #[.int .i64 f] 159) = W at *
  generalize w.heap.size = r at *
  have qp : ¬ q = p := fun e => hpq e.symm
  go_region
  cases c₀
  simp only at hu
  subst hu
  refine ⟨rfl, _, rfl, _, results_none rfl _ _ _, rfl, rfl, ?_, ?_, ?_, (((e0.setCell (p := ⟨p, 0, none⟩) hp _).setCell (p := ⟨p, 1, none⟩) hp _).setCell (p := ⟨q, 0, none⟩) hq _).drew⟩
  · go_simp
  · go_simp
  · go_simp
end Go.Proofs.YteomcpplajeidaaGreat
namespace Go.Proofs.YteomcpplajeidaaGreat
set_option linter.unusedVariables false
set_option linter.unusedSimpArgs false
set_option maxRecDepth 100000
open Go.RowKit
def evalI (vs : Vals) (t : Ex) : (Int × Int) × Int :=
  if wrongI t = 0 then (match valueE vs t with | .ok x => (x, 0) | .error f => ((0, 0), f)) else ((0, 0), wrongI t)
set_option maxRecDepth 100000 in
set_option maxHeartbeats 1000000 in
theorem eval_wrong (S : Nat → Prop) (vs : Vals) (t : Ex) (h : ¬ wrongI t = 0) (w : World) (v sl : Value) (hv : Rd S w t v) :
    Calls Tryz.prog 53 #[v, sl] w fun e w' => e = .returned (rev ((0, 0), wrongI t)) ∧ Ext w w' := by
  have HW := Lib.hid (fun w' (hw : Ext w w') => wrong_any S t w' v (Rd.ext hw hv))
  have hsh : ∃ op n1 n2 nm base len cap, v = .agg #[.string op, .int .i64 n1, .int .i64 n2, .string nm, .slice base len cap] := by
    obtain ⟨op, n, nm, ts⟩ := t
    unfold Rd at hv
    obtain ⟨base, cap, hv, -⟩ := hv
    exact ⟨_, _, _, _, _, _, _, hv⟩
  obtain ⟨op, n1, n2, nm, base, len, cap, rfl⟩ := hsh
  clear hv
  generalize wrongI t = k at *
  go_enter_defers Tryz.func53, Tryz.ntmps53
  go_wp2_with (go_at_call 88; (with_reducible refine (HW.out _ (by with_reducible repeat (first | exact Ext.refl _ | assumption | apply Ext.drewN | apply Ext.drew | apply Ext.alloc | (refine Ext.setCell ?_ (by simp <;> omega) _) | (refine Ext.trans ?_ (by assumption))))).mono ?_); rintro e w1 ⟨rfl, hb⟩; obtain ⟨hc, hf⟩ := hb.cells; have hz := hb.size; simp at hz; have z1 : w.heap.size < w1.heap.size := (by omega); have z2 : w.heap.size + 1 < w1.heap.size := (by omega); have z3 : w.heap.size + 1 + 1 < w1.heap.size := (by omega))
  have g1 : w1.cell? ⟨w.heap.size + 1, 0, none⟩ = some (.int .i64 0) := by go_simp
  have g2 : w1.cell? ⟨w.heap.size + 1, 1, none⟩ = some (.int .i64 0) := by go_simp
  have g3 : w1.cell? ⟨w.heap.size + 1 + 1, 0, none⟩ = some (.int .i64 0) := by go_simp
  exact ⟨rev ((0, 0), k), by simp [results, Tryz.results53, go_sem, g1, g2, g3], rfl, (by with_reducible repeat (first | exact Ext.refl _ | assumption | apply Ext.drewN | apply Ext.drew | apply Ext.alloc | (refine Ext.setCell ?_ (by simp <;> omega) _) | (refine Ext.trans ?_ (by assumption))))⟩
set_option maxRecDepth 100000 in
set_option maxHeartbeats 1000000 in
theorem eval_ok (S : Nat → Prop) (vs : Vals) (t : Ex) (h : wrongI t = 0) (w : World) (v sl : Value) (hv : Rd S w t v) (hs : VRd S w vs sl) (x : Int × Int) (hx : valueE vs t = .ok x) :
    Calls Tryz.prog 53 #[v, sl] w fun e w' => e = .returned (rev (x, 0)) ∧ Ext w w' := by
  have HW := Lib.hid (fun w' (hw : Ext w w') => wrong_any S t w' v (Rd.ext hw hv))
  have hd : t.depth ≤ 12 ∧ formedB t = true := by
    unfold wrongI at h
    split at h
    · rename_i h1
      split at h
      · rename_i h2; exact ⟨h1.2, h2⟩
      · cases h
    · cases h
  have HV := Lib.hid (fun w' (hw : Ext w w') => value_any S vs 12 t hd.1 hd.2 w' v sl (Rd.ext hw hv) (hs.ext hw))
  have hsh : ∃ op n1 n2 nm base len cap, v = .agg #[.string op, .int .i64 n1, .int .i64 n2, .string nm, .slice base len cap] := by
    obtain ⟨op, n, nm, ts⟩ := t
    unfold Rd at hv
    obtain ⟨base, cap, hv, -⟩ := hv
    exact ⟨_, _, _, _, _, _, _, hv⟩
  obtain ⟨op, n1, n2, nm, base, len, cap, rfl⟩ := hsh
  clear hv hd hs
  rw [h] at HW
  rw [hx] at HV
  obtain ⟨x1, x2⟩ := x
  simp only [endE] at HV
  clear h hx
  have hmf : ∀ (fn : Fn) (first cap : Array Value) (w : World), (Instr.makeFunc fn first cap).run Tryz.prog w = .ok (.func fn first cap) w := fun _ _ _ _ => rfl
  go_enter_defers Tryz.func53, Tryz.ntmps53
  go_wp2_with (first
    | (go_at_call 88; (with_reducible refine (HW.out _ (by with_reducible repeat (first | exact Ext.refl _ | assumption | apply Ext.drewN | apply Ext.drew | apply Ext.alloc | (refine Ext.setCell ?_ (by simp <;> omega) _) | (refine Ext.trans ?_ (by assumption))))).mono ?_); rintro e w1 ⟨rfl, hb⟩; obtain ⟨hc, hf⟩ := hb.cells; have hz := hb.size; simp at hz; have z1 : w.heap.size < w1.heap.size := (by omega); have z2 : w.heap.size + 1 < w1.heap.size := (by omega); have z3 : w.heap.size + 1 + 1 < w1.heap.size := (by omega))
    | (go_at_call 90; (with_reducible refine (HV.out _ (by with_reducible repeat (first | exact Ext.refl _ | assumption | apply Ext.drewN | apply Ext.drew | apply Ext.alloc | (refine Ext.setCell ?_ (by simp <;> omega) _) | (refine Ext.trans ?_ (by assumption))))).mono ?_); rintro e w2 ⟨rfl, hb2⟩; obtain ⟨hc2, hf2⟩ := hb2.cells; have hz2 := hb2.size))
  have g1 : w2.cell? ⟨w.heap.size + 1, 0, none⟩ = some (.int .i64 0) := by go_simp
  have g2 : w2.cell? ⟨w.heap.size + 1, 1, none⟩ = some (.int .i64 0) := by go_simp
  have g3 : w2.cell? ⟨w.heap.size + 1 + 1, 0, none⟩ = some (.int .i64 0) := by go_simp
  refine leaves_cons (f := 89) (args := #[.pointer (some ⟨w.heap.size + 1, 0, none⟩), .pointer (some ⟨w.heap.size + 1 + 1, 0, none⟩)]) (by simp) (by simp [go_sem]) ?_
  refine (catch_idle _ _ _).mono ?_
  rintro e u' w'' ⟨rfl, rfl, rfl⟩
  exact ⟨rev ((x1, x2), 0), by simp [results, Tryz.results53, go_sem, g1, g2, g3], rfl, (by with_reducible repeat (first | exact Ext.refl _ | assumption | apply Ext.drewN | apply Ext.drew | apply Ext.alloc | (refine Ext.setCell ?_ (by simp <;> omega) _) | (refine Ext.trans ?_ (by assumption))))⟩
set_option maxRecDepth 100000 in
set_option maxHeartbeats 1000000 in
theorem eval_err (S : Nat → Prop) (vs : Vals) (t : Ex) (h : wrongI t = 0) (w : World) (v sl : Value) (hv : Rd S w t v) (hs : VRd S w vs sl) (f : Int) (hx : valueE vs t = .error f) :
    Calls Tryz.prog 53 #[v, sl] w fun e w' => e = .returned (rev ((0, 0), f)) ∧ Ext w w' := by
  have HW := Lib.hid (fun w' (hw : Ext w w') => wrong_any S t w' v (Rd.ext hw hv))
  have hd : t.depth ≤ 12 ∧ formedB t = true := by
    unfold wrongI at h
    split at h
    · rename_i h1
      split at h
      · rename_i h2; exact ⟨h1.2, h2⟩
      · cases h
    · cases h
  have HV := Lib.hid (fun w' (hw : Ext w w') => value_any S vs 12 t hd.1 hd.2 w' v sl (Rd.ext hw hv) (hs.ext hw))
  have hsh : ∃ op n1 n2 nm base len cap, v = .agg #[.string op, .int .i64 n1, .int .i64 n2, .string nm, .slice base len cap] := by
    obtain ⟨op, n, nm, ts⟩ := t
    unfold Rd at hv
    obtain ⟨base, cap, hv, -⟩ := hv
    exact ⟨_, _, _, _, _, _, _, hv⟩
  obtain ⟨op, n1, n2, nm, base, len, cap, rfl⟩ := hsh
  clear hv hd hs
  rw [h] at HW
  rw [hx] at HV
  simp only [endE] at HV
  clear h hx
  have hmf : ∀ (fn : Fn) (first cap : Array Value) (w : World), (Instr.makeFunc fn first cap).run Tryz.prog w = .ok (.func fn first cap) w := fun _ _ _ _ => rfl
  go_enter_defers Tryz.func53, Tryz.ntmps53
  go_wp2_with (first
    | (go_at_call 88; (with_reducible refine (HW.out _ (by with_reducible repeat (first | exact Ext.refl _ | assumption | apply Ext.drewN | apply Ext.drew | apply Ext.alloc | (refine Ext.setCell ?_ (by simp <;> omega) _) | (refine Ext.trans ?_ (by assumption))))).mono ?_); rintro e w1 ⟨rfl, hb⟩; obtain ⟨hc, hf⟩ := hb.cells; have hz := hb.size; simp at hz; have z1 : w.heap.size < w1.heap.size := (by omega); have z2 : w.heap.size + 1 < w1.heap.size := (by omega); have z3 : w.heap.size + 1 + 1 < w1.heap.size := (by omega))
    | (go_at_call 90; (with_reducible refine (HV.out _ (by with_reducible repeat (first | exact Ext.refl _ | assumption | apply Ext.drewN | apply Ext.drew | apply Ext.alloc | (refine Ext.setCell ?_ (by simp <;> omega) _) | (refine Ext.trans ?_ (by assumption))))).mono ?_); rintro e w2 ⟨rfl, hb2⟩; obtain ⟨hc2, hf2⟩ := hb2.cells; have hz2 := hb2.size))
  have g1 : w2.cell? ⟨w.heap.size + 1, 0, none⟩ = some (.int .i64 0) := by go_simp
  have g2 : w2.cell? ⟨w.heap.size + 1, 1, none⟩ = some (.int .i64 0) := by go_simp
  have g3 : w2.cell? ⟨w.heap.size + 1 + 1, 0, none⟩ = some (.int .i64 0) := by go_simp
  have p1 : w2.frozen? ⟨w.heap.size + 1, 0, none⟩ = false := by go_simp
  have p2 : w2.frozen? ⟨w.heap.size + 1, 1, none⟩ = false := by go_simp
  have p3 : w2.frozen? ⟨w.heap.size + 1 + 1, 0, none⟩ = false := by go_simp
  have hx2 : Ext w w2 := (by with_reducible repeat (first | exact Ext.refl _ | assumption | apply Ext.drewN | apply Ext.drew | apply Ext.alloc | (refine Ext.setCell ?_ (by simp <;> omega) _) | (refine Ext.trans ?_ (by assumption))))
  refine leaves_cons (f := 89) (args := #[.pointer (some ⟨w.heap.size + 1, 0, none⟩), .pointer (some ⟨w.heap.size + 1 + 1, 0, none⟩)]) (by simp) (by simp [go_sem]) ?_
  refine (catch_panic w.heap.size (w.heap.size + 1) (w.heap.size + 1 + 1) f _ _ _ [] _ g1 g2 g3 p1 p2 p3 (by omega) (by omega) (by omega) hx2.size).mono ?_
  rintro e u' w'' ⟨rfl, rfl, c1, c2, c3, hbb⟩
  exact ⟨rev ((0, 0), f), by simp [results, Tryz.results53, go_sem, c1, c2, c3], rfl, Below.trans hx2 hbb⟩
theorem eval_any (S : Nat → Prop) (vs : Vals) (t : Ex) (w : World) (v sl : Value) (hv : Rd S w t v) (hs : VRd S w vs sl) :
    Calls Tryz.prog 53 #[v, sl] w fun e w' => e = .returned (rev (evalI vs t)) ∧ Ext w w' := by
  unfold evalI
  by_cases h : wrongI t = 0
  · rw [if_pos h]
    cases hx : valueE vs t with
    | ok x => exact eval_ok S vs t h w v sl hv hs x hx
    | error f => exact eval_err S vs t h w v sl hv hs f hx
  · rw [if_neg h]
    exact eval_wrong S vs t h w v sl hv
end Go.Proofs.YteomcpplajeidaaGreat
namespace Go.Proofs.YteomcpplajeidaaGreat
set_option linter.unusedVariables false
set_option linter.unusedSimpArgs false
set_option maxRecDepth 100000
open Go.RowKit
open Go.RowKit
abbrev numB : ByteArray := ⟨#[110, 117, 109]⟩
abbrev nameB : ByteArray := ⟨#[110, 97, 109, 101]⟩
abbrev nilB : ByteArray := ⟨#[]⟩
abbrev leaf (op : ByteArray) (n : Int × Int) (nm : ByteArray) : Ex := .mk op n nm []
abbrev numE (n : Int × Int) : Ex := leaf numB n nilB
abbrev nameE (nm : ByteArray) : Ex := leaf nameB (0, 0) nm
theorem I2.zero : I2 (0, 0) := ⟨by decide, by decide, by decide, by decide⟩
theorem I2.int {n : Int} (h1 : -9223372036854775808 ≤ n) (h2 : n ≤ 9223372036854775807) : I2 (n, 1) := ⟨h1, h2, by show (-9223372036854775808 : Int) ≤ 1; decide, by show (1 : Int) ≤ 9223372036854775807; decide⟩
theorem block_new {w : World} {o : Obj} {n : Nat} (h : w.heap.size = n) : (w.alloc o).heap[n]? = some o := by
  rw [← h]; exact heap_alloc_new w o
def at5 (a0 a1 a2 a3 a4 : Value) : Nat → Value
  | 0 => a0 | 1 => a1 | 2 => a2 | 3 => a3 | _ => a4
theorem cells10 {w : World} {p : Nat} {a0 a1 a2 a3 a4 b0 b1 b2 b3 b4 : Value} {t : TypeId} (h : w.heap[p]? = some (.cells #[a0, a1, a2, a3, a4, b0, b1, b2, b3, b4] t)) :
    cellsE w p 0 (at5 a0 a1 a2 a3 a4) ∧ cellsE w p 1 (at5 b0 b1 b2 b3 b4) := by
  constructor
  · intro j hj
    rw [cell_of_row w p _ _ _ _ h]
    match j, hj with
    | 0, _ => rfl
    | 1, _ => rfl
    | 2, _ => rfl
    | 3, _ => rfl
    | 4, _ => rfl
  · intro j hj
    rw [cell_of_row w p _ _ _ _ h]
    match j, hj with
    | 0, _ => rfl
    | 1, _ => rfl
    | 2, _ => rfl
    | 3, _ => rfl
    | 4, _ => rfl
open Go.RowKit
theorem wrong_zero {t : Ex} (h : wrongI t = 0) : t.parts ≤ 60 ∧ t.depth ≤ 12 ∧ formedB t = true := by
  unfold wrongI at h
  split at h
  · rename_i h1
    split at h
    · rename_i h2; exact ⟨h1.1, h1.2, h2⟩
    · cases h
  · cases h
theorem Rd.form {S : Nat → Prop} {w : World} {t : Ex} {v : Value} (h : Rd S w t v) : ∃ op n1 n2 nm base len cap, v = .agg #[.string op, .int .i64 n1, .int .i64 n2, .string nm, .slice base len cap] := by
  obtain ⟨op, n, nm, ts⟩ := t
  unfold Rd at h
  obtain ⟨base, cap, hv, -⟩ := h
  exact ⟨_, _, _, _, _, _, _, hv⟩
open Go.RowKit
theorem Ex.depth_get : ∀ (ts : List Ex) (k : Nat) (h : k < ts.length), ts[k].depth ≤ Ex.depthL ts
  | t :: ts, 0, _ => by rw [Ex.depthL]; exact Nat.le_max_left _ _
  | t :: ts, k + 1, h => by
    rw [Ex.depthL]
    exact Nat.le_trans (Ex.depth_get ts k (by simpa using h)) (Nat.le_max_right _ _)
open Go.RowKit
abbrev priceB : ByteArray := ⟨#[112, 114, 105, 99, 101]⟩
abbrev lowB : ByteArray := ⟨#[108, 111, 119]⟩
abbrev mulB : ByteArray := ⟨#[42]⟩
abbrev quoB : ByteArray := ⟨#[47]⟩
abbrev addB : ByteArray := ⟨#[43]⟩
abbrev opE' (s : ByteArray) (a b : Ex) : Ex := .mk s (0, 0) nilB [a, b]
open Go.RowKit
abbrev All : Nat → Prop := fun _ => True
theorem vrd2 {w : World} {N : Nat} {a b : ByteArray} {n m : Int} (h : w.heap[N]? = some (.cells #[.string a, .int .i64 n, .string b, .int .i64 m] 80)) (hr : VR [(a, n), (b, m)]) : VRd All w [(a, n), (b, m)] (.slice (some ⟨N, 0, none⟩) 2 2) := by
  refine ⟨_, _, rfl, by simp, hr, .inr ⟨_, rfl, trivial, ?_⟩⟩
  intro k hk
  rw [cell_of_row w _ _ _ _ _ h, cell_of_row w _ _ _ _ _ h]
  match k, hk with
  | 0, _ => exact ⟨rfl, rfl⟩
  | 1, _ => exact ⟨rfl, rfl⟩
end Go.Proofs.YteomcpplajeidaaGreat
namespace Go.Proofs.YteomcpplajeidaaGreat
set_option linter.unusedVariables false
set_option linter.unusedSimpArgs false
set_option maxRecDepth 100000
open Go.RowKit
mutual
theorem Rd.alive {S : Nat → Prop} {w : World} : ∀ (t : Ex) (v : Value), Rd S w t v → Rd (fun b => S b ∧ b < w.heap.size) w t v
  | .mk op n nm args, v, r => by
    unfold Rd at r ⊢
    obtain ⟨base, cap, hv, hn, hn2, hr⟩ := r
    refine ⟨base, cap, hv, hn, hn2, ?_⟩
    rcases hr with rfl | ⟨b, hb, hs, hl⟩
    · exact .inl rfl
    · match args, hl with
      | [], _ => exact .inl rfl
      | t :: ts, hl =>
        refine .inr ⟨b, hb, ⟨hs, ?_⟩, RdL.alive (t :: ts) b 0 hl⟩
        unfold RdL at hl
        obtain ⟨⟨c, hc, -⟩, -⟩ := hl
        exact World.block_lt_of_cell? w _ (hc 0 (by decide))
theorem RdL.alive {S : Nat → Prop} {w : World} : ∀ (ts : List Ex) (b k : Nat), RdL S w b k ts → RdL (fun b => S b ∧ b < w.heap.size) w b k ts
  | [], _, _, _ => by unfold RdL; trivial
  | t :: ts, b, k, r => by
    unfold RdL at r ⊢
    obtain ⟨⟨c, hc, hr⟩, hl⟩ := r
    exact ⟨⟨c, hc, Rd.alive t _ hr⟩, RdL.alive ts b (k + 1) hl⟩
end
theorem addr_add (g j : Nat) : (⟨g, 0, none⟩ : Addr).add j = ⟨g, j, none⟩ := by
  unfold Addr.add
  split
  · rename_i h; rw [h]
  · simp
end Go.Proofs.YteomcpplajeidaaGreat
