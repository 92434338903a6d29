/-
  Lemmas of this claim (JtAO). Nothing is asked.
-/
import Derived.Test.YteomcpplajeidaaGreatJtAN
import Derived.Test.YteomcpplajeidaaGreatJtM
import Derived.Test.YteomcpplajeidaaGreatJtAJ
import Derived.Test.YteomcpplajeidaaGreatJtAF
namespace Go.Proofs.YteomcpplajeidaaGreat
set_option linter.unusedVariables false
set_option linter.unusedSimpArgs false
set_option maxRecDepth 100000
open Go.RowKit
theorem len66_any (x : Int) (h0 : 0 ≤ x) (h1 : x ≤ 1000000) (w : World) : Calls Tryz.prog 66 #[.int .u64 x] w fun e w' => e = .returned (.int .i64 (Lib.bitLen x.toNat)) ∧ w = w' := by
  have HL := Lib.hid (fun wz => (Len64_any x wz h0 (by omega)).mono fun _ _ h => (show _ ∧ wz = _ from ⟨h.1, h.2.symm⟩))
  go_enter Tryz.func66, Tryz.ntmps66
  go_wp2_with (go_at_call 117; (with_reducible refine (HL.out _).mono ?_); rintro e w1 ⟨rfl, rfl⟩)
  go_ret
  exact ⟨rfl, rfl⟩
set_option maxHeartbeats 4000000 in
theorem sort_small (w0 : World) (recv : Value) (cmp : Sc → Sc → Int) (g n c : Nat) (zs0 : List Sc) (hC : CmpAt w0 recv cmp zs0) (hn0 : zs0.length = n) (hnl : n ≤ 12) (w : World) (h : SO w0 w w g n c zs0) :
    Calls Tryz.prog 39 #[.slice (some ⟨g, 0, none⟩) n c, .func (.func 40) #[recv] #[]] w fun e w' => e = .returned (.tuple #[]) ∧ SO w0 w w' g n c (isort (ltC cmp) zs0) := by
  have HI := Lib.hid (insertion_any w0 recv cmp g n c zs0 hC hn0 (by omega) w h)
  have hl12 : (n : Int) ≤ 12 := by omega
  have hP : ∀ lim : Int, Calls Tryz.prog 65 #[.slice (some ⟨g, 0, none⟩) n c, .int .i64 0, .int .i64 n, .int .i64 lim, .func (.func 40) #[recv] #[]] w fun e w' => e = .returned (.tuple #[]) ∧ SO w0 w w' g n c (isort (ltC cmp) zs0) := by
    intro lim
    clear hC h
    go_enter Tryz.func65, Tryz.ntmps65
    go_upto_region 2 with (fail)
    go_loopw [1, 2] (fun av bv wr => av = .int .i64 0 ∧ bv = .int .i64 n ∧ w = wr) (fun _ _ _ => 0)
    case atStart => exact ⟨rfl, rfl, rfl⟩
    case round =>
      obtain ⟨rfl, rfl, rfl⟩ := hrel
      go_wp2_with (go_at_call 108; (with_reducible refine HI.out.mono ?_); rintro e w1 ⟨rfl, hs⟩)
      exact bodyPost_ret (v := .tuple #[]) (by simp [results, Tryz.results65, go_sem]) rfl ⟨rfl, hs⟩
  have HP := Lib.hid hP
  have HL := Lib.hid (fun wz => len66_any (n : Int) (by omega) (by omega) wz)
  clear hC h hP
  have hwn : IntKind.u64.wrap (n : Int) = (n : Int) := by simp [IntKind.wrap, IntKind.signed, IntKind.bits]; omega
  go_enter Tryz.func39, Tryz.ntmps39
  go_wp2_with (first
    | (go_at_call 66; (with_reducible refine (HL.out _).mono ?_); rintro e w1 ⟨rfl, rfl⟩)
    | (go_at_call 65; (with_reducible refine (HP.out _).mono ?_); rintro e w1 ⟨rfl, hs⟩))
  go_end0
  exact ⟨rfl, hs⟩
set_option maxHeartbeats 4000000 in
theorem sort_nil (A : Option Addr) (c : Nat) (f : Value) (w : World) : Calls Tryz.prog 39 #[.slice A 0 c, f] w fun e w' => e = .returned (.tuple #[]) ∧ Ext w w' := by
  have hI : Calls Tryz.prog 108 #[.slice A 0 c, .int .i64 0, .int .i64 0, f] w fun e w' => e = .returned (.tuple #[]) ∧ w = w' := by
    go_enter Tryz.func108, Tryz.ntmps108
    go_upto_region 1 with (fail)
    go_loopw [8] (fun av wr => av = .int .i64 1 ∧ w = wr) (fun _ _ => 0)
    case atStart => exact ⟨rfl, rfl⟩
    case round =>
      obtain ⟨rfl, rfl⟩ := hrel
      go_wp2_with (fail)
      go_end0
      exact ⟨rfl, rfl⟩
  have HI := Lib.hid hI
  have hP : ∀ lim : Int, Calls Tryz.prog 65 #[.slice A 0 c, .int .i64 0, .int .i64 0, .int .i64 lim, f] w fun e w' => e = .returned (.tuple #[]) ∧ w = w' := by
    intro lim
    go_enter Tryz.func65, Tryz.ntmps65
    go_upto_region 2 with (fail)
    go_loopw [1, 2] (fun av bv wr => av = .int .i64 0 ∧ bv = .int .i64 0 ∧ w = wr) (fun _ _ _ => 0)
    case atStart => exact ⟨rfl, rfl, rfl⟩
    case round =>
      obtain ⟨rfl, rfl, rfl⟩ := hrel
      go_wp2_with (go_at_call 108; (with_reducible refine HI.out.mono ?_); rintro e w1 ⟨rfl, rfl⟩)
      exact bodyPost_ret (v := .tuple #[]) (by simp [results, Tryz.results65, go_sem]) rfl ⟨rfl, rfl⟩
  have HP := Lib.hid hP
  have HL := Lib.hid (fun wz => len66_any 0 (by omega) (by omega) wz)
  clear hI hP
  go_enter Tryz.func39, Tryz.ntmps39
  go_wp2_with (first
    | (go_at_call 66; (with_reducible refine (HL.out _).mono ?_); rintro e w1 ⟨rfl, rfl⟩)
    | (go_at_call 65; (with_reducible refine (HP.out _).mono ?_); rintro e w1 ⟨rfl, rfl⟩))
  go_end0
  exact ⟨rfl, Ext.refl _⟩
end Go.Proofs.YteomcpplajeidaaGreat
namespace Go.Proofs.YteomcpplajeidaaGreat
set_option linter.unusedVariables false
set_option linter.unusedSimpArgs false
set_option maxRecDepth 100000
open Go.RowKit
structure TP where
  ls : List (Int × Int)
  cs : List Cr
  rs : List Rq
  ts : List ByteArray
  f : Ex
structure TV (w : World) (r : TnR) (T : TP) : Prop where
  h1 : SR cellsLot 2 w (slV r.ls) T.ls
  h2 : SR cellsCr 5 w (slV r.cs) T.cs
  h3 : SR cellsRq 3 w (slV r.rs) T.rs
  h4 : SR strC 1 w (slV r.ts) T.ts
  h5 : Rd All w T.f (.agg #[.string r.fo, .int .i64 r.f1, .int .i64 r.f2, .string r.fn, slV r.fa])
  hp : T.f.parts ≤ 100000
theorem TV.ext {w w' : World} {r : TnR} {T : TP} (h : TV w r T) (x : Ext w w') : TV w' r T := ⟨h.h1.ext x, h.h2.ext x, h.h3.ext x, h.h4.ext x, h.h5.ext x, h.hp⟩
structure OkE (e : En) : Prop where
  bid : OkI e.bid
  lot : OkI e.lot
  rec_ : OkI e.rec_
  price : OkI e.price
  vl : e.vs.length ≤ 999998
structure XR (w : World) (v : Value) (xs : List ER) : Prop where
  sr : SR cellsEn 5 w v xs
  ok : ∀ x ∈ xs, OkE x.1 ∧ VRd All w x.1.vs (slV x.2)
theorem XR.ext {w w' : World} {v : Value} {xs : List ER} (h : XR w v xs) (x : Ext w w') : XR w' v xs := ⟨h.sr.ext x, fun y hy => ⟨(h.ok y hy).1, VRd.ext x (h.ok y hy).2⟩⟩
section
variable (r : TnR) (T : TP)
def admF (x : En) : Int := admitI T.ls T.cs T.rs r.low r.high x.lot x.price x.vs
def lowStep (q : Int × Bool) (x : ER) : Int × Bool := if admF r T x.1 = 0 ∧ (q.2 = false ∨ x.1.price < q.1) then (x.1.price, true) else q
def lowF (own : List ER) : Int := (own.foldl (lowStep r T) (0, false)).1
def ptsF (lw : Int) (x : En) : (Int × Int) × Int := evalI (ptVals x.price lw x.vs) T.f
def badF (lw : Int) (x : En) : Int := if admF r T x = 0 then (ptsF T lw x).2 else admF r T x
def goodF (lw : Int) (own : List ER) : List Sc := (own.filter fun x => badF r T lw x.1 == 0).map fun x => ⟨x.1, x.2, (ptsF T lw x.1).1⟩
def outF (lw : Int) (own : List ER) : List Rk := (own.filter fun x => !(badF r T lw x.1 == 0)).map fun x => ⟨x.1.bid, (0, 0), 0, badF r T lw x.1⟩
def inF : Nat → List Sc → List Rk
  | _, [] => []
  | k, x :: l => ⟨x.e.bid, x.p, (k : Int) + 1, 0⟩ :: inF (k + 1) l
def sortF (lw : Int) (own : List ER) : List Sc := isort (ltS T.cs T.ts) (goodF r T lw own)
def rankL (lot : Int) (xs : List ER) : List Rk :=
  if errE T.ls lot (ownE lot xs) = 0 then inF 0 (sortF r T (lowF r T (ownE lot xs)) (ownE lot xs)) ++ outF r T (lowF r T (ownE lot xs)) (ownE lot xs) else []
end
theorem inF_snoc : ∀ (k : Nat) (l : List Sc) (x : Sc), inF k (l ++ [x]) = inF k l ++ [⟨x.e.bid, x.p, ((k + l.length : Nat) : Int) + 1, 0⟩]
  | k, [], x => rfl
  | k, y :: l, x => by
    rw [List.cons_append, inF, inF, inF_snoc (k + 1) l x, List.length_cons, List.cons_append, show k + 1 + l.length = k + (l.length + 1) by omega]
theorem inF_len : ∀ (k : Nat) (l : List Sc), (inF k l).length = l.length
  | _, [] => rfl
  | k, x :: l => by rw [inF, List.length_cons, List.length_cons, inF_len (k + 1) l]
theorem ltC_cmpS (cs : List Cr) (ts : List ByteArray) : ltC (cmpS cs ts) = ltS cs ts := by
  funext x y
  exact cmpS_neg cs ts x y
theorem pts_I2 {w : World} {r : TnR} {T : TP} (h : TV w r T) {x : En} {lw : Int} (hx : OkE x) (hl : OkI lw) {sl : Value} (hv : VRd All w x.vs sl) (h0 : (ptsF T lw x).2 = 0) : I2 (ptsF T lw x).1 := by
  obtain ⟨p, e, hp⟩ : ∃ p e, ptsF T lw x = (p, e) := ⟨_, _, rfl⟩
  rw [hp] at h0 ⊢
  simp only at h0
  subst h0
  have hf : formedB T.f = true := by
    have hp' := hp
    unfold ptsF evalI at hp'
    split at hp'
    · rename_i hw
      exact (wrong_zero hw).2.2
    · rename_i hw
      injection hp' with _ h1
      exact absurd h1 hw
  obtain ⟨base, cap, -, -, hr, -⟩ := hv
  refine evalI_I2 (vs := ptVals x.price lw x.vs) ?_ h.h5 hf hp
  intro y hy
  unfold ptVals at hy
  rcases List.mem_cons.1 hy with rfl | hy
  · exact hx.price
  · rcases List.mem_cons.1 hy with rfl | hy
    · exact hl
    · exact hr y hy
end Go.Proofs.YteomcpplajeidaaGreat
