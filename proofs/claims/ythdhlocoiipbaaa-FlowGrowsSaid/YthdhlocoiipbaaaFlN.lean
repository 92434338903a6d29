/-
  Knows answers as its plain function does. Conditions: what the slices hold; at most 100 messages of at most 100 items.
-/
import Derived.Test.YthdhlocoiipbaaaSoP
import Derived.Test.YthdhlocoiipbaaaFlK
namespace Go.Proofs.Ythdhlocoiipbaaa
set_option linter.unusedVariables false
set_option linter.unusedSimpArgs false
open Go.RowKit

/-- Whether a message counts. -/
def cnt (who tm : Int) (m : Ms) : Bool := decide (m.dst = who) && decide (m.tm ≤ tm)
/-- The Ids of a message that are there. -/
def ids (xs : List It) (m : Ms) : List Int := m.its.filter (fun id => !mis xs id)
def knowL (xs : List It) (who tm : Int) (ms : List Ms) : List Int := (ms.filter (cnt who tm)).flatMap (ids xs)
theorem knowL_snoc (xs : List It) (who tm : Int) (ms : List Ms) (m : Ms) : knowL xs who tm (ms ++ [m]) = knowL xs who tm ms ++ if cnt who tm m then ids xs m else [] := by
  unfold knowL
  rw [List.filter_append, List.flatMap_append]
  congr 1
  cases h : cnt who tm m <;> simp [h]
theorem knowL_le (xs : List It) (who tm : Int) (ms : List Ms) (h : ∀ m ∈ ms, m.its.length ≤ 100) : (knowL xs who tm ms).length ≤ ms.length * 100 := by
  induction ms with
  | nil => simp [knowL]
  | cons m ms ih =>
    have h1 := ih (fun x hx => h x (List.mem_cons_of_mem _ hx))
    have h2 := h m List.mem_cons_self
    have h3 : (ids xs m).length ≤ 100 := Nat.le_trans (List.length_filter_le _ _) h2
    unfold knowL at *
    rw [List.filter_cons]
    split
    · rw [List.flatMap_cons, List.length_append, List.length_cons]
      omega
    · rw [List.length_cons]
      omega

set_option maxRecDepth 100000 in
set_option maxHeartbeats 4000000 in
theorem Knows_any (xs : List It) (ms : List Ms) (who tm : Int) (vx vm : Value) (w : World) (hx : RI w vx xs) (hm : RM w vm ms) (hs : ms.length ≤ 100 ∧ ∀ m ∈ ms, m.its.length ≤ 100) :
    Calls Try.prog 21 #[vx, vm, .int .i64 who, .int .i64 tm] w fun e w' => ∃ r, e = .returned r ∧ IRd w' r (srt (knowL xs who tm ms)) ∧ Ext w w' := by
  obtain ⟨bx, cx, rfl⟩ := hx.1.form
  obtain ⟨bm, cm, rfl⟩ := hm.1.form
  have hxl := hx.1.le
  have HX := Lib.hid hx; have HM := Lib.hid hm
  clear hx hm
  go_enter Try.func21, Try.ntmps21
  go_upto_region 4 with (go_at_call 26; (with_reducible refine (table_any _ xs _ HX.out).mono ?_); rintro e w1 ⟨b, rfl, hmp, hx1, hb⟩)
  go_loopw [10, 21] (fun o k wr => ∃ j : Nat, k = .int .i64 j ∧ j ≤ ms.length ∧ wr.ownsRow w1.heap.size 3 1 o (knowL xs who tm (ms.take j)).length ((knowL xs who tm (ms.take j)).flatMap celI) ∧ Ext w1 wr) (fun _ k _ => ms.length - (iof k).toNat)
  case atStart => exact ⟨0, rfl, by omega, World.ownsRow_nil _ _ _ _, Ext.refl _⟩
  case round =>
    obtain ⟨j, rfl, hj, hrow, hxr⟩ := hrel
    by_cases hjl : j < ms.length
    · have hmr := (HM.out.ext hx1).ext hxr
      obtain ⟨mb, mo, rfl, -, c0, c1, c2, c3⟩ := ms_at hmr.1 j hjl
      have hmg := hmr.2 ms[j] (List.getElem_mem _)
      have hml := hs.2 ms[j] (List.getElem_mem _)
      have hmg1 := ((HM.out.ext hx1).2 ms[j] (List.getElem_mem _)).2.2.2
      have hjt : (ms.take j).length = j := by rw [List.length_take]; omega
      have hkl := knowL_le xs who tm (ms.take j) (fun m hm => hs.2 m (List.mem_of_mem_take hm))
      rw [hjt] at hkl
      have htk : knowL xs who tm (ms.take (j + 1)) = knowL xs who tm (ms.take j) ++ if cnt who tm ms[j] then ids xs ms[j] else [] := by
        rw [List.take_succ_eq_append_getElem hjl, knowL_snoc]
      generalize ms[j] = q at *
      obtain ⟨q0, q1, q2, qv, qi⟩ := q
      obtain ⟨A, c, hsh⟩ := hmg.shape
      simp only at hsh c0 c1 c2 c3 hml hmg1
      subst hsh
      unfold cnt at htk
      simp only at htk
      have hxa : Ext wr (wr.alloc (.cells #[.int .i64 q0, .int .i64 q1, .int .i64 q2, .slice A qi.length c] 48)) := Ext.alloc (Ext.refl _) _
      generalize hkn : knowL xs who tm (ms.take j) = kn at *
      have Hkn := Lib.hid hkn; clear hkn
      by_cases hA : q1 = who
      · subst hA
        by_cases hB : q2 ≤ tm
        · rw [decide_eq_true rfl, decide_eq_true hB, Bool.and_true, if_pos rfl] at htk
          have Htk := Lib.hid htk; clear htk
          have hnew := World.alloc_heap_new wr (.cells #[.int .i64 q0, .int .i64 q1, .int .i64 q2, .slice A qi.length c] 48)
          go_upto_region 8 with (fail)
          have hids : ids xs ⟨q0, q1, q2, .slice A qi.length c, qi⟩ = qi.filter (fun id => !mis xs id) := rfl
          rw [hids] at Htk
          clear hids c0 c1 c2 c3
          generalize hW2 : wr.alloc (.cells #[.int .i64 q0, .int .i64 q1, .int .i64 q2, .slice A qi.length c] 48) = W2 at *
          have hrow2 := row_ext hrow hxa
          have hx2 : Ext w1 W2 := hxr.trans hxa
          clear hmr hmg hrow hxa hxr hnew
          go_loopw [10, 38] (fun o k wr => ∃ i : Nat, k = .int .i64 i ∧ i ≤ qi.length ∧ wr.ownsRow w1.heap.size 3 1 o (kn ++ (qi.take i).filter (fun id => !mis xs id)).length ((kn ++ (qi.take i).filter (fun id => !mis xs id)).flatMap celI) ∧ Ext w1 wr) (fun _ k _ => qi.length - (iof k).toNat)
          case atStart => exact ⟨0, rfl, by omega, by simpa using hrow2, hx2⟩
          case round =>
            obtain ⟨i, rfl, hi, hrow, hxq⟩ := hrel
            by_cases hil : i < qi.length
            · have hlk := tabl_look xs qi[i]
              have htq : (qi.take (i + 1)).filter (fun id => !mis xs id) = (qi.take i).filter (fun id => !mis xs id) ++ if mis xs qi[i] then [] else [qi[i]] := by
                rw [List.take_succ_eq_append_getElem hil, List.filter_append]
                congr 1
                cases hq : mis xs qi[i] <;> simp [hq]
              have hfl : ((qi.take i).filter (fun id => !mis xs id)).length ≤ 100 := Nat.le_trans (List.length_filter_le _ _) (by rw [List.length_take]; omega)
              obtain ⟨A', c', e1, -, hrng, hcell⟩ := hmg1.ext hxq
              injection e1 with e1 e2 e3
              subst e1 e3
              obtain ⟨qb, qo, rfl, hc⟩ := hcell.resolve_left (by intro e; rw [e] at hil; simp at hil)
              have cq := hc i hil
              have hidr := hrng qi[i] (List.getElem_mem _)
              clear hc hcell e2
              generalize qi[i] = id at *
              generalize (qi.take i).filter (fun id => !mis xs id) = fl at *
              have hmis : mis xs id = (fnd xs id).isNone := rfl
              cases hf : fnd xs id with
              | none =>
                rw [hf] at hlk hmis
                simp only [Option.map_none] at hlk
                rw [hmis, Option.isNone_none, if_pos rfl, List.append_nil] at htq
                have hrun := (hmp.ext hxq).look keI Try.underlying55 (z := .agg #[.int .i64 0, .int .i64 0, .slice none 0 0]) (by rfl) hidr true
                rw [hlk] at hrun
                simp only [if_true, Option.getD_none, Option.isSome_none, encI] at hrun
                have Htq := Lib.hid htq; clear htq hmis
                go_wp2_with (fail)
                exact ⟨⟨i + 1, by simp, by omega, by rw [Htq.out]; exact row_ext hrow (Ext.alloc (Ext.refl _) _), hxq.trans (Ext.alloc (Ext.refl _) _)⟩, by simp; omega⟩
              | some y =>
                obtain ⟨A, c, hs⟩ := (HX.out.2 y (List.mem_of_find?_eq_some hf)).shape
                rw [hf] at hlk hmis
                simp only [Option.map_some, It.v, hs] at hlk
                rw [hmis, Option.isNone_some, if_neg (by simp)] at htq
                have hrun := (hmp.ext hxq).look keI Try.underlying55 (z := .agg #[.int .i64 0, .int .i64 0, .slice none 0 0]) (by rfl) hidr true
                rw [hlk] at hrun
                simp only [if_true, Option.getD_some, Option.isSome_some, encI] at hrun
                have Htq := Lib.hid htq; clear htq hmis
                have hnw : ((wr.alloc (.cells #[.int .i64 y.id, .int .i64 y.label, .slice A y.frm.length c] 32)).alloc (.cells #[.int .i64 id] 3)).heap[wr.heap.size + 1]? = some (.cells #[.int .i64 id] 3) := by
                  have := World.alloc_heap_new (wr.alloc (.cells #[.int .i64 y.id, .int .i64 y.label, .slice A y.frm.length c] 32)) (.cells #[.int .i64 id] 3)
                  rwa [World.size_alloc] at this
                go_wp2_with (at_builtin; go_loud (refine append_int rfl _ _ rfl w1.heap.size _ (kn ++ fl) (by rfl) (row_ext hrow (Ext.alloc (Ext.alloc (Ext.refl _) _) _)) (wr.heap.size + 1) id (by rfl) hnw (by rw [List.length_append]; omega) (by have := hxq.size; simp; omega) ?_; intro g cap' w3 hr3 hb3))
                exact ⟨⟨i + 1, by simp, by omega, by rw [Htq.out, ← List.append_assoc]; simpa using hr3, Below.trans (hxq.trans (Ext.alloc (Ext.alloc (Ext.refl _) _) _)) hb3⟩, by simp; omega⟩
            · obtain rfl : i = qi.length := by omega
              rw [List.take_length] at hrow
              go_wp2_with (fail)
              exact ⟨⟨j + 1, by simp, by omega, by rw [Htk.out]; exact hrow, hxq⟩, by simp; omega⟩
        · rw [decide_eq_true rfl, decide_eq_false hB, Bool.and_false, if_neg (by simp), List.append_nil] at htk
          have Htk := Lib.hid htk; clear htk
          go_wp2_with (fail)
          exact ⟨⟨j + 1, by simp, by omega, by rw [Htk.out]; exact row_ext hrow hxa, hxr.trans hxa⟩, by simp; omega⟩
      · rw [decide_eq_false hA, Bool.false_and, if_neg (by simp), List.append_nil] at htk
        have Htk := Lib.hid htk; clear htk
        go_wp2_with (fail)
        exact ⟨⟨j + 1, by simp, by omega, by rw [Htk.out]; exact row_ext hrow hxa, hxr.trans hxa⟩, by simp; omega⟩
    · obtain rfl : j = ms.length := by omega
      rw [List.take_length] at hrow
      have hkl := knowL_le xs who tm ms hs.2
      have hok : ∀ x ∈ knowL xs who tm ms, OkI x := by
        intro x hx
        obtain ⟨m, hm1, hm2⟩ := List.mem_flatMap.1 hx
        obtain ⟨-, -, -, A, c, -, -, h, -⟩ := HM.out.2 m (List.mem_filter.1 hm1).1
        exact h x (List.mem_filter.1 hm2).1
      go_wp2_with (go_at_call 39; (with_reducible refine (set_any w1.heap.size _ _ _ hrow hok (by omega)).mono ?_); rintro e w5 ⟨r, rfl, hr, hb5⟩)
      go_ret
      exact ⟨_, rfl, hr, hx1.trans (Below.trans hxr hb5)⟩

end Go.Proofs.Ythdhlocoiipbaaa
