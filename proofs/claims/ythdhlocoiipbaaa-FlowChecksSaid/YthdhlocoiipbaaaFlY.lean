/-
  The reference's Check answers as the plain function does. Conditions: what the slices hold.
-/
import Derived.Test.YthdhlocoiipbaaaFlU
namespace Go.Proofs.Ythdhlocoiipbaaa
set_option linter.unusedVariables false
set_option linter.unusedSimpArgs false
open Go.RowKit

theorem FI.known {xs : List It} {id z : Int} (h : FI xs id z) (hk : mis xs id = false) : ∃ m, ∃ hm : m < xs.length, z = (m : Int) ∧ price xs id = (band (labOf xs xs[m]) 2 != 0) := by
  rcases h with ⟨rfl, h⟩ | ⟨m, hm, rfl, hf, -⟩
  · unfold mis at hk
    rw [h] at hk
    cases hk
  · exact ⟨m, hm, rfl, by unfold price; rw [hf]; rfl⟩
theorem miss_false {xs : List It} {ms : List Ms} (h : ¬ miss xs ms = true) {m : Ms} (hm : m ∈ ms) {id : Int} (hi : id ∈ m.its) : mis xs id = false := by
  cases hq : mis xs id with
  | false => rfl
  | true => exact absurd (miss_msg hm hi hq) h

set_option maxRecDepth 100000 in
set_option maxHeartbeats 4000000 in
theorem refCheck_any (xs : List It) (ms : List Ms) (ar : List Int) (op : Int) (vx vm va : Value) (w : World) (hx : RI w vx xs) (hm : RM w vm ms) (ha : IRd w va ar) :
    Calls Try.prog 19 #[vx, vm, va, .int .i64 op] w fun e w' => ∃ r, e = .returned (.tuple #[r, .int .i64 (chk xs ms ar op).2]) ∧ RM w' r (chk xs ms ar op).1 ∧ Ext w w' := by
  have hw37 := wrong_any xs ms vx vm w hx hm
  obtain ⟨bx, cx, rfl⟩ := hx.1.form
  obtain ⟨bm, cm, rfl⟩ := hm.1.form
  have hxl := hx.1.le
  have hml := hm.1.le
  have HX := Lib.hid hx; have HM := Lib.hid hm; have HA := Lib.hid ha; have HS := Lib.hid hx.1
  clear hx hm ha
  by_cases hn : (xs.map (·.id)).Nodup
  · by_cases hmi : miss xs ms = true
    · have hck : chk xs ms ar op = ([], 34) := by unfold chk; rw [if_neg (by simpa using hn), if_pos hmi]
      rw [wrg_miss hn hmi] at hw37
      have HC := Lib.hid hck; clear hck hn hmi
      go_enter Try.func19, Try.ntmps19
      go_wp2_with (go_at_call 37; (with_reducible refine hw37.mono ?_); rintro e w1 ⟨rfl, rfl⟩)
      refine bodyPost_ret (v := .tuple #[.slice none 0 0, .int .i64 34]) (by simp [results, Try.results19, go_sem]) rfl ?_
      rw [HC.out]
      exact ⟨_, rfl, RM.nil _, Ext.refl _⟩
    · have hck : chk xs ms ar op = if ms.filter (bad xs ar op) = [] then ([], 0) else (ms.filter (bad xs ar op), 40) := by unfold chk; rw [if_neg (by simpa using hn), if_neg hmi]
      rw [wrg_none hn hmi] at hw37
      have HMI := Lib.hid hmi
      have HC := Lib.hid hck; clear hck hn hmi
      generalize hbo : bad xs ar op = bd at *
      have HBO := Lib.hid hbo; clear hbo
      go_enter Try.func19, Try.ntmps19
      go_upto_region 7 with (first
        | (go_at_call 37; (with_reducible refine hw37.mono ?_); rintro e w1 ⟨rfl, rfl⟩)
        | (go_at_call 16; (with_reducible refine (refLabels_any xs _ _ HX.out).mono ?_); rintro e w3 ⟨r3, rfl, ⟨zs, hr3, hL⟩, hx3⟩; obtain rfl := hL.map; obtain ⟨lb, lc, rfl⟩ := hr3.formN (n := xs.length) (by simp)))
      have hlb : ∀ j (hj : j < xs.length), ∃ b off, lb = some ⟨b, off, none⟩ ∧ w3.cell? ⟨b, off + j, none⟩ = some (.int .i64 (labOf xs xs[j])) := by
        intro j hj
        obtain ⟨A', c', e1, -, -, hcell⟩ := hr3
        injection e1 with e1 e2 e3
        subst e1 e3
        obtain ⟨b, off, rfl, hc⟩ := hcell.resolve_left (by intro e; rw [List.map_eq_nil_iff] at e; rw [e] at hj; simp at hj)
        have := hc j (by simpa using hj)
        rw [List.getElem_map] at this
        exact ⟨b, off, rfl, this⟩
      have HLB := Lib.hid hlb
      clear hlb hr3 hL
      have HX3 := Lib.hid (HX.out.ext hx3); have HM3 := Lib.hid (HM.out.ext hx3); have HA3 := Lib.hid (HA.out.ext hx3); have HE3 := Lib.hid hx3
      clear HX HM HA HS hx3
      go_loopw [12, 13] (fun o k wr => ∃ j : Nat, k = .int .i64 j ∧ j ≤ ms.length ∧ wr.ownsRow w3.heap.size 48 4 o ((ms.take j).filter bd).length (((ms.take j).filter bd).flatMap Ms.cs) ∧ Ext w3 wr) (fun _ k _ => ms.length - (iof k).toNat)
      case atStart => exact ⟨0, rfl, by omega, by simpa using World.ownsRow_nil _ _ _ _, Ext.refl _⟩
      case round =>
        obtain ⟨i, rfl, hi, hrow, hxq⟩ := hrel
        by_cases hil : i < ms.length
        · have hmq := HM3.out.ext hxq
          obtain ⟨mb, mo, rfl, -, c0, c1, c2, c3⟩ := ms_at hmq.1 i hil
          have hmg := hmq.2 ms[i] (List.getElem_mem _)
          have htk : (ms.take (i + 1)).filter bd = (ms.take i).filter bd ++ (if bd ms[i] then [ms[i]] else []) := by
            rw [List.take_succ_eq_append_getElem hil, List.filter_append]
            congr 1
            cases hq : bd ms[i] <;> simp [hq]
          have hbq := congrFun HBO.out ms[i]
          have HK : Hid (∀ id ∈ ms[i].its, mis xs id = false) := Lib.hid fun id h => miss_false HMI.out (List.getElem_mem _) h
          have HLB' : Hid (∀ j (hj : j < xs.length), ∃ b off, lb = some ⟨b, off, none⟩ ∧ wr.cell? ⟨b, off + j, none⟩ = some (.int .i64 (labOf xs xs[j]))) := Lib.hid fun j hj => by
            obtain ⟨b, off, h1, h2⟩ := HLB.out j hj
            exact ⟨b, off, h1, (hxq.cells.1 _ _ (World.block_lt_of_cell? _ _ h2)).trans h2⟩
          have HS := Lib.hid (HX3.out.ext hxq).1
          have h38 := among_any va ar ms[i].dst wr (HA3.out.ext hxq)
          generalize ms[i] = q at *
          obtain ⟨q0, q1, q2, qv, qi⟩ := q
          obtain ⟨A, c, hs⟩ := hmg.shape
          have hir := hmg.2.2.2
          simp only at hs c0 c1 c2 c3 hir h38
          subst hs
          have hlen : qi.length ≤ 9223372036854775807 := by
            obtain ⟨_, _, _, h, -⟩ := hir
            exact h
          unfold bad at hbq
          simp only at hbq
          have Htk := Lib.hid htk; have Hbq := Lib.hid hbq; have HMG := Lib.hid hmg
          clear htk hbq hmg hmq
          go_upto_region 11 with (fail)
          go_loopw [14, 15] (fun p k wq => ∃ a : Nat, k = .int .i64 a ∧ a ≤ qi.length ∧ p = .bool ((qi.take a).any (price xs)) ∧ wq = wr) (fun _ k _ => qi.length - (iof k).toNat)
          case atStart => exact ⟨0, rfl, by omega, rfl, rfl⟩
          case round =>
            obtain ⟨a, rfl, ha, rfl, rfl⟩ := hrel
            by_cases hal : a < qi.length
            · have hnx : (qi.take (a + 1)).any (price xs) = ((qi.take a).any (price xs) || price xs qi[a]) := by
                rw [List.take_succ_eq_append_getElem hal, List.any_append]; simp
              have HKI := Lib.hid (HK.out qi[a] (List.getElem_mem _))
              obtain ⟨A', c', e1, -, -, hcell⟩ := hir
              injection e1 with e1 e2 e3
              subst e1 e3
              obtain ⟨qb, qo, rfl, hc⟩ := hcell.resolve_left (by intro e; rw [e] at hal; simp at hal)
              have cq := hc a hal
              clear hc hcell e2
              have Hnx := Lib.hid hnx; clear hnx
              generalize (qi.take a).any (price xs) = pr at *
              generalize qi[a] = id at *
              cases pr with
              | true =>
                go_wp2_with (fail)
                exact ⟨⟨a + 1, by simp, by omega, by rw [Hnx.out]; rfl, trivial⟩, by simp; omega⟩
              | false =>
                go_wp2_with (go_at_call 28; go_loud (with_reducible refine (find_any _ xs _ _ HS.out).mono ?_); rintro e w9 ⟨z, rfl, hz, rfl⟩; obtain ⟨m, hm, rfl, hpm⟩ := hz.known HKI.out; have HPM := Lib.hid hpm; obtain ⟨lbb, lbo, rfl, cl⟩ := HLB'.out m hm; clear hz hpm)
                exact ⟨⟨a + 1, by simp, by omega, by rw [Hnx.out, HPM.out]; rfl, trivial⟩, by simp; omega⟩
            · obtain rfl : a = qi.length := by omega
              rw [List.take_length]
              cases hC : qi.any (price xs) with
              | false =>
                have Hb : Hid (bd ⟨q0, q1, q2, .slice A qi.length c, qi⟩ = false) := Lib.hid (by rw [← Hbq.out, hC, Bool.and_false])
                clear hC
                go_wp2_with (go_at_call 38; (with_reducible refine h38.mono ?_); rintro e w9 ⟨rfl, rfl⟩)
                exact ⟨⟨i + 1, by simp, by omega, by rw [Htk.out, Hb.out]; simpa using hrow, hxq⟩, by simp; omega⟩
              | true =>
                have Hb : Hid (bd ⟨q0, q1, q2, .slice A qi.length c, qi⟩ = (decide (q2 < op) && ar.contains q1)) := Lib.hid (by rw [← Hbq.out, hC, Bool.and_true])
                clear hC
                cases hB : ar.contains q1 with
                | false =>
                  rw [hB] at h38 Hb
                  rw [Bool.and_false] at Hb
                  clear hB
                  go_wp2_with (go_at_call 38; (with_reducible refine h38.mono ?_); rintro e w9 ⟨rfl, rfl⟩)
                  exact ⟨⟨i + 1, by simp, by omega, by rw [Htk.out, Hb.out]; simpa using hrow, hxq⟩, by simp; omega⟩
                | true =>
                  rw [hB] at h38 Hb
                  rw [Bool.and_true] at Hb
                  clear hB
                  by_cases hA : q2 < op
                  · rw [decide_eq_true hA] at Hb
                    go_wp2_with (first
                      | (go_at_call 38; (with_reducible refine h38.mono ?_); rintro e w9 ⟨rfl, rfl⟩)
                      | (at_builtin; go_loud (refine append_u (cs := Ms.cs) (z := .agg #[.int .i64 0, .int .i64 0, .int .i64 0, .slice none 0 0]) 36 48 48 Try.underlying36 (by kernel_rfl) (by rfl) (by decide) (by decide) rfl _ _ rfl w3.heap.size _ ((ms.take i).filter bd) (by rfl) (row_ext hrow (Ext.alloc (Ext.refl _) _)) w9.heap.size ⟨q0, q1, q2, .slice A qi.length c, qi⟩ ⟨rfl, by simp [Ms.cs, Value.oneCell']⟩ (by rfl) (World.alloc_heap_new _ _) (by have := List.length_filter_le bd (ms.take i); have := List.length_take_le i ms; omega) (by have := hxq.size; simp; omega) ?_; intro g cap' w8 hr8 hb8)))
                    exact ⟨⟨i + 1, by simp, by omega, by rw [Htk.out, Hb.out]; simpa using hr8, Below.trans (hxq.trans (Ext.alloc (Ext.refl _) _)) hb8⟩, by simp; omega⟩
                  · rw [decide_eq_false hA] at Hb
                    go_wp2_with (go_at_call 38; (with_reducible refine h38.mono ?_); rintro e w9 ⟨rfl, rfl⟩)
                    exact ⟨⟨i + 1, by simp, by omega, by rw [Htk.out, Hb.out]; simpa using hrow, hxq⟩, by simp; omega⟩
        · obtain rfl : i = ms.length := by omega
          rw [List.take_length] at hrow
          obtain ⟨ob, oc, rfl⟩ := (SR.of_row (cs := Ms.cs) (fun x => rfl) hrow (by have := List.length_filter_le bd ms; omega)).form
          by_cases hf : ms.filter bd = []
          · rw [if_pos hf] at HC
            simp only [hf, List.length_nil] at *
            go_wp2_with (fail)
            refine bodyPost_ret (v := .tuple #[.slice none 0 0, .int .i64 0]) (by simp [results, Try.results19, go_sem]) rfl ?_
            rw [HC.out]
            exact ⟨_, rfl, RM.nil _, HE3.out.trans hxq⟩
          · have hne : ms.filter bd ≠ [] := hf
            rw [if_neg hne] at HC
            have hpos : 0 < (ms.filter bd).length := List.length_pos_iff.2 hne
            have hrm : RM wr (.slice ob (ms.filter bd).length oc) (ms.filter bd) := ⟨(SR.of_row (cs := Ms.cs) (fun x => rfl) hrow (by have := List.length_filter_le bd ms; omega)).sq, fun x hx => (HM3.out.ext hxq).2 x (List.mem_filter.1 hx).1⟩
            clear hf hne hrow
            generalize (ms.filter bd).length = nf at *
            go_wp2_with (fail)
            refine bodyPost_ret (v := .tuple #[.slice ob nf oc, .int .i64 40]) (by simp [results, Try.results19, go_sem]) rfl ?_
            rw [HC.out]
            exact ⟨_, rfl, hrm, HE3.out.trans hxq⟩
  · have hck : chk xs ms ar op = ([], 33) := by unfold chk; rw [if_pos hn]
    rw [wrg_dup hn] at hw37
    have HC := Lib.hid hck; clear hck hn
    go_enter Try.func19, Try.ntmps19
    go_wp2_with (go_at_call 37; (with_reducible refine hw37.mono ?_); rintro e w1 ⟨rfl, rfl⟩)
    refine bodyPost_ret (v := .tuple #[.slice none 0 0, .int .i64 33]) (by simp [results, Try.results19, go_sem]) rfl ?_
    rw [HC.out]
    exact ⟨_, rfl, RM.nil _, Ext.refl _⟩

end Go.Proofs.Ythdhlocoiipbaaa
