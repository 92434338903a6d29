/-
  FlowGrows, walked. Conditions: the arguments read as rows of ints and two bytes.
-/
import Derived.Test.YthdhlocoiipbaaaFlF
import Derived.BigQuiet
import Derived.Deep.QuietTactic
namespace Go.Proofs.Ythdhlocoiipbaaa
set_option linter.unusedVariables false
set_option linter.unusedSimpArgs false
open Go.RowKit

/-- A map of bools that holds true at the members of l. -/
def SetM (l : List Int) (m : List (Int × Value)) : Prop := ∀ id, m.lookup id = if id ∈ l then some (.bool true) else none
theorem SetM.nil : SetM [] [] := fun id => by simp
theorem SetM.put {l : List Int} {m : List (Int × Value)} (h : SetM l m) (x : Int) : SetM (l ++ [x]) (putL m x (.bool true)) := fun id => by
  rw [lookup_put, h id]
  by_cases e : id = x
  · subst e; simp
  · rw [if_neg e]
    by_cases hm : id ∈ l <;> simp [hm, e]
theorem nodup_le {α : Type} [DecidableEq α] : ∀ {l m : List α}, l.Nodup → (∀ x ∈ l, x ∈ m) → l.length ≤ m.length
  | [], _, _, _ => Nat.zero_le _
  | x :: l, m, hn, hs => by
    have hx := hs x List.mem_cons_self
    rw [List.nodup_cons] at hn
    have := nodup_le (m := m.erase x) hn.2 (fun y hy => (List.mem_erase_of_ne (fun e => hn.1 (by rw [← e]; exact hy))).2 (hs y (List.mem_cons_of_mem _ hy)))
    rw [List.length_erase_of_mem hx] at this
    have := List.length_pos_of_mem hx
    simp only [List.length_cons]
    omega
theorem SetM.len {l : List Int} {m : List (Int × Value)} (h : SetM l m) (hm : (m.map (·.1)).Nodup) {k : List Int} (hk : k.Nodup) (hkl : ∀ x, x ∈ k ↔ x ∈ l) : m.length = k.length := by
  have hmem : ∀ x, x ∈ m.map (·.1) ↔ x ∈ k := fun x => by
    have h1 := lookup_none (l := m) (x := x)
    rw [h x] at h1
    rw [hkl]
    by_cases hx : x ∈ l
    · rw [if_pos hx] at h1
      simp only [reduceCtorEq, false_iff, Classical.not_not] at h1
      exact ⟨fun _ => hx, fun _ => h1⟩
    · rw [if_neg hx] at h1
      simp only [true_iff] at h1
      exact ⟨fun h => absurd h h1, fun h => absurd h hx⟩
  have a1 := nodup_le hm (fun x hx => (hmem x).1 hx)
  have a2 := nodup_le hk (fun x hx => (hmem x).2 hx)
  rw [List.length_map] at a1 a2
  omega
/-- What is sent to someone up to a time. -/
def sentL (who tm : Int) (ms : List Ms) : List Int := (ms.filter (cnt who tm)).flatMap (·.its)
theorem sentL_snoc (who tm : Int) (ms : List Ms) (m : Ms) : sentL who tm (ms ++ [m]) = sentL who tm ms ++ if cnt who tm m then m.its else [] := by
  unfold sentL
  rw [List.filter_append, List.flatMap_append]
  congr 1
  cases h : cnt who tm m <;> simp [h]
theorem sent_mem {who tm : Int} {ms : List Ms} {id : Int} : id ∈ sentL who tm ms ↔ ∃ m ∈ ms, m.dst = who ∧ m.tm ≤ tm ∧ id ∈ m.its := by
  unfold sentL
  rw [List.mem_flatMap]
  constructor
  · rintro ⟨m, hm, hid⟩
    obtain ⟨h1, h2⟩ := List.mem_filter.1 hm
    simp only [cnt, Bool.and_eq_true, decide_eq_true_eq] at h2
    exact ⟨m, h1, h2.1, h2.2, hid⟩
  · rintro ⟨m, hm, h1, h2, h3⟩
    exact ⟨m, List.mem_filter.2 ⟨hm, by simp [cnt, h1, h2]⟩, h3⟩
theorem known_sent {N : Nat} {f : Nat → Nat → Int} {xs : List It} (h : MadeX N f xs) {ms : List Ms} (hm : ∀ m ∈ ms, ∀ id ∈ m.its, 1 ≤ id ∧ id ≤ xs.length) (who tm : Int) (id : Int) : id ∈ srt (knowL xs who tm ms) ↔ id ∈ sentL who tm ms := by
  rw [(srt_spec _).2, know_mem, sent_mem]
  constructor
  · rintro ⟨m, h1, h2, h3, h4, -⟩
    exact ⟨m, h1, h2, h3, h4⟩
  · rintro ⟨m, h1, h2, h3, h4⟩
    obtain ⟨j, hj, -, hf⟩ := h.id (hm m h1 id h4).1 (hm m h1 id h4).2
    exact ⟨m, h1, h2, h3, h4, by simp [mis, hf]⟩
theorem known_more {xs : List It} {ms : List Ms} {who a b : Int} (hab : a ≤ b) {id : Int} (h : id ∈ srt (knowL xs who a ms)) : id ∈ srt (knowL xs who b ms) := by
  rw [(srt_spec _).2, know_mem] at *
  obtain ⟨m, h1, h2, h3, h4⟩ := h
  exact ⟨m, h1, h2, by omega, h4⟩

set_option maxRecDepth 100000 in
set_option maxHeartbeats 4000000 in
theorem grows_walk (v u : Value) (f g : Nat → Nat → Int) (n m : Nat) (p0 p1 : Int) (hp0 : 0 ≤ p0 ∧ p0 ≤ 255) (hp1 : 0 ≤ p1 ∧ p1 ≤ 255) (w : World) (h : RA 3 w v f n) (h5 : RA 5 w u g m) :
    Calls Try.prog 9 #[v, u, .agg #[.int .u8 p0, .int .u8 p1]] w fun e w' => e = .returned (.bool true) ∧ Ext w w' := by
  have H0 := Lib.hid h; clear h
  have H5 := Lib.hid h5; clear h5
  have hmm := @run_makeMap Try.prog
  go_enter Try.func9, Try.ntmps9
  go_upto_region 1 with (fail)
  have hE0 : Ext w (w.alloc (.cells #[.int .u8 p0, .int .u8 p1] 50)) := Ext.alloc (Ext.refl _) _
  have hpb := World.alloc_heap_new w (.cells #[.int .u8 p0, .int .u8 p1] 50)
  generalize w.alloc (.cells #[.int .u8 p0, .int .u8 p1] 50) = w0 at *
  have HPB : Hid (∀ w', Ext w0 w' → w'.heap[w.heap.size]? = some (.cells #[.int .u8 p0, .int .u8 p1] 50)) := Lib.hid fun w' h => (h.block _ (Rg.lt_of_heap hpb)).trans hpb
  clear hpb
  generalize hpbe : w.heap.size = pb at *
  clear hpbe
  go_upto_region 3 with (first
    | (go_at_call 11; (with_reducible refine (sanity_any _).mono ?_); rintro e w1 ⟨rfl, hx1⟩)
    | (go_at_call 12; go_loud ((with_reducible refine (Made_any v f n _ ((H0.out.ext hE0).ext hx1)).mono ?_); rintro e w2 ⟨r, xs, rfl, hM, hN, hx2⟩; obtain ⟨bx, cx, rfl⟩ := (hM.ri (by omega)).1.form; have hX := Lib.hid (hM.x hN); have hR := Lib.hid (hM.ri (by omega)); have hxl : xs.length ≤ 20 := (by omega); clear hM hN)))
  have hw2 : Ext w0 w2 := hx1.trans hx2
  go_upto_region 4 with (go_at_call 17; (with_reducible refine (Messages_any u g m xs.length _ ((H5.out.ext hE0).ext hw2) (by omega)).mono ?_); rintro e w3 ⟨r3, ms, rfl, hS, -, hx3⟩; obtain ⟨bm, cm, rfl⟩ := (hS.rm (by omega) (by omega)).1.form)
  have hY := Lib.hid (hS.x (by omega))
  have hsm := Lib.hid (hS.x (by omega)).small
  have hM3 := Lib.hid (hS.rm (by omega) (by omega))
  have hR3 := Lib.hid (hR.out.ext hx3)
  have hw3 := hw2.trans hx3
  have b3 := HPB.out w3 hw3
  have q0 := cell_of_row w3 pb 0 _ _ _ b3
  have q1 := cell_of_row w3 pb 1 _ _ _ b3
  have HE3 : Hid (Ext w w3) := Lib.hid (hE0.trans hw3)
  clear hS hR hx1 hx2 hx3 hE0 hw2 hw3 b3
  go_quiet (fail)
  have hab : 0 ≤ min (p0 % 14) (p1 % 14) ∧ min (p0 % 14) (p1 % 14) ≤ 13 ∧ min (p0 % 14) (p1 % 14) ≤ max (p0 % 14) (p1 % 14) ∧ max (p0 % 14) (p1 % 14) ≤ 13 := by omega
  go_upto_region 6 with (fail)
  generalize min (p0 % 14) (p1 % 14) = a at *
  generalize max (p0 % 14) (p1 % 14) = b at *
  obtain ⟨ha0, ha1, hab, hb1⟩ := hab
  have HE4 : Hid (Ext w (w3.drewN nq)) := Lib.hid (Ext.drewN HE3.out _)
  have HM4 : Hid (RM (w3.drewN nq) (.slice bm ms.length cm) ms) := Lib.hid (hM3.out.ext (Ext.drewN (Ext.refl _) _))
  have HR4 : Hid (RI (w3.drewN nq) (.slice bx xs.length cx) xs) := Lib.hid (hR3.out.ext (Ext.drewN (Ext.refl _) _))
  have hml := hY.out.1
  clear q0 q1
  generalize w3.drewN nq = w4 at *
  have HIT : Hid (∀ m ∈ ms, ∀ id ∈ m.its, 1 ≤ id ∧ id ≤ xs.length) := Lib.hid fun m hm id hid => hY.out.its hm hid
  go_loopw [12] (fun k wr => ∃ j : Nat, k = .int .i64 j ∧ j ≤ 6 ∧ Ext w4 wr) (fun k _ => 6 - (iof k).toNat)
  case atStart => exact ⟨0, rfl, by omega, Ext.refl _⟩
  case round =>
    obtain ⟨j, rfl, hj, hx⟩ := hrel
    by_cases hj6 : j < 6
    · go_upto_region 10 with (fail)
      have hxa : Ext wr ((wr.alloc (.map #[] 0)).alloc (.map #[] 0)) := Ext.alloc (Ext.alloc (Ext.refl _) _) _
      have hm1 : MI ((wr.alloc (.map #[] 0)).alloc (.map #[] 0)) wr.heap.size [] := (MP.made wr).ext (Ext.alloc (Ext.refl _) _)
      have hm2 : MI ((wr.alloc (.map #[] 0)).alloc (.map #[] 0)) (wr.heap.size + 1) [] := by
        have := MP.made (enc := encI) (good := OkI) (wr.alloc (.map #[] 0))
        rwa [World.size_alloc] at this
      have hp4 : w4.heap.size ≤ wr.heap.size := hx.size
      generalize (wr.alloc (.map #[] 0)).alloc (.map #[] 0) = W2 at *
      have hx2 : Ext w4 W2 := hx.trans hxa
      clear hx hxa
      generalize wr.heap.size = p at *
      have HKS := Lib.hid (fun id => known_sent hX.out HIT.out (j : Int) a id)
      have HKM := Lib.hid (fun id (h : id ∈ srt (knowL xs (j : Int) a ms)) => known_more hab h)
      have HKN := Lib.hid (srt_spec (knowL xs (j : Int) a ms)).1
      have hKa := fun (w9 : World) (h : Ext w4 w9) => Knows_any xs ms j a _ _ w9 (HR4.out.ext h) (HM4.out.ext h) hsm.out
      have HKA := Lib.hid hKa; clear hKa
      go_upto_region 11 with (go_at_call 21; go_loud (with_reducible refine (Knows_any xs ms j b _ _ _ (HR4.out.ext hx2) (HM4.out.ext hx2) hsm.out).mono ?_); rintro e w5 ⟨r5, rfl, hr5, hx5⟩; obtain ⟨kb, kc, rfl⟩ := hr5.formN rfl)
      have hkl : (srt (knowL xs j b ms)).length ≤ 9223372036854775807 := by
        obtain ⟨_, _, -, h, -⟩ := hr5
        exact h
      generalize srt (knowL xs j b ms) = LB at *
      have h51 := hm1.ext hx5
      have h52 := hm2.ext hx5
      have hx25 := hx2.trans hx5
      clear hx2 hx5 hm1 hm2
      go_loopw [60] (fun k wq => ∃ (i : Nat) (m1 : List (Int × Value)), k = .int .i64 i ∧ i ≤ LB.length ∧ MI wq p m1 ∧ Hid (SetM (LB.take i) m1) ∧ G1 w5 wq p) (fun k _ => LB.length - (iof k).toNat)
      case atStart => exact ⟨0, [], rfl, by omega, h51, Lib.hid SetM.nil, G1.refl _ _⟩
      case round =>
        obtain ⟨i, m1, rfl, hi, hm, HS, hg⟩ := hrel
        by_cases hil : i < LB.length
        · have hri := hr5.grown h51 hg
          have htk := List.take_succ_eq_append_getElem hil
          obtain ⟨A', c', e1, -, hrng, hcell⟩ := hri
          injection e1 with e1 e2 e3
          subst e1 e3
          obtain ⟨qb, qo, rfl, hc⟩ := hcell.resolve_left (by intro e; rw [e] at hil; simp at hil)
          have cq := hc i hil
          have hidr := hrng LB[i] (List.getElem_mem _)
          have Htk := Lib.hid htk
          clear hc hcell e2 hrng htk
          generalize LB[i] = id at *
          have HIR := Lib.hid hidr; clear hidr
          go_wp2_with (at_mapUpdate; refine wpList_store rfl _ _ _ 51 rfl 3 4 keI Try.underlying51 p _ (by rfl) hm id (by rfl) HIR.out (.bool true) (by rfl) ?_; intro w6 hm6 hg6)
          exact ⟨⟨i + 1, _, by simp, by omega, hm6, Lib.hid (by rw [Htk.out]; exact HS.out.put id), hg.trans hg6⟩, by simp; omega⟩
        · obtain rfl : i = LB.length := by omega
          rw [List.take_length] at HS
          have h62 := h52.kept hg (by simp)
          have hx6 : Ext w4 wr := hg.ext hx25 hp4
          clear h51 h52 hx25 hg hr5 hkl
          go_upto_region 16 with (fail)
          obtain ⟨w6, hw6⟩ : ∃ w6, w6 = wr := ⟨wr, rfl⟩
          subst hw6
          go_loopw [17] (fun k wq => ∃ (i : Nat) (m2 : List (Int × Value)), k = .int .i64 i ∧ i ≤ ms.length ∧ MI wq (p + 1) m2 ∧ Hid (SetM (sentL j a (ms.take i)) m2) ∧ G1 w6 wq (p + 1)) (fun k _ => ms.length - (iof k).toNat)
          case atStart => exact ⟨0, [], rfl, by omega, h62, Lib.hid SetM.nil, G1.refl _ _⟩
          case round =>
            obtain ⟨i, m2, rfl, hi, hm2, HS2, hg⟩ := hrel
            by_cases hil : i < ms.length
            · obtain ⟨mb, mo, rfl, -, c0, c1, c2, c3⟩ := ms_at HM4.out.1 i hil
              have hmg := HM4.out.2 ms[i] (List.getElem_mem _)
              have hql := hsm.out.2 ms[i] (List.getElem_mem _)
              have htk : sentL j a (ms.take (i + 1)) = sentL j a (ms.take i) ++ if cnt j a ms[i] then ms[i].its else [] := by
                rw [List.take_succ_eq_append_getElem hil, sentL_snoc]
              generalize ms[i] = q at *
              obtain ⟨q0, q1, q2, qv, qi⟩ := q
              obtain ⟨A, c, hsh⟩ := hmg.shape
              have hir := hmg.2.2.2
              simp only at hsh c0 c1 c2 c3 hql hir htk
              subst hsh
              unfold cnt at htk
              simp only at htk
              clear hmg c0
              generalize sentL j a (ms.take i) = sl at *
              have C1 := Lib.hid c1; have C2 := Lib.hid c2; have C3 := Lib.hid c3; have HIR := Lib.hid hir
              clear c1 c2 c3 hir
              by_cases hA : q1 = (j : Int)
              · rw [hA] at C1 htk
                clear hA
                by_cases hB : q2 ≤ a
                · rw [decide_eq_true rfl, decide_eq_true hB, Bool.and_true, if_pos rfl] at htk
                  have Htk := Lib.hid htk; clear htk
                  go_upto_region 19 with (fail)
                  go_loopw [18] (fun k wq => ∃ (i2 : Nat) (m2 : List (Int × Value)), k = .int .i64 i2 ∧ i2 ≤ qi.length ∧ MI wq (p + 1) m2 ∧ Hid (SetM (sl ++ qi.take i2) m2) ∧ G1 w6 wq (p + 1)) (fun k _ => qi.length - (iof k).toNat)
                  case atStart => exact ⟨0, m2, rfl, by omega, hm2, Lib.hid (by simpa using HS2.out), hg⟩
                  case round =>
                    clear hm2 HS2 hg
                    obtain ⟨i2, m3, rfl, hi2, hm2, HS2, hg⟩ := hrel
                    have hxq : Ext w4 wr := hg.ext hx6 (by omega)
                    have c1 := (hxq.cells.1 _ _ (World.block_lt_of_cell? w4 _ C1.out)).trans C1.out
                    have c2 := (hxq.cells.1 _ _ (World.block_lt_of_cell? w4 _ C2.out)).trans C2.out
                    have c3 := (hxq.cells.1 _ _ (World.block_lt_of_cell? w4 _ C3.out)).trans C3.out
                    by_cases hil2 : i2 < qi.length
                    · have htq := List.take_succ_eq_append_getElem hil2
                      obtain ⟨A', c', e1, -, hrng, hcell⟩ := HIR.out.ext hxq
                      injection e1 with e1 e2 e3
                      subst e1 e3
                      obtain ⟨qb, qo, rfl, hc⟩ := hcell.resolve_left (by intro e; rw [e] at hil2; simp at hil2)
                      have cq := hc i2 hil2
                      have hidr := hrng qi[i2] (List.getElem_mem _)
                      have Htq := Lib.hid htq
                      clear hc hcell e2 hrng htq
                      generalize qi[i2] = id at *
                      have HID := Lib.hid hidr; clear hidr
                      go_wp2_with (at_mapUpdate; refine wpList_store rfl _ _ _ 51 rfl 3 4 keI Try.underlying51 (p + 1) _ (by rfl) hm2 id (by rfl) HID.out (.bool true) (by rfl) ?_; intro w7 hm7 hg7)
                      exact ⟨⟨i2 + 1, _, by simp, by omega, hm7, Lib.hid (by rw [Htq.out, ← List.append_assoc]; exact HS2.out.put id), hg.trans hg7⟩, by simp; omega⟩
                    · obtain rfl : i2 = qi.length := by omega
                      rw [List.take_length] at HS2
                      go_wp2_with (fail)
                      exact ⟨⟨i + 1, _, by simp, by omega, hm2, Lib.hid (by rw [Htk.out]; exact HS2.out), hg⟩, by simp; omega⟩
                · rw [decide_eq_true rfl, decide_eq_false hB, Bool.and_false, if_neg (by simp), List.append_nil] at htk
                  have Htk := Lib.hid htk; clear htk
                  go_upto_region 19 with (fail)
                  obtain ⟨w8, hw8⟩ : ∃ w8, w8 = wr := ⟨wr, rfl⟩
                  subst hw8
                  go_loopw [18] (fun k wq => k = .int .i64 (0 : Nat) ∧ wq = w8) (fun _ _ => 0)
                  case atStart => exact ⟨rfl, rfl⟩
                  case round =>
                    obtain ⟨rfl, rfl⟩ := hrel
                    have hxq : Ext w4 wr := hg.ext hx6 (by omega)
                    have c1 := (hxq.cells.1 _ _ (World.block_lt_of_cell? w4 _ C1.out)).trans C1.out
                    have c2 := (hxq.cells.1 _ _ (World.block_lt_of_cell? w4 _ C2.out)).trans C2.out
                    have c3 := (hxq.cells.1 _ _ (World.block_lt_of_cell? w4 _ C3.out)).trans C3.out
                    by_cases hq0 : 0 < qi.length
                    · go_wp2_with (fail)
                      exact ⟨⟨i + 1, _, by simp, by omega, hm2, Lib.hid (by rw [Htk.out]; exact HS2.out), hg⟩, by simp; omega⟩
                    · go_wp2_with (fail)
                      exact ⟨⟨i + 1, _, by simp, by omega, hm2, Lib.hid (by rw [Htk.out]; exact HS2.out), hg⟩, by simp; omega⟩
              · rw [decide_eq_false hA, Bool.false_and, if_neg (by simp), List.append_nil] at htk
                have Htk := Lib.hid htk; clear htk
                go_upto_region 19 with (fail)
                obtain ⟨w8, hw8⟩ : ∃ w8, w8 = wr := ⟨wr, rfl⟩
                subst hw8
                go_loopw [18] (fun k wq => k = .int .i64 (0 : Nat) ∧ wq = w8) (fun _ _ => 0)
                case atStart => exact ⟨rfl, rfl⟩
                case round =>
                  obtain ⟨rfl, rfl⟩ := hrel
                  have hxq : Ext w4 wr := hg.ext hx6 (by omega)
                  have c1 := (hxq.cells.1 _ _ (World.block_lt_of_cell? w4 _ C1.out)).trans C1.out
                  have c2 := (hxq.cells.1 _ _ (World.block_lt_of_cell? w4 _ C2.out)).trans C2.out
                  have c3 := (hxq.cells.1 _ _ (World.block_lt_of_cell? w4 _ C3.out)).trans C3.out
                  by_cases hq0 : 0 < qi.length
                  · go_wp2_with (fail)
                    exact ⟨⟨i + 1, _, by simp, by omega, hm2, Lib.hid (by rw [Htk.out]; exact HS2.out), hg⟩, by simp; omega⟩
                  · go_wp2_with (fail)
                    exact ⟨⟨i + 1, _, by simp, by omega, hm2, Lib.hid (by rw [Htk.out]; exact HS2.out), hg⟩, by simp; omega⟩
            · obtain rfl : i = ms.length := by omega
              rw [List.take_length] at HS2
              have hxq : Ext w4 wr := hg.ext hx6 (by omega)
              have hm18 := hm.kept hg (by simp)
              go_upto_region 24 with (go_at_call 21; go_loud (with_reducible refine (HKA.out _ hxq).mono ?_); rintro e w9 ⟨r9, rfl, hr9, hx9⟩; obtain ⟨ka, kd, rfl⟩ := hr9.formN rfl)
              have hkl : (srt (knowL xs j a ms)).length ≤ 9223372036854775807 := by
                obtain ⟨_, _, -, h, -⟩ := hr9
                exact h
              have hM1 := Lib.hid (hm18.ext hx9)
              have hM2 := Lib.hid (hm2.ext hx9)
              have HLE := Lib.hid (HS2.out.len hm2.nodup (k := srt (knowL xs j a ms)) (HKN.out.imp (fun h => Int.ne_of_lt h)) HKS.out)
              generalize srt (knowL xs j a ms) = LA at *
              have hx49 := hxq.trans hx9
              clear hg hm hm2 hxq hx9 hm18 h62 hx6
              go_loopw [20] (fun k wq => ∃ i : Nat, k = .int .i64 i ∧ i ≤ LA.length ∧ Ext w9 wq) (fun k _ => LA.length - (iof k).toNat)
              case atStart => exact ⟨0, rfl, by omega, Ext.refl _⟩
              case round =>
                obtain ⟨i, rfl, hi, hxz⟩ := hrel
                by_cases hil : i < LA.length
                · have hiz := hr9.ext hxz
                  have hin : LA[i] ∈ LA := List.getElem_mem _
                  have hs1 := HS.out LA[i]
                  rw [if_pos (HKM.out _ hin)] at hs1
                  have hs2 := HS2.out LA[i]
                  rw [if_pos ((HKS.out _).1 hin)] at hs2
                  obtain ⟨A', c', e1, -, hrng, hcell⟩ := hiz
                  injection e1 with e1 e2 e3
                  subst e1 e3
                  obtain ⟨qb, qo, rfl, hc⟩ := hcell.resolve_left (by intro e; rw [e] at hil; simp at hil)
                  have cq := hc i hil
                  have hidr := hrng LA[i] (List.getElem_mem _)
                  have r1 : ∀ n, (Instr.lookup 51 (.map (some p)) (.int .i64 LA[i]) false).run Try.prog (wr.drewN n) = .ok (.bool true) (wr.drewN n) := fun n => by
                    have := ((hM1.out.ext hxz).ext (Ext.drewN (Ext.refl _) n)).look keI Try.underlying51 (z := .bool false) (by rfl) hidr false
                    rw [hs1] at this
                    simpa using this
                  have r2 : ∀ n, (Instr.lookup 51 (.map (some (p + 1))) (.int .i64 LA[i]) false).run Try.prog (wr.drewN n) = .ok (.bool true) (wr.drewN n) := fun n => by
                    have := ((hM2.out.ext hxz).ext (Ext.drewN (Ext.refl _) n)).look keI Try.underlying51 (z := .bool false) (by rfl) hidr false
                    rw [hs2] at this
                    simpa using this
                  have hpr : ∀ (i0 : Nat) (h : i0 + 1 = i), LA[i0]'(by omega) < LA[i] := fun i0 h => List.pairwise_iff_getElem.1 HKN.out i0 i (by omega) hil (by omega)
                  have HPR := Lib.hid hpr
                  have HCC := Lib.hid hc
                  clear hc hcell e2 hrng hs1 hs2 hpr hidr hin
                  rcases i with _ | i
                  · simp only [Nat.add_zero] at cq
                    generalize LA[0] = id at *
                    go_upto_region 26 with (fail)
                    go_quiet (fail)
                    go_wp2_with (fail)
                    exact ⟨⟨1, rfl, by omega, Ext.drewN hxz _⟩, by simp; omega⟩
                  · have cp := HCC.out i (by omega)
                    have hlt := HPR.out i rfl
                    generalize LA[i + 1] = id at *
                    generalize LA[i] = id0 at *
                    go_upto_region 26 with (fail)
                    go_quiet (fail)
                    go_wp2_with (fail)
                    exact ⟨⟨i + 2, by simp; omega, by omega, Ext.drewN hxz _⟩, by simp; omega⟩
                · obtain rfl : i = LA.length := by omega
                  have hlen := (hM2.out.ext hxz).len Try.underlying51 3
                  rw [HLE.out] at hlen
                  go_wp2_with (fail)
                  exact ⟨⟨j + 1, by simp, by omega, hx49.trans hxz⟩, by simp; omega⟩
    · go_upto_region 32 with (fail)
      obtain ⟨wb, hwb⟩ : ∃ wb, wb = wr := ⟨wr, rfl⟩
      subst hwb
      go_loopw [21, 22] (fun o k wq => ∃ i : Nat, k = .int .i64 i ∧ i ≤ ms.length ∧ wq.ownsRow wb.heap.size 48 4 o ((ms.take i).filter (fun m => decide (a ≤ m.tm))).length (((ms.take i).filter (fun m => decide (a ≤ m.tm))).flatMap Ms.cs) ∧ Ext wb wq) (fun _ k _ => ms.length - (iof k).toNat)
      case atStart => exact ⟨0, rfl, by omega, World.ownsRow_nil _ _ _ _, Ext.refl _⟩
      case round =>
        obtain ⟨i, rfl, hi, hrow, hxb⟩ := hrel
        have hxr : Ext w4 wr := hx.trans hxb
        by_cases hil : i < ms.length
        · have hmr := HM4.out.ext hxr
          obtain ⟨mb, mo, rfl, -, c0, c1, c2, c3⟩ := ms_at hmr.1 i hil
          have hmg := hmr.2 ms[i] (List.getElem_mem _)
          have hgj : ((ms.take i).filter (fun m => decide (a ≤ m.tm))).length ≤ i := Nat.le_trans (List.length_filter_le _ _) (by rw [List.length_take]; omega)
          have ht1 : (ms.take (i + 1)).filter (fun m => decide (a ≤ m.tm)) = (ms.take i).filter (fun m => decide (a ≤ m.tm)) ++ if a ≤ ms[i].tm then [ms[i]] else [] := by
            rw [List.take_succ_eq_append_getElem hil, List.filter_append]
            congr 1
            by_cases hq : a ≤ ms[i].tm <;> simp [hq]
          obtain ⟨A, c, hsh⟩ := hmg.shape
          generalize ms[i] = mj at *
          obtain ⟨q0, q1, q2, qv, qi⟩ := mj
          simp only at hsh c0 c1 c2 c3 ht1
          subst hsh
          generalize (ms.take i).filter (fun m => decide (a ≤ m.tm)) = F at *
          clear hmg hmr
          by_cases hq : a ≤ q2
          · rw [if_pos hq] at ht1
            have Ht1 := Lib.hid ht1; clear ht1
            go_wp2_with (at_builtin; go_loud (refine append_u (cs := Ms.cs) (z := .agg #[.int .i64 0, .int .i64 0, .int .i64 0, .slice none 0 0]) 36 48 48 Try.underlying36 (by kernel_rfl) (by rfl) (by decide) (by decide) rfl _ _ rfl wb.heap.size _ F (by rfl) (row_ext hrow (Ext.alloc (Ext.refl _) _)) wr.heap.size ⟨q0, q1, q2, .slice A qi.length c, qi⟩ ⟨rfl, by simp [Ms.cs, Value.oneCell']⟩ (by rfl) (World.alloc_heap_new _ _) (by omega) (by have := hxb.size; simp; omega) ?_; intro g cap' w9 hr9 hb9))
            exact ⟨⟨i + 1, by simp, by omega, by rw [Ht1.out]; simpa using hr9, Below.trans (hxb.trans (Ext.alloc (Ext.refl _) _)) hb9⟩, by simp; omega⟩
          · rw [if_neg hq, List.append_nil] at ht1
            have Ht1 := Lib.hid ht1; clear ht1
            go_wp2_with (fail)
            exact ⟨⟨i + 1, by simp, by omega, by rw [Ht1.out]; exact hrow, hxb⟩, by simp; omega⟩
        · obtain rfl : i = ms.length := by omega
          rw [List.take_length] at hrow
          have hgl : (ms.filter (fun m => decide (a ≤ m.tm))).length ≤ ms.length := List.length_filter_le _ _
          obtain ⟨rb, rc, rfl⟩ := (SR.of_row (cs := Ms.cs) (fun x => rfl) hrow (by omega)).form
          have hrr : RM wr (.slice rb (ms.filter (fun m => decide (a ≤ m.tm))).length rc) (ms.filter (fun m => decide (a ≤ m.tm))) := ⟨(SR.of_row (cs := Ms.cs) (fun x => rfl) hrow (by omega)).sq, fun x hx' => (HM4.out.ext hxr).2 x (List.mem_filter.1 hx').1⟩
          have hck := ms_chk hX.out (ms := ms.filter (fun m => decide (a ≤ m.tm))) (fun m hm id hid => HIT.out m (List.mem_filter.1 hm).1 id hid) [0, 1, 2, 3, 4, 5] a
          have h0 : (ms.filter (fun m => decide (a ≤ m.tm))).filter (bad xs [0, 1, 2, 3, 4, 5] a) = [] := by
            rw [List.filter_eq_nil_iff]
            intro x hx'
            have := (List.mem_filter.1 hx').2
            simp only [decide_eq_true_eq] at this
            unfold bad
            rw [decide_eq_false (by omega)]
            simp
          rw [if_pos h0] at hck
          have hC := Check_any xs (ms.filter (fun m => decide (a ≤ m.tm))) [0, 1, 2, 3, 4, 5] a (.slice bx xs.length cx) (.slice rb (ms.filter (fun m => decide (a ≤ m.tm))).length rc) (.slice (some ⟨wr.heap.size, 0, none⟩) 6 6) (wr.alloc (.cells #[.int .i64 0, .int .i64 1, .int .i64 2, .int .i64 3, .int .i64 4, .int .i64 5] 3)) ((HR4.out.ext hxr).ext (Ext.alloc (Ext.refl _) _)) (hrr.ext (Ext.alloc (Ext.refl _) _)) (ird_lit (zs := [0, 1, 2, 3, 4, 5]) (World.alloc_heap_new wr _) (by intro z hz; exact okI_small (by simp at hz; omega)) rfl (by decide)) (okI_small (by omega))
          rw [hck] at hC
          have hxw : Ext w wr := HE4.out.trans hxr
          clear h0 hck hrr hrow
          generalize (ms.filter (fun m => decide (a ≤ m.tm))).length = nf at *
          generalize ms.filter (fun m => decide (a ≤ m.tm)) = FF at *
          go_wp2_with (go_at_call 18; go_loud (with_reducible refine hC.mono ?_); rintro e w7 ⟨r7, rfl, hr7, hx7⟩; obtain ⟨b7, c7, rfl⟩ := hr7.1.form)
          go_ret
          exact ⟨rfl, hxw.trans (Ext.trans (Ext.alloc (Ext.refl _) _) hx7)⟩

end Go.Proofs.Ythdhlocoiipbaaa
