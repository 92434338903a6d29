/-
  The reference's Assessors. Conditions: a setup lies in memory.
-/
import Derived.Test.YtlekdhhgjhakgaaRiE
import Derived.Test.YtlekdhhgjhakgaaRiA
import Derived.Test.YtlekdhhgjhakgaaJnE
namespace Go.Proofs.Ytlekdhhgjhakgaa
set_option linter.unusedVariables false
set_option linter.unusedSimpArgs false
open Go.RowKit
/-- The assessors among the first i persons, in order. -/
structure AsI (ps : List Pe) (i : Nat) (l : List Int) : Prop where
  srt : l.Pairwise (· < ·)
  mem : ∀ x, x ∈ l ↔ roleF ps x = 3 ∧ ∃ p ∈ ps.take i, p.id = x
  len : l.length ≤ i
  ok : ∀ x ∈ l, OkI x
theorem AsI.start (ps : List Pe) : AsI ps 0 [] := ⟨List.Pairwise.nil, fun x => by simp, Nat.le_refl _, fun x hx => by cases hx⟩
theorem AsI.skip {ps : List Pe} {i : Nat} {l : List Int} (h : AsI ps i l) (hi : i < ps.length) (hs : roleF ps ps[i].id ≠ 3 ∨ ps[i].id ∈ l) : AsI ps (i + 1) l := by
  refine ⟨h.srt, fun x => ?_, by have := h.len; omega, h.ok⟩
  rw [h.mem, List.take_succ_eq_append_getElem hi]
  refine and_congr_right fun hr => ⟨fun ⟨p, hp, e⟩ => ⟨p, List.mem_append_left _ hp, e⟩, fun ⟨p, hp, e⟩ => ?_⟩
  rcases List.mem_append.1 hp with hp | hp
  · exact ⟨p, hp, e⟩
  · rw [List.mem_singleton] at hp
    subst hp
    rcases hs with hs | hs
    · rw [e] at hs; exact absurd hr hs
    · rw [e] at hs; exact ((h.mem x).1 hs).2
theorem AsI.put {ps : List Pe} {i : Nat} {l : List Int} (h : AsI ps i l) (hi : i < ps.length) (hr : roleF ps ps[i].id = 3) (hn : ps[i].id ∉ l) (ho : OkI ps[i].id) {k : Nat} (hk : k ≤ l.length) (hlt : ∀ x ∈ l.take k, x < ps[i].id) (hge : ∀ e : k < l.length, ¬ l[k] < ps[i].id) :
    AsI ps (i + 1) (l.take k ++ ps[i].id :: l.drop k) := by
  generalize hid : ps[i].id = d at *
  have hp : (l.take k ++ d :: l.drop k).Perm (d :: l) := by
    refine List.perm_middle.trans ?_
    rw [List.take_append_drop]
  have hsr := h.srt
  rw [← List.take_append_drop k l, List.pairwise_append] at hsr
  obtain ⟨s1, s2, s3⟩ := hsr
  have hd : ∀ x ∈ l.drop k, d < x := by
    intro x hx
    rcases Nat.lt_or_ge k l.length with hkl | hkl
    · have h1 := hge hkl
      have hne : d ≠ l[k] := fun e => hn (e ▸ List.getElem_mem hkl)
      rw [List.drop_eq_getElem_cons hkl] at hx s2
      rcases List.mem_cons.1 hx with rfl | hx
      · omega
      · have := (List.pairwise_cons.1 s2).1 x hx
        omega
    · rw [List.drop_eq_nil_of_le hkl] at hx; cases hx
  refine ⟨?_, fun x => ?_, ?_, fun x hx => ?_⟩
  · rw [List.pairwise_append]
    refine ⟨s1, List.pairwise_cons.2 ⟨hd, s2⟩, fun a ha b hb => ?_⟩
    rcases List.mem_cons.1 hb with rfl | hb
    · exact hlt a ha
    · exact s3 a ha b hb
  · rw [hp.mem_iff, List.mem_cons, h.mem, List.take_succ_eq_append_getElem hi]
    constructor
    · rintro (rfl | ⟨h1, p, h2, h3⟩)
      · exact ⟨hr, ps[i], List.mem_append_right _ (List.mem_singleton.2 rfl), hid⟩
      · exact ⟨h1, p, List.mem_append_left _ h2, h3⟩
    · rintro ⟨h1, p, h2, h3⟩
      rcases List.mem_append.1 h2 with h2 | h2
      · exact .inr ⟨h1, p, h2, h3⟩
      · rw [List.mem_singleton] at h2
        subst h2
        exact .inl (h3.symm.trans hid)
  · rw [hp.length_eq]; have := h.len; simp; omega
  · rcases List.mem_cons.1 (hp.mem_iff.1 hx) with rfl | hx
    · exact ho
    · exact h.ok x hx
theorem AsI.eq {ps : List Pe} {l : List Int} (h : AsI ps ps.length l) : l = asrF ps := asrF_eq h.srt fun i => by rw [h.mem, List.take_length]
theorem own_srcI {B : Nat} {w : World} {A : Option Addr} {c : Nat} {l : List Int} (h : w.ownsRow B 3 1 (.slice A l.length c) l.length (l.flatMap celI)) : l = [] ∨ ∃ b off, A = some ⟨b, off, none⟩ ∧ ∀ k (h : k < l.length), w.cell? ⟨b, off + k, none⟩ = some (.int .i64 l[k]) := by
  obtain ⟨A', cap, hv, -, -, h1⟩ := row_formI h
  injection hv with e1 _ _
  subst e1
  rcases h1 with ⟨h1, -⟩ | ⟨g, h1, -, h2⟩
  · exact .inl h1
  · exact .inr ⟨g, 0, h1, fun k hk => by rw [Nat.zero_add]; exact h2 k hk⟩
set_option maxRecDepth 100000 in
set_option maxHeartbeats 8000000 in
theorem Assessors_any (c0 c1 c2 c3 c4 c5 : Value) (s : Su) (w : World) (h : SuV w c0 c1 c2 c3 c4 c5 s) :
    Calls Try.prog 41 #[.agg #[c0, c1, c2, c3, c4, c5]] w fun e w' => ∃ v, e = .returned v ∧ Ext w w' ∧ w'.ownsRow w.heap.size 3 1 v (asrF s.ps).length ((asrF s.ps).flatMap celI) := by
  have hS := h
  obtain ⟨hps, hhs, hrs, ⟨q1, rfl⟩, ⟨q4, rfl⟩, ⟨q5, rfl⟩, hok⟩ := h
  obtain ⟨b0, n0, rfl⟩ := hps.form
  obtain ⟨b2, n2, rfl⟩ := hhs.form
  obtain ⟨b3, n3, rfl⟩ := hrs.form
  have HPS := Lib.hid hps; have HOK := Lib.hid hok
  have hnp := hok.np
  clear hps hhs hrs hok
  go_enter Try.func41, Try.ntmps41
  go_upto_region 1 with (fail)
  obtain ⟨v2, hv2⟩ : ∃ v2, v2 = Value.slice b2 s.hs.length n2 := ⟨_, rfl⟩
  obtain ⟨v3, hv3⟩ : ∃ v3, v3 = Value.slice b3 s.rs.length n3 := ⟨_, rfl⟩
  rw [← hv2, ← hv3] at hS ⊢
  have hx1 : Ext w (w.alloc (.cells #[.slice b0 s.ps.length n0, .int .i64 q1, v2, v3, .int .i64 q4, .int .i64 q5] 28)) := Ext.alloc (Ext.refl _) _
  have hb1 := alloc_at w (.cells #[.slice b0 s.ps.length n0, .int .i64 q1, v2, v3, .int .i64 q4, .int .i64 q5] 28)
  obtain ⟨D, hD⟩ : ∃ D, D = w.heap.size := ⟨_, rfl⟩
  rw [← hD] at hb1 ⊢
  clear hD
  generalize w.alloc (.cells #[.slice b0 s.ps.length n0, .int .i64 q1, v2, v3, .int .i64 q4, .int .i64 q5] 28) = W1 at *
  have HS := Lib.hid (hS.ext hx1)
  have HB := Lib.hid hb1; have HX1 := Lib.hid hx1
  have HC : Hid (∀ wz, Ext W1 wz → wz.cell? ⟨D, 0, none⟩ = some (.slice b0 s.ps.length n0) ∧ wz.cell? ⟨D, 1, none⟩ = some (.int .i64 q1) ∧ wz.cell? ⟨D, 2, none⟩ = some v2 ∧ wz.cell? ⟨D, 3, none⟩ = some v3 ∧ wz.cell? ⟨D, 4, none⟩ = some (.int .i64 q4) ∧ wz.cell? ⟨D, 5, none⟩ = some (.int .i64 q5)) := Lib.hid fun wz hz => by
    have h1 := (hz.block _ (Rg.lt_of_heap HB.out)).trans HB.out
    exact ⟨cell_of_row wz D 0 _ _ _ h1, cell_of_row wz D 1 _ _ _ h1, cell_of_row wz D 2 _ _ _ h1, cell_of_row wz D 3 _ _ _ h1, cell_of_row wz D 4 _ _ _ h1, cell_of_row wz D 5 _ _ _ h1⟩
  clear hb1 hx1 hS hv2 hv3
  go_upto_region 3 with (fail)
  go_loopw [3, 4] (fun ov iv wr => ∃ (i : Nat) (l : List Int), iv = .int .i64 i ∧ i ≤ s.ps.length ∧ Hid (AsI s.ps i l) ∧ Hid (wr.ownsRow w.heap.size 3 1 ov l.length (l.flatMap celI)) ∧ Hid (Ext W1 wr)) (fun _ iv _ => s.ps.length - (iof iv).toNat)
  case atStart => exact ⟨0, [], rfl, by omega, Lib.hid (AsI.start _), Lib.hid ⟨rfl, .inl ⟨rfl, rfl⟩⟩, Lib.hid (Ext.refl _)⟩
  case round =>
    rename World => wo
    obtain ⟨i, l, rfl, hi, HA, HR, HX⟩ := hrel
    obtain ⟨A3, cap3, rfl, hlc, hcm, hA3⟩ := row_formI HR.out
    have HA3 := Lib.hid hA3
    clear hA3
    obtain ⟨g0, g1, g2, g3, g4, g5⟩ := HC.out wo HX.out
    have hll := HA.out.len
    by_cases hil : i < s.ps.length
    · obtain ⟨g, rfl, hgl, d0, d1, d2⟩ := pe_at (HPS.out.ext (HX1.out.trans HX.out)) i hil
      have HRO := Lib.hid (Role_any _ _ _ _ _ _ s s.ps[i].id wo (HS.out.ext HX.out))
      have HIR : Hid (∀ wz, Ext wo wz → IRd wz (.slice A3 l.length cap3) l) := Lib.hid fun wz hz => (ird_row HR.out HA.out.ok (by omega)).ext hz
      have HCN := Lib.hid fun wz (hz : Ext wo wz) => contains_any _ l s.ps[i].id wz (HIR.out wz hz) (by omega)
      have HSK := Lib.hid (fun h => HA.out.skip hil h)
      have HPU := Lib.hid (fun (a : roleF s.ps s.ps[i].id = 3) (b : s.ps[i].id ∉ l) k (c : k ≤ l.length) d e => HA.out.put hil a b (HOK.out.ps _ (List.getElem_mem hil)).1 c d e)
      have HOI := Lib.hid ((HOK.out.ps _ (List.getElem_mem hil)).1)
      generalize s.ps[i].id = id at *
      clear d1 d2
      by_cases h3 : roleF s.ps id = 3
      · rw [h3] at HRO
        by_cases hm : id ∈ l
        · rw [decide_eq_true hm] at HCN
          have HM := Lib.hid hm
          clear hm
          go_wp2_with (first | (go_at_call 38; (with_reducible refine HRO.out.mono ?_); rintro e wa ⟨rfl, hxa⟩) | (go_at_call 31; (with_reducible refine (HCN.out _ hxa).mono ?_); rintro e wb ⟨rfl, hxb⟩))
          exact ⟨⟨i + 1, l, by simp, by omega, Lib.hid (HSK.out (.inr HM.out)), Lib.hid (row_ext HR.out (hxa.trans hxb)), Lib.hid (HX.out.trans (hxa.trans hxb))⟩, by simp [iof]; omega⟩
        · rw [decide_eq_false hm] at HCN
          have HM := Lib.hid hm
          clear hm HSK
          go_upto_region 8 with (first | (go_at_call 38; (with_reducible refine HRO.out.mono ?_); rintro e wa ⟨rfl, hxa⟩) | (go_at_call 31; (with_reducible refine (HCN.out _ hxa).mono ?_); rintro e wb ⟨rfl, hxb⟩))
          have HXB := Lib.hid (hxa.trans hxb)
          clear hxa hxb HRO HCN g0 g1 g2 g3 g4 g5 d0 hgl
          go_loopw [6] (fun kv wq => ∃ k : Nat, kv = .int .i64 k ∧ k ≤ l.length ∧ Hid (Ext wb wq) ∧ Hid (∀ x ∈ l.take k, x < id)) (fun kv _ => l.length - (iof kv).toNat)
          case atStart => exact ⟨0, rfl, by omega, Lib.hid (Ext.refl _), Lib.hid (by simp)⟩
          case round =>
            obtain ⟨k, rfl, hk, HXW, HLT⟩ := hrel
            have HXV : Hid (Ext wo wr) := Lib.hid (HXB.out.trans HXW.out)
            by_cases hkl : k < l.length
            · obtain ⟨ga, rfl, hga, hcl⟩ := HA3.out.resolve_left (fun h0 => by rw [h0.1] at hkl; simp at hkl)
              have ck := (HXV.out.cells.1 _ _ (World.block_lt_of_cell? _ _ (hcl k hkl))).trans (hcl k hkl)
              have HTK : Hid (l.take (k + 1) = l.take k ++ [l[k]]) := Lib.hid (List.take_succ_eq_append_getElem hkl)
              obtain ⟨z, hz0⟩ : ∃ z, z = l[k] := ⟨_, rfl⟩
              rw [← hz0] at ck HTK
              have HZ := Lib.hid hz0
              clear hz0
              by_cases hz : z < id
              · go_wp2_with (fail)
                exact ⟨⟨k + 1, by simp, by omega, HXW, Lib.hid (by
                  rw [HTK.out]
                  intro x hx
                  rcases List.mem_append.1 hx with hx | hx
                  · exact HLT.out x hx
                  · rw [List.mem_singleton] at hx; subst hx; exact hz)⟩, by simp [iof]; omega⟩
              · have HG : Hid (∀ e : k < l.length, ¬ l[k] < id) := Lib.hid fun _ => by rw [← HZ.out]; exact hz
                go_upto_region 10 with (fail)
                skip
                have HSD : Hid (∀ wz, Ext wr wz → l.drop k = [] ∨ ∃ b off, (some ⟨ga, k, none⟩ : Option Addr) = some ⟨b, off, none⟩ ∧ ∀ j (h : j < (l.drop k).length), wz.cell? ⟨b, off + j, none⟩ = some (.int .i64 (l.drop k)[j])) := Lib.hid fun wz hz => .inr ⟨ga, k, rfl, fun j hj => by
                  rw [List.length_drop] at hj
                  rw [List.getElem_drop, ((HXV.out.trans hz).cells.1 _ _ (World.block_lt_of_cell? _ _ (hcl (k + j) (by omega)))).trans (hcl (k + j) (by omega))]⟩
                have HST : Hid (∀ wz, Ext wr wz → l.take k = [] ∨ ∃ b off, (some ⟨ga, 0, none⟩ : Option Addr) = some ⟨b, off, none⟩ ∧ ∀ j (h : j < (l.take k).length), wz.cell? ⟨b, off + j, none⟩ = some (.int .i64 (l.take k)[j])) := Lib.hid fun wz hz => .inr ⟨ga, 0, rfl, fun j hj => by
                  rw [List.length_take] at hj
                  rw [List.getElem_take, Nat.zero_add, ((HXV.out.trans hz).cells.1 _ _ (World.block_lt_of_cell? _ _ (hcl j (by omega)))).trans (hcl j (by omega))]⟩
                have HAN := Lib.hid (HPU.out h3 HM.out k hk HLT.out fun e => Int.not_lt.1 (HG.out e))
                obtain ⟨W2, hW2⟩ : ∃ W2, W2 = wr.alloc (.cells #[.int .i64 id] 3) := ⟨_, rfl⟩
                have hx2 : Ext wr W2 := hW2 ▸ Ext.alloc (Ext.refl _) _
                have hat2 : W2.heap[wr.heap.size]? = some (.cells #[.int .i64 id] 3) := hW2 ▸ alloc_at wr _
                have hown := own_lit (B := wr.heap.size) (n := 1) (sz := 1) (xs := [id].flatMap celI) (Nat.le_refl _) hat2 rfl (by decide)
                have hs1 : l.drop k = [] ∨ ∃ b off, ((some ⟨ga, k, none⟩) : Option Addr) = some ⟨b, off, none⟩ ∧ ∀ j (h : j < (l.drop k).length), W2.cell? ⟨b, off + j, none⟩ = some (.int .i64 (l.drop k)[j]) := (HSD.out _ hx2)
                have hs2 : Hid (∀ wz, Ext wr wz → l.take k = [] ∨ ∃ b off, ((some ⟨ga, 0, none⟩) : Option Addr) = some ⟨b, off, none⟩ ∧ ∀ j (h : j < (l.take k).length), wz.cell? ⟨b, off + j, none⟩ = some (.int .i64 (l.take k)[j])) := Lib.hid HST.out
                have hln : [id].length + (l.drop k).length ≤ 1000000 := by simp <;> omega
                have hsz : wr.heap.size ≤ W2.heap.size := hx2.size
                have HX2 := Lib.hid hx2
                have HRS : Hid (w.heap.size ≤ wr.heap.size) := Lib.hid (by have := HX1.out.size; have := (HX.out.trans HXV.out).size; omega)
                clear hx2 hat2
                go_upto_region 11 with (at_builtin; rw [← hW2]; (refine append_any rfl (.tmp 45) (.tmp 48) rfl wr.heap.size (.slice (some ⟨wr.heap.size, 0, none⟩) 1 1) [id] (by rfl) hown (some ⟨ga, k, none⟩) (cap3 - k) (l.drop k) (by rw [List.length_drop]; rfl) hs1 hln hsz ?_; intro v7 w7 hr7 hg7 hq7 hp7; clear hq7 hp7; obtain ⟨A7, n7, hv7⟩ := row_formG hr7; have HV7 := Lib.hid hv7; clear hv7; have HR7 := Lib.hid hr7; have HX7 : Hid (Ext wr w7) := Lib.hid (row_grown HX2.out hown (Nat.le_refl _) hg7); clear hr7 hg7))
                clear hs1 hln hsz hown HX2 hW2
                have hx8 : Ext w7 (w7.alloc (.cells #[] 3)) := Ext.alloc (Ext.refl _) _
                have hown := own_lit (B := w7.heap.size) (n := 0) (sz := 1) (xs := ([] : List Int).flatMap celI) (Nat.le_refl _) (alloc_at w7 (.cells #[] 3)) rfl (by decide)
                have hs3 := hs2.out _ (HX7.out.trans hx8)
                have hln : ([] : List Int).length + (l.take k).length ≤ 1000000 := by simp <;> omega
                have hln2 : ([] ++ (l.take k) : List Int).length + ([id] ++ (l.drop k)).length ≤ 1000000 := by simp <;> omega
                have hsz : w7.heap.size ≤ (w7.alloc (.cells #[] 3)).heap.size := hx8.size
                have HX8 := Lib.hid hx8
                clear hx8
                go_upto_region 4 with (first
                  | (at_builtin; (refine append_any rfl (.tmp 50) (.tmp 53) rfl w7.heap.size (.slice (some ⟨w7.heap.size, 0, none⟩) 0 0) [] (by rfl) hown (some ⟨ga, 0, none⟩) cap3 (l.take k) (by rw [List.length_take, Nat.min_eq_left hk]; rfl) hs3 hln hsz ?_; intro v9 w9 hr9 hg9 hq9 hp9; clear hq9 hp9; have HX9 : Hid (Ext w7 w9) := Lib.hid (row_grown HX8.out hown (Nat.le_refl _) hg9); have hs4 : ([id] ++ (l.drop k)) = [] ∨ ∃ b off, A7 = some ⟨b, off, none⟩ ∧ ∀ j (h : j < ([id] ++ (l.drop k)).length), w9.cell? ⟨b, off + j, none⟩ = some (.int .i64 ([id] ++ (l.drop k))[j]) := own_srcI (by have h9 := row_ext HR7.out HX9.out; rw [HV7.out] at h9; exact h9); have hsz9 : w7.heap.size ≤ w9.heap.size := HX9.out.size; clear hg9))
                  | (at_builtin; (refine append_any rfl (.tmp 54) (.tmp 55) rfl w7.heap.size v9 ([] ++ (l.take k)) (by rfl) hr9 A7 n7 ([id] ++ (l.drop k)) (by exact HV7.out) hs4 hln2 hsz9 ?_; intro v5 w5 hr5 hg5 hq5 hp5; clear hq5 hp5; have HX5 : Hid (Ext wr w5) := Lib.hid (HX7.out.trans (row_grown HX9.out hr9 (Nat.le_refl _) hg5)); have HR5 := Lib.hid hr5; clear hr5 hg5)))
                go_wp2_with (fail)
                exact ⟨⟨i + 1, _, by simp, by omega, HAN, Lib.hid (by
                  have h9 := row_mono HR5.out (B' := w.heap.size) (by have := HX7.out.size; have := HRS.out; omega)
                  simpa using h9), Lib.hid (HX.out.trans (HXV.out.trans HX5.out))⟩, by simp [iof]; omega⟩
            · have HG : Hid (∀ e : k < l.length, ¬ l[k] < id) := Lib.hid fun e => absurd e hkl
              go_upto_region 10 with (fail)
              obtain ⟨rfl, rfl, rfl⟩ | ⟨ga, rfl, hga, hcl⟩ := HA3.out
              · obtain rfl : k = 0 := by simp at hk; exact hk
                have HAN := Lib.hid (HPU.out h3 HM.out 0 hk HLT.out fun e => Int.not_lt.1 (HG.out e))
                obtain ⟨W2, hW2⟩ : ∃ W2, W2 = wr.alloc (.cells #[.int .i64 id] 3) := ⟨_, rfl⟩
                have hx2 : Ext wr W2 := hW2 ▸ Ext.alloc (Ext.refl _) _
                have hat2 : W2.heap[wr.heap.size]? = some (.cells #[.int .i64 id] 3) := hW2 ▸ alloc_at wr _
                have hown := own_lit (B := wr.heap.size) (n := 1) (sz := 1) (xs := [id].flatMap celI) (Nat.le_refl _) hat2 rfl (by decide)
                have hs1 : ([] : List Int) = [] ∨ ∃ b off, (none : Option Addr) = some ⟨b, off, none⟩ ∧ ∀ j (h : j < (([] : List Int)).length), W2.cell? ⟨b, off + j, none⟩ = some (.int .i64 (([] : List Int))[j]) := (.inl rfl)
                have hs2 : Hid (∀ wz, Ext wr wz → ([] : List Int) = [] ∨ ∃ b off, (none : Option Addr) = some ⟨b, off, none⟩ ∧ ∀ j (h : j < (([] : List Int)).length), wz.cell? ⟨b, off + j, none⟩ = some (.int .i64 (([] : List Int))[j])) := Lib.hid (fun _ _ => .inl rfl)
                have hln : [id].length + (([] : List Int)).length ≤ 1000000 := by simp <;> omega
                have hsz : wr.heap.size ≤ W2.heap.size := hx2.size
                have HX2 := Lib.hid hx2
                have HRS : Hid (w.heap.size ≤ wr.heap.size) := Lib.hid (by have := HX1.out.size; have := (HX.out.trans HXV.out).size; omega)
                clear hx2 hat2
                go_upto_region 11 with (at_builtin; rw [← hW2]; (refine append_any rfl (.tmp 45) (.tmp 48) rfl wr.heap.size (.slice (some ⟨wr.heap.size, 0, none⟩) 1 1) [id] (by rfl) hown none 0 (([] : List Int)) (by rfl) hs1 hln hsz ?_; intro v7 w7 hr7 hg7 hq7 hp7; clear hq7 hp7; obtain ⟨A7, n7, hv7⟩ := row_formG hr7; have HV7 := Lib.hid hv7; clear hv7; have HR7 := Lib.hid hr7; have HX7 : Hid (Ext wr w7) := Lib.hid (row_grown HX2.out hown (Nat.le_refl _) hg7); clear hr7 hg7))
                clear hs1 hln hsz hown HX2 hW2
                have hx8 : Ext w7 (w7.alloc (.cells #[] 3)) := Ext.alloc (Ext.refl _) _
                have hown := own_lit (B := w7.heap.size) (n := 0) (sz := 1) (xs := ([] : List Int).flatMap celI) (Nat.le_refl _) (alloc_at w7 (.cells #[] 3)) rfl (by decide)
                have hs3 := hs2.out _ (HX7.out.trans hx8)
                have hln : ([] : List Int).length + (([] : List Int)).length ≤ 1000000 := by simp <;> omega
                have hln2 : ([] ++ (([] : List Int)) : List Int).length + ([id] ++ (([] : List Int))).length ≤ 1000000 := by simp <;> omega
                have hsz : w7.heap.size ≤ (w7.alloc (.cells #[] 3)).heap.size := hx8.size
                have HX8 := Lib.hid hx8
                clear hx8
                go_upto_region 4 with (first
                  | (at_builtin; (refine append_any rfl (.tmp 50) (.tmp 53) rfl w7.heap.size (.slice (some ⟨w7.heap.size, 0, none⟩) 0 0) [] (by rfl) hown none 0 (([] : List Int)) (by rfl) hs3 hln hsz ?_; intro v9 w9 hr9 hg9 hq9 hp9; clear hq9 hp9; have HX9 : Hid (Ext w7 w9) := Lib.hid (row_grown HX8.out hown (Nat.le_refl _) hg9); have hs4 : ([id] ++ (([] : List Int))) = [] ∨ ∃ b off, A7 = some ⟨b, off, none⟩ ∧ ∀ j (h : j < ([id] ++ (([] : List Int))).length), w9.cell? ⟨b, off + j, none⟩ = some (.int .i64 ([id] ++ (([] : List Int)))[j]) := own_srcI (by have h9 := row_ext HR7.out HX9.out; rw [HV7.out] at h9; exact h9); have hsz9 : w7.heap.size ≤ w9.heap.size := HX9.out.size; clear hg9))
                  | (at_builtin; (refine append_any rfl (.tmp 54) (.tmp 55) rfl w7.heap.size v9 ([] ++ (([] : List Int))) (by rfl) hr9 A7 n7 ([id] ++ (([] : List Int))) (by exact HV7.out) hs4 hln2 hsz9 ?_; intro v5 w5 hr5 hg5 hq5 hp5; clear hq5 hp5; have HX5 : Hid (Ext wr w5) := Lib.hid (HX7.out.trans (row_grown HX9.out hr9 (Nat.le_refl _) hg5)); have HR5 := Lib.hid hr5; clear hr5 hg5)))
                go_wp2_with (fail)
                exact ⟨⟨i + 1, _, by simp, by omega, HAN, Lib.hid (by
                  have h9 := row_mono HR5.out (B' := w.heap.size) (by have := HX7.out.size; have := HRS.out; omega)
                  simpa using h9), Lib.hid (HX.out.trans (HXV.out.trans HX5.out))⟩, by simp [iof]; omega⟩
              · skip
                obtain rfl : k = l.length := by omega
                have HSD : Hid (∀ wz, Ext wr wz → l.drop l.length = [] ∨ ∃ b off, (some ⟨ga, l.length, none⟩ : Option Addr) = some ⟨b, off, none⟩ ∧ ∀ j (h : j < (l.drop l.length).length), wz.cell? ⟨b, off + j, none⟩ = some (.int .i64 (l.drop l.length)[j])) := Lib.hid fun wz hz => .inr ⟨ga, l.length, rfl, fun j hj => by
                  rw [List.length_drop] at hj
                  rw [List.getElem_drop, ((HXV.out.trans hz).cells.1 _ _ (World.block_lt_of_cell? _ _ (hcl (l.length + j) (by omega)))).trans (hcl (l.length + j) (by omega))]⟩
                have HST : Hid (∀ wz, Ext wr wz → l.take l.length = [] ∨ ∃ b off, (some ⟨ga, 0, none⟩ : Option Addr) = some ⟨b, off, none⟩ ∧ ∀ j (h : j < (l.take l.length).length), wz.cell? ⟨b, off + j, none⟩ = some (.int .i64 (l.take l.length)[j])) := Lib.hid fun wz hz => .inr ⟨ga, 0, rfl, fun j hj => by
                  rw [List.length_take] at hj
                  rw [List.getElem_take, Nat.zero_add, ((HXV.out.trans hz).cells.1 _ _ (World.block_lt_of_cell? _ _ (hcl j (by omega)))).trans (hcl j (by omega))]⟩
                by_cases hcz : cap3 = l.length
                · have HCZ := Lib.hid hcz
                  clear hcz
                  have HAN := Lib.hid (HPU.out h3 HM.out l.length hk HLT.out fun e => Int.not_lt.1 (HG.out e))
                  obtain ⟨W2, hW2⟩ : ∃ W2, W2 = wr.alloc (.cells #[.int .i64 id] 3) := ⟨_, rfl⟩
                  have hx2 : Ext wr W2 := hW2 ▸ Ext.alloc (Ext.refl _) _
                  have hat2 : W2.heap[wr.heap.size]? = some (.cells #[.int .i64 id] 3) := hW2 ▸ alloc_at wr _
                  have hown := own_lit (B := wr.heap.size) (n := 1) (sz := 1) (xs := [id].flatMap celI) (Nat.le_refl _) hat2 rfl (by decide)
                  have hs1 : ([] : List Int) = [] ∨ ∃ b off, ((some ⟨ga, 0, none⟩) : Option Addr) = some ⟨b, off, none⟩ ∧ ∀ j (h : j < (([] : List Int)).length), W2.cell? ⟨b, off + j, none⟩ = some (.int .i64 (([] : List Int))[j]) := (.inl rfl)
                  have hs2 : Hid (∀ wz, Ext wr wz → l.take l.length = [] ∨ ∃ b off, ((some ⟨ga, 0, none⟩) : Option Addr) = some ⟨b, off, none⟩ ∧ ∀ j (h : j < (l.take l.length).length), wz.cell? ⟨b, off + j, none⟩ = some (.int .i64 (l.take l.length)[j])) := Lib.hid HST.out
                  have hln : [id].length + (([] : List Int)).length ≤ 1000000 := by simp <;> omega
                  have hsz : wr.heap.size ≤ W2.heap.size := hx2.size
                  have HX2 := Lib.hid hx2
                  have HRS : Hid (w.heap.size ≤ wr.heap.size) := Lib.hid (by have := HX1.out.size; have := (HX.out.trans HXV.out).size; omega)
                  clear hx2 hat2
                  go_upto_region 11 with (at_builtin; rw [← hW2]; (refine append_any rfl (.tmp 45) (.tmp 48) rfl wr.heap.size (.slice (some ⟨wr.heap.size, 0, none⟩) 1 1) [id] (by rfl) hown (some ⟨ga, 0, none⟩) (cap3 - l.length) (([] : List Int)) (by (first | rfl | (simp; done) | (simp [Act.eval, Act.put, HCZ.out]))) hs1 hln hsz ?_; intro v7 w7 hr7 hg7 hq7 hp7; clear hq7 hp7; obtain ⟨A7, n7, hv7⟩ := row_formG hr7; have HV7 := Lib.hid hv7; clear hv7; have HR7 := Lib.hid hr7; have HX7 : Hid (Ext wr w7) := Lib.hid (row_grown HX2.out hown (Nat.le_refl _) hg7); clear hr7 hg7))
                  clear hs1 hln hsz hown HX2 hW2
                  have hx8 : Ext w7 (w7.alloc (.cells #[] 3)) := Ext.alloc (Ext.refl _) _
                  have hown := own_lit (B := w7.heap.size) (n := 0) (sz := 1) (xs := ([] : List Int).flatMap celI) (Nat.le_refl _) (alloc_at w7 (.cells #[] 3)) rfl (by decide)
                  have hs3 := hs2.out _ (HX7.out.trans hx8)
                  have hln : ([] : List Int).length + (l.take l.length).length ≤ 1000000 := by simp <;> omega
                  have hln2 : ([] ++ (l.take l.length) : List Int).length + ([id] ++ (([] : List Int))).length ≤ 1000000 := by simp <;> omega
                  have hsz : w7.heap.size ≤ (w7.alloc (.cells #[] 3)).heap.size := hx8.size
                  have HX8 := Lib.hid hx8
                  clear hx8
                  go_upto_region 4 with (first
                    | (at_builtin; (refine append_any rfl (.tmp 50) (.tmp 53) rfl w7.heap.size (.slice (some ⟨w7.heap.size, 0, none⟩) 0 0) [] (by rfl) hown (some ⟨ga, 0, none⟩) cap3 (l.take l.length) (by rw [List.length_take, Nat.min_eq_left hk]; rfl) hs3 hln hsz ?_; intro v9 w9 hr9 hg9 hq9 hp9; clear hq9 hp9; have HX9 : Hid (Ext w7 w9) := Lib.hid (row_grown HX8.out hown (Nat.le_refl _) hg9); have hs4 : ([id] ++ (([] : List Int))) = [] ∨ ∃ b off, A7 = some ⟨b, off, none⟩ ∧ ∀ j (h : j < ([id] ++ (([] : List Int))).length), w9.cell? ⟨b, off + j, none⟩ = some (.int .i64 ([id] ++ (([] : List Int)))[j]) := own_srcI (by have h9 := row_ext HR7.out HX9.out; rw [HV7.out] at h9; exact h9); have hsz9 : w7.heap.size ≤ w9.heap.size := HX9.out.size; clear hg9))
                    | (at_builtin; (refine append_any rfl (.tmp 54) (.tmp 55) rfl w7.heap.size v9 ([] ++ (l.take l.length)) (by rfl) hr9 A7 n7 ([id] ++ (([] : List Int))) (by exact HV7.out) hs4 hln2 hsz9 ?_; intro v5 w5 hr5 hg5 hq5 hp5; clear hq5 hp5; have HX5 : Hid (Ext wr w5) := Lib.hid (HX7.out.trans (row_grown HX9.out hr9 (Nat.le_refl _) hg5)); have HR5 := Lib.hid hr5; clear hr5 hg5)))
                  go_wp2_with (fail)
                  exact ⟨⟨i + 1, _, by simp, by omega, HAN, Lib.hid (by
                    have h9 := row_mono HR5.out (B' := w.heap.size) (by have := HX7.out.size; have := HRS.out; omega)
                    simpa using h9), Lib.hid (HX.out.trans (HXV.out.trans HX5.out))⟩, by simp [iof]; omega⟩
                · have HCZ := Lib.hid hcz
                  clear hcz
                  have HAN := Lib.hid (HPU.out h3 HM.out l.length hk HLT.out fun e => Int.not_lt.1 (HG.out e))
                  obtain ⟨W2, hW2⟩ : ∃ W2, W2 = wr.alloc (.cells #[.int .i64 id] 3) := ⟨_, rfl⟩
                  have hx2 : Ext wr W2 := hW2 ▸ Ext.alloc (Ext.refl _) _
                  have hat2 : W2.heap[wr.heap.size]? = some (.cells #[.int .i64 id] 3) := hW2 ▸ alloc_at wr _
                  have hown := own_lit (B := wr.heap.size) (n := 1) (sz := 1) (xs := [id].flatMap celI) (Nat.le_refl _) hat2 rfl (by decide)
                  have hs1 : ([] : List Int) = [] ∨ ∃ b off, ((some ⟨ga, l.length, none⟩) : Option Addr) = some ⟨b, off, none⟩ ∧ ∀ j (h : j < (([] : List Int)).length), W2.cell? ⟨b, off + j, none⟩ = some (.int .i64 (([] : List Int))[j]) := (.inl rfl)
                  have hs2 : Hid (∀ wz, Ext wr wz → l.take l.length = [] ∨ ∃ b off, ((some ⟨ga, 0, none⟩) : Option Addr) = some ⟨b, off, none⟩ ∧ ∀ j (h : j < (l.take l.length).length), wz.cell? ⟨b, off + j, none⟩ = some (.int .i64 (l.take l.length)[j])) := Lib.hid HST.out
                  have hln : [id].length + (([] : List Int)).length ≤ 1000000 := by simp <;> omega
                  have hsz : wr.heap.size ≤ W2.heap.size := hx2.size
                  have HX2 := Lib.hid hx2
                  have HRS : Hid (w.heap.size ≤ wr.heap.size) := Lib.hid (by have := HX1.out.size; have := (HX.out.trans HXV.out).size; omega)
                  clear hx2 hat2
                  go_upto_region 11 with (at_builtin; rw [← hW2]; (refine append_any rfl (.tmp 45) (.tmp 48) rfl wr.heap.size (.slice (some ⟨wr.heap.size, 0, none⟩) 1 1) [id] (by rfl) hown (some ⟨ga, l.length, none⟩) (cap3 - l.length) (([] : List Int)) (by (first | rfl | (simp; done) | (simp [Act.eval, Act.put, HCZ.out]))) hs1 hln hsz ?_; intro v7 w7 hr7 hg7 hq7 hp7; clear hq7 hp7; obtain ⟨A7, n7, hv7⟩ := row_formG hr7; have HV7 := Lib.hid hv7; clear hv7; have HR7 := Lib.hid hr7; have HX7 : Hid (Ext wr w7) := Lib.hid (row_grown HX2.out hown (Nat.le_refl _) hg7); clear hr7 hg7))
                  clear hs1 hln hsz hown HX2 hW2
                  have hx8 : Ext w7 (w7.alloc (.cells #[] 3)) := Ext.alloc (Ext.refl _) _
                  have hown := own_lit (B := w7.heap.size) (n := 0) (sz := 1) (xs := ([] : List Int).flatMap celI) (Nat.le_refl _) (alloc_at w7 (.cells #[] 3)) rfl (by decide)
                  have hs3 := hs2.out _ (HX7.out.trans hx8)
                  have hln : ([] : List Int).length + (l.take l.length).length ≤ 1000000 := by simp <;> omega
                  have hln2 : ([] ++ (l.take l.length) : List Int).length + ([id] ++ (([] : List Int))).length ≤ 1000000 := by simp <;> omega
                  have hsz : w7.heap.size ≤ (w7.alloc (.cells #[] 3)).heap.size := hx8.size
                  have HX8 := Lib.hid hx8
                  clear hx8
                  go_upto_region 4 with (first
                    | (at_builtin; (refine append_any rfl (.tmp 50) (.tmp 53) rfl w7.heap.size (.slice (some ⟨w7.heap.size, 0, none⟩) 0 0) [] (by rfl) hown (some ⟨ga, 0, none⟩) cap3 (l.take l.length) (by rw [List.length_take, Nat.min_eq_left hk]; rfl) hs3 hln hsz ?_; intro v9 w9 hr9 hg9 hq9 hp9; clear hq9 hp9; have HX9 : Hid (Ext w7 w9) := Lib.hid (row_grown HX8.out hown (Nat.le_refl _) hg9); have hs4 : ([id] ++ (([] : List Int))) = [] ∨ ∃ b off, A7 = some ⟨b, off, none⟩ ∧ ∀ j (h : j < ([id] ++ (([] : List Int))).length), w9.cell? ⟨b, off + j, none⟩ = some (.int .i64 ([id] ++ (([] : List Int)))[j]) := own_srcI (by have h9 := row_ext HR7.out HX9.out; rw [HV7.out] at h9; exact h9); have hsz9 : w7.heap.size ≤ w9.heap.size := HX9.out.size; clear hg9))
                    | (at_builtin; (refine append_any rfl (.tmp 54) (.tmp 55) rfl w7.heap.size v9 ([] ++ (l.take l.length)) (by rfl) hr9 A7 n7 ([id] ++ (([] : List Int))) (by exact HV7.out) hs4 hln2 hsz9 ?_; intro v5 w5 hr5 hg5 hq5 hp5; clear hq5 hp5; have HX5 : Hid (Ext wr w5) := Lib.hid (HX7.out.trans (row_grown HX9.out hr9 (Nat.le_refl _) hg5)); have HR5 := Lib.hid hr5; clear hr5 hg5)))
                  go_wp2_with (fail)
                  exact ⟨⟨i + 1, _, by simp, by omega, HAN, Lib.hid (by
                    have h9 := row_mono HR5.out (B' := w.heap.size) (by have := HX7.out.size; have := HRS.out; omega)
                    simpa using h9), Lib.hid (HX.out.trans (HXV.out.trans HX5.out))⟩, by simp [iof]; omega⟩
      · have h3b : (roleF s.ps id == 3) = false := by simpa using h3
        have H3 := Lib.hid h3
        clear h3
        generalize roleF s.ps id = q at *
        go_wp2_with (first | (go_at_call 38; (with_reducible refine HRO.out.mono ?_); rintro e wa ⟨rfl, hxa⟩))
        exact ⟨⟨i + 1, l, by simp, by omega, Lib.hid (HSK.out (.inl H3.out)), Lib.hid (row_ext HR.out hxa), Lib.hid (HX.out.trans hxa)⟩, by simp [iof]; omega⟩
    · obtain rfl : i = s.ps.length := by omega
      have HE : Hid (l = asrF s.ps) := Lib.hid HA.out.eq
      go_wp2_with (fail)
      go_ret
      exact ⟨_, rfl, HX1.out.trans HX.out, by rw [← HE.out]; exact HR.out⟩
end Go.Proofs.Ytlekdhhgjhakgaa
