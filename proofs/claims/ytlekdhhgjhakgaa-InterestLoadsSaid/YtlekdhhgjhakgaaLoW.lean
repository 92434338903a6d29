/-
  The brute force of InterestLoads walked. Conditions: a setup, the bidders and the duties lie in memory.
-/
import Derived.Test.YtlekdhhgjhakgaaLoP
import Derived.Test.YtlekdhhgjhakgaaLcA
import Derived.Test.YtlekdhhgjhakgaaIyF
import Derived.Test.YtlekdhhgjhakgaaIyH
import Derived.Deep.RegionHeld3
namespace Go.Proofs.Ytlekdhhgjhakgaa
set_option linter.unusedVariables false
set_option linter.unusedSimpArgs false
open Go.RowKit
theorem bits_one : ∀ i : Nat, i < 64 → ∀ k : Nat, k < 6 → bits BinOp.and IntKind.i64 ((i : Int) / 2 ^ k) 1 = ((i / 2 ^ k % 2 : Nat) : Int) := by decide
def bestF (s : Su) (each : Nat) (b : Int) (bs : List Int) (l : List (Int × Int)) (i : Nat) : Nat := (List.range i).foldl (fun best set => if okSet s each b set then min best (leaF s each bs (l ++ dutK (bitsL set) b)) else best) 100
theorem bestF_succ (s : Su) (each : Nat) (b : Int) (bs : List Int) (l : List (Int × Int)) (i : Nat) : bestF s each b bs l (i + 1) = if okSet s each b i then min (bestF s each b bs l i) (leaF s each bs (l ++ dutK (bitsL i) b)) else bestF s each b bs l i := by
  unfold bestF
  rw [List.range_succ, List.foldl_append]
  rfl
theorem bestF_le (s : Su) (each : Nat) (b : Int) (bs : List Int) (l : List (Int × Int)) : ∀ i, bestF s each b bs l i ≤ 100
  | 0 => Nat.le_refl _
  | i + 1 => by
    rw [bestF_succ]
    have := bestF_le s each b bs l i
    split <;> omega
def cntB (i k : Nat) : Nat := ((List.range k).filter fun k => decide (i / 2 ^ k % 2 = 1)).length
theorem cntB_succ (i k : Nat) : cntB i (k + 1) = cntB i k + i / 2 ^ k % 2 := by
  unfold cntB
  rw [List.range_succ, List.filter_append, List.length_append, List.filter_cons]
  have : i / 2 ^ k % 2 < 2 := Nat.mod_lt _ (by decide)
  by_cases e : i / 2 ^ k % 2 = 1
  · rw [if_pos (by simpa using e), e]; rfl
  · rw [if_neg (by simpa using e), show i / 2 ^ k % 2 = 0 by omega]; rfl
theorem cntB_le (i k : Nat) : cntB i k ≤ k := by
  unfold cntB
  have := List.length_filter_le (fun k => decide (i / 2 ^ k % 2 = 1)) (List.range k)
  simpa using this
theorem bits_mem {i k : Nat} (hk : k < 6) : k ∈ bitsL i ↔ i / 2 ^ k % 2 = 1 := by
  unfold bitsL
  rw [List.mem_filter, List.mem_range, decide_eq_true_iff]
  exact ⟨fun h => h.2, fun h => ⟨hk, h⟩⟩
theorem leaF_bd (s : Su) (each : Nat) : ∀ (bs : List Int) (l : List (Int × Int)), bs ≠ [] → leaF s each bs l ≤ 100
  | [], _, h => absurd rfl h
  | b :: bs, l, _ => bestF_le s each b bs l 64
set_option maxRecDepth 100000 in
set_option maxHeartbeats 8000000 in
theorem least_any (c0 c1 c2 c3 c4 c5 : Value) (s : Su) (each : Nat) (he : each ≤ 10) : ∀ (bs : List Int) (l : List (Int × Int)) (A : Option Addr) (cap : Nat) (dv : Value) (w : World), SuV w c0 c1 c2 c3 c4 c5 s → IRd w (.slice A bs.length cap) bs → bs.length ≤ cap → SR reC 2 w dv l → l.length + 6 * bs.length ≤ 1000 →
    Calls Try.prog 20 #[.agg #[c0, c1, c2, c3, c4, c5], .slice A bs.length cap, .int .i64 each, dv] w fun e w' => e = .returned (.int .i64 (leaF s each bs l : Nat)) ∧ Ext w w' := by
  intro bs
  induction bs with
  | nil =>
    intro l A cap dv w h hbs hcap hd hn
    obtain ⟨hps, hhs, hrs, ⟨q1, rfl⟩, ⟨q4, rfl⟩, ⟨q5, rfl⟩, hok⟩ := h
    obtain ⟨b0, n0, rfl⟩ := hps.form
    obtain ⟨b2, n2, rfl⟩ := hhs.form
    obtain ⟨b3, n3, rfl⟩ := hrs.form
    obtain ⟨d0, m0, rfl⟩ := hd.form
    have HLD := Lib.hid (fun wz hz => loads_any _ l wz (hd.ext (w' := wz) hz))
    clear hps hhs hrs hok hd hbs
    simp only [List.length_nil]
    go_enter Try.func20, Try.ntmps20
    go_wp2_with (first | (go_at_call 21; (with_reducible refine (HLD.out _ (by with_reducible repeat (first | exact Ext.refl _ | assumption | apply Ext.drewN | apply Ext.drew | apply Ext.alloc | (refine Ext.setCell ?_ (by simp <;> omega) _) | (refine Ext.trans ?_ (by assumption))))).mono ?_); rintro e w1 ⟨rfl, hx1⟩))
    go_ret
    exact ⟨rfl, (Ext.alloc (Ext.refl _) _).trans hx1⟩
  | cons b bs ih =>
    intro l A cap dv w h hbs hcap hd hn
    have hS := h
    obtain ⟨hps, hhs, hrs, ⟨q1, rfl⟩, ⟨q4, rfl⟩, ⟨q5, rfl⟩, hok⟩ := h
    obtain ⟨b0, n0, rfl⟩ := hps.form
    obtain ⟨b2, n2, rfl⟩ := hhs.form
    obtain ⟨b3, n3, rfl⟩ := hrs.form
    obtain ⟨d0, m0, rfl⟩ := hd.form
    obtain ⟨A', cap', hbe, hbn, hbo, hbc⟩ := id hbs
    injection hbe with e1 _ e3
    subst e1 e3
    obtain ⟨bb, boff, rfl, hbcell⟩ := hbc.resolve_left (by simp)
    have HB0 : Hid (∀ wz, Ext w wz → wz.cell? ⟨bb, boff, none⟩ = some (.int .i64 b)) := Lib.hid fun wz hz => by
      have h1 := hbcell 0 (by simp)
      exact (hz.cells.1 _ _ (World.block_lt_of_cell? _ _ h1)).trans h1
    have HBO := Lib.hid (hbo b List.mem_cons_self)
    have HBT : Hid (∀ wz, Ext w wz → bs = [] ∨ ∃ b' off, (some ⟨bb, boff + 1, none⟩ : Option Addr) = some ⟨b', off, none⟩ ∧ ∀ k (h : k < bs.length), wz.cell? ⟨b', off + k, none⟩ = some (.int .i64 bs[k])) := Lib.hid fun wz hz => .inr ⟨bb, boff + 1, rfl, fun k hk => by
      have h1 := hbcell (k + 1) (by simpa using hk)
      rw [show boff + (k + 1) = boff + 1 + k by omega] at h1
      exact (hz.cells.1 _ _ (World.block_lt_of_cell? _ _ h1)).trans h1⟩
    have HBR := Lib.hid (fun z hz => hbo z (List.mem_cons_of_mem _ hz))
    have HIH := Lib.hid ih
    have HD := Lib.hid hd
    simp only [List.length_cons] at hn hcap hbn ⊢
    clear hps hhs hrs hok hbs hbo hbc hbcell hd ih
    go_enter Try.func20, Try.ntmps20
    go_upto_region 1 with (fail)
    obtain ⟨v0, hv0⟩ : ∃ v0, v0 = Value.slice b0 s.ps.length n0 := ⟨_, rfl⟩
    obtain ⟨v2, hv2⟩ : ∃ v2, v2 = Value.slice b2 s.hs.length n2 := ⟨_, rfl⟩
    obtain ⟨v3, hv3⟩ : ∃ v3, v3 = Value.slice b3 s.rs.length n3 := ⟨_, rfl⟩
    rw [← hv0, ← hv2, ← hv3] at hS HIH ⊢
    have hx1 : Ext w (w.alloc (.cells #[v0, .int .i64 q1, v2, v3, .int .i64 q4, .int .i64 q5] 28)) := Ext.alloc (Ext.refl _) _
    have hb1 := alloc_at w (.cells #[v0, .int .i64 q1, v2, v3, .int .i64 q4, .int .i64 q5] 28)
    obtain ⟨D, hD⟩ : ∃ D, D = w.heap.size := ⟨_, rfl⟩
    rw [← hD] at hb1 ⊢
    clear hD
    generalize w.alloc (.cells #[v0, .int .i64 q1, v2, v3, .int .i64 q4, .int .i64 q5] 28) = W1 at *
    have HS := Lib.hid (hS.ext hx1)
    have HB := Lib.hid hb1; have HX1 := Lib.hid hx1
    have HC : Hid (∀ wz, Ext W1 wz → wz.cell? ⟨D, 0, none⟩ = some v0 ∧ wz.cell? ⟨D, 1, none⟩ = some (.int .i64 q1) ∧ wz.cell? ⟨D, 2, none⟩ = some v2 ∧ wz.cell? ⟨D, 3, none⟩ = some v3 ∧ wz.cell? ⟨D, 4, none⟩ = some (.int .i64 q4) ∧ wz.cell? ⟨D, 5, none⟩ = some (.int .i64 q5)) := Lib.hid fun wz hz => by
      have h1 := (hz.block _ (Rg.lt_of_heap HB.out)).trans HB.out
      exact ⟨cell_of_row wz D 0 _ _ _ h1, cell_of_row wz D 1 _ _ _ h1, cell_of_row wz D 2 _ _ _ h1, cell_of_row wz D 3 _ _ _ h1, cell_of_row wz D 4 _ _ _ h1, cell_of_row wz D 5 _ _ _ h1⟩
    have HD1 := Lib.hid (HD.out.ext hx1)
    have HB1 : Hid (∀ wz, Ext W1 wz → wz.cell? ⟨bb, boff, none⟩ = some (.int .i64 b)) := Lib.hid fun wz hz => HB0.out wz (hx1.trans hz)
    have HBT1 : Hid (∀ wz, Ext W1 wz → bs = [] ∨ ∃ b' off, (some ⟨bb, boff + 1, none⟩ : Option Addr) = some ⟨b', off, none⟩ ∧ ∀ k (h : k < bs.length), wz.cell? ⟨b', off + k, none⟩ = some (.int .i64 bs[k])) := Lib.hid fun wz hz => HBT.out wz (hx1.trans hz)
    clear hb1 hx1 hS hv0 hv2 hv3 HB0 HBT HD
    have HRO := Lib.hid (fun wz x (hz : Ext W1 wz) => Role_any _ _ _ _ _ _ s x wz (HS.out.ext hz))
    have HCF := Lib.hid (fun wz x (hz : Ext W1 wz) (hx : OkI x) => Conflict_any _ _ _ _ _ _ s x b wz (HS.out.ext hz) hx HBO.out)
    have HBS := Lib.hid (bestF_succ s each b bs l); have HBL := Lib.hid (bestF_le s each b bs l)
    have HLF : Hid (leaF s each (b :: bs) l = bestF s each b bs l 64) := Lib.hid rfl
    go_upto_region 5 with (fail)
    go_loopw [9, 10] (fun ev iv wr => ∃ i : Nat, iv = .int .i64 i ∧ i ≤ 64 ∧ ev = .int .i64 (bestF s each b bs l i : Nat) ∧ Hid (Ext W1 wr)) (fun _ iv _ => 64 - (iof iv).toNat)
    case atStart => exact ⟨0, rfl, by omega, rfl, Lib.hid (Ext.refl _)⟩
    case round =>
      rename World => wo
      obtain ⟨i, rfl, hi, rfl, HX⟩ := hrel
      have HSI := Lib.hid (HBS.out i); have hle := HBL.out i; have HLN := Lib.hid (HBL.out (i + 1))
      obtain ⟨bi, hbi⟩ : ∃ bi, bi = bestF s each b bs l i := ⟨_, rfl⟩
      rw [← hbi] at HSI hle ⊢
      have HBI := Lib.hid hbi
      clear hbi
      by_cases hil : (i : Int) < 64
      · have HB1i := Lib.hid (fun k hk => bits_one i (by omega) k hk)
        go_upto_region 9 with (fail)
        try rw [show decide ((i : Int) < 64) = true from decide_eq_true hil]
        go_loopw [11, 12] (fun mv kv wq => ∃ k : Nat, kv = .int .i64 k ∧ k ≤ 6 ∧ mv = .int .i64 (cntB i k : Nat) ∧ wq = wo) (fun _ kv _ => 6 - (iof kv).toNat)
        case atStart => exact ⟨0, rfl, by omega, rfl, rfl⟩
        case round =>
          obtain ⟨k, rfl, hk, rfl, rfl⟩ := hrel
          have hck := cntB_le i k
          have HCS := Lib.hid (cntB_succ i k)
          by_cases hk6 : k < 6
          · have hb := HB1i.out k hk6
            have hq2 : i / 2 ^ k % 2 < 2 := Nat.mod_lt _ (by decide)
            generalize i / 2 ^ k % 2 = q at *
            generalize cntB i k = c at *
            go_wp2_with (fail)
            exact ⟨⟨k + 1, by simp, by omega, by rw [HCS.out]; rfl, trivial⟩, by simp [iof]; omega⟩
          · obtain rfl : k = 6 := by omega
            have HCE : Hid (cntB i 6 = (bitsL i).length) := Lib.hid rfl
            have HOS : Hid (okSet s each b i = (decide ((bitsL i).length = each) && (bitsL i).all (okK s b))) := Lib.hid rfl
            have HQP : Hid ((bitsL i).Pairwise (· < ·)) := Lib.hid (List.pairwise_lt_range.sublist (bits_sub i))
            have HQL : Hid (∀ x ∈ bitsL i, x < 6) := Lib.hid fun x hx => List.mem_range.1 ((bits_sub i).subset hx)
            have HQM : Hid (∀ k, k < 6 → (k ∈ bitsL i ↔ i / 2 ^ k % 2 = 1)) := Lib.hid fun k hk => bits_mem hk
            generalize bitsL i = q at *
            rw [HCE.out] at *
            clear HCE hck HCS
            have hql : q.length ≤ 6 := by
              have h1 := (sub_sorted (l := List.range 6) List.pairwise_lt_range HQP.out fun x hx => List.mem_range.2 (HQL.out x hx)).length_le
              simpa using h1
            rename World => wk
            have hxa : Ext wk (wk.alloc (.cells #[] 56)) := Ext.alloc (Ext.refl _) _
            have hown := own_lit (B := wk.heap.size) (n := 0) (sz := 2) (xs := [].append (([] : List (Int × Int)).flatMap reC)) (Nat.le_refl _) (alloc_at wk (.cells #[] 56)) rfl (by decide)
            have hsrc : l = [] ∨ ∃ b off, d0 = some ⟨b, off, none⟩ ∧ ∀ j u, (l.flatMap reC)[j]? = some u → (wk.alloc (.cells #[] 56)).cell? ⟨b, off + j, none⟩ = some u := by
              obtain ⟨b', c', h1, h2, h3⟩ := HD1.out.ext (HX.out.trans hxa)
              injection h1 with e1 _ _
              refine h3.imp id fun ⟨g, h4, h5⟩ => ⟨g, 0, by rw [e1, h4], fun j u hj => ?_⟩
              obtain ⟨k, hk, r, hr, rfl, hv⟩ := flat_row (cs := reC) (sz := 2) (fun _ => rfl) l j u hj
              rw [Nat.zero_add]
              exact h5 k hk r u hv
            have hll : ([] : List (Int × Int)).length + l.length ≤ 1000000 := by simp; omega
            have hsz : wk.heap.size ≤ (wk.alloc (.cells #[] 56)).heap.size := hxa.size
            have HXA := Lib.hid hxa
            clear hxa
            go_upto_region 13 with (at_builtin; (refine append_rows (cs := reC) (z := .agg #[.int .i64 0, .int .i64 0]) 42 56 16 Try.underlying42 (by kernel_rfl) (by rfl) (by decide) (by decide) rfl (.tmp 34) (.tmp 35) rfl wk.heap.size (.slice (some ⟨wk.heap.size, 0, none⟩) 0 0) [] (by rfl) hown (fun _ => ⟨rfl, by simp [reC, Value.oneCell']⟩) d0 m0 l (by rfl) hsrc hll hsz ?_; intro v7 w7 hr7 hg7))
            rw [List.nil_append] at hr7
            have HR7 := Lib.hid hr7
            have HX7 : Hid (Ext wk w7) := Lib.hid (row_grown HXA.out hown (Nat.le_refl _) hg7)
            clear hr7 hg7 hown hsrc hll hsz HXA
            go_upto_region 14 with (fail)
            by_cases hqe : q.length = each
            · have HOT : Hid (okSet s each b i = q.all (okK s b)) := Lib.hid (by rw [HOS.out, decide_eq_true hqe]; rfl)
              rw [HOT.out] at HSI
              rw [hqe]
              clear hqe
              have heb : ¬ (99 : Int) = (each : Int) := by omega
              go_loopw [11, 13, 14] (fun mv ov kv wq => ∃ k : Nat, kv = .int .i64 k ∧ k ≤ 6 ∧ mv = .int .i64 each ∧ Hid (∀ x ∈ q, x < k → okK s b x = true) ∧ Hid (Ext wk wq) ∧ Hid (wq.ownsRow wk.heap.size 56 2 ov (l ++ dutK (q.filter fun x => decide (x < k)) b).length ((l ++ dutK (q.filter fun x => decide (x < k)) b).flatMap reC))) (fun _ _ kv _ => 6 - (iof kv).toNat)
              case atStart => exact ⟨0, rfl, by omega, rfl, Lib.hid (fun x _ h => by omega), HX7, Lib.hid (by
                have e0 : (q.filter fun x => decide (x < 0)) = [] := List.filter_eq_nil_iff.2 fun x _ => by simp
                rw [e0]
                have e1 : l ++ dutK [] b = l := List.append_nil l
                rw [e1]
                exact HR7.out)⟩
              case round =>
                clear HX7 HR7
                obtain ⟨k, rfl, hk, rfl, HOK, HXK, HRK⟩ := hrel
                obtain ⟨cur, hcur⟩ : ∃ cur, cur = l ++ dutK (q.filter fun x => decide (x < k)) b := ⟨_, rfl⟩
                rw [← hcur] at HRK
                have HCUR := Lib.hid hcur
                clear hcur
                obtain ⟨oA, oc, rfl⟩ := row_formG HRK.out
                have HLQ : Hid (cur.length ≤ 1000 - 6 * bs.length) := Lib.hid (by
                  rw [HCUR.out]
                  have h1 : (q.filter fun x => decide (x < k)).length ≤ q.length := List.length_filter_le _ _
                  rw [List.length_append]
                  unfold dutK
                  rw [List.length_map]
                  omega)
                by_cases hk6 : k < 6
                · have hb := HB1i.out k hk6
                  have hq2 : i / 2 ^ k % 2 < 2 := Nat.mod_lt _ (by decide)
                  have HQK := Lib.hid (HQM.out k hk6)
                  have HFS := Lib.hid (filt_succ HQP.out k)
                  generalize i / 2 ^ k % 2 = t at *
                  by_cases ht : t = 0
                  · subst ht
                    have HNQ : Hid (k ∉ q) := Lib.hid fun h => by have := HQK.out.1 h; omega
                    rw [if_neg HNQ.out, List.append_nil] at HFS
                    go_wp2_with (fail)
                    exact ⟨⟨k + 1, by simp, by omega, rfl, Lib.hid (fun x hx hxk => by
                      by_cases e : x = k
                      · subst e; exact absurd hx HNQ.out
                      · exact HOK.out x hx (by omega)), HXK, Lib.hid (by rw [HFS.out, ← HCUR.out]; exact HRK.out)⟩, by simp [iof]; omega⟩
                  · obtain rfl : t = 1 := by omega
                    clear ht
                    have HYQ : Hid (k ∈ q) := Lib.hid (HQK.out.2 rfl)
                    rw [if_pos HYQ.out] at HFS
                    have HXN : Hid (Ext W1 wr) := Lib.hid (HX.out.trans HXK.out)
                    have hw1 : IntKind.i64.wrap (1 + (k : Int)) = 1 + (k : Int) := by rw [IntKind.wrap_i64]; omega
                    have HOK1 : Hid (okK s b k = (decide (roleF s.ps (1 + (k : Int)) = 3) && !confF s (1 + (k : Int)) b)) := Lib.hid rfl
                    have HRO1 := Lib.hid (fun wz hz => HRO.out wz (1 + (k : Int)) hz)
                    have HCF1 := Lib.hid (fun wz hz => HCF.out wz (1 + (k : Int)) hz (okI_small (by omega)))
                    generalize roleF s.ps (1 + (k : Int)) = ro at *
                    generalize confF s (1 + (k : Int)) b = cf at *
                    have HSS : Hid (∀ wz, Ext W1 wz → wz.cell? ⟨D, 0, none⟩ = some v0 ∧ wz.cell? ⟨D, 1, none⟩ = some (.int .i64 q1) ∧ wz.cell? ⟨D, 2, none⟩ = some v2 ∧ wz.cell? ⟨D, 3, none⟩ = some v3 ∧ wz.cell? ⟨D, 4, none⟩ = some (.int .i64 q4) ∧ wz.cell? ⟨D, 5, none⟩ = some (.int .i64 q5) ∧ wz.cell? ⟨bb, boff, none⟩ = some (.int .i64 b)) := Lib.hid fun wz hz => by
                      obtain ⟨a0, a1, a2, a3, a4, a5⟩ := HC.out wz hz
                      exact ⟨a0, a1, a2, a3, a4, a5, HB1.out wz hz⟩
                    have HEX : Hid (∀ wz, Ext wr wz → Ext W1 wz) := Lib.hid fun wz hz => HXN.out.trans hz
                    obtain ⟨s0, s1, s2, s3, s4, s5, s6⟩ := HSS.out wr HXN.out
                    go_upto_region 17 with (fail)
                    by_cases hro : ro = 3
                    · subst hro
                      cases cf with
                      | true =>
                        refine Rr.wp_region ((List.range 13).map (fun i => (i, .y))) (fun _ => (.cells #[] 29, Rg.ptr)) (by kernel_rfl) (by kernel_rfl) ?_
                        simp only [List.range, List.range.loop, List.map_cons, List.map_nil]
                        (refine Rr.wr_y (by simp only [List.getElem?_toArray, List.getElem?_cons_succ, List.getElem?_cons_zero]; rfl) (by rfl) ?_
                         apply Exists.intro
                         refine ⟨fun wz hw hh => ?_, ?_⟩
                         · obtain ⟨r0, r1, r2, r3, r4, r5, r6⟩ := HSS.out wz (HEX.out wz hw)
                           go_simp
                           (with_reducible exact Rg.up_value)
                         simp only [Act.put, List.setIfInBounds_toArray, List.set_cons_zero, List.set_cons_succ])
                        (refine Rr.wr_y (by simp only [List.getElem?_toArray, List.getElem?_cons_succ, List.getElem?_cons_zero]; rfl) (by rfl) ?_
                         apply Exists.intro
                         refine ⟨fun wz hw hh => ?_, ?_⟩
                         · obtain ⟨r0, r1, r2, r3, r4, r5, r6⟩ := HSS.out wz (HEX.out wz hw)
                           go_simp
                           (with_reducible exact Rg.up_value)
                         simp only [Act.put, List.setIfInBounds_toArray, List.set_cons_zero, List.set_cons_succ])
                        (refine Rr.wr_y (by simp only [List.getElem?_toArray, List.getElem?_cons_succ, List.getElem?_cons_zero]; rfl) (by rfl) ?_
                         apply Exists.intro
                         refine ⟨fun wz hw hh => ?_, ?_⟩
                         · obtain ⟨r0, r1, r2, r3, r4, r5, r6⟩ := HSS.out wz (HEX.out wz hw)
                           go_simp
                           (with_reducible exact Rg.up_value)
                         simp only [Act.put, List.setIfInBounds_toArray, List.set_cons_zero, List.set_cons_succ])
                        (refine Rr.wr_y (by simp only [List.getElem?_toArray, List.getElem?_cons_succ, List.getElem?_cons_zero]; rfl) (by rfl) ?_
                         apply Exists.intro
                         refine ⟨fun wz hw hh => ?_, ?_⟩
                         · go_simp
                           apply Rg.up_enter
                           (with_reducible refine (HRO1.out _ (HEX.out wz hw)).mono ?_)
                           rintro e w3 ⟨rfl, hb3⟩
                           exact ⟨rfl, hb3⟩
                         simp only [Act.put, List.setIfInBounds_toArray, List.set_cons_zero, List.set_cons_succ])
                        (refine Rr.wr_y (by simp only [List.getElem?_toArray, List.getElem?_cons_succ, List.getElem?_cons_zero]; rfl) (by rfl) ?_
                         apply Exists.intro
                         refine ⟨fun wz hw hh => ?_, ?_⟩
                         · obtain ⟨r0, r1, r2, r3, r4, r5, r6⟩ := HSS.out wz (HEX.out wz hw)
                           go_simp
                           (with_reducible exact Rg.up_value)
                         simp only [Act.put, List.setIfInBounds_toArray, List.set_cons_zero, List.set_cons_succ])
                        (refine Rr.wr_y (by simp only [List.getElem?_toArray, List.getElem?_cons_succ, List.getElem?_cons_zero]; rfl) (by rfl) ?_
                         apply Exists.intro
                         refine ⟨fun wz hw hh => ?_, ?_⟩
                         · obtain ⟨r0, r1, r2, r3, r4, r5, r6⟩ := HSS.out wz (HEX.out wz hw)
                           go_simp
                           (with_reducible exact Rg.up_value)
                         simp only [Act.put, List.setIfInBounds_toArray, List.set_cons_zero, List.set_cons_succ])
                        (refine Rr.wr_y (by simp only [List.getElem?_toArray, List.getElem?_cons_succ, List.getElem?_cons_zero]; rfl) (by rfl) ?_
                         apply Exists.intro
                         refine ⟨fun wz hw hh => ?_, ?_⟩
                         · obtain ⟨r0, r1, r2, r3, r4, r5, r6⟩ := HSS.out wz (HEX.out wz hw)
                           go_simp
                           (with_reducible exact Rg.up_value)
                         simp only [Act.put, List.setIfInBounds_toArray, List.set_cons_zero, List.set_cons_succ])
                        (refine Rr.wr_y (by simp only [List.getElem?_toArray, List.getElem?_cons_succ, List.getElem?_cons_zero]; rfl) (by rfl) ?_
                         apply Exists.intro
                         refine ⟨fun wz hw hh => ?_, ?_⟩
                         · obtain ⟨r0, r1, r2, r3, r4, r5, r6⟩ := HSS.out wz (HEX.out wz hw)
                           go_simp
                           (with_reducible exact Rg.up_value)
                         simp only [Act.put, List.setIfInBounds_toArray, List.set_cons_zero, List.set_cons_succ])
                        (refine Rr.wr_y (by simp only [List.getElem?_toArray, List.getElem?_cons_succ, List.getElem?_cons_zero]; rfl) (by rfl) ?_
                         apply Exists.intro
                         refine ⟨fun wz hw hh => ?_, ?_⟩
                         · obtain ⟨r0, r1, r2, r3, r4, r5, r6⟩ := HSS.out wz (HEX.out wz hw)
                           go_simp
                           (with_reducible exact Rg.up_value)
                         simp only [Act.put, List.setIfInBounds_toArray, List.set_cons_zero, List.set_cons_succ])
                        (refine Rr.wr_y (by simp only [List.getElem?_toArray, List.getElem?_cons_succ, List.getElem?_cons_zero]; rfl) (by rfl) ?_
                         apply Exists.intro
                         refine ⟨fun wz hw hh => ?_, ?_⟩
                         · obtain ⟨r0, r1, r2, r3, r4, r5, r6⟩ := HSS.out wz (HEX.out wz hw)
                           go_simp
                           (with_reducible exact Rg.up_value)
                         simp only [Act.put, List.setIfInBounds_toArray, List.set_cons_zero, List.set_cons_succ])
                        (refine Rr.wr_y (by simp only [List.getElem?_toArray, List.getElem?_cons_succ, List.getElem?_cons_zero]; rfl) (by rfl) ?_
                         apply Exists.intro
                         refine ⟨fun wz hw hh => ?_, ?_⟩
                         · obtain ⟨r0, r1, r2, r3, r4, r5, r6⟩ := HSS.out wz (HEX.out wz hw)
                           go_simp
                           (with_reducible exact Rg.up_value)
                         simp only [Act.put, List.setIfInBounds_toArray, List.set_cons_zero, List.set_cons_succ])
                        (refine Rr.wr_y (by simp only [List.getElem?_toArray, List.getElem?_cons_succ, List.getElem?_cons_zero]; rfl) (by rfl) ?_
                         apply Exists.intro
                         refine ⟨fun wz hw hh => ?_, ?_⟩
                         · obtain ⟨r0, r1, r2, r3, r4, r5, r6⟩ := HSS.out wz (HEX.out wz hw)
                           go_simp
                           (with_reducible exact Rg.up_value)
                         simp only [Act.put, List.setIfInBounds_toArray, List.set_cons_zero, List.set_cons_succ])
                        (refine Rr.wr_y (by simp only [List.getElem?_toArray, List.getElem?_cons_succ, List.getElem?_cons_zero]; rfl) (by rfl) ?_
                         apply Exists.intro
                         refine ⟨fun wz hw hh => ?_, ?_⟩
                         · go_simp
                           apply Rg.up_enter
                           (with_reducible refine (HCF1.out _ (HEX.out wz hw)).mono ?_)
                           rintro e w3 ⟨rfl, hb3⟩
                           exact ⟨rfl, hb3⟩
                         simp only [Act.put, List.setIfInBounds_toArray, List.set_cons_zero, List.set_cons_succ])
                        refine Rr.wr_nil ?_
                        intro wy hy hh
                        simp only [List.length_cons, List.length_nil, List.drop_succ_cons, List.drop_zero, Nat.reduceAdd]
                        clear hh
                        have HXF : Hid (Ext wr wy) := Lib.hid hy
                        have HALL : Hid (q.all (okK s b) = false) := Lib.hid (by
                          rw [List.all_eq_false]
                          exact ⟨k, HYQ.out, by rw [HOK1.out]; simp⟩)
                        rw [HALL.out] at HSI
                        clear hy s0 s1 s2 s3 s4 s5 s6
                        go_wp2_with (fail)
                        exact ⟨⟨i + 1, by simp, by omega, by rw [HSI.out]; rfl, Lib.hid (HEX.out _ HXF.out)⟩, by simp [iof]; omega⟩
                      | false =>
                        have HKT : Hid (okK s b k = true) := Lib.hid (by rw [HOK1.out]; simp)
                        have HNX : Hid (l ++ dutK (q.filter fun x => decide (x < k + 1)) b = cur ++ [(1 + (k : Int), b)]) := Lib.hid (by rw [HCUR.out, HFS.out]; unfold dutK; rw [List.map_append, List.append_assoc]; rfl)
                        refine Rr.wp_region ((List.range 13).map (fun i => (i, .y))) (fun _ => (.cells #[] 29, Rg.ptr)) (by kernel_rfl) (by kernel_rfl) ?_
                        simp only [List.range, List.range.loop, List.map_cons, List.map_nil]
                        (refine Rr.wr_y (by simp only [List.getElem?_toArray, List.getElem?_cons_succ, List.getElem?_cons_zero]; rfl) (by rfl) ?_
                         apply Exists.intro
                         refine ⟨fun wz hw hh => ?_, ?_⟩
                         · obtain ⟨r0, r1, r2, r3, r4, r5, r6⟩ := HSS.out wz (HEX.out wz hw)
                           go_simp
                           (with_reducible exact Rg.up_value)
                         simp only [Act.put, List.setIfInBounds_toArray, List.set_cons_zero, List.set_cons_succ])
                        (refine Rr.wr_y (by simp only [List.getElem?_toArray, List.getElem?_cons_succ, List.getElem?_cons_zero]; rfl) (by rfl) ?_
                         apply Exists.intro
                         refine ⟨fun wz hw hh => ?_, ?_⟩
                         · obtain ⟨r0, r1, r2, r3, r4, r5, r6⟩ := HSS.out wz (HEX.out wz hw)
                           go_simp
                           (with_reducible exact Rg.up_value)
                         simp only [Act.put, List.setIfInBounds_toArray, List.set_cons_zero, List.set_cons_succ])
                        (refine Rr.wr_y (by simp only [List.getElem?_toArray, List.getElem?_cons_succ, List.getElem?_cons_zero]; rfl) (by rfl) ?_
                         apply Exists.intro
                         refine ⟨fun wz hw hh => ?_, ?_⟩
                         · obtain ⟨r0, r1, r2, r3, r4, r5, r6⟩ := HSS.out wz (HEX.out wz hw)
                           go_simp
                           (with_reducible exact Rg.up_value)
                         simp only [Act.put, List.setIfInBounds_toArray, List.set_cons_zero, List.set_cons_succ])
                        (refine Rr.wr_y (by simp only [List.getElem?_toArray, List.getElem?_cons_succ, List.getElem?_cons_zero]; rfl) (by rfl) ?_
                         apply Exists.intro
                         refine ⟨fun wz hw hh => ?_, ?_⟩
                         · go_simp
                           apply Rg.up_enter
                           (with_reducible refine (HRO1.out _ (HEX.out wz hw)).mono ?_)
                           rintro e w3 ⟨rfl, hb3⟩
                           exact ⟨rfl, hb3⟩
                         simp only [Act.put, List.setIfInBounds_toArray, List.set_cons_zero, List.set_cons_succ])
                        (refine Rr.wr_y (by simp only [List.getElem?_toArray, List.getElem?_cons_succ, List.getElem?_cons_zero]; rfl) (by rfl) ?_
                         apply Exists.intro
                         refine ⟨fun wz hw hh => ?_, ?_⟩
                         · obtain ⟨r0, r1, r2, r3, r4, r5, r6⟩ := HSS.out wz (HEX.out wz hw)
                           go_simp
                           (with_reducible exact Rg.up_value)
                         simp only [Act.put, List.setIfInBounds_toArray, List.set_cons_zero, List.set_cons_succ])
                        (refine Rr.wr_y (by simp only [List.getElem?_toArray, List.getElem?_cons_succ, List.getElem?_cons_zero]; rfl) (by rfl) ?_
                         apply Exists.intro
                         refine ⟨fun wz hw hh => ?_, ?_⟩
                         · obtain ⟨r0, r1, r2, r3, r4, r5, r6⟩ := HSS.out wz (HEX.out wz hw)
                           go_simp
                           (with_reducible exact Rg.up_value)
                         simp only [Act.put, List.setIfInBounds_toArray, List.set_cons_zero, List.set_cons_succ])
                        (refine Rr.wr_y (by simp only [List.getElem?_toArray, List.getElem?_cons_succ, List.getElem?_cons_zero]; rfl) (by rfl) ?_
                         apply Exists.intro
                         refine ⟨fun wz hw hh => ?_, ?_⟩
                         · obtain ⟨r0, r1, r2, r3, r4, r5, r6⟩ := HSS.out wz (HEX.out wz hw)
                           go_simp
                           (with_reducible exact Rg.up_value)
                         simp only [Act.put, List.setIfInBounds_toArray, List.set_cons_zero, List.set_cons_succ])
                        (refine Rr.wr_y (by simp only [List.getElem?_toArray, List.getElem?_cons_succ, List.getElem?_cons_zero]; rfl) (by rfl) ?_
                         apply Exists.intro
                         refine ⟨fun wz hw hh => ?_, ?_⟩
                         · obtain ⟨r0, r1, r2, r3, r4, r5, r6⟩ := HSS.out wz (HEX.out wz hw)
                           go_simp
                           (with_reducible exact Rg.up_value)
                         simp only [Act.put, List.setIfInBounds_toArray, List.set_cons_zero, List.set_cons_succ])
                        (refine Rr.wr_y (by simp only [List.getElem?_toArray, List.getElem?_cons_succ, List.getElem?_cons_zero]; rfl) (by rfl) ?_
                         apply Exists.intro
                         refine ⟨fun wz hw hh => ?_, ?_⟩
                         · obtain ⟨r0, r1, r2, r3, r4, r5, r6⟩ := HSS.out wz (HEX.out wz hw)
                           go_simp
                           (with_reducible exact Rg.up_value)
                         simp only [Act.put, List.setIfInBounds_toArray, List.set_cons_zero, List.set_cons_succ])
                        (refine Rr.wr_y (by simp only [List.getElem?_toArray, List.getElem?_cons_succ, List.getElem?_cons_zero]; rfl) (by rfl) ?_
                         apply Exists.intro
                         refine ⟨fun wz hw hh => ?_, ?_⟩
                         · obtain ⟨r0, r1, r2, r3, r4, r5, r6⟩ := HSS.out wz (HEX.out wz hw)
                           go_simp
                           (with_reducible exact Rg.up_value)
                         simp only [Act.put, List.setIfInBounds_toArray, List.set_cons_zero, List.set_cons_succ])
                        (refine Rr.wr_y (by simp only [List.getElem?_toArray, List.getElem?_cons_succ, List.getElem?_cons_zero]; rfl) (by rfl) ?_
                         apply Exists.intro
                         refine ⟨fun wz hw hh => ?_, ?_⟩
                         · obtain ⟨r0, r1, r2, r3, r4, r5, r6⟩ := HSS.out wz (HEX.out wz hw)
                           go_simp
                           (with_reducible exact Rg.up_value)
                         simp only [Act.put, List.setIfInBounds_toArray, List.set_cons_zero, List.set_cons_succ])
                        (refine Rr.wr_y (by simp only [List.getElem?_toArray, List.getElem?_cons_succ, List.getElem?_cons_zero]; rfl) (by rfl) ?_
                         apply Exists.intro
                         refine ⟨fun wz hw hh => ?_, ?_⟩
                         · obtain ⟨r0, r1, r2, r3, r4, r5, r6⟩ := HSS.out wz (HEX.out wz hw)
                           go_simp
                           (with_reducible exact Rg.up_value)
                         simp only [Act.put, List.setIfInBounds_toArray, List.set_cons_zero, List.set_cons_succ])
                        (refine Rr.wr_y (by simp only [List.getElem?_toArray, List.getElem?_cons_succ, List.getElem?_cons_zero]; rfl) (by rfl) ?_
                         apply Exists.intro
                         refine ⟨fun wz hw hh => ?_, ?_⟩
                         · go_simp
                           apply Rg.up_enter
                           (with_reducible refine (HCF1.out _ (HEX.out wz hw)).mono ?_)
                           rintro e w3 ⟨rfl, hb3⟩
                           exact ⟨rfl, hb3⟩
                         simp only [Act.put, List.setIfInBounds_toArray, List.set_cons_zero, List.set_cons_succ])
                        refine Rr.wr_nil ?_
                        intro wy hy hh
                        simp only [List.length_cons, List.length_nil, List.drop_succ_cons, List.drop_zero, Nat.reduceAdd]
                        clear hh
                        have HXY : Hid (Ext wr wy) := Lib.hid hy
                        clear hy s0 s1 s2 s3 s4 s5 s6 HRO1 HCF1
                        obtain ⟨-, -, -, -, -, -, s6⟩ := HSS.out wy (HEX.out wy HXY.out)
                        have hxa : Ext wy (wy.alloc (.cells #[.int .i64 (1 + (k : Int)), .int .i64 b] 56)) := Ext.alloc (Ext.refl _) _
                        have HR1 := Lib.hid (row_ext HRK.out (HXY.out.trans hxa))
                        have HX1' := Lib.hid (HXK.out.trans (HXY.out.trans hxa))
                        have hsz : wk.heap.size ≤ (wy.alloc (.cells #[.int .i64 (1 + (k : Int)), .int .i64 b] 56)).heap.size := HX1'.out.size
                        have hlen : cur.length < 1000000 := by have := HLQ.out; omega
                        clear hxa
                        go_wp2_with (at_builtin; (refine append_g (cs := reC) (z := .agg #[.int .i64 0, .int .i64 0]) 42 56 16 Try.underlying42 (by kernel_rfl) (by rfl) (by decide) (by decide) rfl (.tmp 65) (.tmp 72) rfl wk.heap.size (.slice oA cur.length oc) cur (by rfl) HR1.out wy.heap.size (1 + (k : Int), b) ⟨rfl, by simp [reC, Value.oneCell']⟩ (by rfl) (alloc_at wy _) hlen hsz ?_; intro g9 cap9 w9 hr9 hg9 hat9; have HX9 : Hid (Ext wk w9) := Lib.hid (row_grown HX1'.out HR1.out (Nat.le_refl _) hg9); have HR9 := Lib.hid hr9; clear hr9 hg9 hat9))
                        exact ⟨⟨k + 1, by simp, by omega, rfl, Lib.hid (fun x hx hxk => by
                          by_cases e : x = k
                          · subst e; exact HKT.out
                          · exact HOK.out x hx (by omega)), HX9, Lib.hid (by rw [HNX.out]; exact HR9.out)⟩, by simp [iof]; omega⟩
                    · have hrb : (ro != 3) = true := by simpa using hro
                      have HNR := Lib.hid hro
                      clear hro
                      refine Rr.wp_region ((List.range 13).map (fun i => (i, .y))) (fun _ => (.cells #[] 29, Rg.ptr)) (by kernel_rfl) (by kernel_rfl) ?_
                      simp only [List.range, List.range.loop, List.map_cons, List.map_nil]
                      (refine Rr.wr_y (by simp only [List.getElem?_toArray, List.getElem?_cons_succ, List.getElem?_cons_zero]; rfl) (by rfl) ?_
                       apply Exists.intro
                       refine ⟨fun wz hw hh => ?_, ?_⟩
                       · obtain ⟨r0, r1, r2, r3, r4, r5, r6⟩ := HSS.out wz (HEX.out wz hw)
                         go_simp
                         (with_reducible exact Rg.up_value)
                       simp only [Act.put, List.setIfInBounds_toArray, List.set_cons_zero, List.set_cons_succ])
                      (refine Rr.wr_y (by simp only [List.getElem?_toArray, List.getElem?_cons_succ, List.getElem?_cons_zero]; rfl) (by rfl) ?_
                       apply Exists.intro
                       refine ⟨fun wz hw hh => ?_, ?_⟩
                       · obtain ⟨r0, r1, r2, r3, r4, r5, r6⟩ := HSS.out wz (HEX.out wz hw)
                         go_simp
                         (with_reducible exact Rg.up_value)
                       simp only [Act.put, List.setIfInBounds_toArray, List.set_cons_zero, List.set_cons_succ])
                      (refine Rr.wr_y (by simp only [List.getElem?_toArray, List.getElem?_cons_succ, List.getElem?_cons_zero]; rfl) (by rfl) ?_
                       apply Exists.intro
                       refine ⟨fun wz hw hh => ?_, ?_⟩
                       · obtain ⟨r0, r1, r2, r3, r4, r5, r6⟩ := HSS.out wz (HEX.out wz hw)
                         go_simp
                         (with_reducible exact Rg.up_value)
                       simp only [Act.put, List.setIfInBounds_toArray, List.set_cons_zero, List.set_cons_succ])
                      (refine Rr.wr_y (by simp only [List.getElem?_toArray, List.getElem?_cons_succ, List.getElem?_cons_zero]; rfl) (by rfl) ?_
                       apply Exists.intro
                       refine ⟨fun wz hw hh => ?_, ?_⟩
                       · go_simp
                         apply Rg.up_enter
                         (with_reducible refine (HRO1.out _ (HEX.out wz hw)).mono ?_)
                         rintro e w3 ⟨rfl, hb3⟩
                         exact ⟨rfl, hb3⟩
                       simp only [Act.put, List.setIfInBounds_toArray, List.set_cons_zero, List.set_cons_succ])
                      (refine Rr.wr_y (by simp only [List.getElem?_toArray, List.getElem?_cons_succ, List.getElem?_cons_zero]; rfl) (by rfl) ?_
                       apply Exists.intro
                       refine ⟨fun wz hw hh => ?_, ?_⟩
                       · obtain ⟨r0, r1, r2, r3, r4, r5, r6⟩ := HSS.out wz (HEX.out wz hw)
                         go_simp
                         (with_reducible exact Rg.up_value)
                       simp only [Act.put, List.setIfInBounds_toArray, List.set_cons_zero, List.set_cons_succ])
                      (refine Rr.wr_y (by simp only [List.getElem?_toArray, List.getElem?_cons_succ, List.getElem?_cons_zero]; rfl) (by rfl) ?_
                       apply Exists.intro
                       refine ⟨fun wz hw hh => ?_, ?_⟩
                       · obtain ⟨r0, r1, r2, r3, r4, r5, r6⟩ := HSS.out wz (HEX.out wz hw)
                         go_simp
                         (with_reducible exact Rg.up_value)
                       simp only [Act.put, List.setIfInBounds_toArray, List.set_cons_zero, List.set_cons_succ])
                      refine Rr.wr_skip (by simp only [List.getElem?_toArray, List.getElem?_cons_succ, List.getElem?_cons_zero]; rfl) (by rfl) ?_
                      simp only [Act.put, List.setIfInBounds_toArray, List.set_cons_zero, List.set_cons_succ]
                      refine Rr.wr_skip (by simp only [List.getElem?_toArray, List.getElem?_cons_succ, List.getElem?_cons_zero]; rfl) (by rfl) ?_
                      simp only [Act.put, List.setIfInBounds_toArray, List.set_cons_zero, List.set_cons_succ]
                      refine Rr.wr_skip (by simp only [List.getElem?_toArray, List.getElem?_cons_succ, List.getElem?_cons_zero]; rfl) (by rfl) ?_
                      simp only [Act.put, List.setIfInBounds_toArray, List.set_cons_zero, List.set_cons_succ]
                      refine Rr.wr_skip (by simp only [List.getElem?_toArray, List.getElem?_cons_succ, List.getElem?_cons_zero]; rfl) (by rfl) ?_
                      simp only [Act.put, List.setIfInBounds_toArray, List.set_cons_zero, List.set_cons_succ]
                      refine Rr.wr_skip (by simp only [List.getElem?_toArray, List.getElem?_cons_succ, List.getElem?_cons_zero]; rfl) (by rfl) ?_
                      simp only [Act.put, List.setIfInBounds_toArray, List.set_cons_zero, List.set_cons_succ]
                      refine Rr.wr_skip (by simp only [List.getElem?_toArray, List.getElem?_cons_succ, List.getElem?_cons_zero]; rfl) (by rfl) ?_
                      simp only [Act.put, List.setIfInBounds_toArray, List.set_cons_zero, List.set_cons_succ]
                      refine Rr.wr_skip (by simp only [List.getElem?_toArray, List.getElem?_cons_succ, List.getElem?_cons_zero]; rfl) (by rfl) ?_
                      simp only [Act.put, List.setIfInBounds_toArray, List.set_cons_zero, List.set_cons_succ]
                      refine Rr.wr_nil ?_
                      intro wy hy hh
                      simp only [List.length_cons, List.length_nil, List.drop_succ_cons, List.drop_zero, Nat.reduceAdd]
                      clear hh
                      have HXF : Hid (Ext wr wy) := Lib.hid hy
                      have HALL : Hid (q.all (okK s b) = false) := Lib.hid (by
                        rw [List.all_eq_false]
                        exact ⟨k, HYQ.out, by rw [HOK1.out]; (rw [decide_eq_false HNR.out]; simp)⟩)
                      rw [HALL.out] at HSI
                      clear hy s0 s1 s2 s3 s4 s5 s6
                      go_wp2_with (fail)
                      exact ⟨⟨i + 1, by simp, by omega, by rw [HSI.out]; rfl, Lib.hid (HEX.out _ HXF.out)⟩, by simp [iof]; omega⟩
                · obtain rfl : k = 6 := by omega
                  have HALL : Hid (q.all (okK s b) = true) := Lib.hid (List.all_eq_true.2 fun x hx => HOK.out x hx (HQL.out x hx))
                  rw [HALL.out] at HSI
                  have HSM := Lib.hid (sr_row HRK.out (by have := HLQ.out; omega))
                  have HSM2 : Hid (SR reC 2 wr (.slice oA cur.length oc) (l ++ dutK q b)) := Lib.hid (by
                    have h1 := HCUR.out
                    rw [filt_all HQL.out] at h1
                    rw [← h1]
                    exact HSM.out)
                  have HLQ2 : Hid ((l ++ dutK q b).length + 6 * bs.length ≤ 1000) := Lib.hid (by
                    rw [List.length_append]
                    unfold dutK
                    rw [List.length_map]
                    omega)
                  generalize cur.length = ml at *
                  have HXN : Hid (Ext W1 wr) := Lib.hid (HX.out.trans HXK.out)
                  have HEX : Hid (∀ wz, Ext wr wz → Ext W1 wz) := Lib.hid fun wz hz => HXN.out.trans hz
                  have hmn : min (bi : Int) (leaF s each bs (l ++ dutK q b) : Nat) = ((min bi (leaF s each bs (l ++ dutK q b)) : Nat) : Int) := by omega
                  have HMN : Hid (bestF s each b bs l (i + 1) = min bi (leaF s each bs (l ++ dutK q b))) := Lib.hid (by rw [HSI.out]; rfl)
                  by_cases hc1 : cap = 1
                  · subst hc1
                    have HREC : Hid (∀ wz, Ext wr wz → Calls Try.prog 20 #[.agg #[v0, .int .i64 q1, v2, v3, .int .i64 q4, .int .i64 q5], .slice (some ⟨bb, boff, none⟩) bs.length 0, .int .i64 each, .slice oA ml oc] wz fun e w' => e = .returned (.int .i64 (leaF s each bs (l ++ dutK q b) : Nat)) ∧ Ext wz w') := Lib.hid fun wz hz => by
                      have hb0 : bs = [] := List.length_eq_zero_iff.1 (by omega)
                      exact HIH.out _ _ _ _ wz (HS.out.ext (HEX.out wz hz)) ⟨_, _, rfl, by omega, HBR.out, .inl hb0⟩ (by omega) (HSM2.out.ext hz) HLQ2.out
                    generalize leaF s each bs (l ++ dutK q b) = lf at *
                    generalize min bi lf = mn at *
                    obtain ⟨s0, s1, s2, s3, s4, s5⟩ := HC.out wr HXN.out
                    have hL1 : (1 : Int) ≤ (bs.length : Int) + 1 := by omega
                    have hL4 : bs.length + 1 - 1 = bs.length := by omega
                    go_upto_region 21 with (fail)
                    go_region_held3 (fun w' => w'.cell? ⟨D, 0, none⟩ = some v0 ∧ w'.cell? ⟨D, 1, none⟩ = some (.int .i64 q1) ∧ w'.cell? ⟨D, 2, none⟩ = some v2 ∧ w'.cell? ⟨D, 3, none⟩ = some v3 ∧ w'.cell? ⟨D, 4, none⟩ = some (.int .i64 q4) ∧ w'.cell? ⟨D, 5, none⟩ = some (.int .i64 q5))
                      (first | exact HC.out _ (HEX.out _ (by with_reducible repeat (first | exact Ext.refl _ | assumption | apply Ext.drewN | apply Ext.drew | apply Ext.alloc | (refine Ext.setCell ?_ (by simp <;> omega) _) | (refine Ext.trans ?_ (by assumption))))) | go_keep)
                      (first
                        | (go_at_call 20; (with_reducible refine (HREC.out _ (by with_reducible repeat (first | exact Ext.refl _ | assumption | apply Ext.drewN | apply Ext.drew | apply Ext.alloc | (refine Ext.setCell ?_ (by simp <;> omega) _) | (refine Ext.trans ?_ (by assumption))))).mono ?_); rintro e wa ⟨rfl, hxa⟩))
                    have HXF : Hid (Ext wr wa) := Lib.hid (by with_reducible repeat (first | exact Ext.refl _ | assumption | apply Ext.drewN | apply Ext.drew | apply Ext.alloc | (refine Ext.setCell ?_ (by simp <;> omega) _) | (refine Ext.trans ?_ (by assumption))))
                    clear hxa s0 s1 s2 s3 s4 s5
                    go_wp2_with (fail)
                    exact ⟨⟨i + 1, by simp, by omega, by rw [HMN.out]; first | done | rfl | simp [hmn], Lib.hid (HEX.out _ HXF.out)⟩, by simp [iof]; omega⟩
                  · have hL2 : (bs.length : Int) + 1 ≤ (cap : Int) := by omega
                    have hL3 : (1 : Int) ≤ (cap : Int) := by omega
                    have HREC : Hid (∀ wz, Ext wr wz → Calls Try.prog 20 #[.agg #[v0, .int .i64 q1, v2, v3, .int .i64 q4, .int .i64 q5], .slice (some ⟨bb, boff + 1, none⟩) bs.length (cap - 1), .int .i64 each, .slice oA ml oc] wz fun e w' => e = .returned (.int .i64 (leaF s each bs (l ++ dutK q b) : Nat)) ∧ Ext wz w') := Lib.hid fun wz hz =>
                      HIH.out _ _ _ _ wz (HS.out.ext (HEX.out wz hz)) ⟨_, _, rfl, by omega, HBR.out, HBT1.out wz (HEX.out wz hz)⟩ (by omega) (HSM2.out.ext hz) HLQ2.out
                    generalize leaF s each bs (l ++ dutK q b) = lf at *
                    generalize min bi lf = mn at *
                    obtain ⟨s0, s1, s2, s3, s4, s5⟩ := HC.out wr HXN.out
                    have hL1 : (1 : Int) ≤ (bs.length : Int) + 1 := by omega
                    have hL4 : bs.length + 1 - 1 = bs.length := by omega
                    go_upto_region 21 with (fail)
                    go_region_held3 (fun w' => w'.cell? ⟨D, 0, none⟩ = some v0 ∧ w'.cell? ⟨D, 1, none⟩ = some (.int .i64 q1) ∧ w'.cell? ⟨D, 2, none⟩ = some v2 ∧ w'.cell? ⟨D, 3, none⟩ = some v3 ∧ w'.cell? ⟨D, 4, none⟩ = some (.int .i64 q4) ∧ w'.cell? ⟨D, 5, none⟩ = some (.int .i64 q5))
                      (first | exact HC.out _ (HEX.out _ (by with_reducible repeat (first | exact Ext.refl _ | assumption | apply Ext.drewN | apply Ext.drew | apply Ext.alloc | (refine Ext.setCell ?_ (by simp <;> omega) _) | (refine Ext.trans ?_ (by assumption))))) | go_keep)
                      (first
                        | (go_at_call 20; (with_reducible refine (HREC.out _ (by with_reducible repeat (first | exact Ext.refl _ | assumption | apply Ext.drewN | apply Ext.drew | apply Ext.alloc | (refine Ext.setCell ?_ (by simp <;> omega) _) | (refine Ext.trans ?_ (by assumption))))).mono ?_); rintro e wa ⟨rfl, hxa⟩))
                    have HXF : Hid (Ext wr wa) := Lib.hid (by with_reducible repeat (first | exact Ext.refl _ | assumption | apply Ext.drewN | apply Ext.drew | apply Ext.alloc | (refine Ext.setCell ?_ (by simp <;> omega) _) | (refine Ext.trans ?_ (by assumption))))
                    clear hxa s0 s1 s2 s3 s4 s5
                    go_wp2_with (fail)
                    exact ⟨⟨i + 1, by simp, by omega, by rw [HMN.out]; first | done | rfl | simp [hmn], Lib.hid (HEX.out _ HXF.out)⟩, by simp [iof]; omega⟩
            · have HOF : Hid (okSet s each b i = false) := Lib.hid (by rw [HOS.out, decide_eq_false hqe]; rfl)
              rw [HOF.out] at HSI
              have hqe2 : ¬ (q.length : Int) = (each : Int) := by omega
              clear hqe
              go_loopw [11, 13, 14] (fun mv ov kv wq => kv = .int .i64 0 ∧ mv = .int .i64 (q.length : Nat) ∧ Hid (Ext wk wq)) (fun _ _ kv _ => 0)
              case atStart => exact ⟨rfl, rfl, HX7⟩
              case round =>
                obtain ⟨rfl, rfl, HX8⟩ := hrel
                go_wp2_with (fail)
                exact ⟨⟨i + 1, by simp, by omega, by rw [HSI.out]; first | done | rfl | simp, Lib.hid (HX.out.trans HX8.out)⟩, by simp [iof]; omega⟩
      · obtain rfl : i = 64 := by omega
        go_wp2_with (fail)
        go_ret
        exact ⟨by rw [HLF.out, ← HBI.out]; rfl, HX1.out.trans HX.out⟩
end Go.Proofs.Ytlekdhhgjhakgaa
