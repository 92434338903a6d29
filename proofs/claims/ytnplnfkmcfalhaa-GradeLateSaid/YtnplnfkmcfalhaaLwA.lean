/-
  GradeChanges, walked. Condition: the argument reads as bytes.
-/
import Derived.Test.YtnplnfkmcfalhaaGdK
namespace Go.Proofs.Ytnplnfkmcfalhaa
set_option linter.unusedVariables false
set_option linter.unusedSimpArgs false
open Go.RowKit

/-- The slice v holds n bytes. -/
def UA (w : World) (v : Value) (f : Nat → Int) (n : Nat) : Prop :=
  ∃ A cap, v = .slice A n cap ∧ n ≤ cap ∧ cap ≤ 9223372036854775807 ∧ (∀ i, 0 ≤ f i ∧ f i ≤ 255) ∧ (n = 0 ∨ ∃ b off, A = some ⟨b, off, none⟩ ∧ ∀ i, i < n → w.cell? ⟨b, off + i, none⟩ = some (.int .u8 (f i)))
/-- The last number given, and those that were replaced. -/
def lst (f : Nat → Int) : Nat → Int
  | 0 => -1
  | i + 1 => f i % 11
def wnt (f : Nat → Int) : Nat → List Int
  | 0 => []
  | i + 1 => wnt f i ++ if 0 ≤ lst f i ∧ lst f i ≠ f i % 11 then [lst f i] else []
theorem wnt_le (f : Nat → Int) : ∀ i, (wnt f i).length ≤ i
  | 0 => Nat.le_refl _
  | i + 1 => by
    have := wnt_le f i
    unfold wnt
    rw [List.length_append]
    split <;> simp <;> omega
theorem lst_bd (f : Nat → Int) (h : ∀ i, 0 ≤ f i ∧ f i ≤ 255) (i : Nat) : -1 ≤ lst f i ∧ lst f i ≤ 10 ∧ (0 < i → 0 ≤ lst f i) := by
  cases i with
  | zero => exact ⟨by simp [lst], by simp [lst], by simp⟩
  | succ i =>
    have := h i
    show -1 ≤ f i % 11 ∧ f i % 11 ≤ 10 ∧ (0 < i + 1 → 0 ≤ f i % 11)
    omega
theorem wnt_ok (f : Nat → Int) (h : ∀ i, 0 ≤ f i ∧ f i ≤ 255) : ∀ i, ∀ z ∈ wnt f i, OkI z
  | 0, z, hz => by cases hz
  | i + 1, z, hz => by
    unfold wnt at hz
    rcases List.mem_append.1 hz with hz | hz
    · exact wnt_ok f h i z hz
    · have := lst_bd f h i
      split at hz
      · rw [List.mem_singleton] at hz
        subst hz
        exact okI_small (by omega)
      · cases hz
/-- The book after i grades. -/
structure ChI (f : Nat → Int) (i : Nat) (b : Bk) : Prop where
  ex : ExL b
  fin : b.fin 5 = false
  nine : b.gr (plq 9) = none
  eight : ∀ o, b.gr (plq 8) = o → (i = 0 ∧ o = none) ∨ (0 < i ∧ ∃ t, o = some (mkG 8 1 (lst f i) t))
  old : b.old.map (·.n) = wnt f i
  ass : ∀ g ∈ b.old, g.ass = 8
theorem ChI.start (f : Nat → Int) : ChI f 0 exB := ⟨exL, rfl, rfl, fun o h => .inl ⟨rfl, h.symm⟩, rfl, by intro g hg; cases hg⟩
theorem ChI.step {f : Nat → Int} {i : Nat} {b : Bk} (h : ChI f i b) (hf : ∀ i, 0 ≤ f i ∧ f i ≤ 255) (t : Int) : ChI f (i + 1) (b.put (mkG 8 1 (f i % 11) t)) := by
  refine ⟨h.ex.put _, h.fin, (put_ne _ _ (plq_ne (a := 9) (a' := 8) (by decide))).trans h.nine, fun o ho => .inr ⟨by omega, t, ?_⟩, ?_, fun g hg => ?_⟩
  · rw [← ho]; exact put_same b (mkG 8 1 (f i % 11) t)
  · cases hc : b.gr (plq 8) with
    | none =>
      rw [put_old0 b (mkG 8 1 (f i % 11) t) hc, h.old]
      rcases h.eight _ hc with ⟨rfl, -⟩ | ⟨-, t', h2⟩
      · rfl
      · cases h2
    | some o =>
      rw [put_old b (mkG 8 1 (f i % 11) t) hc, List.map_append, h.old]
      rcases h.eight _ hc with ⟨-, h2⟩ | ⟨hi, t', h2⟩
      · cases h2
      · injection h2 with h2
        subst h2
        have hb := (lst_bd f hf i).2.2 hi
        show wnt f i ++ List.map _ (if lst f i = f i % 11 then [] else [mkG 8 1 (lst f i) t']) = wnt f i ++ if 0 ≤ lst f i ∧ lst f i ≠ f i % 11 then [lst f i] else []
        by_cases e : lst f i = f i % 11
        · rw [if_pos e, if_neg (fun h => h.2 e)]; rfl
        · rw [if_neg e, if_pos ⟨hb, e⟩]; rfl
  · cases hc : b.gr (plq 8) with
    | none => rw [put_old0 b (mkG 8 1 (f i % 11) t) hc] at hg; exact h.ass g hg
    | some o =>
      rw [put_old b (mkG 8 1 (f i % 11) t) hc] at hg
      rcases List.mem_append.1 hg with hg | hg
      · exact h.ass g hg
      · rcases h.eight _ hc with ⟨-, h2⟩ | ⟨hi, t', h2⟩
        · cases h2
        · injection h2 with h2
          subst h2
          split at hg
          · cases hg
          · rw [List.mem_singleton] at hg
            subst hg
            rfl

set_option maxRecDepth 100000 in
set_option maxHeartbeats 4000000 in
theorem changes_walk (v : Value) (f : Nat → Int) (n : Nat) (w : World) (h : UA w v f n) :
    Calls Try.prog 5 #[v] w fun e w' => e = .returned (.bool true) ∧ Ext w w' := by
  obtain ⟨A, cap, rfl, hnc, hcap, hf, hc⟩ := h
  have HF := Lib.hid hf; have HC := Lib.hid hc
  clear hf hc
  go_enter Try.func5, Try.ntmps5
  go_upto_region 6 with (first
    | (go_at_call 6; (with_reducible refine (sanity_any _).mono ?_); rintro e w1 ⟨rfl, hx1⟩)
    | (go_at_call 18; (with_reducible refine (example_x _).mono ?_); rintro e w2 ⟨p, rfl, hb⟩))
  have HX1 := Lib.hid hx1
  have HX2 : Hid (w1.heap.size ≤ w2.heap.size) := Lib.hid hb.ex.size
  go_loopw [5, 6, 7] (fun o l k wr => ∃ (i : Nat) (b : Bk), k = .int .i64 i ∧ i ≤ 30 ∧ i ≤ n ∧ BX w1 wr p b ∧ Hid (ChI f i b) ∧ l = .int .i64 (lst f i) ∧ wr.ownsRow w2.heap.size 3 1 o (wnt f i).length ((wnt f i).flatMap celI) ∧ w2.heap.size ≤ wr.heap.size) (fun _ _ k _ => 30 - (iof k).toNat)
  case atStart => exact ⟨0, exB, rfl, by omega, by omega, hb, Lib.hid (ChI.start f), rfl, World.ownsRow_nil _ _ _ _, Nat.le_refl _⟩
  case round =>
    obtain ⟨i, b, rfl, hi, hin, hbx, HI, rfl, hrow, hxr⟩ := hrel
    have HBX := Lib.hid hbx; clear hbx
    by_cases hn : i < n
    · by_cases h30 : i < 30
      · obtain ⟨bb, off, rfl, hcell⟩ := HC.out.resolve_left (by omega)
        have ci := hcell i hn
        have hfi := HF.out i
        have hlb := lst_bd f HF.out i
        have hxw : Ext w wr := HX1.out.trans HBX.out.ex
        have cq := (hxw.cells.1 _ _ (World.block_lt_of_cell? w _ ci)).trans ci
        have HST := Lib.hid (HI.out.step HF.out (i : Int))
        have hwl := wnt_le f i
        have HWN : Hid (wnt f (i + 1) = wnt f i ++ if 0 ≤ lst f i ∧ lst f i ≠ f i % 11 then [lst f i] else []) := Lib.hid rfl
        have HLS : Hid (lst f (i + 1) = f i % 11) := Lib.hid rfl
        clear ci hcell
        generalize f i = fi at *
        have hol : b.old.length < 100000 := by
          have := congrArg List.length HI.out.old
          rw [List.length_map] at this
          omega
        have hG := fun (wz : World) (hb : BX w1 wz p b) => give_k hb (HI.out.ex.give (a := 8) (n := fi % 11) (t := (i : Int)) (.inl rfl) (by omega) HI.out.fin) (mk_ok (by decide) (by decide) (by omega) (by omega)) hol
        obtain ⟨b', hb'⟩ : ∃ b', b' = b.put (mkG 8 1 (fi % 11) (i : Int)) := ⟨_, rfl⟩
        rw [← hb'] at HST hG
        clear hb' hol
        have hM := fun wz => mark_any 8 1 (fi % 11) wz
        simp only [mkG, Gd.v, quaB] at hG hM
        have HG := Lib.hid hG; have HM := Lib.hid hM
        clear hG hM
        go_upto_region 9 with (fail)
        clear cq
        go_upto_region 11 with (go_at_call 19; (with_reducible refine (HM.out _).mono ?_); rintro e w3 ⟨rfl, hx3⟩)
        have hxa := hx3.trans (Ext.alloc (Ext.refl w3) (.cells #[.int .i64 8, .int .i64 5, .int .i64 1, .string ⟨#[113, 117, 97, 108, 105, 116, 121]⟩, .int .i64 (fi % 11), .int .i64 (i : Int)] 55))
        have HB3 := Lib.hid (HBX.out.ext hxa)
        have hrow3 := row_ext hrow hxa
        have hx23 : w2.heap.size ≤ (w3.alloc (.cells #[.int .i64 8, .int .i64 5, .int .i64 1, .string ⟨#[113, 117, 97, 108, 105, 116, 121]⟩, .int .i64 (fi % 11), .int .i64 (i : Int)] 55)).heap.size := Nat.le_trans hxr hxa.size
        clear hx3 hxa hrow hxr HBX
        go_upto_region 13 with (go_at_call 11; go_loud (with_reducible refine (HG.out _ HB3.out).mono ?_); rintro e w4 ⟨rfl, hb4, hk4, hs4⟩)
        have hrow4 := hk4.row hrow3 (by decide) (by decide)
        have h24 := Nat.le_trans hx23 hs4
        have HB4 := Lib.hid hb4
        clear hrow3 hx23 hb4 hk4 hs4 HB3
        by_cases h0 : 0 ≤ lst f i
        · by_cases hne : lst f i = fi % 11
          · have HWE : Hid (wnt f (i + 1) = wnt f i) := Lib.hid (by rw [HWN.out, if_neg (fun h => h.2 hne), List.append_nil])
            have HNE := Lib.hid hne
            go_wp2_with (fail)
            exact ⟨⟨i + 1, b', by simp, by omega, by omega, HB4.out, HST, by rw [HLS.out], by rw [HWE.out]; exact hrow4, h24⟩, by simp; omega⟩
          · have HWE : Hid (wnt f (i + 1) = wnt f i ++ [lst f i]) := Lib.hid (by rw [HWN.out, if_pos ⟨h0, hne⟩])
            generalize lst f i = ls at *
            generalize wnt f i = wl at *
            have hrow5 := row_ext hrow4 (Ext.alloc (Ext.refl w4) (.cells #[.int .i64 ls] 3))
            have HB5 := Lib.hid (HB4.out.ext (Ext.alloc (Ext.refl w4) (.cells #[.int .i64 ls] 3)))
            go_wp2_with (at_builtin; go_loud (refine append_g (cs := celI) (z := .int .i64 0) 22 3 8 Try.underlying22 (by kernel_rfl) (by rfl) (by decide) (by decide) rfl _ _ rfl w2.heap.size _ wl (by rfl) hrow5 w4.heap.size ls (celI_len _) (by rfl) (heap_alloc_new _ _) (by omega) (by simp; omega) ?_; intro g cap' w5 hr5 hg5 hat))
            exact ⟨⟨i + 1, b', by simp, by omega, by omega, HB5.out.turn hrow5 (by decide) (by decide) HX2.out hg5, HST, by rw [HLS.out], by rw [HWE.out]; simpa using hr5, Nat.le_trans h24 (Nat.le_trans (by simp) hg5.size)⟩, by simp; omega⟩
        · have HWE : Hid (wnt f (i + 1) = wnt f i) := Lib.hid (by rw [HWN.out, if_neg (fun h => h0 h.1), List.append_nil])
          go_wp2_with (fail)
          exact ⟨⟨i + 1, b', by simp, by omega, by omega, HB4.out, HST, by rw [HLS.out], by rw [HWE.out]; exact hrow4, h24⟩, by simp; omega⟩
      · skip
        have hol : b.old.length = (wnt f i).length := by
          have := congrArg List.length HI.out.old
          rwa [List.length_map] at this
        have hwl := wnt_le f i
        have hlb := lst_bd f HF.out i
        have hird := ird_row hrow (wnt_ok f HF.out i) (by omega)
        obtain ⟨wb, wc, rfl⟩ := (SR.of_row (cs := celI) (fun x => (celI_len x).1) hrow (by omega)).form
        have hwn : ∀ j (hj : j < b.old.length), (wnt f i)[j]? = some (b.old[j]).n := fun j hj => by
          rw [← HI.out.old, List.getElem?_map, List.getElem?_eq_getElem hj]
          rfl
        have HWN := Lib.hid hwn
        have HOL := Lib.hid hol
        clear hrow hwn
        go_upto_region 17 with (go_at_call 15; (with_reducible refine (changed_k HBX.out (by omega)).mono ?_); rintro e w4 ⟨r, rfl, hr, hb4, hx4⟩; obtain ⟨rb, rc, rfl⟩ := hr.form)
        have HR4 := Lib.hid hr; have HB4 := Lib.hid hb4; have HW4 := Lib.hid (hird.ext hx4)
        clear hr hb4 hird hx4 HBX
        obtain ⟨m, hm⟩ : ∃ m, m = b.old.length := ⟨_, rfl⟩
        have hm2 : (wnt f i).length = m := by omega
        rw [hm2] at HW4
        rw [hm2]
        try rw [← hm]
        have hml : m ≤ 30 := by omega
        have HM := Lib.hid hm
        rw [← hm] at HR4
        clear hm hm2 hol
        go_upto_region 20 with (fail)
        go_loopw [62] (fun k wq => ∃ j : Nat, k = .int .i64 j ∧ j ≤ m ∧ Ext w4 wq) (fun k _ => m - (iof k).toNat)
        case atStart => exact ⟨0, rfl, by omega, Ext.refl _⟩
        case round =>
          obtain ⟨j, rfl, hj, hxq⟩ := hrel
          by_cases hjm : j < m
          · have hjo : j < b.old.length := by have := HM.out; omega
            obtain ⟨b0, rfl, hc⟩ := row_at (HR4.out.ext hxq) j hjo
            have hN := HWN.out j hjo
            have hA := HI.out.ass b.old[j] (List.getElem_mem _)
            have c0 := hc 0 _ rfl
            have c1 := hc 1 _ rfl
            have c2 := hc 2 _ rfl
            have c3 := hc 3 _ rfl
            have c4 := hc 4 _ rfl
            have c5 := hc 5 _ rfl
            have hjw : j < (wnt f i).length := by have := HM.out; have := HOL.out; omega
            obtain ⟨A', c', e1, -, -, hcell⟩ := HW4.out.ext hxq
            injection e1 with e1 e2 e3
            subst e1 e3
            obtain ⟨qb, qo, rfl, hcw⟩ := hcell.resolve_left (by intro e; rw [e] at hjw; simp at hjw)
            have cw := hcw j hjw
            rw [List.getElem?_eq_getElem hjw] at hN
            injection hN with hN
            rw [hN] at cw
            clear hc hcell hcw e2 hN hjw
            generalize b.old[j] = g at *
            clear hjo
            obtain ⟨ga, gb, gl, gn, gN, gt⟩ := g
            simp only [Nat.add_zero] at c0 c1 c2 c3 c4 c5 cw hA
            subst hA
            go_upto_region 22 with (fail)
            have hxa : Ext wr (wr.alloc (.cells #[.int .i64 8, .int .i64 gb, .int .i64 gl, .string gn, .int .i64 gN, .int .i64 gt] 55)) := Ext.alloc (Ext.refl _) _
            have hnew := heap_alloc_new wr (.cells #[.int .i64 8, .int .i64 gb, .int .i64 gl, .string gn, .int .i64 gN, .int .i64 gt] 55)
            have cw2 := (hxa.cells.1 _ _ (World.block_lt_of_cell? wr _ cw)).trans cw
            have hxz := hxq.trans hxa
            obtain ⟨qv, hqv⟩ : ∃ qv, qv = wr.heap.size := ⟨_, rfl⟩
            rw [← hqv] at hnew ⊢
            clear c0 c1 c2 c3 c4 c5 cw hxa hqv hxq
            generalize wr.alloc (.cells #[.int .i64 8, .int .i64 gb, .int .i64 gl, .string gn, .int .i64 gN, .int .i64 gt] 55) = wz at *
            have d0 := cell_of_row wz qv 0 _ _ _ hnew
            have d4 := cell_of_row wz qv 4 _ _ _ hnew
            clear hnew
            go_quiet (fail)
            go_wp2_with (fail)
            exact ⟨⟨j + 1, by simp, by omega, Ext.drewN hxz _⟩, by simp; omega⟩
          · obtain rfl : j = m := by omega
            have HB5 := Lib.hid (HB4.out.ext hxq)
            have i5 : Hid (OkI 5) := Lib.hid (okI_small (by decide))
            have i1 : Hid (OkI 1) := Lib.hid (okI_small (by decide))
            have HQ : Hid (OkS ⟨#[113, 117, 97, 108, 105, 116, 121]⟩) := Lib.hid quaB_ok
            clear hxq
            by_cases hi0 : i = 0
            · have hls : lst f i = -1 := by rw [hi0]; rfl
              have HFE : Hid (finE b 5 = 24) := Lib.hid (finE_24 HI.out.ex.has HI.out.fin (HI.out.ex.few.2 (.inr HI.out.nine)))
              rw [hls] at hlb ⊢
              clear hls
              go_wp2_with (go_at_call 12; go_loud (with_reducible refine (final_nk HB5.out HFE.out (by decide) i5.out).mono ?_); rintro e w6 ⟨rfl, hb6, -, -⟩)
              go_ret
              exact ⟨rfl, HX1.out.trans hb6.ex⟩
            · have hl0 : 0 ≤ lst f i := hlb.2.2 (by omega)
              have E2 := Lib.hid (HI.out.ex.put (mkG 9 1 10 0))
              have hg8 : ∃ t, (b.put (mkG 9 1 10 0)).gr (plq 8) = some (mkG 8 1 (lst f i) t) := by
                rcases HI.out.eight _ rfl with ⟨h, -⟩ | ⟨-, t, h⟩
                · exact absurd h hi0
                · exact ⟨t, (put_ne b (mkG 9 1 10 0) (plq_ne (a := 8) (a' := 9) (by decide))).trans h⟩
              obtain ⟨t8, hg8⟩ := hg8
              have hg9 : (b.put (mkG 9 1 10 0)).gr (plq 9) = some (mkG 9 1 10 0) := put_same b (mkG 9 1 10 0)
              have HF0 : Hid (finE (b.put (mkG 9 1 10 0)) 5 = 0) := Lib.hid (finE_0 E2.out.has HI.out.fin (fun h => by
                rcases E2.out.few.1 h with h | h
                · rw [hg8] at h; cases h
                · rw [hg9] at h; cases h))
              have HVN : Hid (∀ n ok, ValR (b.put (mkG 9 1 10 0)) 5 1 ⟨#[113, 117, 97, 108, 105, 116, 121]⟩ n ok → ok = false ∧ n = 0) := Lib.hid fun n ok hv => by
                unfold ValR at hv
                rw [if_neg (fun h => by have h1 := h.1; rw [show (b.put (mkG 9 1 10 0)).fin 5 = false from HI.out.fin] at h1; cases h1)] at hv
                exact hv
              have HVY : Hid (∀ n ok, ValR ((b.put (mkG 9 1 10 0)).fine 5) 5 1 ⟨#[113, 117, 97, 108, 105, 116, 121]⟩ n ok → ok = true ∧ n = lst f i) := Lib.hid fun n ok hv => by
                obtain ⟨h1, h2⟩ := (E2.out.fine 5).val (fine_same _ 5) hv
                refine ⟨h1, ?_⟩
                have a8 : nOf ((b.put (mkG 9 1 10 0)).fine 5) 5 1 quaB 8 = lst f i := by
                  unfold nOf
                  rw [show ((b.put (mkG 9 1 10 0)).fine 5).gr ⟨5, 1, quaB, 8⟩ = some (mkG 8 1 (lst f i) t8) from hg8]
                  rfl
                have a9 : nOf ((b.put (mkG 9 1 10 0)).fine 5) 5 1 quaB 9 = 10 := by
                  unfold nOf
                  rw [show ((b.put (mkG 9 1 10 0)).fine 5).gr ⟨5, 1, quaB, 9⟩ = some (mkG 9 1 10 0) from hg9]
                  rfl
                rw [h2, a8, a9]
                omega
              have HGV := Lib.hid (HI.out.ex.give (a := 9) (n := 10) (t := 0) (.inr rfl) (by decide) HI.out.fin)
              have HNF : Hid ((b.put (mkG 9 1 10 0)).fin 5 = true → hasA (b.put (mkG 9 1 10 0)) 5) := Lib.hid fun _ => E2.out.has
              have HNG : Hid (((b.put (mkG 9 1 10 0)).fine 5).fin 5 = true → hasA ((b.put (mkG 9 1 10 0)).fine 5) 5) := Lib.hid fun _ => (E2.out.fine 5).has
              have hol2 : b.old.length < 100000 := by have := HM.out; omega
              clear hg8 hg9
              generalize lst f i = ls at *
              go_wp2_with (fail)
              (with_reducible refine (mark_any 9 1 10 _).mono ?_)
              rintro e w6 ⟨rfl, hx6⟩
              have HB6 := Lib.hid (HB5.out.ext hx6); clear hx6
              go_wp2_with (fail)
              (with_reducible refine (give_k HB6.out HGV.out (mk_ok (by decide) (by decide) (by decide) (by decide)) hol2).mono ?_)
              rintro e w7 ⟨rfl, hb7, -, -⟩
              have HB7 := Lib.hid hb7; clear hb7
              go_wp2_with (fail)
              (with_reducible refine (value_k 5 1 ⟨#[113, 117, 97, 108, 105, 116, 121]⟩ HB7.out i5.out i1.out HQ.out HNF.out).mono ?_)
              rintro e w8 ⟨n1, ok1, rfl, hv, -, hb8, -⟩
              obtain ⟨rfl, rfl⟩ := HVN.out n1 ok1 hv
              have HB8 := Lib.hid hb8; clear hb8 hv
              go_wp2_with (fail)
              (with_reducible refine (final_k HB8.out HF0.out i5.out).mono ?_)
              rintro e w9 ⟨rfl, hb9, -, -⟩
              have HB9 := Lib.hid hb9; clear hb9
              go_wp2_with (fail)
              (with_reducible refine (value_k 5 1 ⟨#[113, 117, 97, 108, 105, 116, 121]⟩ HB9.out i5.out i1.out HQ.out HNG.out).mono ?_)
              rintro e w10 ⟨n2, ok2, rfl, hv, -, hb10, -⟩
              obtain ⟨rfl, rfl⟩ := HVY.out n2 ok2 hv
              clear hv
              go_wp2_with (fail)
              go_ret
              exact ⟨rfl, HX1.out.trans hb10.ex⟩
    · skip
      have hol : b.old.length = (wnt f i).length := by
        have := congrArg List.length HI.out.old
        rwa [List.length_map] at this
      have hwl := wnt_le f i
      have hlb := lst_bd f HF.out i
      have hird := ird_row hrow (wnt_ok f HF.out i) (by omega)
      obtain ⟨wb, wc, rfl⟩ := (SR.of_row (cs := celI) (fun x => (celI_len x).1) hrow (by omega)).form
      have hwn : ∀ j (hj : j < b.old.length), (wnt f i)[j]? = some (b.old[j]).n := fun j hj => by
        rw [← HI.out.old, List.getElem?_map, List.getElem?_eq_getElem hj]
        rfl
      have HWN := Lib.hid hwn
      have HOL := Lib.hid hol
      clear hrow hwn
      go_upto_region 17 with (go_at_call 15; (with_reducible refine (changed_k HBX.out (by omega)).mono ?_); rintro e w4 ⟨r, rfl, hr, hb4, hx4⟩; obtain ⟨rb, rc, rfl⟩ := hr.form)
      have HR4 := Lib.hid hr; have HB4 := Lib.hid hb4; have HW4 := Lib.hid (hird.ext hx4)
      clear hr hb4 hird hx4 HBX
      obtain ⟨m, hm⟩ : ∃ m, m = b.old.length := ⟨_, rfl⟩
      have hm2 : (wnt f i).length = m := by omega
      rw [hm2] at HW4
      rw [hm2]
      try rw [← hm]
      have hml : m ≤ 30 := by omega
      have HM := Lib.hid hm
      rw [← hm] at HR4
      clear hm hm2 hol
      go_upto_region 20 with (fail)
      go_loopw [62] (fun k wq => ∃ j : Nat, k = .int .i64 j ∧ j ≤ m ∧ Ext w4 wq) (fun k _ => m - (iof k).toNat)
      case atStart => exact ⟨0, rfl, by omega, Ext.refl _⟩
      case round =>
        obtain ⟨j, rfl, hj, hxq⟩ := hrel
        by_cases hjm : j < m
        · have hjo : j < b.old.length := by have := HM.out; omega
          obtain ⟨b0, rfl, hc⟩ := row_at (HR4.out.ext hxq) j hjo
          have hN := HWN.out j hjo
          have hA := HI.out.ass b.old[j] (List.getElem_mem _)
          have c0 := hc 0 _ rfl
          have c1 := hc 1 _ rfl
          have c2 := hc 2 _ rfl
          have c3 := hc 3 _ rfl
          have c4 := hc 4 _ rfl
          have c5 := hc 5 _ rfl
          have hjw : j < (wnt f i).length := by have := HM.out; have := HOL.out; omega
          obtain ⟨A', c', e1, -, -, hcell⟩ := HW4.out.ext hxq
          injection e1 with e1 e2 e3
          subst e1 e3
          obtain ⟨qb, qo, rfl, hcw⟩ := hcell.resolve_left (by intro e; rw [e] at hjw; simp at hjw)
          have cw := hcw j hjw
          rw [List.getElem?_eq_getElem hjw] at hN
          injection hN with hN
          rw [hN] at cw
          clear hc hcell hcw e2 hN hjw
          generalize b.old[j] = g at *
          clear hjo
          obtain ⟨ga, gb, gl, gn, gN, gt⟩ := g
          simp only [Nat.add_zero] at c0 c1 c2 c3 c4 c5 cw hA
          subst hA
          go_upto_region 22 with (fail)
          have hxa : Ext wr (wr.alloc (.cells #[.int .i64 8, .int .i64 gb, .int .i64 gl, .string gn, .int .i64 gN, .int .i64 gt] 55)) := Ext.alloc (Ext.refl _) _
          have hnew := heap_alloc_new wr (.cells #[.int .i64 8, .int .i64 gb, .int .i64 gl, .string gn, .int .i64 gN, .int .i64 gt] 55)
          have cw2 := (hxa.cells.1 _ _ (World.block_lt_of_cell? wr _ cw)).trans cw
          have hxz := hxq.trans hxa
          obtain ⟨qv, hqv⟩ : ∃ qv, qv = wr.heap.size := ⟨_, rfl⟩
          rw [← hqv] at hnew ⊢
          clear c0 c1 c2 c3 c4 c5 cw hxa hqv hxq
          generalize wr.alloc (.cells #[.int .i64 8, .int .i64 gb, .int .i64 gl, .string gn, .int .i64 gN, .int .i64 gt] 55) = wz at *
          have d0 := cell_of_row wz qv 0 _ _ _ hnew
          have d4 := cell_of_row wz qv 4 _ _ _ hnew
          clear hnew
          go_quiet (fail)
          go_wp2_with (fail)
          exact ⟨⟨j + 1, by simp, by omega, Ext.drewN hxz _⟩, by simp; omega⟩
        · obtain rfl : j = m := by omega
          have HB5 := Lib.hid (HB4.out.ext hxq)
          have i5 : Hid (OkI 5) := Lib.hid (okI_small (by decide))
          have i1 : Hid (OkI 1) := Lib.hid (okI_small (by decide))
          have HQ : Hid (OkS ⟨#[113, 117, 97, 108, 105, 116, 121]⟩) := Lib.hid quaB_ok
          clear hxq
          by_cases hi0 : i = 0
          · have hls : lst f i = -1 := by rw [hi0]; rfl
            have HFE : Hid (finE b 5 = 24) := Lib.hid (finE_24 HI.out.ex.has HI.out.fin (HI.out.ex.few.2 (.inr HI.out.nine)))
            rw [hls] at hlb ⊢
            clear hls
            go_wp2_with (go_at_call 12; go_loud (with_reducible refine (final_nk HB5.out HFE.out (by decide) i5.out).mono ?_); rintro e w6 ⟨rfl, hb6, -, -⟩)
            go_ret
            exact ⟨rfl, HX1.out.trans hb6.ex⟩
          · have hl0 : 0 ≤ lst f i := hlb.2.2 (by omega)
            have E2 := Lib.hid (HI.out.ex.put (mkG 9 1 10 0))
            have hg8 : ∃ t, (b.put (mkG 9 1 10 0)).gr (plq 8) = some (mkG 8 1 (lst f i) t) := by
              rcases HI.out.eight _ rfl with ⟨h, -⟩ | ⟨-, t, h⟩
              · exact absurd h hi0
              · exact ⟨t, (put_ne b (mkG 9 1 10 0) (plq_ne (a := 8) (a' := 9) (by decide))).trans h⟩
            obtain ⟨t8, hg8⟩ := hg8
            have hg9 : (b.put (mkG 9 1 10 0)).gr (plq 9) = some (mkG 9 1 10 0) := put_same b (mkG 9 1 10 0)
            have HF0 : Hid (finE (b.put (mkG 9 1 10 0)) 5 = 0) := Lib.hid (finE_0 E2.out.has HI.out.fin (fun h => by
              rcases E2.out.few.1 h with h | h
              · rw [hg8] at h; cases h
              · rw [hg9] at h; cases h))
            have HVN : Hid (∀ n ok, ValR (b.put (mkG 9 1 10 0)) 5 1 ⟨#[113, 117, 97, 108, 105, 116, 121]⟩ n ok → ok = false ∧ n = 0) := Lib.hid fun n ok hv => by
              unfold ValR at hv
              rw [if_neg (fun h => by have h1 := h.1; rw [show (b.put (mkG 9 1 10 0)).fin 5 = false from HI.out.fin] at h1; cases h1)] at hv
              exact hv
            have HVY : Hid (∀ n ok, ValR ((b.put (mkG 9 1 10 0)).fine 5) 5 1 ⟨#[113, 117, 97, 108, 105, 116, 121]⟩ n ok → ok = true ∧ n = lst f i) := Lib.hid fun n ok hv => by
              obtain ⟨h1, h2⟩ := (E2.out.fine 5).val (fine_same _ 5) hv
              refine ⟨h1, ?_⟩
              have a8 : nOf ((b.put (mkG 9 1 10 0)).fine 5) 5 1 quaB 8 = lst f i := by
                unfold nOf
                rw [show ((b.put (mkG 9 1 10 0)).fine 5).gr ⟨5, 1, quaB, 8⟩ = some (mkG 8 1 (lst f i) t8) from hg8]
                rfl
              have a9 : nOf ((b.put (mkG 9 1 10 0)).fine 5) 5 1 quaB 9 = 10 := by
                unfold nOf
                rw [show ((b.put (mkG 9 1 10 0)).fine 5).gr ⟨5, 1, quaB, 9⟩ = some (mkG 9 1 10 0) from hg9]
                rfl
              rw [h2, a8, a9]
              omega
            have HGV := Lib.hid (HI.out.ex.give (a := 9) (n := 10) (t := 0) (.inr rfl) (by decide) HI.out.fin)
            have HNF : Hid ((b.put (mkG 9 1 10 0)).fin 5 = true → hasA (b.put (mkG 9 1 10 0)) 5) := Lib.hid fun _ => E2.out.has
            have HNG : Hid (((b.put (mkG 9 1 10 0)).fine 5).fin 5 = true → hasA ((b.put (mkG 9 1 10 0)).fine 5) 5) := Lib.hid fun _ => (E2.out.fine 5).has
            have hol2 : b.old.length < 100000 := by have := HM.out; omega
            clear hg8 hg9
            generalize lst f i = ls at *
            go_wp2_with (fail)
            (with_reducible refine (mark_any 9 1 10 _).mono ?_)
            rintro e w6 ⟨rfl, hx6⟩
            have HB6 := Lib.hid (HB5.out.ext hx6); clear hx6
            go_wp2_with (fail)
            (with_reducible refine (give_k HB6.out HGV.out (mk_ok (by decide) (by decide) (by decide) (by decide)) hol2).mono ?_)
            rintro e w7 ⟨rfl, hb7, -, -⟩
            have HB7 := Lib.hid hb7; clear hb7
            go_wp2_with (fail)
            (with_reducible refine (value_k 5 1 ⟨#[113, 117, 97, 108, 105, 116, 121]⟩ HB7.out i5.out i1.out HQ.out HNF.out).mono ?_)
            rintro e w8 ⟨n1, ok1, rfl, hv, -, hb8, -⟩
            obtain ⟨rfl, rfl⟩ := HVN.out n1 ok1 hv
            have HB8 := Lib.hid hb8; clear hb8 hv
            go_wp2_with (fail)
            (with_reducible refine (final_k HB8.out HF0.out i5.out).mono ?_)
            rintro e w9 ⟨rfl, hb9, -, -⟩
            have HB9 := Lib.hid hb9; clear hb9
            go_wp2_with (fail)
            (with_reducible refine (value_k 5 1 ⟨#[113, 117, 97, 108, 105, 116, 121]⟩ HB9.out i5.out i1.out HQ.out HNG.out).mono ?_)
            rintro e w10 ⟨n2, ok2, rfl, hv, -, hb10, -⟩
            obtain ⟨rfl, rfl⟩ := HVY.out n2 ok2 hv
            clear hv
            go_wp2_with (fail)
            go_ret
            exact ⟨rfl, HX1.out.trans hb10.ex⟩
end Go.Proofs.Ytnplnfkmcfalhaa
