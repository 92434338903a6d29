/-
  Lemmas of this claim (JeAT). Nothing is asked.
-/
import Derived.Test.YteomcpplajeidaaGreatJeAR
import Derived.Test.YteomcpplajeidaaGreatJeAS
namespace Go.Proofs.YteomcpplajeidaaGreat
set_option linter.unusedVariables false
set_option linter.unusedSimpArgs false
set_option maxRecDepth 100000
open Go.RowKit
theorem mod45 (x : Int) (h : 0 ≤ x ∧ x ≤ 255) : ∃ m : Nat, m < 45 ∧ x.tmod 45 = m := by
  rw [Int.tmod_eq_emod_of_nonneg h.1]
  exact ⟨(x % 45).toNat, by omega, by omega⟩
theorem modNat (x : Int) (m : Nat) (h : 0 ≤ x ∧ x ≤ 255) (hm : 0 < m) : ∃ i : Nat, i < m ∧ x.tmod m = i := by
  rw [Int.tmod_eq_emod_of_nonneg h.1]
  have h1 := Int.emod_nonneg x (show (m : Int) ≠ 0 by omega)
  have h2 := Int.emod_lt_of_pos x (show (0 : Int) < m by omega)
  exact ⟨(x % m).toNat, by omega, by omega⟩
structure EIS (w0 w : World) (P G q : Nat) (r : TnR) (ob : Obj) : Prop where
  low : Ext w0 w
  hp : w.heap[P]? = some (.cells (tenC r) 39)
  tv : TV w r tpC
  hx : w.heap[w0.heap.size]? = some ob
  hg : ∃ t, w.heap[G]? = some (.cells t 57) ∧ (t.toList.take 5) = cellsEn (erE 7 1 1 (some ⟨q, 0, none⟩, 1, 1))
  hq : w.heap[q]? = some (.cells #[.string comfB, .int .i64 5] 80)
theorem EIS.ext {w0 w w' : World} {P G q : Nat} {r : TnR} {ob : Obj} (h : EIS w0 w P G q r ob) (x : Ext w w') : EIS w0 w' P G q r ob :=
  ⟨h.low.trans x, (x.block _ (Rg.lt_of_heap h.hp)).trans h.hp, h.tv.ext x, (x.block _ (Rg.lt_of_heap h.hx)).trans h.hx, (by
    obtain ⟨t, h1, h2⟩ := h.hg
    exact ⟨t, (x.block _ (Rg.lt_of_heap h1)).trans h1, h2⟩), (x.block _ (Rg.lt_of_heap h.hq)).trans h.hq⟩
theorem rank_er {w0 w : World} {P G q : Nat} {r : TnR} {ob : Obj} {B : Nat} {v : Value} {xs : List ER} (h : EIS w0 w P G q r ob) (hr : w.ownsRow B 57 5 v xs.length (xs.flatMap cellsEn)) (hn : xs.length ≤ 1000) (ho : ∀ x ∈ xs, ErOk (some ⟨q, 0, none⟩, 1, 1) x) (hs : SortsOk r tpC 1 xs) :
    Calls Tryz.prog 15 #[.agg (tenC r), .int .i64 1, v] w fun e w' => ∃ v', e = .returned (.tuple #[v', .int .i64 (errE tpC.ls 1 (ownE 1 xs))]) ∧ Ext w w' :=
  (Rank_any r tpC 1 v xs w h.tv (er_xr hr h.hq (by omega) ho) (by omega) hs).mono (by
    rintro e w' ⟨v', h1, h2, -⟩
    exact ⟨v', h1, h2⟩)
theorem winner_er {w0 w : World} {P G q : Nat} {r : TnR} {ob : Obj} {B : Nat} {v : Value} {xs : List ER} (h : EIS w0 w P G q r ob) (hr : w.ownsRow B 57 5 v xs.length (xs.flatMap cellsEn)) (hn : xs.length ≤ 1000) (ho : ∀ x ∈ xs, ErOk (some ⟨q, 0, none⟩, 1, 1) x) (he : errE tpC.ls 1 (ownE 1 xs) = 33) :
    Calls Tryz.prog 17 #[.agg (tenC r), .int .i64 1, v] w fun e w' => e = .returned (.tuple #[.int .i64 0, .int .i64 33]) ∧ Ext w w' :=
  (Winner_any r tpC 1 v xs w h.tv (er_xr hr h.hq (by omega) ho) (by omega) (sorts_err r xs he)).mono (by
    rintro e w' ⟨h1, h2⟩
    rw [he] at h1
    exact ⟨h1, h2⟩)
set_option maxHeartbeats 32000000 in
theorem errors_walk (n q0 q1 q2 : Int) (hn : 0 ≤ n ∧ n ≤ 255) (h0 : 0 ≤ q0 ∧ q0 ≤ 255) (h1 : 0 ≤ q1 ∧ q1 ≤ 255) (h2 : 0 ≤ q2 ∧ q2 ≤ 255) (w : World) :
    Calls Tryz.prog 10 #[.int .u8 n, .agg #[.int .u8 q0, .int .u8 q1, .int .u8 q2]] w fun e w' => e = .returned (.bool true) ∧ Ext w w' := by
  have HE0 := Lib.hid (Ext.alloc (Ext.refl w) (.cells #[.int .u8 q0, .int .u8 q1, .int .u8 q2] 73))
  have HX0 := Lib.hid (alloc_new w (.cells #[.int .u8 q0, .int .u8 q1, .int .u8 q2] 73))
  obtain ⟨m, hm, hmn⟩ := mod45 n hn
  have HH0 := Lib.hid h0; have HH1 := Lib.hid h1; have HH2 := Lib.hid h2; have HMN := Lib.hid hmn
  clear h0 h1 h2 hn hmn
  go_enter Tryz.func10, Tryz.ntmps10
  go_upto_region 2 with (go_at_call 11; (with_reducible refine (sanity_any _).mono ?_); rintro e w1 ⟨rfl, hx1⟩; have HX1 := Lib.hid (HE0.out.trans hx1); have HBX := Lib.hid ((hx1.block _ (Rg.lt_of_heap HX0.out)).trans HX0.out); clear hx1)
  go_upto_region 3 with (first
    | (go_at_call 27; (with_reducible refine (chairs_any _).mono ?_); rintro e w2 ⟨r, g, p1, p2, p3, rfl, hx2, htf, hgl, hg, hq1, hb1, hq2, hb2, hq3, hb3⟩
       obtain ⟨htv, hlow, hhigh⟩ := tv_of htf
       have HLO := Lib.hid hlow; have HHI := Lib.hid hhigh; have HTV := Lib.hid htv; have HQ1 := Lib.hid hb1
       have HX2 := Lib.hid hx2; have HG := Lib.hid hg
       clear hx2 htf hgl hg hq1 hb1 hq2 hb2 hq3 hb3 hlow hhigh htv
       obtain ⟨row, hrow⟩ : ∃ row, row = tenC r := ⟨_, rfl⟩
       rw [← hrow]
       have hrs : row.size = 20 := by rw [hrow]; rfl
       have hone : ∀ v ∈ row.toList, v.oneCell' = true := by rw [hrow]; exact ten_one r
       have HROW := Lib.hid hrow; clear hrow)
    | (refine wpList_store_row rfl 39 (.tmp 6) (.tmp 21) rfl w2.heap.size (by rfl) row (by rfl) _ 39 (block_new rfl) (by rw [hrs]; rfl) (by rw [hrs]; kernel_rfl) hone ?_))
  obtain ⟨P, hP⟩ : ∃ x, x = w2.heap.size := ⟨_, rfl⟩
  have hp3 : ((w2.alloc (.cells (tenC zeroT) 39)).setRow w2.heap.size row).heap[w2.heap.size]? = some (.cells row 39) := setRow_heap _ _ _ row _ _ (block_new rfl)
  have hx3 : Ext w2 ((w2.alloc (.cells (tenC zeroT) 39)).setRow w2.heap.size row) := below_setRow (Ext.alloc (Ext.refl _) _) (Nat.le_refl _) _
  generalize (w2.alloc (.cells (tenC zeroT) 39)).setRow w2.heap.size row = w3 at *
  obtain ⟨ob, hob⟩ : ∃ x : Obj, x = .cells #[.int .u8 q0, .int .u8 q1, .int .u8 q2] 73 := ⟨_, rfl⟩
  have HI3 : Hid (EIS w w3 P g p1 r ob) := by
    rw [HROW.out] at hp3
    have hx13 := HX2.out.trans hx3
    exact Lib.hid ⟨HX1.out.trans hx13, by rw [hP]; exact hp3, HTV.out.ext hx3, by rw [hob]; exact (hx13.block _ (Rg.lt_of_heap HBX.out)).trans HBX.out, ⟨_, (hx3.block _ (Rg.lt_of_heap HG.out)).trans HG.out, rfl⟩, (hx3.block _ (Rg.lt_of_heap HQ1.out)).trans HQ1.out⟩
  have HOB := Lib.hid hob
  rw [← hP]
  clear hp3 hx3 hP hob HG HX2 hone HX1 HBX HTV HQ1 HX0 HE0
  go_upto_region 5 with (fail)
  rw [HMN.out, show wrap64 (m : Int) = m by (unfold wrap64; omega)]
  have hm45 : (m : Int) < 45 := by omega
  have HX3 := Lib.hid (Ext.refl w3)
  go_upto_region 6 with (fail)
  go_loopw [9, 10] (fun xv iv wr => ∃ i : Nat, iv = .int .i64 i ∧ i ≤ m ∧ Hid (wr.ownsRow w3.heap.size 57 5 xv (erL (lst i) (some ⟨p1, 0, none⟩, 1, 1)).length ((erL (lst i) (some ⟨p1, 0, none⟩, 1, 1)).flatMap cellsEn)) ∧ Hid (Ext w3 wr)) (fun _ iv _ => m - (iof iv).toNat)
  case atStart => exact ⟨0, rfl, Nat.zero_le _, Lib.hid (World.ownsRow_nil _ _ _ _), HX3⟩
  case round =>
    obtain ⟨i, rfl, him, HR, HX⟩ := hrel
    by_cases hil : i < m
    · have HIr := Lib.hid (HI3.out.ext HX.out)
      obtain ⟨t, ht, ht5⟩ := HIr.out.hg
      obtain ⟨hcc, -, hgl⟩ := Rg.cells_of ht
      have hk : ∀ k, k < 5 → t[k]? = (cellsEn (erE 7 1 1 (some ⟨p1, 0, none⟩, 1, 1)))[k]? := fun k hk => by
        rw [← ht5, List.getElem?_take_of_lt hk, Array.getElem?_toList]
      have e0 : wr.cell? ⟨g, 0, none⟩ = some (.int .i64 7) := (hcc 0).trans (hk 0 (by decide))
      have e1 : wr.cell? ⟨g, 1, none⟩ = some (.int .i64 1) := (hcc 1).trans (hk 1 (by decide))
      have e2 : wr.cell? ⟨g, 2, none⟩ = some (.int .i64 1) := (hcc 2).trans (hk 2 (by decide))
      have e3 : wr.cell? ⟨g, 3, none⟩ = some (.int .i64 100) := (hcc 3).trans (hk 3 (by decide))
      have e4 : wr.cell? ⟨g, 4, none⟩ = some (.slice (some ⟨p1, 0, none⟩) 1 1) := (hcc 4).trans (hk 4 (by decide))
      clear hcc hk ht ht5
      go_upto_region 9 with (fail)
      have hxa : Ext wr (wr.alloc (.cells #[.int .i64 7, .int .i64 1, .int .i64 1, .int .i64 100, .slice (some ⟨p1, 0, none⟩) 1 1] 57)) := Ext.alloc (Ext.refl _) _
      have hb4 : (wr.alloc (.cells #[.int .i64 7, .int .i64 1, .int .i64 1, .int .i64 100, .slice (some ⟨p1, 0, none⟩) 1 1] 57)).heap[wr.heap.size]? = some (.cells #[.int .i64 7, .int .i64 1, .int .i64 1, .int .i64 100, .slice (some ⟨p1, 0, none⟩) 1 1] 57) := block_new rfl
      have HXA := Lib.hid (HX.out.trans hxa)
      have HR4 := Lib.hid (row_ext HR.out hxa)
      obtain ⟨py, hpy⟩ : ∃ x, x = wr.heap.size := ⟨_, rfl⟩
      have hpl : w3.heap.size ≤ py := by rw [hpy]; exact HX.out.size
      have HPR : Hid (∀ b, u9.ownBlock = some b → b ≠ py) := Lib.hid (fun b hb => by have := (HR.out.lt b hb).2; omega)
      rw [← hpy] at hb4 ⊢
      clear hpy hxa e0 e1 e2 e3 e4 hgl HIr HR
      generalize wr.alloc (.cells #[.int .i64 7, .int .i64 1, .int .i64 1, .int .i64 100, .slice (some ⟨p1, 0, none⟩) 1 1] 57) = w4 at *
      obtain ⟨d0, d1, d2, d3, d4, l4⟩ := cells_five hb4
      have f0 : w4.frozen? ⟨py, 0, none⟩ = false := put_frozen hb4
      have f2 : w4.frozen? ⟨py, 2, none⟩ = false := put_frozen hb4
      have hw1 : IntKind.i64.wrap (100 + (i : Int)) = 100 + i := by rw [IntKind.wrap_i64]; omega
      have hw2 : IntKind.i64.wrap (200 + (i : Int)) = 200 + i := by rw [IntKind.wrap_i64]; omega
      have hw3 : IntKind.i64.wrap ((i : Int) + 1) = (i : Int) + 1 := by rw [IntKind.wrap_i64]; omega
      go_upto_region 10 with (fail)
      have hk8 : KX py w4 ((w4.setCell ⟨py, 0, none⟩ (.int .i64 (100 + (i : Int)))).setCell ⟨py, 2, none⟩ (.int .i64 (200 + (i : Int)))) := ((KX.of_ext (Ext.refl w4)).set _).set _
      have hb8 : ((w4.setCell ⟨py, 0, none⟩ (.int .i64 (100 + (i : Int)))).setCell ⟨py, 2, none⟩ (.int .i64 (200 + (i : Int)))).heap[py]? = some (.cells #[.int .i64 (100 + (i : Int)), .int .i64 1, .int .i64 (200 + (i : Int)), .int .i64 100, .slice (some ⟨p1, 0, none⟩) 1 1] 57) := heap_put _ (heap_put _ hb4)
      have HX8 := Lib.hid (ext_grown HXA.out hk8 (fun b e => by injection e with e; omega))
      have HR8 := Lib.hid (row_move HR4.out (fun b hb hl => hk8.block b hl (fun e => HPR.out b hb (by injection e))))
      clear hk8 hb4 d0 d1 d2 d3 d4 l4 f0 f2 HXA HR4
      generalize (w4.setCell ⟨py, 0, none⟩ (.int .i64 (100 + (i : Int)))).setCell ⟨py, 2, none⟩ (.int .i64 (200 + (i : Int))) = w8 at *
      obtain ⟨d0, d1, d2, d3, d4, l4⟩ := cells_five hb8
      have hxb : Ext w8 (w8.alloc (.cells #[.int .i64 (100 + (i : Int)), .int .i64 1, .int .i64 (200 + (i : Int)), .int .i64 100, .slice (some ⟨p1, 0, none⟩) 1 1] 57)) := Ext.alloc (Ext.refl _) _
      have hat : (w8.alloc (.cells #[.int .i64 (100 + (i : Int)), .int .i64 1, .int .i64 (200 + (i : Int)), .int .i64 100, .slice (some ⟨p1, 0, none⟩) 1 1] 57)).heap[w8.heap.size]? = some (.cells #[.int .i64 (100 + (i : Int)), .int .i64 1, .int .i64 (200 + (i : Int)), .int .i64 100, .slice (some ⟨p1, 0, none⟩) 1 1] 57) := block_new rfl
      have HAT := Lib.hid hat
      have HRB := Lib.hid (row_ext HR8.out hxb); have HXB := Lib.hid (HX8.out.trans hxb)
      have HLN : Hid ((erL (lst i) (some ⟨p1, 0, none⟩, 1, 1)).length < 1000000) := Lib.hid (by rw [erL_len, lst_len]; omega)
      clear hat hxb hb8
      go_upto_region 7 with (at_builtin; refine append_gw (cs := cellsEn) (z := .agg #[.int .i64 0, .int .i64 0, .int .i64 0, .int .i64 0, .slice none 0 0]) one_en 41 57 56 Tryz.underlying41 (by kernel_rfl) (by rfl) (by decide) (by decide) rfl (.tmp 40) (.tmp 42) rfl w3.heap.size u9 (erL (lst i) (some ⟨p1, 0, none⟩, 1, 1)) (by rfl) HRB.out w8.heap.size (erE (100 + (i : Int)) 1 (200 + (i : Int)) (some ⟨p1, 0, none⟩, 1, 1)) (by rfl) HAT.out HLN.out HXB.out.size ?_; intro g7 cap7 w9 hr7 hg7 hat7; have HR7 := Lib.hid hr7; have HX7 := Lib.hid (ext_grown HXB.out hg7 (fun b e => (HRB.out.lt b e).1)); clear hr7 hg7 hat7)
      go_wp2_with (fail)
      exact ⟨⟨i + 1, by rfl, by omega, Lib.hid (by rw [lst_succ]; exact HR7.out), HX7⟩, by simp [iof]; omega⟩
    · obtain rfl : i = m := by omega
      obtain ⟨xs, hxs⟩ : ∃ xs, xs = erL (lst i) (some ⟨p1, 0, none⟩, 1, 1) := ⟨_, rfl⟩
      have hxl : xs.length = i := by rw [hxs, erL_len, lst_len]
      have hr := HR.out
      rw [← hxs, hxl] at hr
      obtain ⟨vb, vc, rfl⟩ := row_form hr
      have HR2 := Lib.hid hr
      have HXS := Lib.hid hxs; have HXL := Lib.hid hxl
      have HIr := Lib.hid (HI3.out.ext HX.out)
      obtain ⟨rowL, hrowL⟩ : ∃ l, l = (tenC r).toList := ⟨_, rfl⟩
      have hrl : rowL.length = 20 := by rw [hrowL]; rfl
      have hrt : tenC r = rowL.toArray := by rw [hrowL]
      have HOK : Hid (∀ x ∈ xs, ErOk (some ⟨p1, 0, none⟩, 1, 1) x) := Lib.hid (by rw [hxs]; exact lst_ok i hm _)
      obtain ⟨er, her⟩ : ∃ er, er = errE tpC.ls 1 (ownE 1 xs) := ⟨_, rfl⟩
      have HER : Hid (er = if 40 < i then 2 else 0) := Lib.hid (by
        rw [her, hxs, own_base]
        split
        · rename_i h; exact err_many _ (by rw [erL_len, lst_len]; exact h)
        · rename_i h; exact err_none _ _ i (List.Sublist.refl _) (by omega))
      have HRK : Hid (∀ wz, Ext wr wz → Calls Tryz.prog 15 #[.agg rowL.toArray, .int .i64 1, .slice vb i vc] wz fun e w' => ∃ v', e = .returned (.tuple #[v', .int .i64 er]) ∧ Ext wz w') := Lib.hid (fun wz hz => by
        rw [← hrt, her]
        refine rank_er (B := w3.heap.size) (HIr.out.ext hz) ?_ (by omega) HOK.out (er_sorts r HLO.out HHI.out xs (lst i) _ i hm (List.Sublist.refl _) (by rw [hxs]; exact own_base _ _))
        rw [hxl]
        exact row_ext HR2.out hz)
      have HRG : Hid (∀ wz, Ext wr wz → wz.rangeAt P 0 rowL) := Lib.hid (fun wz hz => range_of ((HIr.out.ext hz).hp) 0 rowL (fun j v hv => by rw [hrowL] at hv; simpa using hv))
      have HRR := Lib.hid (Ext.refl wr)
      clear hxs hxl hr HR her hil him HROW hrt
      have HRL := Lib.hid hrowL
      clear hrowL
      by_cases h40 : 40 < i
      · have he2 := HER.out
        rw [if_pos h40] at he2
        subst he2
        have h40i : (40 : Int) < (i : Int) := by omega
        have hlt2 : ¬ (i : Int) < 2 := by omega
        go_wp2_with (first
          | (refine wpList_load_mid rfl 39 (.tmp 6) rfl P 0 (by rfl) rowL _ (HRG.out _ HRR.out) Tryz.underlying39 rfl (by rw [hrl]; kernel_rfl) ?_)
          | (go_at_call 15; (with_reducible refine (HRK.out _ HRR.out).mono ?_); rintro e w5 ⟨v5, rfl, hx5⟩; have HX5 := Lib.hid hx5; clear hx5))
        go_ret
        exact ⟨rfl, HIr.out.low.trans HX5.out⟩
      · have he2 := HER.out
        rw [if_neg h40] at he2
        subst he2
        have h40i : ¬ (40 : Int) < (i : Int) := by omega
        by_cases hl2 : i < 2
        · have hlt2 : (i : Int) < 2 := by omega
          go_wp2_with (first
            | (refine wpList_load_mid rfl 39 (.tmp 6) rfl P 0 (by rfl) rowL _ (HRG.out _ HRR.out) Tryz.underlying39 rfl (by rw [hrl]; kernel_rfl) ?_)
            | (go_at_call 15; (with_reducible refine (HRK.out _ HRR.out).mono ?_); rintro e w5 ⟨v5, rfl, hx5⟩; have HX5 := Lib.hid hx5; clear hx5))
          go_ret
          exact ⟨rfl, HIr.out.low.trans HX5.out⟩
        · have hlt2 : ¬ (i : Int) < 2 := by omega
          have hi0 : ¬ i = 0 := by omega
          have hi0' : ¬ (i : Int) = 0 := by omega
          go_upto_region 19 with (first
            | (refine wpList_load_mid rfl 39 (.tmp 6) rfl P 0 (by rfl) rowL _ (HRG.out _ HRR.out) Tryz.underlying39 rfl (by rw [hrl]; kernel_rfl) ?_)
            | (go_at_call 15; (with_reducible refine (HRK.out _ HRR.out).mono ?_); rintro e w5 ⟨v5, rfl, hx5⟩; have HX5 := Lib.hid hx5; clear hx5))
          have HI5 := Lib.hid (HIr.out.ext HX5.out)
          have HR5 := Lib.hid (row_ext HR2.out HX5.out)
          obtain ⟨hcc, -, hpl⟩ := Rg.cells_of (HOB.out ▸ HI5.out.hx)
          have c0 : w5.cell? ⟨w.heap.size, 0, none⟩ = some (.int .u8 q0) := hcc 0
          have c1 : w5.cell? ⟨w.heap.size, 1, none⟩ = some (.int .u8 q1) := hcc 1
          clear hcc
          obtain ⟨a, hal, ha⟩ := modNat q0 i HH0.out (by omega)
          obtain ⟨b, hbl, hb⟩ := modNat q1 i HH1.out (by omega)
          have hw0 : IntKind.i64.wrap q0 = q0 := by rw [IntKind.wrap_i64]; have := HH0.out; omega
          have hw1 : IntKind.i64.wrap q1 = q1 := by rw [IntKind.wrap_i64]; have := HH1.out; omega
          have hwa : IntKind.i64.wrap (a : Int) = a := by rw [IntKind.wrap_i64]; omega
          have hwb : IntKind.i64.wrap (b : Int) = b := by rw [IntKind.wrap_i64]; omega
          go_quiet (fail)
          have hxq : Ext w5 (w5.drewN nq) := (by with_reducible repeat (first | exact Ext.refl _ | assumption | apply Ext.drewN | apply Ext.drew | apply Ext.alloc | (refine Ext.setCell ?_ (by simp <;> omega) _) | (refine Ext.trans ?_ (by assumption))))
          generalize w5.drewN nq = w6 at *
          have HI6 := Lib.hid (HI5.out.ext hxq)
          have HR6 := Lib.hid (row_ext HR5.out hxq)
          have HX36 := Lib.hid ((HX.out.trans HX5.out).trans hxq)
          clear HI5 HR5 hpl c0 c1 hw0 hw1 hwa hwb HRK HRG HER HRR HIr HR2 h40i hlt2 hi0 hi0'
          have HA := Lib.hid ha; have HB := Lib.hid hb
          clear ha hb
          by_cases hab : a = b
          · subst hab
            go_wp2_with (fail)
            go_ret
            exact ⟨rfl, HI3.out.low.trans HX36.out⟩
          · have habi : ((a : Int) == (b : Int)) = false := by rw [beq_eq_false_iff_ne]; omega
            have habn : ¬ (a : Int) = (b : Int) := by omega
            obtain ⟨hcc, -, hpl⟩ := Rg.cells_of (HOB.out ▸ HI6.out.hx)
            have c2 : w6.cell? ⟨w.heap.size, 2, none⟩ = some (.int .u8 q2) := hcc 2
            clear hcc
            have hr6 := HR6.out
            obtain ⟨G, cap, hvf, hGB, hGL⟩ := hr6.form (by omega)
            injection hvf with hvf1 _ hvf2
            subst hvf1
            obtain ⟨cur, hG⟩ := row_obj hr6 rfl
            have fG : ∀ o, w6.frozen? ⟨G, o, none⟩ = false := fun o => put_frozen hG
            have hrs6 := hr6
            rw [← HXL.out] at hrs6
            have hsr := SR.of_row (cs := cellsEn) (fun x => (one_en x).1) hrs6 (by have := HXL.out; omega)
            have hax : a < xs.length := by have := HXL.out; omega
            have hbx : b < xs.length := by have := HXL.out; omega
            have hga : xs[a] = erE (100 + (a : Int)) 1 (200 + (a : Int)) (some ⟨p1, 0, none⟩, 1, 1) := by
              have := HXS.out
              subst this
              rw [erL_get, lst_get]
            have hgb : xs[b] = erE (100 + (b : Int)) 1 (200 + (b : Int)) (some ⟨p1, 0, none⟩, 1, 1) := by
              have := HXS.out
              subst this
              rw [erL_get, lst_get]
            obtain ⟨G1, e1, -, hc⟩ := hsr.block a hax
            injection e1 with e1
            injection e1 with e1
            subst e1
            have a0 : w6.cell? ⟨G, a * 5, none⟩ = some (.int .i64 (100 + (a : Int))) := hc a hax 0 _ (by rw [hga]; rfl)
            have a1 : w6.cell? ⟨G, a * 5 + 1, none⟩ = some (.int .i64 1) := hc a hax 1 _ (by rw [hga]; rfl)
            have a2 : w6.cell? ⟨G, a * 5 + 2, none⟩ = some (.int .i64 (200 + (a : Int))) := hc a hax 2 _ (by rw [hga]; rfl)
            have b0 : w6.cell? ⟨G, b * 5, none⟩ = some (.int .i64 (100 + (b : Int))) := hc b hbx 0 _ (by rw [hgb]; rfl)
            have b2 : w6.cell? ⟨G, b * 5 + 2, none⟩ = some (.int .i64 (200 + (b : Int))) := hc b hbx 2 _ (by rw [hgb]; rfl)
            have f0 := fG (a * 5)
            have f1 := fG (a * 5 + 1)
            have f2 := fG (a * 5 + 2)
            have hai : (a : Int) < (i : Int) := by omega
            have hbi : (b : Int) < (i : Int) := by omega
            have lG := Rg.lt_of_heap hG
            have HGB := Lib.hid hGB
            have HGA := Lib.hid hga; have HGBe := Lib.hid hgb
            have HAX := Lib.hid hax; have HBX := Lib.hid hbx
            have HNE := Lib.hid hab
            have H40 : Hid (i ≤ 40 ∧ i < 45) := Lib.hid ⟨by omega, hm⟩
            have hnx : G ≠ w.heap.size := by have := HI3.out.low.size; have := Rg.lt_of_heap HI3.out.hx; omega
            clear hc hsr hrs6 fG hG hGB hGL hvf2 hga hgb hr6 hl2 h40 hal hbl hab hm hm45
            have hq3 : q2.tmod 3 = 0 ∨ q2.tmod 3 = 1 ∨ q2.tmod 3 = 2 := by
              rw [Int.tmod_eq_emod_of_nonneg HH2.out.1]
              omega
            rcases hq3 with hq3 | hq3 | hq3
            · go_upto_region 31 with (fail)
              have HXS7 : Hid (Ext w3 (w6.setCell ⟨G, a * 5, none⟩ (.int .i64 (100 + (b : Int))))) := Lib.hid (Below.setCell HX36.out HGB.out _)
              have HI7 := Lib.hid (HI3.out.ext HXS7.out)
              obtain ⟨ys, hys⟩ : ∃ ys, ys = xs.set a (erE (100 + (b : Int)) 1 (200 + (a : Int)) (some ⟨p1, 0, none⟩, 1, 1)) := ⟨_, rfl⟩
              have hyl : ys.length = i := by rw [hys, List.length_set]; exact HXL.out
              have HRY : Hid (((w6.setCell ⟨G, a * 5, none⟩ (.int .i64 (100 + (b : Int))))).ownsRow w3.heap.size 57 5 (.slice (some ⟨G, 0, none⟩) i vc) ys.length (ys.flatMap cellsEn)) := Lib.hid (by
                rw [hyl, hys]
                have h := row_put (o := a * 5 + 0) (u := .int .i64 (100 + (b : Int))) HR6.out; rw [flat_put (fun x => (one_en x).1) 0 (by decide) _ (erE (100 + (b : Int)) 1 (200 + (a : Int)) (some ⟨p1, 0, none⟩, 1, 1)) xs a HAX.out (by rw [HGA.out]; rfl)] at h; exact h)
              have HOY : Hid (∀ x ∈ ys, ErOk (some ⟨p1, 0, none⟩, 1, 1) x) := Lib.hid (by
                intro x hx
                rw [hys] at hx
                rcases List.mem_or_eq_of_mem_set hx with h | rfl
                · exact HOK.out x h
                · exact ⟨_, _, _, by have := HAX.out; have := HBX.out; have := HXL.out; omega, rfl⟩)
              have hlen : ys.length ≤ 1000 := by rw [hyl]; omega
              have HTW : Hid (errE tpC.ls 1 (ownE 1 ys) = 33) := Lib.hid (by
                have hoy : ownE 1 ys = ys := by
                  unfold ownE
                  rw [List.filter_eq_self]
                  intro x hx
                  rw [hys] at hx
                  rcases List.mem_or_eq_of_mem_set hx with h | rfl
                  · rw [HXS.out] at h
                    obtain ⟨y, -, rfl⟩ := List.mem_map.1 h
                    rfl
                  · rfl
                rw [hoy]
                refine err_twice ys (by omega) a b (by rw [hyl]; exact HXL.out ▸ HAX.out) (by rw [hyl]; exact HXL.out ▸ HBX.out) HNE.out ?_
                have e1 : ys[a]'(by rw [hyl]; exact HXL.out ▸ HAX.out) = erE (100 + (b : Int)) 1 (200 + (a : Int)) (some ⟨p1, 0, none⟩, 1, 1) := by simp [hys]
                have e2 : ys[b]'(by rw [hyl]; exact HXL.out ▸ HBX.out) = erE (100 + (b : Int)) 1 (200 + (b : Int)) (some ⟨p1, 0, none⟩, 1, 1) := by
                  have := HGBe.out
                  simp only [hys]
                  rw [List.getElem_set_ne HNE.out]
                  exact this
                rw [e1, e2]
                exact .inl rfl)
              have HC15 : Hid (∀ wz, Ext (w6.setCell ⟨G, a * 5, none⟩ (.int .i64 (100 + (b : Int)))) wz → Calls Tryz.prog 15 #[.agg rowL.toArray, .int .i64 1, .slice (some ⟨G, 0, none⟩) i vc] wz fun e w' => ∃ v', e = .returned (.tuple #[v', .int .i64 33]) ∧ Ext wz w') := Lib.hid (fun wz hz => by
                have h := rank_er (B := w3.heap.size) (HI7.out.ext hz) (row_ext HRY.out hz) hlen HOY.out (sorts_err r ys HTW.out)
                rw [HTW.out] at h
                rw [HRL.out]
                exact h)
              have HC17 : Hid (∀ wz, Ext (w6.setCell ⟨G, a * 5, none⟩ (.int .i64 (100 + (b : Int)))) wz → Calls Tryz.prog 17 #[.agg rowL.toArray, .int .i64 1, .slice (some ⟨G, 0, none⟩) i vc] wz fun e w' => e = .returned (.tuple #[.int .i64 0, .int .i64 33]) ∧ Ext wz w') := Lib.hid (fun wz hz => by
                rw [HRL.out]
                exact winner_er (B := w3.heap.size) (HI7.out.ext hz) (row_ext HRY.out hz) hlen HOY.out HTW.out)
              have HRG7 : Hid (∀ wz, Ext (w6.setCell ⟨G, a * 5, none⟩ (.int .i64 (100 + (b : Int)))) wz → wz.rangeAt P 0 rowL) := Lib.hid (fun wz hz => range_of ((HI7.out.ext hz).hp) 0 rowL (fun j v hv => by rw [HRL.out] at hv; simpa using hv))
              clear hys hyl hlen a0 a1 a2 b0 b2 f0 f1 f2 HRY HOY
              generalize (w6.setCell ⟨G, a * 5, none⟩ (.int .i64 (100 + (b : Int)))) = w7 at *
              have HRR := Lib.hid (Ext.refl w7)
              go_wp2_with (first
                | (refine wpList_load_mid rfl 39 (.tmp 6) rfl P 0 (by rfl) rowL _ (HRG7.out _ HRR.out) Tryz.underlying39 rfl (by rw [hrl]; kernel_rfl) ?_)
                | (refine wpList_load_mid rfl 39 (.tmp 6) rfl P 0 (by rfl) rowL _ (HRG7.out _ HX8.out) Tryz.underlying39 rfl (by rw [hrl]; kernel_rfl) ?_)
                | (go_at_call 15; (with_reducible refine (HC15.out _ HRR.out).mono ?_); rintro e w8 ⟨v8, rfl, hx8⟩; have HX8 := Lib.hid hx8; clear hx8)
                | (go_at_call 17; (with_reducible refine (HC17.out _ HX8.out).mono ?_); rintro e w9 ⟨rfl, hx9⟩; have HX9 := Lib.hid (HX8.out.trans hx9); clear hx9))
              go_ret
              exact ⟨rfl, (HI3.out.low.trans HXS7.out).trans HX9.out⟩
            · go_upto_region 31 with (fail)
              have HXS7 : Hid (Ext w3 (w6.setCell ⟨G, a * 5 + 2, none⟩ (.int .i64 (200 + (b : Int))))) := Lib.hid (Below.setCell HX36.out HGB.out _)
              have HI7 := Lib.hid (HI3.out.ext HXS7.out)
              obtain ⟨ys, hys⟩ : ∃ ys, ys = xs.set a (erE (100 + (a : Int)) 1 (200 + (b : Int)) (some ⟨p1, 0, none⟩, 1, 1)) := ⟨_, rfl⟩
              have hyl : ys.length = i := by rw [hys, List.length_set]; exact HXL.out
              have HRY : Hid (((w6.setCell ⟨G, a * 5 + 2, none⟩ (.int .i64 (200 + (b : Int))))).ownsRow w3.heap.size 57 5 (.slice (some ⟨G, 0, none⟩) i vc) ys.length (ys.flatMap cellsEn)) := Lib.hid (by
                rw [hyl, hys]
                have h := row_put (o := a * 5 + 2) (u := .int .i64 (200 + (b : Int))) HR6.out; rw [flat_put (fun x => (one_en x).1) 2 (by decide) _ (erE (100 + (a : Int)) 1 (200 + (b : Int)) (some ⟨p1, 0, none⟩, 1, 1)) xs a HAX.out (by rw [HGA.out]; rfl)] at h; exact h)
              have HOY : Hid (∀ x ∈ ys, ErOk (some ⟨p1, 0, none⟩, 1, 1) x) := Lib.hid (by
                intro x hx
                rw [hys] at hx
                rcases List.mem_or_eq_of_mem_set hx with h | rfl
                · exact HOK.out x h
                · exact ⟨_, _, _, by have := HAX.out; have := HBX.out; have := HXL.out; omega, rfl⟩)
              have hlen : ys.length ≤ 1000 := by rw [hyl]; omega
              have HTW : Hid (errE tpC.ls 1 (ownE 1 ys) = 33) := Lib.hid (by
                have hoy : ownE 1 ys = ys := by
                  unfold ownE
                  rw [List.filter_eq_self]
                  intro x hx
                  rw [hys] at hx
                  rcases List.mem_or_eq_of_mem_set hx with h | rfl
                  · rw [HXS.out] at h
                    obtain ⟨y, -, rfl⟩ := List.mem_map.1 h
                    rfl
                  · rfl
                rw [hoy]
                refine err_twice ys (by omega) a b (by rw [hyl]; exact HXL.out ▸ HAX.out) (by rw [hyl]; exact HXL.out ▸ HBX.out) HNE.out ?_
                have e1 : ys[a]'(by rw [hyl]; exact HXL.out ▸ HAX.out) = erE (100 + (a : Int)) 1 (200 + (b : Int)) (some ⟨p1, 0, none⟩, 1, 1) := by simp [hys]
                have e2 : ys[b]'(by rw [hyl]; exact HXL.out ▸ HBX.out) = erE (100 + (b : Int)) 1 (200 + (b : Int)) (some ⟨p1, 0, none⟩, 1, 1) := by
                  have := HGBe.out
                  simp only [hys]
                  rw [List.getElem_set_ne HNE.out]
                  exact this
                rw [e1, e2]
                exact .inr rfl)
              have HC15 : Hid (∀ wz, Ext (w6.setCell ⟨G, a * 5 + 2, none⟩ (.int .i64 (200 + (b : Int)))) wz → Calls Tryz.prog 15 #[.agg rowL.toArray, .int .i64 1, .slice (some ⟨G, 0, none⟩) i vc] wz fun e w' => ∃ v', e = .returned (.tuple #[v', .int .i64 33]) ∧ Ext wz w') := Lib.hid (fun wz hz => by
                have h := rank_er (B := w3.heap.size) (HI7.out.ext hz) (row_ext HRY.out hz) hlen HOY.out (sorts_err r ys HTW.out)
                rw [HTW.out] at h
                rw [HRL.out]
                exact h)
              have HC17 : Hid (∀ wz, Ext (w6.setCell ⟨G, a * 5 + 2, none⟩ (.int .i64 (200 + (b : Int)))) wz → Calls Tryz.prog 17 #[.agg rowL.toArray, .int .i64 1, .slice (some ⟨G, 0, none⟩) i vc] wz fun e w' => e = .returned (.tuple #[.int .i64 0, .int .i64 33]) ∧ Ext wz w') := Lib.hid (fun wz hz => by
                rw [HRL.out]
                exact winner_er (B := w3.heap.size) (HI7.out.ext hz) (row_ext HRY.out hz) hlen HOY.out HTW.out)
              have HRG7 : Hid (∀ wz, Ext (w6.setCell ⟨G, a * 5 + 2, none⟩ (.int .i64 (200 + (b : Int)))) wz → wz.rangeAt P 0 rowL) := Lib.hid (fun wz hz => range_of ((HI7.out.ext hz).hp) 0 rowL (fun j v hv => by rw [HRL.out] at hv; simpa using hv))
              clear hys hyl hlen a0 a1 a2 b0 b2 f0 f1 f2 HRY HOY
              generalize (w6.setCell ⟨G, a * 5 + 2, none⟩ (.int .i64 (200 + (b : Int)))) = w7 at *
              have HRR := Lib.hid (Ext.refl w7)
              go_wp2_with (first
                | (refine wpList_load_mid rfl 39 (.tmp 6) rfl P 0 (by rfl) rowL _ (HRG7.out _ HRR.out) Tryz.underlying39 rfl (by rw [hrl]; kernel_rfl) ?_)
                | (refine wpList_load_mid rfl 39 (.tmp 6) rfl P 0 (by rfl) rowL _ (HRG7.out _ HX8.out) Tryz.underlying39 rfl (by rw [hrl]; kernel_rfl) ?_)
                | (go_at_call 15; (with_reducible refine (HC15.out _ HRR.out).mono ?_); rintro e w8 ⟨v8, rfl, hx8⟩; have HX8 := Lib.hid hx8; clear hx8)
                | (go_at_call 17; (with_reducible refine (HC17.out _ HX8.out).mono ?_); rintro e w9 ⟨rfl, hx9⟩; have HX9 := Lib.hid (HX8.out.trans hx9); clear hx9))
              go_ret
              exact ⟨rfl, (HI3.out.low.trans HXS7.out).trans HX9.out⟩
            · go_upto_region 29 with (fail)
              have HXS7 : Hid (Ext w3 ((w6.setCell ⟨G, a * 5, none⟩ (.int .i64 (100 + (b : Int)))).setCell ⟨G, a * 5 + 1, none⟩ (.int .i64 9))) := Lib.hid (Below.setCell (Below.setCell HX36.out HGB.out _) HGB.out _)
              have HI7 := Lib.hid (HI3.out.ext HXS7.out)
              obtain ⟨ys, hys⟩ : ∃ ys, ys = xs.set a (erE (100 + (b : Int)) 9 (200 + (a : Int)) (some ⟨p1, 0, none⟩, 1, 1)) := ⟨_, rfl⟩
              have hyl : ys.length = i := by rw [hys, List.length_set]; exact HXL.out
              have HRY : Hid ((((w6.setCell ⟨G, a * 5, none⟩ (.int .i64 (100 + (b : Int)))).setCell ⟨G, a * 5 + 1, none⟩ (.int .i64 9))).ownsRow w3.heap.size 57 5 (.slice (some ⟨G, 0, none⟩) i vc) ys.length (ys.flatMap cellsEn)) := Lib.hid (by
                rw [hyl, hys]
                have h := row_put (o := a * 5 + 0) (u := .int .i64 (100 + (b : Int))) HR6.out; rw [flat_put (fun x => (one_en x).1) 0 (by decide) _ (erE (100 + (b : Int)) 1 (200 + (a : Int)) (some ⟨p1, 0, none⟩, 1, 1)) xs a HAX.out (by rw [HGA.out]; rfl)] at h; have h2 := row_put (o := a * 5 + 1) (u := .int .i64 9) h; rw [flat_put (fun x => (one_en x).1) 1 (by decide) _ (erE (100 + (b : Int)) 9 (200 + (a : Int)) (some ⟨p1, 0, none⟩, 1, 1)) (xs.set a _) a (by rw [List.length_set]; exact HAX.out) (by rw [List.getElem_set_self]; rfl), List.set_set] at h2; exact h2)
              have HOY : Hid (∀ x ∈ ys, ErOk (some ⟨p1, 0, none⟩, 1, 1) x) := Lib.hid (by
                intro x hx
                rw [hys] at hx
                rcases List.mem_or_eq_of_mem_set hx with h | rfl
                · exact HOK.out x h
                · exact ⟨_, _, _, by have := HAX.out; have := HBX.out; have := HXL.out; omega, rfl⟩)
              have hlen : ys.length ≤ 1000 := by rw [hyl]; omega
              obtain ⟨l, hl1, hl2⟩ := own_gone i (some ⟨p1, 0, none⟩, 1, 1) a (100 + (b : Int)) (200 + (a : Int))
              rw [← HXS.out, ← hys] at hl2
              have HC15 : Hid (∀ wz, Ext ((w6.setCell ⟨G, a * 5, none⟩ (.int .i64 (100 + (b : Int)))).setCell ⟨G, a * 5 + 1, none⟩ (.int .i64 9)) wz → Calls Tryz.prog 15 #[.agg rowL.toArray, .int .i64 1, .slice (some ⟨G, 0, none⟩) i vc] wz fun e w' => ∃ v', e = .returned (.tuple #[v', .int .i64 0]) ∧ Ext wz w') := Lib.hid (fun wz hz => by
                have h := rank_er (B := w3.heap.size) (HI7.out.ext hz) (row_ext HRY.out hz) hlen HOY.out (er_sorts r HLO.out HHI.out ys l _ i H40.out.2 hl1 hl2)
                rw [hl2, err_none l _ i hl1 H40.out.1] at h
                rw [HRL.out]
                exact h)
              have HRG7 : Hid (∀ wz, Ext ((w6.setCell ⟨G, a * 5, none⟩ (.int .i64 (100 + (b : Int)))).setCell ⟨G, a * 5 + 1, none⟩ (.int .i64 9)) wz → wz.rangeAt P 0 rowL) := Lib.hid (fun wz hz => range_of ((HI7.out.ext hz).hp) 0 rowL (fun j v hv => by rw [HRL.out] at hv; simpa using hv))
              clear hys hyl hlen a0 a1 a2 b0 b2 f0 f1 f2 HRY HOY hl1 hl2
              generalize (w6.setCell ⟨G, a * 5, none⟩ (.int .i64 (100 + (b : Int)))).setCell ⟨G, a * 5 + 1, none⟩ (.int .i64 9) = w7 at *
              have HRR := Lib.hid (Ext.refl w7)
              go_wp2_with (first
                | (refine wpList_load_mid rfl 39 (.tmp 6) rfl P 0 (by rfl) rowL _ (HRG7.out _ HRR.out) Tryz.underlying39 rfl (by rw [hrl]; kernel_rfl) ?_)
                | (go_at_call 15; (with_reducible refine (HC15.out _ HRR.out).mono ?_); rintro e w8 ⟨v8, rfl, hx8⟩; have HX8 := Lib.hid hx8; clear hx8))
              go_ret
              exact ⟨rfl, (HI3.out.low.trans HXS7.out).trans HX8.out⟩
end Go.Proofs.YteomcpplajeidaaGreat
