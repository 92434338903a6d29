/-
  Lemmas of this claim (JeS). Nothing is asked.
-/
import Derived.Test.YteomcpplajeidaaGreatJeR
namespace Go.Proofs.YteomcpplajeidaaGreat
set_option linter.unusedVariables false
set_option linter.unusedSimpArgs false
set_option maxRecDepth 100000
open Go.RowKit
def runP (p : Int → Bool) (s : ByteArray) : Nat → Nat → Nat
  | 0, n => n
  | d + 1, n => if p (byZ s n) then runP p s d (n + 1) else n
theorem runP_le (p : Int → Bool) (s : ByteArray) : ∀ d n, n ≤ runP p s d n ∧ runP p s d n ≤ n + d
  | 0, n => by unfold runP; omega
  | d + 1, n => by
    unfold runP
    have := runP_le p s d (n + 1)
    split <;> omega
theorem runP_go {p : Int → Bool} {s : ByteArray} {n ed : Nat} (h : n < ed) (hp : p (byZ s n) = true) : runP p s (ed - (n + 1)) (n + 1) = runP p s (ed - n) n := by
  obtain ⟨d, hd⟩ : ∃ d, ed - n = d + 1 := ⟨ed - n - 1, by omega⟩
  rw [hd, show ed - (n + 1) = d by omega]
  exact (if_pos hp).symm
theorem runP_no {p : Int → Bool} {s : ByteArray} {n ed : Nat} (hp : p (byZ s n) = false) : runP p s (ed - n) n = n := by
  cases h : ed - n with
  | zero => rfl
  | succ d => exact if_neg (by rw [hp]; decide)
theorem runP_end {p : Int → Bool} {s : ByteArray} {ed : Nat} : runP p s (ed - ed) ed = ed := by rw [Nat.sub_self]; rfl
def nsp (c : Int) : Bool := !decide (c = 32)
def splF (s : ByteArray) (ed : Nat) : Nat → Nat → List (ByteArray × Int)
  | 0, _ => []
  | d + 1, k => if k < ed then (if k < runP nsp s (ed - k) k then [(s.extract k (runP nsp s (ed - k) k), (k : Int))] else []) ++ splF s ed d (runP nsp s (ed - k) k + 1) else []
theorem splF_len (s : ByteArray) (ed : Nat) : ∀ d k, (splF s ed d k).length ≤ ed - k
  | 0, k => Nat.zero_le _
  | d + 1, k => by
    unfold splF
    split
    · have h := splF_len s ed d (runP nsp s (ed - k) k + 1)
      have h2 := runP_le nsp s (ed - k) k
      split <;> simp <;> omega
    · simp
theorem one_tok (x : ByteArray × Int) : (tokC x).length = 2 ∧ ∀ c ∈ tokC x, c.oneCell' = true := ⟨rfl, by intro c hc; simp [tokC] at hc; rcases hc with rfl | rfl <;> rfl⟩
abbrev eofT (ed : Nat) : ByteArray × Int := ((⟨#[]⟩ : ByteArray), (ed : Int))
def splL (s : ByteArray) (fr ed : Nat) : List (ByteArray × Int) := splF s ed (ed + 1 - fr) fr ++ [eofT ed]
set_option maxHeartbeats 8000000 in
theorem split_any (s : ByteArray) (fr ed : Nat) (hs : s.size ≤ 900000) (hft : fr ≤ ed) (hto : ed ≤ s.size) (w : World) : Calls Tryz.prog 139 #[.string s, .int .i64 fr, .int .i64 ed] w fun e w' => ∃ g cap, e = .returned (.slice (some ⟨g, 0, none⟩) (splL s fr ed).length cap) ∧ Ext w w' ∧
    w'.ownsRow w.heap.size 232 2 (.slice (some ⟨g, 0, none⟩) (splL s fr ed).length cap) (splL s fr ed).length ((splL s fr ed).flatMap tokC) := by
  have HL := Lib.hid (splF_len s ed (ed + 1 - fr) fr)
  unfold splL
  obtain ⟨L, hL⟩ : ∃ L, splF s ed (ed + 1 - fr) fr = L := ⟨_, rfl⟩
  rw [hL] at HL ⊢
  have HE := Lib.hid hL
  clear hL
  go_enter Tryz.func139, Tryz.ntmps139
  go_upto_region 3 with (fail)
  go_loopw [7, 8] (fun ov kv wr => ∃ (out : List (ByteArray × Int)) (k d : Nat), kv = .int .i64 k ∧ k ≤ ed + 1 ∧ Hid (ed < k + d) ∧ Hid (out ++ splF s ed d k = L) ∧ Hid (out.length ≤ k - fr ∧ fr ≤ k) ∧ Hid (Ext w wr) ∧ Hid (wr.ownsRow w.heap.size 232 2 ov out.length (out.flatMap tokC))) (fun _ kv _ => ed + 1 - (iof kv).toNat)
  case atStart => exact ⟨[], fr, ed + 1 - fr, rfl, by omega, Lib.hid (by omega), Lib.hid (by rw [HE.out]; rfl), Lib.hid (by simp), Lib.hid (Ext.refl _), Lib.hid (World.ownsRow_nil w _ _ _)⟩
  case round =>
    rename World => wo
    obtain ⟨out, k, d, rfl, hk, HD, HO, HB, HX, HR⟩ := hrel
    by_cases hkt : k < ed
    · have hki : (k : Int) < (ed : Int) := by omega
      obtain ⟨d', rfl⟩ : ∃ d', d = d' + 1 := ⟨d - 1, by have := HD.out; omega⟩
      have HN : Hid (splF s ed (d' + 1) k = (if k < runP nsp s (ed - k) k then [(s.extract k (runP nsp s (ed - k) k), (k : Int))] else []) ++ splF s ed d' (runP nsp s (ed - k) k + 1)) := Lib.hid (if_pos hkt)
      have HRL := Lib.hid (runP_le nsp s (ed - k) k)
      obtain ⟨m, hm⟩ : ∃ m, runP nsp s (ed - k) k = m := ⟨_, rfl⟩
      rw [hm] at HN HRL
      have HM := Lib.hid hm
      clear hm
      go_upto_region 5 with (fail)
      go_loopw [9] (fun nv wr => ∃ n : Nat, nv = .int .i64 n ∧ k ≤ n ∧ n ≤ ed ∧ Hid (runP nsp s (ed - n) n = m) ∧ wr = wo) (fun nv _ => ed - (iof nv).toNat)
      case atStart => exact ⟨k, rfl, Nat.le_refl _, by omega, HM, rfl⟩
      case round =>
        obtain ⟨n, rfl, hkn, hnt, HQ, rfl⟩ := hrel
        by_cases hnl : n < ed
        · by_cases hby : ((s[n].toNat : Nat) : Int) = 32
          · have HE2 : Hid (n = m) := Lib.hid (by rw [← HQ.out]; exact (runP_no (by unfold nsp; rw [byZ_at (by omega), hby]; rfl)).symm)
            by_cases hnk : k < n
            · have hnki : (k : Int) < (n : Int) := by omega
              have HS : Hid (splF s ed (d' + 1) k = (s.extract k n, (k : Int)) :: splF s ed d' (n + 1)) := Lib.hid (by rw [HN.out, ← HE2.out, if_pos hnk]; rfl)
              obtain ⟨W8, hW8⟩ : ∃ W8 : World, W8 = wr.alloc (.cells #[.string (s.extract k n), .int .i64 k] 232) := ⟨_, rfl⟩
              have hxa : Ext wr W8 := by rw [hW8]; exact Ext.alloc (Ext.refl _) _
              have hat : W8.heap[wr.heap.size]? = some (.cells #[.string (s.extract k n), .int .i64 k] 232) := by rw [hW8]; exact block_new rfl
              have HXA := Lib.hid hxa; have HAT := Lib.hid hat; have HW := Lib.hid hW8
              have HRX := Lib.hid (row_ext HR.out hxa)
              have HXB := Lib.hid (HX.out.trans hxa)
              have hlen : out.length < 1000000 := by have := HB.out; omega
              clear hxa hat hW8
              go_wp2_with (at_builtin; rw [← HW.out]; refine append_one (cs := tokC) (z := .agg #[.string ⟨#[]⟩, .int .i64 0]) one_tok 162 232 24 Tryz.underlying162 (by kernel_rfl) (by rfl) (by decide) (by decide) rfl (.tmp 29) (.tmp 36) rfl w.heap.size _ out (by rfl) HRX.out wr.heap.size (s.extract k n, (k : Int)) (by rfl) HAT.out hlen (Nat.le_trans HX.out.size HXA.out.size) ?_; intro g7 cap7 w7 hr7 hb7; have HX7 : Hid (Ext w w7) := Lib.hid (RowKit.Below.trans HXB.out hb7); have HR7 := Lib.hid hr7; clear hr7 hb7)
              exact ⟨⟨out ++ [(s.extract k n, (k : Int))], n + 1, d', by simp, by omega, Lib.hid (by have := HD.out; omega), Lib.hid (by rw [← HO.out, HS.out]; simp), Lib.hid (by have := HB.out; simp; omega), HX7, HR7⟩, by simp [iof]; omega⟩
            · obtain rfl : k = n := by omega
              have HS : Hid (splF s ed (d' + 1) k = splF s ed d' (k + 1)) := Lib.hid (by rw [HN.out, ← HE2.out, if_neg (Nat.lt_irrefl k)]; rfl)
              go_wp2_with (fail)
              all_goals exact ⟨⟨out, k + 1, d', by simp, by omega, Lib.hid (by have := HD.out; omega), Lib.hid (by rw [← HO.out, HS.out]), Lib.hid (by have := HB.out; omega), HX, HR⟩, by simp [iof]; omega⟩
          · have HE2 : Hid (runP nsp s (ed - (n + 1)) (n + 1) = m) := Lib.hid (by rw [← HQ.out]; exact runP_go hnl (by unfold nsp; rw [byZ_at (by omega), decide_eq_false hby]; rfl))
            go_wp2_with (fail)
            exact ⟨⟨n + 1, by simp, by omega, by omega, HE2, trivial⟩, by simp [iof]; omega⟩
        · have hnli : ¬ (n : Int) < (ed : Int) := by omega
          have HE2 : Hid (n = m) := Lib.hid (by rw [← HQ.out, show ed = n by omega]; exact runP_end.symm)
          by_cases hnk : k < n
          · have hnki : (k : Int) < (n : Int) := by omega
            have HS : Hid (splF s ed (d' + 1) k = (s.extract k n, (k : Int)) :: splF s ed d' (n + 1)) := Lib.hid (by rw [HN.out, ← HE2.out, if_pos hnk]; rfl)
            obtain ⟨W8, hW8⟩ : ∃ W8 : World, W8 = wr.alloc (.cells #[.string (s.extract k n), .int .i64 k] 232) := ⟨_, rfl⟩
            have hxa : Ext wr W8 := by rw [hW8]; exact Ext.alloc (Ext.refl _) _
            have hat : W8.heap[wr.heap.size]? = some (.cells #[.string (s.extract k n), .int .i64 k] 232) := by rw [hW8]; exact block_new rfl
            have HXA := Lib.hid hxa; have HAT := Lib.hid hat; have HW := Lib.hid hW8
            have HRX := Lib.hid (row_ext HR.out hxa)
            have HXB := Lib.hid (HX.out.trans hxa)
            have hlen : out.length < 1000000 := by have := HB.out; omega
            clear hxa hat hW8
            go_wp2_with (at_builtin; rw [← HW.out]; refine append_one (cs := tokC) (z := .agg #[.string ⟨#[]⟩, .int .i64 0]) one_tok 162 232 24 Tryz.underlying162 (by kernel_rfl) (by rfl) (by decide) (by decide) rfl (.tmp 29) (.tmp 36) rfl w.heap.size _ out (by rfl) HRX.out wr.heap.size (s.extract k n, (k : Int)) (by rfl) HAT.out hlen (Nat.le_trans HX.out.size HXA.out.size) ?_; intro g7 cap7 w7 hr7 hb7; have HX7 : Hid (Ext w w7) := Lib.hid (RowKit.Below.trans HXB.out hb7); have HR7 := Lib.hid hr7; clear hr7 hb7)
            exact ⟨⟨out ++ [(s.extract k n, (k : Int))], n + 1, d', by simp, by omega, Lib.hid (by have := HD.out; omega), Lib.hid (by rw [← HO.out, HS.out]; simp), Lib.hid (by have := HB.out; simp; omega), HX7, HR7⟩, by simp [iof]; omega⟩
          · obtain rfl : k = n := by omega
            have HS : Hid (splF s ed (d' + 1) k = splF s ed d' (k + 1)) := Lib.hid (by rw [HN.out, ← HE2.out, if_neg (Nat.lt_irrefl k)]; rfl)
            go_wp2_with (fail)
            all_goals exact ⟨⟨out, k + 1, d', by simp, by omega, Lib.hid (by have := HD.out; omega), Lib.hid (by rw [← HO.out, HS.out]), Lib.hid (by have := HB.out; omega), HX, HR⟩, by simp [iof]; omega⟩
    · have hki : ¬ (k : Int) < (ed : Int) := by omega
      have HN : Hid (out = L) := Lib.hid (by rw [← HO.out]; cases d with | zero => simp [splF] | succ d => unfold splF; rw [if_neg hkt]; simp)
      rw [HN.out] at HR HB
      obtain ⟨W8, hW8⟩ : ∃ W8 : World, W8 = wo.alloc (.cells #[.string ⟨#[]⟩, .int .i64 ed] 232) := ⟨_, rfl⟩
      have hxa : Ext wo W8 := by rw [hW8]; exact Ext.alloc (Ext.refl _) _
      have hat : W8.heap[wo.heap.size]? = some (.cells #[.string ⟨#[]⟩, .int .i64 ed] 232) := by rw [hW8]; exact block_new rfl
      have HXA := Lib.hid hxa; have HAT := Lib.hid hat; have HW := Lib.hid hW8
      have HRX := Lib.hid (row_ext HR.out hxa)
      have HXB := Lib.hid (HX.out.trans hxa)
      have hlen : L.length < 1000000 := by have := HB.out; omega
      clear hxa hat hW8
      go_wp2_with (at_builtin; rw [← HW.out]; refine append_one (cs := tokC) (z := .agg #[.string ⟨#[]⟩, .int .i64 0]) one_tok 162 232 24 Tryz.underlying162 (by kernel_rfl) (by rfl) (by decide) (by decide) rfl (.tmp 40) (.tmp 43) rfl w.heap.size _ L (by rfl) HRX.out wo.heap.size (eofT ed) (by rfl) HAT.out hlen (Nat.le_trans HX.out.size HXA.out.size) ?_; intro g7 cap7 w7 hr7 hb7; have HX7 : Hid (Ext w w7) := Lib.hid (RowKit.Below.trans HXB.out hb7); have HR7 := Lib.hid hr7; clear hr7 hb7)
      go_ret
      exact ⟨g7, cap7, by simp, HX7.out, by simpa using HR7.out⟩
end Go.Proofs.YteomcpplajeidaaGreat
