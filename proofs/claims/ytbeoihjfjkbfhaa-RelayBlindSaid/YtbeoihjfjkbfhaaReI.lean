/-
  Tick, Close, Ask. Condition: a relay lies at p.
-/
import Derived.Test.YtbeoihjfjkbfhaaReH
namespace Go.Proofs.Ytbeoihjfjkbfhaa
set_option linter.unusedVariables false
set_option linter.unusedSimpArgs false
open Go.RowKit
def askE (r : Rl) (q : Qn) (t : Int) : Int :=
  if q.text.size = 0 ∨ 4000 < q.text.size then 1 else if r.closed = true then 31 else if r.timed = true ∧ t < r.last then 32 else if q ∈ r.l.map (·.1) then 33 else if 1000 ≤ r.l.length then 2 else 0
def askR (r : Rl) (q : Qn) (t : Int) : Rl := if askE r q t = 0 then r.asked q t else r
theorem ask_any {B : Nat} (p : Nat) (mb : Option Nat) (r : Rl) (q : Qn) (t : Int) (w : World) (h : RW B w p mb r) (hB : B ≤ w.heap.size) (hw : OkI q.who) (ht : OkI t) :
    Calls Try.prog 20 #[.pointer (some ⟨p, 0, none⟩), .int .i64 q.who, .int .i64 t, .string q.text] w fun e w' => e = .returned (.int .i64 (askE r q t)) ∧ ∃ mb', RW B w' p mb' (askR r q t) ∧ KW p mb w w' ∧ (mb' = mb ∨ ∃ b, mb' = some b ∧ w.heap.size ≤ b) := by
  have hcl : ∀ (n : Int), n ≠ 0 → askE r q t = n → (Calls Try.prog 20 #[.pointer (some ⟨p, 0, none⟩), .int .i64 q.who, .int .i64 t, .string q.text] w fun e w' => e = .returned (.int .i64 n) ∧ Ext w w') →
      Calls Try.prog 20 #[.pointer (some ⟨p, 0, none⟩), .int .i64 q.who, .int .i64 t, .string q.text] w fun e w' => e = .returned (.int .i64 (askE r q t)) ∧ ∃ mb', RW B w' p mb' (askR r q t) ∧ KW p mb w w' ∧ (mb' = mb ∨ ∃ b, mb' = some b ∧ w.heap.size ≤ b) := fun n hn he hc =>
    hc.mono fun _ _ ⟨h1, h2⟩ => ⟨by rw [h1, he], mb, by unfold askR; rw [if_neg (by rw [he]; exact hn)]; exact h.ext h2, KW.of_ext h2, .inl rfl⟩
  by_cases h1 : q.text.size = 0 ∨ 4000 < q.text.size
  · exact hcl 1 (by decide) (by unfold askE; rw [if_pos h1]) (ask_bad p q.who t q.text w h1)
  have hs : ¬ q.text.size = 0 := fun e => h1 (.inl e)
  have hs4 : q.text.size ≤ 4000 := by omega
  by_cases h2 : r.closed = true
  · exact hcl 31 (by decide) (by unfold askE; rw [if_neg h1, if_pos h2]) (ask_closed p mb r q t w h hs hs4 h2)
  have hc : r.closed = false := by simpa using h2
  by_cases h3 : r.timed = true ∧ t < r.last
  · exact hcl 32 (by decide) (by unfold askE; rw [if_neg h1, if_neg h2, if_pos h3]) (ask_old p mb r q t w h hs hs4 hc h3)
  by_cases h4 : q ∈ r.l.map (·.1)
  · exact hcl 33 (by decide) (by unfold askE; rw [if_neg h1, if_neg h2, if_neg h3, if_pos h4]) (ask_twice p mb r q t w h hs ⟨hw, hs4⟩ hc h3 h4)
  by_cases h5 : 1000 ≤ r.l.length
  · exact hcl 2 (by decide) (by unfold askE; rw [if_neg h1, if_neg h2, if_neg h3, if_neg h4, if_pos h5]) (ask_many p mb r q t w h hs ⟨hw, hs4⟩ hc h3 h4 h5)
  have he : askE r q t = 0 := by unfold askE; rw [if_neg h1, if_neg h2, if_neg h3, if_neg h4, if_neg h5]
  refine (ask_ok p mb r q t w h hB hs ⟨hw, hs4⟩ ht hc h3 h4 h5).mono ?_
  rintro e w' ⟨rfl, mb', k1, k2, k3⟩
  exact ⟨by rw [he], mb', by unfold askR; rw [if_pos he]; exact k1, k2, k3⟩
theorem BatR.mono {n n' : Nat} {w : World} {v : Value} {o : Option (List ByteArray)} (h : BatR n w v o) (hn : n' ≤ n) : BatR n' w v o := by
  cases o with
  | none => exact h
  | some ts =>
    obtain ⟨g, u, h1, h2, h3, h4⟩ := h
    refine ⟨g, u, h1, Nat.le_trans hn h2, h3, h4.1, h4.2.imp id ?_⟩
    rintro ⟨g, cp, cur, e1, e2, e3⟩
    exact ⟨g, cp, cur, e1, Nat.le_trans hn e2, e3⟩
theorem BatR.keep {n : Nat} {w w' : World} {v : Value} {o : Option (List ByteArray)} (h : BatR n w v o) (hk : ∀ k, n ≤ k → k < w.heap.size → w'.heap[k]? = w.heap[k]?) : BatR n w' v o := by
  cases o with
  | none => exact h
  | some ts =>
    obtain ⟨g, u, h1, h2, h3, h4⟩ := h
    refine ⟨g, u, h1, h2, (hk _ h2 (Rg.lt_of_heap h3)).trans h3, h4.1, h4.2.imp id ?_⟩
    rintro ⟨g, cp, cur, e1, e2, e3, e4⟩
    exact ⟨g, cp, cur, e1, e2, (hk _ e2 (Rg.lt_of_heap e3)).trans e3, e4⟩
noncomputable def tickF (r : Rl) (t : Int) : Option (List ByteArray) × Rl :=
  if r.closed = true ∨ r.timed = true ∧ t < r.last then (none, r) else giveF { r with last := t, timed := true } (fun z => decide (z < perF r.every t))
noncomputable def closeF (r : Rl) : Option (List ByteArray) × Rl :=
  if r.closed = true then (none, r) else ((giveF r fun _ => true).1, { (giveF r fun _ => true).2 with l := [], closed := true })
theorem tick_nil (t : Int) (w : World) : Calls Try.prog 16 #[.pointer none, .int .i64 t] w fun e w' => e = .returned (.slice none 0 0) ∧ w' = w := by
  go_enter Try.func16, Try.ntmps16
  go_wp2
  go_ret
  exact ⟨rfl, rfl⟩
theorem close_nil (w : World) : Calls Try.prog 18 #[.pointer none] w fun e w' => e = .returned (.slice none 0 0) ∧ w' = w := by
  go_enter Try.func18, Try.ntmps18
  go_wp2
  go_ret
  exact ⟨rfl, rfl⟩
set_option maxRecDepth 100000 in
set_option maxHeartbeats 4000000 in
theorem tick_any {B : Nat} (p : Nat) (mb : Option Nat) (r : Rl) (t : Int) (w : World) (h : RW B w p mb r) (ht : OkI t) :
    Calls Try.prog 16 #[.pointer (some ⟨p, 0, none⟩), .int .i64 t] w fun e w' => ∃ v, e = .returned v ∧ BatR w.heap.size w' v (tickF r t).1 ∧ RW B w' p mb (tickF r t).2 ∧ KW p mb w w' := by
  obtain ⟨-, -, c2, c3, c4, c5⟩ := Rl.cells_at h.row
  have f3 := (Rg.cells_of h.row).2.1 3
  have f4 := (Rg.cells_of h.row).2.1 4
  have hO := old_any p mb r t w h.row
  have hpl := h.lt
  have HH := Lib.hid h; have HT := Lib.hid ht
  cases hc : r.closed with
  | true =>
    have HV : Hid (tickF r t = (none, r)) := Lib.hid (by unfold tickF; rw [if_pos (.inl hc)])
    rw [hc] at c5
    clear h ht hc hO
    go_enter Try.func16, Try.ntmps16
    go_wp2
    go_ret
    exact ⟨_, rfl, by rw [HV.out]; rfl, by rw [HV.out]; exact HH.out, KW.refl _ _ _⟩
  | false =>
    rw [hc] at c5
    cases ho : (r.timed && decide (t < r.last)) with
    | true =>
      have HV : Hid (tickF r t = (none, r)) := Lib.hid (by unfold tickF; rw [if_pos (.inr (by simpa using ho))])
      rw [ho] at hO
      clear h ht hc ho
      go_enter Try.func16, Try.ntmps16
      go_wp2_with (go_at_call 26; (with_reducible refine hO.mono ?_); rintro e w1 ⟨rfl, rfl⟩)
      go_ret
      exact ⟨_, rfl, by rw [HV.out]; rfl, by rw [HV.out]; exact HH.out, KW.refl _ _ _⟩
    | false =>
      have hno : ¬ (r.closed = true ∨ r.timed = true ∧ t < r.last) := by
        rw [hc]
        rintro (h | ⟨h1, h2⟩)
        · cases h
        · simp [h1, h2] at ho
      have HV : Hid (tickF r t = giveF { r with last := t, timed := true } (fun z => decide (z < perF r.every t))) := Lib.hid (by unfold tickF; rw [if_neg hno])
      rw [ho] at hO
      clear h ht hc ho hno
      go_enter Try.func16, Try.ntmps16
      go_upto_region 4 with (go_at_call 26; (with_reducible refine hO.mono ?_); rintro e w1 ⟨rfl, rfl⟩)
      have hVrow : ((w1.setCell ⟨p, 3, none⟩ (.int .i64 t)).setCell ⟨p, 4, none⟩ (.bool true)).heap[p]? = some (.cells (({ r with last := t, timed := true } : Rl).cells mb) 56) := by
        have h1 := heap_setCell_row (o := 3) (.int .i64 t) HH.out.row
        exact heap_setCell_row (o := 4) (.bool true) h1
      have hVK : KW p mb w1 ((w1.setCell ⟨p, 3, none⟩ (.int .i64 t)).setCell ⟨p, 4, none⟩ (.bool true)) := ((KW.refl _ _ _).setCell _).setCell _
      have hVM : MQ B ((w1.setCell ⟨p, 3, none⟩ (.int .i64 t)).setCell ⟨p, 4, none⟩ (.bool true)) mb r.l := HH.out.map.of_block fun b e => by
        have hb : b ≠ p := fun e2 => HH.out.ne (by rw [e, e2])
        rw [heap_setCell_other _ hb, heap_setCell_other _ hb]
      have hVR : RW B ((w1.setCell ⟨p, 3, none⟩ (.int .i64 t)).setCell ⟨p, 4, none⟩ (.bool true)) p mb { r with last := t, timed := true } := ⟨HH.out.at_, hVrow, hVM, ⟨HH.out.ok.least, HH.out.ok.every, HT.out, HH.out.ok.per, HH.out.ok.len⟩⟩
      generalize (w1.setCell ⟨p, 3, none⟩ (.int .i64 t)).setCell ⟨p, 4, none⟩ (.bool true) = V at *
      have hPer := period_any p mb _ t V hVrow HH.out.ok.every HT.out
      change Calls Try.prog 27 _ _ (fun e w' => e = .returned (.int .i64 (perF r.every t)) ∧ w' = V) at hPer
      generalize perF r.every t = per at *
      have hxb : Ext V (V.alloc (.cells #[.int .i64 per] 3)) := Ext.alloc (Ext.refl _) _
      have hcb : (V.alloc (.cells #[.int .i64 per] 3)).cell? ⟨V.heap.size, 0, none⟩ = some (.int .i64 per) := cell_of_row _ _ 0 _ _ _ (alloc_at V _)
      have hG := give_any p mb _ 29 #[.pointer (some ⟨V.heap.size, 0, none⟩)] _ (V.alloc (.cells #[.int .i64 per] 3)) (hVR.ext hxb) (due_before V.heap.size per _ hcb)
      have HG := Lib.hid hG; have HP := Lib.hid hPer; have HVK := Lib.hid hVK; have HXB := Lib.hid hxb
      clear hVrow hVM hVR hPer hG hVK hxb hcb c2 c3 c4 c5 f3 f4 hO
      go_wp2_with (first
        | (go_at_call 27; (with_reducible refine HP.out.mono ?_); rintro e w5 ⟨rfl, hw5⟩; have h9 := hw5.symm; clear hw5; subst h9)
        | (go_at_call 28; (with_reducible refine HG.out.mono ?_); rintro e w6 ⟨v, rfl, hb6, hr6, hk6⟩))
      go_ret
      refine ⟨_, rfl, ?_, ?_, (HVK.out.trans (KW.of_ext HXB.out)).trans hk6⟩
      · rw [HV.out]
        exact hb6.mono (Nat.le_trans HVK.out.size HXB.out.size)
      · rw [HV.out]
        exact hr6
set_option maxRecDepth 100000 in
set_option maxHeartbeats 4000000 in
theorem close_any {B : Nat} (p : Nat) (mb : Option Nat) (r : Rl) (w : World) (h : RW B w p mb r) :
    Calls Try.prog 18 #[.pointer (some ⟨p, 0, none⟩)] w fun e w' => ∃ v, e = .returned v ∧ BatR w.heap.size w' v (closeF r).1 ∧ (∃ mb', RW B w' p mb' (closeF r).2 ∧ (mb' = mb ∨ mb' = none)) ∧ KW p mb w w' := by
  obtain ⟨-, -, -, -, -, c5⟩ := Rl.cells_at h.row
  have hpl := h.lt
  have HH := Lib.hid h
  cases hc : r.closed with
  | true =>
    have HV : Hid (closeF r = (none, r)) := Lib.hid (by unfold closeF; rw [if_pos hc])
    rw [hc] at c5
    clear h hc
    go_enter Try.func18, Try.ntmps18
    go_wp2
    go_ret
    exact ⟨_, rfl, by rw [HV.out]; rfl, ⟨mb, by rw [HV.out]; exact HH.out, .inl rfl⟩, KW.refl _ _ _⟩
  | false =>
    have HV : Hid (closeF r = ((giveF r fun _ => true).1, { (giveF r fun _ => true).2 with l := [], closed := true })) := Lib.hid (by unfold closeF; rw [if_neg (by rw [hc]; decide)])
    rw [hc] at c5
    have HG := Lib.hid (give_any p mb r 32 #[] _ w h (due_all w))
    clear h hc
    obtain ⟨G, hG⟩ : ∃ G, G = giveF r fun _ => true := ⟨_, rfl⟩
    rw [← hG] at HG HV
    clear hG
    go_enter Try.func18, Try.ntmps18
    go_upto_region 4 with (go_at_call 28; (with_reducible refine HG.out.mono ?_); rintro e w6 ⟨v, rfl, hb6, hr6, hk6⟩)
    have f2 := (Rg.cells_of hr6.row).2.1 2
    have f5 := (Rg.cells_of hr6.row).2.1 5
    obtain ⟨-, -, d2, -, -, d5⟩ := Rl.cells_at hr6.row
    have hpl6 := hr6.lt
    have HB6 := Lib.hid hb6; have HR6 := Lib.hid hr6; have HK6 := Lib.hid hk6
    clear hb6 hr6 hk6
    go_wp2
    go_ret
    refine ⟨_, rfl, ?_, ⟨none, ?_, .inr rfl⟩, (HK6.out.setCell _).setCell _⟩
    · rw [HV.out]
      exact HB6.out.keep fun k hk _ => by rw [heap_setCell_other _ (by omega), heap_setCell_other _ (by omega)]
    · rw [HV.out]
      have h1 := heap_setCell_row (o := 2) (.map none) HR6.out.row
      have h2 := heap_setCell_row (o := 5) (.bool true) h1
      exact ⟨HR6.out.at_, h2, rfl, ⟨HR6.out.ok.least, HR6.out.ok.every, HR6.out.ok.last, by simp, by simp⟩⟩
end Go.Proofs.Ytbeoihjfjkbfhaa
