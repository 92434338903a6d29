/-
  Lemmas of this claim (JtR). Nothing is asked.
-/
import Derived.Test.YteomcpplajeidaaGreatJtQ
namespace Go.Proofs.YteomcpplajeidaaGreat
set_option linter.unusedVariables false
set_option linter.unusedSimpArgs false
set_option maxRecDepth 100000
open Go.RowKit
def KX (bn : Nat) (w w' : World) : Prop := w.grownBy w' (some bn)
theorem KX.of_ext {bn : Nat} {w w' : World} (h : Ext w w') : KX bn w w' := ⟨h.os, h.tape, h.output, h.size, fun k hk _ => h.block k hk⟩
theorem KX.trans {bn : Nat} {w w' w'' : World} (h : KX bn w w') (k : KX bn w' w'') : KX bn w w'' :=
  ⟨k.os.trans h.os, k.tape.trans h.tape, k.output.trans h.output, Nat.le_trans h.size k.size, fun i hi hn => (k.block i (Nat.lt_of_lt_of_le hi h.size) hn).trans (h.block i hi hn)⟩
theorem KX.ext {bn : Nat} {w w' w'' : World} (h : KX bn w w') (k : Ext w' w'') : KX bn w w'' := h.trans (KX.of_ext k)
theorem heap_put {w : World} {g o : Nat} {cs : Array Value} {t : TypeId} (v : Value) (hg : w.heap[g]? = some (.cells cs t)) : (w.setCell ⟨g, o, none⟩ v).heap[g]? = some (.cells (cs.setIfInBounds o v) t) := by
  have hlt := (Array.getElem?_eq_some_iff.1 hg).1
  simp [World.setCell, Array.getElem?_modify, hg]
theorem KX.set {bn j : Nat} {w w' : World} (h : KX bn w w') (v : Value) : KX bn w (w'.setCell ⟨bn, j, none⟩ v) :=
  ⟨h.os, h.tape, h.output, by rw [World.size_setCell]; exact h.size, fun k hk hne => (RowKit.Below.heap_setCell _ _ _ _ (fun e => hne (by rw [e]))).trans (h.block k hk hne)⟩
theorem SR.kx {α : Type} {cs : α → List Value} {sz p : Nat} {w w' : World} {v : Value} {xs : List α} (h : SR cs sz w v xs) (k : KX p w w') (hne : ∀ b n c, v = .slice (some ⟨b, 0, none⟩) n c → b ≠ p) : SR cs sz w' v xs := by
  obtain ⟨base, cap, rfl, h2, h3⟩ := h
  refine ⟨base, cap, rfl, h2, h3.imp id fun ⟨b, hb, hc⟩ => ⟨b, hb, fun i hi j u hu => ?_⟩⟩
  have h4 := hc i hi j u hu
  have h5 := World.block_lt_of_cell? w _ h4
  have h6 := k.block b h5 (fun e => hne b _ _ (by rw [hb]) (by injection e with e))
  rw [← h4]
  unfold World.cell?
  rw [h6]
structure PX (T : TypeId) (w : World) (p : Nat) (tv : Value) (l : List (ByteArray × Int)) (k : Nat) (rest : List Value) : Prop where
  at_ : w.heap[p]? = some (.cells (tv :: .int .i64 k :: .int .i64 0 :: .int .i64 0 :: rest).toArray T)
  tok : SR tokC 2 w tv l
  ne : ∀ b n c, tv = .slice (some ⟨b, 0, none⟩) n c → b ≠ p
section
variable {T : TypeId} {w w' : World} {p k : Nat} {tv : Value} {l : List (ByteArray × Int)} {rest : List Value}
theorem PX.ext (h : PX T w p tv l k rest) (x : Ext w w') : PX T w' p tv l k rest := ⟨(x.block _ (Rg.lt_of_heap h.at_)).trans h.at_, h.tok.ext x, h.ne⟩
theorem PX.c (h : PX T w p tv l k rest) : w.cell? ⟨p, 0, none⟩ = some tv ∧ w.cell? ⟨p, 1, none⟩ = some (.int .i64 k) ∧ w.cell? ⟨p, 2, none⟩ = some (.int .i64 0) ∧ w.cell? ⟨p, 3, none⟩ = some (.int .i64 0) :=
  ⟨cell_of_row w p 0 _ _ _ h.at_, cell_of_row w p 1 _ _ _ h.at_, cell_of_row w p 2 _ _ _ h.at_, cell_of_row w p 3 _ _ _ h.at_⟩
theorem PX.step (h : PX T w p tv l k rest) (j : Nat) : PX T (w.setCell ⟨p, 1, none⟩ (.int .i64 j)) p tv l j rest :=
  ⟨(heap_put _ h.at_).trans (by simp), h.tok.kx ((KX.of_ext (Ext.refl _)).set _) h.ne, h.ne⟩
end
theorem put_frozen {W : World} {b o T : Nat} {cs : Array Value} (h : W.heap[b]? = some (.cells cs T)) : W.frozen? ⟨b, o, none⟩ = false := by simp [World.frozen?, h]
set_option maxHeartbeats 4000000 in
theorem number_any (T : TypeId) (p : Nat) (tv : Value) (l : List (ByteArray × Int)) (k : Nat) (rest : List Value) (least : Int) (w : World) (h : PX T w p tv l k rest) (hk : k < l.length) (s : ByteArray) (hs : l[k].1 = s) (hsz : s.size ≤ 1000000) (hd : numS s = true) (h1 : least ≤ valU s s.size) (h2 : valU s s.size ≤ 1000000000) (hkb : k ≤ 1000000) :
    Calls Tryz.prog 181 #[.pointer (some ⟨p, 0, none⟩), .int .i64 least] w fun e w' => e = .returned (.int .i64 (valU s s.size)) ∧ PX T w' p tv l (k + 1) rest ∧ KX p w w' := by
  obtain ⟨c0, c1, c2, c3⟩ := h.c
  have ht := text_any p tv l k w c0 c1 h.tok hk
  rw [hs] at ht
  have HT := Lib.hid ht
  have HN := Lib.hid (fun wz => isNumber_any s hsz wz)
  have hall : allU digB s s.size = true := by
    unfold numS at hd
    rw [Bool.and_eq_true] at hd
    exact hd.1
  rw [hd] at HN
  have HV := Lib.hid (fun wz => digits_any s hsz hall wz)
  have hvb := valU_bd s.size hall
  have hpl := Rg.lt_of_heap h.at_
  have HP := Lib.hid h
  generalize valU s s.size = v at *
  have hb1 : ¬ (1000000000 : Int) < v := by omega
  have hb2 : ¬ v < least := by omega
  have hw : IntKind.i64.wrap ((k : Int) + 1) = (k : Int) + 1 := by rw [IntKind.wrap_i64]; omega
  clear h ht hd hall hs c0 c1 c2 c3 h1 h2
  go_enter Tryz.func181, Tryz.ntmps181
  go_upto_region 2 with (go_at_call 140; (with_reducible refine HT.out.mono ?_); rintro e w1 ⟨rfl, hx1⟩)
  have HP1 := Lib.hid (HP.out.ext hx1)
  have HX1 := Lib.hid hx1
  obtain ⟨c0, c1, c2, c3⟩ := HP1.out.c
  have f1 : w1.frozen? ⟨p, 1, none⟩ = false := put_frozen HP1.out.at_
  have hpl1 := Rg.lt_of_heap HP1.out.at_
  clear hx1 hpl
  go_wp2_with (first
    | (go_at_call 203; (with_reducible refine (HN.out _).mono ?_); rintro e w2 ⟨rfl, rfl⟩)
    | (go_at_call 204; (with_reducible refine (HV.out _).mono ?_); rintro e w2 ⟨rfl, rfl⟩))
  go_ret
  exact ⟨rfl, HP1.out.step (k + 1), (KX.of_ext HX1.out).set _⟩
end Go.Proofs.YteomcpplajeidaaGreat
namespace Go.Proofs.YteomcpplajeidaaGreat
set_option linter.unusedVariables false
set_option linter.unusedSimpArgs false
set_option maxRecDepth 100000
open Go.RowKit
set_option maxHeartbeats 4000000 in
theorem skip_any (T : TypeId) (p : Nat) (tv : Value) (l : List (ByteArray × Int)) (k : Nat) (rest : List Value) (u : ByteArray) (w : World) (h : PX T w p tv l k rest) (hk : k < l.length) (s : ByteArray) (hs : l[k].1 = s) (he : (s.toList == u.toList) = true) (hu : (u.toList == []) = false) (hkb : k ≤ 1000000) :
    Calls Tryz.prog 202 #[.pointer (some ⟨p, 0, none⟩), .string u] w fun e w' => e = .returned (.tuple #[]) ∧ PX T w' p tv l (k + 1) rest ∧ KX p w w' := by
  obtain ⟨c0, c1, c2, c3⟩ := h.c
  have ht := text_any p tv l k w c0 c1 h.tok hk
  rw [hs] at ht
  have HT := Lib.hid ht
  have HP := Lib.hid h
  have hw : IntKind.i64.wrap ((k : Int) + 1) = (k : Int) + 1 := by rw [IntKind.wrap_i64]; omega
  clear h ht hs c0 c1 c2 c3
  go_enter Tryz.func202, Tryz.ntmps202
  go_upto_region 2 with (go_at_call 140; (with_reducible refine HT.out.mono ?_); rintro e w1 ⟨rfl, hx1⟩; have HP1 := Lib.hid (HP.out.ext hx1); have HX1 := Lib.hid hx1; clear hx1)
  obtain ⟨c0, c1, c2, c3⟩ := HP1.out.c
  have f1 : w1.frozen? ⟨p, 1, none⟩ = false := put_frozen HP1.out.at_
  have hpl1 := Rg.lt_of_heap HP1.out.at_
  go_wp2_with (fail)
  go_end0
  exact ⟨rfl, HP1.out.step (k + 1), (KX.of_ext HX1.out).set _⟩
set_option maxHeartbeats 4000000 in
theorem word_any (T : TypeId) (p : Nat) (tv : Value) (l : List (ByteArray × Int)) (k : Nat) (rest : List Value) (w : World) (h : PX T w p tv l k rest) (hk : k < l.length) (s : ByteArray) (hs : l[k].1 = s) (hsz : s.size ≤ 1000000) (hd : worS s = true) (hkb : k ≤ 1000000) :
    Calls Tryz.prog 179 #[.pointer (some ⟨p, 0, none⟩)] w fun e w' => e = .returned (.string s) ∧ PX T w' p tv l (k + 1) rest ∧ KX p w w' := by
  obtain ⟨c0, c1, c2, c3⟩ := h.c
  have ht := text_any p tv l k w c0 c1 h.tok hk
  rw [hs] at ht
  have HT := Lib.hid ht
  have HN := Lib.hid (fun wz => IsWord_any s hsz wz)
  rw [hd] at HN
  have hpl := Rg.lt_of_heap h.at_
  have HP := Lib.hid h
  have hw : IntKind.i64.wrap ((k : Int) + 1) = (k : Int) + 1 := by rw [IntKind.wrap_i64]; omega
  clear h ht hd hs c0 c1 c2 c3
  go_enter Tryz.func179, Tryz.ntmps179
  go_upto_region 2 with (go_at_call 140; (with_reducible refine HT.out.mono ?_); rintro e w1 ⟨rfl, hx1⟩)
  have HP1 := Lib.hid (HP.out.ext hx1)
  have HX1 := Lib.hid hx1
  obtain ⟨c0, c1, c2, c3⟩ := HP1.out.c
  have f1 : w1.frozen? ⟨p, 1, none⟩ = false := put_frozen HP1.out.at_
  have hpl1 := Rg.lt_of_heap HP1.out.at_
  clear hx1 hpl
  go_wp2_with (go_at_call 150; (with_reducible refine (HN.out _).mono ?_); rintro e w2 ⟨rfl, rfl⟩)
  go_ret
  exact ⟨rfl, HP1.out.step (k + 1), (KX.of_ext HX1.out).set _⟩
end Go.Proofs.YteomcpplajeidaaGreat
namespace Go.Proofs.YteomcpplajeidaaGreat
set_option linter.unusedVariables false
set_option linter.unusedSimpArgs false
set_option maxRecDepth 100000
open Go.RowKit
set_option maxHeartbeats 4000000 in
theorem one_any (T : TypeId) (p : Nat) (tv : Value) (l : List (ByteArray × Int)) (k : Nat) (rest : List Value) (a b : ByteArray) (w : World) (h : PX T w p tv l k rest) (hk : k < l.length) (s : ByteArray) (hs : l[k].1 = s) (he : (s.toList == a.toList) = true) (hkb : k ≤ 1000000) :
    Calls Tryz.prog 180 #[.pointer (some ⟨p, 0, none⟩), .string a, .string b] w fun e w' => e = .returned (.string s) ∧ PX T w' p tv l (k + 1) rest ∧ KX p w w' := by
  obtain ⟨c0, c1, c2, c3⟩ := h.c
  have ht := text_any p tv l k w c0 c1 h.tok hk
  rw [hs] at ht
  have HT := Lib.hid ht
  have hpl := Rg.lt_of_heap h.at_
  have HP := Lib.hid h
  have hw : IntKind.i64.wrap ((k : Int) + 1) = (k : Int) + 1 := by rw [IntKind.wrap_i64]; omega
  clear h ht hs c0 c1 c2 c3
  go_enter Tryz.func180, Tryz.ntmps180
  go_upto_region 2 with (go_at_call 140; (with_reducible refine HT.out.mono ?_); rintro e w1 ⟨rfl, hx1⟩)
  have HP1 := Lib.hid (HP.out.ext hx1)
  have HX1 := Lib.hid hx1
  obtain ⟨c0, c1, c2, c3⟩ := HP1.out.c
  have f1 : w1.frozen? ⟨p, 1, none⟩ = false := put_frozen HP1.out.at_
  have hpl1 := Rg.lt_of_heap HP1.out.at_
  clear hx1 hpl
  go_wp2_with (fail)
  go_ret
  exact ⟨rfl, HP1.out.step (k + 1), (KX.of_ext HX1.out).set _⟩
end Go.Proofs.YteomcpplajeidaaGreat
namespace Go.Proofs.YteomcpplajeidaaGreat
set_option linter.unusedVariables false
set_option linter.unusedSimpArgs false
set_option maxRecDepth 100000
open Go.RowKit
theorem PX.put {T : TypeId} {w : World} {p k : Nat} {tv : Value} {l : List (ByteArray × Int)} {rest : List Value} (h : PX T w p tv l k rest) (j : Nat) (u : Value) : PX T (w.setCell ⟨p, j + 4, none⟩ u) p tv l k (rest.set j u) :=
  ⟨(heap_put _ h.at_).trans (by simp), h.tok.kx ((KX.of_ext (Ext.refl _)).set _) h.ne, h.ne⟩
theorem PX.r {T : TypeId} {w : World} {p k : Nat} {tv : Value} {l : List (ByteArray × Int)} {rest : List Value} (h : PX T w p tv l k rest) (j : Nat) : w.cell? ⟨p, j + 4, none⟩ = rest[j]? := by
  rw [cell_of_row w p (j + 4) _ _ _ h.at_]
  simp
theorem own_away {w : World} {B E sz g n c m p o : Nat} {xs : List Value} {u : Value} (h : w.ownsRow B E sz (.slice (some ⟨g, 0, none⟩) n c) m xs) (hp : p < B) (B' : Nat) (hB : B' ≤ B) :
    B ≤ g ∧ (w.setCell ⟨p, o, none⟩ u).ownsRow B' E sz (.slice (some ⟨g, 0, none⟩) n c) m xs := by
  rcases id h.2 with ⟨h1, -⟩ | ⟨g', cap, cur, hv, hb, hg, rest⟩
  · cases h1
  · injection hv with e1 e2 e3
    injection e1 with e1
    injection e1 with e1
    subst e1 e2 e3
    exact ⟨hb, h.1, .inr ⟨g, c, cur, rfl, Nat.le_trans hB hb, (RowKit.Below.heap_setCell _ _ _ _ (by show g ≠ p; omega)).trans hg, rest⟩⟩
set_option maxHeartbeats 4000000 in
theorem lot_any (p : Nat) (tv : Value) (l : List (ByteArray × Int)) (k : Nat) (rest : List Value) (w : World) (h : PX 166 w p tv l k rest) (hk : k + 2 < l.length) (s u m : ByteArray) (hs : l[k].1 = s) (hu : l[k + 1].1 = u) (hm : l[k + 2].1 = m) (hue : (u.toList == [109, 111, 115, 116]) = true)
    (hsz : s.size ≤ 1000000) (hsd : numS s = true) (hs1 : 1 ≤ valU s s.size) (hs2 : valU s s.size ≤ 1000000000) (hmz : m.size ≤ 1000000) (hmd : numS m = true) (hm1 : 0 ≤ valU m m.size) (hm2 : valU m m.size ≤ 1000000000) (hkb : k ≤ 100000) (hr : rest[2]? = some (.slice none 0 0)) :
    Calls Tryz.prog 177 #[.pointer (some ⟨p, 0, none⟩)] w fun e w' => e = .returned (.tuple #[]) ∧ ∃ g cap, w.heap.size ≤ g ∧ PX 166 w' p tv l (k + 3) (rest.set 2 (.slice (some ⟨g, 0, none⟩) 1 cap)) ∧ KX p w w' ∧ w'.ownsRow w.heap.size 72 2 (.slice (some ⟨g, 0, none⟩) 1 cap) 1 ([(valU s s.size, valU m m.size)].flatMap cellsLot) := by
  have HN1 := Lib.hid (number_any 166 p tv l k rest 1 w h (by omega) s hs hsz hsd hs1 hs2 (by omega))
  have HSK := Lib.hid (fun wz (hz : PX 166 wz p tv l (k + 1) rest) => skip_any 166 p tv l (k + 1) rest ⟨#[109, 111, 115, 116]⟩ wz hz (by omega) u hu (by rw [show (⟨#[109, 111, 115, 116]⟩ : ByteArray).toList = [109, 111, 115, 116] from by kernel_rfl]; exact hue) (by kernel_rfl) (by omega))
  have HN2 := Lib.hid (fun wz (hz : PX 166 wz p tv l (k + 2) rest) => number_any 166 p tv l (k + 2) rest 0 wz hz (by omega) m hm hmz hmd hm1 hm2 (by omega))
  have HR := Lib.hid hr
  clear h hs hu hm hue hsd hs1 hs2 hmd hm1 hm2 hr
  generalize valU s s.size = a at *
  generalize valU m m.size = b at *
  go_enter Tryz.func177, Tryz.ntmps177
  go_upto_region 1 with (go_at_call 181; (with_reducible refine HN1.out.mono ?_); rintro e w1 ⟨rfl, hp1, hx1⟩)
  have HP1 := Lib.hid hp1; have HX1 := Lib.hid hx1
  have r1 := (hp1.r 2).trans HR.out
  have hpl := Rg.lt_of_heap hp1.at_
  clear hp1 hx1
  go_upto_region 2 with (fail)
  go_loopw [3] (fun kv wr => kv = .int .i64 0 ∧ wr = w1) (fun kv _ => 0)
  case atStart => exact ⟨rfl, rfl⟩
  case round =>
    obtain ⟨rfl, rfl⟩ := hrel
    obtain ⟨c0, c1, c2, c3⟩ := HP1.out.c
    go_upto_region 8 with (go_at_call 202; (with_reducible refine (HSK.out _ HP1.out).mono ?_); rintro e w2 ⟨rfl, hp2, hx2⟩)
    have HP2 := Lib.hid hp2; have HX2 := Lib.hid (HX1.out.trans hx2)
    clear hp2 hx2 c0 c1 c2 c3 r1 hpl
    go_upto_region 9 with (go_at_call 181; (with_reducible refine (HN2.out _ HP2.out).mono ?_); rintro e w3 ⟨rfl, hp3, hx3⟩)
    have HP3 := Lib.hid hp3; have HX3 := Lib.hid (HX2.out.trans hx3)
    have r1 := (hp3.r 2).trans HR.out
    have hpl := Rg.lt_of_heap hp3.at_
    clear hp3 hx3
    have hxa : Ext w3 (w3.alloc (.cells #[.int .i64 a, .int .i64 b] 72)) := Ext.alloc (Ext.refl _) _
    have hat : (w3.alloc (.cells #[.int .i64 a, .int .i64 b] 72)).heap[w3.heap.size]? = some (.cells #[.int .i64 a, .int .i64 b] 72) := block_new rfl
    have hsz : w3.heap.size ≤ (w3.alloc (.cells #[.int .i64 a, .int .i64 b] 72)).heap.size := hxa.size
    have HXA := Lib.hid hxa
    clear hxa
    go_wp2_with (at_builtin; (refine append_one (cs := cellsLot) (z := .agg #[.int .i64 0, .int .i64 0]) (fun _ => ⟨rfl, by simp [cellsLot, Value.oneCell']⟩) 26 72 16 Tryz.underlying26 (by kernel_rfl) (by rfl) (by decide) (by decide) rfl (.tmp 47) (.tmp 51) rfl w3.heap.size (.slice none 0 0) [] (by rfl) ⟨rfl, .inl ⟨rfl, rfl⟩⟩ w3.heap.size (a, b) (by rfl) hat (by simp) hsz ?_; intro g7 cap7 w7 hr7 hb7; have HX7 : Hid (Ext w3 w7) := Lib.hid (RowKit.Below.trans HXA.out hb7); have HP7 := Lib.hid (HP3.out.ext HX7.out); have HR7 := Lib.hid hr7; clear hr7 hb7 hat r1 hpl; have r1 := (HP7.out.r 2).trans HR.out; have hpl := Rg.lt_of_heap HP7.out.at_; have f1 : w7.frozen? ⟨p, 6, none⟩ = false := put_frozen HP7.out.at_))
    have hown := own_away (p := p) (o := 6) (u := .slice (some ⟨g7, 0, none⟩) 1 cap7) HR7.out (Rg.lt_of_heap HP3.out.at_) w.heap.size HX3.out.size
    go_end0
    exact ⟨rfl, g7, cap7, Nat.le_trans HX3.out.size hown.1, HP7.out.put 2 _, (HX3.out.ext HX7.out).set _, hown.2⟩
end Go.Proofs.YteomcpplajeidaaGreat
