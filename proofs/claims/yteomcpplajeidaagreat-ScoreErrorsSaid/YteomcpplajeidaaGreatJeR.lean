/-
  Lemmas of this claim (JeR). Nothing is asked.
-/
import Derived.Test.YteomcpplajeidaaGreatJeQ
namespace Go.Proofs.YteomcpplajeidaaGreat
set_option linter.unusedVariables false
set_option linter.unusedSimpArgs false
set_option maxRecDepth 100000
open Go.RowKit
set_option maxHeartbeats 4000000 in
theorem skip_any (T : TypeId) (p : Nat) (tv : Value) (l : List (ByteArray × Int)) (k : Nat) (rest : List Value) (u : ByteArray) (w : World) (h : PX T w p tv l k rest) (hk : k < l.length) (s : ByteArray) (hs : l[k].1 = s) (he : (s.toList == u.toList) = true) (hu : (u.toList == []) = false) (hkb : k ≤ 1000000) :
    Calls Tryz.prog 202 #[.pointer (some ⟨p, 0, none⟩), .string u] w fun e w' => e = .returned (.tuple #[]) ∧ PX T w' p tv l (k + 1) rest ∧ KX p w w' := by
  obtain ⟨c0, c1, c2, c3⟩ := h.c
  have ht := text_any p tv l k w c0 c1 h.tok hk
  rw [hs] at ht
  have HT := Lib.hid ht
  have HP := Lib.hid h
  have hw : IntKind.i64.wrap ((k : Int) + 1) = (k : Int) + 1 := by rw [IntKind.wrap_i64]; omega
  clear h ht hs c0 c1 c2 c3
  go_enter Tryz.func202, Tryz.ntmps202
  go_upto_region 2 with (go_at_call 140; (with_reducible refine HT.out.mono ?_); rintro e w1 ⟨rfl, hx1⟩; have HP1 := Lib.hid (HP.out.ext hx1); have HX1 := Lib.hid hx1; clear hx1)
  obtain ⟨c0, c1, c2, c3⟩ := HP1.out.c
  have f1 : w1.frozen? ⟨p, 1, none⟩ = false := put_frozen HP1.out.at_
  have hpl1 := Rg.lt_of_heap HP1.out.at_
  go_wp2_with (fail)
  go_end0
  exact ⟨rfl, HP1.out.step (k + 1), (KX.of_ext HX1.out).set _⟩
set_option maxHeartbeats 4000000 in
theorem word_any (T : TypeId) (p : Nat) (tv : Value) (l : List (ByteArray × Int)) (k : Nat) (rest : List Value) (w : World) (h : PX T w p tv l k rest) (hk : k < l.length) (s : ByteArray) (hs : l[k].1 = s) (hsz : s.size ≤ 1000000) (hd : worS s = true) (hkb : k ≤ 1000000) :
    Calls Tryz.prog 179 #[.pointer (some ⟨p, 0, none⟩)] w fun e w' => e = .returned (.string s) ∧ PX T w' p tv l (k + 1) rest ∧ KX p w w' := by
  obtain ⟨c0, c1, c2, c3⟩ := h.c
  have ht := text_any p tv l k w c0 c1 h.tok hk
  rw [hs] at ht
  have HT := Lib.hid ht
  have HN := Lib.hid (fun wz => IsWord_any s hsz wz)
  rw [hd] at HN
  have hpl := Rg.lt_of_heap h.at_
  have HP := Lib.hid h
  have hw : IntKind.i64.wrap ((k : Int) + 1) = (k : Int) + 1 := by rw [IntKind.wrap_i64]; omega
  clear h ht hd hs c0 c1 c2 c3
  go_enter Tryz.func179, Tryz.ntmps179
  go_upto_region 2 with (go_at_call 140; (with_reducible refine HT.out.mono ?_); rintro e w1 ⟨rfl, hx1⟩)
  have HP1 := Lib.hid (HP.out.ext hx1)
  have HX1 := Lib.hid hx1
  obtain ⟨c0, c1, c2, c3⟩ := HP1.out.c
  have f1 : w1.frozen? ⟨p, 1, none⟩ = false := put_frozen HP1.out.at_
  have hpl1 := Rg.lt_of_heap HP1.out.at_
  clear hx1 hpl
  go_wp2_with (go_at_call 150; (with_reducible refine (HN.out _).mono ?_); rintro e w2 ⟨rfl, rfl⟩)
  go_ret
  exact ⟨rfl, HP1.out.step (k + 1), (KX.of_ext HX1.out).set _⟩
end Go.Proofs.YteomcpplajeidaaGreat
namespace Go.Proofs.YteomcpplajeidaaGreat
set_option linter.unusedVariables false
set_option linter.unusedSimpArgs false
set_option maxRecDepth 100000
open Go.RowKit
set_option maxHeartbeats 4000000 in
theorem one_any (T : TypeId) (p : Nat) (tv : Value) (l : List (ByteArray × Int)) (k : Nat) (rest : List Value) (a b : ByteArray) (w : World) (h : PX T w p tv l k rest) (hk : k < l.length) (s : ByteArray) (hs : l[k].1 = s) (he : (s.toList == a.toList) = true) (hkb : k ≤ 1000000) :
    Calls Tryz.prog 180 #[.pointer (some ⟨p, 0, none⟩), .string a, .string b] w fun e w' => e = .returned (.string s) ∧ PX T w' p tv l (k + 1) rest ∧ KX p w w' := by
  obtain ⟨c0, c1, c2, c3⟩ := h.c
  have ht := text_any p tv l k w c0 c1 h.tok hk
  rw [hs] at ht
  have HT := Lib.hid ht
  have hpl := Rg.lt_of_heap h.at_
  have HP := Lib.hid h
  have hw : IntKind.i64.wrap ((k : Int) + 1) = (k : Int) + 1 := by rw [IntKind.wrap_i64]; omega
  clear h ht hs c0 c1 c2 c3
  go_enter Tryz.func180, Tryz.ntmps180
  go_upto_region 2 with (go_at_call 140; (with_reducible refine HT.out.mono ?_); rintro e w1 ⟨rfl, hx1⟩)
  have HP1 := Lib.hid (HP.out.ext hx1)
  have HX1 := Lib.hid hx1
  obtain ⟨c0, c1, c2, c3⟩ := HP1.out.c
  have f1 : w1.frozen? ⟨p, 1, none⟩ = false := put_frozen HP1.out.at_
  have hpl1 := Rg.lt_of_heap HP1.out.at_
  clear hx1 hpl
  go_wp2_with (fail)
  go_ret
  exact ⟨rfl, HP1.out.step (k + 1), (KX.of_ext HX1.out).set _⟩
end Go.Proofs.YteomcpplajeidaaGreat
namespace Go.Proofs.YteomcpplajeidaaGreat
set_option linter.unusedVariables false
set_option linter.unusedSimpArgs false
set_option maxRecDepth 100000
open Go.RowKit
theorem PX.put {T : TypeId} {w : World} {p k : Nat} {tv : Value} {l : List (ByteArray × Int)} {rest : List Value} (h : PX T w p tv l k rest) (j : Nat) (u : Value) : PX T (w.setCell ⟨p, j + 4, none⟩ u) p tv l k (rest.set j u) :=
  ⟨(heap_put _ h.at_).trans (by simp), h.tok.kx ((KX.of_ext (Ext.refl _)).set _) h.ne, h.ne⟩
theorem PX.r {T : TypeId} {w : World} {p k : Nat} {tv : Value} {l : List (ByteArray × Int)} {rest : List Value} (h : PX T w p tv l k rest) (j : Nat) : w.cell? ⟨p, j + 4, none⟩ = rest[j]? := by
  rw [cell_of_row w p (j + 4) _ _ _ h.at_]
  simp
theorem own_away {w : World} {B E sz g n c m p o : Nat} {xs : List Value} {u : Value} (h : w.ownsRow B E sz (.slice (some ⟨g, 0, none⟩) n c) m xs) (hp : p < B) (B' : Nat) (hB : B' ≤ B) :
    B ≤ g ∧ (w.setCell ⟨p, o, none⟩ u).ownsRow B' E sz (.slice (some ⟨g, 0, none⟩) n c) m xs := by
  rcases id h.2 with ⟨h1, -⟩ | ⟨g', cap, cur, hv, hb, hg, rest⟩
  · cases h1
  · injection hv with e1 e2 e3
    injection e1 with e1
    injection e1 with e1
    subst e1 e2 e3
    exact ⟨hb, h.1, .inr ⟨g, c, cur, rfl, Nat.le_trans hB hb, (RowKit.Below.heap_setCell _ _ _ _ (by show g ≠ p; omega)).trans hg, rest⟩⟩
set_option maxHeartbeats 4000000 in
theorem lot_any (p : Nat) (tv : Value) (l : List (ByteArray × Int)) (k : Nat) (rest : List Value) (w : World) (h : PX 166 w p tv l k rest) (hk : k + 2 < l.length) (s u m : ByteArray) (hs : l[k].1 = s) (hu : l[k + 1].1 = u) (hm : l[k + 2].1 = m) (hue : (u.toList == [109, 111, 115, 116]) = true)
    (hsz : s.size ≤ 1000000) (hsd : numS s = true) (hs1 : 1 ≤ valU s s.size) (hs2 : valU s s.size ≤ 1000000000) (hmz : m.size ≤ 1000000) (hmd : numS m = true) (hm1 : 0 ≤ valU m m.size) (hm2 : valU m m.size ≤ 1000000000) (hkb : k ≤ 100000) (hr : rest[2]? = some (.slice none 0 0)) :
    Calls Tryz.prog 177 #[.pointer (some ⟨p, 0, none⟩)] w fun e w' => e = .returned (.tuple #[]) ∧ ∃ g cap, w.heap.size ≤ g ∧ PX 166 w' p tv l (k + 3) (rest.set 2 (.slice (some ⟨g, 0, none⟩) 1 cap)) ∧ KX p w w' ∧ w'.ownsRow w.heap.size 72 2 (.slice (some ⟨g, 0, none⟩) 1 cap) 1 ([(valU s s.size, valU m m.size)].flatMap cellsLot) := by
  have HN1 := Lib.hid (number_any 166 p tv l k rest 1 w h (by omega) s hs hsz hsd hs1 hs2 (by omega))
  have HSK := Lib.hid (fun wz (hz : PX 166 wz p tv l (k + 1) rest) => skip_any 166 p tv l (k + 1) rest ⟨#[109, 111, 115, 116]⟩ wz hz (by omega) u hu (by rw [show (⟨#[109, 111, 115, 116]⟩ : ByteArray).toList = [109, 111, 115, 116] from by kernel_rfl]; exact hue) (by kernel_rfl) (by omega))
  have HN2 := Lib.hid (fun wz (hz : PX 166 wz p tv l (k + 2) rest) => number_any 166 p tv l (k + 2) rest 0 wz hz (by omega) m hm hmz hmd hm1 hm2 (by omega))
  have HR := Lib.hid hr
  clear h hs hu hm hue hsd hs1 hs2 hmd hm1 hm2 hr
  generalize valU s s.size = a at *
  generalize valU m m.size = b at *
  go_enter Tryz.func177, Tryz.ntmps177
  go_upto_region 1 with (go_at_call 181; (with_reducible refine HN1.out.mono ?_); rintro e w1 ⟨rfl, hp1, hx1⟩)
  have HP1 := Lib.hid hp1; have HX1 := Lib.hid hx1
  have r1 := (hp1.r 2).trans HR.out
  have hpl := Rg.lt_of_heap hp1.at_
  clear hp1 hx1
  go_upto_region 2 with (fail)
  go_loopw [3] (fun kv wr => kv = .int .i64 0 ∧ wr = w1) (fun kv _ => 0)
  case atStart => exact ⟨rfl, rfl⟩
  case round =>
    obtain ⟨rfl, rfl⟩ := hrel
    obtain ⟨c0, c1, c2, c3⟩ := HP1.out.c
    go_upto_region 8 with (go_at_call 202; (with_reducible refine (HSK.out _ HP1.out).mono ?_); rintro e w2 ⟨rfl, hp2, hx2⟩)
    have HP2 := Lib.hid hp2; have HX2 := Lib.hid (HX1.out.trans hx2)
    clear hp2 hx2 c0 c1 c2 c3 r1 hpl
    go_upto_region 9 with (go_at_call 181; (with_reducible refine (HN2.out _ HP2.out).mono ?_); rintro e w3 ⟨rfl, hp3, hx3⟩)
    have HP3 := Lib.hid hp3; have HX3 := Lib.hid (HX2.out.trans hx3)
    have r1 := (hp3.r 2).trans HR.out
    have hpl := Rg.lt_of_heap hp3.at_
    clear hp3 hx3
    have hxa : Ext w3 (w3.alloc (.cells #[.int .i64 a, .int .i64 b] 72)) := Ext.alloc (Ext.refl _) _
    have hat : (w3.alloc (.cells #[.int .i64 a, .int .i64 b] 72)).heap[w3.heap.size]? = some (.cells #[.int .i64 a, .int .i64 b] 72) := block_new rfl
    have hsz : w3.heap.size ≤ (w3.alloc (.cells #[.int .i64 a, .int .i64 b] 72)).heap.size := hxa.size
    have HXA := Lib.hid hxa
    clear hxa
    go_wp2_with (at_builtin; (refine append_one (cs := cellsLot) (z := .agg #[.int .i64 0, .int .i64 0]) (fun _ => ⟨rfl, by simp [cellsLot, Value.oneCell']⟩) 26 72 16 Tryz.underlying26 (by kernel_rfl) (by rfl) (by decide) (by decide) rfl (.tmp 47) (.tmp 51) rfl w3.heap.size (.slice none 0 0) [] (by rfl) ⟨rfl, .inl ⟨rfl, rfl⟩⟩ w3.heap.size (a, b) (by rfl) hat (by simp) hsz ?_; intro g7 cap7 w7 hr7 hb7; have HX7 : Hid (Ext w3 w7) := Lib.hid (RowKit.Below.trans HXA.out hb7); have HP7 := Lib.hid (HP3.out.ext HX7.out); have HR7 := Lib.hid hr7; clear hr7 hb7 hat r1 hpl; have r1 := (HP7.out.r 2).trans HR.out; have hpl := Rg.lt_of_heap HP7.out.at_; have f1 : w7.frozen? ⟨p, 6, none⟩ = false := put_frozen HP7.out.at_))
    have hown := own_away (p := p) (o := 6) (u := .slice (some ⟨g7, 0, none⟩) 1 cap7) HR7.out (Rg.lt_of_heap HP3.out.at_) w.heap.size HX3.out.size
    go_end0
    exact ⟨rfl, g7, cap7, Nat.le_trans HX3.out.size hown.1, HP7.out.put 2 _, (HX3.out.ext HX7.out).set _, hown.2⟩
end Go.Proofs.YteomcpplajeidaaGreat
namespace Go.Proofs.YteomcpplajeidaaGreat
set_option linter.unusedVariables false
set_option linter.unusedSimpArgs false
set_option maxRecDepth 100000
open Go.RowKit
theorem PX.away {T : TypeId} {w : World} {p k q o : Nat} {tv u : Value} {l : List (ByteArray × Int)} {rest : List Value} (h : PX T w p tv l k rest) (hq : p ≠ q) (hne : ∀ b n c, tv = .slice (some ⟨b, 0, none⟩) n c → b ≠ q) : PX T (w.setCell ⟨q, o, none⟩ u) p tv l k rest :=
  ⟨(RowKit.Below.heap_setCell _ _ _ _ hq).trans h.at_, h.tok.kx ((KX.of_ext (Ext.refl _)).set _) hne, h.ne⟩
theorem PX.lt {T : TypeId} {w : World} {p k : Nat} {tv : Value} {l : List (ByteArray × Int)} {rest : List Value} (h : PX T w p tv l k rest) (h0 : 0 < l.length) : ∀ b n c, tv = .slice (some ⟨b, 0, none⟩) n c → b < w.heap.size := by
  rintro b n c rfl
  obtain ⟨g, e, -, hg, -⟩ := tok_at h.tok 0 h0
  injection e with e
  injection e with e
  subst e
  exact hg
theorem KX.at {p q : Nat} {w w' : World} (k : KX p w w') {cs : Array Value} {t : TypeId} (h : w.heap[q]? = some (.cells cs t)) (hq : q ≠ p) : w'.heap[q]? = some (.cells cs t) :=
  (k.block q (Rg.lt_of_heap h) (fun e => hq (by injection e))).trans h
theorem KX.new {p q o : Nat} {w w' : World} {u : Value} (k : KX p w w') (hq : w.heap.size ≤ q) : KX p w (w'.setCell ⟨q, o, none⟩ u) :=
  ⟨k.os, k.tape, k.output, by rw [World.size_setCell]; exact k.size, fun i hi hne => (RowKit.Below.heap_setCell _ _ _ _ (show i ≠ q by omega)).trans (k.block i hi hne)⟩
structure CX (w0 w : World) (p c : Nat) (tv : Value) (l : List (ByteArray × Int)) (k : Nat) (rest : List Value) (cs : Array Value) : Prop where
  px : PX 166 w p tv l k rest
  at_ : w.heap[c]? = some (.cells cs 78)
  low : KX p w0 w
  ge : w0.heap.size ≤ c
  pc : p ≠ c
  ne : ∀ b n c', tv = .slice (some ⟨b, 0, none⟩) n c' → b ≠ c
section
variable {w0 w w' : World} {p c k k' : Nat} {tv : Value} {l : List (ByteArray × Int)} {rest : List Value} {cs : Array Value}
theorem CX.ext (h : CX w0 w p c tv l k rest cs) (x : Ext w w') : CX w0 w' p c tv l k rest cs := ⟨h.px.ext x, (x.block _ (Rg.lt_of_heap h.at_)).trans h.at_, h.low.ext x, h.ge, h.pc, h.ne⟩
theorem CX.go (h : CX w0 w p c tv l k rest cs) (hp : PX 166 w' p tv l k' rest) (x : KX p w w') : CX w0 w' p c tv l k' rest cs := ⟨hp, x.at h.at_ (Ne.symm h.pc), h.low.trans x, h.ge, h.pc, h.ne⟩
theorem CX.put (h : CX w0 w p c tv l k rest cs) (o : Nat) (u : Value) : CX w0 (w.setCell ⟨c, o, none⟩ u) p c tv l k rest (cs.setIfInBounds o u) := ⟨h.px.away h.pc h.ne, heap_put _ h.at_, h.low.new h.ge, h.ge, h.pc, h.ne⟩
end
set_option maxHeartbeats 8000000 in
theorem critL_any (p : Nat) (tv : Value) (l : List (ByteArray × Int)) (k : Nat) (rest : List Value) (w : World) (h : PX 166 w p tv l k rest) (hk : k + 4 < l.length) (s g a b z : ByteArray) (hs : l[k].1 = s) (hg : l[k + 1].1 = g) (ha : l[k + 2].1 = a) (hb : l[k + 3].1 = b) (hz : l[k + 4].1 = z)
    (hsz : s.size ≤ 1000000) (hsd : worS s = true) (hge : (g.toList == [103, 114, 97, 100, 101]) = true) (hgo : (g.toList == [111, 102, 102, 101, 114]) = false) (hze : (z.toList == [108, 101, 115, 115]) = false)
    (haz : a.size ≤ 1000000) (had : numS a = true) (ha1 : 0 ≤ valU a a.size) (ha2 : valU a a.size ≤ 1000000000) (hbz : b.size ≤ 1000000) (hbd : numS b = true) (hb1 : 0 ≤ valU b b.size) (hb2 : valU b b.size ≤ 1000000000) (hkb : k ≤ 100000) (hr : rest[3]? = some (.slice none 0 0)) :
    Calls Tryz.prog 178 #[.pointer (some ⟨p, 0, none⟩)] w fun e w' => e = .returned (.tuple #[]) ∧ ∃ q cap, w.heap.size ≤ q ∧ PX 166 w' p tv l (k + 4) (rest.set 3 (.slice (some ⟨q, 0, none⟩) 1 cap)) ∧ KX p w w' ∧ w'.ownsRow w.heap.size 78 5 (.slice (some ⟨q, 0, none⟩) 1 cap) 1 ([⟨s, 1, valU a a.size, valU b b.size, false⟩].flatMap cellsCr) := by
  have HW := Lib.hid (word_any 166 p tv l k rest w h (by omega) s hs hsz hsd (by omega))
  have HG := Lib.hid (fun wz o (hw : PX 166 wz p tv l (k + 1) rest) => one_any 166 p tv l (k + 1) rest ⟨#[103, 114, 97, 100, 101]⟩ o wz hw (by omega) g hg (by rw [show (⟨#[103, 114, 97, 100, 101]⟩ : ByteArray).toList = [103, 114, 97, 100, 101] from by kernel_rfl]; exact hge) (by omega))
  have HA := Lib.hid (fun wz (hw : PX 166 wz p tv l (k + 2) rest) => number_any 166 p tv l (k + 2) rest 0 wz hw (by omega) a ha haz had ha1 ha2 (by omega))
  have HB := Lib.hid (fun wz (hw : PX 166 wz p tv l (k + 3) rest) => number_any 166 p tv l (k + 3) rest 0 wz hw (by omega) b hb hbz hbd hb1 hb2 (by omega))
  have HZ := Lib.hid (fun wz (hw : PX 166 wz p tv l (k + 4) rest) => text_any p tv l (k + 4) wz hw.c.1 hw.c.2.1 hw.tok (by omega))
  rw [hz] at HZ
  have HR := Lib.hid hr; have H0 := Lib.hid h
  have hl0 : 0 < l.length := by omega
  clear h hs hg ha hb hz hsd had ha1 ha2 hbd hb1 hb2 hr hge
  generalize valU a a.size = x at *
  generalize valU b b.size = y at *
  go_enter Tryz.func178, Tryz.ntmps178
  go_upto_region 1 with (go_at_call 179; (with_reducible refine HW.out.mono ?_); rintro e w1 ⟨rfl, hp1, hx1⟩)
  have hc1 : CX w (w1.alloc (.cells #[.string s, .int .i64 1, .int .i64 0, .int .i64 0, .bool false] 78)) p w1.heap.size tv l (k + 1) rest #[.string s, .int .i64 1, .int .i64 0, .int .i64 0, .bool false] :=
    ⟨hp1.ext (Ext.alloc (Ext.refl _) _), block_new rfl, hx1.ext (Ext.alloc (Ext.refl _) _), hx1.size, (by have := Rg.lt_of_heap hp1.at_; omega), fun b n c' e => by have := hp1.lt hl0 b n c' e; omega⟩
  have HC1 := Lib.hid hc1
  obtain ⟨c, hc⟩ : ∃ c, c = w1.heap.size := ⟨_, rfl⟩
  rw [← hc] at HC1 ⊢
  clear hc1 hp1 hx1 hc
  generalize w1.alloc (.cells #[.string s, .int .i64 1, .int .i64 0, .int .i64 0, .bool false] 78) = w2 at *
  have r1 := (HC1.out.px.r 3).trans HR.out
  have hpl := Rg.lt_of_heap HC1.out.px.at_
  have hcl := Rg.lt_of_heap HC1.out.at_
  go_upto_region 2 with (fail)
  go_loopw [3] (fun kv wr => kv = .int .i64 0 ∧ wr = w2) (fun kv _ => 0)
  case atStart => exact ⟨rfl, rfl⟩
  case round =>
    obtain ⟨rfl, rfl⟩ := hrel
    go_upto_region 7 with (go_at_call 180; (with_reducible refine (HG.out _ _ HC1.out.px).mono ?_); rintro e w3 ⟨rfl, hp3, hx3⟩)
    have HC3 := Lib.hid (HC1.out.go hp3 hx3)
    clear hp3 hx3 r1 hpl hcl
    go_upto_region 9 with (fail)
    go_upto_region 10 with (go_at_call 181; (with_reducible refine (HA.out _ HC3.out.px).mono ?_); rintro e w4 ⟨rfl, hp4, hx4⟩; have HC4 := Lib.hid (HC3.out.go hp4 hx4); clear hp4 hx4; have e4 := (cell_of_row w4 c 2 _ _ _ HC4.out.at_); change w4.cell? _ = some (.int .i64 0) at e4; have f4 : w4.frozen? ⟨c, 2, none⟩ = false := put_frozen HC4.out.at_)
    have HC5 := Lib.hid (HC4.out.put 2 (.int .i64 x))
    clear e4 f4
    generalize w4.setCell ⟨c, 2, none⟩ (.int .i64 x) = w5 at *
    go_upto_region 11 with (go_at_call 181; (with_reducible refine (HB.out _ HC5.out.px).mono ?_); rintro e w6 ⟨rfl, hp6, hx6⟩; have HC6 := Lib.hid (HC5.out.go hp6 hx6); clear hp6 hx6; have e6 := (cell_of_row w6 c 3 _ _ _ HC6.out.at_); change w6.cell? _ = some (.int .i64 0) at e6; have f6 : w6.frozen? ⟨c, 3, none⟩ = false := put_frozen HC6.out.at_)
    have HC7 := Lib.hid (HC6.out.put 3 (.int .i64 y))
    clear e6 f6
    generalize w6.setCell ⟨c, 3, none⟩ (.int .i64 y) = w7 at *
    obtain ⟨c0, c1, c2, c3⟩ := HC7.out.px.c
    have hpl := Rg.lt_of_heap HC7.out.px.at_
    go_upto_region 14 with (go_at_call 140; (with_reducible refine (HZ.out _ HC7.out.px).mono ?_); rintro e w8 ⟨rfl, hx8⟩)
    have HC8 := Lib.hid (HC7.out.ext hx8)
    clear hx8 c0 c1 c2 c3 hpl
    have HCC : Hid (∀ wz, Ext w8 wz → wz.cell? ⟨p, 7, none⟩ = some (.slice none 0 0) ∧ wz.cell? ⟨c, 0, none⟩ = some (.string s) ∧ wz.cell? ⟨c, 1, none⟩ = some (.int .i64 1) ∧ wz.cell? ⟨c, 2, none⟩ = some (.int .i64 x) ∧ wz.cell? ⟨c, 3, none⟩ = some (.int .i64 y) ∧ wz.cell? ⟨c, 4, none⟩ = some (.bool false) ∧ p < wz.heap.size ∧ c < wz.heap.size) := Lib.hid fun wz hz => by
      have h1 := HC8.out.ext hz
      have h2 := h1.at_
      exact ⟨(h1.px.r 3).trans HR.out, cell_of_row wz c 0 _ _ _ h2, cell_of_row wz c 1 _ _ _ h2, cell_of_row wz c 2 _ _ _ h2, cell_of_row wz c 3 _ _ _ h2, cell_of_row wz c 4 _ _ _ h2, Rg.lt_of_heap h1.px.at_, Rg.lt_of_heap h2⟩
    refine Rp.wp_regionTE [0] [(0, .y), (1, .y), (2, .y), (3, .y), (4, .y), (5, .y), (6, .y), (7, .m)] [8, 9, 10, 11, 12] (fun _ => (.cells #[.string s, .int .i64 1, .int .i64 x, .int .i64 y, .bool false] 78, fun p => .slice (some ⟨p, 0, none⟩) 1 1)) (fun c a d v w h => by have h' : _ ∧ _ := h; exact ⟨(Rr.put_defers a d v).symm.trans h'.1, h'.2⟩) (by kernel_rfl) (by kernel_rfl) ?_
    (refine Rr.wr_y (by simp only [List.getElem?_toArray, List.getElem?_cons_succ, List.getElem?_cons_zero]; rfl) (by rfl) ?_
     apply Exists.intro
     refine ⟨fun wz hw hh => ?_, ?_⟩
     · obtain ⟨d0, d1, d2, d3, d4, d5, d6, d7⟩ := HCC.out wz hw
       go_simp
       (with_reducible exact Rg.up_value)
     simp only [Act.put, List.setIfInBounds_toArray, List.set_cons_zero, List.set_cons_succ])
    (refine Rr.wr_y (by simp only [List.getElem?_toArray, List.getElem?_cons_succ, List.getElem?_cons_zero]; rfl) (by rfl) ?_
     apply Exists.intro
     refine ⟨fun wz hw hh => ?_, ?_⟩
     · obtain ⟨d0, d1, d2, d3, d4, d5, d6, d7⟩ := HCC.out wz hw
       go_simp
       (with_reducible exact Rg.up_value)
     simp only [Act.put, List.setIfInBounds_toArray, List.set_cons_zero, List.set_cons_succ])
    (refine Rr.wr_y (by simp only [List.getElem?_toArray, List.getElem?_cons_succ, List.getElem?_cons_zero]; rfl) (by rfl) ?_
     apply Exists.intro
     refine ⟨fun wz hw hh => ?_, ?_⟩
     · obtain ⟨d0, d1, d2, d3, d4, d5, d6, d7⟩ := HCC.out wz hw
       go_simp
       (with_reducible exact Rg.up_value)
     simp only [Act.put, List.setIfInBounds_toArray, List.set_cons_zero, List.set_cons_succ])
    (refine Rr.wr_y (by simp only [List.getElem?_toArray, List.getElem?_cons_succ, List.getElem?_cons_zero]; rfl) (by rfl) ?_
     apply Exists.intro
     refine ⟨fun wz hw hh => ?_, ?_⟩
     · obtain ⟨d0, d1, d2, d3, d4, d5, d6, d7⟩ := HCC.out wz hw
       go_simp
       (with_reducible exact Rg.up_value)
     simp only [Act.put, List.setIfInBounds_toArray, List.set_cons_zero, List.set_cons_succ])
    (refine Rr.wr_y (by simp only [List.getElem?_toArray, List.getElem?_cons_succ, List.getElem?_cons_zero]; rfl) (by rfl) ?_
     apply Exists.intro
     refine ⟨fun wz hw hh => ?_, ?_⟩
     · obtain ⟨d0, d1, d2, d3, d4, d5, d6, d7⟩ := HCC.out wz hw
       go_simp
       (with_reducible exact Rg.up_value)
     simp only [Act.put, List.setIfInBounds_toArray, List.set_cons_zero, List.set_cons_succ])
    (refine Rr.wr_y (by simp only [List.getElem?_toArray, List.getElem?_cons_succ, List.getElem?_cons_zero]; rfl) (by rfl) ?_
     apply Exists.intro
     refine ⟨fun wz hw hh => ?_, ?_⟩
     · obtain ⟨d0, d1, d2, d3, d4, d5, d6, d7⟩ := HCC.out wz hw
       go_simp
       (with_reducible exact Rg.up_value)
     simp only [Act.put, List.setIfInBounds_toArray, List.set_cons_zero, List.set_cons_succ])
    (refine Rr.wr_y (by simp only [List.getElem?_toArray, List.getElem?_cons_succ, List.getElem?_cons_zero]; rfl) (by rfl) ?_
     apply Exists.intro
     refine ⟨fun wz hw hh => ?_, ?_⟩
     · obtain ⟨d0, d1, d2, d3, d4, d5, d6, d7⟩ := HCC.out wz hw
       go_simp
       (with_reducible exact Rg.up_value)
     simp only [Act.put, List.setIfInBounds_toArray, List.set_cons_zero, List.set_cons_succ])
    (refine Rr.wr_m (by simp only [List.getElem?_toArray, List.getElem?_cons_succ, List.getElem?_cons_zero]; rfl) (by rfl) (fun wz => by go_simp) (fun pR hpR => ?_)
     simp only [Act.put, List.setIfInBounds_toArray, List.set_cons_zero, List.set_cons_succ])
    refine Rr.wr_nil ?_
    intro wy hy hh
    obtain ⟨hpge, hpb⟩ := hh _ List.mem_cons_self
    clear hh
    simp only [List.filterMap_cons, List.filterMap_nil, List.getElem?_cons_succ, List.getElem?_cons_zero]
    have HC9 := Lib.hid (HC8.out.ext hy)
    have hsz : w8.heap.size ≤ wy.heap.size := hy.size
    have HY := Lib.hid hy
    have HRL := Lib.hid (KX.at (p := p) (KX.of_ext (Ext.refl wy)) hpb)
    clear hy
    refine append_one (cs := cellsCr) (z := .agg #[.string ⟨#[]⟩, .int .i64 0, .int .i64 0, .int .i64 0, .bool false]) (fun _ => ⟨rfl, by simp [cellsCr, Value.oneCell']⟩) 27 78 48 Tryz.underlying27 (by kernel_rfl) (by rfl) (by decide) (by decide) rfl (.tmp 71) (.tmp 73) rfl wy.heap.size (.slice none 0 0) [] (by rfl) ⟨rfl, .inl ⟨rfl, rfl⟩⟩ pR ⟨s, 1, x, y, false⟩ (by rfl) hpb (by simp) (Nat.le_refl _) ?_
    intro g7 cap7 u7 hr7 hb7
    have HC10 := Lib.hid (HC9.out.ext hb7)
    have HR7 := Lib.hid hr7
    clear hr7 hb7 hpb hpR hpge hsz HRL
    have r1 := (HC10.out.px.r 3).trans HR.out
    have hpl := Rg.lt_of_heap HC10.out.px.at_
    have f1 : u7.frozen? ⟨p, 7, none⟩ = false := put_frozen HC10.out.px.at_
    simp only [Act.put, List.setIfInBounds_toArray, List.set_cons_zero, List.set_cons_succ]
    go_wp2_with (fail)
    have hown := own_away (p := p) (o := 7) (u := .slice (some ⟨g7, 0, none⟩) 1 cap7) HR7.out (Rg.lt_of_heap HC9.out.px.at_) w.heap.size HC9.out.low.size
    go_end0
    exact ⟨rfl, g7, cap7, Nat.le_trans HC9.out.low.size hown.1, HC10.out.px.put 3 _, HC10.out.low.set _, hown.2⟩
end Go.Proofs.YteomcpplajeidaaGreat
