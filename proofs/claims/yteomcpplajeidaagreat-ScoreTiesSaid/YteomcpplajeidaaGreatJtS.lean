/-
  Lemmas of this claim (JtS). Nothing is asked.
-/
import Derived.Test.YteomcpplajeidaaGreatJtR
namespace Go.Proofs.YteomcpplajeidaaGreat
set_option linter.unusedVariables false
set_option linter.unusedSimpArgs false
set_option maxRecDepth 100000
open Go.RowKit
theorem PX.away {T : TypeId} {w : World} {p k q o : Nat} {tv u : Value} {l : List (ByteArray × Int)} {rest : List Value} (h : PX T w p tv l k rest) (hq : p ≠ q) (hne : ∀ b n c, tv = .slice (some ⟨b, 0, none⟩) n c → b ≠ q) : PX T (w.setCell ⟨q, o, none⟩ u) p tv l k rest :=
  ⟨(RowKit.Below.heap_setCell _ _ _ _ hq).trans h.at_, h.tok.kx ((KX.of_ext (Ext.refl _)).set _) hne, h.ne⟩
theorem PX.lt {T : TypeId} {w : World} {p k : Nat} {tv : Value} {l : List (ByteArray × Int)} {rest : List Value} (h : PX T w p tv l k rest) (h0 : 0 < l.length) : ∀ b n c, tv = .slice (some ⟨b, 0, none⟩) n c → b < w.heap.size := by
  rintro b n c rfl
  obtain ⟨g, e, -, hg, -⟩ := tok_at h.tok 0 h0
  injection e with e
  injection e with e
  subst e
  exact hg
theorem KX.at {p q : Nat} {w w' : World} (k : KX p w w') {cs : Array Value} {t : TypeId} (h : w.heap[q]? = some (.cells cs t)) (hq : q ≠ p) : w'.heap[q]? = some (.cells cs t) :=
  (k.block q (Rg.lt_of_heap h) (fun e => hq (by injection e))).trans h
theorem KX.new {p q o : Nat} {w w' : World} {u : Value} (k : KX p w w') (hq : w.heap.size ≤ q) : KX p w (w'.setCell ⟨q, o, none⟩ u) :=
  ⟨k.os, k.tape, k.output, by rw [World.size_setCell]; exact k.size, fun i hi hne => (RowKit.Below.heap_setCell _ _ _ _ (show i ≠ q by omega)).trans (k.block i hi hne)⟩
structure CX (w0 w : World) (p c : Nat) (tv : Value) (l : List (ByteArray × Int)) (k : Nat) (rest : List Value) (cs : Array Value) : Prop where
  px : PX 166 w p tv l k rest
  at_ : w.heap[c]? = some (.cells cs 78)
  low : KX p w0 w
  ge : w0.heap.size ≤ c
  pc : p ≠ c
  ne : ∀ b n c', tv = .slice (some ⟨b, 0, none⟩) n c' → b ≠ c
section
variable {w0 w w' : World} {p c k k' : Nat} {tv : Value} {l : List (ByteArray × Int)} {rest : List Value} {cs : Array Value}
theorem CX.ext (h : CX w0 w p c tv l k rest cs) (x : Ext w w') : CX w0 w' p c tv l k rest cs := ⟨h.px.ext x, (x.block _ (Rg.lt_of_heap h.at_)).trans h.at_, h.low.ext x, h.ge, h.pc, h.ne⟩
theorem CX.go (h : CX w0 w p c tv l k rest cs) (hp : PX 166 w' p tv l k' rest) (x : KX p w w') : CX w0 w' p c tv l k' rest cs := ⟨hp, x.at h.at_ (Ne.symm h.pc), h.low.trans x, h.ge, h.pc, h.ne⟩
theorem CX.put (h : CX w0 w p c tv l k rest cs) (o : Nat) (u : Value) : CX w0 (w.setCell ⟨c, o, none⟩ u) p c tv l k rest (cs.setIfInBounds o u) := ⟨h.px.away h.pc h.ne, heap_put _ h.at_, h.low.new h.ge, h.ge, h.pc, h.ne⟩
end
set_option maxHeartbeats 8000000 in
theorem critL_any (p : Nat) (tv : Value) (l : List (ByteArray × Int)) (k : Nat) (rest : List Value) (w : World) (h : PX 166 w p tv l k rest) (hk : k + 4 < l.length) (s g a b z : ByteArray) (hs : l[k].1 = s) (hg : l[k + 1].1 = g) (ha : l[k + 2].1 = a) (hb : l[k + 3].1 = b) (hz : l[k + 4].1 = z)
    (hsz : s.size ≤ 1000000) (hsd : worS s = true) (hge : (g.toList == [103, 114, 97, 100, 101]) = true) (hgo : (g.toList == [111, 102, 102, 101, 114]) = false) (hze : (z.toList == [108, 101, 115, 115]) = false)
    (haz : a.size ≤ 1000000) (had : numS a = true) (ha1 : 0 ≤ valU a a.size) (ha2 : valU a a.size ≤ 1000000000) (hbz : b.size ≤ 1000000) (hbd : numS b = true) (hb1 : 0 ≤ valU b b.size) (hb2 : valU b b.size ≤ 1000000000) (hkb : k ≤ 100000) (hr : rest[3]? = some (.slice none 0 0)) :
    Calls Tryz.prog 178 #[.pointer (some ⟨p, 0, none⟩)] w fun e w' => e = .returned (.tuple #[]) ∧ ∃ q cap, w.heap.size ≤ q ∧ PX 166 w' p tv l (k + 4) (rest.set 3 (.slice (some ⟨q, 0, none⟩) 1 cap)) ∧ KX p w w' ∧ w'.ownsRow w.heap.size 78 5 (.slice (some ⟨q, 0, none⟩) 1 cap) 1 ([⟨s, 1, valU a a.size, valU b b.size, false⟩].flatMap cellsCr) := by
  have HW := Lib.hid (word_any 166 p tv l k rest w h (by omega) s hs hsz hsd (by omega))
  have HG := Lib.hid (fun wz o (hw : PX 166 wz p tv l (k + 1) rest) => one_any 166 p tv l (k + 1) rest ⟨#[103, 114, 97, 100, 101]⟩ o wz hw (by omega) g hg (by rw [show (⟨#[103, 114, 97, 100, 101]⟩ : ByteArray).toList = [103, 114, 97, 100, 101] from by kernel_rfl]; exact hge) (by omega))
  have HA := Lib.hid (fun wz (hw : PX 166 wz p tv l (k + 2) rest) => number_any 166 p tv l (k + 2) rest 0 wz hw (by omega) a ha haz had ha1 ha2 (by omega))
  have HB := Lib.hid (fun wz (hw : PX 166 wz p tv l (k + 3) rest) => number_any 166 p tv l (k + 3) rest 0 wz hw (by omega) b hb hbz hbd hb1 hb2 (by omega))
  have HZ := Lib.hid (fun wz (hw : PX 166 wz p tv l (k + 4) rest) => text_any p tv l (k + 4) wz hw.c.1 hw.c.2.1 hw.tok (by omega))
  rw [hz] at HZ
  have HR := Lib.hid hr; have H0 := Lib.hid h
  have hl0 : 0 < l.length := by omega
  clear h hs hg ha hb hz hsd had ha1 ha2 hbd hb1 hb2 hr hge
  generalize valU a a.size = x at *
  generalize valU b b.size = y at *
  go_enter Tryz.func178, Tryz.ntmps178
  go_upto_region 1 with (go_at_call 179; (with_reducible refine HW.out.mono ?_); rintro e w1 ⟨rfl, hp1, hx1⟩)
  have hc1 : CX w (w1.alloc (.cells #[.string s, .int .i64 1, .int .i64 0, .int .i64 0, .bool false] 78)) p w1.heap.size tv l (k + 1) rest #[.string s, .int .i64 1, .int .i64 0, .int .i64 0, .bool false] :=
    ⟨hp1.ext (Ext.alloc (Ext.refl _) _), block_new rfl, hx1.ext (Ext.alloc (Ext.refl _) _), hx1.size, (by have := Rg.lt_of_heap hp1.at_; omega), fun b n c' e => by have := hp1.lt hl0 b n c' e; omega⟩
  have HC1 := Lib.hid hc1
  obtain ⟨c, hc⟩ : ∃ c, c = w1.heap.size := ⟨_, rfl⟩
  rw [← hc] at HC1 ⊢
  clear hc1 hp1 hx1 hc
  generalize w1.alloc (.cells #[.string s, .int .i64 1, .int .i64 0, .int .i64 0, .bool false] 78) = w2 at *
  have r1 := (HC1.out.px.r 3).trans HR.out
  have hpl := Rg.lt_of_heap HC1.out.px.at_
  have hcl := Rg.lt_of_heap HC1.out.at_
  go_upto_region 2 with (fail)
  go_loopw [3] (fun kv wr => kv = .int .i64 0 ∧ wr = w2) (fun kv _ => 0)
  case atStart => exact ⟨rfl, rfl⟩
  case round =>
    obtain ⟨rfl, rfl⟩ := hrel
    go_upto_region 7 with (go_at_call 180; (with_reducible refine (HG.out _ _ HC1.out.px).mono ?_); rintro e w3 ⟨rfl, hp3, hx3⟩)
    have HC3 := Lib.hid (HC1.out.go hp3 hx3)
    clear hp3 hx3 r1 hpl hcl
    go_upto_region 9 with (fail)
    go_upto_region 10 with (go_at_call 181; (with_reducible refine (HA.out _ HC3.out.px).mono ?_); rintro e w4 ⟨rfl, hp4, hx4⟩; have HC4 := Lib.hid (HC3.out.go hp4 hx4); clear hp4 hx4; have e4 := (cell_of_row w4 c 2 _ _ _ HC4.out.at_); change w4.cell? _ = some (.int .i64 0) at e4; have f4 : w4.frozen? ⟨c, 2, none⟩ = false := put_frozen HC4.out.at_)
    have HC5 := Lib.hid (HC4.out.put 2 (.int .i64 x))
    clear e4 f4
    generalize w4.setCell ⟨c, 2, none⟩ (.int .i64 x) = w5 at *
    go_upto_region 11 with (go_at_call 181; (with_reducible refine (HB.out _ HC5.out.px).mono ?_); rintro e w6 ⟨rfl, hp6, hx6⟩; have HC6 := Lib.hid (HC5.out.go hp6 hx6); clear hp6 hx6; have e6 := (cell_of_row w6 c 3 _ _ _ HC6.out.at_); change w6.cell? _ = some (.int .i64 0) at e6; have f6 : w6.frozen? ⟨c, 3, none⟩ = false := put_frozen HC6.out.at_)
    have HC7 := Lib.hid (HC6.out.put 3 (.int .i64 y))
    clear e6 f6
    generalize w6.setCell ⟨c, 3, none⟩ (.int .i64 y) = w7 at *
    obtain ⟨c0, c1, c2, c3⟩ := HC7.out.px.c
    have hpl := Rg.lt_of_heap HC7.out.px.at_
    go_upto_region 14 with (go_at_call 140; (with_reducible refine (HZ.out _ HC7.out.px).mono ?_); rintro e w8 ⟨rfl, hx8⟩)
    have HC8 := Lib.hid (HC7.out.ext hx8)
    clear hx8 c0 c1 c2 c3 hpl
    have HCC : Hid (∀ wz, Ext w8 wz → wz.cell? ⟨p, 7, none⟩ = some (.slice none 0 0) ∧ wz.cell? ⟨c, 0, none⟩ = some (.string s) ∧ wz.cell? ⟨c, 1, none⟩ = some (.int .i64 1) ∧ wz.cell? ⟨c, 2, none⟩ = some (.int .i64 x) ∧ wz.cell? ⟨c, 3, none⟩ = some (.int .i64 y) ∧ wz.cell? ⟨c, 4, none⟩ = some (.bool false) ∧ p < wz.heap.size ∧ c < wz.heap.size) := Lib.hid fun wz hz => by
      have h1 := HC8.out.ext hz
      have h2 := h1.at_
      exact ⟨(h1.px.r 3).trans HR.out, cell_of_row wz c 0 _ _ _ h2, cell_of_row wz c 1 _ _ _ h2, cell_of_row wz c 2 _ _ _ h2, cell_of_row wz c 3 _ _ _ h2, cell_of_row wz c 4 _ _ _ h2, Rg.lt_of_heap h1.px.at_, Rg.lt_of_heap h2⟩
    refine Rp.wp_regionTE [0] [(0, .y), (1, .y), (2, .y), (3, .y), (4, .y), (5, .y), (6, .y), (7, .m)] [8, 9, 10, 11, 12] (fun _ => (.cells #[.string s, .int .i64 1, .int .i64 x, .int .i64 y, .bool false] 78, fun p => .slice (some ⟨p, 0, none⟩) 1 1)) (fun c a d v w h => by have h' : _ ∧ _ := h; exact ⟨(Rr.put_defers a d v).symm.trans h'.1, h'.2⟩) (by kernel_rfl) (by kernel_rfl) ?_
    (refine Rr.wr_y (by simp only [List.getElem?_toArray, List.getElem?_cons_succ, List.getElem?_cons_zero]; rfl) (by rfl) ?_
     apply Exists.intro
     refine ⟨fun wz hw hh => ?_, ?_⟩
     · obtain ⟨d0, d1, d2, d3, d4, d5, d6, d7⟩ := HCC.out wz hw
       go_simp
       (with_reducible exact Rg.up_value)
     simp only [Act.put, List.setIfInBounds_toArray, List.set_cons_zero, List.set_cons_succ])
    (refine Rr.wr_y (by simp only [List.getElem?_toArray, List.getElem?_cons_succ, List.getElem?_cons_zero]; rfl) (by rfl) ?_
     apply Exists.intro
     refine ⟨fun wz hw hh => ?_, ?_⟩
     · obtain ⟨d0, d1, d2, d3, d4, d5, d6, d7⟩ := HCC.out wz hw
       go_simp
       (with_reducible exact Rg.up_value)
     simp only [Act.put, List.setIfInBounds_toArray, List.set_cons_zero, List.set_cons_succ])
    (refine Rr.wr_y (by simp only [List.getElem?_toArray, List.getElem?_cons_succ, List.getElem?_cons_zero]; rfl) (by rfl) ?_
     apply Exists.intro
     refine ⟨fun wz hw hh => ?_, ?_⟩
     · obtain ⟨d0, d1, d2, d3, d4, d5, d6, d7⟩ := HCC.out wz hw
       go_simp
       (with_reducible exact Rg.up_value)
     simp only [Act.put, List.setIfInBounds_toArray, List.set_cons_zero, List.set_cons_succ])
    (refine Rr.wr_y (by simp only [List.getElem?_toArray, List.getElem?_cons_succ, List.getElem?_cons_zero]; rfl) (by rfl) ?_
     apply Exists.intro
     refine ⟨fun wz hw hh => ?_, ?_⟩
     · obtain ⟨d0, d1, d2, d3, d4, d5, d6, d7⟩ := HCC.out wz hw
       go_simp
       (with_reducible exact Rg.up_value)
     simp only [Act.put, List.setIfInBounds_toArray, List.set_cons_zero, List.set_cons_succ])
    (refine Rr.wr_y (by simp only [List.getElem?_toArray, List.getElem?_cons_succ, List.getElem?_cons_zero]; rfl) (by rfl) ?_
     apply Exists.intro
     refine ⟨fun wz hw hh => ?_, ?_⟩
     · obtain ⟨d0, d1, d2, d3, d4, d5, d6, d7⟩ := HCC.out wz hw
       go_simp
       (with_reducible exact Rg.up_value)
     simp only [Act.put, List.setIfInBounds_toArray, List.set_cons_zero, List.set_cons_succ])
    (refine Rr.wr_y (by simp only [List.getElem?_toArray, List.getElem?_cons_succ, List.getElem?_cons_zero]; rfl) (by rfl) ?_
     apply Exists.intro
     refine ⟨fun wz hw hh => ?_, ?_⟩
     · obtain ⟨d0, d1, d2, d3, d4, d5, d6, d7⟩ := HCC.out wz hw
       go_simp
       (with_reducible exact Rg.up_value)
     simp only [Act.put, List.setIfInBounds_toArray, List.set_cons_zero, List.set_cons_succ])
    (refine Rr.wr_y (by simp only [List.getElem?_toArray, List.getElem?_cons_succ, List.getElem?_cons_zero]; rfl) (by rfl) ?_
     apply Exists.intro
     refine ⟨fun wz hw hh => ?_, ?_⟩
     · obtain ⟨d0, d1, d2, d3, d4, d5, d6, d7⟩ := HCC.out wz hw
       go_simp
       (with_reducible exact Rg.up_value)
     simp only [Act.put, List.setIfInBounds_toArray, List.set_cons_zero, List.set_cons_succ])
    (refine Rr.wr_m (by simp only [List.getElem?_toArray, List.getElem?_cons_succ, List.getElem?_cons_zero]; rfl) (by rfl) (fun wz => by go_simp) (fun pR hpR => ?_)
     simp only [Act.put, List.setIfInBounds_toArray, List.set_cons_zero, List.set_cons_succ])
    refine Rr.wr_nil ?_
    intro wy hy hh
    obtain ⟨hpge, hpb⟩ := hh _ List.mem_cons_self
    clear hh
    simp only [List.filterMap_cons, List.filterMap_nil, List.getElem?_cons_succ, List.getElem?_cons_zero]
    have HC9 := Lib.hid (HC8.out.ext hy)
    have hsz : w8.heap.size ≤ wy.heap.size := hy.size
    have HY := Lib.hid hy
    have HRL := Lib.hid (KX.at (p := p) (KX.of_ext (Ext.refl wy)) hpb)
    clear hy
    refine append_one (cs := cellsCr) (z := .agg #[.string ⟨#[]⟩, .int .i64 0, .int .i64 0, .int .i64 0, .bool false]) (fun _ => ⟨rfl, by simp [cellsCr, Value.oneCell']⟩) 27 78 48 Tryz.underlying27 (by kernel_rfl) (by rfl) (by decide) (by decide) rfl (.tmp 71) (.tmp 73) rfl wy.heap.size (.slice none 0 0) [] (by rfl) ⟨rfl, .inl ⟨rfl, rfl⟩⟩ pR ⟨s, 1, x, y, false⟩ (by rfl) hpb (by simp) (Nat.le_refl _) ?_
    intro g7 cap7 u7 hr7 hb7
    have HC10 := Lib.hid (HC9.out.ext hb7)
    have HR7 := Lib.hid hr7
    clear hr7 hb7 hpb hpR hpge hsz HRL
    have r1 := (HC10.out.px.r 3).trans HR.out
    have hpl := Rg.lt_of_heap HC10.out.px.at_
    have f1 : u7.frozen? ⟨p, 7, none⟩ = false := put_frozen HC10.out.px.at_
    simp only [Act.put, List.setIfInBounds_toArray, List.set_cons_zero, List.set_cons_succ]
    go_wp2_with (fail)
    have hown := own_away (p := p) (o := 7) (u := .slice (some ⟨g7, 0, none⟩) 1 cap7) HR7.out (Rg.lt_of_heap HC9.out.px.at_) w.heap.size HC9.out.low.size
    go_end0
    exact ⟨rfl, g7, cap7, Nat.le_trans HC9.out.low.size hown.1, HC10.out.px.put 3 _, HC10.out.low.set _, hown.2⟩
end Go.Proofs.YteomcpplajeidaaGreat
namespace Go.Proofs.YteomcpplajeidaaGreat
set_option linter.unusedVariables false
set_option linter.unusedSimpArgs false
set_option maxRecDepth 100000
open Go.RowKit
def runP (p : Int → Bool) (s : ByteArray) : Nat → Nat → Nat
  | 0, n => n
  | d + 1, n => if p (byZ s n) then runP p s d (n + 1) else n
theorem runP_le (p : Int → Bool) (s : ByteArray) : ∀ d n, n ≤ runP p s d n ∧ runP p s d n ≤ n + d
  | 0, n => by unfold runP; omega
  | d + 1, n => by
    unfold runP
    have := runP_le p s d (n + 1)
    split <;> omega
theorem runP_go {p : Int → Bool} {s : ByteArray} {n ed : Nat} (h : n < ed) (hp : p (byZ s n) = true) : runP p s (ed - (n + 1)) (n + 1) = runP p s (ed - n) n := by
  obtain ⟨d, hd⟩ : ∃ d, ed - n = d + 1 := ⟨ed - n - 1, by omega⟩
  rw [hd, show ed - (n + 1) = d by omega]
  exact (if_pos hp).symm
theorem runP_no {p : Int → Bool} {s : ByteArray} {n ed : Nat} (hp : p (byZ s n) = false) : runP p s (ed - n) n = n := by
  cases h : ed - n with
  | zero => rfl
  | succ d => exact if_neg (by rw [hp]; decide)
theorem runP_end {p : Int → Bool} {s : ByteArray} {ed : Nat} : runP p s (ed - ed) ed = ed := by rw [Nat.sub_self]; rfl
def nsp (c : Int) : Bool := !decide (c = 32)
def splF (s : ByteArray) (ed : Nat) : Nat → Nat → List (ByteArray × Int)
  | 0, _ => []
  | d + 1, k => if k < ed then (if k < runP nsp s (ed - k) k then [(s.extract k (runP nsp s (ed - k) k), (k : Int))] else []) ++ splF s ed d (runP nsp s (ed - k) k + 1) else []
theorem splF_len (s : ByteArray) (ed : Nat) : ∀ d k, (splF s ed d k).length ≤ ed - k
  | 0, k => Nat.zero_le _
  | d + 1, k => by
    unfold splF
    split
    · have h := splF_len s ed d (runP nsp s (ed - k) k + 1)
      have h2 := runP_le nsp s (ed - k) k
      split <;> simp <;> omega
    · simp
theorem one_tok (x : ByteArray × Int) : (tokC x).length = 2 ∧ ∀ c ∈ tokC x, c.oneCell' = true := ⟨rfl, by intro c hc; simp [tokC] at hc; rcases hc with rfl | rfl <;> rfl⟩
abbrev eofT (ed : Nat) : ByteArray × Int := ((⟨#[]⟩ : ByteArray), (ed : Int))
def splL (s : ByteArray) (fr ed : Nat) : List (ByteArray × Int) := splF s ed (ed + 1 - fr) fr ++ [eofT ed]
set_option maxHeartbeats 8000000 in
theorem split_any (s : ByteArray) (fr ed : Nat) (hs : s.size ≤ 900000) (hft : fr ≤ ed) (hto : ed ≤ s.size) (w : World) : Calls Tryz.prog 139 #[.string s, .int .i64 fr, .int .i64 ed] w fun e w' => ∃ g cap, e = .returned (.slice (some ⟨g, 0, none⟩) (splL s fr ed).length cap) ∧ Ext w w' ∧
    w'.ownsRow w.heap.size 232 2 (.slice (some ⟨g, 0, none⟩) (splL s fr ed).length cap) (splL s fr ed).length ((splL s fr ed).flatMap tokC) := by
  have HL := Lib.hid (splF_len s ed (ed + 1 - fr) fr)
  unfold splL
  obtain ⟨L, hL⟩ : ∃ L, splF s ed (ed + 1 - fr) fr = L := ⟨_, rfl⟩
  rw [hL] at HL ⊢
  have HE := Lib.hid hL
  clear hL
  go_enter Tryz.func139, Tryz.ntmps139
  go_upto_region 3 with (fail)
  go_loopw [7, 8] (fun ov kv wr => ∃ (out : List (ByteArray × Int)) (k d : Nat), kv = .int .i64 k ∧ k ≤ ed + 1 ∧ Hid (ed < k + d) ∧ Hid (out ++ splF s ed d k = L) ∧ Hid (out.length ≤ k - fr ∧ fr ≤ k) ∧ Hid (Ext w wr) ∧ Hid (wr.ownsRow w.heap.size 232 2 ov out.length (out.flatMap tokC))) (fun _ kv _ => ed + 1 - (iof kv).toNat)
  case atStart => exact ⟨[], fr, ed + 1 - fr, rfl, by omega, Lib.hid (by omega), Lib.hid (by rw [HE.out]; rfl), Lib.hid (by simp), Lib.hid (Ext.refl _), Lib.hid (World.ownsRow_nil w _ _ _)⟩
  case round =>
    rename World => wo
    obtain ⟨out, k, d, rfl, hk, HD, HO, HB, HX, HR⟩ := hrel
    by_cases hkt : k < ed
    · have hki : (k : Int) < (ed : Int) := by omega
      obtain ⟨d', rfl⟩ : ∃ d', d = d' + 1 := ⟨d - 1, by have := HD.out; omega⟩
      have HN : Hid (splF s ed (d' + 1) k = (if k < runP nsp s (ed - k) k then [(s.extract k (runP nsp s (ed - k) k), (k : Int))] else []) ++ splF s ed d' (runP nsp s (ed - k) k + 1)) := Lib.hid (if_pos hkt)
      have HRL := Lib.hid (runP_le nsp s (ed - k) k)
      obtain ⟨m, hm⟩ : ∃ m, runP nsp s (ed - k) k = m := ⟨_, rfl⟩
      rw [hm] at HN HRL
      have HM := Lib.hid hm
      clear hm
      go_upto_region 5 with (fail)
      go_loopw [9] (fun nv wr => ∃ n : Nat, nv = .int .i64 n ∧ k ≤ n ∧ n ≤ ed ∧ Hid (runP nsp s (ed - n) n = m) ∧ wr = wo) (fun nv _ => ed - (iof nv).toNat)
      case atStart => exact ⟨k, rfl, Nat.le_refl _, by omega, HM, rfl⟩
      case round =>
        obtain ⟨n, rfl, hkn, hnt, HQ, rfl⟩ := hrel
        by_cases hnl : n < ed
        · by_cases hby : ((s[n].toNat : Nat) : Int) = 32
          · have HE2 : Hid (n = m) := Lib.hid (by rw [← HQ.out]; exact (runP_no (by unfold nsp; rw [byZ_at (by omega), hby]; rfl)).symm)
            by_cases hnk : k < n
            · have hnki : (k : Int) < (n : Int) := by omega
              have HS : Hid (splF s ed (d' + 1) k = (s.extract k n, (k : Int)) :: splF s ed d' (n + 1)) := Lib.hid (by rw [HN.out, ← HE2.out, if_pos hnk]; rfl)
              obtain ⟨W8, hW8⟩ : ∃ W8 : World, W8 = wr.alloc (.cells #[.string (s.extract k n), .int .i64 k] 232) := ⟨_, rfl⟩
              have hxa : Ext wr W8 := by rw [hW8]; exact Ext.alloc (Ext.refl _) _
              have hat : W8.heap[wr.heap.size]? = some (.cells #[.string (s.extract k n), .int .i64 k] 232) := by rw [hW8]; exact block_new rfl
              have HXA := Lib.hid hxa; have HAT := Lib.hid hat; have HW := Lib.hid hW8
              have HRX := Lib.hid (row_ext HR.out hxa)
              have HXB := Lib.hid (HX.out.trans hxa)
              have hlen : out.length < 1000000 := by have := HB.out; omega
              clear hxa hat hW8
              go_wp2_with (at_builtin; rw [← HW.out]; refine append_one (cs := tokC) (z := .agg #[.string ⟨#[]⟩, .int .i64 0]) one_tok 162 232 24 Tryz.underlying162 (by kernel_rfl) (by rfl) (by decide) (by decide) rfl (.tmp 29) (.tmp 36) rfl w.heap.size _ out (by rfl) HRX.out wr.heap.size (s.extract k n, (k : Int)) (by rfl) HAT.out hlen (Nat.le_trans HX.out.size HXA.out.size) ?_; intro g7 cap7 w7 hr7 hb7; have HX7 : Hid (Ext w w7) := Lib.hid (RowKit.Below.trans HXB.out hb7); have HR7 := Lib.hid hr7; clear hr7 hb7)
              exact ⟨⟨out ++ [(s.extract k n, (k : Int))], n + 1, d', by simp, by omega, Lib.hid (by have := HD.out; omega), Lib.hid (by rw [← HO.out, HS.out]; simp), Lib.hid (by have := HB.out; simp; omega), HX7, HR7⟩, by simp [iof]; omega⟩
            · obtain rfl : k = n := by omega
              have HS : Hid (splF s ed (d' + 1) k = splF s ed d' (k + 1)) := Lib.hid (by rw [HN.out, ← HE2.out, if_neg (Nat.lt_irrefl k)]; rfl)
              go_wp2_with (fail)
              all_goals exact ⟨⟨out, k + 1, d', by simp, by omega, Lib.hid (by have := HD.out; omega), Lib.hid (by rw [← HO.out, HS.out]), Lib.hid (by have := HB.out; omega), HX, HR⟩, by simp [iof]; omega⟩
          · have HE2 : Hid (runP nsp s (ed - (n + 1)) (n + 1) = m) := Lib.hid (by rw [← HQ.out]; exact runP_go hnl (by unfold nsp; rw [byZ_at (by omega), decide_eq_false hby]; rfl))
            go_wp2_with (fail)
            exact ⟨⟨n + 1, by simp, by omega, by omega, HE2, trivial⟩, by simp [iof]; omega⟩
        · have hnli : ¬ (n : Int) < (ed : Int) := by omega
          have HE2 : Hid (n = m) := Lib.hid (by rw [← HQ.out, show ed = n by omega]; exact runP_end.symm)
          by_cases hnk : k < n
          · have hnki : (k : Int) < (n : Int) := by omega
            have HS : Hid (splF s ed (d' + 1) k = (s.extract k n, (k : Int)) :: splF s ed d' (n + 1)) := Lib.hid (by rw [HN.out, ← HE2.out, if_pos hnk]; rfl)
            obtain ⟨W8, hW8⟩ : ∃ W8 : World, W8 = wr.alloc (.cells #[.string (s.extract k n), .int .i64 k] 232) := ⟨_, rfl⟩
            have hxa : Ext wr W8 := by rw [hW8]; exact Ext.alloc (Ext.refl _) _
            have hat : W8.heap[wr.heap.size]? = some (.cells #[.string (s.extract k n), .int .i64 k] 232) := by rw [hW8]; exact block_new rfl
            have HXA := Lib.hid hxa; have HAT := Lib.hid hat; have HW := Lib.hid hW8
            have HRX := Lib.hid (row_ext HR.out hxa)
            have HXB := Lib.hid (HX.out.trans hxa)
            have hlen : out.length < 1000000 := by have := HB.out; omega
            clear hxa hat hW8
            go_wp2_with (at_builtin; rw [← HW.out]; refine append_one (cs := tokC) (z := .agg #[.string ⟨#[]⟩, .int .i64 0]) one_tok 162 232 24 Tryz.underlying162 (by kernel_rfl) (by rfl) (by decide) (by decide) rfl (.tmp 29) (.tmp 36) rfl w.heap.size _ out (by rfl) HRX.out wr.heap.size (s.extract k n, (k : Int)) (by rfl) HAT.out hlen (Nat.le_trans HX.out.size HXA.out.size) ?_; intro g7 cap7 w7 hr7 hb7; have HX7 : Hid (Ext w w7) := Lib.hid (RowKit.Below.trans HXB.out hb7); have HR7 := Lib.hid hr7; clear hr7 hb7)
            exact ⟨⟨out ++ [(s.extract k n, (k : Int))], n + 1, d', by simp, by omega, Lib.hid (by have := HD.out; omega), Lib.hid (by rw [← HO.out, HS.out]; simp), Lib.hid (by have := HB.out; simp; omega), HX7, HR7⟩, by simp [iof]; omega⟩
          · obtain rfl : k = n := by omega
            have HS : Hid (splF s ed (d' + 1) k = splF s ed d' (k + 1)) := Lib.hid (by rw [HN.out, ← HE2.out, if_neg (Nat.lt_irrefl k)]; rfl)
            go_wp2_with (fail)
            all_goals exact ⟨⟨out, k + 1, d', by simp, by omega, Lib.hid (by have := HD.out; omega), Lib.hid (by rw [← HO.out, HS.out]), Lib.hid (by have := HB.out; omega), HX, HR⟩, by simp [iof]; omega⟩
    · have hki : ¬ (k : Int) < (ed : Int) := by omega
      have HN : Hid (out = L) := Lib.hid (by rw [← HO.out]; cases d with | zero => simp [splF] | succ d => unfold splF; rw [if_neg hkt]; simp)
      rw [HN.out] at HR HB
      obtain ⟨W8, hW8⟩ : ∃ W8 : World, W8 = wo.alloc (.cells #[.string ⟨#[]⟩, .int .i64 ed] 232) := ⟨_, rfl⟩
      have hxa : Ext wo W8 := by rw [hW8]; exact Ext.alloc (Ext.refl _) _
      have hat : W8.heap[wo.heap.size]? = some (.cells #[.string ⟨#[]⟩, .int .i64 ed] 232) := by rw [hW8]; exact block_new rfl
      have HXA := Lib.hid hxa; have HAT := Lib.hid hat; have HW := Lib.hid hW8
      have HRX := Lib.hid (row_ext HR.out hxa)
      have HXB := Lib.hid (HX.out.trans hxa)
      have hlen : L.length < 1000000 := by have := HB.out; omega
      clear hxa hat hW8
      go_wp2_with (at_builtin; rw [← HW.out]; refine append_one (cs := tokC) (z := .agg #[.string ⟨#[]⟩, .int .i64 0]) one_tok 162 232 24 Tryz.underlying162 (by kernel_rfl) (by rfl) (by decide) (by decide) rfl (.tmp 40) (.tmp 43) rfl w.heap.size _ L (by rfl) HRX.out wo.heap.size (eofT ed) (by rfl) HAT.out hlen (Nat.le_trans HX.out.size HXA.out.size) ?_; intro g7 cap7 w7 hr7 hb7; have HX7 : Hid (Ext w w7) := Lib.hid (RowKit.Below.trans HXB.out hb7); have HR7 := Lib.hid hr7; clear hr7 hb7)
      go_ret
      exact ⟨g7, cap7, by simp, HX7.out, by simpa using HR7.out⟩
end Go.Proofs.YteomcpplajeidaaGreat
