/-
  Lemmas of this claim (JtAB). Nothing is asked.
-/
import Derived.Test.YteomcpplajeidaaGreatJtAA
import Derived.Test.YteomcpplajeidaaGreatJtU
namespace Go.Proofs.YteomcpplajeidaaGreat
set_option linter.unusedVariables false
set_option linter.unusedSimpArgs false
set_option maxRecDepth 100000
open Go.RowKit
def LineAt (S word : ByteArray) (ed : Nat) (L : List (ByteArray × Int)) (d d' : TD) : Prop :=
  ∀ (p : Nat) (tv : Value) (wz : World) (sv : Value) (r : TnR) (A : Nat → Prop) (B : Nat), PX 166 wz p tv L 1 (restOf S r sv) → TF A B wz r d → (∀ b, A b → b ≠ p) → (∀ b, wz.heap.size ≤ b → A b) → B ≤ wz.heap.size →
    Calls Tryz.prog 144 #[.pointer (some ⟨p, 0, none⟩), .string word, .int .i64 ed] wz fun e w' => e = .returned (.tuple #[]) ∧ ∃ r' k', PX 166 w' p tv L k' (restOf S r' sv) ∧ KX p wz w' ∧ TF A B w' r' d'
abbrev singles : List ByteArray := [⟨#[116, 101, 110, 100, 101, 114]⟩, ⟨#[112, 114, 105, 99, 101]⟩, ⟨#[102, 111, 114, 109, 117, 108, 97]⟩, ⟨#[116, 105, 101]⟩, ⟨#[109, 111, 115, 116]⟩, ⟨#[98, 117, 100, 103, 101, 116]⟩, ⟨#[116, 105, 109, 101, 115]⟩]
abbrev manys : List ByteArray := [⟨#[108, 111, 116]⟩, ⟨#[99, 114, 105, 116, 101, 114, 105, 111, 110]⟩, ⟨#[114, 101, 113, 117, 105, 114, 101]⟩, ⟨#[99, 111, 109, 98, 111]⟩]
theorem sr_strs {w : World} {b n : Nat} {t : TypeId} (xs : List ByteArray) (hx : n = xs.length) (h : w.heap[b]? = some (.cells (xs.map Value.string).toArray t)) (hn : xs.length ≤ 1000000) : SR strC 1 w (.slice (some ⟨b, 0, none⟩) n n) xs := by
  subst hx
  refine ⟨_, _, rfl, hn, .inr ⟨b, rfl, fun k hk j u hu => ?_⟩⟩
  have hj : j = 0 := by
    have := (List.getElem?_eq_some_iff.1 hu).1
    simp [strC] at this
    exact this
  subst hj
  rw [cell_of_row w b _ _ _ _ h]
  simp [strC] at hu
  simp [hk, hu]
theorem PX.keep {T : TypeId} {w w' : World} {p k : Nat} {tv : Value} {l : List (ByteArray × Int)} {rest : List Value} (h : PX T w p tv l k rest) (hp : w'.heap[p]? = w.heap[p]?) (hk : ∀ b n c, tv = .slice (some ⟨b, 0, none⟩) n c → w'.heap[b]? = w.heap[b]?) : PX T w' p tv l k rest := by
  refine ⟨hp.trans h.at_, ?_, h.ne⟩
  obtain ⟨base, cap, h1, h2, h3⟩ := h.tok
  refine ⟨base, cap, h1, h2, h3.imp id fun ⟨b, hb, hc⟩ => ⟨b, hb, fun i hi j u hu => ?_⟩⟩
  have h4 := hc i hi j u hu
  rw [← h4]
  unfold World.cell?
  rw [hk b _ _ (by rw [h1, hb])]
theorem NX.grown {w0 w u : World} {p k : Nat} {tv : Value} {l : List (ByteArray × Int)} {S : ByteArray} {r : TnR} {sv : Value} {sn : List ByteArray} {d : TD} (h : NX w0 w p tv l k S r sv sn d) (hg : w.grownBy u sv.ownBlock) (htv : ∀ b n c, tv = .slice (some ⟨b, 0, none⟩) n c → sv.ownBlock ≠ some b ∧ b < w.heap.size) :
    PX 166 u p tv l k (restOf S r sv) ∧ Ext w0 u :=
  ⟨h.px.keep (hg.block p (Rg.lt_of_heap h.px.at_) (fun e => h.sp p e.symm rfl)) (fun b n c e => hg.block b (htv b n c e).2 (fun e' => (htv b n c e).1 e'.symm)),
   ⟨hg.os.trans h.low.os, hg.tape.trans h.low.tape, hg.output.trans h.low.output, Nat.le_trans h.low.size hg.size, fun i hi => (hg.block i (Nat.lt_of_lt_of_le hi h.low.size) (fun e => by have := (h.seen.lt i e.symm).1; omega)).trans (h.low.block i hi)⟩⟩
theorem NX.push {w0 w u : World} {p k g n cap : Nat} {tv : Value} {l : List (ByteArray × Int)} {S : ByteArray} {r : TnR} {sv : Value} {sn sn' : List ByteArray} {d : TD} (h : NX w0 w p tv l k S r sv sn d) (hg : w.grownBy u sv.ownBlock) (htv : ∀ b n c, tv = .slice (some ⟨b, 0, none⟩) n c → sv.ownBlock ≠ some b ∧ b < w.heap.size)
    (hr : u.ownsRow w0.heap.size 9 1 (.slice (some ⟨g, 0, none⟩) n cap) sn'.length (sn'.flatMap strC)) (hat : sv.ownBlock = some g ∨ g = w.heap.size) :
    NX w0 (u.setCell ⟨p, 25, none⟩ (.slice (some ⟨g, 0, none⟩) n cap)) p tv l k S r (.slice (some ⟨g, 0, none⟩) n cap) sn' d := by
  obtain ⟨h1, h2⟩ := h.grown hg htv
  have hpl := Rg.lt_of_heap h.px.at_
  have hgp : g ≠ p := by
    rcases hat with e | e
    · exact h.sp g e
    · omega
  have hx : KX p u (u.setCell ⟨p, 25, none⟩ (.slice (some ⟨g, 0, none⟩) n cap)) := (KX.of_ext (Ext.refl u)).set _
  refine ⟨h1.put 21 _, Ext.of_kx h2 hx h.pl, h.pl, row_move hr (fun b hb hl => hx.block b hl (fun e => ?_)), ?_, ?_⟩
  · injection hb with hb
    injection e with e
    exact hgp (hb.trans e)
  · intro b hb
    injection hb with hb
    rw [← hb]
    exact hgp
  · refine (h.tf.move (A' := Apart w0.heap.size p (.slice (some ⟨g, 0, none⟩) n cap)) (w' := u) (fun b hb hl => hg.block b hl (fun e => hb.2.1 e.symm)) (fun b hb hl => ⟨hb.1, ?_, hb.2.2⟩)).kx hx (fun _ hb => hb.1)
    intro e
    injection e with e
    have e : g = b := e
    rcases hat with e' | e'
    · exact hb.2.1 (by rw [e', e])
    · omega
set_option maxHeartbeats 16000000 in
theorem next_any {w0 w : World} {p k : Nat} {tv : Value} {l : List (ByteArray × Int)} {S : ByteArray} {r : TnR} {sv : Value} {sn : List ByteArray} {d d' : TD} (h : NX w0 w p tv l k S r sv sn d) (fr ed : Nat) (hS : S.size ≤ 900000) (hfe : fr ≤ ed) (hed : ed ≤ S.size)
    (L : List (ByteArray × Int)) (hL : splL S fr ed = L) (hLl : L.length ≤ 100000) (h0 : 0 < L.length) (word : ByteArray) (hw0 : L[0].1 = word) (hne : (word.toList == []) = false) (b1 b2 : Bool) (hb1 : amoS singles word = b1) (hb2 : amoS manys word = b2) (hb : (b1 || b2) = true) (hk : amoS sn word = false) (hsn : sn.length ≤ 100) (hd1 : d.ls.length < 12) (hd2 : d.cs.length < 12) (HL : LineAt S word ed L d d') :
    Calls Tryz.prog 91 #[.pointer (some ⟨p, 0, none⟩), .int .i64 fr, .int .i64 ed] w fun e w' => e = .returned (.tuple #[]) ∧ ∃ tv' k' r' sv', NX w0 w' p tv' L k' S r' sv' (sn ++ [word]) d' := by
  have HSP := Lib.hid (fun wz => split_any S fr ed hS hfe hed wz)
  rw [hL] at HSP
  have HLL := Lib.hid hLl
  have HT := Lib.hid (fun tv wz rest (hz : PX 166 wz p tv L 0 rest) => text_any p tv L 0 wz hz.c.1 hz.c.2.1 hz.tok h0)
  rw [hw0] at HT
  have HA1 := Lib.hid (fun v wz (hv : SR strC 1 wz v singles) => among_any v singles word wz hv)
  rw [hb1] at HA1
  have HA2 := Lib.hid (fun v wz (hv : SR strC 1 wz v manys) => among_any v manys word wz hv)
  rw [hb2] at HA2
  have HKN := Lib.hid (fun wz (hp : wz.cell? ⟨p, 25, none⟩ = some sv) (hv : SR strC 1 wz sv sn) => seenW_any p sv sn word wz hp hv)
  rw [hk] at HKN
  have HFU := Lib.hid (fun tv wz k (hz : PX 166 wz p tv L k (restOf S r sv)) h1 h2 h3 h4 => full_any p tv L k S r sv word wz hz h1 h2 h3 h4)
  have HLN := Lib.hid (fun tv wz sv A B (hz : PX 166 wz p tv L 1 (restOf S r sv)) h1 h2 h3 h4 => HL p tv wz sv r A B hz h1 h2 h3 h4)
  have HN := Lib.hid h
  have HSN := Lib.hid hsn
  have HL0 := Lib.hid h0
  have HD := Lib.hid (show _ ∧ _ from ⟨hd1, hd2⟩)
  have hpl := Rg.lt_of_heap h.px.at_
  have r0 : w.cell? ⟨p, 4, none⟩ = some (.string S) := h.px.r 0
  obtain ⟨c0, c1, c2, c3⟩ := h.px.c
  clear h hL hLl h0 hw0 hb1 hb2 hk HL hsn hd1 hd2
  go_enter Tryz.func91, Tryz.ntmps91
  go_upto_region 1 with (go_at_call 139; (with_reducible refine (HSP.out _).mono ?_); rintro e w1 ⟨g, cap, rfl, hx1, hr1⟩; have HX1 := Lib.hid hx1; have HR1 := Lib.hid hr1; have HN1 := Lib.hid (HN.out.ext hx1); clear hx1 hr1 c0 c1 c2 c3; obtain ⟨c0, c1, c2, c3⟩ := HN1.out.px.c; have f0 : w1.frozen? ⟨p, 0, none⟩ = false := put_frozen HN1.out.px.at_; have hpl1 := Rg.lt_of_heap HN1.out.px.at_)
  have hgp : g ≠ p := by
    have h1 := (HR1.out.lt g rfl).1
    omega
  have HN2 := Lib.hid (HN1.out.kx (HN1.out.px.newtok (SR.of_row (cs := tokC) (fun _ => rfl) HR1.out (by have := HLL.out; omega)) (fun b n c e => by injection e with e; injection e with e; injection e with e; omega)) ((KX.of_ext (bn := p) (Ext.refl w1)).set (j := 0) _))
  have HTV : Hid (∀ b n c, (Value.slice (some ⟨g, 0, none⟩) L.length cap) = .slice (some ⟨b, 0, none⟩) n c → sv.ownBlock ≠ some b) := Lib.hid (fun b n c e e' => by
    injection e with e
    injection e with e
    injection e with e
    have h1 := (HR1.out.lt g rfl).1
    have h2 := (HN.out.seen.lt b e').2
    omega)
  clear c0 c1 c2 c3 f0 hpl1 HR1 HN1 HX1
  generalize (Value.slice (some ⟨g, 0, none⟩) L.length cap) = tv' at *
  generalize w1.setCell ⟨p, 0, none⟩ tv' = w2 at *
  obtain ⟨c0, c1, c2, c3⟩ := HN2.out.px.c
  have f1 : w2.frozen? ⟨p, 1, none⟩ = false := put_frozen HN2.out.px.at_
  have hpl2 := Rg.lt_of_heap HN2.out.px.at_
  go_upto_region 2 with (fail)
  have HN3 : Hid (NX w0 (w2.setCell ⟨p, 1, none⟩ (.int .i64 0)) p tv' L 0 S r sv sn d) := Lib.hid (HN2.out.step 0)
  clear c0 c1 c2 c3 f1 hpl2 HN2
  generalize w2.setCell ⟨p, 1, none⟩ (.int .i64 0) = w3 at *
  have hpl3 := Rg.lt_of_heap HN3.out.px.at_
  go_upto_region 4 with (go_at_call 140; (with_reducible refine (HT.out _ _ _ HN3.out.px).mono ?_); rintro e w4 ⟨rfl, hx4⟩; have HN := Lib.hid (HN3.out.ext hx4); clear hx4)
  have hbx : Ext w4 (w4.alloc (.cells #[.string ⟨#[116, 101, 110, 100, 101, 114]⟩, .string ⟨#[112, 114, 105, 99, 101]⟩, .string ⟨#[102, 111, 114, 109, 117, 108, 97]⟩, .string ⟨#[116, 105, 101]⟩, .string ⟨#[109, 111, 115, 116]⟩, .string ⟨#[98, 117, 100, 103, 101, 116]⟩, .string ⟨#[116, 105, 109, 101, 115]⟩] 9)) := Ext.alloc (Ext.refl _) _
  have hs1 : SR strC 1 (w4.alloc (.cells #[.string ⟨#[116, 101, 110, 100, 101, 114]⟩, .string ⟨#[112, 114, 105, 99, 101]⟩, .string ⟨#[102, 111, 114, 109, 117, 108, 97]⟩, .string ⟨#[116, 105, 101]⟩, .string ⟨#[109, 111, 115, 116]⟩, .string ⟨#[98, 117, 100, 103, 101, 116]⟩, .string ⟨#[116, 105, 109, 101, 115]⟩] 9)) (.slice (some ⟨w4.heap.size, 0, none⟩) 7 7) singles := sr_strs singles rfl (block_new rfl) (by decide)
  have HN4 := Lib.hid (HN.out.ext hbx)
  have HS1 := Lib.hid hs1
  clear hbx hs1
  go_upto_region 5 with (go_at_call 141; (with_reducible refine (HA1.out _ _ HS1.out).mono ?_); rintro e w5 ⟨rfl, hx5⟩; have HN := Lib.hid (HN4.out.ext hx5); clear hx5)
  have hbx : Ext w5 (w5.alloc (.cells #[.string ⟨#[108, 111, 116]⟩, .string ⟨#[99, 114, 105, 116, 101, 114, 105, 111, 110]⟩, .string ⟨#[114, 101, 113, 117, 105, 114, 101]⟩, .string ⟨#[99, 111, 109, 98, 111]⟩] 9)) := Ext.alloc (Ext.refl _) _
  have hs1 : SR strC 1 (w5.alloc (.cells #[.string ⟨#[108, 111, 116]⟩, .string ⟨#[99, 114, 105, 116, 101, 114, 105, 111, 110]⟩, .string ⟨#[114, 101, 113, 117, 105, 114, 101]⟩, .string ⟨#[99, 111, 109, 98, 111]⟩] 9)) (.slice (some ⟨w5.heap.size, 0, none⟩) 4 4) manys := sr_strs manys rfl (block_new rfl) (by decide)
  have HN5 := Lib.hid (HN.out.ext hbx)
  have HS2 := Lib.hid hs1
  clear hbx hs1
  go_upto_region 6 with (go_at_call 141; (with_reducible refine (HA2.out _ _ HS2.out).mono ?_); rintro e w6 ⟨rfl, hx6⟩; have HN := Lib.hid (HN5.out.ext hx6); clear hx6)
  have HSR := Lib.hid (fun wz tv k (hz : NX w0 wz p tv L k S r sv sn d) => SR.of_row (cs := strC) (fun _ => rfl) hz.seen (by have := HSN.out; omega))
  go_upto_region 7 with (go_at_call 92; (with_reducible refine (HKN.out _ (HN.out.px.r 21) (HSR.out _ _ _ HN.out)).mono ?_); rintro e w7 ⟨rfl, hx7⟩; have HN := Lib.hid (HN.out.ext hx7); clear hx7)
  have hlens : r.ls.2.1 < 12 ∧ r.cs.2.1 < 12 ∧ r.rs.2.1 < 24 ∧ r.ks.2.1 < 12 := ⟨by rw [row_len HN.out.tf.ls_]; exact HD.out.1, by rw [row_len HN.out.tf.cs_]; exact HD.out.2, by rw [HN.out.tf.rs_]; decide, by rw [HN.out.tf.ks_]; decide⟩
  have HLN5 := Lib.hid hlens
  clear hlens
  obtain ⟨c0, c1, c2, c3⟩ := HN.out.px.c
  have hpl7 := Rg.lt_of_heap HN.out.px.at_
  have r25 : w7.cell? ⟨p, 25, none⟩ = some sv := HN.out.px.r 21
  cases b1 <;> cases b2
  · exact absurd hb (by decide)
  all_goals
    go_upto_region 15 with (go_at_call 142; (with_reducible refine (HFU.out _ _ _ HN.out.px HLN5.out.1 HLN5.out.2.1 HLN5.out.2.2.1 HLN5.out.2.2.2).mono ?_); rintro e w8 ⟨rfl, rfl⟩)
    have hxa : Ext w7 (w7.alloc (.cells #[.string word] 9)) := Ext.alloc (Ext.refl _) _
    have hat : (w7.alloc (.cells #[.string word] 9)).heap[w7.heap.size]? = some (.cells #[.string word] 9) := block_new rfl
    have HNA := Lib.hid (HN.out.ext hxa)
    have HAT := Lib.hid hat
    have HTL : Hid (∀ b n c, tv' = .slice (some ⟨b, 0, none⟩) n c → sv.ownBlock ≠ some b ∧ b < (w7.alloc (.cells #[.string word] 9)).heap.size) := Lib.hid (fun b n c e => ⟨HTV.out b n c e, Nat.lt_of_lt_of_le (HN.out.px.lt (HL0.out) b n c e) hxa.size⟩)
    clear hxa hat
    go_upto_region 16 with (at_builtin; refine append_str rfl (.tmp 80) (.tmp 82) rfl w0.heap.size sv sn (by rfl) HNA.out.seen w7.heap.size word (by rfl) HAT.out (by have := HSN.out; omega) HNA.out.low.size ?_; intro g7 cap7 u7 hr7 hg7 hat7; have HU := Lib.hid (HNA.out.grown hg7 HTL.out); have HN8 := Lib.hid (HNA.out.push hg7 HTL.out hr7 hat7); clear hr7 hg7 hat7 c0 c1 c2 c3 hpl7 r25; obtain ⟨c0, c1, c2, c3⟩ := HU.out.1.c; have r25 : u7.cell? ⟨p, 25, none⟩ = some sv := HU.out.1.r 21; have f25 : u7.frozen? ⟨p, 25, none⟩ = false := put_frozen HU.out.1.at_; have hpl7 := Rg.lt_of_heap HU.out.1.at_)
    clear c0 c1 c2 c3 r25 f25 hpl7 HU
    generalize u7.setCell ⟨p, 25, none⟩ (.slice (some ⟨g7, 0, none⟩) (sn.length + 1) cap7) = w8 at *
    obtain ⟨c0, c1, c2, c3⟩ := HN8.out.px.c
    have f1 : w8.frozen? ⟨p, 1, none⟩ = false := put_frozen HN8.out.px.at_
    have hpl8 := Rg.lt_of_heap HN8.out.px.at_
    go_upto_region 17 with (fail)
    have HN9 : Hid (NX w0 (w8.setCell ⟨p, 1, none⟩ (.int .i64 1)) p tv' L 1 S r _ (sn ++ [word]) d) := Lib.hid (HN8.out.step 1)
    clear c0 c1 c2 c3 f1 hpl8
    generalize w8.setCell ⟨p, 1, none⟩ (.int .i64 1) = w9 at *
    go_wp2_with (go_at_call 144; (with_reducible refine (HLN.out _ _ _ _ _ HN9.out.px HN9.out.tf (fun _ hb => hb.1) ?_ HN9.out.low.size).mono ?_); (exact fun b hb => ⟨fun e => by have := Rg.lt_of_heap HN9.out.px.at_; omega, fun e => by have := (HN9.out.seen.lt b e).2; omega, Nat.le_trans HN9.out.low.size hb⟩); rintro e w10 ⟨rfl, r', k', hp10, hx10, ht10⟩; have HQ := Lib.hid (show _ ∧ _ ∧ _ from ⟨hp10, hx10, ht10⟩); clear hp10 hx10 ht10)
    go_end0
    exact ⟨rfl, tv', k', r', _, HQ.out.1, Ext.of_kx HN9.out.low HQ.out.2.1 HN9.out.pl, HN9.out.pl, row_move HN9.out.seen (fun b hb hl => HQ.out.2.1.block b hl (fun e => HN9.out.sp b hb (by injection e))), HN9.out.sp, HQ.out.2.2⟩
end Go.Proofs.YteomcpplajeidaaGreat
namespace Go.Proofs.YteomcpplajeidaaGreat
set_option linter.unusedVariables false
set_option linter.unusedSimpArgs false
set_option maxRecDepth 100000
open Go.RowKit
abbrev comfB : ByteArray := ⟨#[99, 111, 109, 102, 111, 114, 116]⟩
abbrev chaiB : ByteArray := ⟨#[67, 104, 97, 105, 114, 115]⟩
def fT : Ex := opE' addB (opE' quoB (opE' mulB (numE (3, 5)) (nameE lowB)) (nameE priceB)) (opE' mulB (numE (1, 25)) (nameE comfB))
def dD : Nat → TD
  | 0 => ⟨nilB, [], [], 0, 0, leaf nilB (0, 0) nilB, [], 0, 0, 0, 0, 0, 0, 0⟩
  | 1 => ⟨chaiB, [], [], 0, 0, leaf nilB (0, 0) nilB, [], 0, 0, 0, 0, 0, 0, 0⟩
  | 2 => ⟨chaiB, [(1, 500)], [], 0, 0, leaf nilB (0, 0) nilB, [], 0, 0, 0, 0, 0, 0, 0⟩
  | 3 => ⟨chaiB, [(1, 500)], [⟨comfB, 1, 0, 10, false⟩], 0, 0, leaf nilB (0, 0) nilB, [], 0, 0, 0, 0, 0, 0, 0⟩
  | 4 => ⟨chaiB, [(1, 500)], [⟨comfB, 1, 0, 10, false⟩], 1, 500, leaf nilB (0, 0) nilB, [], 0, 0, 0, 0, 0, 0, 0⟩
  | 5 => ⟨chaiB, [(1, 500)], [⟨comfB, 1, 0, 10, false⟩], 1, 500, fT, [], 0, 0, 0, 0, 0, 0, 0⟩
  | 6 => ⟨chaiB, [(1, 500)], [⟨comfB, 1, 0, 10, false⟩], 1, 500, fT, [comfB], 0, 0, 0, 0, 0, 0, 0⟩
  | 7 => ⟨chaiB, [(1, 500)], [⟨comfB, 1, 0, 10, false⟩], 1, 500, fT, [comfB], 0, 500, 0, 0, 0, 0, 0⟩
  | _ => ⟨chaiB, [(1, 500)], [⟨comfB, 1, 0, 10, false⟩], 1, 500, fT, [comfB], 0, 500, 10, 20, 30, 40, 5⟩
def wordL : Nat → ByteArray
  | 0 => ⟨#[116, 101, 110, 100, 101, 114]⟩
  | 1 => ⟨#[108, 111, 116]⟩
  | 2 => ⟨#[99, 114, 105, 116, 101, 114, 105, 111, 110]⟩
  | 3 => ⟨#[112, 114, 105, 99, 101]⟩
  | 4 => ⟨#[102, 111, 114, 109, 117, 108, 97]⟩
  | 5 => ⟨#[116, 105, 101]⟩
  | 6 => ⟨#[98, 117, 100, 103, 101, 116]⟩
  | _ => ⟨#[116, 105, 109, 101, 115]⟩
theorem dec06 : FacT ⟨#[48, 46, 54]⟩ (numE (3, 5)) :=
  FacT.dec (s := ⟨#[48, 46, 54]⟩) (wh := ⟨#[48]⟩) (re := ⟨#[54]⟩) (d := 1) (n0 := 0) ⟨by decide, by decide, by decide +kernel, by kernel_rfl, by kernel_rfl, by decide, by kernel_rfl, by kernel_rfl, by decide, by decide, by decide +kernel, by kernel_rfl, by kernel_rfl, by kernel_rfl, by kernel_rfl⟩ ⟨by decide +kernel, by decide +kernel, by decide +kernel, by decide +kernel⟩
theorem dec004 : FacT ⟨#[48, 46, 48, 52]⟩ (numE (1, 25)) :=
  FacT.dec (s := ⟨#[48, 46, 48, 52]⟩) (wh := ⟨#[48]⟩) (re := ⟨#[48, 52]⟩) (d := 1) (n0 := 0) ⟨by decide, by decide, by decide +kernel, by kernel_rfl, by kernel_rfl, by decide, by kernel_rfl, by kernel_rfl, by decide, by decide, by decide +kernel, by kernel_rfl, by kernel_rfl, by kernel_rfl, by kernel_rfl⟩ ⟨by decide +kernel, by decide +kernel, by decide +kernel, by decide +kernel⟩
theorem nameF (s : ByteArray) (h1 : decide (s.size ≤ 1000) && decide (0 < s.size) = true) (h2 : (s.toList == []) = false) (h3 : digB (byZ s 0) = false) (h4 : (s.toList == [40]) = false) (h5 : (s.toList == [109, 105, 110]) = false) (h6 : (s.toList == [109, 97, 120]) = false) (h7 : namS s = true) : FacT s (nameE s) := by
  simp only [Bool.and_eq_true, decide_eq_true_eq] at h1
  exact FacT.name h1.1 h1.2 h2 h3 h4 h5 h6 h7
theorem tok_names : FacT lowB (nameE lowB) ∧ FacT priceB (nameE priceB) ∧ FacT comfB (nameE comfB) :=
  ⟨nameF _ (by kernel_rfl) (by kernel_rfl) (by kernel_rfl) (by kernel_rfl) (by kernel_rfl) (by kernel_rfl) (by kernel_rfl), nameF _ (by kernel_rfl) (by kernel_rfl) (by kernel_rfl) (by kernel_rfl) (by kernel_rfl) (by kernel_rfl) (by kernel_rfl), nameF _ (by kernel_rfl) (by kernel_rfl) (by kernel_rfl) (by kernel_rfl) (by kernel_rfl) (by kernel_rfl) (by kernel_rfl)⟩
theorem term0 (p : Nat) (tv : Value) : TermAt p tv tokF 0 5 (opE' quoB (opE' mulB (numE (3, 5)) (nameE lowB)) (nameE priceB)) := fun wz hz =>
  term_any p tv tokF 0 wz hz (numE (3, 5)) [(mulB, nameE lowB), (quoB, nameE priceB)] (by decide) dec06 (fun i hi => by
    match i, hi with
    | 0, _ => exact ⟨rfl, .inl (by kernel_rfl), tok_names.1⟩
    | 1, _ => exact ⟨rfl, .inr ⟨by kernel_rfl, by kernel_rfl⟩, tok_names.2.1⟩) addB rfl (by kernel_rfl) (by kernel_rfl) (by decide)
theorem term1 (p : Nat) (tv : Value) : TermAt p tv tokF 6 9 (opE' mulB (numE (1, 25)) (nameE comfB)) := fun wz hz =>
  term_any p tv tokF 6 wz hz (numE (1, 25)) [(mulB, nameE comfB)] (by decide) dec004 (fun i hi => by
    match i, hi with
    | 0, _ => exact ⟨rfl, .inl (by kernel_rfl), tok_names.2.2⟩) nilB rfl (by kernel_rfl) (by kernel_rfl) (by decide)
def posF : Nat → Nat
  | 0 => 5
  | _ => 9
theorem formL : FormAt tokF 9 fT := fun p tv wz hz =>
  formula_any p tv tokF 0 posF wz hz _ [(addB, opE' mulB (numE (1, 25)) (nameE comfB))] (fun i hi => by
    match i, hi with
    | 0, _ => decide
    | 1, _ => decide) (fun i hi => by
    match i, hi with
    | 0, _ => decide) (by decide) (term0 p tv) (fun i hi => by
    match i, hi with
    | 0, _ => exact ⟨rfl, .inl (by kernel_rfl), term1 p tv⟩) nilB rfl (by kernel_rfl) (by kernel_rfl) (fun i hi => by
    match i, hi with
    | 0, _ => decide
    | 1, _ => decide)
end Go.Proofs.YteomcpplajeidaaGreat
