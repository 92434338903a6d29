/-
  Lemmas of this claim (JwAD). Nothing is asked.
-/
import Derived.Test.YteomcpplajeidaaGreatJwAC
import Derived.Test.YteomcpplajeidaaGreatJwX
import Derived.Test.YteomcpplajeidaaGreatJwAB
import Derived.Test.YteomcpplajeidaaGreatJwO
set_option linter.unusedVariables false
set_option linter.unusedSimpArgs false
set_option maxRecDepth 100000
set_option maxHeartbeats 40000000
namespace Go.Proofs.YteomcpplajeidaaGreat
open Go.RowKit
structure TD where
 nm:ByteArray
 ls:List (Int×Int)
 cs:List Cr
 low:Int
 high:Int
 f:Ex
 ts:List ByteArray
 most:Int
 budget:Int
 t0:Int
 t1:Int
 t2:Int
 t3:Int
 t4:Int
structure TF (A:Nat→Prop) (B:Nat) (w:World) (r:TnR) (d:TD):Prop where
 nm_:r.nm=d.nm
 low_:r.low=d.low
 high_:r.high=d.high
 most_:r.most=d.most
 budget_:r.budget=d.budget
 t0_:r.t0=d.t0
 t1_:r.t1=d.t1
 t2_:r.t2=d.t2
 t3_:r.t3=d.t3
 t4_:r.t4=d.t4
 rs_:r.rs=(none,0,0)
 ks_:r.ks=(none,0,0)
 ls_:w.ownsRow B 72 2 (slV r.ls) d.ls.length (d.ls.flatMap cellsLot)
 la:∀ b,(slV r.ls).ownBlock=some b→A b
 l0:d.ls=[]→r.ls=(none,0,0)
 cs_:w.ownsRow B 78 5 (slV r.cs) d.cs.length (d.cs.flatMap cellsCr)
 ca:∀ b,(slV r.cs).ownBlock=some b→A b
 c0:d.cs=[]→r.cs=(none,0,0)
 ts_:w.ownsRow B 9 1 (slV r.ts) d.ts.length (d.ts.flatMap strC)
 ta:∀ b,(slV r.ts).ownBlock=some b→A b
 s0:d.ts=[]→r.ts=(none,0,0)
 fo:Rd A w d.f (.agg #[.string r.fo,iV r.f1,iV r.f2,.string r.fn,slV r.fa])
theorem TF.move {A A':Nat→Prop} {B:Nat} {w w':World} {r:TnR} {d:TD} (h:TF A B w r d) (hw:∀ b,A b→b < w.heap.size→w'.heap[b]? = w.heap[b]?) (hA:∀ b,A b→b < w.heap.size→A' b):TF A' B w' r d:=
 { h with
  ls_:=row_move h.ls_ fun b hb hl=>hw b (h.la b hb) hl
  la:=fun b hb=>hA b (h.la b hb) (h.ls_.lt b hb).2
  cs_:=row_move h.cs_ fun b hb hl=>hw b (h.ca b hb) hl
  ca:=fun b hb=>hA b (h.ca b hb) (h.cs_.lt b hb).2
  ts_:=row_move h.ts_ fun b hb hl=>hw b (h.ta b hb) hl
  ta:=fun b hb=>hA b (h.ta b hb) (h.ts_.lt b hb).2
  fo:=Rd.frame (fun b o hb hl=>World.cell?_of_block (hw b hb.1 hb.2)) (fun b hb=>hA b hb.1 hb.2) _ _ (Rd.alive _ _ h.fo) }
theorem TF.ext {A:Nat→Prop} {B:Nat} {w w':World} {r:TnR} {d:TD} (h:TF A B w r d) (x:Ext w w'):TF A B w' r d:=h.move (fun b _ hl=>x.block b hl) (fun _ h _=>h)
theorem TF.kx {A:Nat→Prop} {B p:Nat} {w w':World} {r:TnR} {d:TD} (h:TF A B w r d) (x:KX p w w') (hA:∀ b,A b→b≠p):TF A B w' r d:=h.move (fun b hb hl=>x.block b hl (fun e=>hA b hb (by injection e))) (fun _ h _=>h)
abbrev Apart (B p:Nat) (sv:Value):Nat→Prop:=fun b=>b≠p∧sv.ownBlock≠some b∧B≤b
structure NX (w0 w:World) (p:Nat) (tv:Value) (l:List (ByteArray×Int)) (k:Nat) (S:ByteArray) (r:TnR) (sv:Value) (sn:List ByteArray) (d:TD):Prop where
 px:PX 166 w p tv l k (restOf S r sv)
 low:Ext w0 w
 pl:w0.heap.size≤p
 seen:w.ownsRow w0.heap.size 9 1 sv sn.length (sn.flatMap strC)
 sp:∀ b,sv.ownBlock=some b→b≠p
 tf:TF (Apart w0.heap.size p sv) w0.heap.size w r d
section
variable {w0 w w':World} {p k k':Nat} {tv tv':Value} {l l':List (ByteArray×Int)} {S:ByteArray} {r:TnR} {sv:Value} {sn:List ByteArray} {d:TD}
theorem NX.kx (h:NX w0 w p tv l k S r sv sn d) (hp:PX 166 w' p tv' l' k' (restOf S r sv)) (x:KX p w w'):NX w0 w' p tv' l' k' S r sv sn d:=
 ⟨hp,Ext.of_kx h.low x h.pl,h.pl,row_move h.seen (fun b hb hl=>x.block b hl (fun e=>h.sp b hb (by injection e))),h.sp,h.tf.kx x (fun _ hb=>hb.1)⟩
theorem NX.ext (h:NX w0 w p tv l k S r sv sn d) (x:Ext w w'):NX w0 w' p tv l k S r sv sn d:=h.kx (h.px.ext x) (KX.of_ext x)
theorem NX.step (h:NX w0 w p tv l k S r sv sn d) (j:Nat):NX w0 (w.setCell ⟨p,1,none⟩ (iV j)) p tv l j S r sv sn d:=h.kx (h.px.step j) ((KX.of_ext (Ext.refl _)).set _)
theorem PX.newtok {T:TypeId} {rest:List Value} (h:PX T w p tv l k rest) (hl:SR tokC 2 w tv' l') (hne:∀ b n c,tv' = .slice (some ⟨b,0,none⟩) n c→b≠p):PX T (w.setCell ⟨p,0,none⟩ tv') p tv' l' k rest:=
 ⟨(heap_put _ h.at_).trans (by simp),hl.kx ((KX.of_ext (Ext.refl _)).set _) hne,hne⟩
end
theorem append_str {ops:Array Oper} {rest:List Oper} {o:Oper} {a:Act} {Q:Exit→Act→World→Prop} {w:World} (hgd:o.guard=none) (s x:Operand)
 (ho:o.op=.call { callee:=.builtin .append,args:=#[s,x],argTypes:=#[34,34] }) (B:Nat) (v:Value) (vs:List ByteArray) (hs:a.eval s=v) (hF:w.ownsRow B 9 1 v vs.length (vs.flatMap strC))
 (p:Nat) (u:ByteArray) (hx:a.eval x=.slice (some ⟨p,0,none⟩) 1 1) (hp:w.heap[p]? = some (.cells #[.string u] 9)) (hn:vs.length < 1000000) (hB:B≤w.heap.size)
 (h:∀ g cap w',w'.ownsRow B 9 1 (.slice (some ⟨g,0,none⟩) (vs.length+1) cap) (vs ++ [u]).length ((vs ++ [u]).flatMap strC)→w.grownBy w' v.ownBlock→(v.ownBlock=some g∨g=w.heap.size)→wpList Tryz.prog ops Q rest (a.put o.dst (.slice (some ⟨g,0,none⟩) (vs.length+1) cap)) w'):wpList Tryz.prog ops Q (o :: rest) a w:=by
 obtain ⟨i0,hi,hz0,hz1,hz2⟩:=info_parts (show (Tryz.prog.info? 9).map (fun i=>(i.zero,i.size,i.bytes))=some (some (.string ⟨#[]⟩),1,16) by kernel_rfl)
 refine wpList_append_lies w hgd s x 34 ho B 9 i0 _ 1 16 Tryz.underlying34 hi hz0 hz1 hz2 (by rfl) (by decide) v vs.length _ hs hF ⟨p,0,none⟩ 1 1 (strC u) hx (by rfl) ?_ (one_str u).2 (by decide) (by unfold maxLen;omega) ?_ hB w.heap.size rfl ?_
 ·intro j c hc
  rw [addr_add,cell_of_row w p _ _ _ _ hp]
  simpa [strC] using hc
 ·omega
 ·intro g cap w' hw hg hat hlt
  refine h g cap w' ?_ hg hat
  rw [List.flatMap_append,List.length_append]
  simpa using hw
def LineAt (S word:ByteArray) (ed:Nat) (L:List (ByteArray×Int)) (d d':TD):Prop:=
 ∀ (p:Nat) (tv:Value) (wz:World) (sv:Value) (r:TnR) (A:Nat→Prop) (B:Nat),PX 166 wz p tv L 1 (restOf S r sv)→TF A B wz r d→(∀ b,A b→b≠p)→(∀ b,wz.heap.size≤b→A b)→B≤wz.heap.size →
  Calls Tryz.prog 144 #[.pointer (some ⟨p,0,none⟩),.string word,iV ed] wz fun e w'=>e=.returned (.tuple #[])∧∃ r' k',PX 166 w' p tv L k' (restOf S r' sv)∧KX p wz w'∧TF A B w' r' d'
abbrev singles:List ByteArray:=[⟨#[116,101,110,100,101,114]⟩,⟨#[112,114,105,99,101]⟩,⟨#[102,111,114,109,117,108,97]⟩,⟨#[116,105,101]⟩,⟨#[109,111,115,116]⟩,⟨#[98,117,100,103,101,116]⟩,⟨#[116,105,109,101,115]⟩]
abbrev manys:List ByteArray:=[⟨#[108,111,116]⟩,⟨#[99,114,105,116,101,114,105,111,110]⟩,⟨#[114,101,113,117,105,114,101]⟩,⟨#[99,111,109,98,111]⟩]
theorem sr_strs {w:World} {b n:Nat} {t:TypeId} (xs:List ByteArray) (hx:n=xs.length) (h:w.heap[b]? = some (.cells (xs.map Value.string).toArray t)) (hn:xs.length≤1000000):SR strC 1 w (.slice (some ⟨b,0,none⟩) n n) xs:=by
 subst hx
 refine ⟨_,_,rfl,hn,.inr ⟨b,rfl,fun k hk j u hu=>?_⟩⟩
 have hj:j=0:=by
  have:=(List.getElem?_eq_some_iff.1 hu).1
  simp [strC] at this
  exact this
 subst hj
 rw [cell_of_row w b _ _ _ _ h]
 simp [strC] at hu
 simp [hk,hu]
theorem PX.keep {T:TypeId} {w w':World} {p k:Nat} {tv:Value} {l:List (ByteArray×Int)} {rest:List Value} (h:PX T w p tv l k rest) (hp:w'.heap[p]? = w.heap[p]?) (hk:∀ b n c,tv=.slice (some ⟨b,0,none⟩) n c→w'.heap[b]? = w.heap[b]?):PX T w' p tv l k rest:=by
 refine ⟨hp.trans h.at_,?_,h.ne⟩
 obtain ⟨base,cap,h1,h2,h3⟩:=h.tok
 refine ⟨base,cap,h1,h2,h3.imp id fun ⟨b,hb,hc⟩=>⟨b,hb,fun i hi j u hu=>?_⟩⟩
 have h4:=hc i hi j u hu
 rw [← h4]
 unfold World.cell?
 rw [hk b _ _ (by rw [h1,hb])]
theorem NX.grown {w0 w u:World} {p k:Nat} {tv:Value} {l:List (ByteArray×Int)} {S:ByteArray} {r:TnR} {sv:Value} {sn:List ByteArray} {d:TD} (h:NX w0 w p tv l k S r sv sn d) (hg:w.grownBy u sv.ownBlock) (htv:∀ b n c,tv=.slice (some ⟨b,0,none⟩) n c→sv.ownBlock≠some b∧b < w.heap.size) :
 PX 166 u p tv l k (restOf S r sv)∧Ext w0 u:=
 ⟨h.px.keep (hg.block p (zL h.px.at_) (fun e=>h.sp p e.symm rfl)) (fun b n c e=>hg.block b (htv b n c e).2 (fun e'=>(htv b n c e).1 e'.symm)),
  ⟨hg.os.trans h.low.os,hg.tape.trans h.low.tape,hg.output.trans h.low.output,Nat.le_trans h.low.size hg.size,fun i hi=>(hg.block i (Nat.lt_of_lt_of_le hi h.low.size) (fun e=>by have:=(h.seen.lt i e.symm).1;omega)).trans (h.low.block i hi)⟩⟩
theorem NX.push {w0 w u:World} {p k g n cap:Nat} {tv:Value} {l:List (ByteArray×Int)} {S:ByteArray} {r:TnR} {sv:Value} {sn sn':List ByteArray} {d:TD} (h:NX w0 w p tv l k S r sv sn d) (hg:w.grownBy u sv.ownBlock) (htv:∀ b n c,tv=.slice (some ⟨b,0,none⟩) n c→sv.ownBlock≠some b∧b < w.heap.size)
 (hr:u.ownsRow w0.heap.size 9 1 (.slice (some ⟨g,0,none⟩) n cap) sn'.length (sn'.flatMap strC)) (hat:sv.ownBlock=some g∨g=w.heap.size) :
 NX w0 (u.setCell ⟨p,25,none⟩ (.slice (some ⟨g,0,none⟩) n cap)) p tv l k S r (.slice (some ⟨g,0,none⟩) n cap) sn' d:=by
 obtain ⟨h1,h2⟩:=h.grown hg htv
 have hpl:=zL h.px.at_
 have hgp:g≠p:=by
  rcases hat with e|e
  ·exact h.sp g e
  ·omega
 have hx:KX p u (u.setCell ⟨p,25,none⟩ (.slice (some ⟨g,0,none⟩) n cap)):=(KX.of_ext (Ext.refl u)).set _
 refine ⟨h1.put 21 _,Ext.of_kx h2 hx h.pl,h.pl,row_move hr (fun b hb hl=>hx.block b hl (fun e=>?_)),?_,?_⟩
 ·injection hb with hb
  injection e with e
  exact hgp (hb.trans e)
 ·intro b hb
  injection hb with hb
  rw [← hb]
  exact hgp
 ·refine (h.tf.move (A':=Apart w0.heap.size p (.slice (some ⟨g,0,none⟩) n cap)) (w':=u) (fun b hb hl=>hg.block b hl (fun e=>hb.2.1 e.symm)) (fun b hb hl=>⟨hb.1,?_,hb.2.2⟩)).kx hx (fun _ hb=>hb.1)
  intro e
  injection e with e
  have e:g=b:=e
  rcases hat with e' | e'
  ·exact hb.2.1 (by rw [e',e])
  ·omega
theorem next_any {w0 w:World} {p k:Nat} {tv:Value} {l:List (ByteArray×Int)} {S:ByteArray} {r:TnR} {sv:Value} {sn:List ByteArray} {d d':TD} (h:NX w0 w p tv l k S r sv sn d) (fr ed:Nat) (hS:S.size≤900000) (hfe:fr≤ed) (hed:ed≤S.size)
 (L:List (ByteArray×Int)) (hL:splL S fr ed=L) (hLl:L.length≤100000) (h0:0 < L.length) (word:ByteArray) (hw0:L[0].1=word) (hne:(word.toList == [])=false) (b1 b2:Bool) (hb1:amoS singles word=b1) (hb2:amoS manys word=b2) (hb:(b1 || b2)=true) (hk:amoS sn word=false) (hsn:sn.length≤100) (hd1:d.ls.length < 12) (hd2:d.cs.length < 12) (HL:LineAt S word ed L d d') :
 Calls Tryz.prog 91 #[.pointer (some ⟨p,0,none⟩),iV fr,iV ed] w fun e w'=>e=.returned (.tuple #[])∧∃ tv' k' r' sv',NX w0 w' p tv' L k' S r' sv' (sn ++ [word]) d':=by
 have HSP:=zH (fun wz=>split_any S fr ed hS hfe hed wz)
 rw [hL] at HSP
 have HLL:=zH hLl
 have HT:=zH (fun tv wz rest (hz:PX 166 wz p tv L 0 rest)=>text_any p tv L 0 wz hz.c.1 hz.c.2.1 hz.tok h0)
 rw [hw0] at HT
 have HA1:=zH (fun v wz (hv:SR strC 1 wz v singles)=>among_any v singles word wz hv)
 rw [hb1] at HA1
 have HA2:=zH (fun v wz (hv:SR strC 1 wz v manys)=>among_any v manys word wz hv)
 rw [hb2] at HA2
 have HKN:=zH (fun wz (hp:wz.cell? ⟨p,25,none⟩=some sv) (hv:SR strC 1 wz sv sn)=>seenW_any p sv sn word wz hp hv)
 rw [hk] at HKN
 have HFU:=zH (fun tv wz k (hz:PX 166 wz p tv L k (restOf S r sv)) h1 h2 h3 h4=>full_any p tv L k S r sv word wz hz h1 h2 h3 h4)
 have HLN:=zH (fun tv wz sv A B (hz:PX 166 wz p tv L 1 (restOf S r sv)) h1 h2 h3 h4=>HL p tv wz sv r A B hz h1 h2 h3 h4)
 have HN:=zH h
 have HSN:=zH hsn
 have HL0:=zH h0
 have HD:=zH (show _∧_ from ⟨hd1,hd2⟩)
 have hpl:=zL h.px.at_
 have r0:w.cell? ⟨p,4,none⟩=some (.string S):=h.px.r 0
 obtain ⟨c0,c1,c2,c3⟩:=h.px.c
 clear h hL hLl h0 hw0 hb1 hb2 hk HL hsn hd1 hd2
 go_in
 go_upto_region 1 with (go_at_call 139;(refine (HSP.out _).mono ?_);rintro e w1 ⟨g,cap,rfl,hx1,hr1⟩;have HX1:=zH hx1;have HR1:=zH hr1;have HN1:=zH (HN.out.ext hx1);clear hx1 hr1 c0 c1 c2 c3;obtain ⟨c0,c1,c2,c3⟩:=HN1.out.px.c;have f0:w1.frozen? ⟨p,0,none⟩=false:=put_frozen HN1.out.px.at_;have hpl1:=zL HN1.out.px.at_)
 have hgp:g≠p:=by
  have h1:=(HR1.out.lt g rfl).1
  omega
 have HN2:=zH (HN1.out.kx (HN1.out.px.newtok (SR.of_row (cs:=tokC) (fun _=>rfl) HR1.out (by have:=HLL.out;omega)) (fun b n c e=>by injection e with e;injection e with e;injection e with e;omega)) ((KX.of_ext (bn:=p) (Ext.refl w1)).set (j:=0) _))
 have HTV:Hid (∀ b n c,(Value.slice (some ⟨g,0,none⟩) L.length cap)=.slice (some ⟨b,0,none⟩) n c→sv.ownBlock≠some b):=zH (fun b n c e e'=>by
  injection e with e
  injection e with e
  injection e with e
  have h1:=(HR1.out.lt g rfl).1
  have h2:=(HN.out.seen.lt b e').2
  omega)
 clear c0 c1 c2 c3 f0 hpl1 HR1 HN1 HX1
 generalize (Value.slice (some ⟨g,0,none⟩) L.length cap)=tv' at *
 generalize w1.setCell ⟨p,0,none⟩ tv' = w2 at *
 obtain ⟨c0,c1,c2,c3⟩:=HN2.out.px.c
 have f1:w2.frozen? ⟨p,1,none⟩=false:=put_frozen HN2.out.px.at_
 have hpl2:=zL HN2.out.px.at_
 go_upto_region 2 with (fail)
 have HN3:Hid (NX w0 (w2.setCell ⟨p,1,none⟩ (iV 0)) p tv' L 0 S r sv sn d):=zH (HN2.out.step 0)
 clear c0 c1 c2 c3 f1 hpl2 HN2
 generalize w2.setCell ⟨p,1,none⟩ (iV 0)=w3 at *
 have hpl3:=zL HN3.out.px.at_
 go_upto_region 4 with (go_at_call 140;(refine (HT.out _ _ _ HN3.out.px).mono ?_);rintro e w4 ⟨rfl,hx4⟩;have HN:=zH (HN3.out.ext hx4);clear hx4)
 have hbx:Ext w4 (w4.alloc (.cells #[.string ⟨#[116,101,110,100,101,114]⟩,.string ⟨#[112,114,105,99,101]⟩,.string ⟨#[102,111,114,109,117,108,97]⟩,.string ⟨#[116,105,101]⟩,.string ⟨#[109,111,115,116]⟩,.string ⟨#[98,117,100,103,101,116]⟩,.string ⟨#[116,105,109,101,115]⟩] 9)):=Ext.alloc (Ext.refl _) _
 have hs1:SR strC 1 (w4.alloc (.cells #[.string ⟨#[116,101,110,100,101,114]⟩,.string ⟨#[112,114,105,99,101]⟩,.string ⟨#[102,111,114,109,117,108,97]⟩,.string ⟨#[116,105,101]⟩,.string ⟨#[109,111,115,116]⟩,.string ⟨#[98,117,100,103,101,116]⟩,.string ⟨#[116,105,109,101,115]⟩] 9)) (.slice (some ⟨w4.heap.size,0,none⟩) 7 7) singles:=sr_strs singles rfl (block_new rfl) (by decide)
 have HN4:=zH (HN.out.ext hbx)
 have HS1:=zH hs1
 clear hbx hs1
 go_upto_region 5 with (go_at_call 141;(refine (HA1.out _ _ HS1.out).mono ?_);rintro e w5 ⟨rfl,hx5⟩;have HN:=zH (HN4.out.ext hx5);clear hx5)
 have hbx:Ext w5 (w5.alloc (.cells #[.string ⟨#[108,111,116]⟩,.string ⟨#[99,114,105,116,101,114,105,111,110]⟩,.string ⟨#[114,101,113,117,105,114,101]⟩,.string ⟨#[99,111,109,98,111]⟩] 9)):=Ext.alloc (Ext.refl _) _
 have hs1:SR strC 1 (w5.alloc (.cells #[.string ⟨#[108,111,116]⟩,.string ⟨#[99,114,105,116,101,114,105,111,110]⟩,.string ⟨#[114,101,113,117,105,114,101]⟩,.string ⟨#[99,111,109,98,111]⟩] 9)) (.slice (some ⟨w5.heap.size,0,none⟩) 4 4) manys:=sr_strs manys rfl (block_new rfl) (by decide)
 have HN5:=zH (HN.out.ext hbx)
 have HS2:=zH hs1
 clear hbx hs1
 go_upto_region 6 with (go_at_call 141;(refine (HA2.out _ _ HS2.out).mono ?_);rintro e w6 ⟨rfl,hx6⟩;have HN:=zH (HN5.out.ext hx6);clear hx6)
 have HSR:=zH (fun wz tv k (hz:NX w0 wz p tv L k S r sv sn d)=>SR.of_row (cs:=strC) (fun _=>rfl) hz.seen (by have:=HSN.out;omega))
 go_upto_region 7 with (go_at_call 92;(refine (HKN.out _ (HN.out.px.r 21) (HSR.out _ _ _ HN.out)).mono ?_);rintro e w7 ⟨rfl,hx7⟩;have HN:=zH (HN.out.ext hx7);clear hx7)
 have hlens:r.ls.2.1 < 12∧r.cs.2.1 < 12∧r.rs.2.1 < 24∧r.ks.2.1 < 12:=⟨by rw [row_len HN.out.tf.ls_];exact HD.out.1,by rw [row_len HN.out.tf.cs_];exact HD.out.2,by rw [HN.out.tf.rs_];decide,by rw [HN.out.tf.ks_];decide⟩
 have HLN5:=zH hlens
 clear hlens
 obtain ⟨c0,c1,c2,c3⟩:=HN.out.px.c
 have hpl7:=zL HN.out.px.at_
 have r25:w7.cell? ⟨p,25,none⟩=some sv:=HN.out.px.r 21
 cases b1 <;> cases b2
 ·exact absurd hb (by decide)
 all_goals
  go_upto_region 15 with (go_at_call 142;(refine (HFU.out _ _ _ HN.out.px HLN5.out.1 HLN5.out.2.1 HLN5.out.2.2.1 HLN5.out.2.2.2).mono ?_);rintro e w8 ⟨rfl,rfl⟩)
  have hxa:Ext w7 (w7.alloc (.cells #[.string word] 9)):=Ext.alloc (Ext.refl _) _
  have hat:(w7.alloc (.cells #[.string word] 9)).heap[w7.heap.size]? = some (.cells #[.string word] 9):=block_new rfl
  have HNA:=zH (HN.out.ext hxa)
  have HAT:=zH hat
  have HTL:Hid (∀ b n c,tv' = .slice (some ⟨b,0,none⟩) n c→sv.ownBlock≠some b∧b < (w7.alloc (.cells #[.string word] 9)).heap.size):=zH (fun b n c e=>⟨HTV.out b n c e,Nat.lt_of_lt_of_le (HN.out.px.lt (HL0.out) b n c e) hxa.size⟩)
  clear hxa hat
  go_upto_region 16 with (at_builtin;refine append_str rfl (.tmp 80) (.tmp 82) rfl w0.heap.size sv sn (by rfl) HNA.out.seen w7.heap.size word (by rfl) HAT.out (by have:=HSN.out;omega) HNA.out.low.size ?_;intro g7 cap7 u7 hr7 hg7 hat7;have HU:=zH (HNA.out.grown hg7 HTL.out);have HN8:=zH (HNA.out.push hg7 HTL.out hr7 hat7);clear hr7 hg7 hat7 c0 c1 c2 c3 hpl7 r25;obtain ⟨c0,c1,c2,c3⟩:=HU.out.1.c;have r25:u7.cell? ⟨p,25,none⟩=some sv:=HU.out.1.r 21;have f25:u7.frozen? ⟨p,25,none⟩=false:=put_frozen HU.out.1.at_;have hpl7:=zL HU.out.1.at_)
  clear c0 c1 c2 c3 r25 f25 hpl7 HU
  generalize u7.setCell ⟨p,25,none⟩ (.slice (some ⟨g7,0,none⟩) (sn.length+1) cap7)=w8 at *
  obtain ⟨c0,c1,c2,c3⟩:=HN8.out.px.c
  have f1:w8.frozen? ⟨p,1,none⟩=false:=put_frozen HN8.out.px.at_
  have hpl8:=zL HN8.out.px.at_
  go_upto_region 17 with (fail)
  have HN9:Hid (NX w0 (w8.setCell ⟨p,1,none⟩ (iV 1)) p tv' L 1 S r _ (sn ++ [word]) d):=zH (HN8.out.step 1)
  clear c0 c1 c2 c3 f1 hpl8
  generalize w8.setCell ⟨p,1,none⟩ (iV 1)=w9 at *
  go_wp2_with (go_at_call 144;(refine (HLN.out _ _ _ _ _ HN9.out.px HN9.out.tf (fun _ hb=>hb.1) ?_ HN9.out.low.size).mono ?_);(exact fun b hb=>⟨fun e=>by have:=zL HN9.out.px.at_;omega,fun e=>by have:=(HN9.out.seen.lt b e).2;omega,Nat.le_trans HN9.out.low.size hb⟩);rintro e w10 ⟨rfl,r',k',hp10,hx10,ht10⟩;have HQ:=zH (show _∧_∧_ from ⟨hp10,hx10,ht10⟩);clear hp10 hx10 ht10)
  go_end0
  exact ⟨rfl,tv',k',r',_,HQ.out.1,Ext.of_kx HN9.out.low HQ.out.2.1 HN9.out.pl,HN9.out.pl,row_move HN9.out.seen (fun b hb hl=>HQ.out.2.1.block b hl (fun e=>HN9.out.sp b hb (by injection e))),HN9.out.sp,HQ.out.2.2⟩
abbrev comfB:ByteArray:=⟨#[99,111,109,102,111,114,116]⟩
abbrev chaiB:ByteArray:=⟨#[67,104,97,105,114,115]⟩
def fT:Ex:=opE' addB (opE' quoB (opE' mulB (numE (3,5)) (nameE lowB)) (nameE priceB)) (opE' mulB (numE (1,25)) (nameE comfB))
def dD:Nat→TD
 | 0=>⟨nilB,[],[],0,0,leaf nilB (0,0) nilB,[],0,0,0,0,0,0,0⟩
 | 1=>⟨chaiB,[],[],0,0,leaf nilB (0,0) nilB,[],0,0,0,0,0,0,0⟩
 | 2=>⟨chaiB,[(1,500)],[],0,0,leaf nilB (0,0) nilB,[],0,0,0,0,0,0,0⟩
 | 3=>⟨chaiB,[(1,500)],[⟨comfB,1,0,10,false⟩],0,0,leaf nilB (0,0) nilB,[],0,0,0,0,0,0,0⟩
 | 4=>⟨chaiB,[(1,500)],[⟨comfB,1,0,10,false⟩],1,500,leaf nilB (0,0) nilB,[],0,0,0,0,0,0,0⟩
 | 5=>⟨chaiB,[(1,500)],[⟨comfB,1,0,10,false⟩],1,500,fT,[],0,0,0,0,0,0,0⟩
 | 6=>⟨chaiB,[(1,500)],[⟨comfB,1,0,10,false⟩],1,500,fT,[comfB],0,0,0,0,0,0,0⟩
 | 7=>⟨chaiB,[(1,500)],[⟨comfB,1,0,10,false⟩],1,500,fT,[comfB],0,500,0,0,0,0,0⟩
 | _=>⟨chaiB,[(1,500)],[⟨comfB,1,0,10,false⟩],1,500,fT,[comfB],0,500,10,20,30,40,5⟩
def wordL:Nat→ByteArray
 | 0=>⟨#[116,101,110,100,101,114]⟩
 | 1=>⟨#[108,111,116]⟩
 | 2=>⟨#[99,114,105,116,101,114,105,111,110]⟩
 | 3=>⟨#[112,114,105,99,101]⟩
 | 4=>⟨#[102,111,114,109,117,108,97]⟩
 | 5=>⟨#[116,105,101]⟩
 | 6=>⟨#[98,117,100,103,101,116]⟩
 | _=>⟨#[116,105,109,101,115]⟩
theorem dec06:FacT ⟨#[48,46,54]⟩ (numE (3,5)):=
 FacT.dec (s:=⟨#[48,46,54]⟩) (wh:=⟨#[48]⟩) (re:=⟨#[54]⟩) (d:=1) (n0:=0) ⟨by decide,by decide,by decide +kernel,by kernel_rfl,by kernel_rfl,by decide,by kernel_rfl,by kernel_rfl,by decide,by decide,by decide +kernel,by kernel_rfl,by kernel_rfl,by kernel_rfl,by kernel_rfl⟩ ⟨by decide +kernel,by decide +kernel,by decide +kernel,by decide +kernel⟩
theorem dec004:FacT ⟨#[48,46,48,52]⟩ (numE (1,25)):=
 FacT.dec (s:=⟨#[48,46,48,52]⟩) (wh:=⟨#[48]⟩) (re:=⟨#[48,52]⟩) (d:=1) (n0:=0) ⟨by decide,by decide,by decide +kernel,by kernel_rfl,by kernel_rfl,by decide,by kernel_rfl,by kernel_rfl,by decide,by decide,by decide +kernel,by kernel_rfl,by kernel_rfl,by kernel_rfl,by kernel_rfl⟩ ⟨by decide +kernel,by decide +kernel,by decide +kernel,by decide +kernel⟩
theorem nameF (s:ByteArray) (h1:decide (s.size≤1000) && decide (0 < s.size)=true) (h2:(s.toList == [])=false) (h3:digB (byZ s 0)=false) (h4:(s.toList == [40])=false) (h5:(s.toList == [109,105,110])=false) (h6:(s.toList == [109,97,120])=false) (h7:namS s=true):FacT s (nameE s):=by
 simp only [Bool.and_eq_true,decide_eq_true_eq] at h1
 exact FacT.name h1.1 h1.2 h2 h3 h4 h5 h6 h7
theorem tok_names:FacT lowB (nameE lowB)∧FacT priceB (nameE priceB)∧FacT comfB (nameE comfB):=
 ⟨nameF _ (by kernel_rfl) (by kernel_rfl) (by kernel_rfl) (by kernel_rfl) (by kernel_rfl) (by kernel_rfl) (by kernel_rfl),nameF _ (by kernel_rfl) (by kernel_rfl) (by kernel_rfl) (by kernel_rfl) (by kernel_rfl) (by kernel_rfl) (by kernel_rfl),nameF _ (by kernel_rfl) (by kernel_rfl) (by kernel_rfl) (by kernel_rfl) (by kernel_rfl) (by kernel_rfl) (by kernel_rfl)⟩
theorem term0 (p:Nat) (tv:Value):TermAt p tv tokF 0 5 (opE' quoB (opE' mulB (numE (3,5)) (nameE lowB)) (nameE priceB)):=fun wz hz=>
 term_any p tv tokF 0 wz hz (numE (3,5)) [(mulB,nameE lowB),(quoB,nameE priceB)] (by decide) dec06 (fun i hi=>by
  match i,hi with
  | 0,_=>exact ⟨rfl,.inl (by kernel_rfl),tok_names.1⟩
  | 1,_=>exact ⟨rfl,.inr ⟨by kernel_rfl,by kernel_rfl⟩,tok_names.2.1⟩) addB rfl (by kernel_rfl) (by kernel_rfl) (by decide)
theorem term1 (p:Nat) (tv:Value):TermAt p tv tokF 6 9 (opE' mulB (numE (1,25)) (nameE comfB)):=fun wz hz=>
 term_any p tv tokF 6 wz hz (numE (1,25)) [(mulB,nameE comfB)] (by decide) dec004 (fun i hi=>by
  match i,hi with
  | 0,_=>exact ⟨rfl,.inl (by kernel_rfl),tok_names.2.2⟩) nilB rfl (by kernel_rfl) (by kernel_rfl) (by decide)
def posF:Nat→Nat
 | 0=>5
 | _=>9
theorem formL:FormAt tokF 9 fT:=fun p tv wz hz=>
 formula_any p tv tokF 0 posF wz hz _ [(addB,opE' mulB (numE (1,25)) (nameE comfB))] (fun i hi=>by
  match i,hi with
  | 0,_=>decide
  | 1,_=>decide) (fun i hi=>by
  match i,hi with
  | 0,_=>decide) (by decide) (term0 p tv) (fun i hi=>by
  match i,hi with
  | 0,_=>exact ⟨rfl,.inl (by kernel_rfl),term1 p tv⟩) nilB rfl (by kernel_rfl) (by kernel_rfl) (fun i hi=>by
  match i,hi with
  | 0,_=>decide
  | 1,_=>decide)
theorem obj_ne {w:World} {a b:Nat} {cs ds:Array Value} {t u:TypeId} (ha:w.heap[a]? = some (.cells cs t)) (hb:w.heap[b]? = some (.cells ds u)) (h:t≠u):a≠b:=by
 rintro rfl
 rw [ha] at hb
 injection hb with hb
 injection hb with _ h2
 exact h h2
theorem row_stays {w w':World} {B E sz n:Nat} {v:Value} {xs:List Value} (h:w.ownsRow B E sz v n xs) (hg:w.grownBy w' v.ownBlock) {b:Nat} {cs:Array Value} {t:TypeId} (hb:w.heap[b]? = some (.cells cs t)) (hne:t≠E):w'.heap[b]? = some (.cells cs t):=
 (hg.block b (zL hb) (fun e=>by
   obtain ⟨ds,hd⟩:=row_obj h e.symm
   exact obj_ne hb hd hne rfl)).trans hb
theorem row_stays_row {w w':World} {B E sz n B' E' sz' n':Nat} {v v':Value} {xs xs':List Value} (h:w.ownsRow B E sz v n xs) (hg:w.grownBy w' v.ownBlock) (hr:w.ownsRow B' E' sz' v' n' xs') (hne:E'≠E):w'.ownsRow B' E' sz' v' n' xs':=
 row_move hr fun b hb _=>by
  obtain ⟨ds,hd⟩:=row_obj hr hb
  rw [row_stays h hg hd hne,hd]
theorem row_kx {w w':World} {B E sz n bn:Nat} {v:Value} {xs:List Value} {cs:Array Value} {t:TypeId} (h:w.ownsRow B E sz v n xs) (hb:w.heap[bn]? = some (.cells cs t)) (hne:E≠t) (k:KX bn w w'):w'.ownsRow B E sz v n xs:=
 row_move h fun b hb' hl=>k.block b hl fun e=>by
  obtain ⟨ds,hd⟩:=row_obj h hb'
  injection e with e
  exact obj_ne hd hb hne e
theorem row_put {w:World} {B E sz n D j:Nat} {v x:Value} {xs:List Value} {cs:Array Value} {t:TypeId} (h:w.ownsRow B E sz v n xs) (hb:w.heap[D]? = some (.cells cs t)) (hne:E≠t):(w.setCell ⟨D,j,none⟩ x).ownsRow B E sz v n xs:=
 row_move h fun b hb' _=>by
  obtain ⟨ds,hd⟩:=row_obj h hb'
  exact heap_setCell_other _ ⟨D,j,none⟩ _ _ (obj_ne hd hb hne)
abbrev zT:TnR:=⟨nilB,(none,0,0),(none,0,0),(none,0,0),0,0,nilB,0,0,nilB,(none,0,0),(none,0,0),0,(none,0,0),0,0,0,0,0,0⟩
structure GT (W:World) (D bn:Nat) (v:Value) (ns:List Int) (w:World) (pos:Nat) (r:TnR) (T:TP):Prop where
 mx:MX W w bn v ns pos
 at_:w.heap[D]? = some (.cells (tenC r) 39)
 z_:w.heap[W.heap.size]? = some (.cells (tenC zT) 39)
 ge:W.heap.size < D
 ls_:w.ownsRow W.heap.size 72 2 (slV r.ls) T.ls.length (T.ls.flatMap cellsLot)
 cs_:w.ownsRow W.heap.size 78 5 (slV r.cs) T.cs.length (T.cs.flatMap cellsCr)
 rs_:w.ownsRow W.heap.size 88 3 (slV r.rs) T.rs.length (T.rs.flatMap cellsRq)
 ts_:w.ownsRow W.heap.size 9 1 (slV r.ts) T.ts.length (T.ts.flatMap strC)
section
variable {W w w':World} {D bn:Nat} {v:Value} {ns:List Int} {pos pos':Nat} {r r':TnR} {T:TP}
theorem GT.kx (h:GT W D bn v ns w pos r T) (hm:MX W w' bn v ns pos') (k:KX bn w w'):GT W D bn v ns w' pos' r T:=
 ⟨hm,k.at h.at_ (obj_ne h.at_ h.mx.at_ (by decide)),k.at h.z_ (obj_ne h.z_ h.mx.at_ (by decide)),h.ge,row_kx h.ls_ h.mx.at_ (by decide) k,row_kx h.cs_ h.mx.at_ (by decide) k,row_kx h.rs_ h.mx.at_ (by decide) k,row_kx h.ts_ h.mx.at_ (by decide) k⟩
theorem GT.ext (h:GT W D bn v ns w pos r T) (x:Ext w w'):GT W D bn v ns w' pos r T:=h.kx (h.mx.ext x) (KX.of_ext x)
theorem GT.dn (h:GT W D bn v ns w pos r T):D≠bn:=obj_ne h.at_ h.mx.at_ (by decide)
theorem GT.fin (mx:MX W w bn v ns pos) (at_:w.heap[D]? = some (.cells (tenC r) 39)) (z_:w.heap[W.heap.size]? = some (.cells (tenC zT) 39)) (ge:W.heap.size < D) (j:Nat) (x:Value) (he:tenC r' = (tenC r).setIfInBounds j x)
 (l1:w.ownsRow W.heap.size 72 2 (slV r'.ls) T.ls.length (T.ls.flatMap cellsLot)) (l2:w.ownsRow W.heap.size 78 5 (slV r'.cs) T.cs.length (T.cs.flatMap cellsCr)) (l3:w.ownsRow W.heap.size 88 3 (slV r'.rs) T.rs.length (T.rs.flatMap cellsRq)) (l4:w.ownsRow W.heap.size 9 1 (slV r'.ts) T.ts.length (T.ts.flatMap strC)) :
 GT W D bn v ns (w.setCell ⟨D,j,none⟩ x) pos r' T:=
 ⟨mx.put (Nat.le_of_lt ge) (Ne.symm (obj_ne at_ mx.at_ (by decide))) j x,he ▸ heap_put x at_,(heap_setCell_other _ ⟨D,j,none⟩ _ _ (Nat.ne_of_lt ge)).trans z_,ge,row_put l1 at_ (by decide),row_put l2 at_ (by decide),row_put l3 at_ (by decide),row_put l4 at_ (by decide)⟩
theorem GT.set (h:GT W D bn v ns w pos r T) (j:Nat) (x:Value) (he:tenC r' = (tenC r).setIfInBounds j x) (h1:r'.ls=r.ls) (h2:r'.cs=r.cs) (h3:r'.rs=r.rs) (h4:r'.ts=r.ts):GT W D bn v ns (w.setCell ⟨D,j,none⟩ x) pos r' T:=
 GT.fin h.mx h.at_ h.z_ h.ge j x he (h1 ▸ h.ls_) (h2 ▸ h.cs_) (h3 ▸ h.rs_) (h4 ▸ h.ts_)
theorem MX.grow {o:Option Nat} (h:MX W w bn v ns pos) (hg:w.grownBy w' o) (ho:∀ b,o=some b→W.heap.size≤b∧b≠bn):MX W w' bn v ns pos:=
 ⟨ext_grown h.low hg (fun b e=>(ho b e).1),(hg.block bn (zL h.at_) (fun e=>(ho bn e.symm).2 rfl)).trans h.at_,h.ge,h.ird,h.le⟩
theorem MX.row (h:MX W w bn v ns pos) {E sz n:Nat} {u:Value} {xs:List Value} (hr:w.ownsRow W.heap.size E sz u n xs) (hE:E≠85) (hg:w.grownBy w' u.ownBlock):MX W w' bn v ns pos:=
 h.grow hg fun b e=>⟨(hr.lt b e).1,by
  obtain ⟨ds,hd⟩:=row_obj hr e
  exact obj_ne hd h.at_ hE⟩
theorem GT.pushL (h:GT W D bn v ns w pos r T) {x:Sl} {q:Int×Int} (hg:w.grownBy w' (slV r.ls).ownBlock) (hr:w'.ownsRow W.heap.size 72 2 (slV x) (T.ls ++ [q]).length ((T.ls ++ [q]).flatMap cellsLot)) :
 GT W D bn v ns (w'.setCell ⟨D,1,none⟩ (slV x)) pos { r with ls:=x } { T with ls:=T.ls ++ [q] }:=
 GT.fin (h.mx.row h.ls_ (by decide) hg) (row_stays h.ls_ hg h.at_ (by decide)) (row_stays h.ls_ hg h.z_ (by decide)) h.ge 1 _ rfl hr (row_stays_row h.ls_ hg h.cs_ (by decide)) (row_stays_row h.ls_ hg h.rs_ (by decide)) (row_stays_row h.ls_ hg h.ts_ (by decide))
theorem GT.pushC (h:GT W D bn v ns w pos r T) {x:Sl} {q:Cr} (hg:w.grownBy w' (slV r.cs).ownBlock) (hr:w'.ownsRow W.heap.size 78 5 (slV x) (T.cs ++ [q]).length ((T.cs ++ [q]).flatMap cellsCr)) :
 GT W D bn v ns (w'.setCell ⟨D,2,none⟩ (slV x)) pos { r with cs:=x } { T with cs:=T.cs ++ [q] }:=
 GT.fin (h.mx.row h.cs_ (by decide) hg) (row_stays h.cs_ hg h.at_ (by decide)) (row_stays h.cs_ hg h.z_ (by decide)) h.ge 2 _ rfl (row_stays_row h.cs_ hg h.ls_ (by decide)) hr (row_stays_row h.cs_ hg h.rs_ (by decide)) (row_stays_row h.cs_ hg h.ts_ (by decide))
theorem GT.pushR (h:GT W D bn v ns w pos r T) {x:Sl} {q:Rq} (hg:w.grownBy w' (slV r.rs).ownBlock) (hr:w'.ownsRow W.heap.size 88 3 (slV x) (T.rs ++ [q]).length ((T.rs ++ [q]).flatMap cellsRq)) :
 GT W D bn v ns (w'.setCell ⟨D,3,none⟩ (slV x)) pos { r with rs:=x } { T with rs:=T.rs ++ [q] }:=
 GT.fin (h.mx.row h.rs_ (by decide) hg) (row_stays h.rs_ hg h.at_ (by decide)) (row_stays h.rs_ hg h.z_ (by decide)) h.ge 3 _ rfl (row_stays_row h.rs_ hg h.ls_ (by decide)) (row_stays_row h.rs_ hg h.cs_ (by decide)) hr (row_stays_row h.rs_ hg h.ts_ (by decide))
theorem GT.pushT (h:GT W D bn v ns w pos r T) {x:Sl} {q:ByteArray} (hg:w.grownBy w' (slV r.ts).ownBlock) (hr:w'.ownsRow W.heap.size 9 1 (slV x) (T.ts ++ [q]).length ((T.ts ++ [q]).flatMap strC)) :
 GT W D bn v ns (w'.setCell ⟨D,11,none⟩ (slV x)) pos { r with ts:=x } { T with ts:=T.ts ++ [q] }:=
 GT.fin (h.mx.row h.ts_ (by decide) hg) (row_stays h.ts_ hg h.at_ (by decide)) (row_stays h.ts_ hg h.z_ (by decide)) h.ge 11 _ rfl (row_stays_row h.ts_ hg h.ls_ (by decide)) (row_stays_row h.ts_ hg h.cs_ (by decide)) (row_stays_row h.ts_ hg h.rs_ (by decide)) hr
theorem GT.start (mx:MX W w bn v ns pos) (z:w.heap[W.heap.size]? = some (.cells (tenC zT) 39)) (h1:r.ls=(none,0,0)) (h2:r.cs=(none,0,0)) (h3:r.rs=(none,0,0)) (h4:r.ts=(none,0,0)) (f:Ex) :
 GT W w.heap.size bn v ns ((w.alloc (.cells (tenC zT) 39)).setRow w.heap.size (tenC r)) pos r ⟨[],[],[],[],f⟩:=by
 have hz:=zL z
 have hb:=zL mx.at_
 have hx:=Ext.alloc (Ext.refl w) (.cells (tenC zT) 39)
 have hn:=heap_alloc_new w (.cells (tenC zT) 39)
 refine ⟨⟨below_setRow (mx.low.trans hx) mx.low.size _,?_,mx.ge,mx.ird,mx.le⟩,setRow_heap _ _ _ _ _ _ hn,?_,hz,?_,?_,?_,?_⟩
 ·rw [setRow_other _ _ _ _ (Nat.ne_of_lt hb)]
  exact (hx.block _ hb).trans mx.at_
 ·rw [setRow_other _ _ _ _ (Nat.ne_of_lt hz)]
  exact (hx.block _ hz).trans z
 ·rw [h1];exact World.ownsRow_nil _ _ _ _
 ·rw [h2];exact World.ownsRow_nil _ _ _ _
 ·rw [h3];exact World.ownsRow_nil _ _ _ _
 ·rw [h4];exact World.ownsRow_nil _ _ _ _
end
end Go.Proofs.YteomcpplajeidaaGreat
