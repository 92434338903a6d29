/-
  Lemmas of this claim (JwV). Nothing is asked.
-/
import Derived.Test.YteomcpplajeidaaGreatJwT
import Derived.Test.YteomcpplajeidaaGreatJwU
import Derived.Test.YteomcpplajeidaaGreatJwK
import Derived.Test.YteomcpplajeidaaGreatJwJ
set_option linter.unusedVariables false
set_option linter.unusedSimpArgs false
set_option maxRecDepth 100000
set_option maxHeartbeats 40000000
namespace Go.Proofs.YteomcpplajeidaaGreat
open Go.RowKit
theorem Ext.of_kx {w w1 w':World} {p:Nat} (h:Ext w w1) (k:KX p w1 w') (hp:w.heap.size≤p):Ext w w':=
 ⟨k.os.trans h.os,k.tape.trans h.tape,k.output.trans h.output,Nat.le_trans h.size k.size,fun i hi=>(k.block i (Nat.lt_of_lt_of_le hi h.size) (fun e=>by injection e with e;omega)).trans (h.block i hi)⟩
def FormAt (L:List (ByteArray×Int)) (k:Nat) (t:Ex):Prop:=
 ∀ (p:Nat) (tv:Value) (wz:World),PX 164 wz p tv L 0 []→Calls Tryz.prog 206 #[.pointer (some ⟨p,0,none⟩)] wz fun e w'=>∃ v,e=.returned v∧Rd (fun b=>wz.heap.size < b) w' t v∧PX 164 w' p tv L k []∧KX p wz w'
theorem results_cell3 {fn:Func} {p a b:Tmp} {ty:TypeId} (h:fn.results=#[.cell p ty,.tmp a,.tmp b]) (tmps:Array Value) (w:World) (g:Nat) (t:TypeId) (cs:Array Value) (fr:Nat×Nat) (fs:Array Field) (va vb:Value)
 (hp:tmps.getD p undef=.pointer (some ⟨g,0,none⟩)) (ha:tmps.getD a undef=va) (hb:tmps.getD b undef=vb) (hg:w.heap[g]? = some (.cells cs t fr))
 (hu:Tryz.prog.underlying ty=some (.struct fs)) (hi:(Tryz.prog.info? ty).map (·.size)=some cs.size) :
 (results fn tmps).run Tryz.prog w=.ok (.tuple #[.agg cs,va,vb]) w:=by
 have hp':tmps[p]?.getD undef=.pointer (some ⟨g,0,none⟩):=by simpa using hp
 have ha':tmps[a]?.getD undef=va:=by simpa using ha
 have hb':tmps[b]?.getD undef=vb:=by simpa using hb
 simp [results,h,hp',ha',hb',asAddr,run_loadVar_row w g t ty cs fr (.struct fs) hg hu rfl hi]
theorem put5_kx0 (w:World) (q:Nat) (b0 b1 b2 b3 b4:Value):KX q w (put5 w q b0 b1 b2 b3 b4):=
 ((((((KX.of_ext (Ext.refl w)).set _).set _).set _).set _).set _)
structure RX (w0 w:World) (p q:Nat) (tv:Value) (l:List (ByteArray×Int)) (k:Nat) (t:Ex) (cs:Array Value):Prop where
 px:PX 164 w p tv l k []
 low:Ext w0 w
 at_:w.heap[q]? = some (.cells cs 33)
 rd:Rd (fun b=>w0.heap.size < b) w t (.agg cs)
 res:w.heap[w0.heap.size]? = some (.cells zero5 33)
theorem RX.ext {w0 w w':World} {p q k:Nat} {tv:Value} {l:List (ByteArray×Int)} {t:Ex} {cs:Array Value} (h:RX w0 w p q tv l k t cs) (x:Ext w w'):RX w0 w' p q tv l k t cs:=
 ⟨h.px.ext x,h.low.trans x,(x.block _ (zL h.at_)).trans h.at_,h.rd.ext x,(x.block _ (zL h.res)).trans h.res⟩
theorem Rd.all {S:Nat→Prop} {w:World} {t:Ex} {v:Value} (h:Rd S w t v):Rd All w t v:=Rd.frame (fun _ _ _ _=>rfl) (fun _ _=>trivial) t v h
theorem read_any (s:ByteArray) (fr ed:Nat) (hs:s.size≤900000) (hft:fr≤ed) (hto:ed≤s.size) (L:List (ByteArray×Int)) (hL:parL s fr ed=L) (t:Ex) (k:Nat) (hk:k < L.length) (hz:(L[k].1.toList == [])=true) (hp:t.parts≤60) (hd:t.depth≤12) (hF:FormAt L k t) (hLl:L.length≤1000000) (w:World) :
 Calls Tryz.prog 182 #[.string s,iV fr,iV ed] w fun e w'=>∃ v,e=.returned (.tuple #[v,iV 0,iV 0])∧Rd (fun b=>w.heap.size < b) w' t v∧Ext w w':=by
 have HPA:=zH (fun wz=>parts205_any s fr ed hs hft hto wz)
 rw [hL] at HPA
 have HF:=zH (fun p tv (wz:World) (hz:PX 164 wz p tv L 0 [])=>hF p tv wz hz)
 have HTX:=zH (fun p tv wz (hz:PX 164 wz p tv L k [])=>text_any p tv L k wz hz.c.1 hz.c.2.1 hz.tok hk)
 have HPT:=zH (fun wz v (hv:Rd All wz t v)=>pparts_any 12 t hd (by omega) wz v hv)
 have HDT:=zH (fun wz v (hv:Rd All wz t v)=>pdepth_any 12 t hd (by omega) wz v hv)
 have HLl:=zH hLl
 generalize L[k].1=z at *
 generalize hn1:t.parts=n1 at *
 generalize hn2:t.depth=n2 at *
 clear hL hF hLl hn1 hn2
 have p1:¬ (60:Int) < (n1:Int):=by omega
 have p2:¬ (12:Int) < (n2:Int):=by omega
 go_in
 go_upto_region 2 with (go_at_call 205;(refine (HPA.out _).mono ?_);rintro e w1 ⟨g,cap,rfl,hx1,hr1⟩;have HX1:=zH hx1;have HR1:=zH hr1;clear hx1 hr1)
 have hz0:w1.heap[w.heap.size]? = some (.cells zero5 33):=(HX1.out.block _ (by simp)).trans (block_new rfl)
 have hx0:Ext w w1:=Ext.trans xt HX1.out
 have hpx:PX 164 (w1.alloc (.cells #[.slice (some ⟨g,0,none⟩) L.length cap,iV 0,iV 0,iV 0] 164)) w1.heap.size (.slice (some ⟨g,0,none⟩) L.length cap) L 0 []:=
  ⟨block_new rfl,(SR.of_row (cs:=tokC) (fun _=>rfl) HR1.out HLl.out).ext (Ext.alloc (Ext.refl _) _),fun b n c e=>by
   have h1:=HR1.out.form (by omega)
   obtain ⟨g',cap',e1,-,h2⟩:=h1
   injection e1 with e1
   injection e1 with e1
   injection e1 with e1
   injection e with e
   injection e with e
   injection e with e
   omega⟩
 have hz1:(w1.alloc (.cells #[.slice (some ⟨g,0,none⟩) L.length cap,iV 0,iV 0,iV 0] 164)).heap[w.heap.size]? = some (.cells zero5 33):=((Ext.alloc (Ext.refl w1) _).block _ (zL hz0)).trans hz0
 have hx1:Ext w (w1.alloc (.cells #[.slice (some ⟨g,0,none⟩) L.length cap,iV 0,iV 0,iV 0] 164)):=hx0.trans (Ext.alloc (Ext.refl w1) _)
 have HPX:=zH hpx;have HZ1:=zH hz1;have HX2:=zH hx1
 have hlt:w.heap.size < w1.heap.size:=zL hz0
 clear hpx hz1 hx1 hz0 hx0
 obtain ⟨p,hpe⟩:∃ p,p=w1.heap.size:=⟨_,rfl⟩
 rw [← hpe] at HPX hlt ⊢
 clear hpe
 generalize w1.alloc (.cells #[.slice (some ⟨g,0,none⟩) L.length cap,iV 0,iV 0,iV 0] 164)=w2 at *
 generalize (Value.slice (some ⟨g,0,none⟩) L.length cap)=tv at *
 have hw2:=zL HPX.out.at_
 go_upto_region 3 with (go_at_call 206;(refine (HF.out _ _ _ HPX.out).mono ?_);rintro e w3 ⟨v,rfl,hr3,hp3,hx3⟩;obtain ⟨op0,m1,m2,nm0,b0,n0,c0,rfl⟩:=hr3.form;have HR3:=zH hr3;have HP3:=zH hp3;have HZ3:=zH (hx3.at HZ1.out (show w.heap.size≠p by omega));have HX3:=zH (Ext.of_kx HX2.out hx3 (Nat.le_of_lt hlt));clear hr3 hp3 hx3)
 have hrx:RX w (w3.alloc (.cells #[.string op0,iV m1,iV m2,.string nm0,.slice b0 n0 c0] 33)) p w3.heap.size tv L k t #[.string op0,iV m1,iV m2,.string nm0,.slice b0 n0 c0]:=
  ⟨HP3.out.ext (Ext.alloc (Ext.refl _) _),HX3.out.trans (Ext.alloc (Ext.refl _) _),block_new rfl,(Rd.frame (fun _ _ _ _=>rfl) (fun b hb=>by have:=HX2.out.size;omega) _ _ HR3.out).ext (Ext.alloc (Ext.refl _) _),((Ext.alloc (Ext.refl w3) _).block _ (zL HZ3.out)).trans HZ3.out⟩
 have HT:=zH hrx
 clear hrx
 obtain ⟨q,hqe⟩:∃ q,q=w3.heap.size:=⟨_,rfl⟩
 rw [← hqe] at HT ⊢
 clear hqe
 generalize w3.alloc (.cells #[.string op0,iV m1,iV m2,.string nm0,.slice b0 n0 c0] 33)=wr at *
 clear HP3 HX3 HR3 HZ3 HPX HZ1 HX2 hw2
 obtain ⟨c0',c1,c2,c3⟩:=HT.out.px.c;obtain ⟨e0,e1,e2,e3,e4,-⟩:=cells_five HT.out.at_;have hpl1:=zL HT.out.px.at_;have hql1:=zL HT.out.at_
 go_upto_region 10 with (first
  |(go_at_call 140;(with_reducible refine (HTX.out _ _ _ HT.out.px).mono ?_);rintro e wr ⟨rfl,hx5⟩;have HT:=zH (HT.out.ext hx5);clear hx5;obtain ⟨c0',c1,c2,c3⟩:=HT.out.px.c;obtain ⟨e0,e1,e2,e3,e4,-⟩:=cells_five HT.out.at_;have hpl1:=zL HT.out.px.at_;have hql1:=zL HT.out.at_)
  |(go_at_call 148;(with_reducible refine (HPT.out _ _ HT.out.rd.all).mono ?_);rintro e wr ⟨rfl,hx5⟩;have HT:=zH (HT.out.ext hx5);clear hx5;obtain ⟨c0',c1,c2,c3⟩:=HT.out.px.c;obtain ⟨e0,e1,e2,e3,e4,-⟩:=cells_five HT.out.at_;have hpl1:=zL HT.out.px.at_;have hql1:=zL HT.out.at_)
  |(go_at_call 149;(with_reducible refine (HDT.out _ _ HT.out.rd.all).mono ?_);rintro e wr ⟨rfl,hx5⟩;have HT:=zH (HT.out.ext hx5);clear hx5;obtain ⟨c0',c1,c2,c3⟩:=HT.out.px.c;obtain ⟨e0,e1,e2,e3,e4,-⟩:=cells_five HT.out.at_;have hpl1:=zL HT.out.px.at_;have hql1:=zL HT.out.at_))
 obtain ⟨r0,r1,r2,r3,r4,s0,s1,s2,s3,s4⟩:=cells_five HT.out.res
 have hrl:=zL HT.out.res
 go_wp2_with (fail)
 have hfin:=put5_at HT.out.res (.string op0) (iV m1) (iV m2) (.string nm0) (.slice b0 n0 c0)
 have hx5:=Ext.of_kx HT.out.low (put5_kx0 wr w.heap.size (.string op0) (iV m1) (iV m2) (.string nm0) (.slice b0 n0 c0)) (Nat.le_refl _)
 have hr5:=put5_rd (S:=fun b=>w.heap.size < b) (S':=fun b=>w.heap.size < b) (q:=w.heap.size) (b0:=.string op0) (b1:=iV m1) (b2:=iV m2) (b3:=.string nm0) (b4:=.slice b0 n0 c0) HT.out.rd (fun b hb=>Nat.ne_of_gt hb) (fun b hb=>hb)
 exact bodyPost_ret (v:=.tuple #[.agg #[.string op0,iV m1,iV m2,.string nm0,.slice b0 n0 c0],iV 0,iV 0]) (results_cell3 Tryz.results182 _ _ w.heap.size 33 _ _ _ (iV 0) (iV 0) (by rfl) (by rfl) (by rfl) hfin Tryz.underlying33 (by kernel_rfl)) rfl ⟨_,rfl,hr5,hx5⟩
theorem SR.len {α:Type} {cs:α→List Value} {sz:Nat} {w:World} {base:Option Addr} {n c:Nat} {xs:List α} (h:SR cs sz w (.slice base n c) xs):n=xs.length:=by
 obtain ⟨_,_,hf⟩:=h.form
 injection hf
theorem SR.at {α:Type} {cs:α→List Value} {sz:Nat} {w wr:World} {base:Option Addr} {n c:Nat} {xs:List α} (h:SR cs sz w (.slice base n c) xs) (hx:Ext w wr) (k:Nat) (hk:k < xs.length) :
 ∃ b,base=some ⟨b,0,none⟩∧∀ j u,(cs xs[k])[j]? = some u→wr.cell? ⟨b,k * sz+j,none⟩=some u:=by
 obtain ⟨b,hb,-,hc⟩:=(h.ext hx).block k hk
 exact ⟨b,hb,hc k hk⟩
theorem VRd.at {w wr:World} {base:Option Addr} {n c:Nat} {vs:Vals} (h:VRd All w vs (.slice base n c)) (hx:Ext w wr) (k:Nat) (hk:k < vs.length) :
 ∃ b off,base=some ⟨b,off,none⟩∧wr.cell? ⟨b,off+k * 2,none⟩=some (.string vs[k].1)∧wr.cell? ⟨b,off+k * 2+1,none⟩=some (iV vs[k].2):=by
 obtain ⟨base',cap,hf,-,-,hc⟩:=h.ext hx
 injection hf with e1 _ _
 subst e1
 obtain ⟨b,off,hb,-,hcs⟩:=hc.resolve_left (by intro e;rw [e] at hk;simp at hk)
 exact ⟨b,off,hb,hcs k hk⟩
theorem reqE_none {vs:Vals} {rn rl:ByteArray} {rv n:Int} {m:Nat} (h:lkv vs rn=(n,m)) (hm:m=0):reqE vs ⟨rn,rl,rv⟩=13:=by
 unfold reqE;rw [h];exact if_pos hm
theorem reqE_arg {vs:Vals} {rn rl:ByteArray} {rv n:Int} {m:Nat} (h:lkv vs rn=(n,m)) (hm:¬ m=0) (h1:(rl.toList == [60,61])=false) (h2:(rl.toList == [62,61])=false):reqE vs ⟨rn,rl,rv⟩=1:=by
 unfold reqE;rw [h];simp only;rw [if_neg hm,if_pos ⟨h1,h2⟩]
theorem reqE_out {vs:Vals} {rn rl:ByteArray} {rv n:Int} {m:Nat} (h:lkv vs rn=(n,m)) (hm:¬ m=0) (h1:((rl.toList == [60,61])=true∧rv < n)∨((rl.toList == [62,61])=true∧n < rv)):reqE vs ⟨rn,rl,rv⟩=37:=by
 unfold reqE;rw [h];simp only;rw [if_neg hm,if_neg (fun h=>by rcases h1 with ⟨h1,-⟩|⟨h1,-⟩ <;> rw [h1] at h <;> simp at h),if_pos h1]
theorem reqE_zero {vs:Vals} {rn rl:ByteArray} {rv n:Int} {m:Nat} (h:lkv vs rn=(n,m)) (hm:¬ m=0) (h0:¬ ((rl.toList == [60,61])=false∧(rl.toList == [62,61])=false))
 (h1:¬ (((rl.toList == [60,61])=true∧rv < n)∨((rl.toList == [62,61])=true∧n < rv))):reqE vs ⟨rn,rl,rv⟩=0:=by
 unfold reqE;rw [h];simp only;rw [if_neg hm,if_neg h0,if_neg h1]
theorem tcells {w:World} {p:Nat} {r:TnR} (h:w.heap[p]? = some (.cells (tenC r) 39)) :
 w.cell? ⟨p,1,none⟩=some (slV r.ls)∧w.cell? ⟨p,2,none⟩=some (slV r.cs)∧w.cell? ⟨p,3,none⟩=some (slV r.rs)∧w.cell? ⟨p,4,none⟩=some (iV r.low)∧w.cell? ⟨p,5,none⟩=some (iV r.high)∧p < w.heap.size:=by
 obtain ⟨hc,-,hl⟩:=zC h
 exact ⟨hc 1,hc 2,hc 3,hc 4,hc 5,hl⟩
theorem ecells {w:World} {p:Nat} {b l c q:Int} {es:Sl} (h:w.heap[p]? = some (.cells (entC b l c q es) 57)) :
 w.cell? ⟨p,1,none⟩=some (iV l)∧w.cell? ⟨p,3,none⟩=some (iV q)∧w.cell? ⟨p,4,none⟩=some (slV es)∧p < w.heap.size:=by
 obtain ⟨hc,-,hl⟩:=zC h
 exact ⟨hc 1,hc 3,hc 4,hl⟩
theorem admit1 (a b lot:Int) (p:Nat) (w:World) (hc:w.cell? ⟨p,1,none⟩=some (iV lot)) :
 Calls Tryz.prog 49 #[.agg #[iV a,iV b],.pointer (some ⟨p,0,none⟩)] w fun e w'=>e=.returned (.bool (a == lot))∧Ext w w':=by
 have hb:=zB w _ hc
 have hn:¬ p=w.heap.size:=by have:p < w.heap.size:=hb;omega
 go_in
 go_wp2
 go_ret
 exact ⟨by simp,xt⟩
theorem admit2 (c:Cr) (nm:ByteArray) (p:Nat) (w:World) (hc:w.cell? ⟨p,0,none⟩=some (.string nm)) :
 Calls Tryz.prog 52 #[.agg (cellsCr c).toArray,.pointer (some ⟨p,0,none⟩)] w fun e w'=>e=.returned (.bool (c.name.toList == nm.toList))∧Ext w w':=by
 have hb:=zB w _ hc
 have hn:¬ p=w.heap.size:=by have:p < w.heap.size:=hb;omega
 unfold cellsCr
 go_in
 go_wp2
 go_ret
 exact ⟨by simp,xt⟩
theorem idx_any {α:Type} (q:α→Bool) (xs:List α) (p:Nat→Bool) (hp:∀ k (h:k < xs.length),p k=q xs[k]):decide (0≤idxZ p xs.length)=xs.any q:=by
 rcases idx_find q xs p hp with ⟨h1,h2⟩|⟨k,hk,h1,h2⟩
 ·rw [h2]
  symm
  have:=List.find?_eq_none.1 h1
  rw [List.any_eq_false.2 (fun x hx=>by simpa using this x hx)]
  decide
 ·rw [h2]
  symm
  rw [List.any_eq_true.2 ⟨xs[k],List.getElem_mem hk,List.find?_some h1⟩]
  symm
  simp
def lotP (ls:List (Int×Int)) (lot:Int) (k:Nat):Bool:=(ls.getD k (0,0)).1 == lot
def crP (cs:List Cr) (nm:ByteArray) (k:Nat):Bool:=match cs[k]? with|some c=>c.name.toList == nm.toList|none=>false
theorem lots_idx (ls:List (Int×Int)) (lot:Int) (x:Sl) (p:Nat) (w:World) (h:SR cellsLot 2 w (slV x) ls) (hc:w.cell? ⟨p,1,none⟩=some (iV lot)) :
 Calls Tryz.prog 48 #[slV x,.func (.func 49) #[] #[.pointer (some ⟨p,0,none⟩)]] w fun e w'=>e=.returned (iV (idxZ (lotP ls lot) ls.length))∧Ext w w':=by
 obtain ⟨base,n,c⟩:=x
 have hb:=zB w _ hc
 rcases Nat.eq_zero_or_pos ls.length with h0|h0
 ·obtain ⟨_,_,hf⟩:=h.form
  injection hf with _ hn _
  rw [h0] at hn ⊢
  subst hn
  exact index59_nil base c _ w
 ·have hle:=h.le
  obtain ⟨b,rfl,rfl,hcs⟩:=h.block 0 h0
  refine index59 b 0 ls.length c hle 49 _ (fun k j=>if j=0 then iV (ls.getD k (0,0)).1 else iV (ls.getD k (0,0)).2) _ w (fun k hk=>?_) (fun k hk=>?_) (fun k w' hk hx=>?_) (fun _ _=>by kernel_rfl)
  ·rw [Nat.zero_add];exact hcs k hk 0 _ (by simp [cellsLot,List.getD_eq_getElem?_getD,hk])
  ·rw [Nat.zero_add];exact hcs k hk 1 _ (by simp [cellsLot,List.getD_eq_getElem?_getD,hk])
  ·exact admit1 _ _ lot p w' ((hx.cells.1 _ _ hb).trans hc)
theorem lotP_spec (ls:List (Int×Int)) (lot:Int) (k:Nat) (h:k < ls.length):lotP ls lot k=(ls[k].1 == lot):=by
 simp [lotP,List.getD_eq_getElem?_getD,h]
theorem known_any (cs:List Cr) (nm:ByteArray) (x:Sl) (p:Nat) (w:World) (h:SR cellsCr 5 w (slV x) cs) (hc:w.cell? ⟨p,0,none⟩=some (.string nm)) :
 Calls Tryz.prog 51 #[slV x,.func (.func 52) #[] #[.pointer (some ⟨p,0,none⟩)]] w fun e w'=>e=.returned (.bool (knownC cs nm))∧Ext w w':=by
 have key:Calls Tryz.prog 76 #[slV x,.func (.func 52) #[] #[.pointer (some ⟨p,0,none⟩)]] w fun e w'=>e=.returned (iV (idxZ (crP cs nm) cs.length))∧Ext w w':=by
  obtain ⟨base,n,c⟩:=x
  have hb:=zB w _ hc
  rcases Nat.eq_zero_or_pos cs.length with h0|h0
  ·obtain ⟨_,_,hf⟩:=h.form
   injection hf with _ hn _
   rw [h0] at hn ⊢
   subst hn
   exact index86_nil base c _ w
  ·have hle:=h.le
   obtain ⟨b,rfl,rfl,hcs⟩:=h.block 0 h0
   let E:Nat→Nat→Value:=fun k j=>match cs[k]? with|some c=>((cellsCr c)[j]?).getD undef|none=>undef
   have hE:∀ k (hk:k < cs.length) j,j < 5→E k j=((cellsCr cs[k])[j]?).getD undef:=fun k hk j _=>by simp only [E,List.getElem?_eq_getElem hk]
   have hcell:∀ k (hk:k < cs.length) j,j < 5→w.cell? ⟨b,0+k * 5+j,none⟩=some (E k j):=fun k hk j hj=>by
    rw [Nat.zero_add]
    refine hcs k hk j _ ?_
    rw [hE k hk j hj]
    have:j < (cellsCr cs[k]).length:=hj
    rw [List.getElem?_eq_getElem this]
    rfl
   refine index86 b 0 cs.length c hle 52 _ E _ w (fun k hk=>hcell k hk 0 (by decide)) (fun k hk=>hcell k hk 1 (by decide)) (fun k hk=>hcell k hk 2 (by decide)) (fun k hk=>hcell k hk 3 (by decide)) (fun k hk=>hcell k hk 4 (by decide)) (fun k w' hk hx=>?_) (fun _ _=>by kernel_rfl)
   have:=admit2 cs[k] nm p w' ((hx.cells.1 _ _ hb).trans hc)
   rw [hE k hk 0 (by decide),hE k hk 1 (by decide),hE k hk 2 (by decide),hE k hk 3 (by decide),hE k hk 4 (by decide)]
   simp only [crP,List.getElem?_eq_getElem hk]
   exact this
 have hany:=idx_any (fun c:Cr=>c.name.toList == nm.toList) cs (crP cs nm) (fun k hk=>by simp [crP,hk])
 change _=knownC cs nm at hany
 have HK:=zH key
 have HY:=zH hany
 clear key hany
 generalize idxZ (crP cs nm) cs.length=z at *
 obtain ⟨x1,x2,x3⟩:=x
 go_in
 go_wp2_with (go_at_call 76;(refine HK.out.mono ?_);rintro e w1 ⟨rfl,hx1⟩)
 go_ret
 exact ⟨by rw [← HY.out];rfl,xt⟩
theorem Admit_any (r:TnR) (bidder lot receipt price:Int) (es:Sl) (ls:List (Int×Int)) (cs:List Cr) (rs:List Rq) (vs:Vals) (w:World)
 (h1:SR cellsLot 2 w (slV r.ls) ls) (h2:SR cellsCr 5 w (slV r.cs) cs) (h3:SR cellsRq 3 w (slV r.rs) rs) (h4:VRd All w vs (slV es)) :
 Calls Tryz.prog 22 #[.agg (tenC r),.agg (entC bidder lot receipt price es)] w fun e w'=>e=.returned (iV (admitI ls cs rs r.low r.high lot price vs))∧Ext w w':=by
 obtain ⟨nm,⟨la,ll,lc⟩,⟨ca,cl,cc⟩,⟨ra,rl,rc⟩,low,high,fo,f1,f2,fn,⟨fa,fl,fc⟩,⟨ta,tl,tc⟩,most0,⟨ka,kl,kc⟩,budget,t0,t1,t2,t3,t4⟩:=r
 obtain ⟨ea,el,ec⟩:=es
 obtain rfl:ll=ls.length:=h1.len
 obtain rfl:cl=cs.length:=h2.len
 obtain rfl:rl=rs.length:=h3.len
 obtain rfl:el=vs.length:=by obtain ⟨_,_,hf,-⟩:=h4;injection hf
 have H1:=zH h1
 have H2:=zH h2
 have H3:=zH h3
 have H4:=zH h4
 have hle1:(ls.length:Int)≤1000000:=by have:=h1.le;omega
 have hle2:(cs.length:Int)≤1000000:=by have:=h2.le;omega
 have hle3:(rs.length:Int)≤1000000:=by have:=h3.le;omega
 have hle4:(vs.length:Int)≤1000000:=by obtain ⟨_,_,-,h,-⟩:=h4;omega
 clear h1 h2 h3 h4
 generalize hr:(TnR.mk nm (la,ls.length,lc) (ca,cs.length,cc) (ra,rs.length,rc) low high fo f1 f2 fn (fa,fl,fc) (ta,tl,tc) most0 (ka,kl,kc) budget t0 t1 t2 t3 t4)=r
 have HRR:=zH hr
 have r1:r.ls=(la,ls.length,lc):=by rw [← hr]
 have r2:r.cs=(ca,cs.length,cc):=by rw [← hr]
 have r3:r.rs=(ra,rs.length,rc):=by rw [← hr]
 have r4:r.low=low:=by rw [← hr]
 have r5:r.high=high:=by rw [← hr]
 have T1:=zH (fun (w:World) (p:Nat) (h:w.heap[p]? = some (.cells (tenC r) 39))=>(show w.cell? ⟨p,1,none⟩=some (.slice la ls.length lc)∧w.cell? ⟨p,2,none⟩=some (.slice ca cs.length cc)∧w.cell? ⟨p,3,none⟩=some (.slice ra rs.length rc)∧w.cell? ⟨p,4,none⟩=some (iV low)∧w.cell? ⟨p,5,none⟩=some (iV high)∧p < w.heap.size by
  have:=tcells h
  rw [r1,r2,r3,r4,r5] at this
  exact this))
 rw [r4,r5]
 clear hr r1 r2 r3 r4 r5 HRR
 go_in
 go_upto_region 1 with (fail)
 have hx0:Ext w ((w.alloc (.cells (tenC r) 39)).alloc (.cells (entC bidder lot receipt price (ea,vs.length,ec)) 57)):=xt
 have hT:((w.alloc (.cells (tenC r) 39)).alloc (.cells (entC bidder lot receipt price (ea,vs.length,ec)) 57)).heap[w.heap.size]? = some (.cells (tenC r) 39):=by
  rw [Below.heap_alloc _ _ _ (by simp)];exact block_new rfl
 have hE:((w.alloc (.cells (tenC r) 39)).alloc (.cells (entC bidder lot receipt price (ea,vs.length,ec)) 57)).heap[w.heap.size+1]? = some (.cells (entC bidder lot receipt price (ea,vs.length,ec)) 57):=block_new (by simp)
 obtain ⟨d1,d2,d3,d4,d5,dl⟩:=T1.out _ _ hT
 obtain ⟨e1,e3,e4,el⟩:=ecells hE
 replace e4:_=some (Value.slice ea vs.length ec):=e4
 have HT:=zH hT
 have HE:=zH hE
 clear hT hE
 generalize (w.alloc (.cells (tenC r) 39)).alloc (.cells (entC bidder lot receipt price (ea,vs.length,ec)) 57)=W at *
 generalize w.heap.size+1=pe at *
 generalize w.heap.size=pt at *
 have HL:=zH (lots_idx ls lot (la,ls.length,lc) pe W (H1.out.ext hx0) e1)
 rcases idx_find (fun l=>l.1 == lot) ls (lotP ls lot) (lotP_spec ls lot) with ⟨hf,hz⟩|⟨k,hk,hf,hz⟩
 ·have HA:=zH (show admitI ls cs rs low high lot price vs=34 by unfold admitI lotAt;rw [hf])
  rw [hz] at HL
  clear hf hz
  go_wp2_with (go_at_call 48;(refine HL.out.mono ?_);rintro e w1 ⟨rfl,hx1⟩)
  go_ret
  exact ⟨by rw [HA.out];rfl,xt⟩
 ·rw [hz] at HL
  have HA:=zH (show admitI ls cs rs low high lot price vs=if price < low∨high < price∨ls[k].2 < price then 16 else restE cs rs vs by unfold admitI lotAt;rw [hf])
  obtain ⟨b,rfl,hcs⟩:=H1.out.at hx0 k hk
  have hc1:W.cell? ⟨b,k * 2+1,none⟩=some (iV ls[k].2):=hcs 1 _ rfl
  have hkn:(k:Int) < (ls.length:Int):=by omega
  have hk6:(k:Int)≤1000000:=by omega
  have hbl:=zB W _ hc1
  generalize ls[k].2=most at *
  clear hf hz hcs
  go_upto_region 4 with (go_at_call 48;(refine HL.out.mono ?_);rintro e w1 ⟨rfl,hx1⟩)
  have c4:=(hx1.cells.1 _ _ dl).trans d4
  have c5:=(hx1.cells.1 _ _ dl).trans d5
  have c1:=(hx1.cells.1 _ _ dl).trans d1
  have q3:=(hx1.cells.1 _ _ el).trans e3
  have m1:=(hx1.cells.1 _ _ hbl).trans hc1
  have lt:=Nat.lt_of_lt_of_le dl hx1.size
  have le':=Nat.lt_of_lt_of_le el hx1.size
  have lb:=Nat.lt_of_lt_of_le hbl hx1.size
  clear d1 d2 d3 d4 d5 e1 e3 e4 HL
  by_cases hlo:price < low
  ·have HA':=zH (HA.out.trans (if_pos (.inl hlo)))
   refine Rr.rg ((List.range 18).map (fun i=>(i,.y))) ?_
   simp only [List.range,List.range.loop,List.map_cons,List.map_nil]
   iterate 6
    refine Rr.y1 ?_
   refine Rr.wr_skip (by simp only [ga,gb,gc];rfl) (by rfl) ?_
   simp only [zp]
   refine Rr.wr_skip (by simp only [ga,gb,gc];rfl) (by rfl) ?_
   simp only [zp]
   refine Rr.wr_skip (by simp only [ga,gb,gc];rfl) (by rfl) ?_
   simp only [zp]
   refine Rr.wr_skip (by simp only [ga,gb,gc];rfl) (by rfl) ?_
   simp only [zp]
   refine Rr.wr_skip (by simp only [ga,gb,gc];rfl) (by rfl) ?_
   simp only [zp]
   refine Rr.wr_skip (by simp only [ga,gb,gc];rfl) (by rfl) ?_
   simp only [zp]
   refine Rr.wr_skip (by simp only [ga,gb,gc];rfl) (by rfl) ?_
   simp only [zp]
   refine Rr.wr_skip (by simp only [ga,gb,gc];rfl) (by rfl) ?_
   simp only [zp]
   refine Rr.wr_skip (by simp only [ga,gb,gc];rfl) (by rfl) ?_
   simp only [zp]
   refine Rr.wr_skip (by simp only [ga,gb,gc];rfl) (by rfl) ?_
   simp only [zp]
   refine Rr.wr_skip (by simp only [ga,gb,gc];rfl) (by rfl) ?_
   simp only [zp]
   refine Rr.wr_skip (by simp only [ga,gb,gc];rfl) (by rfl) ?_
   simp only [zp]
   refine Rr.wr_nil ?_
   intro wy hy hh
   simp only [gg,gh,gi,gj,Nat.reduceAdd]
   clear hh
   go_wp2
   go_ret
   exact ⟨by rw [HA'.out];rfl,xt⟩
  ·by_cases hhi:high < price∨most < price
   ·have HA':=zH (HA.out.trans (if_pos (.inr hhi)))
    have hmin:min high most < price:=by omega
    refine Rr.rg ((List.range 18).map (fun i=>(i,.y))) ?_
    simp only [List.range,List.range.loop,List.map_cons,List.map_nil]
    iterate 18
     refine Rr.y1 ?_
    refine Rr.wr_nil ?_
    intro wy hy hh
    simp only [gg,gh,gi,gj,Nat.reduceAdd]
    clear hh
    go_wp2
    go_ret
    exact ⟨by rw [HA'.out];rfl,xt⟩
   ·have HA':=zH (HA.out.trans (if_neg (fun h=>h.elim hlo hhi)))
    have hmin:¬ min high most < price:=by omega
    refine Rr.rg ((List.range 18).map (fun i=>(i,.y))) ?_
    simp only [List.range,List.range.loop,List.map_cons,List.map_nil]
    iterate 18
     refine Rr.y1 ?_
    refine Rr.wr_nil ?_
    intro wy hy hh
    simp only [gg,gh,gi,gj,Nat.reduceAdd]
    clear hh
    have hxz:=hx1.trans hy
    have hxy:=hx0.trans hxz
    have HT2:=zH ((hxz.block _ (zL HT.out)).trans HT.out)
    have HE2:=zH ((hxz.block _ (zL HE.out)).trans HE.out)
    have HC:=zH (H2.out.ext hxy)
    have HR:=zH (H3.out.ext hxy)
    have HV:=zH (H4.out.ext hxy)
    obtain ⟨d1,d2,d3,d4,d5,dl'⟩:=T1.out _ _ HT2.out
    obtain ⟨e1,e3,e4,el'⟩:=ecells HE2.out
    replace e4:_=some (Value.slice ea vs.length ec):=e4
    clear H1 H2 H3 H4 HT HE HA hlo hhi hmin c1 c4 c5 q3 m1 lt le' lb hx0 hx1 hxz hy hc1 hkn hk6 hbl dl el hk d1 d3 d4 d5 e1 e3
    generalize wy=W2 at *
    clear w1 W
    go_wp2_with (fail)
    go_loopw [44] (fun k wr=>∃ j:Nat,k=iV j∧j≤cs.length∧Hid (cs.all (okC vs)=(cs.drop j).all (okC vs))∧Ext W2 wr) (fun k _=>cs.length - (intOf k).toNat)
    case atStart=>exact ⟨0,by go_num,Nat.zero_le _,zH rfl,Ext.refl _⟩
    case round=>
     obtain ⟨j,rfl,hj,hall,hx⟩:=hrel
     rcases Nat.lt_or_ge j cs.length with hlt|hge
     ·obtain ⟨bc,rfl,hcs⟩:=HC.out.at hx j hlt
      have hs0:wr.cell? ⟨bc,j * 5,none⟩=some (.string cs[j].name):=hcs 0 _ rfl
      have hs1:wr.cell? ⟨bc,j * 5+1,none⟩=some (iV cs[j].kind):=hcs 1 _ rfl
      have hs2:wr.cell? ⟨bc,j * 5+2,none⟩=some (iV cs[j].low):=hcs 2 _ rfl
      have hs3:wr.cell? ⟨bc,j * 5+3,none⟩=some (iV cs[j].high):=hcs 3 _ rfl
      have hs4:wr.cell? ⟨bc,j * 5+4,none⟩=some (.bool cs[j].less):=hcs 4 _ rfl
      have hbc:=zB wr _ hs1
      have HD:=zH (hall.out.trans (all_drop cs (okC vs) j hlt))
      have hjl:(j:Int) < (cs.length:Int):=by omega
      have g4:=(hx.cells.1 _ _ el').trans e4
      have lE:=Nat.lt_of_lt_of_le el' hx.size
      have HVr:=zH (HV.out.ext hx)
      generalize cs[j]=c at *
      obtain ⟨cn,ck,clo,chi,cle⟩:=c
      have HK:=zH (lookup_any vs cn)
      obtain ⟨n,m,hnm⟩:∃ n m,lkv vs cn=(n,m):=⟨_,_,rfl⟩
      have HO:Hid (okC vs ⟨cn,ck,clo,chi,cle⟩=(decide (m=1) && decide (clo≤n) && decide (n≤chi))):=zH (by unfold okC;simp only [hnm])
      have hm6:(m:Int)≤1000000:=by have:=lkv_le vs cn;rw [hnm] at this;simp only at this;omega
      rw [hnm] at HK
      clear hcs hall hnm e4
      rcases (show (¬ m=1)∨(m=1∧n < clo)∨(m=1∧¬ n < clo∧chi < n)∨(m=1∧¬ n < clo∧¬ chi < n) by omega) with hm|⟨hm,h1⟩|⟨hm,h1,h2⟩|⟨hm,h1,h2⟩
      ·have HB:=zH (show admitI ls cs rs low high lot price vs=16 by rw [HA'.out];unfold restE;rw [HD.out,HO.out,decide_eq_false hm];rfl)
       have hd:((m:Int) == 1)=false:=by rw [beq_eq_false_iff_ne];omega
       have hd':((m:Int) != 1)=true:=by rw [bne_iff_ne];omega
       go_wp2_with (go_at_call 50;(refine (HK.out _ _ (HVr.out.ext xt)).mono ?_);rintro e w5 ⟨rfl,hx5⟩;have b2:w5.cell? ⟨wr.heap.size,2,none⟩=some (iV clo):=(hx5.cells.1 _ _ (by simp)).trans (by go_simp);have b3:w5.cell? ⟨wr.heap.size,3,none⟩=some (iV chi):=(hx5.cells.1 _ _ (by simp)).trans (by go_simp))
       go_ret
       exact ⟨by rw [HB.out];rfl,xt⟩
      ·subst hm
       have HB:=zH (show admitI ls cs rs low high lot price vs=16 by rw [HA'.out];unfold restE;rw [HD.out,HO.out,decide_eq_false (show ¬ clo≤n by omega)];rfl)
       go_wp2_with (go_at_call 50;(refine (HK.out _ _ (HVr.out.ext xt)).mono ?_);rintro e w5 ⟨rfl,hx5⟩;have b2:w5.cell? ⟨wr.heap.size,2,none⟩=some (iV clo):=(hx5.cells.1 _ _ (by simp)).trans (by go_simp);have b3:w5.cell? ⟨wr.heap.size,3,none⟩=some (iV chi):=(hx5.cells.1 _ _ (by simp)).trans (by go_simp))
       go_ret
       exact ⟨by rw [HB.out];rfl,xt⟩
      ·subst hm
       have HB:=zH (show admitI ls cs rs low high lot price vs=16 by rw [HA'.out];unfold restE;rw [HD.out,HO.out,decide_eq_true (show clo≤n by omega),decide_eq_false (show ¬ n≤chi by omega)];rfl)
       go_wp2_with (go_at_call 50;(refine (HK.out _ _ (HVr.out.ext xt)).mono ?_);rintro e w5 ⟨rfl,hx5⟩;have b2:w5.cell? ⟨wr.heap.size,2,none⟩=some (iV clo):=(hx5.cells.1 _ _ (by simp)).trans (by go_simp);have b3:w5.cell? ⟨wr.heap.size,3,none⟩=some (iV chi):=(hx5.cells.1 _ _ (by simp)).trans (by go_simp))
       go_ret
       exact ⟨by rw [HB.out];rfl,xt⟩
      ·subst hm
       have HB:=zH (show cs.all (okC vs)=(cs.drop (j+1)).all (okC vs) by rw [HD.out,HO.out,decide_eq_true (show clo≤n by omega),decide_eq_true (show n≤chi by omega)];rfl)
       go_wp2_with (go_at_call 50;(refine (HK.out _ _ (HVr.out.ext xt)).mono ?_);rintro e w5 ⟨rfl,hx5⟩;have b2:w5.cell? ⟨wr.heap.size,2,none⟩=some (iV clo):=(hx5.cells.1 _ _ (by simp)).trans (by go_simp);have b3:w5.cell? ⟨wr.heap.size,3,none⟩=some (iV chi):=(hx5.cells.1 _ _ (by simp)).trans (by go_simp))
       go_roundw
       case rel=>exact ⟨j+1,by go_num,by omega,HB,xt⟩
       case measure=>simp [intOf];omega
     ·have HA2:Hid (admitI ls cs rs low high lot price vs=if vs.all (fun v=>knownC cs v.1)=false then 13 else reqsE vs rs):=zH (by
       have h:cs.all (okC vs)=true:=by rw [hall.out,List.drop_eq_nil_of_le hge];rfl
       rw [HA'.out];unfold restE;rw [if_neg (by rw [h];decide)])
      have hjl:¬ (j:Int) < (cs.length:Int):=by omega
      obtain ⟨W3,rfl⟩:∃ W3:World,W3=wr:=⟨_,rfl⟩
      have HT3:=zH ((hx.block _ dl').trans HT2.out)
      have HE3:=zH ((hx.block _ el').trans HE2.out)
      have HC3:=zH (HC.out.ext hx)
      have HR3:=zH (HR.out.ext hx)
      have HV3:=zH (HV.out.ext hx)
      have hxy3:=hxy.trans hx
      have t2':=(T1.out _ _ HT3.out).2.1
      have t3':=(T1.out _ _ HT3.out).2.2.1
      have tl':=(T1.out _ _ HT3.out).2.2.2.2.2
      obtain ⟨-,-,e4',el3⟩:=ecells HE3.out
      replace e4':_=some (Value.slice ea vs.length ec):=e4'
      clear HT2 HE2 HC HR HV HA' hall hx hxy hge dl' el' e4 HT3 HE3
      go_wp2_with (fail)
      go_loopw [74] (fun k wr=>∃ j:Nat,k=iV j∧j≤vs.length∧Hid (vs.all (fun v=>knownC cs v.1)=(vs.drop j).all (fun v=>knownC cs v.1))∧Ext W3 wr) (fun k _=>vs.length - (intOf k).toNat)
      case atStart=>exact ⟨0,by go_num,Nat.zero_le _,zH rfl,Ext.refl _⟩
      case round=>
       obtain ⟨i,rfl,hi,hall,hx⟩:=hrel
       have t2r:=(hx.cells.1 _ _ tl').trans t2'
       have ltr:=Nat.lt_of_lt_of_le tl' hx.size
       rcases Nat.lt_or_ge i vs.length with hlt|hge
       ·obtain ⟨bv,bo,rfl,hs0,hs1⟩:=VRd.at HV3.out hx i hlt
        have hbv:=zB wr _ hs1
        have HD:=zH (hall.out.trans (all_drop vs (fun v=>knownC cs v.1) i hlt))
        have hil:(i:Int) < (vs.length:Int):=by omega
        have HCr:=zH (HC3.out.ext hx)
        generalize vs[i]=u at *
        obtain ⟨un,uz⟩:=u
        have HK:=zH (known_any cs un (ca,cs.length,cc))
        clear hall t2'
        cases hkn:knownC cs un
        ·rw [hkn] at HK
         have HB:=zH (show admitI ls cs rs low high lot price vs=13 by rw [HA2.out,HD.out];simp only [hkn];rfl)
         clear hkn
         go_wp2_with (go_at_call 51;(refine (HK.out _ _ (HCr.out.ext xt) (by go_simp)).mono ?_);rintro e w5 ⟨rfl,hx5⟩)
         go_ret
         exact ⟨by rw [HB.out];rfl,xt⟩
        ·rw [hkn] at HK
         have HB:=zH (show vs.all (fun v=>knownC cs v.1)=(vs.drop (i+1)).all (fun v=>knownC cs v.1) by rw [HD.out];simp only [hkn];rfl)
         clear hkn
         go_wp2_with (go_at_call 51;(refine (HK.out _ _ (HCr.out.ext xt) (by go_simp)).mono ?_);rintro e w5 ⟨rfl,hx5⟩)
         go_roundw
         case rel=>exact ⟨i+1,by go_num,by omega,HB,xt⟩
         case measure=>simp [intOf];omega
       ·have HA3:Hid (admitI ls cs rs low high lot price vs=reqsE vs rs):=zH (by
         have h:vs.all (fun v=>knownC cs v.1)=true:=by rw [hall.out,List.drop_eq_nil_of_le hge];rfl
         rw [HA2.out,if_neg (by rw [h];decide)])
        have hil:¬ (i:Int) < (vs.length:Int):=by omega
        obtain ⟨W4,rfl⟩:∃ W4:World,W4=wr:=⟨_,rfl⟩
        have HR4:=zH (HR3.out.ext hx)
        have HV4:=zH (HV3.out.ext hx)
        have hxy4:=hxy3.trans hx
        have t3r:=(hx.cells.1 _ _ tl').trans t3'
        have e4r:=(hx.cells.1 _ _ el3).trans e4'
        have elr:=Nat.lt_of_lt_of_le el3 hx.size
        clear HC3 HR3 HV3 HA2 hall hx hxy3 hge t2r t2' t3' e4' el3 tl'
        go_wp2_with (fail)
        go_loopw [87] (fun k wr=>∃ j:Nat,k=iV j∧j≤rs.length∧Hid (reqsE vs rs=reqsE vs (rs.drop j))∧Ext W4 wr) (fun k _=>rs.length - (intOf k).toNat)
        case atStart=>exact ⟨0,by go_num,Nat.zero_le _,zH rfl,Ext.refl _⟩
        case round=>
         obtain ⟨i,rfl,hi,hall,hx⟩:=hrel
         rcases Nat.lt_or_ge i rs.length with hlt|hge
         ·obtain ⟨br,rfl,hcs⟩:=HR4.out.at hx i hlt
          have hs0:wr.cell? ⟨br,i * 3,none⟩=some (.string rs[i].name):=hcs 0 _ rfl
          have hs1:wr.cell? ⟨br,i * 3+1,none⟩=some (.string rs[i].rel):=hcs 1 _ rfl
          have hs2:wr.cell? ⟨br,i * 3+2,none⟩=some (iV rs[i].value):=hcs 2 _ rfl
          have hbr:=zB wr _ hs1
          have HD:=zH (HA3.out.trans (hall.out.trans (reqs_drop vs rs i hlt)))
          have HD':=zH (hall.out.trans (reqs_drop vs rs i hlt))
          have hil':(i:Int) < (rs.length:Int):=by omega
          have g4:=(hx.cells.1 _ _ elr).trans e4r
          have lE:=Nat.lt_of_lt_of_le elr hx.size
          have HVr:=zH (HV4.out.ext hx)
          generalize rs[i]=q at *
          obtain ⟨rn,rl,rv⟩:=q
          have HK:=zH (lookup_any vs rn)
          obtain ⟨n,m,hnm⟩:∃ n m,lkv vs rn=(n,m):=⟨_,_,rfl⟩
          have hm6:(m:Int)≤1000000:=by have:=lkv_le vs rn;rw [hnm] at this;simp only at this;omega
          have HN:=zH hnm
          rw [hnm] at HK
          clear hcs hall hnm
          by_cases hm:m=0
          ·have HB:=zH (show admitI ls cs rs low high lot price vs=13 by rw [HD.out,reqE_none HN.out hm];rfl)
           subst hm
           go_wp2_with (go_at_call 50;(refine (HK.out _ _ (HVr.out.ext xt)).mono ?_);rintro e w5 ⟨rfl,hx5⟩;have b1:w5.cell? ⟨wr.heap.size,1,none⟩=some (.string rl):=(hx5.cells.1 _ _ (by simp)).trans (by go_simp);have b2:w5.cell? ⟨wr.heap.size,2,none⟩=some (iV rv):=(hx5.cells.1 _ _ (by simp)).trans (by go_simp))
           go_ret
           exact ⟨by rw [HB.out];rfl,xt⟩
          ·have hd:((m:Int) == 0)=false:=by rw [beq_eq_false_iff_ne];omega
           have Hm:=zH hm
           clear hm
           cases q1:(rl.toList == [60,61])
           ·have q1':(rl.toList != [60,61])=true:=by rw [bne,q1];rfl
            cases q2:(rl.toList == [62,61])
            ·have q2':(rl.toList != [62,61])=true:=by rw [bne,q2];rfl
             have HB:=zH (show admitI ls cs rs low high lot price vs=1 by rw [HD.out,reqE_arg HN.out Hm.out q1 q2];rfl)
             go_wp2_with (go_at_call 50;(refine (HK.out _ _ (HVr.out.ext xt)).mono ?_);rintro e w5 ⟨rfl,hx5⟩;have b1:w5.cell? ⟨wr.heap.size,1,none⟩=some (.string rl):=(hx5.cells.1 _ _ (by simp)).trans (by go_simp);have b2:w5.cell? ⟨wr.heap.size,2,none⟩=some (iV rv):=(hx5.cells.1 _ _ (by simp)).trans (by go_simp))
             go_ret
             exact ⟨by rw [HB.out];rfl,xt⟩
            ·have q2':(rl.toList != [62,61])=false:=by rw [bne,q2];rfl
             by_cases hv:n < rv
             ·have HB:=zH (show admitI ls cs rs low high lot price vs=37 by rw [HD.out,reqE_out HN.out Hm.out (.inr ⟨q2,hv⟩)];rfl)
              go_wp2_with (go_at_call 50;(refine (HK.out _ _ (HVr.out.ext xt)).mono ?_);rintro e w5 ⟨rfl,hx5⟩;have b1:w5.cell? ⟨wr.heap.size,1,none⟩=some (.string rl):=(hx5.cells.1 _ _ (by simp)).trans (by go_simp);have b2:w5.cell? ⟨wr.heap.size,2,none⟩=some (iV rv):=(hx5.cells.1 _ _ (by simp)).trans (by go_simp))
              go_ret
              exact ⟨by rw [HB.out];rfl,xt⟩
             ·have HB:=zH (show reqsE vs rs=reqsE vs (rs.drop (i+1)) by rw [HD'.out,if_pos (reqE_zero HN.out Hm.out (fun h=>by rw [q2] at h;simp at h) (fun h=>h.elim (fun h=>by rw [q1] at h;simp at h) (fun h=>hv h.2)))])
              go_wp2_with (go_at_call 50;(refine (HK.out _ _ (HVr.out.ext xt)).mono ?_);rintro e w5 ⟨rfl,hx5⟩;have b1:w5.cell? ⟨wr.heap.size,1,none⟩=some (.string rl):=(hx5.cells.1 _ _ (by simp)).trans (by go_simp);have b2:w5.cell? ⟨wr.heap.size,2,none⟩=some (iV rv):=(hx5.cells.1 _ _ (by simp)).trans (by go_simp))
              go_roundw
              case rel=>exact ⟨i+1,by go_num,by omega,HB,xt⟩
              case measure=>simp [intOf];omega
           ·have q1':(rl.toList != [60,61])=false:=by rw [bne,q1];rfl
            have q2:(rl.toList == [62,61])=false:=by rw [eq_of_beq q1];decide
            by_cases hv:rv < n
            ·have HB:=zH (show admitI ls cs rs low high lot price vs=37 by rw [HD.out,reqE_out HN.out Hm.out (.inl ⟨q1,hv⟩)];rfl)
             go_wp2_with (go_at_call 50;(refine (HK.out _ _ (HVr.out.ext xt)).mono ?_);rintro e w5 ⟨rfl,hx5⟩;have b1:w5.cell? ⟨wr.heap.size,1,none⟩=some (.string rl):=(hx5.cells.1 _ _ (by simp)).trans (by go_simp);have b2:w5.cell? ⟨wr.heap.size,2,none⟩=some (iV rv):=(hx5.cells.1 _ _ (by simp)).trans (by go_simp))
             go_ret
             exact ⟨by rw [HB.out];rfl,xt⟩
            ·have HB:=zH (show reqsE vs rs=reqsE vs (rs.drop (i+1)) by rw [HD'.out,if_pos (reqE_zero HN.out Hm.out (fun h=>by rw [q1] at h;simp at h) (fun h=>h.elim (fun h=>hv h.2) (fun h=>by rw [q2] at h;simp at h)))])
             go_wp2_with (go_at_call 50;(refine (HK.out _ _ (HVr.out.ext xt)).mono ?_);rintro e w5 ⟨rfl,hx5⟩;have b1:w5.cell? ⟨wr.heap.size,1,none⟩=some (.string rl):=(hx5.cells.1 _ _ (by simp)).trans (by go_simp);have b2:w5.cell? ⟨wr.heap.size,2,none⟩=some (iV rv):=(hx5.cells.1 _ _ (by simp)).trans (by go_simp))
             go_roundw
             case rel=>exact ⟨i+1,by go_num,by omega,HB,xt⟩
             case measure=>simp [intOf];omega
         ·have HB:=zH (show admitI ls cs rs low high lot price vs=0 by rw [HA3.out,hall.out,List.drop_eq_nil_of_le hge];rfl)
          have hil':¬ (i:Int) < (rs.length:Int):=by omega
          go_wp2
          go_ret
          exact ⟨by rw [HB.out];rfl,xt⟩
end Go.Proofs.YteomcpplajeidaaGreat
