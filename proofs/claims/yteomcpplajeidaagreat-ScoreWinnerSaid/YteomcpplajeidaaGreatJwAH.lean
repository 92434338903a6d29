/-
  Lemmas of this claim (JwAH). Nothing is asked.
-/
import Derived.Test.YteomcpplajeidaaGreatJwAG
import Derived.Test.YteomcpplajeidaaGreatJwZ
import Derived.Test.YteomcpplajeidaaGreatJwAF
set_option linter.unusedVariables false
set_option linter.unusedSimpArgs false
set_option maxRecDepth 100000
set_option maxHeartbeats 40000000
namespace Go.Proofs.YteomcpplajeidaaGreat
open Go.RowKit
def tpC:TP:=⟨[(1,500)],[⟨comfB,1,0,10,false⟩],[],[comfB],fT⟩
theorem SR.of_block {α:Type} {cs:α→List Value} {sz:Nat} (hl:∀ x,(cs x).length=sz) {w:World} {g c:Nat} {t:TypeId} {xs:List α} (h:w.heap[g]? = some (.cells (xs.flatMap cs).toArray t)) (hn:xs.length≤1000000) :
 SR cs sz w (.slice (some ⟨g,0,none⟩) xs.length c) xs:=
 ⟨_,_,rfl,hn,.inr ⟨g,rfl,fun k hk j u hu=>(cell_of_row w g _ _ _ _ h).trans (by rw [List.getElem?_toArray];exact flat_get xs (fun y _=>hl y) k hk j u hu)⟩⟩
theorem tv_of {A:Nat→Prop} {B:Nat} {w:World} {r:TnR} (h:TF A B w r (dD 9)):TV w r tpC∧r.low=1∧r.high=500:=by
 refine ⟨⟨SR.of_row (xs:=(dD 9).ls) (cs:=cellsLot) (sz:=2) (fun _=>rfl) h.ls_ (by decide),SR.of_row (xs:=(dD 9).cs) (cs:=cellsCr) (sz:=5) (fun _=>rfl) h.cs_ (by decide),?_,SR.of_row (xs:=(dD 9).ts) (cs:=strC) (sz:=1) (fun _=>rfl) h.ts_ (by decide),Rd.all h.fo,by decide +kernel⟩,h.low_,h.high_⟩
 rw [h.rs_]
 exact ⟨none,0,rfl,by decide,.inl rfl⟩
theorem chE_xr {w:World} {g q1 q2 q3:Nat} (hg:w.heap[g]? = some (.cells ((chE q1 q2 q3).flatMap cellsEn).toArray 57)) (h1:w.heap[q1]? = some (.cells #[.string comfB,iV 5] 80)) (h2:w.heap[q2]? = some (.cells #[.string comfB,iV 10] 80)) (h3:w.heap[q3]? = some (.cells #[.string comfB,iV 10] 80)) :
 XR w (.slice (some ⟨g,0,none⟩) 3 3) (chE q1 q2 q3):=by
 refine ⟨SR.of_block (xs:=chE q1 q2 q3) (cs:=cellsEn) (sz:=5) (fun _=>rfl) hg (by show (3:Nat)≤1000000;decide),?_⟩
 have hv:∀ (q:Nat) (n:Int),(n=5∨n=10)→w.heap[q]? = some (.cells #[.string comfB,iV n] 80)→VRd All w [(comfB,n)] (slV (some ⟨q,0,none⟩,1,1)):=by
  intro q n hn h
  refine ⟨_,_,rfl,by show (1:Nat)≤1000000;decide,?_,.inr ⟨q,0,rfl,trivial,?_⟩⟩
  ·intro x hx
   rw [List.mem_singleton.1 hx]
   show _≤n∧n≤_
   omega
  ·intro k hk
   have hk0:k=0:=by simp at hk;omega
   subst hk0
   exact ⟨(cell_of_row w q 0 _ _ _ h).trans rfl,(cell_of_row w q 1 _ _ _ h).trans rfl⟩
 have ok:∀ b k p c:Int,(0≤b∧b≤1000∧0≤k∧k≤1000∧0≤p∧p≤1000)→OkE ⟨b,1,k,p,[(comfB,c)]⟩:=fun b k p c h=>
  ⟨by show _≤b∧b≤_;omega,by show (_:Int)≤1∧(1:Int)≤_;omega,by show _≤k∧k≤_;omega,by show _≤p∧p≤_;omega,by show (1:Nat)≤999998;omega⟩
 intro x hx
 simp at hx
 rcases hx with rfl|rfl|rfl
 ·exact ⟨ok 7 1 100 5 (by decide),hv q1 5 (.inl rfl) h1⟩
 ·exact ⟨ok 8 2 200 10 (by decide),hv q2 10 (.inr rfl) h2⟩
 ·exact ⟨ok 9 3 600 10 (by decide),hv q3 10 (.inr rfl) h3⟩
theorem rank_1 (q1 q2 q3:Nat) (r:TnR) (hl:r.low=1) (hh:r.high=500):errE tpC.ls 1 (ownE 1 (chE q1 q2 q3))=0∧rankL r tpC 1 (chE q1 q2 q3)=[⟨7,(4,5),1,0⟩,⟨8,(7,10),2,0⟩,⟨9,(0,0),0,16⟩]:=by
 obtain ⟨a1,a2,a3,a4,low,high,a7,a8,a9,a10,a11,a12,a13,a14,a15,a16,a17,a18,a19,a20⟩:=r
 simp only at hl hh
 subst hl
 subst hh
 constructor
 ·kernel_rfl
 ·kernel_rfl
theorem rank_2 (q1 q2 q3:Nat) (r:TnR):errE tpC.ls 2 (ownE 2 (chE q1 q2 q3))=34∧rankL r tpC 2 (chE q1 q2 q3)=[]:=⟨by kernel_rfl,by kernel_rfl⟩
theorem sorts_12 (r:TnR) (T:TP) (lot:Int) (xs:List ER) (h:xs.length≤12):SortsOk r T lot xs:=fun _ w0 recv hC g n c w hn hso=>by
 refine sort_small w0 recv _ g n c _ hC hn ?_ w hso
 have h1:(ownE lot xs).length≤xs.length:=List.length_filter_le _ _
 have h2:=List.length_filter_le (fun x:ER=>badF r T (lowF r T (ownE lot xs)) x.1 == 0) (ownE lot xs)
 rw [goodF,List.length_map] at hn
 omega
abbrev rkC:List Rk:=[⟨7,(4,5),1,0⟩,⟨8,(7,10),2,0⟩,⟨9,(0,0),0,16⟩]
theorem en_better (r:TnR) (q1 q2 q3:Nat) (w:World) {g:Nat} (ht:TV w r tpC) (hx:XR w (.slice (some ⟨g,0,none⟩) 3 3) (chE q1 q2 q3)) :
 Calls Tryz.prog 20 #[.agg (tenC r),.agg #[iV 7,iV 1,iV 1,iV 100,.slice (some ⟨q1,0,none⟩) 1 1],.agg #[iV 8,iV 1,iV 2,iV 200,.slice (some ⟨q2,0,none⟩) 1 1],.agg #[iV 1,iV 1],.agg #[iV 1,iV 1]] w (fun e w'=>e=.returned (.bool false)∧Ext w w') ∧
 Calls Tryz.prog 20 #[.agg (tenC r),.agg #[iV 8,iV 1,iV 2,iV 200,.slice (some ⟨q2,0,none⟩) 1 1],.agg #[iV 7,iV 1,iV 1,iV 100,.slice (some ⟨q1,0,none⟩) 1 1],.agg #[iV 1,iV 1],.agg #[iV 1,iV 1]] w (fun e w'=>e=.returned (.bool true)∧Ext w w'):=by
 have hi:I2 (1,1):=by constructor <;> decide
 have v1:=(hx.ok _ (zM)).2
 have v2:=(hx.ok _ (zN _ zM)).2
 constructor
 ·refine (Better_any r tpC.cs tpC.ts ⟨7,1,1,100,[(comfB,5)]⟩ ⟨8,1,2,200,[(comfB,10)]⟩ (some ⟨q1,0,none⟩,1,1) (some ⟨q2,0,none⟩,1,1) (1,1) (1,1) hi hi w ht.h2 ht.h4 v1 v2).mono ?_
  rintro e w' ⟨rfl,h⟩
  exact ⟨by rw [show betF tpC.cs tpC.ts ⟨7,1,1,100,[(comfB,5)]⟩ ⟨8,1,2,200,[(comfB,10)]⟩ (1,1) (1,1)=false by decide +kernel],h⟩
 ·refine (Better_any r tpC.cs tpC.ts ⟨8,1,2,200,[(comfB,10)]⟩ ⟨7,1,1,100,[(comfB,5)]⟩ (some ⟨q2,0,none⟩,1,1) (some ⟨q1,0,none⟩,1,1) (1,1) (1,1) hi hi w ht.h2 ht.h4 v2 v1).mono ?_
  rintro e w' ⟨rfl,h⟩
  exact ⟨by rw [show betF tpC.cs tpC.ts ⟨8,1,2,200,[(comfB,10)]⟩ ⟨7,1,1,100,[(comfB,5)]⟩ (1,1) (1,1)=true by decide +kernel],h⟩
def LeP (w:World) (e:Ending) (w':World):Prop:=∃ c,e=.returned (rv c)∧OkR c∧Ext w w'
theorem less_any (a b:Int×Int) (ha:OkR a) (hb:OkR b) (w:World):Calls Tryz.prog 103 #[rv a,rv b] w (LeP w):=by
 have HC:=zH (fun wz=>rCmp_any a b ha hb wz)
 have HA:=zH ha;have HB:=zH hb
 generalize refCmp a b=c at *
 obtain ⟨a1,a2⟩:=a
 obtain ⟨b1,b2⟩:=b
 clear ha hb
 by_cases h:c≤0
 ·go_in
  go_wp2_with (go_at_call 46;(refine (HC.out _).mono ?_);rintro e w2 ⟨rfl,hb⟩;obtain ⟨hc,hf⟩:=hb.cells;have hz:=hb.size;simp at hz)
  exact bodyPost_ret (v:=.agg #[iV a1,iV a2]) (by simp [results,Tryz.results103,go_sem,hc]) rfl ⟨_,rfl,HA.out,xt⟩
 ·go_in
  go_wp2_with (go_at_call 46;(refine (HC.out _).mono ?_);rintro e w2 ⟨rfl,hb⟩;obtain ⟨hc,hf⟩:=hb.cells;have hz:=hb.size;simp at hz)
  exact bodyPost_ret (v:=.agg #[iV b1,iV b2]) (by simp [results,Tryz.results103,go_sem,hc]) rfl ⟨_,rfl,HB.out,xt⟩
theorem more_any (a b:Int×Int) (ha:OkR a) (hb:OkR b) (w:World):Calls Tryz.prog 104 #[rv a,rv b] w (LeP w):=by
 have HC:=zH (fun wz=>rCmp_any a b ha hb wz)
 have HA:=zH ha;have HB:=zH hb
 generalize refCmp a b=c at *
 obtain ⟨a1,a2⟩:=a
 obtain ⟨b1,b2⟩:=b
 clear ha hb
 by_cases h:0≤c
 ·go_in
  go_wp2_with (go_at_call 46;(refine (HC.out _).mono ?_);rintro e w2 ⟨rfl,hb⟩;obtain ⟨hc,hf⟩:=hb.cells;have hz:=hb.size;simp at hz)
  exact bodyPost_ret (v:=.agg #[iV a1,iV a2]) (by simp [results,Tryz.results104,go_sem,hc]) rfl ⟨_,rfl,HA.out,xt⟩
 ·go_in
  go_wp2_with (go_at_call 46;(refine (HC.out _).mono ?_);rintro e w2 ⟨rfl,hb⟩;obtain ⟨hc,hf⟩:=hb.cells;have hz:=hb.size;simp at hz)
  exact bodyPost_ret (v:=.agg #[iV b1,iV b2]) (by simp [results,Tryz.results104,go_sem,hc]) rfl ⟨_,rfl,HB.out,xt⟩
theorem OkR.zero:OkR (0,0):=⟨by decide,by decide,by decide,by decide⟩
def EndP (w:World) (e:Ending) (w':World):Prop:=∃ lo hi er,e=.returned (.tuple #[rv lo,rv hi,iV er])∧OkR lo∧OkR hi∧Ext w w'
def cR (a:Int×Int):List Value:=[iV a.1,iV a.2]
def cB (b:Bool):List Value:=[.bool b]
theorem results_cct {fn:Func} {p q b:Tmp} {ty:TypeId} (h:fn.results=#[.cell p ty,.cell q ty,.tmp b]) (tmps:Array Value) (w:World) (g g':Nat) (t:TypeId) (cs cs':Array Value) (fr:Nat×Nat) (fs:Array Field) (vb:Value)
 (hp:tmps.getD p undef=.pointer (some ⟨g,0,none⟩)) (hq:tmps.getD q undef=.pointer (some ⟨g',0,none⟩)) (hb:tmps.getD b undef=vb) (hg:w.heap[g]? = some (.cells cs t fr)) (hg':w.heap[g']? = some (.cells cs' t fr))
 (hu:Tryz.prog.underlying ty=some (.struct fs)) (hi:(Tryz.prog.info? ty).map (·.size)=some cs.size) (hi':(Tryz.prog.info? ty).map (·.size)=some cs'.size) :
 (results fn tmps).run Tryz.prog w=.ok (.tuple #[.agg cs,.agg cs',vb]) w:=by
 have hp':tmps[p]?.getD undef=.pointer (some ⟨g,0,none⟩):=by simpa using hp
 have hq':tmps[q]?.getD undef=.pointer (some ⟨g',0,none⟩):=by simpa using hq
 have hb':tmps[b]?.getD undef=vb:=by simpa using hb
 simp [results,h,hp',hq',hb',asAddr,run_loadVar_row w g t ty cs fr (.struct fs) hg hu rfl hi,run_loadVar_row w g' t ty cs' fr (.struct fs) hg' hu rfl hi']
structure EnS (w0 w:World) (g:Nat) (lo hi:Int×Int):Prop where
 low:Ext w0 w
 ge:w0.heap.size≤g
 r1:w.heap[g]? = some (.cells #[iV 0,iV 0] 30)
 r2:w.heap[g+1]? = some (.cells #[iV 0,iV 0] 30)
 a1:w.heap[g+2]? = some (.cells #[iV lo.1,iV lo.2] 30)
 a2:w.heap[g+3]? = some (.cells #[iV hi.1,iV hi.2] 30)
 ol:OkR lo
 oh:OkR hi
theorem EnS.ext {w0 w w':World} {g:Nat} {lo hi:Int×Int} (h:EnS w0 w g lo hi) (x:Ext w w'):EnS w0 w' g lo hi:=
 ⟨h.low.trans x,h.ge,(x.block _ (zL h.r1)).trans h.r1,(x.block _ (zL h.r2)).trans h.r2,(x.block _ (zL h.a1)).trans h.a1,(x.block _ (zL h.a2)).trans h.a2,h.ol,h.oh⟩
theorem EnS.setLo {w0 w:World} {g:Nat} {lo hi c:Int×Int} (h:EnS w0 w g lo hi) (hc:OkR c):EnS w0 ((w.setCell ⟨g+2,0,none⟩ (iV c.1)).setCell ⟨g+2,1,none⟩ (iV c.2)) g c hi:=by
 have k:KX (g+2) w ((w.setCell ⟨g+2,0,none⟩ (iV c.1)).setCell ⟨g+2,1,none⟩ (iV c.2)):=((KX.of_ext (Ext.refl w)).set _).set _
 have hg:=h.ge
 exact ⟨ext_grown h.low k (fun b e=>by injection e with e;omega),h.ge,k.at h.r1 (by omega),k.at h.r2 (by omega),heap_put _ (heap_put _ h.a1),k.at h.a2 (by omega),hc,h.oh⟩
theorem EnS.setHi {w0 w:World} {g:Nat} {lo hi c:Int×Int} (h:EnS w0 w g lo hi) (hc:OkR c):EnS w0 ((w.setCell ⟨g+3,0,none⟩ (iV c.1)).setCell ⟨g+3,1,none⟩ (iV c.2)) g lo c:=by
 have k:KX (g+3) w ((w.setCell ⟨g+3,0,none⟩ (iV c.1)).setCell ⟨g+3,1,none⟩ (iV c.2)):=((KX.of_ext (Ext.refl w)).set _).set _
 have hg:=h.ge
 exact ⟨ext_grown h.low k (fun b e=>by injection e with e;omega),h.ge,k.at h.r1 (by omega),k.at h.r2 (by omega),k.at h.a1 (by omega),heap_put _ (heap_put _ h.a2),h.ol,hc⟩
theorem ends_any (us:List (Int×Int)) (bs:List Bool) (hl:bs.length=us.length) (h0:0 < us.length) (hn:us.length≤10) (hok:∀ a∈us,OkR a) (w:World) (pa pb:Nat) (ha:w.heap[pa]? = some (.cells (us.flatMap cR).toArray 30)) (hb:w.heap[pb]? = some (.cells (bs.flatMap cB).toArray 4)) :
 Calls Tryz.prog 99 #[.slice (some ⟨pa,0,none⟩) us.length us.length,.slice (some ⟨pb,0,none⟩) us.length us.length] w (EndP w):=by
 have HSA:=zH (SR.of_block (c:=us.length) (cs:=cR) (sz:=2) (fun _=>rfl) ha (by omega))
 have hsb:=SR.of_block (c:=us.length) (cs:=cB) (sz:=1) (fun _=>rfl) hb (by omega)
 rw [hl] at hsb
 have HSB:=zH hsb
 have HOK:=zH hok
 have HL:=zH hl
 obtain ⟨q,hq,-,hc⟩:=HSA.out.block 0 h0
 injection hq with hq
 injection hq with hq
 subst hq
 have hz0:=hc 0 h0 0 _ rfl
 have hz1:=hc 0 h0 1 _ rfl
 have HO0:=zH (hok us[0] (List.getElem_mem h0))
 have lpa:=zL ha
 generalize us[0]=x0 at *
 obtain ⟨x1,x2⟩:=x0
 simp only [Nat.zero_mul,Nat.add_zero,Nat.zero_add] at hz0 hz1
 have h0i:(0:Int) < (us.length:Int):=by omega
 clear ha hb hsb hok hl hc
 go_in
 obtain ⟨g,hg⟩:∃ x,x=w.heap.size:=⟨_,rfl⟩
 have s1:Ext w ((w.alloc (.cells #[iV 0,iV 0] 30)).alloc (.cells #[iV 0,iV 0] 30)):=Ext.alloc (Ext.alloc (Ext.refl w) _) _
 have r1:((w.alloc (.cells #[iV 0,iV 0] 30)).alloc (.cells #[iV 0,iV 0] 30)).heap[g]? = some (.cells #[iV 0,iV 0] 30):=by rw [hg];exact al (alloc_new w _)
 have r2:((w.alloc (.cells #[iV 0,iV 0] 30)).alloc (.cells #[iV 0,iV 0] 30)).heap[g+1]? = some (.cells #[iV 0,iV 0] 30):=by rw [hg];exact block_new (by simp)
 have z1:((w.alloc (.cells #[iV 0,iV 0] 30)).alloc (.cells #[iV 0,iV 0] 30)).heap.size=g+2:=by rw [hg];simp
 go_upto_region 1 with (fail)
 rw [← hg]
 have HGW:=zH hg
 generalize (w.alloc (.cells #[iV 0,iV 0] 30)).alloc (.cells #[iV 0,iV 0] 30)=W1 at *
 have y0:=(s1.cells.1 _ _ lpa).trans hz0
 have y1:=(s1.cells.1 _ _ lpa).trans hz1
 have lpa1:=Nat.lt_of_lt_of_le lpa s1.size
 have HS1:=zH s1;have HZ1:=zH z1;have HR1:=zH r1;have HR2:=zH r2
 have HLP:=zH lpa
 clear hz0 hz1 lpa hg s1 z1 r1 r2
 go_upto_region 2 with (fail)
 have s2:Ext W1 (W1.alloc (.cells #[iV x1,iV x2] 30)):=Ext.alloc (Ext.refl _) _
 have a1:(W1.alloc (.cells #[iV x1,iV x2] 30)).heap[g+2]? = some (.cells #[iV x1,iV x2] 30):=block_new HZ1.out
 have z2:(W1.alloc (.cells #[iV x1,iV x2] 30)).heap.size=g+3:=by simp [HZ1.out]
 rw [HZ1.out]
 generalize W1.alloc (.cells #[iV x1,iV x2] 30)=W2 at *
 have u0:=(s2.cells.1 _ _ lpa1).trans y0
 have u1:=(s2.cells.1 _ _ lpa1).trans y1
 have lpa2:=Nat.lt_of_lt_of_le lpa1 s2.size
 have HS2:=zH s2;have HZ2:=zH z2;have HA1:=zH a1
 clear y0 y1 lpa1 s2 z2 a1
 go_upto_region 4 with (fail)
 have s3:Ext W2 (W2.alloc (.cells #[iV x1,iV x2] 30)):=Ext.alloc (Ext.refl _) _
 have a2:(W2.alloc (.cells #[iV x1,iV x2] 30)).heap[g+3]? = some (.cells #[iV x1,iV x2] 30):=block_new HZ2.out
 rw [HZ2.out]
 generalize W2.alloc (.cells #[iV x1,iV x2] 30)=W3 at *
 have HEN:Hid (EnS w W3 g (x1,x2) (x1,x2)):=zH ⟨(HS1.out.trans HS2.out).trans s3,by rw [HGW.out];exact Nat.le_refl _,((HS2.out.trans s3).block _ (zL HR1.out)).trans HR1.out,((HS2.out.trans s3).block _ (zL HR2.out)).trans HR2.out,(s3.block _ (zL HA1.out)).trans HA1.out,a2,HO0.out,HO0.out⟩
 clear u0 u1 lpa2 s3 a2
 have h10:us.length≤10:=hn
 clear hn
 go_loopw [9] (fun iv wr=>∃ (i:Nat) (lo hi:Int×Int),iv=iV i∧i≤us.length∧Hid (EnS w wr g lo hi)) (fun iv _=>us.length - (iof iv).toNat)
 case atStart=>exact ⟨0,_,_,rfl,Nat.zero_le _,HEN⟩
 case round=>
  obtain ⟨i,⟨l1,l2⟩,⟨m1,m2⟩,rfl,hi,HE⟩:=hrel
  clear HEN
  by_cases hil:i < us.length
  ·have hbl:i < bs.length:=by rw [HL.out];exact hil
   obtain ⟨b1,e1,hca⟩:=HSA.out.at HE.out.low i hil
   injection e1 with e1
   injection e1 with e1
   subst e1
   obtain ⟨b2,e2,hcb⟩:=HSB.out.at HE.out.low i hbl
   injection e2 with e2
   injection e2 with e2
   subst e2
   have c0:=hca 0 _ rfl;have c1:=hca 1 _ rfl;have d0:=hcb 0 _ rfl
   have HOI:=zH (HOK.out us[i] (List.getElem_mem hil))
   clear hca hcb
   generalize us[i]=x at *
   generalize bs[i]=b at *
   obtain ⟨y1,y2⟩:=x
   simp only [Nat.add_zero,Nat.mul_one] at c0 c1 d0
   have hili:(i:Int) < (us.length:Int):=by omega
   have lc:=zB wr _ c0
   have ld:=zB wr _ d0
   have hw1:=wz ((i:Int)+1) (by omega)
   cases b with
   | false=>
    obtain ⟨hc1,hf1,hl1⟩:=zC HE.out.r1
    obtain ⟨hc2,hf2,hl2⟩:=zC HE.out.r2
    have k0:=zk hc1 0
    have k1:=zk hc1 1
    have k2:=zk hc2 0
    have k3:=zk hc2 1
    have f0:=hf1 0;have f1:=hf1 1;have f2:=hf2 0;have f3:=hf2 1
    clear hc1 hc2 hf1 hf2
    have kk:∀ z1 z2 z3 z4:Value,Ext w ((((wr.setCell ⟨g,0,none⟩ z1).setCell ⟨g,1,none⟩ z2).setCell ⟨g+1,0,none⟩ z3).setCell ⟨g+1,1,none⟩ z4)∧((((wr.setCell ⟨g,0,none⟩ z1).setCell ⟨g,1,none⟩ z2).setCell ⟨g+1,0,none⟩ z3).setCell ⟨g+1,1,none⟩ z4).heap[g]? = some (.cells #[z1,z2] 30)∧((((wr.setCell ⟨g,0,none⟩ z1).setCell ⟨g,1,none⟩ z2).setCell ⟨g+1,0,none⟩ z3).setCell ⟨g+1,1,none⟩ z4).heap[g+1]? = some (.cells #[z3,z4] 30):=fun z1 z2 z3 z4=>by
     have hg:=HE.out.ge
     have x1:KX g wr ((wr.setCell ⟨g,0,none⟩ z1).setCell ⟨g,1,none⟩ z2):=((KX.of_ext (Ext.refl wr)).set _).set _
     have x2:KX (g+1) ((wr.setCell ⟨g,0,none⟩ z1).setCell ⟨g,1,none⟩ z2) ((((wr.setCell ⟨g,0,none⟩ z1).setCell ⟨g,1,none⟩ z2).setCell ⟨g+1,0,none⟩ z3).setCell ⟨g+1,1,none⟩ z4):=((KX.of_ext (Ext.refl _)).set _).set _
     exact ⟨ext_grown (ext_grown HE.out.low x1 (fun b e=>by injection e with e;omega)) x2 (fun b e=>by injection e with e;omega),x2.at (heap_put _ (heap_put _ HE.out.r1)) (by omega),heap_put _ (heap_put _ (x1.at HE.out.r2 (by omega)))⟩
    go_wp2_with (fail)
    obtain ⟨kx,kg,kh⟩:=kk (iV 0) (iV 0) (iV 0) (iV 0)
    refine bodyPost_ret (v:=.tuple #[rv (0,0),rv (0,0),iV 3]) (results_cct (by rfl) _ _ g (g+1) 30 _ _ _ _ _ (by rfl) (by rfl) (by rfl) kg kh Tryz.underlying30 (by kernel_rfl) (by kernel_rfl)) rfl ?_
    exact ⟨_,_,_,rfl,OkR.zero,OkR.zero,kx⟩
   | true=>
    go_upto_region 8 with (fail)
    have HLC:=zH (fun wz=>less_any (l1,l2) (y1,y2) HE.out.ol HOI.out wz)
    have HMC:=zH (fun wz=>more_any (m1,m2) (y1,y2) HE.out.oh HOI.out wz)
    have h30:=HE.out.a1
    have l30:=zL h30
    refine Rr.rg [(0,.y),(1,.y),(2,.y),(3,.y),(4,.y),(5,.z)] ?_
    refine Rr.y2 (h:=fun wz hw=>up_row (by rfl) ((hw.block _ (zL h30)).trans h30) Tryz.underlying30 (by kernel_rfl)) (k:=?_)
    iterate 3
     refine Rr.y1 ?_
    refine Rr.y2 (h:=fun wz hw=>up_load26 (by rfl) ((hw.cells.1 _ _ lc).trans c0) ((hw.cells.1 _ _ lc).trans c1)) (k:=?_)
    (refine Rr.zd (fun v _=>∃ c,v=rv c∧OkR c) (fun v w1 w2 h e=>h) (fun wz hw hh=>?_) (fun u=>?_)
     ·go_simp
      apply Rr.upR_enter
      (refine (HLC.out wz).mono ?_)
      rintro e wq ⟨n1,rfl,ho,hxq⟩
      exact ⟨_,rfl,hxq,n1.1,n1.2,rfl,ho⟩
     simp only [zp])
    refine Rr.wr_nil ?_
    intro wy hy hh
    obtain ⟨⟨n1,n2⟩,rfl,ho⟩:=hh _ zM
    simp only [gg,gh,gi,gj,Nat.reduceAdd]
    clear hh
    have HEy:=zH (HE.out.ext hy)
    have HO:=zH ho
    clear ho h30 l30
    have hlc:=Nat.lt_of_lt_of_le lc hy.size
    have hc0:=(hy.cells.1 _ _ lc).trans c0
    have hc1:=(hy.cells.1 _ _ lc).trans c1
    clear c0 c1 d0 lc ld hy
    obtain ⟨hcc,hff,lg⟩:=zC HEy.out.a1
    have q0:=zk hcc 0
    have q1:=zk hcc 1
    have f0:=hff 0;have f1:=hff 1
    clear hcc hff
    go_upto_region 9 with (fail)
    have hx1:=HEy.out.setLo (c:=(n1,n2)) HO.out
    have hkk:KX (g+2) wy ((wy.setCell ⟨g+2,0,none⟩ (iV n1)).setCell ⟨g+2,1,none⟩ (iV n2)):=((KX.of_ext (Ext.refl wy)).set _).set _
    have hpg:pa≠g+2:=by have:=HGW.out;have:=HLP.out;omega
    have lc:pa < ((wy.setCell ⟨g+2,0,none⟩ (iV n1)).setCell ⟨g+2,1,none⟩ (iV n2)).heap.size:=Nat.lt_of_lt_of_le hlc hkk.size
    have hcl:∀ o,((wy.setCell ⟨g+2,0,none⟩ (iV n1)).setCell ⟨g+2,1,none⟩ (iV n2)).cell? ⟨pa,o,none⟩=wy.cell? ⟨pa,o,none⟩:=fun o=>World.cell?_of_block (hkk.block _ hlc (fun e=>hpg (by injection e)))
    have c0:=(hcl _).trans hc0
    have c1:=(hcl _).trans hc1
    clear hkk hcl hlc hc0 hc1 q0 q1 f0 f1 lg HEy HE HLC
    have HE:=zH hx1
    clear hx1
    generalize (wy.setCell ⟨g+2,0,none⟩ (iV n1)).setCell ⟨g+2,1,none⟩ (iV n2)=wz at *
    have h30:=HE.out.a2
    have l30:=zL h30
    refine Rr.rg [(0,.y),(1,.y),(2,.y),(3,.y),(4,.y),(5,.z)] ?_
    refine Rr.y2 (h:=fun wz hw=>up_row (by rfl) ((hw.block _ (zL h30)).trans h30) Tryz.underlying30 (by kernel_rfl)) (k:=?_)
    iterate 3
     refine Rr.y1 ?_
    refine Rr.y2 (h:=fun wz hw=>up_load26 (by rfl) ((hw.cells.1 _ _ lc).trans c0) ((hw.cells.1 _ _ lc).trans c1)) (k:=?_)
    (refine Rr.zd (fun v _=>∃ c,v=rv c∧OkR c) (fun v w1 w2 h e=>h) (fun wz hw hh=>?_) (fun u=>?_)
     ·go_simp
      apply Rr.upR_enter
      (refine (HMC.out wz).mono ?_)
      rintro e wq ⟨n1,rfl,ho,hxq⟩
      exact ⟨_,rfl,hxq,n1.1,n1.2,rfl,ho⟩
     simp only [zp])
    refine Rr.wr_nil ?_
    intro wu hy hh
    obtain ⟨⟨n1,n2⟩,rfl,ho⟩:=hh _ zM
    simp only [gg,gh,gi,gj,Nat.reduceAdd]
    clear hh
    have HEy:=zH (HE.out.ext hy)
    have HO2:=zH ho
    clear ho h30 l30 c0 c1 lc hy
    obtain ⟨hcc,hff,lg⟩:=zC HEy.out.a2
    have q0:=zk hcc 0
    have q1:=zk hcc 1
    have f0:=hff 0;have f1:=hff 1
    clear hcc hff
    have HE9:=zH (HEy.out.setHi (c:=(n1,n2)) HO2.out)
    clear HEy HE HMC
    go_wp2_with (fail)
    exact ⟨⟨i+1,_,_,by rfl,by omega,HE9⟩,by simp [iof];omega⟩
  ·obtain rfl:i=us.length:=by omega
   obtain ⟨hc5,-,hl5⟩:=zC HE.out.a1
   obtain ⟨hc6,-,hl6⟩:=zC HE.out.a2
   have x0:=zk hc5 0
   have x1':wr.cell? ⟨g+2,1,none⟩=some (iV l2):=hc5 1
   have x2':wr.cell? ⟨g+3,0,none⟩=some (iV m1):=hc6 0
   have x3:=zk hc6 1
   clear hc5 hc6
   obtain ⟨hc1,hf1,hl1⟩:=zC HE.out.r1
   obtain ⟨hc2,hf2,hl2⟩:=zC HE.out.r2
   have k0:=zk hc1 0
   have k1:=zk hc1 1
   have k2:=zk hc2 0
   have k3:=zk hc2 1
   have f0:=hf1 0;have f1:=hf1 1;have f2:=hf2 0;have f3:=hf2 1
   clear hc1 hc2 hf1 hf2
   have kk:∀ z1 z2 z3 z4:Value,Ext w ((((wr.setCell ⟨g,0,none⟩ z1).setCell ⟨g,1,none⟩ z2).setCell ⟨g+1,0,none⟩ z3).setCell ⟨g+1,1,none⟩ z4)∧((((wr.setCell ⟨g,0,none⟩ z1).setCell ⟨g,1,none⟩ z2).setCell ⟨g+1,0,none⟩ z3).setCell ⟨g+1,1,none⟩ z4).heap[g]? = some (.cells #[z1,z2] 30)∧((((wr.setCell ⟨g,0,none⟩ z1).setCell ⟨g,1,none⟩ z2).setCell ⟨g+1,0,none⟩ z3).setCell ⟨g+1,1,none⟩ z4).heap[g+1]? = some (.cells #[z3,z4] 30):=fun z1 z2 z3 z4=>by
    have hg:=HE.out.ge
    have x1:KX g wr ((wr.setCell ⟨g,0,none⟩ z1).setCell ⟨g,1,none⟩ z2):=((KX.of_ext (Ext.refl wr)).set _).set _
    have x2:KX (g+1) ((wr.setCell ⟨g,0,none⟩ z1).setCell ⟨g,1,none⟩ z2) ((((wr.setCell ⟨g,0,none⟩ z1).setCell ⟨g,1,none⟩ z2).setCell ⟨g+1,0,none⟩ z3).setCell ⟨g+1,1,none⟩ z4):=((KX.of_ext (Ext.refl _)).set _).set _
    exact ⟨ext_grown (ext_grown HE.out.low x1 (fun b e=>by injection e with e;omega)) x2 (fun b e=>by injection e with e;omega),x2.at (heap_put _ (heap_put _ HE.out.r1)) (by omega),heap_put _ (heap_put _ (x1.at HE.out.r2 (by omega)))⟩
   go_upto_region 10 with (fail)
   go_region_held3 (fun w'=>w'.cell? ⟨g+2,0,none⟩=some (iV l1)∧w'.cell? ⟨g+2,1,none⟩=some (iV l2)∧w'.cell? ⟨g+3,0,none⟩=some (iV m1)∧w'.cell? ⟨g+3,1,none⟩=some (iV m2)) (first|exact ⟨x0,x1',x2',x3⟩|go_keep) (fail)
   all_goals
    (go_wp2_with (fail)
     obtain ⟨kx,kg,kh⟩:=kk (iV l1) (iV l2) (iV m1) (iV m2)
     refine bodyPost_ret (v:=.tuple #[rv (l1,l2),rv (m1,m2),iV 0]) (results_cct (by rfl) _ _ g (g+1) 30 _ _ _ _ _ (by rfl) (by rfl) (by rfl) kg kh Tryz.underlying30 (by kernel_rfl) (by kernel_rfl)) rfl ?_
     exact ⟨_,_,_,rfl,HE.out.ol,HE.out.oh,kx.trans (Ext.drew (Ext.refl _))⟩)
end Go.Proofs.YteomcpplajeidaaGreat
