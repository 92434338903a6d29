/-
  Lemmas of this claim (JwAN). Nothing is asked.
-/
import Derived.Test.YteomcpplajeidaaGreatJwAM
set_option linter.unusedVariables false
set_option linter.unusedSimpArgs false
set_option maxRecDepth 100000
set_option maxHeartbeats 40000000
namespace Go.Proofs.YteomcpplajeidaaGreat
open Go.RowKit
theorem normS_ok {N D:Int} (hD:0≤D):OkR (normS N D).1:=by
 unfold normS
 simp only
 split
 ·exact ⟨by decide,by decide,by decide,by decide⟩
 ·rename_i h
  have h1:0≤D / (Int.gcd N D:Int):=Int.ediv_nonneg hD (by omega)
  refine ⟨?_,?_,?_,?_⟩ <;> simp only <;> omega
theorem refOp_ok {a b:Int×Int} {N D:Int} (h:rightB a.1 a.2=true→rightB b.1 b.2=true→0≤D):OkR (refOp a b N D).1:=by
 unfold refOp
 split
 ·rename_i hr
  rw [Bool.and_eq_true] at hr
  exact normS_ok (h hr.1 hr.2)
 ·exact ⟨by decide,by decide,by decide,by decide⟩
theorem den_pos {a b:Int×Int} (h1:rightB a.1 a.2=true) (h2:rightB b.1 b.2=true):0≤a.2 * b.2:=
 Int.le_of_lt (Int.mul_pos ((rightB_iff _ _).1 h1).1 ((rightB_iff _ _).1 h2).1)
def ArP (w:World) (e:Ending) (w':World):Prop:=∃ c1 c2 b,e=.returned (.tuple #[.agg #[iV c1,iV c2],.bool b])∧OkR (c1,c2)∧Ext w w'
theorem ar_of {w:World} {p:(Int×Int)×Bool} {F:FuncId} {us:Array Value} (ho:OkR p.1) (h:Calls Tryz.prog F us w fun e w'=>e=.returned (rbv p)∧Ext w w'):Calls Tryz.prog F us w (ArP w):=
 h.mono (by rintro e w' ⟨rfl,hx⟩;exact ⟨p.1.1,p.1.2,p.2,rfl,ho,hx⟩)
theorem aAdd (a b:Int×Int) (ha:OkR a) (hb:OkR b) (w:World):Calls Tryz.prog 98 #[rv a,rv b] w (ArP w):=ar_of (refOp_ok den_pos) (rAdd_any a b ha hb w)
theorem aSub (a b:Int×Int) (ha:OkR a) (hb:OkR b) (w:World):Calls Tryz.prog 100 #[rv a,rv b] w (ArP w):=ar_of (refOp_ok den_pos) (rSub_any a b ha hb w)
theorem aMul (a b:Int×Int) (ha:OkR a) (hb:OkR b) (w:World):Calls Tryz.prog 101 #[rv a,rv b] w (ArP w):=ar_of (refOp_ok den_pos) (rMul_any a b ha hb w)
theorem aQuo (a b:Int×Int) (ha:OkR a) (hb:OkR b) (w:World):Calls Tryz.prog 102 #[rv a,rv b] w (ArP w):=by
 refine ar_of ?_ (rQuo_any a b ha hb w)
 unfold refQuo
 split
 ·exact ⟨by decide,by decide,by decide,by decide⟩
 ·refine refOp_ok fun h1 _=>?_
  have h3:=((rightB_iff _ _).1 h1).1
  have h4:0≤sizeZ b.1:=by unfold sizeZ;split <;> omega
  exact Int.mul_nonneg (Int.le_of_lt h3) h4
def IvR (u:Value):Prop:=∃ lo hi er,u=.tuple #[rv lo,rv hi,iV er]∧OkR lo∧OkR hi
theorem IvR.mk {lo hi:Int×Int} {er:Int} (h1:OkR lo) (h2:OkR hi):IvR (.tuple #[.agg #[iV lo.1,iV lo.2],.agg #[iV hi.1,iV hi.2],iV er]):=⟨lo,hi,er,rfl,h1,h2⟩
theorem OkR.one:OkR (0,1):=⟨by decide,by decide,by decide,by decide⟩
def LeR (u:Value):Prop:=∃ c,u=rv c∧OkR c
theorem LeR.mk {c:Int×Int} (h:OkR c):LeR (.agg #[iV c.1,iV c.2]):=⟨c,rfl,h⟩
theorem two_st {W wy:World} {p1 p2:Nat} (hy:Ext W wy) (g1:W.heap.size≤p1) (g2:W.heap.size≤p2) (hne:p2≠p1) (m1:wy.heap[p1]? = some (.cells #[iV 0,iV 0] 30)) (m2:wy.heap[p2]? = some (.cells #[iV 0,iV 0] 30)) (z1 z2 z3 z4:Value) :
 Ext W ((((wy.setCell ⟨p1,0,none⟩ z1).setCell ⟨p1,1,none⟩ z2).setCell ⟨p2,0,none⟩ z3).setCell ⟨p2,1,none⟩ z4)∧((((wy.setCell ⟨p1,0,none⟩ z1).setCell ⟨p1,1,none⟩ z2).setCell ⟨p2,0,none⟩ z3).setCell ⟨p2,1,none⟩ z4).heap[p1]? = some (.cells #[z1,z2] 30)∧((((wy.setCell ⟨p1,0,none⟩ z1).setCell ⟨p1,1,none⟩ z2).setCell ⟨p2,0,none⟩ z3).setCell ⟨p2,1,none⟩ z4).heap[p2]? = some (.cells #[z3,z4] 30):=by
 have x1:KX p1 wy ((wy.setCell ⟨p1,0,none⟩ z1).setCell ⟨p1,1,none⟩ z2):=((KX.of_ext (Ext.refl wy)).set _).set _
 have x2:KX p2 ((wy.setCell ⟨p1,0,none⟩ z1).setCell ⟨p1,1,none⟩ z2) ((((wy.setCell ⟨p1,0,none⟩ z1).setCell ⟨p1,1,none⟩ z2).setCell ⟨p2,0,none⟩ z3).setCell ⟨p2,1,none⟩ z4):=((KX.of_ext (Ext.refl _)).set _).set _
 exact ⟨ext_grown (ext_grown hy x1 (fun b e=>by injection e with e;omega)) x2 (fun b e=>by injection e with e;omega),x2.at (heap_put _ (heap_put _ m1)) (Ne.symm hne),heap_put _ (heap_put _ (x1.at m2 hne))⟩
structure Q4 (W:World) (pA pB pC pD:Nat) (x1 x2 y1 y2 u1 u2 v1 v2:Int):Prop where
 a:W.heap[pA]? = some (.cells #[iV x1,iV x2] 30)
 b:W.heap[pB]? = some (.cells #[iV y1,iV y2] 30)
 c:W.heap[pC]? = some (.cells #[iV u1,iV u2] 30)
 d:W.heap[pD]? = some (.cells #[iV v1,iV v2] 30)
theorem Q4.ext {W W':World} {pA pB pC pD:Nat} {x1 x2 y1 y2 u1 u2 v1 v2:Int} (h:Q4 W pA pB pC pD x1 x2 y1 y2 u1 u2 v1 v2) (x:Ext W W'):Q4 W' pA pB pC pD x1 x2 y1 y2 u1 u2 v1 v2:=
 ⟨(x.block _ (zL h.a)).trans h.a,(x.block _ (zL h.b)).trans h.b,(x.block _ (zL h.c)).trans h.c,(x.block _ (zL h.d)).trans h.d⟩
theorem ends_2 {w:World} {a b:Int×Int} {p q:Bool} {pa pb:Nat} (o1:OkR a) (o2:OkR b) (h1:w.heap[pa]? = some (.cells #[iV a.1,iV a.2,iV b.1,iV b.2] 30)) (h2:w.heap[pb]? = some (.cells #[.bool p,.bool q] 4)) :
 Calls Tryz.prog 99 #[.slice (some ⟨pa,0,none⟩) 2 2,.slice (some ⟨pb,0,none⟩) 2 2] w (EndP w):=
 ends_any [a,b] [p,q] rfl (by simp) (by simp) (by simp;exact ⟨o1,o2⟩) w pa pb h1 h2
theorem ends_4 {w:World} {a b c d:Int×Int} {p q r s:Bool} {pa pb:Nat} (o1:OkR a) (o2:OkR b) (o3:OkR c) (o4:OkR d) (h1:w.heap[pa]? = some (.cells #[iV a.1,iV a.2,iV b.1,iV b.2,iV c.1,iV c.2,iV d.1,iV d.2] 30)) (h2:w.heap[pb]? = some (.cells #[.bool p,.bool q,.bool r,.bool s] 4)) :
 Calls Tryz.prog 99 #[.slice (some ⟨pa,0,none⟩) 4 4,.slice (some ⟨pb,0,none⟩) 4 4] w (EndP w):=
 ends_any [a,b,c,d] [p,q,r,s] rfl (by simp) (by simp) (by simp;exact ⟨o1,o2,o3,o4⟩) w pa pb h1 h2
theorem interval_op (r:TnR) (s:ByteArray) (hs1:(s.toList == [110,117,109])=false) (hs2:(s.toList == [110,97,109,101])=false) (ta tb:Ex) (w:World)
 (ha:∀ wz v,Ext w wz→Rd All wz ta v→Calls Tryz.prog 58 #[.agg (tenC r),v] wz (EndP wz)) (hb:∀ wz v,Ext w wz→Rd All wz tb v→Calls Tryz.prog 58 #[.agg (tenC r),v] wz (EndP wz)) (v:Value) (hv:Rd All w (opE' s ta tb) v):Calls Tryz.prog 58 #[.agg (tenC r),v] w (EndP w):=by
 obtain ⟨bl,cap,oa,a1,a2,na,ba,la,ca,ob,b1,b2,nb,bb,lb,cb,rfl,ho⟩:=op_shape hv
 have HO:=zH ho
 have HA:=zH (fun wz (hz:Ext w wz)=>ha wz _ hz (ho.ext hz).ra)
 have HBB:=zH (fun wz (hz:Ext w wz)=>hb wz _ hz (ho.ext hz).rb)
 have HOF:=zH (fun n wz=>refOf_any n wz)
 clear ha hb
 obtain ⟨row,hrow⟩:∃ row,row=(tenC r).toList:=⟨_,rfl⟩
 have hrt:tenC r=row.toArray:=by rw [hrow]
 have hrs:row.length=20:=by rw [hrow];rfl
 obtain ⟨W,hW,hb⟩:=four_box (w:=w) (row:=row) (f0:=.string s) (f1:=iV 0) (f2:=iV 0) (f3:=.string nilB) (f4:=.slice (some ⟨bl,0,none⟩) 2 cap)
 have HB:=zH hb
 rw [hrt]
 obtain ⟨p,hp⟩:∃ x,x=w.heap.size:=⟨_,rfl⟩
 obtain ⟨q,hq⟩:∃ x,x=w.heap.size+1:=⟨_,rfl⟩
 obtain ⟨g,hg⟩:∃ x,x=w.heap.size+1+1:=⟨_,rfl⟩
 rw [← hg,← hq,← hp] at HB
 rw [hrt] at HA HBB
 clear hv hrow hrt hb ho
 go_in
 go_upto_region 1 with (fail)
 rw [← hW]
 rw [← hg]
 rw [← hq]
 rw [← hp]
 clear hW hp hq hg
 obtain ⟨hcc,-,l1⟩:=zC HB.out.g1
 have e0:=zk hcc 0
 have e3:=zk hcc 3
 have e4:=zk hcc 4
 obtain ⟨-,-,lb',k0,k1,k2,k3,k4,k5,k6,k7,k8,k9⟩:=HO.out.ext HB.out.low
 clear hcc
 go_upto_region 10 with (fail)
 have h39:=HB.out.g0
 refine Rr.wp_regionE [8,9] [(0,.y),(1,.y),(2,.y),(3,.y),(4,.y),(5,.z),(6,.y),(7,.y),(8,.y),(9,.y),(10,.m),(11,.m)] (fun _=>(.cells #[iV 0,iV 0] 30,Rg.ptr)) (fun c a d v w h=>by have h':_∧_:=h;exact ⟨(Rr.put_defers a d v).symm.trans h'.1,h'.2⟩) (by kernel_rfl) (by kernel_rfl) ?_
 refine Rr.y2 (h:=fun wz hw=>up_row (by rfl) ((hw.block _ (zL h39)).trans h39) Tryz.underlying39 (by rw [List.size_toArray,hrs];kernel_rfl)) (k:=?_)
 iterate 3
  refine Rr.y1 ?_
 refine Rr.y2 (h:=fun wz hw=>up_load29 (by rfl) ((hw.cells.1 _ _ lb').trans k0) ((hw.cells.1 _ _ lb').trans k1) ((hw.cells.1 _ _ lb').trans k2) ((hw.cells.1 _ _ lb').trans k3) ((hw.cells.1 _ _ lb').trans k4)) (k:=?_)
 (refine Rr.zd (fun v _=>IvR v) (fun v w1 w2 h e=>h) (fun wz hw hh=>?_) (fun u=>?_)
  ·go_simp
   apply Rr.upR_enter
   (refine (HA.out wz (HB.out.low.trans hw)).mono ?_)
   rintro e wq ⟨lo,hi,er,rfl,o1,o2,hxq⟩
   exact ⟨_,rfl,hxq,IvR.mk o1 o2⟩
  simp only [zp])
 (refine Rr.yd ⟨u,fun wz hw hh=>?_,?_⟩
  ·obtain ⟨lo,hi,er,rfl,-,-⟩:=hh _ zM
   go_simp
   exact zU
  simp only [zp])
 (refine Rr.yd ⟨tg u 0,fun wz hw hh=>?_,?_⟩
  ·obtain ⟨lo,hi,er,rfl,-,-⟩:=hh _ zM
   go_simp
   exact zU
  simp only [zp])
 (refine Rr.yd ⟨tg u 1,fun wz hw hh=>?_,?_⟩
  ·obtain ⟨lo,hi,er,rfl,-,-⟩:=hh _ zM
   go_simp
   exact zU
  simp only [zp])
 (refine Rr.yd ⟨tg u 2,fun wz hw hh=>?_,?_⟩
  ·obtain ⟨lo,hi,er,rfl,-,-⟩:=hh _ zM
   go_simp
   exact zU
  simp only [zp])
 refine Rr.wr_m (by simp only [ga,gb,gc];rfl) (by rfl) (fun wz=>by go_simp) (fun pA hp1=>?_)
 simp only [zp]
 refine Rr.wr_m (by simp only [ga,gb,gc];rfl) (by rfl) (fun wz=>by go_simp) (fun pB hp2=>?_)
 simp only [zp]
 refine Rr.wr_nil ?_
 intro wy hy hh
 obtain ⟨⟨x1,x2⟩,⟨y1,y2⟩,er1,rfl,o1,o2⟩:=hh _ (zN _ (zN _ zM))
 obtain ⟨-,hgB,m2⟩:=hh _ zM
 obtain ⟨-,hgA,m1⟩:=hh _ (zN _ zM)
 have hpp:pB≠pA:=fun e=>hp2 (by rw [e];exact zM)
 simp only [gg,gh,gi,gj,Nat.reduceAdd]
 clear hh hp1 hp2
 rw [show tg (.tuple #[rv (x1,x2),rv (y1,y2),iV er1]) 0=.agg #[iV x1,iV x2] from rfl,show tg (.tuple #[rv (x1,x2),rv (y1,y2),iV er1]) 1=.agg #[iV y1,iV y2] from rfl,show tg (.tuple #[rv (x1,x2),rv (y1,y2),iV er1]) 2=iV er1 from rfl]
 rw [show Rg.ptr pA=.pointer (some ⟨pA,0,none⟩) from rfl,show Rg.ptr pB=.pointer (some ⟨pB,0,none⟩) from rfl]
 have hst:=two_st hy hgA hgB hpp m1 m2 (iV x1) (iV x2) (iV y1) (iV y2)
 obtain ⟨hcc,hff,lA⟩:=zC m1
 have q0:=zk hcc 0
 have q1:=zk hcc 1
 have f0:=hff 0;have f1:=hff 1
 clear hcc hff
 obtain ⟨hcc,hff,lB⟩:=zC m2
 have q2:=zk hcc 0
 have q3:=zk hcc 1
 have f2:=hff 0;have f3:=hff 1
 clear hcc hff m1 m2 hgA hgB h39
 have OA1:=zH o1;have OA2:=zH o2
 have HST:=zH hst
 clear e0 e3 e4 k0 k1 k2 k3 k4 k5 k6 k7 k8 k9 hst o1 o2 hy l1 lb'
 have hpp':pA≠pB:=hpp.symm
 go_upto_region 11 with (fail)
 clear q0 q1 q2 q3 f0 f1 f2 f3 hpp hpp' lA lB
 generalize (((wy.setCell ⟨pA,0,none⟩ (iV x1)).setCell ⟨pA,1,none⟩ (iV x2)).setCell ⟨pB,0,none⟩ (iV y1)).setCell ⟨pB,1,none⟩ (iV y2)=wn at *
 have HB2:=zH (HB.out.ext HST.out.1)
 have HPA:=zH HST.out.2
 clear HST
 by_cases hz1:er1=0
 ·subst hz1
  obtain ⟨hcc,-,l1⟩:=zC HB2.out.g1
  have e0:=zk hcc 0
  have e3:=zk hcc 3
  have e4:=zk hcc 4
  obtain ⟨-,-,lb',k0,k1,k2,k3,k4,k5,k6,k7,k8,k9⟩:=HO.out.ext HB2.out.low
  clear hcc
  go_upto_region 13 with (fail)
  have h39:=HB2.out.g0
  refine Rr.wp_regionE [8,9] [(0,.y),(1,.y),(2,.y),(3,.y),(4,.y),(5,.z),(6,.y),(7,.y),(8,.y),(9,.y),(10,.m),(11,.m)] (fun _=>(.cells #[iV 0,iV 0] 30,Rg.ptr)) (fun c a d v w h=>by have h':_∧_:=h;exact ⟨(Rr.put_defers a d v).symm.trans h'.1,h'.2⟩) (by kernel_rfl) (by kernel_rfl) ?_
  refine Rr.y2 (h:=fun wz hw=>up_row (by rfl) ((hw.block _ (zL h39)).trans h39) Tryz.underlying39 (by rw [List.size_toArray,hrs];kernel_rfl)) (k:=?_)
  iterate 3
   refine Rr.y1 ?_
  refine Rr.y2 (h:=fun wz hw=>up_load29 (by rfl) ((hw.cells.1 _ _ lb').trans k5) ((hw.cells.1 _ _ lb').trans k6) ((hw.cells.1 _ _ lb').trans k7) ((hw.cells.1 _ _ lb').trans k8) ((hw.cells.1 _ _ lb').trans k9)) (k:=?_)
  (refine Rr.zd (fun v _=>IvR v) (fun v w1 w2 h e=>h) (fun wz hw hh=>?_) (fun u=>?_)
   ·go_simp
    apply Rr.upR_enter
    (refine (HBB.out wz (HB2.out.low.trans hw)).mono ?_)
    rintro e wq ⟨lo,hi,er,rfl,o1,o2,hxq⟩
    exact ⟨_,rfl,hxq,IvR.mk o1 o2⟩
   simp only [zp])
  (refine Rr.yd ⟨u,fun wz hw hh=>?_,?_⟩
   ·obtain ⟨lo,hi,er,rfl,-,-⟩:=hh _ zM
    go_simp
    exact zU
   simp only [zp])
  (refine Rr.yd ⟨tg u 0,fun wz hw hh=>?_,?_⟩
   ·obtain ⟨lo,hi,er,rfl,-,-⟩:=hh _ zM
    go_simp
    exact zU
   simp only [zp])
  (refine Rr.yd ⟨tg u 1,fun wz hw hh=>?_,?_⟩
   ·obtain ⟨lo,hi,er,rfl,-,-⟩:=hh _ zM
    go_simp
    exact zU
   simp only [zp])
  (refine Rr.yd ⟨tg u 2,fun wz hw hh=>?_,?_⟩
   ·obtain ⟨lo,hi,er,rfl,-,-⟩:=hh _ zM
    go_simp
    exact zU
   simp only [zp])
  refine Rr.wr_m (by simp only [ga,gb,gc];rfl) (by rfl) (fun wz=>by go_simp) (fun pC hp1=>?_)
  simp only [zp]
  refine Rr.wr_m (by simp only [ga,gb,gc];rfl) (by rfl) (fun wz=>by go_simp) (fun pD hp2=>?_)
  simp only [zp]
  refine Rr.wr_nil ?_
  intro wy2 hy hh
  obtain ⟨⟨u1,u2⟩,⟨v1,v2⟩,er2,rfl,o1,o2⟩:=hh _ (zN _ (zN _ zM))
  obtain ⟨-,hgB,m2⟩:=hh _ zM
  obtain ⟨-,hgA,m1⟩:=hh _ (zN _ zM)
  have hpp:pD≠pC:=fun e=>hp2 (by rw [e];exact zM)
  simp only [gg,gh,gi,gj,Nat.reduceAdd]
  clear hh hp1 hp2
  rw [show tg (.tuple #[rv (u1,u2),rv (v1,v2),iV er2]) 0=.agg #[iV u1,iV u2] from rfl,show tg (.tuple #[rv (u1,u2),rv (v1,v2),iV er2]) 1=.agg #[iV v1,iV v2] from rfl,show tg (.tuple #[rv (u1,u2),rv (v1,v2),iV er2]) 2=iV er2 from rfl]
  rw [show Rg.ptr pC=.pointer (some ⟨pC,0,none⟩) from rfl,show Rg.ptr pD=.pointer (some ⟨pD,0,none⟩) from rfl]
  have hst:=two_st hy hgA hgB hpp m1 m2 (iV u1) (iV u2) (iV v1) (iV v2)
  obtain ⟨hcc,hff,lA⟩:=zC m1
  have q0:=zk hcc 0
  have q1:=zk hcc 1
  have f0:=hff 0;have f1:=hff 1
  clear hcc hff
  obtain ⟨hcc,hff,lB⟩:=zC m2
  have q2:=zk hcc 0
  have q3:=zk hcc 1
  have f2:=hff 0;have f3:=hff 1
  clear hcc hff m1 m2 hgA hgB h39
  have OB1:=zH o1;have OB2:=zH o2
  have HST:=zH hst
  clear e0 e3 e4 k0 k1 k2 k3 k4 k5 k6 k7 k8 k9 hst o1 o2 hy l1 lb'
  have hpp':pC≠pD:=hpp.symm
  go_upto_region 14 with (fail)
  clear q0 q1 q2 q3 f0 f1 f2 f3 hpp hpp' lA lB
  generalize (((wy2.setCell ⟨pC,0,none⟩ (iV u1)).setCell ⟨pC,1,none⟩ (iV u2)).setCell ⟨pD,0,none⟩ (iV v1)).setCell ⟨pD,1,none⟩ (iV v2)=wm at *
  have HB3:=zH (HB2.out.ext HST.out.1)
  have HI3:Hid (Q4 wm pA pB pC pD x1 x2 y1 y2 u1 u2 v1 v2):=zH ⟨(HST.out.1.block _ (zL HPA.out.1)).trans HPA.out.1,(HST.out.1.block _ (zL HPA.out.2)).trans HPA.out.2,HST.out.2.1,HST.out.2.2⟩
  clear HST HPA HB2 HB
  by_cases hz2:er2=0
  ·subst hz2
   go_upto_region 17 with (go_at_call 28;(refine (HOF.out _ wm).mono ?_);rintro e w5 ⟨rfl,hx⟩;have HX5:=zH hx;clear hx)
   have hxz:Ext w5 (w5.alloc (.cells #[iV 0,iV 1] 30)):=Ext.alloc (Ext.refl _) _
   have hbz:(w5.alloc (.cells #[iV 0,iV 1] 30)).heap[w5.heap.size]? = some (.cells #[iV 0,iV 1] 30):=block_new rfl
   obtain ⟨pZ,hpZ⟩:∃ x,x=w5.heap.size:=⟨_,rfl⟩
   rw [← hpZ] at hbz ⊢
   clear hpZ
   have HB5:=zH (HB3.out.ext (HX5.out.trans hxz))
   have HI5:=zH (HI3.out.ext (HX5.out.trans hxz))
   have HZ5:=zH hbz
   clear hxz hbz HX5 HB3 HI3
   generalize w5.alloc (.cells #[iV 0,iV 1] 30)=w6 at *
   have HE2:=zH (fun wz a b p q pa pb o1 o2=>ends_2 (w:=wz) (a:=a) (b:=b) (p:=p) (q:=q) (pa:=pa) (pb:=pb) o1 o2)
   have HE4:=zH (fun wz a b c d p q r s pa pb o1 o2 o3 o4=>ends_4 (w:=wz) (a:=a) (b:=b) (c:=c) (d:=d) (p:=p) (q:=q) (r:=r) (s:=s) (pa:=pa) (pb:=pb) o1 o2 o3 o4)
   obtain ⟨hcc,-,l1⟩:=zC HB5.out.g1
   have e0:=zk hcc 0
   clear hcc
   go_upto_region 18 with (fail)
   clear e0 l1
   by_cases h43:(s.toList == [43])=true
   ·go_upto_region 19 with (fail)
    have HAR:=zH (fun wz=>aAdd (x1,x2) (u1,u2) OA1.out OB1.out wz)
    obtain ⟨hcc,-,l1⟩:=zC HI5.out.a
    have q0:=zk hcc 0
    have q1:=zk hcc 1
    obtain ⟨q2,q3,l2⟩:=zC2 HI5.out.c
    clear hcc
    go_upto_region 20 with (go_at_call 98;(refine (HAR.out w6).mono ?_);rintro e w5 ⟨c1,c2,bb1,rfl,ho,hx⟩;have HX5:=zH hx;have OC:=zH ho;clear hx ho)
    have hxz:Ext w5 (w5.alloc (.cells #[iV c1,iV c2] 30)):=Ext.alloc (Ext.refl _) _
    have hbz:(w5.alloc (.cells #[iV c1,iV c2] 30)).heap[w5.heap.size]? = some (.cells #[iV c1,iV c2] 30):=block_new rfl
    have hxy:=HX5.out.trans hxz
    obtain ⟨pE,hpE⟩:∃ x,x=w5.heap.size:=⟨_,rfl⟩
    rw [← hpE] at hbz ⊢
    clear hpE q0 q1 q2 q3 l1 l2 HAR
    have HB5:=zH (HB5.out.ext hxy)
    have HI5:=zH (HI5.out.ext hxy)
    skip
    have R1:=zH hbz
    clear hxz hbz hxy HX5
    generalize w5.alloc (.cells #[iV c1,iV c2] 30)=w7 at *
    have HAR:=zH (fun wz=>aAdd (y1,y2) (v1,v2) OA2.out OB2.out wz)
    obtain ⟨hcc,-,l1⟩:=zC HI5.out.b
    have q0:=zk hcc 0
    have q1:=zk hcc 1
    obtain ⟨q2,q3,l2⟩:=zC2 HI5.out.d
    clear hcc
    go_upto_region 21 with (go_at_call 98;(refine (HAR.out w7).mono ?_);rintro e w5 ⟨d1,d2,bb2,rfl,ho,hx⟩;have HX5:=zH hx;have OD:=zH ho;clear hx ho)
    have hxz:Ext w5 (w5.alloc (.cells #[iV d1,iV d2] 30)):=Ext.alloc (Ext.refl _) _
    have hbz:(w5.alloc (.cells #[iV d1,iV d2] 30)).heap[w5.heap.size]? = some (.cells #[iV d1,iV d2] 30):=block_new rfl
    have hxy:=HX5.out.trans hxz
    obtain ⟨pF,hpE⟩:∃ x,x=w5.heap.size:=⟨_,rfl⟩
    rw [← hpE] at hbz ⊢
    clear hpE q0 q1 q2 q3 l1 l2 HAR
    have HB5:=zH (HB5.out.ext hxy)
    have HI5:=zH (HI5.out.ext hxy)
    have R1:=zH ((hxy.block _ (zL R1.out)).trans R1.out)
    have R2:=zH hbz
    clear hxz hbz hxy HX5
    generalize w5.alloc (.cells #[iV d1,iV d2] 30)=w8 at *
    obtain ⟨qa0,qa1,la⟩:=zC2 R1.out
    obtain ⟨qb0,qb1,lb⟩:=zC2 R2.out
    go_wp2_with (
     go_at_call 99;(refine (HE2.out _ (c1,c2) (d1,d2) _ _ _ _ OC.out OD.out (al (alloc_new w8 _)) (heap_alloc2_new w8 _ _)).mono ?_);rintro e w9 ⟨⟨lo1,lo2⟩,⟨hi1,hi2⟩,er,rfl,ho1,ho2,hx⟩;have HB9:=zH (HB5.out.ext ((Ext.alloc (Ext.alloc (Ext.refl w8) _) _).trans hx));have H1:=zH ho1;have H2:=zH ho2;clear hx ho1 ho2 qa0 qa1 qb0 qb1 la lb
     obtain ⟨hcc,hff,l2⟩:=zC HB9.out.g2
     have k0:=zk hcc 0
     have k1:=zk hcc 1
     have f0:=hff 0;have f1:=hff 1
     clear hcc hff
     obtain ⟨hcc,hff,l3⟩:=zC HB9.out.g3
     have k2:=zk hcc 0
     have k3:=zk hcc 1
     have f2:=hff 0;have f3:=hff 1
     clear hcc hff
     have n5:g≠g+1:=by omega)
    obtain ⟨kx,kg,kh⟩:=two_res HB9.out.low HB9.out.ge HB9.out.g2 HB9.out.g3 (iV lo1) (iV lo2) (iV hi1) (iV hi2)
    refine bodyPost_ret (v:=.tuple #[rv (lo1,lo2),rv (hi1,hi2),iV er]) (results_cct (by rfl) _ _ g (g+1) 30 _ _ _ _ _ (by rfl) (by rfl) (by rfl) kg kh Tryz.underlying30 (by kernel_rfl) (by kernel_rfl)) rfl ?_
    exact ⟨_,_,_,rfl,H1.out,H2.out,kx⟩
   ·have h43':(s.toList == [43])=false:=by simpa using h43
    by_cases h45:(s.toList == [45])=true
    ·go_upto_region 23 with (fail)
     have HAR:=zH (fun wz=>aSub (x1,x2) (v1,v2) OA1.out OB2.out wz)
     obtain ⟨hcc,-,l1⟩:=zC HI5.out.a
     have q0:=zk hcc 0
     have q1:=zk hcc 1
     obtain ⟨q2,q3,l2⟩:=zC2 HI5.out.d
     clear hcc
     go_upto_region 24 with (go_at_call 100;(refine (HAR.out w6).mono ?_);rintro e w5 ⟨c1,c2,bb1,rfl,ho,hx⟩;have HX5:=zH hx;have OC:=zH ho;clear hx ho)
     have hxz:Ext w5 (w5.alloc (.cells #[iV c1,iV c2] 30)):=Ext.alloc (Ext.refl _) _
     have hbz:(w5.alloc (.cells #[iV c1,iV c2] 30)).heap[w5.heap.size]? = some (.cells #[iV c1,iV c2] 30):=block_new rfl
     have hxy:=HX5.out.trans hxz
     obtain ⟨pE,hpE⟩:∃ x,x=w5.heap.size:=⟨_,rfl⟩
     rw [← hpE] at hbz ⊢
     clear hpE q0 q1 q2 q3 l1 l2 HAR
     have HB5:=zH (HB5.out.ext hxy)
     have HI5:=zH (HI5.out.ext hxy)
     skip
     have R1:=zH hbz
     clear hxz hbz hxy HX5
     generalize w5.alloc (.cells #[iV c1,iV c2] 30)=w7 at *
     have HAR:=zH (fun wz=>aSub (y1,y2) (u1,u2) OA2.out OB1.out wz)
     obtain ⟨hcc,-,l1⟩:=zC HI5.out.b
     have q0:=zk hcc 0
     have q1:=zk hcc 1
     obtain ⟨q2,q3,l2⟩:=zC2 HI5.out.c
     clear hcc
     go_upto_region 25 with (go_at_call 100;(refine (HAR.out w7).mono ?_);rintro e w5 ⟨d1,d2,bb2,rfl,ho,hx⟩;have HX5:=zH hx;have OD:=zH ho;clear hx ho)
     have hxz:Ext w5 (w5.alloc (.cells #[iV d1,iV d2] 30)):=Ext.alloc (Ext.refl _) _
     have hbz:(w5.alloc (.cells #[iV d1,iV d2] 30)).heap[w5.heap.size]? = some (.cells #[iV d1,iV d2] 30):=block_new rfl
     have hxy:=HX5.out.trans hxz
     obtain ⟨pF,hpE⟩:∃ x,x=w5.heap.size:=⟨_,rfl⟩
     rw [← hpE] at hbz ⊢
     clear hpE q0 q1 q2 q3 l1 l2 HAR
     have HB5:=zH (HB5.out.ext hxy)
     have HI5:=zH (HI5.out.ext hxy)
     have R1:=zH ((hxy.block _ (zL R1.out)).trans R1.out)
     have R2:=zH hbz
     clear hxz hbz hxy HX5
     generalize w5.alloc (.cells #[iV d1,iV d2] 30)=w8 at *
     obtain ⟨qa0,qa1,la⟩:=zC2 R1.out
     obtain ⟨qb0,qb1,lb⟩:=zC2 R2.out
     go_wp2_with (
      go_at_call 99;(refine (HE2.out _ (c1,c2) (d1,d2) _ _ _ _ OC.out OD.out (al (alloc_new w8 _)) (heap_alloc2_new w8 _ _)).mono ?_);rintro e w9 ⟨⟨lo1,lo2⟩,⟨hi1,hi2⟩,er,rfl,ho1,ho2,hx⟩;have HB9:=zH (HB5.out.ext ((Ext.alloc (Ext.alloc (Ext.refl w8) _) _).trans hx));have H1:=zH ho1;have H2:=zH ho2;clear hx ho1 ho2 qa0 qa1 qb0 qb1 la lb
      obtain ⟨hcc,hff,l2⟩:=zC HB9.out.g2
      have k0:=zk hcc 0
      have k1:=zk hcc 1
      have f0:=hff 0;have f1:=hff 1
      clear hcc hff
      obtain ⟨hcc,hff,l3⟩:=zC HB9.out.g3
      have k2:=zk hcc 0
      have k3:=zk hcc 1
      have f2:=hff 0;have f3:=hff 1
      clear hcc hff
      have n5:g≠g+1:=by omega)
     obtain ⟨kx,kg,kh⟩:=two_res HB9.out.low HB9.out.ge HB9.out.g2 HB9.out.g3 (iV lo1) (iV lo2) (iV hi1) (iV hi2)
     refine bodyPost_ret (v:=.tuple #[rv (lo1,lo2),rv (hi1,hi2),iV er]) (results_cct (by rfl) _ _ g (g+1) 30 _ _ _ _ _ (by rfl) (by rfl) (by rfl) kg kh Tryz.underlying30 (by kernel_rfl) (by kernel_rfl)) rfl ?_
     exact ⟨_,_,_,rfl,H1.out,H2.out,kx⟩
    ·have h45':(s.toList == [45])=false:=by simpa using h45
     by_cases h42:(s.toList == [42])=true
     ·go_upto_region 27 with (fail)
      have HAR:=zH (fun wz=>aMul (x1,x2) (u1,u2) OA1.out OB1.out wz)
      obtain ⟨hcc,-,l1⟩:=zC HI5.out.a
      have q0:=zk hcc 0
      have q1:=zk hcc 1
      obtain ⟨q2,q3,l2⟩:=zC2 HI5.out.c
      clear hcc
      go_upto_region 28 with (go_at_call 101;(refine (HAR.out w6).mono ?_);rintro e w5 ⟨c1,c2,bb1,rfl,ho,hx⟩;have HX5:=zH hx;have OC:=zH ho;clear hx ho)
      have hxz:Ext w5 (w5.alloc (.cells #[iV c1,iV c2] 30)):=Ext.alloc (Ext.refl _) _
      have hbz:(w5.alloc (.cells #[iV c1,iV c2] 30)).heap[w5.heap.size]? = some (.cells #[iV c1,iV c2] 30):=block_new rfl
      have hxy:=HX5.out.trans hxz
      obtain ⟨pE,hpE⟩:∃ x,x=w5.heap.size:=⟨_,rfl⟩
      rw [← hpE] at hbz ⊢
      clear hpE q0 q1 q2 q3 l1 l2 HAR
      have HB5:=zH (HB5.out.ext hxy)
      have HI5:=zH (HI5.out.ext hxy)
      skip
      have R1:=zH hbz
      clear hxz hbz hxy HX5
      generalize w5.alloc (.cells #[iV c1,iV c2] 30)=w7 at *
      have HAR:=zH (fun wz=>aMul (x1,x2) (v1,v2) OA1.out OB2.out wz)
      obtain ⟨hcc,-,l1⟩:=zC HI5.out.a
      have q0:=zk hcc 0
      have q1:=zk hcc 1
      obtain ⟨q2,q3,l2⟩:=zC2 HI5.out.d
      clear hcc
      go_upto_region 29 with (go_at_call 101;(refine (HAR.out w7).mono ?_);rintro e w5 ⟨d1,d2,bb2,rfl,ho,hx⟩;have HX5:=zH hx;have OD:=zH ho;clear hx ho)
      have hxz:Ext w5 (w5.alloc (.cells #[iV d1,iV d2] 30)):=Ext.alloc (Ext.refl _) _
      have hbz:(w5.alloc (.cells #[iV d1,iV d2] 30)).heap[w5.heap.size]? = some (.cells #[iV d1,iV d2] 30):=block_new rfl
      have hxy:=HX5.out.trans hxz
      obtain ⟨pF,hpE⟩:∃ x,x=w5.heap.size:=⟨_,rfl⟩
      rw [← hpE] at hbz ⊢
      clear hpE q0 q1 q2 q3 l1 l2 HAR
      have HB5:=zH (HB5.out.ext hxy)
      have HI5:=zH (HI5.out.ext hxy)
      have R1:=zH ((hxy.block _ (zL R1.out)).trans R1.out)
      have R2:=zH hbz
      clear hxz hbz hxy HX5
      generalize w5.alloc (.cells #[iV d1,iV d2] 30)=w8 at *
      have HAR:=zH (fun wz=>aMul (y1,y2) (u1,u2) OA2.out OB1.out wz)
      obtain ⟨hcc,-,l1⟩:=zC HI5.out.b
      have q0:=zk hcc 0
      have q1:=zk hcc 1
      obtain ⟨q2,q3,l2⟩:=zC2 HI5.out.c
      clear hcc
      go_upto_region 30 with (go_at_call 101;(refine (HAR.out w8).mono ?_);rintro e w5 ⟨i1,i2,bb3,rfl,ho,hx⟩;have HX5:=zH hx;have OI:=zH ho;clear hx ho)
      have hxz:Ext w5 (w5.alloc (.cells #[iV i1,iV i2] 30)):=Ext.alloc (Ext.refl _) _
      have hbz:(w5.alloc (.cells #[iV i1,iV i2] 30)).heap[w5.heap.size]? = some (.cells #[iV i1,iV i2] 30):=block_new rfl
      have hxy:=HX5.out.trans hxz
      obtain ⟨pG,hpE⟩:∃ x,x=w5.heap.size:=⟨_,rfl⟩
      rw [← hpE] at hbz ⊢
      clear hpE q0 q1 q2 q3 l1 l2 HAR
      have HB5:=zH (HB5.out.ext hxy)
      have HI5:=zH (HI5.out.ext hxy)
      have R1:=zH ((hxy.block _ (zL R1.out)).trans R1.out);have R2:=zH ((hxy.block _ (zL R2.out)).trans R2.out)
      have R3:=zH hbz
      clear hxz hbz hxy HX5
      generalize w5.alloc (.cells #[iV i1,iV i2] 30)=w10 at *
      have HAR:=zH (fun wz=>aMul (y1,y2) (v1,v2) OA2.out OB2.out wz)
      obtain ⟨hcc,-,l1⟩:=zC HI5.out.b
      have q0:=zk hcc 0
      have q1:=zk hcc 1
      obtain ⟨q2,q3,l2⟩:=zC2 HI5.out.d
      clear hcc
      go_upto_region 31 with (go_at_call 101;(refine (HAR.out w10).mono ?_);rintro e w5 ⟨j1,j2,bb4,rfl,ho,hx⟩;have HX5:=zH hx;have OJ:=zH ho;clear hx ho)
      have hxz:Ext w5 (w5.alloc (.cells #[iV j1,iV j2] 30)):=Ext.alloc (Ext.refl _) _
      have hbz:(w5.alloc (.cells #[iV j1,iV j2] 30)).heap[w5.heap.size]? = some (.cells #[iV j1,iV j2] 30):=block_new rfl
      have hxy:=HX5.out.trans hxz
      obtain ⟨pH,hpE⟩:∃ x,x=w5.heap.size:=⟨_,rfl⟩
      rw [← hpE] at hbz ⊢
      clear hpE q0 q1 q2 q3 l1 l2 HAR
      have HB5:=zH (HB5.out.ext hxy)
      have HI5:=zH (HI5.out.ext hxy)
      have R1:=zH ((hxy.block _ (zL R1.out)).trans R1.out);have R2:=zH ((hxy.block _ (zL R2.out)).trans R2.out);have R3:=zH ((hxy.block _ (zL R3.out)).trans R3.out)
      have R4:=zH hbz
      clear hxz hbz hxy HX5
      generalize w5.alloc (.cells #[iV j1,iV j2] 30)=w11 at *
      obtain ⟨qa0,qa1,la⟩:=zC2 R1.out
      obtain ⟨qb0,qb1,lb⟩:=zC2 R2.out
      obtain ⟨qi0,qi1,li⟩:=zC2 R3.out
      obtain ⟨qj0,qj1,lj⟩:=zC2 R4.out
      go_wp2_with (
       go_at_call 99;(refine (HE4.out _ (c1,c2) (d1,d2) (i1,i2) (j1,j2) _ _ _ _ _ _ OC.out OD.out OI.out OJ.out (al (alloc_new w11 _)) (heap_alloc2_new w11 _ _)).mono ?_);rintro e w9 ⟨⟨lo1,lo2⟩,⟨hi1,hi2⟩,er,rfl,ho1,ho2,hx⟩;have HB9:=zH (HB5.out.ext ((Ext.alloc (Ext.alloc (Ext.refl w11) _) _).trans hx));have H1:=zH ho1;have H2:=zH ho2;clear hx ho1 ho2 qa0 qa1 qb0 qb1 la lb qi0 qi1 qj0 qj1 li lj
       obtain ⟨hcc,hff,l2⟩:=zC HB9.out.g2
       have k0:=zk hcc 0
       have k1:=zk hcc 1
       have f0:=hff 0;have f1:=hff 1
       clear hcc hff
       obtain ⟨hcc,hff,l3⟩:=zC HB9.out.g3
       have k2:=zk hcc 0
       have k3:=zk hcc 1
       have f2:=hff 0;have f3:=hff 1
       clear hcc hff
       have n5:g≠g+1:=by omega)
      obtain ⟨kx,kg,kh⟩:=two_res HB9.out.low HB9.out.ge HB9.out.g2 HB9.out.g3 (iV lo1) (iV lo2) (iV hi1) (iV hi2)
      refine bodyPost_ret (v:=.tuple #[rv (lo1,lo2),rv (hi1,hi2),iV er]) (results_cct (by rfl) _ _ g (g+1) 30 _ _ _ _ _ (by rfl) (by rfl) (by rfl) kg kh Tryz.underlying30 (by kernel_rfl) (by kernel_rfl)) rfl ?_
      exact ⟨_,_,_,rfl,H1.out,H2.out,kx⟩
     ·have h42':(s.toList == [42])=false:=by simpa using h42
      by_cases h47:(s.toList == [47])=true
      ·go_upto_region 33 with (fail)
       have HC1:=zH (fun wz=>rCmp_any (u1,u2) (0,1) OB1.out OkR.one wz)
       have HC2:=zH (fun wz=>rCmp_any (v1,v2) (0,1) OB2.out OkR.one wz)
       generalize refCmp (u1,u2) (0,1)=z1 at *
       generalize refCmp (v1,v2) (0,1)=z2 at *
       obtain ⟨hcc,-,lc⟩:=zC HI5.out.c
       have q0:=zk hcc 0
       have q1:=zk hcc 1
       obtain ⟨hcc2,-,ld⟩:=zC HI5.out.d
       have q2:=zk hcc2 0
       have q3:=zk hcc2 1
       obtain ⟨q4,q5,lz⟩:=zC2 HZ5.out
       clear hcc hcc2
       by_cases hq:z1≤0∧0≤z2
       ·obtain ⟨hz1,hz2⟩:=hq
        go_upto_region 34 with (go_at_call 46;first
         |((with_reducible refine (HC1.out w6).mono ?_);rintro e w7 ⟨rfl,hx⟩;have HB5:=zH (HB5.out.ext hx);have HI5:=zH (HI5.out.ext hx);have HZ5:=zH ((hx.block _ (zL HZ5.out)).trans HZ5.out);clear hx q0 q1 q2 q3 q4 q5 lc ld lz
           obtain ⟨hcc,-,lc⟩:=zC HI5.out.c
           have q0:=zk hcc 0
           have q1:=zk hcc 1
           obtain ⟨hcc2,-,ld⟩:=zC HI5.out.d
           have q2:=zk hcc2 0
           have q3:=zk hcc2 1
           obtain ⟨q4,q5,lz⟩:=zC2 HZ5.out
           clear hcc hcc2
           skip)
         |((with_reducible refine (HC2.out w7).mono ?_);rintro e w8 ⟨rfl,hx⟩;have HB5:=zH (HB5.out.ext hx);clear hx q0 q1 q2 q3 q4 q5 lc ld lz))
        obtain ⟨hcc,hff,l2⟩:=zC HB5.out.g2
        have k0:=zk hcc 0
        have k1:=zk hcc 1
        have f0:=hff 0;have f1:=hff 1
        clear hcc hff
        obtain ⟨hcc,hff,l3⟩:=zC HB5.out.g3
        have k2:=zk hcc 0
        have k3:=zk hcc 1
        have f2:=hff 0;have f3:=hff 1
        clear hcc hff
        have n5:g≠g+1:=by omega
        go_wp2_with (fail)
        obtain ⟨kx,kg,kh⟩:=two_res HB5.out.low HB5.out.ge HB5.out.g2 HB5.out.g3 (iV 0) (iV 0) (iV 0) (iV 0)
        refine bodyPost_ret (v:=.tuple #[rv (0,0),rv (0,0),iV 15]) (results_cct (by rfl) _ _ g (g+1) 30 _ _ _ _ _ (by rfl) (by rfl) (by rfl) kg kh Tryz.underlying30 (by kernel_rfl) (by kernel_rfl)) rfl ?_
        exact ⟨_,_,_,rfl,OkR.zero,OkR.zero,kx⟩
       ·by_cases hz1:z1≤0
        all_goals first
        |(have hz2:¬ 0≤z2:=fun h=>hq ⟨hz1,h⟩
          clear hq
          go_upto_region 35 with (go_at_call 46;first
           |((with_reducible refine (HC1.out w6).mono ?_);rintro e w7 ⟨rfl,hx⟩;have HB5:=zH (HB5.out.ext hx);have HI5:=zH (HI5.out.ext hx);have HZ5:=zH ((hx.block _ (zL HZ5.out)).trans HZ5.out);clear hx q0 q1 q2 q3 q4 q5 lc ld lz
             obtain ⟨hcc,-,lc⟩:=zC HI5.out.c
             have q0:=zk hcc 0
             have q1:=zk hcc 1
             obtain ⟨hcc2,-,ld⟩:=zC HI5.out.d
             have q2:=zk hcc2 0
             have q3:=zk hcc2 1
             obtain ⟨q4,q5,lz⟩:=zC2 HZ5.out
             clear hcc hcc2
             skip)
           |((with_reducible refine (HC2.out w7).mono ?_);rintro e w8 ⟨rfl,hx⟩;have HB5:=zH (HB5.out.ext hx);have HI5:=zH (HI5.out.ext hx);clear hx q0 q1 q2 q3 q4 q5 lc ld lz))
          clear HC1 HC2 HZ5 hz1 hz2
          obtain ⟨w6,rfl⟩:∃ x:World,x=w8:=⟨_,rfl⟩)
        |(clear hq
          go_upto_region 35 with (go_at_call 46;(refine (HC1.out w6).mono ?_);rintro e w7 ⟨rfl,hx⟩;have HB5:=zH (HB5.out.ext hx);have HI5:=zH (HI5.out.ext hx);clear hx q0 q1 q2 q3 q4 q5 lc ld lz)
          clear HC1 HC2 HZ5 hz1
          obtain ⟨w6,rfl⟩:∃ x:World,x=w7:=⟨_,rfl⟩)
        all_goals
         have HAR:=zH (fun wz=>aQuo (x1,x2) (u1,u2) OA1.out OB1.out wz)
         obtain ⟨hcc,-,l1⟩:=zC HI5.out.a
         have q0:=zk hcc 0
         have q1:=zk hcc 1
         obtain ⟨q2,q3,l2⟩:=zC2 HI5.out.c
         clear hcc
         go_upto_region 36 with (go_at_call 102;(refine (HAR.out w6).mono ?_);rintro e w5 ⟨c1,c2,bb1,rfl,ho,hx⟩;have HX5:=zH hx;have OC:=zH ho;clear hx ho)
         have hxz:Ext w5 (w5.alloc (.cells #[iV c1,iV c2] 30)):=Ext.alloc (Ext.refl _) _
         have hbz:(w5.alloc (.cells #[iV c1,iV c2] 30)).heap[w5.heap.size]? = some (.cells #[iV c1,iV c2] 30):=block_new rfl
         have hxy:=HX5.out.trans hxz
         obtain ⟨pE,hpE⟩:∃ x,x=w5.heap.size:=⟨_,rfl⟩
         rw [← hpE] at hbz ⊢
         clear hpE q0 q1 q2 q3 l1 l2 HAR
         have HB5:=zH (HB5.out.ext hxy)
         have HI5:=zH (HI5.out.ext hxy)
         skip
         have R1:=zH hbz
         clear hxz hbz hxy HX5
         generalize w5.alloc (.cells #[iV c1,iV c2] 30)=w7 at *
         have HAR:=zH (fun wz=>aQuo (x1,x2) (v1,v2) OA1.out OB2.out wz)
         obtain ⟨hcc,-,l1⟩:=zC HI5.out.a
         have q0:=zk hcc 0
         have q1:=zk hcc 1
         obtain ⟨q2,q3,l2⟩:=zC2 HI5.out.d
         clear hcc
         go_upto_region 37 with (go_at_call 102;(refine (HAR.out w7).mono ?_);rintro e w5 ⟨d1,d2,bb2,rfl,ho,hx⟩;have HX5:=zH hx;have OD:=zH ho;clear hx ho)
         have hxz:Ext w5 (w5.alloc (.cells #[iV d1,iV d2] 30)):=Ext.alloc (Ext.refl _) _
         have hbz:(w5.alloc (.cells #[iV d1,iV d2] 30)).heap[w5.heap.size]? = some (.cells #[iV d1,iV d2] 30):=block_new rfl
         have hxy:=HX5.out.trans hxz
         obtain ⟨pF,hpE⟩:∃ x,x=w5.heap.size:=⟨_,rfl⟩
         rw [← hpE] at hbz ⊢
         clear hpE q0 q1 q2 q3 l1 l2 HAR
         have HB5:=zH (HB5.out.ext hxy)
         have HI5:=zH (HI5.out.ext hxy)
         have R1:=zH ((hxy.block _ (zL R1.out)).trans R1.out)
         have R2:=zH hbz
         clear hxz hbz hxy HX5
         generalize w5.alloc (.cells #[iV d1,iV d2] 30)=w8 at *
         have HAR:=zH (fun wz=>aQuo (y1,y2) (u1,u2) OA2.out OB1.out wz)
         obtain ⟨hcc,-,l1⟩:=zC HI5.out.b
         have q0:=zk hcc 0
         have q1:=zk hcc 1
         obtain ⟨q2,q3,l2⟩:=zC2 HI5.out.c
         clear hcc
         go_upto_region 38 with (go_at_call 102;(refine (HAR.out w8).mono ?_);rintro e w5 ⟨i1,i2,bb3,rfl,ho,hx⟩;have HX5:=zH hx;have OI:=zH ho;clear hx ho)
         have hxz:Ext w5 (w5.alloc (.cells #[iV i1,iV i2] 30)):=Ext.alloc (Ext.refl _) _
         have hbz:(w5.alloc (.cells #[iV i1,iV i2] 30)).heap[w5.heap.size]? = some (.cells #[iV i1,iV i2] 30):=block_new rfl
         have hxy:=HX5.out.trans hxz
         obtain ⟨pG,hpE⟩:∃ x,x=w5.heap.size:=⟨_,rfl⟩
         rw [← hpE] at hbz ⊢
         clear hpE q0 q1 q2 q3 l1 l2 HAR
         have HB5:=zH (HB5.out.ext hxy)
         have HI5:=zH (HI5.out.ext hxy)
         have R1:=zH ((hxy.block _ (zL R1.out)).trans R1.out);have R2:=zH ((hxy.block _ (zL R2.out)).trans R2.out)
         have R3:=zH hbz
         clear hxz hbz hxy HX5
         generalize w5.alloc (.cells #[iV i1,iV i2] 30)=w10 at *
         have HAR:=zH (fun wz=>aQuo (y1,y2) (v1,v2) OA2.out OB2.out wz)
         obtain ⟨hcc,-,l1⟩:=zC HI5.out.b
         have q0:=zk hcc 0
         have q1:=zk hcc 1
         obtain ⟨q2,q3,l2⟩:=zC2 HI5.out.d
         clear hcc
         go_upto_region 39 with (go_at_call 102;(refine (HAR.out w10).mono ?_);rintro e w5 ⟨j1,j2,bb4,rfl,ho,hx⟩;have HX5:=zH hx;have OJ:=zH ho;clear hx ho)
         have hxz:Ext w5 (w5.alloc (.cells #[iV j1,iV j2] 30)):=Ext.alloc (Ext.refl _) _
         have hbz:(w5.alloc (.cells #[iV j1,iV j2] 30)).heap[w5.heap.size]? = some (.cells #[iV j1,iV j2] 30):=block_new rfl
         have hxy:=HX5.out.trans hxz
         obtain ⟨pH,hpE⟩:∃ x,x=w5.heap.size:=⟨_,rfl⟩
         rw [← hpE] at hbz ⊢
         clear hpE q0 q1 q2 q3 l1 l2 HAR
         have HB5:=zH (HB5.out.ext hxy)
         have HI5:=zH (HI5.out.ext hxy)
         have R1:=zH ((hxy.block _ (zL R1.out)).trans R1.out);have R2:=zH ((hxy.block _ (zL R2.out)).trans R2.out);have R3:=zH ((hxy.block _ (zL R3.out)).trans R3.out)
         have R4:=zH hbz
         clear hxz hbz hxy HX5
         generalize w5.alloc (.cells #[iV j1,iV j2] 30)=w11 at *
         obtain ⟨qa0,qa1,la⟩:=zC2 R1.out
         obtain ⟨qb0,qb1,lb⟩:=zC2 R2.out
         obtain ⟨qi0,qi1,li⟩:=zC2 R3.out
         obtain ⟨qj0,qj1,lj⟩:=zC2 R4.out
         go_wp2_with (
          go_at_call 99;(refine (HE4.out _ (c1,c2) (d1,d2) (i1,i2) (j1,j2) _ _ _ _ _ _ OC.out OD.out OI.out OJ.out (al (alloc_new w11 _)) (heap_alloc2_new w11 _ _)).mono ?_);rintro e w9 ⟨⟨lo1,lo2⟩,⟨hi1,hi2⟩,er,rfl,ho1,ho2,hx⟩;have HB9:=zH (HB5.out.ext ((Ext.alloc (Ext.alloc (Ext.refl w11) _) _).trans hx));have H1:=zH ho1;have H2:=zH ho2;clear hx ho1 ho2 qa0 qa1 qb0 qb1 la lb qi0 qi1 qj0 qj1 li lj
          obtain ⟨hcc,hff,l2⟩:=zC HB9.out.g2
          have k0:=zk hcc 0
          have k1:=zk hcc 1
          have f0:=hff 0;have f1:=hff 1
          clear hcc hff
          obtain ⟨hcc,hff,l3⟩:=zC HB9.out.g3
          have k2:=zk hcc 0
          have k3:=zk hcc 1
          have f2:=hff 0;have f3:=hff 1
          clear hcc hff
          have n5:g≠g+1:=by omega)
         obtain ⟨kx,kg,kh⟩:=two_res HB9.out.low HB9.out.ge HB9.out.g2 HB9.out.g3 (iV lo1) (iV lo2) (iV hi1) (iV hi2)
         refine bodyPost_ret (v:=.tuple #[rv (lo1,lo2),rv (hi1,hi2),iV er]) (results_cct (by rfl) _ _ g (g+1) 30 _ _ _ _ _ (by rfl) (by rfl) (by rfl) kg kh Tryz.underlying30 (by kernel_rfl) (by kernel_rfl)) rfl ?_
         exact ⟨_,_,_,rfl,H1.out,H2.out,kx⟩
      ·have h47':(s.toList == [47])=false:=by simpa using h47
       by_cases hmn:(s.toList == [109,105,110])=true
       all_goals first
        |(have hmn':(s.toList == [109,105,110])=true:=hmn
          go_upto_region 41 with (fail)
          have HL1:=zH (fun wz=>less_any (x1,x2) (u1,u2) OA1.out OB1.out wz)
          have HL2:=zH (fun wz=>less_any (y1,y2) (v1,v2) OA2.out OB2.out wz))
        |(have hmn':(s.toList == [109,105,110])=false:=by simpa using hmn
          go_upto_region 42 with (fail)
          have HL1:=zH (fun wz=>more_any (x1,x2) (u1,u2) OA1.out OB1.out wz)
          have HL2:=zH (fun wz=>more_any (y1,y2) (v1,v2) OA2.out OB2.out wz))
       all_goals
        have ma:=HI5.out.a
        have mb:=HI5.out.b
        have mc:=HI5.out.c
        have md:=HI5.out.d
        refine Rr.rg [(0,.y),(1,.y),(3,.y),(4,.y),(2,.z),(5,.z)] ?_
        refine Rr.y2 (h:=fun wz hw=>up_row (by rfl) ((hw.block _ (zL ma)).trans ma) Tryz.underlying30 (by kernel_rfl)) (k:=?_)
        refine Rr.y2 (h:=fun wz hw=>up_row (by rfl) ((hw.block _ (zL mc)).trans mc) Tryz.underlying30 (by kernel_rfl)) (k:=?_)
        refine Rr.y2 (h:=fun wz hw=>up_row (by rfl) ((hw.block _ (zL mb)).trans mb) Tryz.underlying30 (by kernel_rfl)) (k:=?_)
        refine Rr.y2 (h:=fun wz hw=>up_row (by rfl) ((hw.block _ (zL md)).trans md) Tryz.underlying30 (by kernel_rfl)) (k:=?_)
        (refine Rr.zd (fun v _=>LeR v) (fun v w1 w2 h e=>h) (fun wz hw hh=>?_) (fun uu1=>?_)
         ·go_simp
          apply Rr.upR_enter
          (refine (HL1.out wz).mono ?_)
          rintro e wq ⟨n1,rfl,ho,hxq⟩
          exact ⟨_,rfl,hxq,LeR.mk ho⟩
         simp only [zp])
        (refine Rr.zd (fun v _=>LeR v) (fun v w1 w2 h e=>h) (fun wz hw hh=>?_) (fun uu2=>?_)
         ·go_simp
          apply Rr.upR_enter
          (refine (HL2.out wz).mono ?_)
          rintro e wq ⟨n1,rfl,ho,hxq⟩
          exact ⟨_,rfl,hxq,LeR.mk ho⟩
         simp only [zp])
        refine Rr.wr_nil ?_
        intro wy9 hy hh
        obtain ⟨⟨j1,j2⟩,rfl,hj⟩:=hh _ zM
        obtain ⟨⟨i1,i2⟩,rfl,hi⟩:=hh _ (zN _ zM)
        simp only [gg,gh,gi,gj,Nat.reduceAdd]
        clear hh ma mb mc md
        have HB9:=zH (HB5.out.ext hy)
        have H1:=zH hi;have H2:=zH hj
        clear hy hi hj
        obtain ⟨hcc,hff,l2⟩:=zC HB9.out.g2
        have k0:=zk hcc 0
        have k1:=zk hcc 1
        have f0:=hff 0;have f1:=hff 1
        clear hcc hff
        obtain ⟨hcc,hff,l3⟩:=zC HB9.out.g3
        have k2:=zk hcc 0
        have k3:=zk hcc 1
        have f2:=hff 0;have f3:=hff 1
        clear hcc hff
        have n5:g≠g+1:=by omega
        go_wp2_with (fail)
        obtain ⟨kx,kg,kh⟩:=two_res HB9.out.low HB9.out.ge HB9.out.g2 HB9.out.g3 (iV i1) (iV i2) (iV j1) (iV j2)
        refine bodyPost_ret (v:=.tuple #[rv (i1,i2),rv (j1,j2),iV 0]) (results_cct (by rfl) _ _ g (g+1) 30 _ _ _ _ _ (by rfl) (by rfl) (by rfl) kg kh Tryz.underlying30 (by kernel_rfl) (by kernel_rfl)) rfl ?_
        exact ⟨_,_,_,rfl,H1.out,H2.out,kx⟩
  ·have hz2b:(er2 == 0)=false:=by rw [beq_eq_false_iff_ne];exact hz2
   obtain ⟨hcc,hff,l2⟩:=zC HB3.out.g2
   have k0:=zk hcc 0
   have k1:=zk hcc 1
   have f0:=hff 0;have f1:=hff 1
   clear hcc hff
   obtain ⟨hcc,hff,l3⟩:=zC HB3.out.g3
   have k2:=zk hcc 0
   have k3:=zk hcc 1
   have f2:=hff 0;have f3:=hff 1
   clear hcc hff
   have n5:g≠g+1:=by omega
   go_wp2_with (fail)
   obtain ⟨kx,kg,kh⟩:=two_res HB3.out.low HB3.out.ge HB3.out.g2 HB3.out.g3 (iV 0) (iV 0) (iV 0) (iV 0)
   refine bodyPost_ret (v:=.tuple #[rv (0,0),rv (0,0),iV er2]) (results_cct (by rfl) _ _ g (g+1) 30 _ _ _ _ _ (by rfl) (by rfl) (by rfl) kg kh Tryz.underlying30 (by kernel_rfl) (by kernel_rfl)) rfl ?_
   exact ⟨_,_,_,rfl,OkR.zero,OkR.zero,kx⟩
 ·have hz1b:(er1 == 0)=false:=by rw [beq_eq_false_iff_ne];exact hz1
  obtain ⟨hcc,hff,l2⟩:=zC HB2.out.g2
  have k0:=zk hcc 0
  have k1:=zk hcc 1
  have f0:=hff 0;have f1:=hff 1
  clear hcc hff
  obtain ⟨hcc,hff,l3⟩:=zC HB2.out.g3
  have k2:=zk hcc 0
  have k3:=zk hcc 1
  have f2:=hff 0;have f3:=hff 1
  clear hcc hff
  have n5:g≠g+1:=by omega
  go_wp2_with (fail)
  obtain ⟨kx,kg,kh⟩:=two_res HB2.out.low HB2.out.ge HB2.out.g2 HB2.out.g3 (iV 0) (iV 0) (iV 0) (iV 0)
  refine bodyPost_ret (v:=.tuple #[rv (0,0),rv (0,0),iV er1]) (results_cct (by rfl) _ _ g (g+1) 30 _ _ _ _ _ (by rfl) (by rfl) (by rfl) kg kh Tryz.underlying30 (by kernel_rfl) (by kernel_rfl)) rfl ?_
  exact ⟨_,_,_,rfl,OkR.zero,OkR.zero,kx⟩
theorem interval_any (r:TnR) (cs:List Cr) (hk:TOk r cs) {t:Ex} (h:GE t):∀ (w:World) (v:Value),SR cellsCr 5 w (slV r.cs) cs→Rd All w t v→Calls Tryz.prog 58 #[.agg (tenC r),v] w (EndP w):=by
 induction h with
 | num n d h=>exact fun w v _ hv=>interval_num r n d w v ⟨h.i2.n1,h.i2.n2,h.i2.d1,h.i2.d2⟩ hv
 | name s h=>exact fun w v hs hv=>interval_name r cs s w v hs hk hv
 | op i hi a b _ _ iha ihb=>exact fun w v hs hv=>interval_op r (opNm i) (opNm_num i hi).1 (opNm_num i hi).2 a b w (fun wz v hz hr=>iha wz v (hs.ext hz) hr) (fun wz v hz hr=>ihb wz v (hs.ext hz) hr) v hv
end Go.Proofs.YteomcpplajeidaaGreat
