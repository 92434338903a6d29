/-
  Lemmas of this claim (JwAI). Nothing is asked.
-/
import Derived.Test.YteomcpplajeidaaGreatJwAE
import Derived.Test.YteomcpplajeidaaGreatJwAH
set_option linter.unusedVariables false
set_option linter.unusedSimpArgs false
set_option maxRecDepth 100000
set_option maxHeartbeats 40000000
namespace Go.Proofs.YteomcpplajeidaaGreat
open Go.RowKit
def BoP (w:World) (e:Ending) (w':World):Prop:=∃ b,e=.returned (.bool b)∧Ext w w'
theorem sum190_any (op:ByteArray) (n1 n2:Int) (nm:ByteArray) (base:Option Addr) (len cap:Nat) (w:World):Calls Tryz.prog 190 #[.agg #[.string op,iV n1,iV n2,.string nm,.slice base len cap]] w (BoP w):=by
 by_cases h1:(op.toList == [43])=true
 ·go_in
  go_wp2
  go_ret
  exact ⟨_,rfl,xt⟩
 ·have h1':(op.toList == [43])=false:=by simpa using h1
  go_in
  go_wp2
  go_ret
  exact ⟨_,rfl,xt⟩
theorem prod189_any (op:ByteArray) (n1 n2:Int) (nm:ByteArray) (base:Option Addr) (len cap:Nat) (w:World):Calls Tryz.prog 189 #[.agg #[.string op,iV n1,iV n2,.string nm,.slice base len cap]] w (BoP w):=by
 by_cases h1:(op.toList == [42])=true
 ·go_in
  go_wp2
  go_ret
  exact ⟨_,rfl,xt⟩
 ·have h1':(op.toList == [42])=false:=by simpa using h1
  go_in
  go_wp2
  go_ret
  exact ⟨_,rfl,xt⟩
theorem arg_of (m:Nat) (hm:m≤1000000000) (op:ByteArray) (n1 n2:Int) (nm:ByteArray) (base:Option Addr) (len cap:Nat) (b:Bool) (w:World) (h:∀ wz,Ext w wz→Calls Tryz.prog 152 #[.agg #[.string op,iV n1,iV n2,.string nm,.slice base len cap]] wz (StB m wz)) :
 Calls Tryz.prog 191 #[.agg #[.string op,iV n1,iV n2,.string nm,.slice base len cap],.bool b] w (StB (m+2) w):=by
 have HP:=zH h
 clear h
 cases b with
 | false=>
  go_in
  go_wp2_with (go_at_call 152;(refine (HP.out _ xt).mono ?_);rintro e w2 ⟨s,rfl,hs,hx⟩)
  go_ret
  exact ⟨_,rfl,by omega,xt⟩
 | true=>
  go_in
  have hp1:(⟨#[40]⟩:ByteArray).size=1:=rfl
  have hp2:(⟨#[41]⟩:ByteArray).size=1:=rfl
  go_wp2_with (go_at_call 152;(refine (HP.out _ xt).mono ?_);rintro e w2 ⟨s,rfl,hs,hx⟩;have h1:1+s.size≤9223372036854775807:=(by omega);have h2:1+s.size+1≤9223372036854775807:=(by omega))
  go_ret
  exact ⟨_,rfl,by rw [sz_app,sz_app];omega,xt⟩
def sof (v:Value):ByteArray:=match v with | .string s=>s|_=>⟨#[]⟩
def StR (m:Nat) (u:Value):Prop:=∃ s:ByteArray,u=.string s∧s.size≤m
theorem StR.mk {m:Nat} {s:ByteArray} (h:s.size≤m):StR m (.string s):=⟨s,rfl,h⟩
theorem print_num (n d:Int) (h:NuOk n d) (w:World) (v:Value) (hv:Rd All w (numE (n,d)) v):Calls Tryz.prog 152 #[v] w (StB 200 w):=by
 obtain ⟨base,cap,rfl⟩:=leaf_shape hv
 have HD:=zH (fun wz=>decF_any n d h wz)
 clear h hv
 go_in
 go_wp2_with (go_at_call 188;(refine (HD.out _).mono ?_);rintro e w2 ⟨s,rfl,hs,hx⟩)
 go_ret
 exact ⟨_,rfl,by omega,xt⟩
theorem print_name (s:ByteArray) (h:NmOk s) (w:World) (v:Value) (hv:Rd All w (nameE s) v):Calls Tryz.prog 152 #[v] w (StB 200 w):=by
 obtain ⟨base,cap,rfl⟩:=leaf_shape hv
 have hs:=h.sz
 clear h hv
 go_in
 go_wp2
 go_ret
 exact ⟨_,rfl,by omega,xt⟩
theorem print_op (s:ByteArray) (hs1:(s.toList == [110,117,109])=false) (hs2:(s.toList == [110,97,109,101])=false) (hsz:s.size≤3) (ta tb:Ex) (ma mb:Nat) (hma:ma≤100000000) (hmb:mb≤100000000) (w:World)
 (ha:∀ wz v,Ext w wz→Rd All wz ta v→Calls Tryz.prog 152 #[v] wz (StB ma wz)) (hb:∀ wz v,Ext w wz→Rd All wz tb v→Calls Tryz.prog 152 #[v] wz (StB mb wz)) (v:Value) (hv:Rd All w (opE' s ta tb) v):Calls Tryz.prog 152 #[v] w (StB (ma+mb+20) w):=by
 obtain ⟨bl,cap,oa,a1,a2,na,ba,la,ca,ob,b1,b2,nb,bb,lb,cb,rfl,ho⟩:=op_shape hv
 have HO:=zH ho
 have HA:=zH (fun wz (hz:Ext w wz)=>ha wz _ hz (ho.ext hz).ra)
 have HB:=zH (fun wz (hz:Ext w wz)=>hb wz _ hz (ho.ext hz).rb)
 have HXA:=zH (fun (b:Bool) wz (hz:Ext w wz)=>arg_of ma (by omega) oa a1 a2 na ba la ca b wz (fun wy hy=>HA.out wy (hz.trans hy)))
 have HXB:=zH (fun (b:Bool) wz (hz:Ext w wz)=>arg_of mb (by omega) ob b1 b2 nb bb lb cb b wz (fun wy hy=>HB.out wy (hz.trans hy)))
 have HS:=zH (fun wz=>sum190_any oa a1 a2 na ba la ca wz)
 have HS2:=zH (fun wz=>sum190_any ob b1 b2 nb bb lb cb wz)
 have HP:=zH (fun wz=>prod189_any s 0 0 nilB (some ⟨bl,0,none⟩) 2 cap wz)
 have HP2:=zH (fun wz=>prod189_any ob b1 b2 nb bb lb cb wz)
 clear hv ho ha hb
 obtain ⟨W,hW⟩:∃ W,W=(w.alloc (.cells #[.string s,iV 0,iV 0,.string nilB,.slice (some ⟨bl,0,none⟩) 2 cap] 33)):=⟨_,rfl⟩
 have hxW:Ext w W:=by rw [hW];exact Ext.alloc (Ext.refl _) _
 have hw1:W.heap[w.heap.size]? = some (.cells #[.string s,iV 0,iV 0,.string nilB,.slice (some ⟨bl,0,none⟩) 2 cap] 33):=by rw [hW];exact block_new rfl
 have HX:=zH hxW;have HW1:=zH hw1
 obtain ⟨p,hp⟩:∃ p,p=w.heap.size:=⟨_,rfl⟩
 rw [← hp] at HW1
 clear hxW hw1
 go_in
 go_upto_region 1 with (fail)
 rw [← hW]
 rw [← hp]
 clear hW hp
 obtain ⟨hcc,-,l1⟩:=zC ((((Ext.refl _)).block _ (zL HW1.out)).trans HW1.out)
 have e0:=zk hcc 0
 have e1:=zk hcc 1
 have e2:=zk hcc 2
 have e3:=zk hcc 3
 have e4:=zk hcc 4
 obtain ⟨-,-,lb',k0,k1,k2,k3,k4,k5,k6,k7,k8,k9⟩:=HO.out.ext (HX.out.trans ((Ext.refl _)))
 clear hcc
 have hp1:(⟨#[40]⟩:ByteArray).size=1:=rfl
 have hp2:(⟨#[44,32]⟩:ByteArray).size=2:=rfl
 have hp3:(⟨#[41]⟩:ByteArray).size=1:=rfl
 have hq1:¬ 9223372036854775807 < s.size+1:=by omega
 by_cases hmn:(s.toList == [109,105,110])=true
 ·have hmm:=hmn
  go_upto_region 8 with (fail)
  refine Rr.rg [(0,.y),(1,.y),(2,.y),(3,.y),(4,.y),(5,.y),(6,.y),(10,.y),(11,.y),(12,.y),(13,.y),(7,.z),(8,.y),(9,.y),(14,.z)] ?_
  iterate 6
   refine Rr.y1 ?_
  refine Rr.y2 (h:=fun wz hw=>up_load29 (by rfl) ((hw.cells.1 _ _ lb').trans k0) ((hw.cells.1 _ _ lb').trans k1) ((hw.cells.1 _ _ lb').trans k2) ((hw.cells.1 _ _ lb').trans k3) ((hw.cells.1 _ _ lb').trans k4)) (k:=?_)
  iterate 3
   refine Rr.y1 ?_
  refine Rr.y2 (h:=fun wz hw=>up_load29 (by rfl) ((hw.cells.1 _ _ lb').trans k5) ((hw.cells.1 _ _ lb').trans k6) ((hw.cells.1 _ _ lb').trans k7) ((hw.cells.1 _ _ lb').trans k8) ((hw.cells.1 _ _ lb').trans k9)) (k:=?_)
  (refine Rr.zd (fun v _=>StR ma v) (fun v w1 w2 h e=>h) (fun wz hw hh=>?_) (fun uA=>?_)
   ·go_simp
    apply Rr.upR_enter
    (refine (HA.out   wz (HX.out.trans hw)).mono ?_)
    rintro e wq ⟨n1,rfl,ho,hxq⟩
    exact ⟨_,rfl,hxq,StR.mk ho⟩
   simp only [zp])
  (refine Rr.yd ⟨.string (s ++ ⟨#[40]⟩ ++ sof uA),fun wz hw hh=>?_,?_⟩
   ·obtain ⟨sa,rfl,hsa⟩:=hh _ zM
    rw [show sof (.string sa)=sa from rfl]
    have hq2:¬ 9223372036854775807 < s.size+1+sa.size:=by omega
    go_simp
    exact zU
   simp only [zp])
  (refine Rr.yd ⟨.string (s ++ ⟨#[40]⟩ ++ sof uA ++ ⟨#[44,32]⟩),fun wz hw hh=>?_,?_⟩
   ·obtain ⟨sa,rfl,hsa⟩:=hh _ zM
    rw [show sof (.string sa)=sa from rfl]
    have hq2:¬ 9223372036854775807 < s.size+1+sa.size+2:=by omega
    go_simp
    exact zU
   simp only [zp])
  (refine Rr.zd (fun v _=>StR mb v) (fun v w1 w2 h e=>h) (fun wz hw hh=>?_) (fun uB=>?_)
   ·go_simp
    apply Rr.upR_enter
    (refine (HB.out   wz (HX.out.trans hw)).mono ?_)
    rintro e wq ⟨n1,rfl,ho,hxq⟩
    exact ⟨_,rfl,hxq,StR.mk ho⟩
   simp only [zp])
  refine Rr.wr_nil ?_
  intro wy hy hh
  obtain ⟨sb,rfl,hsb⟩:=hh _ zM
  obtain ⟨sa,rfl,hsa⟩:=hh _ (zN _ zM)
  simp only [gg,gh,gi,gj,Nat.reduceAdd]
  clear hh
  rw [show sof (.string sa)=sa from rfl]
  have hr1:s.size+1+sa.size+2+sb.size≤9223372036854775807:=by omega
  have hr2:s.size+1+sa.size+2+sb.size+1≤9223372036854775807:=by omega
  go_wp2
  go_ret
  exact ⟨_,rfl,by simp only [sz_app];omega,HX.out.trans hy⟩
 ·have hmn':(s.toList == [109,105,110])=false:=by simpa using hmn
  by_cases hmx:(s.toList == [109,97,120])=true
  ·have hmm:=hmx
   go_upto_region 8 with (fail)
   refine Rr.rg [(0,.y),(1,.y),(2,.y),(3,.y),(4,.y),(5,.y),(6,.y),(10,.y),(11,.y),(12,.y),(13,.y),(7,.z),(8,.y),(9,.y),(14,.z)] ?_
   iterate 6
    refine Rr.y1 ?_
   refine Rr.y2 (h:=fun wz hw=>up_load29 (by rfl) ((hw.cells.1 _ _ lb').trans k0) ((hw.cells.1 _ _ lb').trans k1) ((hw.cells.1 _ _ lb').trans k2) ((hw.cells.1 _ _ lb').trans k3) ((hw.cells.1 _ _ lb').trans k4)) (k:=?_)
   iterate 3
    refine Rr.y1 ?_
   refine Rr.y2 (h:=fun wz hw=>up_load29 (by rfl) ((hw.cells.1 _ _ lb').trans k5) ((hw.cells.1 _ _ lb').trans k6) ((hw.cells.1 _ _ lb').trans k7) ((hw.cells.1 _ _ lb').trans k8) ((hw.cells.1 _ _ lb').trans k9)) (k:=?_)
   (refine Rr.zd (fun v _=>StR ma v) (fun v w1 w2 h e=>h) (fun wz hw hh=>?_) (fun uA=>?_)
    ·go_simp
     apply Rr.upR_enter
     (refine (HA.out   wz (HX.out.trans hw)).mono ?_)
     rintro e wq ⟨n1,rfl,ho,hxq⟩
     exact ⟨_,rfl,hxq,StR.mk ho⟩
    simp only [zp])
   (refine Rr.yd ⟨.string (s ++ ⟨#[40]⟩ ++ sof uA),fun wz hw hh=>?_,?_⟩
    ·obtain ⟨sa,rfl,hsa⟩:=hh _ zM
     rw [show sof (.string sa)=sa from rfl]
     have hq2:¬ 9223372036854775807 < s.size+1+sa.size:=by omega
     go_simp
     exact zU
    simp only [zp])
   (refine Rr.yd ⟨.string (s ++ ⟨#[40]⟩ ++ sof uA ++ ⟨#[44,32]⟩),fun wz hw hh=>?_,?_⟩
    ·obtain ⟨sa,rfl,hsa⟩:=hh _ zM
     rw [show sof (.string sa)=sa from rfl]
     have hq2:¬ 9223372036854775807 < s.size+1+sa.size+2:=by omega
     go_simp
     exact zU
    simp only [zp])
   (refine Rr.zd (fun v _=>StR mb v) (fun v w1 w2 h e=>h) (fun wz hw hh=>?_) (fun uB=>?_)
    ·go_simp
     apply Rr.upR_enter
     (refine (HB.out   wz (HX.out.trans hw)).mono ?_)
     rintro e wq ⟨n1,rfl,ho,hxq⟩
     exact ⟨_,rfl,hxq,StR.mk ho⟩
    simp only [zp])
   refine Rr.wr_nil ?_
   intro wy hy hh
   obtain ⟨sb,rfl,hsb⟩:=hh _ zM
   obtain ⟨sa,rfl,hsa⟩:=hh _ (zN _ zM)
   simp only [gg,gh,gi,gj,Nat.reduceAdd]
   clear hh
   rw [show sof (.string sa)=sa from rfl]
   have hr1:s.size+1+sa.size+2+sb.size≤9223372036854775807:=by omega
   have hr2:s.size+1+sa.size+2+sb.size+1≤9223372036854775807:=by omega
   go_wp2
   go_ret
   exact ⟨_,rfl,by simp only [sz_app];omega,HX.out.trans hy⟩
  ·have hmx':(s.toList == [109,97,120])=false:=by simpa using hmx
   clear hmn hmx hp1 hp2 hp3 hq1
   go_upto_region 11 with (fail)
   have hxx:=Ext.alloc (Ext.alloc (Ext.refl W) (.cells #[.string oa,iV a1,iV a2,.string na,.slice ba la ca] 33)) (.cells #[.string ob,iV b1,iV b2,.string nb,.slice bb lb cb] 33)
   have hg1:((W.alloc (.cells #[.string oa,iV a1,iV a2,.string na,.slice ba la ca] 33)).alloc (.cells #[.string ob,iV b1,iV b2,.string nb,.slice bb lb cb] 33)).heap[W.heap.size]? = some (.cells #[.string oa,iV a1,iV a2,.string na,.slice ba la ca] 33):=by rw [Below.heap_alloc _ _ _ (by simp)];exact heap_alloc_new _ _
   have hg2:((W.alloc (.cells #[.string oa,iV a1,iV a2,.string na,.slice ba la ca] 33)).alloc (.cells #[.string ob,iV b1,iV b2,.string nb,.slice bb lb cb] 33)).heap[W.heap.size+1]? = some (.cells #[.string ob,iV b1,iV b2,.string nb,.slice bb lb cb] 33):=block_new (by simp)
   obtain ⟨pA,hpA⟩:∃ x,x=W.heap.size:=⟨_,rfl⟩
   obtain ⟨pB,hpB⟩:∃ x,x=W.heap.size+1:=⟨_,rfl⟩
   rw [← hpB] at hg2 ⊢
   rw [← hpA] at hg1 ⊢
   clear hpA hpB e0 e1 e2 e3 e4 k0 k1 k2 k3 k4 k5 k6 k7 k8 k9 l1 lb'
   have HX1:=zH hxx;have HG1:=zH hg1;have HG2:=zH hg2
   clear hxx hg1 hg2
   generalize (W.alloc (.cells #[.string oa,iV a1,iV a2,.string na,.slice ba la ca] 33)).alloc (.cells #[.string ob,iV b1,iV b2,.string nb,.slice bb lb cb] 33)=W1 at *
   obtain ⟨k0,k1,k2,k3,k4,lA⟩:=zC5 ((((Ext.refl _)).block _ (zL HG1.out)).trans HG1.out)
   obtain ⟨k5,k6,k7,k8,k9,lB⟩:=zC5 ((((Ext.refl _)).block _ (zL HG2.out)).trans HG2.out)
   obtain ⟨e0,e1,e2,e3,e4,l1⟩:=zC5 (((HX1.out.trans ((Ext.refl _))).block _ (zL HW1.out)).trans HW1.out)
   have HR0:=zH (Ext.refl W1)
   go_upto_region 12 with (go_at_call 189;(refine (HP.out _).mono ?_);rintro e w5 ⟨b5,rfl,hx⟩;have HXn:=zH (HR0.out.trans hx);clear hx k0 k1 k2 k3 k4 k5 k6 k7 k8 k9 e0 e1 e2 e3 e4 lA lB l1)
   obtain ⟨v1,rfl⟩:∃ x:World,x=w5:=⟨_,rfl⟩
   have HY1:=zH HXn.out
   clear HXn
   obtain ⟨k0,k1,k2,k3,k4,lA⟩:=zC5 (((HY1.out).block _ (zL HG1.out)).trans HG1.out)
   obtain ⟨k5,k6,k7,k8,k9,lB⟩:=zC5 (((HY1.out).block _ (zL HG2.out)).trans HG2.out)
   obtain ⟨e0,e1,e2,e3,e4,l1⟩:=zC5 (((HX1.out.trans (HY1.out)).block _ (zL HW1.out)).trans HW1.out)
   go_upto_region 13 with (go_at_call 190;(refine (HS.out _).mono ?_);rintro e w5 ⟨b6,rfl,hx⟩;have HXn:=zH (HY1.out.trans hx);clear hx k0 k1 k2 k3 k4 k5 k6 k7 k8 k9 e0 e1 e2 e3 e4 lA lB l1)
   obtain ⟨v2,rfl⟩:∃ x:World,x=w5:=⟨_,rfl⟩
   have HY2:=zH HXn.out
   clear HXn
   obtain ⟨k0,k1,k2,k3,k4,lA⟩:=zC5 (((HY2.out).block _ (zL HG1.out)).trans HG1.out)
   obtain ⟨k5,k6,k7,k8,k9,lB⟩:=zC5 (((HY2.out).block _ (zL HG2.out)).trans HG2.out)
   obtain ⟨e0,e1,e2,e3,e4,l1⟩:=zC5 (((HX1.out.trans (HY2.out)).block _ (zL HW1.out)).trans HW1.out)
   go_upto_region 14 with (go_at_call 190;(refine (HS2.out _).mono ?_);rintro e w5 ⟨b7,rfl,hx⟩;have HXn:=zH (HY2.out.trans hx);clear hx k0 k1 k2 k3 k4 k5 k6 k7 k8 k9 e0 e1 e2 e3 e4 lA lB l1)
   obtain ⟨v3,rfl⟩:∃ x:World,x=w5:=⟨_,rfl⟩
   have HY3:=zH HXn.out
   clear HXn
   obtain ⟨k0,k1,k2,k3,k4,lA⟩:=zC5 (((HY3.out).block _ (zL HG1.out)).trans HG1.out)
   obtain ⟨k5,k6,k7,k8,k9,lB⟩:=zC5 (((HY3.out).block _ (zL HG2.out)).trans HG2.out)
   obtain ⟨e0,e1,e2,e3,e4,l1⟩:=zC5 (((HX1.out.trans (HY3.out)).block _ (zL HW1.out)).trans HW1.out)
   go_upto_region 15 with (go_at_call 189;(refine (HP2.out _).mono ?_);rintro e w5 ⟨b8,rfl,hx⟩;have HXn:=zH (HY3.out.trans hx);clear hx k0 k1 k2 k3 k4 k5 k6 k7 k8 k9 e0 e1 e2 e3 e4 lA lB l1)
   obtain ⟨v4,rfl⟩:∃ x:World,x=w5:=⟨_,rfl⟩
   have HY4:=zH HXn.out
   clear HXn
   obtain ⟨k0,k1,k2,k3,k4,lA⟩:=zC5 (((HY4.out).block _ (zL HG1.out)).trans HG1.out)
   obtain ⟨k5,k6,k7,k8,k9,lB⟩:=zC5 (((HY4.out).block _ (zL HG2.out)).trans HG2.out)
   obtain ⟨e0,e1,e2,e3,e4,l1⟩:=zC5 (((HX1.out.trans (HY4.out)).block _ (zL HW1.out)).trans HW1.out)
   have hp4:(⟨#[32]⟩:ByteArray).size=1:=rfl
   cases b6 <;> cases b7 <;> cases b8
   all_goals
    refine Rr.rg [(0,.y),(1,.y),(2,.y),(3,.y),(4,.y),(7,.y),(8,.y),(11,.y),(12,.y),(5,.z),(6,.y),(9,.y),(10,.y),(13,.y),(14,.y),(15,.y),(16,.y),(17,.y),(18,.y),(19,.z)] ?_
    refine Rr.y2 (h:=fun wz hw=>up_load29 (by rfl) ((hw.cells.1 _ _ lA).trans k0) ((hw.cells.1 _ _ lA).trans k1) ((hw.cells.1 _ _ lA).trans k2) ((hw.cells.1 _ _ lA).trans k3) ((hw.cells.1 _ _ lA).trans k4)) (k:=?_)
    iterate 2
     refine Rr.y1 ?_
    first
     |(refine Rr.yv ?_;simp only [zp])
     |(refine Rr.wr_skip (by simp only [ga,gb,gc];rfl) (by rfl) ?_;simp only [zp])
    iterate 3
     refine Rr.y1 ?_
    refine Rr.y2 (h:=fun wz hw=>up_load29 (by rfl) ((hw.cells.1 _ _ lB).trans k5) ((hw.cells.1 _ _ lB).trans k6) ((hw.cells.1 _ _ lB).trans k7) ((hw.cells.1 _ _ lB).trans k8) ((hw.cells.1 _ _ lB).trans k9)) (k:=?_)
    refine Rr.y1 ?_
    (refine Rr.zd (fun v _=>StR (ma+2) v) (fun v w1 w2 h e=>h) (fun wz hw hh=>?_) (fun uA=>?_)
     ·go_simp
      apply Rr.upR_enter
      (refine (HXA.out _ wz ((HX.out.trans (HX1.out.trans HY4.out)).trans hw)).mono ?_)
      rintro e wq ⟨n1,rfl,ho,hxq⟩
      exact ⟨_,rfl,hxq,StR.mk ho⟩
     simp only [zp])
    (refine Rr.yd ⟨.string (sof uA ++ ⟨#[32]⟩),fun wz hw hh=>?_,?_⟩
     ·obtain ⟨sa,rfl,hsa⟩:=hh _ zM
      rw [show sof (.string sa)=sa from rfl]
      have hq2:¬ 9223372036854775807 < sa.size+1:=by omega
      go_simp
      exact zU
     simp only [zp])
    (refine Rr.yd ⟨.string (sof uA ++ ⟨#[32]⟩ ++ s),fun wz hw hh=>?_,?_⟩
     ·obtain ⟨sa,rfl,hsa⟩:=hh _ zM
      rw [show sof (.string sa)=sa from rfl]
      have hq2:¬ 9223372036854775807 < sa.size+1+s.size:=by omega
      go_simp
      exact zU
     simp only [zp])
    (refine Rr.yd ⟨.string (sof uA ++ ⟨#[32]⟩ ++ s ++ ⟨#[32]⟩),fun wz hw hh=>?_,?_⟩
     ·obtain ⟨sa,rfl,hsa⟩:=hh _ zM
      rw [show sof (.string sa)=sa from rfl]
      have hq2:¬ 9223372036854775807 < sa.size+1+s.size+1:=by omega
      go_simp
      exact zU
     simp only [zp])
    refine Rr.y1 ?_
    first
     |(refine Rr.yv ?_;simp only [zp])
     |(refine Rr.wr_skip (by simp only [ga,gb,gc];rfl) (by rfl) ?_;simp only [zp])
    first
     |(refine Rr.yv ?_;simp only [zp])
     |(refine Rr.wr_skip (by simp only [ga,gb,gc];rfl) (by rfl) ?_;simp only [zp])
    first
     |(refine Rr.yv ?_;simp only [zp])
     |(refine Rr.wr_skip (by simp only [ga,gb,gc];rfl) (by rfl) ?_;simp only [zp])
    first
     |(refine Rr.yv ?_;simp only [zp])
     |(refine Rr.wr_skip (by simp only [ga,gb,gc];rfl) (by rfl) ?_;simp only [zp])
    refine Rr.y1 ?_
    (refine Rr.zd (fun v _=>StR (mb+2) v) (fun v w1 w2 h e=>h) (fun wz hw hh=>?_) (fun uB=>?_)
     ·go_simp
      apply Rr.upR_enter
      (refine (HXB.out _ wz ((HX.out.trans (HX1.out.trans HY4.out)).trans hw)).mono ?_)
      rintro e wq ⟨n1,rfl,ho,hxq⟩
      exact ⟨_,rfl,hxq,StR.mk ho⟩
     simp only [zp])
    refine Rr.wr_nil ?_
    intro wy hy hh
    obtain ⟨sb,rfl,hsb⟩:=hh _ zM
    obtain ⟨sa,rfl,hsa⟩:=hh _ (zN _ zM)
    simp only [gg,gh,gi,gj,Nat.reduceAdd]
    clear hh
    rw [show sof (.string sa)=sa from rfl]
    have hr1:sa.size+1+s.size+1+sb.size≤9223372036854775807:=by omega
    go_wp2
    go_ret
    exact ⟨_,rfl,by simp only [sz_app];omega,(HX.out.trans (HX1.out.trans HY4.out)).trans hy⟩
theorem opNm_sz (i:Nat) (hi:i < 6):(opNm i).size≤3:=by
 match i,hi with
 | 0,_=>decide
 | 1,_=>decide
 | 2,_=>decide
 | 3,_=>decide
 | 4,_=>decide
 | 5,_=>decide
theorem print_any {t:Ex} (h:GE t) (hp:t.parts≤100000):∀ (w:World) (v:Value),Rd All w t v→Calls Tryz.prog 152 #[v] w (StB (200 * t.parts) w):=by
 induction h with
 | num n d h=>exact fun w v hv=>(print_num n d h w v hv).mono fun _ _ h=>h.up (by show 200≤200 * (numE (n,d)).parts;rw [Ex.parts];omega)
 | name s h=>exact fun w v hv=>(print_name s h w v hv).mono fun _ _ h=>h.up (by show 200≤200 * (nameE s).parts;rw [Ex.parts];omega)
 | op i hi a b ha hb iha ihb=>
  have e:(opE' (opNm i) a b).parts=1+(a.parts+(b.parts+0)):=by rw [Ex.parts,Ex.partsL,Ex.partsL,Ex.partsL]
  intro w v hv
  rw [e] at hp ⊢
  refine (print_op (opNm i) (opNm_num i hi).1 (opNm_num i hi).2 (opNm_sz i hi) a b (200 * a.parts) (200 * b.parts) (by omega) (by omega) w (fun wz v hz hr=>iha (by omega) wz v hr) (fun wz v hz hr=>ihb (by omega) wz v hr) v hv).mono fun _ _ h=>h.up (by omega)
end Go.Proofs.YteomcpplajeidaaGreat
