/-
  Lemmas of this claim (JwAF). Nothing is asked.
-/
import Derived.Test.YteomcpplajeidaaGreatJwAE
import Derived.Test.YteomcpplajeidaaGreatJwAD
set_option linter.unusedVariables false
set_option linter.unusedSimpArgs false
set_option maxRecDepth 100000
set_option maxHeartbeats 40000000
namespace Go.Proofs.YteomcpplajeidaaGreat
open Go.RowKit
def PwP (w:World) (e:Ending) (w':World):Prop:=∃ n er:Int,e=.returned (.tuple #[iV n,iV er])∧Ext w w'
theorem two_box {w:World} {r:TnR} {f0 f1 f2 f3 f4:Value}:∃ W,W=(w.alloc (.cells (tenC r) 39)).alloc (.cells #[f0,f1,f2,f3,f4] 33)∧Ext w W∧W.heap[w.heap.size]? = some (.cells (tenC r) 39)∧W.heap[w.heap.size+1]? = some (.cells #[f0,f1,f2,f3,f4] 33):=
 ⟨_,rfl,Ext.alloc (Ext.alloc (Ext.refl _) _) _,by rw [Below.heap_alloc _ _ _ (by simp)];exact heap_alloc_new _ _,block_new (by simp)⟩
theorem power_leaf (r:TnR) (cs:List Cr) (op nm:ByteArray) (n d:Int) (hop:op=numB∨op=nameB) (w:World) (v:Value) (h:SR cellsCr 5 w (slV r.cs) cs) (hk:TOk r cs) (hv:Rd All w (leaf op (n,d) nm) v):Calls Tryz.prog 57 #[.agg (tenC r),v] w (PwP w):=by
 obtain ⟨base,cap,rfl⟩:=leaf_shape hv
 have HB:=zH (fun s wz (hz:Ext w wz)=>bounds_any r cs s wz (h.ext hz) hk)
 obtain ⟨row,hrow⟩:∃ row,row=(tenC r).toList:=⟨_,rfl⟩
 have hrs:row.length=20:=by rw [hrow];rfl
 have hrt:row.toArray=tenC r:=by rw [hrow]
 obtain ⟨W,hW,hx,g2,g3⟩:=two_box (w:=w) (r:=r) (f0:=.string op) (f1:=iV n) (f2:=iV d) (f3:=.string nm) (f4:=.slice base 0 cap)
 have HX:=zH hx
 rw [← hrt] at HB
 obtain ⟨hcc,-,hlp⟩:=zC g3
 obtain ⟨p,hp⟩:∃ x,x=w.heap.size:=⟨_,rfl⟩
 rw [← hp] at g2 g3 hcc hlp
 have HRG:Hid (W.rangeAt p 0 row):=zH (range_of g2 0 row (fun j v hv=>by rw [hrow] at hv;simpa using hv))
 have hlp2:=zL g2
 clear g2 g3 hx hv h hk hrow hrt
 go_in
 go_upto_region 1 with (fail)
 rw [← hW]
 rw [← hp]
 clear hW hp
 have e0:=zk hcc 0
 have e2:=zk hcc 3
 rcases hop with rfl|rfl
 ·clear hcc
  go_wp2_with (fail)
  go_ret2
  exact ⟨_,_,rfl,HX.out⟩
 ·have HC:=zH hcc
  clear hcc
  go_upto_region 5 with (first
   |(refine wpList_load_mid rfl 39 (.tmp 2) rfl p 0 (by rfl) row _ HRG.out Tryz.underlying39 rfl (by rw [hrs];kernel_rfl) ?_)
   |(go_at_call 59;(with_reducible refine (HB.out _ _ HX.out).mono ?_);rintro e w1 ⟨lo,hi,b,rfl,-,-,hx1⟩;have HX1:=zH (HX.out.trans hx1);have a3:=(hx1.cells.1 _ _ hlp).trans e2;have la:=Nat.lt_of_lt_of_le hlp hx1.size;clear hx1))
  cases b with
  | false=>
   go_wp2_with (fail)
   go_ret2
   exact ⟨_,_,rfl,HX1.out⟩
  | true=>
   by_cases h1:(nm.toList == [112,114,105,99,101])=true
   ·go_wp2_with (fail)
    go_ret2
    exact ⟨_,_,rfl,HX1.out⟩
   ·have h1':(nm.toList == [112,114,105,99,101])=false:=by simpa using h1
    by_cases h2:(nm.toList == [108,111,119])=true
    ·go_wp2_with (fail)
     go_ret2
     exact ⟨_,_,rfl,HX1.out⟩
    ·have h2':(nm.toList == [108,111,119])=false:=by simpa using h2
     go_wp2_with (fail)
     go_ret2
     exact ⟨_,_,rfl,HX1.out⟩
theorem opNm_num (i:Nat) (hi:i < 6):((opNm i).toList == [110,117,109])=false∧((opNm i).toList == [110,97,109,101])=false:=by
 match i,hi with
 | 0,_=>exact ⟨by decide +kernel,by decide +kernel⟩
 | 1,_=>exact ⟨by decide +kernel,by decide +kernel⟩
 | 2,_=>exact ⟨by decide +kernel,by decide +kernel⟩
 | 3,_=>exact ⟨by decide +kernel,by decide +kernel⟩
 | 4,_=>exact ⟨by decide +kernel,by decide +kernel⟩
 | 5,_=>exact ⟨by decide +kernel,by decide +kernel⟩
def tg (v:Value) (k:Nat):Value:=match v with | .tuple a=>a.getD k undef|_=>undef
theorem power_op (r:TnR) (s:ByteArray) (hs1:(s.toList == [110,117,109])=false) (hs2:(s.toList == [110,97,109,101])=false) (a b:Ex) (w:World)
 (ha:∀ wz v,Ext w wz→Rd All wz a v→Calls Tryz.prog 57 #[.agg (tenC r),v] wz (PwP wz)) (hb:∀ wz v,Ext w wz→Rd All wz b v→Calls Tryz.prog 57 #[.agg (tenC r),v] wz (PwP wz)) (v:Value) (hv:Rd All w (opE' s a b) v):Calls Tryz.prog 57 #[.agg (tenC r),v] w (PwP w):=by
 obtain ⟨bl,cap,oa,a1,a2,na,ba,la,ca,ob,b1,b2,nb,bb,lb,cb,rfl,ho⟩:=op_shape hv
 have HO:=zH ho
 have HA:=zH (fun wz (hz:Ext w wz)=>ha wz _ hz (ho.ext hz).ra)
 have HB:=zH (fun wz (hz:Ext w wz)=>hb wz _ hz (ho.ext hz).rb)
 obtain ⟨row,hrow⟩:∃ row,row=(tenC r).toList:=⟨_,rfl⟩
 have hrs:row.length=20:=by rw [hrow];rfl
 have hrt:row.toArray=tenC r:=by rw [hrow]
 obtain ⟨W,hW,hx,g2,g3⟩:=two_box (w:=w) (r:=r) (f0:=.string s) (f1:=iV 0) (f2:=iV 0) (f3:=.string nilB) (f4:=.slice (some ⟨bl,0,none⟩) 2 cap)
 have HX:=zH hx
 rw [← hrt] at HA HB g2
 obtain ⟨p,hp⟩:∃ x,x=w.heap.size:=⟨_,rfl⟩
 rw [← hp] at g2 g3
 have HG2:=zH g2
 have HC:Hid (∀ wz,Ext W wz→wz.heap[p]? = some (.cells row.toArray 39)∧wz.heap[p+1]? = some (.cells #[.string s,iV 0,iV 0,.string nilB,.slice (some ⟨bl,0,none⟩) 2 cap] 33)):=zH (fun wz hz=>⟨(hz.block _ (zL g2)).trans g2,(hz.block _ (zL g3)).trans g3⟩)
 clear g2 g3 hx hv ho ha hb hrow
 have HRT:=zH hrt
 clear hrt
 go_in
 go_upto_region 1 with (fail)
 rw [← HRT.out] at hW
 try rw [← HRT.out]
 rw [← hW]
 rw [← hp]
 clear hW hp
 obtain ⟨hcc,-,l1⟩:=zC (HC.out W (Ext.refl _)).2
 have e0:=zk hcc 0
 have e3:=zk hcc 3
 have e4:=zk hcc 4
 obtain ⟨-,-,lb',k0,k1,k2,k3,k4,k5,k6,k7,k8,k9⟩:=HO.out.ext (HX.out.trans (Ext.refl _))
 have h39:=(HC.out W (Ext.refl _)).1
 have l0:=zL h39
 clear hcc
 clear h39 l0
 go_upto_region 10 with (fail)
 have h39:=(HC.out W (Ext.refl _)).1
 have l0:=zL h39
 refine Rr.rE [8] [(0,.y),(1,.y),(2,.y),(3,.y),(4,.y),(5,.z),(6,.y),(7,.y),(8,.y)] ?_
 refine Rr.y2 (h:=fun wz hw=>up_row (by rfl) ((hw.block _ (zL h39)).trans h39) Tryz.underlying39 (by rw [List.size_toArray,hrs];kernel_rfl)) (k:=?_)
 iterate 3
  refine Rr.y1 ?_
 refine Rr.y2 (h:=fun wz hw=>up_load29 (by rfl) ((hw.cells.1 _ _ lb').trans k0) ((hw.cells.1 _ _ lb').trans k1) ((hw.cells.1 _ _ lb').trans k2) ((hw.cells.1 _ _ lb').trans k3) ((hw.cells.1 _ _ lb').trans k4)) (k:=?_)
 (refine Rr.zd (fun v _=>∃ n er:Int,v=.tuple #[iV n,iV er]) (fun v w1 w2 h e=>h) (fun wz hw hh=>?_) (fun u=>?_)
  ·go_simp
   apply Rr.upR_enter
   (refine (HA.out wz (HX.out.trans hw)).mono ?_)
   rintro e wq ⟨n1,er1,rfl,hxq⟩
   exact ⟨_,rfl,hxq,n1,er1,rfl⟩
  simp only [zp])
 (refine Rr.yd ⟨u,fun wz hw hh=>?_,?_⟩
  ·obtain ⟨n1,er1,rfl⟩:=hh _ zM
   go_simp
   exact zU
  simp only [zp])
 (refine Rr.yd ⟨tg u 0,fun wz hw hh=>?_,?_⟩
  ·obtain ⟨n1,er1,rfl⟩:=hh _ zM
   go_simp
   exact zU
  simp only [zp])
 (refine Rr.yd ⟨tg u 1,fun wz hw hh=>?_,?_⟩
  ·obtain ⟨n1,er1,rfl⟩:=hh _ zM
   go_simp
   exact zU
  simp only [zp])
 refine Rr.wr_nil ?_
 intro wy hy hh
 obtain ⟨n1,er1,rfl⟩:=hh _ zM
 simp only [gg,gh,gi,gj,Nat.reduceAdd]
 clear hh
 rw [show tg (.tuple #[iV n1,iV er1]) 0=iV n1 from rfl,show tg (.tuple #[iV n1,iV er1]) 1=iV er1 from rfl]
 have HY1:=zH hy
 clear hy h39 l0 e0 e3 e4 k0 k1 k2 k3 k4 k5 k6 k7 k8 k9 l1 lb'
 obtain ⟨hcc,-,l1⟩:=zC (HC.out wy HY1.out).2
 have e0:=zk hcc 0
 have e3:=zk hcc 3
 have e4:=zk hcc 4
 obtain ⟨-,-,lb',k0,k1,k2,k3,k4,k5,k6,k7,k8,k9⟩:=HO.out.ext (HX.out.trans HY1.out)
 have h39:=(HC.out wy HY1.out).1
 have l0:=zL h39
 clear hcc
 by_cases hz1:er1=0
 ·subst hz1
  clear h39 l0
  go_upto_region 13 with (fail)
  have h39:=(HC.out wy HY1.out).1
  have l0:=zL h39
  refine Rr.rE [8] [(0,.y),(1,.y),(2,.y),(3,.y),(4,.y),(5,.z),(6,.y),(7,.y),(8,.y)] ?_
  refine Rr.y2 (h:=fun wz hw=>up_row (by rfl) ((hw.block _ (zL h39)).trans h39) Tryz.underlying39 (by rw [List.size_toArray,hrs];kernel_rfl)) (k:=?_)
  iterate 3
   refine Rr.y1 ?_
  refine Rr.y2 (h:=fun wz hw=>up_load29 (by rfl) ((hw.cells.1 _ _ lb').trans k5) ((hw.cells.1 _ _ lb').trans k6) ((hw.cells.1 _ _ lb').trans k7) ((hw.cells.1 _ _ lb').trans k8) ((hw.cells.1 _ _ lb').trans k9)) (k:=?_)
  (refine Rr.zd (fun v _=>∃ n er:Int,v=.tuple #[iV n,iV er]) (fun v w1 w2 h e=>h) (fun wz hw hh=>?_) (fun u=>?_)
   ·go_simp
    apply Rr.upR_enter
    (refine (HB.out wz ((HX.out.trans HY1.out).trans hw)).mono ?_)
    rintro e wq ⟨n1,er1,rfl,hxq⟩
    exact ⟨_,rfl,hxq,n1,er1,rfl⟩
   simp only [zp])
  (refine Rr.yd ⟨u,fun wz hw hh=>?_,?_⟩
   ·obtain ⟨n1,er1,rfl⟩:=hh _ zM
    go_simp
    exact zU
   simp only [zp])
  (refine Rr.yd ⟨tg u 0,fun wz hw hh=>?_,?_⟩
   ·obtain ⟨n1,er1,rfl⟩:=hh _ zM
    go_simp
    exact zU
   simp only [zp])
  (refine Rr.yd ⟨tg u 1,fun wz hw hh=>?_,?_⟩
   ·obtain ⟨n1,er1,rfl⟩:=hh _ zM
    go_simp
    exact zU
   simp only [zp])
  refine Rr.wr_nil ?_
  intro wu hy hh
  obtain ⟨n2,er2,rfl⟩:=hh _ zM
  simp only [gg,gh,gi,gj,Nat.reduceAdd]
  clear hh
  rw [show tg (.tuple #[iV n2,iV er2]) 0=iV n2 from rfl,show tg (.tuple #[iV n2,iV er2]) 1=iV er2 from rfl]
  have HY2:=zH (HY1.out.trans hy)
  clear hy h39 l0 e0 e3 e4 k0 k1 k2 k3 k4 k5 k6 k7 k8 k9 l1 lb'
  obtain ⟨hcc,-,l1⟩:=zC (HC.out wu HY2.out).2
  have e0:=zk hcc 0
  have e3:=zk hcc 3
  have e4:=zk hcc 4
  obtain ⟨-,-,lb',k0,k1,k2,k3,k4,k5,k6,k7,k8,k9⟩:=HO.out.ext (HX.out.trans HY2.out)
  have h39:=(HC.out wu HY2.out).1
  have l0:=zL h39
  clear hcc
  clear h39 l0
  by_cases hz2:er2=0
  ·subst hz2
   obtain ⟨p1,hp1⟩:∃ x,x=(oa.toList == [110,117,109]):=⟨_,rfl⟩
   obtain ⟨p2,hp2⟩:∃ x,x=(ob.toList == [110,117,109]):=⟨_,rfl⟩
   go_upto_region 18 with (fail)
   rw [← hp1,← hp2]
   have HP:=zH (And.intro hp1 hp2)
   clear hp1 hp2
   by_cases h42:(s.toList == [42])=true
   ·go_wp2_with (fail)
    go_ret2
    exact ⟨_,_,rfl,HX.out.trans HY2.out⟩
   ·have h42':(s.toList == [42])=false:=by simpa using h42
    by_cases h47:(s.toList == [47])=true
    ·cases p2 with
     | false=>
      go_wp2_with (fail)
      go_ret2
      exact ⟨_,_,rfl,HX.out.trans HY2.out⟩
     | true=>
      by_cases hn1:n1=1
      ·subst hn1
       go_wp2_with (fail)
       go_ret2
       exact ⟨_,_,rfl,HX.out.trans HY2.out⟩
      ·have hn1b:(n1 == 1)=false:=by rw [beq_eq_false_iff_ne];exact hn1
       go_wp2_with (fail)
       go_ret2
       exact ⟨_,_,rfl,HX.out.trans HY2.out⟩
    ·have h47':(s.toList == [47])=false:=by simpa using h47
     cases p1 with
     | false=>
      cases p2 with
      | false=>
       by_cases hn:n1=n2
       ·subst hn
        go_wp2_with (fail)
        go_ret2
        exact ⟨_,_,rfl,HX.out.trans HY2.out⟩
       ·have hnb:(n1 == n2)=false:=by rw [beq_eq_false_iff_ne];exact hn
        go_wp2_with (fail)
        go_ret2
        exact ⟨_,_,rfl,HX.out.trans HY2.out⟩
      | true=>
       go_wp2_with (fail)
       go_ret2
       exact ⟨_,_,rfl,HX.out.trans HY2.out⟩
     | true=>
      cases p2 with
      | false=>
       go_wp2_with (fail)
       go_ret2
       exact ⟨_,_,rfl,HX.out.trans HY2.out⟩
      | true=>
       go_wp2_with (fail)
       go_ret2
       exact ⟨_,_,rfl,HX.out.trans HY2.out⟩
  ·have hz2b:(er2 == 0)=false:=by rw [beq_eq_false_iff_ne];exact hz2
   go_wp2_with (fail)
   go_ret2
   exact ⟨_,_,rfl,HX.out.trans HY2.out⟩
 ·have hz1b:(er1 == 0)=false:=by rw [beq_eq_false_iff_ne];exact hz1
  go_wp2_with (fail)
  go_ret2
  exact ⟨_,_,rfl,HX.out.trans HY1.out⟩
theorem power_any (r:TnR) (cs:List Cr) (hk:TOk r cs) {t:Ex} (h:GE t):∀ (w:World) (v:Value),SR cellsCr 5 w (slV r.cs) cs→Rd All w t v→Calls Tryz.prog 57 #[.agg (tenC r),v] w (PwP w):=by
 induction h with
 | num n d h=>exact fun w v hs hv=>power_leaf r cs numB nilB n d (.inl rfl) w v hs hk hv
 | name s h=>exact fun w v hs hv=>power_leaf r cs nameB s 0 0 (.inr rfl) w v hs hk hv
 | op i hi a b _ _ iha ihb=>exact fun w v hs hv=>power_op r (opNm i) (opNm_num i hi).1 (opNm_num i hi).2 a b w (fun wz v hz hr=>iha wz v (hs.ext hz) hr) (fun wz v hz hr=>ihb wz v (hs.ext hz) hr) v hv
theorem numT (s:ByteArray) (least n:Int) (h1:decide (s.size≤1000000)=true) (h2:numS s=true) (h3:valU s s.size=n) (h4:(decide (least≤n) && decide (n≤1000000000))=true):NumT s least n:=by
 simp only [Bool.and_eq_true,decide_eq_true_eq] at h1 h4
 exact ⟨h1,h2,h3,h4.1,h4.2⟩
theorem lineAt0:LineAt litS (wordL 0) 13 tokL0 (dD 0) (dD 1):=by
 intro p tv wz sv r A B hp ht hA hN hB
 refine (line_tender p tv tokL0 litS r sv 13 wz hp (by decide) chaiB rfl (by decide) (by kernel_rfl) rfl).mono ?_
 rintro e w' ⟨rfl,h1,h2⟩
 have ht':=ht.kx h2 hA
 exact ⟨rfl,_,_,h1,h2,{ ht' with nm_:=rfl }⟩
theorem lineAt1:LineAt litS (wordL 1) 28 tokL1 (dD 1) (dD 2):=by
 intro p tv wz sv r A B hp ht hA hN hB
 refine (line_lot p tv tokL1 litS r sv 28 wz hp (by decide) ⟨#[49]⟩ ⟨#[109,111,115,116]⟩ ⟨#[53,48,48]⟩ 1 500 rfl (numT ⟨#[49]⟩ 1 1 (by kernel_rfl) (by kernel_rfl) (by kernel_rfl) (by kernel_rfl)) rfl (by kernel_rfl) rfl (numT ⟨#[53,48,48]⟩ 0 500 (by kernel_rfl) (by kernel_rfl) (by kernel_rfl) (by kernel_rfl)) rfl (ht.l0 rfl)).mono ?_
 rintro e w' ⟨rfl,g,cap,hg,h1,h2,h3⟩
 have ht':=ht.kx h2 hA
 exact ⟨rfl,_,_,h1,h2,{ ht' with ls_:=row_base h3 hB,la:=fun b hb=>by injection hb with hb;rw [← hb];exact hN g hg,l0:=fun h=>by cases h }⟩
theorem lineAt2:LineAt litS (wordL 2) 57 tokL2 (dD 2) (dD 3):=by
 intro p tv wz sv r A B hp ht hA hN hB
 refine (line_criterion p tv tokL2 litS r sv 57 wz hp (by decide) comfB ⟨#[103,114,97,100,101]⟩ ⟨#[48]⟩ ⟨#[49,48]⟩ 0 10 rfl (by decide) (by kernel_rfl) rfl (by kernel_rfl) (by kernel_rfl) rfl (numT ⟨#[48]⟩ 0 0 (by kernel_rfl) (by kernel_rfl) (by kernel_rfl) (by kernel_rfl)) rfl (numT ⟨#[49,48]⟩ 0 10 (by kernel_rfl) (by kernel_rfl) (by kernel_rfl) (by kernel_rfl)) rfl (ht.c0 rfl)).mono ?_
 rintro e w' ⟨rfl,g,cap,hg,h1,h2,h3⟩
 have ht':=ht.kx h2 hA
 exact ⟨rfl,_,_,h1,h2,{ ht' with cs_:=row_base h3 hB,ca:=fun b hb=>by injection hb with hb;rw [← hb];exact hN g hg,c0:=fun h=>by cases h }⟩
theorem lineAt3:LineAt litS (wordL 3) 69 tokL3 (dD 3) (dD 4):=by
 intro p tv wz sv r A B hp ht hA hN hB
 refine (line_price p tv tokL3 litS r sv 69 wz hp (by decide) ⟨#[49]⟩ ⟨#[53,48,48]⟩ 1 500 rfl (numT ⟨#[49]⟩ 0 1 (by kernel_rfl) (by kernel_rfl) (by kernel_rfl) (by kernel_rfl)) rfl (numT ⟨#[53,48,48]⟩ 0 500 (by kernel_rfl) (by kernel_rfl) (by kernel_rfl) (by kernel_rfl)) rfl).mono ?_
 rintro e w' ⟨rfl,h1,h2⟩
 have ht':=ht.kx h2 hA
 exact ⟨rfl,_,_,h1,h2,{ ht' with low_:=rfl,high_:=rfl }⟩
theorem lineAt4:LineAt litS (wordL 4) 112 tokL4 (dD 4) (dD 5):=by
 intro p tv wz sv r A B hp ht hA hN hB
 refine (line_formula p tv tokL4 litS r sv 112 wz hp (by decide) 70 77 rfl rfl (by decide) fT rfl (fun wy=>read_any litS 77 112 (by rw [litS_size];decide) (by decide) (by rw [litS_size];decide) tokF tokF_eq fT 9 (by decide) (by kernel_rfl) (by decide +kernel) (by decide +kernel) formL (by decide) wy)).mono ?_
 rintro e w' ⟨rfl,op,n1,n2,nm,fa,fn,fc,h1,h2,h3⟩
 have ht':=ht.kx h3 hA
 exact ⟨rfl,_,_,h1,h3,{ ht' with fo:=Rd.frame (fun _ _ _ _=>rfl) (fun b hb=>hN b (Nat.le_of_lt hb)) _ _ h2 }⟩
theorem lineAt5:LineAt litS (wordL 5) 124 tokL5 (dD 5) (dD 6):=by
 intro p tv wz sv r A B hp ht hA hN hB
 refine (line_tie p tv tokL5 litS r sv 124 wz hp (by decide) comfB rfl (by decide) (by kernel_rfl) rfl (ht.s0 rfl)).mono ?_
 rintro e w' ⟨rfl,g,cap,hg,h1,h2,h3⟩
 have ht':=ht.kx h2 hA
 exact ⟨rfl,_,_,h1,h2,{ ht' with ts_:=row_base h3 hB,ta:=fun b hb=>by injection hb with hb;rw [← hb];exact hN g hg,s0:=fun h=>by cases h }⟩
theorem lineAt6:LineAt litS (wordL 6) 135 tokL6 (dD 6) (dD 7):=by
 intro p tv wz sv r A B hp ht hA hN hB
 refine (line_budget p tv tokL6 litS r sv 135 wz hp (by decide) ⟨#[53,48,48]⟩ 500 rfl (numT ⟨#[53,48,48]⟩ 0 500 (by kernel_rfl) (by kernel_rfl) (by kernel_rfl) (by kernel_rfl)) rfl).mono ?_
 rintro e w' ⟨rfl,h1,h2⟩
 have ht':=ht.kx h2 hA
 exact ⟨rfl,_,_,h1,h2,{ ht' with budget_:=rfl }⟩
theorem lineAt7:LineAt litS (wordL 7) 155 tokL7 (dD 7) (dD 8):=by
 intro p tv wz sv r A B hp ht hA hN hB
 refine (line_times p tv tokL7 litS r sv 155 wz hp (by decide) ⟨#[49,48]⟩ ⟨#[50,48]⟩ ⟨#[51,48]⟩ ⟨#[52,48]⟩ ⟨#[53]⟩ 10 20 30 40 5 rfl (numT ⟨#[49,48]⟩ 0 10 (by kernel_rfl) (by kernel_rfl) (by kernel_rfl) (by kernel_rfl)) rfl (numT ⟨#[50,48]⟩ 0 20 (by kernel_rfl) (by kernel_rfl) (by kernel_rfl) (by kernel_rfl)) rfl (numT ⟨#[51,48]⟩ 0 30 (by kernel_rfl) (by kernel_rfl) (by kernel_rfl) (by kernel_rfl)) rfl (numT ⟨#[52,48]⟩ 0 40 (by kernel_rfl) (by kernel_rfl) (by kernel_rfl) (by kernel_rfl)) rfl (numT ⟨#[53]⟩ 0 5 (by kernel_rfl) (by kernel_rfl) (by kernel_rfl) (by kernel_rfl)) rfl).mono ?_
 rintro e w' ⟨rfl,h1,h2⟩
 have ht':=ht.kx h2 hA
 exact ⟨rfl,_,_,h1,h2,{ ht' with t0_:=rfl,t1_:=rfl,t2_:=rfl,t3_:=rfl,t4_:=rfl }⟩
theorem next_nil {w0 w:World} {p k:Nat} {tv:Value} {l:List (ByteArray×Int)} {S:ByteArray} {r:TnR} {sv:Value} {sn:List ByteArray} {d:TD} (h:NX w0 w p tv l k S r sv sn d) (fr ed:Nat) (hS:S.size≤900000) (hfe:fr≤ed) (hed:ed≤S.size)
 (L:List (ByteArray×Int)) (hL:splL S fr ed=L) (hLl:L.length≤100000) (h0:0 < L.length) (word:ByteArray) (hw0:L[0].1=word) (hne:(word.toList == [])=true) :
 Calls Tryz.prog 91 #[.pointer (some ⟨p,0,none⟩),iV fr,iV ed] w fun e w'=>e=.returned (.tuple #[])∧∃ tv',NX w0 w' p tv' L 0 S r sv sn d:=by
 have HSP:=zH (fun wz=>split_any S fr ed hS hfe hed wz)
 rw [hL] at HSP
 have HLL:=zH hLl
 have HT:=zH (fun tv wz rest (hz:PX 166 wz p tv L 0 rest)=>text_any p tv L 0 wz hz.c.1 hz.c.2.1 hz.tok h0)
 rw [hw0] at HT
 have HN:=zH h
 have hpl:=zL h.px.at_
 have r0:w.cell? ⟨p,4,none⟩=some (.string S):=h.px.r 0
 obtain ⟨c0,c1,c2,c3⟩:=h.px.c
 clear h hL hLl h0 hw0
 go_in
 go_upto_region 1 with (go_at_call 139;(refine (HSP.out _).mono ?_);rintro e w1 ⟨g,cap,rfl,hx1,hr1⟩;have HX1:=zH hx1;have HR1:=zH hr1;have HN1:=zH (HN.out.ext hx1);clear hx1 hr1 c0 c1 c2 c3;obtain ⟨c0,c1,c2,c3⟩:=HN1.out.px.c;have f0:w1.frozen? ⟨p,0,none⟩=false:=put_frozen HN1.out.px.at_;have hpl1:=zL HN1.out.px.at_)
 have hgp:g≠p:=by
  have h1:=(HR1.out.lt g rfl).1
  omega
 have HN2:=zH (HN1.out.kx (HN1.out.px.newtok (SR.of_row (cs:=tokC) (fun _=>rfl) HR1.out (by have:=HLL.out;omega)) (fun b n c e=>by injection e with e;injection e with e;injection e with e;omega)) ((KX.of_ext (bn:=p) (Ext.refl w1)).set (j:=0) _))
 clear c0 c1 c2 c3 f0 hpl1 HR1 HN1 HX1
 generalize (Value.slice (some ⟨g,0,none⟩) L.length cap)=tv' at *
 generalize w1.setCell ⟨p,0,none⟩ tv' = w2 at *
 obtain ⟨c0,c1,c2,c3⟩:=HN2.out.px.c
 have f1:w2.frozen? ⟨p,1,none⟩=false:=put_frozen HN2.out.px.at_
 have hpl2:=zL HN2.out.px.at_
 go_upto_region 2 with (fail)
 have HN3:Hid (NX w0 (w2.setCell ⟨p,1,none⟩ (iV 0)) p tv' L 0 S r sv sn d):=zH (HN2.out.step 0)
 clear c0 c1 c2 c3 f1 hpl2 HN2
 generalize w2.setCell ⟨p,1,none⟩ (iV 0)=w3 at *
 have hpl3:=zL HN3.out.px.at_
 go_wp2_with (go_at_call 140;(refine (HT.out _ _ _ HN3.out.px).mono ?_);rintro e w4 ⟨rfl,hx4⟩;have HN:=zH (HN3.out.ext hx4);clear hx4)
 exact bodyPost_ret (v:=.tuple #[]) (by simp [results,Tryz.results91,go_sem]) rfl ⟨rfl,tv',HN.out⟩
def snL:Nat→List ByteArray
 | 0=>[]
 | 1=>[wordL 0]
 | 2=>[wordL 0,wordL 1]
 | 3=>[wordL 0,wordL 1,wordL 2]
 | 4=>[wordL 0,wordL 1,wordL 2,wordL 3]
 | 5=>[wordL 0,wordL 1,wordL 2,wordL 3,wordL 4]
 | 6=>[wordL 0,wordL 1,wordL 2,wordL 3,wordL 4,wordL 5]
 | 7=>[wordL 0,wordL 1,wordL 2,wordL 3,wordL 4,wordL 5,wordL 6]
 | _=>[wordL 0,wordL 1,wordL 2,wordL 3,wordL 4,wordL 5,wordL 6,wordL 7]
def NXe (w0 w:World) (p i:Nat):Prop:=∃ tv l k r sv,NX w0 w p tv l k litS r sv (snL i) (dD i)
theorem nextL0 {w0:World} {p:Nat} (wz:World) (hz:NXe w0 wz p 0):Calls Tryz.prog 91 #[.pointer (some ⟨p,0,none⟩),iV (0:Nat),iV (13:Nat)] wz fun e w'=>e=.returned (.tuple #[])∧NXe w0 w' p 1:=by
 obtain ⟨tv,l,k,r,sv,h⟩:=hz
 have h1:litS.size≤900000:=by rw [litS_size];decide
 have h2:13≤litS.size:=by rw [litS_size];decide
 have h3:amoS singles (wordL 0)=true:=by kernel_rfl
 have h4:amoS manys (wordL 0)=false:=by kernel_rfl
 have h5:amoS (snL 0) (wordL 0)=false:=by kernel_rfl
 have h6:((wordL 0).toList == [])=false:=by kernel_rfl
 refine (next_any h 0 13 h1 (by decide) h2 tokL0 tokL0_eq (by decide) (by decide) (wordL 0) rfl h6 true false h3 h4 rfl h5 (by decide) (by decide) (by decide) lineAt0).mono ?_
 rintro e w' ⟨rfl,tv',k',r',sv',hn⟩
 exact ⟨rfl,tv',_,k',r',sv',hn⟩
theorem nextL1 {w0:World} {p:Nat} (wz:World) (hz:NXe w0 wz p 1):Calls Tryz.prog 91 #[.pointer (some ⟨p,0,none⟩),iV (14:Nat),iV (28:Nat)] wz fun e w'=>e=.returned (.tuple #[])∧NXe w0 w' p 2:=by
 obtain ⟨tv,l,k,r,sv,h⟩:=hz
 have h1:litS.size≤900000:=by rw [litS_size];decide
 have h2:28≤litS.size:=by rw [litS_size];decide
 have h3:amoS singles (wordL 1)=false:=by kernel_rfl
 have h4:amoS manys (wordL 1)=true:=by kernel_rfl
 have h5:amoS (snL 1) (wordL 1)=false:=by kernel_rfl
 have h6:((wordL 1).toList == [])=false:=by kernel_rfl
 refine (next_any h 14 28 h1 (by decide) h2 tokL1 tokL1_eq (by decide) (by decide) (wordL 1) rfl h6 false true h3 h4 rfl h5 (by decide) (by decide) (by decide) lineAt1).mono ?_
 rintro e w' ⟨rfl,tv',k',r',sv',hn⟩
 exact ⟨rfl,tv',_,k',r',sv',hn⟩
theorem nextL2 {w0:World} {p:Nat} (wz:World) (hz:NXe w0 wz p 2):Calls Tryz.prog 91 #[.pointer (some ⟨p,0,none⟩),iV (29:Nat),iV (57:Nat)] wz fun e w'=>e=.returned (.tuple #[])∧NXe w0 w' p 3:=by
 obtain ⟨tv,l,k,r,sv,h⟩:=hz
 have h1:litS.size≤900000:=by rw [litS_size];decide
 have h2:57≤litS.size:=by rw [litS_size];decide
 have h3:amoS singles (wordL 2)=false:=by kernel_rfl
 have h4:amoS manys (wordL 2)=true:=by kernel_rfl
 have h5:amoS (snL 2) (wordL 2)=false:=by kernel_rfl
 have h6:((wordL 2).toList == [])=false:=by kernel_rfl
 refine (next_any h 29 57 h1 (by decide) h2 tokL2 tokL2_eq (by decide) (by decide) (wordL 2) rfl h6 false true h3 h4 rfl h5 (by decide) (by decide) (by decide) lineAt2).mono ?_
 rintro e w' ⟨rfl,tv',k',r',sv',hn⟩
 exact ⟨rfl,tv',_,k',r',sv',hn⟩
theorem nextL3 {w0:World} {p:Nat} (wz:World) (hz:NXe w0 wz p 3):Calls Tryz.prog 91 #[.pointer (some ⟨p,0,none⟩),iV (58:Nat),iV (69:Nat)] wz fun e w'=>e=.returned (.tuple #[])∧NXe w0 w' p 4:=by
 obtain ⟨tv,l,k,r,sv,h⟩:=hz
 have h1:litS.size≤900000:=by rw [litS_size];decide
 have h2:69≤litS.size:=by rw [litS_size];decide
 have h3:amoS singles (wordL 3)=true:=by kernel_rfl
 have h4:amoS manys (wordL 3)=false:=by kernel_rfl
 have h5:amoS (snL 3) (wordL 3)=false:=by kernel_rfl
 have h6:((wordL 3).toList == [])=false:=by kernel_rfl
 refine (next_any h 58 69 h1 (by decide) h2 tokL3 tokL3_eq (by decide) (by decide) (wordL 3) rfl h6 true false h3 h4 rfl h5 (by decide) (by decide) (by decide) lineAt3).mono ?_
 rintro e w' ⟨rfl,tv',k',r',sv',hn⟩
 exact ⟨rfl,tv',_,k',r',sv',hn⟩
theorem nextL4 {w0:World} {p:Nat} (wz:World) (hz:NXe w0 wz p 4):Calls Tryz.prog 91 #[.pointer (some ⟨p,0,none⟩),iV (70:Nat),iV (112:Nat)] wz fun e w'=>e=.returned (.tuple #[])∧NXe w0 w' p 5:=by
 obtain ⟨tv,l,k,r,sv,h⟩:=hz
 have h1:litS.size≤900000:=by rw [litS_size];decide
 have h2:112≤litS.size:=by rw [litS_size];decide
 have h3:amoS singles (wordL 4)=true:=by kernel_rfl
 have h4:amoS manys (wordL 4)=false:=by kernel_rfl
 have h5:amoS (snL 4) (wordL 4)=false:=by kernel_rfl
 have h6:((wordL 4).toList == [])=false:=by kernel_rfl
 refine (next_any h 70 112 h1 (by decide) h2 tokL4 tokL4_eq (by decide) (by decide) (wordL 4) rfl h6 true false h3 h4 rfl h5 (by decide) (by decide) (by decide) lineAt4).mono ?_
 rintro e w' ⟨rfl,tv',k',r',sv',hn⟩
 exact ⟨rfl,tv',_,k',r',sv',hn⟩
theorem nextL5 {w0:World} {p:Nat} (wz:World) (hz:NXe w0 wz p 5):Calls Tryz.prog 91 #[.pointer (some ⟨p,0,none⟩),iV (113:Nat),iV (124:Nat)] wz fun e w'=>e=.returned (.tuple #[])∧NXe w0 w' p 6:=by
 obtain ⟨tv,l,k,r,sv,h⟩:=hz
 have h1:litS.size≤900000:=by rw [litS_size];decide
 have h2:124≤litS.size:=by rw [litS_size];decide
 have h3:amoS singles (wordL 5)=true:=by kernel_rfl
 have h4:amoS manys (wordL 5)=false:=by kernel_rfl
 have h5:amoS (snL 5) (wordL 5)=false:=by kernel_rfl
 have h6:((wordL 5).toList == [])=false:=by kernel_rfl
 refine (next_any h 113 124 h1 (by decide) h2 tokL5 tokL5_eq (by decide) (by decide) (wordL 5) rfl h6 true false h3 h4 rfl h5 (by decide) (by decide) (by decide) lineAt5).mono ?_
 rintro e w' ⟨rfl,tv',k',r',sv',hn⟩
 exact ⟨rfl,tv',_,k',r',sv',hn⟩
theorem nextL6 {w0:World} {p:Nat} (wz:World) (hz:NXe w0 wz p 6):Calls Tryz.prog 91 #[.pointer (some ⟨p,0,none⟩),iV (125:Nat),iV (135:Nat)] wz fun e w'=>e=.returned (.tuple #[])∧NXe w0 w' p 7:=by
 obtain ⟨tv,l,k,r,sv,h⟩:=hz
 have h1:litS.size≤900000:=by rw [litS_size];decide
 have h2:135≤litS.size:=by rw [litS_size];decide
 have h3:amoS singles (wordL 6)=true:=by kernel_rfl
 have h4:amoS manys (wordL 6)=false:=by kernel_rfl
 have h5:amoS (snL 6) (wordL 6)=false:=by kernel_rfl
 have h6:((wordL 6).toList == [])=false:=by kernel_rfl
 refine (next_any h 125 135 h1 (by decide) h2 tokL6 tokL6_eq (by decide) (by decide) (wordL 6) rfl h6 true false h3 h4 rfl h5 (by decide) (by decide) (by decide) lineAt6).mono ?_
 rintro e w' ⟨rfl,tv',k',r',sv',hn⟩
 exact ⟨rfl,tv',_,k',r',sv',hn⟩
theorem nextL7 {w0:World} {p:Nat} (wz:World) (hz:NXe w0 wz p 7):Calls Tryz.prog 91 #[.pointer (some ⟨p,0,none⟩),iV (136:Nat),iV (155:Nat)] wz fun e w'=>e=.returned (.tuple #[])∧NXe w0 w' p 8:=by
 obtain ⟨tv,l,k,r,sv,h⟩:=hz
 have h1:litS.size≤900000:=by rw [litS_size];decide
 have h2:155≤litS.size:=by rw [litS_size];decide
 have h3:amoS singles (wordL 7)=true:=by kernel_rfl
 have h4:amoS manys (wordL 7)=false:=by kernel_rfl
 have h5:amoS (snL 7) (wordL 7)=false:=by kernel_rfl
 have h6:((wordL 7).toList == [])=false:=by kernel_rfl
 refine (next_any h 136 155 h1 (by decide) h2 tokL7 tokL7_eq (by decide) (by decide) (wordL 7) rfl h6 true false h3 h4 rfl h5 (by decide) (by decide) (by decide) lineAt7).mono ?_
 rintro e w' ⟨rfl,tv',k',r',sv',hn⟩
 exact ⟨rfl,tv',_,k',r',sv',hn⟩
theorem nextL8 {w0:World} {p:Nat} (wz:World) (hz:NXe w0 wz p 8):Calls Tryz.prog 91 #[.pointer (some ⟨p,0,none⟩),iV (156:Nat),iV (156:Nat)] wz fun e w'=>e=.returned (.tuple #[])∧NXe w0 w' p 9:=by
 obtain ⟨tv,l,k,r,sv,h⟩:=hz
 have h1:litS.size≤900000:=by rw [litS_size];decide
 have h2:156≤litS.size:=by rw [litS_size];decide
 refine (next_nil h 156 156 h1 (by decide) h2 _ tokL8_eq (by decide) (by decide) ⟨#[]⟩ rfl (by kernel_rfl)).mono ?_
 rintro e w' ⟨rfl,tv',hn⟩
 exact ⟨rfl,tv',_,_,r,sv,hn⟩
theorem nextL {w0:World} {p:Nat} (i:Nat) (hi:i < 9) (wz:World) (hz:NXe w0 wz p i):Calls Tryz.prog 91 #[.pointer (some ⟨p,0,none⟩),iV (frL i),iV (edL i)] wz fun e w'=>e=.returned (.tuple #[])∧NXe w0 w' p (i+1):=by
 have h:i=0∨i=1∨i=2∨i=3∨i=4∨i=5∨i=6∨i=7∨i=8:=by omega
 rcases h with rfl|rfl|rfl|rfl|rfl|rfl|rfl|rfl|rfl
 ·exact nextL0 wz hz
 ·exact nextL1 wz hz
 ·exact nextL2 wz hz
 ·exact nextL3 wz hz
 ·exact nextL4 wz hz
 ·exact nextL5 wz hz
 ·exact nextL6 wz hz
 ·exact nextL7 wz hz
 ·exact nextL8 wz hz
end Go.Proofs.YteomcpplajeidaaGreat
