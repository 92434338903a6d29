/-
  Lemmas of this claim (JwAR). Nothing is asked.
-/
import Derived.Test.YteomcpplajeidaaGreatJwAP
import Derived.Test.YteomcpplajeidaaGreatJwAQ
set_option linter.unusedVariables false
set_option linter.unusedSimpArgs false
set_option maxRecDepth 100000
set_option maxHeartbeats 40000000
namespace Go.Proofs.YteomcpplajeidaaGreat
open Go.RowKit
def rlF (k:Nat):ByteArray:=if k=0 then leB else geB
theorem rel_at (k:Nat) (h:(k:Int) < 2) (w:World) (p:Nat) (hb:w.heap[p]? = some (.cells #[.string leB,.string geB] 9)):w.cell? ⟨p,k,none⟩=some (.string (rlF k)):=by
 refine (cell_of_row w p k _ _ _ hb).trans ?_
 obtain rfl|rfl:k=0∨k=1:=by omega
 ·rfl
 ·rfl
theorem rlF_ok (k:Nat):rlF k=leB∨rlF k=geB:=by unfold rlF;split <;> simp
theorem good_any (v:Value) (ns:List Int) (W:World) (h:IRd W v ns) :
 Calls Tryz.prog 12 #[v] W fun e w'=>∃ (r:TnR) (T:TP) (kk:List Sl),e=.returned (.agg (tenC r))∧CT w' r T kk∧GdT T∧GdN r∧Ext W w':=by
 obtain ⟨A,c,hv,hl,hok,hcl⟩:=id h
 subst hv
 have HI:=zH h
 clear h hok hcl
 have hx0:Ext W (W.alloc (.cells (tenC zT) 39)):=Ext.alloc (Ext.refl _) _
 have hb0:=heap_alloc_new W (.cells (tenC zT) 39)
 obtain ⟨D0,hD0⟩:∃ D0,D0=W.heap.size:=⟨_,rfl⟩
 have HD0:=zH hD0
 go_in
 go_upto_region 1 with (fail)
 change Code.wp _ _ _ _ (W.alloc (.cells (tenC zT) 39))
 rw [← hD0]
 clear hD0
 generalize W.alloc (.cells (tenC zT) 39)=W0 at *
 have hn0:MX W (W0.alloc (.cells #[.slice A ns.length c,iV ((0:Nat):Int)] 85)) W0.heap.size (.slice A ns.length c) ns 0:=⟨hx0.trans (Ext.alloc (Ext.refl _) _),heap_alloc_new _ _,hx0.size,HI.out,Nat.zero_le _⟩
 have hz0:=((Ext.alloc (Ext.refl W0) (.cells #[.slice A ns.length c,iV ((0:Nat):Int)] 85)).block _ (zL hb0)).trans hb0
 rw [show ((0:Nat):Int)=0 from rfl] at hn0 hz0
 have HN0:=zH hn0;have HZ0:=zH hz0
 clear hx0 hb0 hn0 hz0
 go_upto_region 2 with (fail)
 obtain ⟨bn,hbn⟩:∃ bn,bn=W0.heap.size:=⟨_,rfl⟩
 rw [← hbn] at HN0 ⊢
 clear hbn
 generalize W0.alloc (.cells #[.slice A ns.length c,iV 0] 85)=w1 at *
 go_upto_region 3 with (first
  |(go_at_call 29;first
     |((with_reducible refine (nx_any HN0.out 3 (by decide)).mono ?_);rintro e w2 ⟨k1,pos1,rfl,hk1,hm,hkx⟩;have HM1:=zH hm;have HZ1:=zH (hkx.at HZ0.out (obj_ne HZ0.out HN0.out.at_ (by decide)));have hw1:IntKind.i64.wrap (1+(k1:Int))=1+(k1:Int):=(by rw [IntKind.wrap_i64];omega);clear hm hkx)
     |((with_reducible refine (nx_any HM1.out 200 (by decide)).mono ?_);rintro e w3 ⟨k2,pos2,rfl,hk2,hm,hkx⟩;have HM2:=zH hm;have HZ2:=zH (hkx.at HZ1.out (obj_ne HZ1.out HM1.out.at_ (by decide)));have hw2:IntKind.i64.wrap (20+(k2:Int))=20+(k2:Int):=(by rw [IntKind.wrap_i64];omega);clear hm hkx)
     |((with_reducible refine (nx_any HM2.out 3 (by decide)).mono ?_);rintro e w4 ⟨k3,pos3,rfl,hk3,hm,hkx⟩;have HM3:=zH hm;have HZ3:=zH (hkx.at HZ2.out (obj_ne HZ2.out HM2.out.at_ (by decide)));clear hm hkx))
  |(refine wpList_store_row (hgd:=rfl) 39 (.tmp 4) (.tmp 28) rfl w4.heap.size (by rfl) (tenC { zT with nm:=⟨#[116]⟩,low:=1+(k1:Int),budget:=20+(k2:Int),most:=(k3:Int) }) (by rfl) (tenC zT) 39 (heap_alloc_new w4 _) (by rfl) (by kernel_rfl) (by simp [Value.oneCell']) ?_))
 have HG0:=zH (GT.start (r:={ zT with nm:=⟨#[116]⟩,low:=1+(k1:Int),budget:=20+(k2:Int),most:=(k3:Int) }) HM3.out HZ3.out rfl rfl rfl rfl loPr)
 clear HN0 HZ0 HM1 HM2 HM3 HZ1 HZ2 HZ3 hw1 hw2
 change Code.wp _ _ _ _ ((w4.alloc (.cells (tenC zT) 39)).setRow w4.heap.size (tenC { zT with nm:=⟨#[116]⟩,low:=1+(k1:Int),budget:=20+(k2:Int),most:=(k3:Int) }))
 obtain ⟨D,hD⟩:∃ D,D=w4.heap.size:=⟨_,rfl⟩
 rw [← hD] at HG0 ⊢
 clear hD
 generalize (w4.alloc (.cells (tenC zT) 39)).setRow D (tenC { zT with nm:=⟨#[116]⟩,low:=1+(k1:Int),budget:=20+(k2:Int),most:=(k3:Int) })=w5 at *
 have hlo:0≤(k1:Int)∧(k1:Int)≤2:=by omega
 have lbn:bn < (w5).heap.size:=zL (HG0.out).mx.at_
 letI G:Rs.Gw:=gwM W bn (.slice A ns.length c) ns (w5).heap.size
 have hG:Rs.Gw.R w5 w5:=⟨KX.of_ext (Ext.refl _),⟨Nat.le_refl _,lbn⟩,⟨_,(HG0.out).mx⟩,⟨_,(HG0.out).mx⟩⟩
 have hwa:IntKind.i64.wrap (1+(k1:Int)+1)=1+(k1:Int)+1:=by rw [IntKind.wrap_i64];omega
 have HSS:Hid (∀ wz,KX bn w5 wz→wz.cell? ⟨D,4,none⟩=some (iV (1+(k1:Int)))∧D < wz.heap.size):=zH fun wz hz=>⟨cell_of_row wz D 4 _ _ _ (hz.at HG0.out.at_ HG0.out.dn),zL (hz.at HG0.out.at_ HG0.out.dn)⟩
 refine Rs.wp_region hG [(0,.y),(1,.y),(2,.y),(3,.y),(4,.z),(5,.y)] (fun _=>(.cells #[] 3,Rg.ptr)) (by kernel_rfl) (by kernel_rfl) ?_
 iterate 4
  (refine Rs.yd ?_
   apply Exists.intro
   refine ⟨fun wz hw hh=>?_,?_⟩
   ·have hss:=HSS.out wz hw.1
    go_simp
    (with_reducible exact zU)
   simp only [zp])
 (refine Rs.zd (fun v _=>∃ k:Nat,v=iV (k:Int)∧k < 5) (fun v w1 w2 h e=>h) (fun wz hw hh=>?_) (fun u4=>?_)
  ·go_simp
   apply Rs.upR_enter
   obtain ⟨p,hp⟩:=hw.2.2.2
   refine (nx_any hp 5 (by decide)).mono ?_
   rintro e wq ⟨k,p',rfl,hk,hn,hg⟩
   exact ⟨_,rfl,⟨hg,⟨Nat.le_trans hw.2.1.1 hw.1.size,hw.2.1.2⟩,⟨p,hp⟩,⟨p',hn⟩⟩,k,rfl,by omega⟩
  simp only [zp])
 (refine Rs.yd ⟨iV ((1+(k1:Int)+1)+iof u4),fun wz hw hh=>?_,?_⟩
  ·obtain ⟨kz,hkz,hkl⟩:=hh _ zM
   subst hkz
   have hwr:IntKind.i64.wrap ((1+(k1:Int)+1)+(kz:Int))=(1+(k1:Int)+1)+(kz:Int):=by rw [IntKind.wrap_i64];omega
   go_simp
   exact zU
  simp only [zp])
 refine Rs.wr_nil ?_
 intro wy hy hh
 obtain ⟨k4,hk4,hk4l⟩:=hh _ zM
 subst hk4
 simp only [gg,gh,gi,gj,Nat.reduceAdd]
 rw [show iof (iV (k4:Int))=(k4:Int) from rfl]
 clear hh
 obtain ⟨pos4,hm4⟩:=hy.2.2.2
 have HG4:=zH (HG0.out.kx hm4 hy.1)
 clear hm4 hy HSS lbn hG G HG0
 obtain ⟨hcc,hff,lD⟩:=zC HG4.out.at_
 have c5:=zk hcc 5
 have f5:=hff 5
 clear hcc hff
 have HS5:Hid (∃ r,GS W D bn (.slice A ns.length c) ns (wy.setCell ⟨D,5,none⟩ (iV (1+(k1:Int)+1+(k4:Int)))) pos4 0 0 0 0 r ⟨[],[],[],[],loPr⟩):=zH ⟨{ zT with nm:=⟨#[116]⟩,low:=1+(k1:Int),budget:=20+(k2:Int),most:=(k3:Int),high:=1+(k1:Int)+1+(k4:Int) },HG4.out.set 5 _ rfl rfl rfl rfl rfl,GdL.nil _,⟨rfl,by simp only;omega,by simp only;omega,by simp only;omega,by simp only;omega,(show (0:Int)≤0∧(0:Int)≤100 by decide),(show (0:Int)≤0∧(0:Int)≤100 by decide),(show (0:Int)≤0∧(0:Int)≤100 by decide),(show (0:Int)≤0∧(0:Int)≤100 by decide),(show (0:Int)≤0∧(0:Int)≤100 by decide)⟩,rfl,fun _=>rfl⟩
 clear HG4 hwa hlo
 go_upto_region 4 with (fail)
 generalize wy.setCell ⟨D,5,none⟩ (iV (1+(k1:Int)+1+(k4:Int)))=w6 at *
 obtain ⟨r6,hs6⟩:=HS5.out
 have HS6:=zH hs6
 clear hs6 HS5 c5 f5 lD hk1 hk2 hk3 hk4l
 go_upto_region 5 with (go_at_call 29;(refine (nx_any HS6.out.g.mx 3 (by decide)).mono ?_);rintro e w7 ⟨k5,pos5,rfl,hk5,hm,hkx⟩;have HS7:=zH (HS6.out.kx hm hkx);have hw5:IntKind.i64.wrap (1+(k5:Int))=1+(k5:Int):=(by rw [IntKind.wrap_i64];omega);clear hm hkx HS6)
 obtain ⟨n5,hn5⟩:∃ n:Nat,1+(k5:Int)=(n:Int):=⟨k5+1,by omega⟩
 have HN5:Hid (1≤n5∧n5≤3):=zH (by omega)
 rw [hn5]
 clear hn5 hw5 hk5
 go_upto_block 0 with (fail)
 go_cut [6] (fun s6 wx=>∃ (pos:Nat) (r:TnR) (T:TP),Hid (GS W D bn (.slice A ns.length c) ns wx pos n5 0 0 0 r T))
 case first=>as_aux_lemma=>
  go_wp2_with (fail)
  go_loopw [6] (fun iv wr=>∃ (i pos:Nat) (r:TnR) (T:TP),iv=iV i∧i≤n5∧Hid (GS W D bn (.slice A ns.length c) ns wr pos i 0 0 0 r T)) (fun iv _=>n5 - (iof iv).toNat)
  case atStart=>exact ⟨0,pos5,r6,_,rfl,by omega,HS7⟩
  case round=>
   obtain ⟨i,pos,r,T,rfl,hi,HS⟩:=hrel
   clear HS7
   by_cases hlt:i < n5
   ·skip
    obtain ⟨lo,hlo⟩:∃ x,x=r.low:=⟨_,rfl⟩
    have HLO:1≤lo∧lo≤3:=by rw [hlo];exact HS.out.n.low
    obtain ⟨⟨la,ln,lc⟩,hrl⟩:∃ x:Sl,x=r.ls:=⟨_,rfl⟩
    obtain rfl:ln=T.ls.length:=row_len (by have:=HS.out.g.ls_;rw [← hrl] at this;exact this)
    have HLS:Hid (slV r.ls=.slice la T.ls.length lc):=zH (by rw [← hrl])
    have hll:=HS.out.l.ll
    have hn3:=HN5.out.2
    have HTL:Hid (T.ls.length=i):=zH hll
    have htl:T.ls.length≤3:=by omega
    clear hll
    go_upto_region 8 with (fail)
    have HSS:Hid (∀ wz,KX bn wr wz→wz.cell? ⟨D,4,none⟩=some (iV lo)∧wz.cell? ⟨D,1,none⟩=some (.slice la T.ls.length lc)∧D < wz.heap.size):=zH fun wz hz=>⟨by rw [hlo];exact cell_of_row wz D 4 _ _ _ (hz.at HS.out.g.at_ HS.out.g.dn),(cell_of_row wz D 1 _ _ _ (hz.at HS.out.g.at_ HS.out.g.dn)).trans (congrArg some HLS.out),zL (hz.at HS.out.g.at_ HS.out.g.dn)⟩
    clear hlo hrl
    have hwi:IntKind.i64.wrap (1+(i:Int))=1+(i:Int):=by rw [IntKind.wrap_i64];omega
    have lbn:bn < (wr).heap.size:=zL (HS.out.g).mx.at_
    letI G:Rs.Gw:=gwM W bn (.slice A ns.length c) ns (wr).heap.size
    have hG:Rs.Gw.R wr wr:=⟨KX.of_ext (Ext.refl _),⟨Nat.le_refl _,lbn⟩,⟨_,(HS.out.g).mx⟩,⟨_,(HS.out.g).mx⟩⟩
    refine Rq.wp_regionTE hG [] [(0,.y),(1,.y),(2,.y),(3,.y),(4,.y),(5,.y),(6,.y),(7,.z),(8,.y),(9,.y),(10,.z)] [11,12,13] (fun _=>(.cells #[] 3,Rg.ptr)) (fun c a d v w h=>by have h':_∧_:=h;exact ⟨(Rr.put_defers a d v).symm.trans h'.1,h'.2⟩) (by kernel_rfl) (by kernel_rfl) ?_
    iterate 7
     (refine Rs.yd ?_
      apply Exists.intro
      refine ⟨fun wz hw hh=>?_,?_⟩
      ·have hss:=HSS.out wz hw.1
       go_simp
       (with_reducible exact zU)
      simp only [zp])
    (refine Rs.zd (fun v _=>∃ k:Nat,v=iV (k:Int)∧k < 8) (fun v w1 w2 h e=>h) (fun wz hw hh=>?_) (fun u7=>?_)
     ·go_simp
      apply Rs.upR_enter
      obtain ⟨p,hp⟩:=hw.2.2.2
      refine (nx_any hp 8 (by decide)).mono ?_
      rintro e wq ⟨k,p',rfl,hk,hn,hg⟩
      exact ⟨_,rfl,⟨hg,⟨Nat.le_trans hw.2.1.1 hw.1.size,hw.2.1.2⟩,⟨p,hp⟩,⟨p',hn⟩⟩,k,rfl,by omega⟩
     simp only [zp])
    (refine Rs.yd ⟨iV (lo+iof u7),fun wz hw hh=>?_,?_⟩
     ·obtain ⟨kz,hkz,hkl⟩:=hh _ zM
      subst hkz
      have hwr:IntKind.i64.wrap (lo+(kz:Int))=lo+(kz:Int):=by rw [IntKind.wrap_i64];omega
      go_simp
      exact zU
     simp only [zp])
    (refine Rs.yd ⟨.agg #[iV (1+(i:Int)),iV (lo+iof u7)],fun wz hw hh=>?_,?_⟩
     ·go_simp
      exact zU
     simp only [zp])
    (refine Rs.zd (fun v w=>∃ p,v=.slice (some ⟨p,0,none⟩) 1 1∧wr.heap.size≤p∧w.heap[p]? = some (.cells #[iV (1+(i:Int)),iV (lo+iof u7)] 72)) (fun v w1 w2 ⟨p,h1,h2,h3⟩ e=>⟨p,h1,h2,(Rs.Gw.block e p h2 (zL h3)).trans h3⟩) (fun wz hw hh=>?_) (fun u10=>?_)
     ·go_simp
      exact Rs.upR_value (Rs.Gw.alloc (Rs.Gw.refl hw) _) ⟨_,rfl,hw.1.size,heap_alloc_new wz _⟩
     simp only [zp])
    refine Rs.wr_nil ?_
    intro wy hy hh
    obtain ⟨pe,hpe,-,hpb⟩:=hh _ zM
    obtain ⟨k7,hk7,hk7l⟩:=hh _ (zN _ zM)
    subst hpe hk7
    clear hh
    simp only [List.filterMap_cons,List.filterMap_nil,List.getElem?_cons_succ,List.getElem?_cons_zero]
    obtain ⟨pos2,hm2⟩:=hy.2.2.2
    have HSY:=zH (HS.out.kx hm2 hy.1)
    rw [show iof (iV (k7:Int))=(k7:Int) from rfl] at *
    have hel:T.ls.length < 1000000:=by omega
    have hsz:W.heap.size≤wy.heap.size:=HSY.out.g.mx.low.size
    clear hy hm2 HS HSS hG G lbn
    refine append_gw (cs:=cellsLot) (z:=.agg #[iV 0,iV 0]) one_lot 26 72 16 Tryz.underlying26 info83 (by rfl) (by decide) (by decide) rfl (.tmp 45) (.tmp 54) rfl W.heap.size (.slice la T.ls.length lc) T.ls (by rfl) (HLS.out ▸ HSY.out.g.ls_) pe (1+(i:Int),lo+(k7:Int)) (by rfl) hpb hel hsz ?_
    intro g7 cap7 w7 hr7 hg7 hat7
    rw [← HLS.out] at hg7
    have hat:=row_stays HSY.out.g.ls_ hg7 HSY.out.g.at_ (by decide)
    obtain ⟨hcc,hff,lD⟩:=zC hat
    have c1:w7.cell? ⟨D,1,none⟩=some (.slice la T.ls.length lc):=(hcc 1).trans (congrArg some HLS.out)
    have f1:=hff 1
    have HSN:=zH (HSY.out.pushL (x:=(some ⟨g7,0,none⟩,T.ls.length+1,cap7)) (q:=(1+(i:Int),lo+(k7:Int))) hg7 hr7 (by simp only;omega) (by simp only;omega))
    clear hr7 hg7 hat7 hat hcc hff hpb
    simp only [Act.put,gd,ge,gf]
    go_wp2_with (fail)
    exact ⟨⟨i+1,pos2,_,_,by simp,by omega,HSN⟩,by simp [iof];omega⟩
   ·obtain rfl:i=n5:=by omega
    go_wp2
    go_meet
    case rel=>exact ⟨pos,r,T,HS⟩
 case rest=>
  obtain ⟨pos,r,T,HS⟩:=hcut
  clear HS7
  rename World=>wc
  have hn:=heap_alloc_new wc (.cells nmC 9)
  have HSA:=zH (HS.out.ext (Ext.alloc (Ext.refl wc) (.cells nmC 9)))
  clear HS
  go_upto_region 10 with (fail)
  change Code.wp _ _ _ _ (wc.alloc (.cells nmC 9))
  obtain ⟨pn,hpn⟩:∃ pn,pn=wc.heap.size:=⟨_,rfl⟩
  rw [← hpn] at hn ⊢
  have HNB:=zH hn
  clear hn hpn
  generalize wc.alloc (.cells nmC 9)=wb at *
  go_upto_region 11 with (go_at_call 29;(refine (nx_any HSA.out.g.mx 4 (by decide)).mono ?_);rintro e w11 ⟨nc,pos11,rfl,hnc,hm,hkx⟩;have HS11:=zH (HSA.out.kx hm hkx);have HNC:=zH (hkx.at HNB.out (obj_ne HNB.out HSA.out.g.mx.at_ (by decide)));clear hm hkx HSA HNB)
  go_upto_block 2 with (fail)
  go_cut [9,10] (fun s9 s10 wx=>∃ (pos:Nat) (r:TnR) (T:TP),Hid (GS W D bn (.slice A ns.length c) ns wx pos n5 nc 0 0 r T)∧Hid (wx.heap[pn]? = some (.cells nmC 9)))
  case first=>as_aux_lemma=>
   go_wp2_with (fail)
   go_loopw [9,10] (fun iv lv wr=>∃ (i pos:Nat) (r:TnR) (T:TP),iv=iV i∧i≤nc∧Hid (GS W D bn (.slice A ns.length c) ns wr pos n5 i 0 0 r T)∧Hid (wr.heap[pn]? = some (.cells nmC 9))) (fun iv _ _=>nc - (iof iv).toNat)
   case atStart=>exact ⟨0,pos11,r,T,rfl,by omega,HS11,HNC⟩
   case round=>
    rename World=>wr
    obtain ⟨i,pos,r,T,rfl,hi,HS,HNR⟩:=hrel
    clear HS11 HNC
    by_cases hlt:i < nc
    ·go_upto_region 15 with (go_at_call 29;(refine (nx_any HS.out.g.mx 2 (by decide)).mono ?_);rintro e w14 ⟨k14,pos14,rfl,hk14,hm,hkx⟩;have HS14:=zH (HS.out.kx hm hkx);have HN14:=zH (hkx.at HNR.out (obj_ne HNR.out HS.out.g.mx.at_ (by decide)));clear hm hkx HS HNR)
     obtain ⟨⟨ca,cn,cc⟩,hrl⟩:∃ x:Sl,x=r.cs:=⟨_,rfl⟩
     obtain rfl:cn=T.cs.length:=row_len (by have:=HS14.out.g.cs_;rw [← hrl] at this;exact this)
     have HLS:Hid (slV r.cs=.slice ca T.cs.length cc):=zH (by rw [← hrl])
     have HTL:Hid (T.cs.length=i):=zH HS14.out.l.cl
     have htl:T.cs.length≤3:=by have:=HTL.out;omega
     have HSS:Hid (∀ wz,KX bn w14 wz→wz.cell? ⟨D,2,none⟩=some (.slice ca T.cs.length cc)∧wz.cell? ⟨pn,i,none⟩=some (.string (nmF i))∧D < wz.heap.size∧pn < wz.heap.size):=zH fun wz hz=>by
      have h1:=hz.at HS14.out.g.at_ HS14.out.g.dn
      have h2:=hz.at HN14.out (obj_ne HN14.out HS14.out.g.mx.at_ (by decide))
      refine ⟨(cell_of_row wz D 2 _ _ _ h1).trans (congrArg some HLS.out),(cell_of_row wz pn i _ _ _ h2).trans ?_,zL h1,zL h2⟩
      obtain rfl|rfl|rfl:i=0∨i=1∨i=2:=by omega
      ·rfl
      ·rfl
      ·rfl
     clear hrl
     have hi3:(i:Int) < 3:=by omega
     have lbn:bn < (w14).heap.size:=zL (HS14.out.g).mx.at_
     letI G:Rs.Gw:=gwM W bn (.slice A ns.length c) ns (w14).heap.size
     have hG:Rs.Gw.R w14 w14:=⟨KX.of_ext (Ext.refl _),⟨Nat.le_refl _,lbn⟩,⟨_,(HS14.out.g).mx⟩,⟨_,(HS14.out.g).mx⟩⟩
     refine Rq.wp_regionTE hG [] [(0,.y),(1,.y),(2,.y),(3,.y),(4,.y),(5,.y),(6,.y),(9,.y),(10,.y),(11,.y),(14,.y),(7,.z),(8,.y),(12,.z),(13,.y),(15,.z),(16,.y),(17,.y),(18,.z)] [19,20,21] (fun _=>(.cells #[] 3,Rg.ptr)) (fun c a d v w h=>by have h':_∧_:=h;exact ⟨(Rr.put_defers a d v).symm.trans h'.1,h'.2⟩) (by kernel_rfl) (by kernel_rfl) ?_
     iterate 11
      (refine Rs.yd ?_
       apply Exists.intro
       refine ⟨fun wz hw hh=>?_,?_⟩
       ·have hss:=HSS.out wz hw.1
        go_simp
        (with_reducible exact zU)
       simp only [zp])
     (refine Rs.zd (fun v _=>∃ k:Nat,v=iV (k:Int)∧k < 2) (fun v w1 w2 h e=>h) (fun wz hw hh=>?_) (fun u7=>?_)
      ·go_simp
       apply Rs.upR_enter
       obtain ⟨p,hp⟩:=hw.2.2.2
       refine (nx_any hp 2 (by decide)).mono ?_
       rintro e wq ⟨k,p',rfl,hk,hn,hg⟩
       exact ⟨_,rfl,⟨hg,⟨Nat.le_trans hw.2.1.1 hw.1.size,hw.2.1.2⟩,⟨p,hp⟩,⟨p',hn⟩⟩,k,rfl,by omega⟩
      simp only [zp])
     (refine Rs.yd ⟨iV (1+iof u7),fun wz hw hh=>?_,?_⟩
      ·obtain ⟨kz,hkz,hkl⟩:=hh _ zM
       subst hkz
       have hwr:IntKind.i64.wrap (1+(kz:Int))=1+(kz:Int):=by rw [IntKind.wrap_i64];omega
       go_simp
       exact zU
      simp only [zp])
     (refine Rs.zd (fun v _=>∃ k:Nat,v=iV (k:Int)∧k < 4) (fun v w1 w2 h e=>h) (fun wz hw hh=>?_) (fun u12=>?_)
      ·go_simp
       apply Rs.upR_enter
       obtain ⟨p,hp⟩:=hw.2.2.2
       refine (nx_any hp 4 (by decide)).mono ?_
       rintro e wq ⟨k,p',rfl,hk,hn,hg⟩
       exact ⟨_,rfl,⟨hg,⟨Nat.le_trans hw.2.1.1 hw.1.size,hw.2.1.2⟩,⟨p,hp⟩,⟨p',hn⟩⟩,k,rfl,by omega⟩
      simp only [zp])
     (refine Rs.yd ⟨iV ((k14:Int)+iof u12),fun wz hw hh=>?_,?_⟩
      ·obtain ⟨kz,hkz,hkl⟩:=hh _ zM
       subst hkz
       have hwr:IntKind.i64.wrap ((k14:Int)+(kz:Int))=(k14:Int)+(kz:Int):=by rw [IntKind.wrap_i64];omega
       go_simp
       exact zU
      simp only [zp])
     (refine Rs.zd (fun v _=>∃ k:Nat,v=iV (k:Int)∧k < 3) (fun v w1 w2 h e=>h) (fun wz hw hh=>?_) (fun u15=>?_)
      ·go_simp
       apply Rs.upR_enter
       obtain ⟨p,hp⟩:=hw.2.2.2
       refine (nx_any hp 3 (by decide)).mono ?_
       rintro e wq ⟨k,p',rfl,hk,hn,hg⟩
       exact ⟨_,rfl,⟨hg,⟨Nat.le_trans hw.2.1.1 hw.1.size,hw.2.1.2⟩,⟨p,hp⟩,⟨p',hn⟩⟩,k,rfl,by omega⟩
      simp only [zp])
     (refine Rs.yd ⟨.bool (iof u15 == 0),fun wz hw hh=>?_,?_⟩
      ·obtain ⟨kz,hkz,hkl⟩:=hh _ zM
       subst hkz
       go_simp
       exact zU
      simp only [zp])
     (refine Rs.yd ⟨.agg #[.string (nmF i),iV (1+iof u7),iV (k14:Int),iV ((k14:Int)+iof u12),.bool (iof u15 == 0)],fun wz hw hh=>?_,?_⟩
      ·go_simp
       exact zU
      simp only [zp])
     (refine Rs.zd (fun v w=>∃ p,v=.slice (some ⟨p,0,none⟩) 1 1∧w14.heap.size≤p∧w.heap[p]? = some (.cells #[.string (nmF i),iV (1+iof u7),iV (k14:Int),iV ((k14:Int)+iof u12),.bool (iof u15 == 0)] 78)) (fun v w1 w2 ⟨p,h1,h2,h3⟩ e=>⟨p,h1,h2,(Rs.Gw.block e p h2 (zL h3)).trans h3⟩) (fun wz hw hh=>?_) (fun u18=>?_)
      ·go_simp
       exact Rs.upR_value (Rs.Gw.alloc (Rs.Gw.refl hw) _) ⟨_,rfl,hw.1.size,heap_alloc_new wz _⟩
      simp only [zp])
     refine Rs.wr_nil ?_
     intro wy hy hh
     obtain ⟨pe,hpe,-,hpb⟩:=hh _ zM
     obtain ⟨k15,hk15,hk15l⟩:=hh _ (zN _ zM)
     obtain ⟨k12,hk12,hk12l⟩:=hh _ (zN _ (zN _ zM))
     obtain ⟨k7,hk7,hk7l⟩:=hh _ (zN _ (zN _ (zN _ zM)))
     subst hpe hk15 hk12 hk7
     clear hh
     simp only [List.filterMap_cons,List.filterMap_nil,List.getElem?_cons_succ,List.getElem?_cons_zero]
     obtain ⟨pos2,hm2⟩:=hy.2.2.2
     have HSY:=zH (HS14.out.kx hm2 hy.1)
     have HNY:=zH (KX.at hy.1 HN14.out (obj_ne HN14.out HS14.out.g.mx.at_ (by decide)))
     rw [show iof (iV (k7:Int))=(k7:Int) from rfl,show iof (iV (k12:Int))=(k12:Int) from rfl,show iof (iV (k15:Int))=(k15:Int) from rfl] at *
     have hel:T.cs.length < 1000000:=by omega
     have hsz:W.heap.size≤wy.heap.size:=HSY.out.g.mx.low.size
     clear hy hm2 HS14 HN14 HSS hG G lbn
     have HCM:Hid (CrM ⟨nmF i,1+(k7:Int),(k14:Int),(k14:Int)+(k12:Int),(k15:Int) == 0⟩):=zH ⟨by simp only;omega,by simp only;omega,by simp only;omega⟩
     refine append_gw (cs:=cellsCr) (z:=.agg #[.string ⟨#[]⟩,iV 0,iV 0,iV 0,.bool false]) one_cr 27 78 48 Tryz.underlying27 info85 (by rfl) (by decide) (by decide) rfl (.tmp 68) (.tmp 85) rfl W.heap.size (.slice ca T.cs.length cc) T.cs (by rfl) (HLS.out ▸ HSY.out.g.cs_) pe ⟨nmF i,1+(k7:Int),(k14:Int),(k14:Int)+(k12:Int),(k15:Int) == 0⟩ (by rfl) hpb hel hsz ?_
     intro g7 cap7 w7 hr7 hg7 hat7
     rw [← HLS.out] at hg7
     have hat:=row_stays HSY.out.g.cs_ hg7 HSY.out.g.at_ (by decide)
     have hnt:=row_stays HSY.out.g.cs_ hg7 HNY.out (by decide)
     obtain ⟨hcc,hff,lD⟩:=zC hat
     have c1:w7.cell? ⟨D,2,none⟩=some (.slice ca T.cs.length cc):=(hcc 2).trans (congrArg some HLS.out)
     have f1:=hff 2
     have HSN:=zH (HSY.out.pushC (x:=(some ⟨g7,0,none⟩,T.cs.length+1,cap7)) hg7 hr7 rfl HCM.out)
     have HNN:=zH ((heap_setCell_other w7 ⟨D,2,none⟩ pn (.slice (some ⟨g7,0,none⟩) (T.cs.length+1) cap7) (obj_ne hnt hat (by decide))).trans hnt)
     clear hr7 hg7 hat7 hat hcc hff hpb hnt
     simp only [Act.put,gd,ge,gf]
     go_wp2_with (fail)
     exact ⟨⟨i+1,pos2,_,_,by simp,by omega,HSN,HNN⟩,by simp [iof];omega⟩
    ·obtain rfl:i=nc:=by omega
     go_wp2
     go_meet
     case rel=>exact ⟨pos,r,T,HS,HNR⟩
  case rest=>
   obtain ⟨pos,r,T,HS,HNR⟩:=hcut
   clear HS11 HNC
   rename World=>wc
   go_upto_block 4 with (fail)
   go_cut [11] (fun s11 wx=>∃ (pos:Nat) (r:TnR) (T:TP),Hid (GS W D bn (.slice A ns.length c) ns wx pos n5 nc nc 0 r T)∧Hid (wx.heap[pn]? = some (.cells nmC 9)))
   case first=>as_aux_lemma=>
    go_wp2_with (fail)
    go_loopw [11] (fun iv wr=>∃ (i pos:Nat) (r:TnR) (T:TP),iv=iV i∧i≤nc∧Hid (GS W D bn (.slice A ns.length c) ns wr pos n5 nc i 0 r T)∧Hid (wr.heap[pn]? = some (.cells nmC 9))) (fun iv _=>nc - (iof iv).toNat)
    case atStart=>exact ⟨0,pos,r,T,rfl,by omega,HS,HNR⟩
    case round=>
     clear HS HNR
     rename World=>wr
     obtain ⟨i,pos,r,T,rfl,hi,HS,HNR⟩:=hrel
     by_cases hlt:i < nc
     ·obtain ⟨⟨ca,cn,cc⟩,hrl⟩:∃ x:Sl,x=r.cs:=⟨_,rfl⟩
      obtain rfl:cn=T.cs.length:=row_len (by have:=HS.out.g.cs_;rw [← hrl] at this;exact this)
      have HLC:Hid (slV r.cs=.slice ca T.cs.length cc):=zH (by rw [← hrl])
      have hcl:=HS.out.l.cl
      have HTL:Hid (T.cs.length=nc):=zH hcl
      have hit:(i:Int) < (T.cs.length:Int):=by omega
      have htc:(T.cs.length:Int)≤3:=by omega
      clear hcl hrl
      obtain ⟨cb,hcb,hcz⟩:=SR.at (base:=ca) (n:=T.cs.length) (c:=cc) (HLC.out ▸ SR.of_row (cs:=cellsCr) (fun x=>(one_cr x).1) HS.out.g.cs_ (by omega)) (Ext.refl wr) i (by omega)
      subst hcb
      have e1:wr.cell? ⟨cb,i * 5+1,none⟩=some (iV T.cs[i].kind):=hcz 1 _ rfl
      have HNM:=zH (HS.out.l.cs i (by omega)).1
      have HME:Hid (∃ c∈T.cs,nmF i=c.name):=zH ⟨T.cs[i],List.getElem_mem (by omega),HNM.out.symm⟩
      clear hcz HNM
      generalize T.cs[i].kind=kd at *
      have hcbl:=zB wr _ e1
      obtain ⟨hcc,-,lD⟩:=zC HS.out.g.at_
      have c2:wr.cell? ⟨D,2,none⟩=some (.slice (some ⟨cb,0,none⟩) T.cs.length cc):=(hcc 2).trans (congrArg some HLC.out)
      clear hcc
      by_cases hkd:kd=2
      ·subst hkd
       go_upto_if 104 with (go_at_call 29;(refine (nx_any HS.out.g.mx 3 (by decide)).mono ?_);rintro e w19 ⟨k19,pos19,rfl,hk19,hm,hkx⟩;have HS19:=zH (HS.out.kx hm hkx);have HN19:=zH (hkx.at HNR.out (obj_ne HNR.out HS.out.g.mx.at_ (by decide)));clear hm hkx)
       clear HS HNR e1 c2 lD hcbl
       by_cases hk0:(k19:Int)=0
       ·have hkb:((k19:Int) == 0)=true:=by simpa using hk0
        obtain ⟨⟨ra,rn,rc⟩,hrl⟩:∃ x:Sl,x=r.rs:=⟨_,rfl⟩
        obtain rfl:rn=T.rs.length:=row_len (by have:=HS19.out.g.rs_;rw [← hrl] at this;exact this)
        have HLS:Hid (slV r.rs=.slice ra T.rs.length rc):=zH (by rw [← hrl])
        have htl:T.rs.length≤3:=by have:=HS19.out.l.rl;omega
        have HSS:Hid (∀ wz:World,(wz.heap[D]? = some (.cells (tenC r) 39)∧wz.heap[pn]? = some (.cells nmC 9)∧∃ pos,MX W wz bn (.slice A ns.length c) ns pos)→wz.cell? ⟨D,3,none⟩=some (.slice ra T.rs.length rc)∧wz.cell? ⟨pn,i,none⟩=some (.string (nmF i))∧D < wz.heap.size∧pn < wz.heap.size):=zH fun wz ⟨h1,h2,_⟩=>by
         refine ⟨(cell_of_row wz D 3 _ _ _ h1).trans (congrArg some HLS.out),(cell_of_row wz pn i _ _ _ h2).trans ?_,zL h1,zL h2⟩
         obtain rfl|rfl|rfl:i=0∨i=1∨i=2:=by omega
         ·rfl
         ·rfl
         ·rfl
        have hi3:(i:Int) < 3:=by omega
        clear hrl hit htc
        go_upto_region 20 with (fail)
        clear hkb hk0
        have HSd:=zH (HS19.out.ext (Ext.drew (Ext.refl w19)))
        have HNd:Hid (w19.drew.heap[pn]? = some (.cells nmC 9)):=zH HN19.out
        refine wpTill.start 17 (fun w'=>w'.heap[D]? = some (.cells (tenC r) 39)∧w'.heap[pn]? = some (.cells nmC 9)∧∃ pos,MX W w' bn (.slice A ns.length c) ns pos) (by kernel_rfl) ⟨HSd.out.g.at_,HNd.out,_,HSd.out.g.mx⟩ (fun hHeld=>?_)
        clear HS19 HN19
        generalize w19.drew=wd at *
        refine wpTill.take (i:=0) (oi:=_) (v:=.pointer (some ⟨D,3,none⟩)) rfl (by kernel_rfl) (fun c a w h=>by have h':_∧_:=h;exact ⟨(Rr.put_defers a _ _).symm.trans h'.1,h'.2⟩) (Or.inl ⟨by rfl,fun wz hz=>by
         have hss:=HSS.out wz hz
         go_simp⟩) hHeld ?_
        simp only [Act.put,gd,ge,gf]
        refine wpTill.take (i:=1) (oi:=_) (v:=.slice ra T.rs.length rc) rfl (by kernel_rfl) (fun c a w h=>by have h':_∧_:=h;exact ⟨(Rr.put_defers a _ _).symm.trans h'.1,h'.2⟩) (Or.inl ⟨by rfl,fun wz hz=>by
         have hss:=HSS.out wz hz
         go_simp⟩) hHeld ?_
        simp only [Act.put,gd,ge,gf]
        refine wpTill.take (i:=2) (oi:=_) (v:=.slice (some ⟨pn,0,none⟩) 3 3) rfl (by kernel_rfl) (fun c a w h=>by have h':_∧_:=h;exact ⟨(Rr.put_defers a _ _).symm.trans h'.1,h'.2⟩) (Or.inl ⟨by rfl,fun wz hz=>by
         have hss:=HSS.out wz hz
         go_simp⟩) hHeld ?_
        simp only [Act.put,gd,ge,gf]
        refine wpTill.take (i:=3) (oi:=_) (v:=iV (i:Int)) rfl (by kernel_rfl) (fun c a w h=>by have h':_∧_:=h;exact ⟨(Rr.put_defers a _ _).symm.trans h'.1,h'.2⟩) (Or.inl ⟨by rfl,fun wz hz=>by
         have hss:=HSS.out wz hz
         go_simp⟩) hHeld ?_
        simp only [Act.put,gd,ge,gf]
        refine wpTill.take (i:=4) (oi:=_) (v:=.pointer (some ⟨pn,i,none⟩)) rfl (by kernel_rfl) (fun c a w h=>by have h':_∧_:=h;exact ⟨(Rr.put_defers a _ _).symm.trans h'.1,h'.2⟩) (Or.inl ⟨by rfl,fun wz hz=>by
         have hss:=HSS.out wz hz
         go_simp⟩) hHeld ?_
        simp only [Act.put,gd,ge,gf]
        refine wpTill.take (i:=5) (oi:=_) (v:=.string (nmF i)) rfl (by kernel_rfl) (fun c a w h=>by have h':_∧_:=h;exact ⟨(Rr.put_defers a _ _).symm.trans h'.1,h'.2⟩) (Or.inl ⟨by rfl,fun wz hz=>by
         have hss:=HSS.out wz hz
         go_simp⟩) hHeld ?_
        simp only [Act.put,gd,ge,gf]
        refine wpTill.take (i:=7) (oi:=_) (v:=.pointer (some ⟨bn,0,none⟩)) rfl (by kernel_rfl) (fun c a w h=>by have h':_∧_:=h;exact ⟨(Rr.put_defers a _ _).symm.trans h'.1,h'.2⟩) (Or.inl ⟨by rfl,fun wz hz=>by
         have hss:=HSS.out wz hz
         go_simp⟩) hHeld ?_
        simp only [Act.put,gd,ge,gf]
        refine wpTill.take (i:=11) (oi:=_) (v:=.pointer (some ⟨bn,0,none⟩)) rfl (by kernel_rfl) (fun c a w h=>by have h':_∧_:=h;exact ⟨(Rr.put_defers a _ _).symm.trans h'.1,h'.2⟩) (Or.inl ⟨by rfl,fun wz hz=>by
         have hss:=HSS.out wz hz
         go_simp⟩) hHeld ?_
        simp only [Act.put,gd,ge,gf]
        have hel:T.rs.length < 1000000:=by omega
        refine wpTill.ready (rs:=[6,8]) (by kernel_rfl) (by simp) (TillAll.cons (o:=_) rfl (fun K hK=>?_) (TillAll.cons (o:=_) rfl (fun K hK=>?_) TillAll.nil))
        ·skip
         go_simp
         have hx6:=Ext.alloc (Ext.refl wd) (.cells #[.string leB,.string geB] 9)
         have hb6:=heap_alloc_new wd (.cells #[.string leB,.string geB] 9)
         have HS6:=zH (HSd.out.ext hx6)
         have HN6:=zH ((hx6.block _ (zL HNd.out)).trans HNd.out)
         refine hK.out _ _ (.inr ⟨HS6.out.g.at_,HN6.out,_,HS6.out.g.mx⟩) (fun hHeld=>?_)
         clear hK K hx6
         replace hHeld:=hHeld.resolve_left (by decide)
         obtain ⟨p,hp⟩:∃ p,p=(wd).heap.size:=⟨_,rfl⟩
         rw [← hp] at hb6 ⊢
         clear hp
         generalize (wd).alloc (.cells #[.string leB,.string geB] 9)=wm at *
         refine wpTill.ready (rs:=[8]) (by kernel_rfl) (by simp) (TillAll.cons (o:=_) rfl (fun K hK=>?_) TillAll.nil)
         go_simp
         (refine (nx_any HS6.out.g.mx 2 (by decide)).mono ?_)
         rintro e w8 ⟨k8,pz,rfl,hk8,hm,hkx⟩
         have HS8:=zH (HS6.out.kx hm hkx)
         have HN8:=zH (hkx.at HN6.out (obj_ne HN6.out HS6.out.g.mx.at_ (by decide)))
         replace hb6:=hkx.at hb6 (obj_ne hb6 HS6.out.g.mx.at_ (by decide))
         go_simp
         refine hK.out _ _ (.inr ⟨HS8.out.g.at_,HN8.out,_,HS8.out.g.mx⟩) (fun hHeld=>?_)
         clear hK K hm hkx
         replace hHeld:=hHeld.resolve_left (by decide)
         refine wpTill.more (T':=fun w'=>(w'.heap[D]? = some (.cells (tenC r) 39)∧w'.heap[pn]? = some (.cells nmC 9)∧∃ pos,MX W w' bn (.slice A ns.length c) ns pos)∧w'.heap[p]? = some (.cells #[.string leB,.string geB] 9)) (fun _ h=>h.1) _ _ _ _ ?_
         replace hHeld:=And.intro hHeld hb6
         refine wpTill.take (i:=9) (oi:=_) (v:=.pointer (some ⟨p,k8,none⟩)) rfl (by kernel_rfl) (fun c a w h=>by have h':_∧_:=h;exact ⟨(Rr.put_defers a _ _).symm.trans h'.1,h'.2⟩) (Or.inl ⟨by rfl,fun wz hz=>by
          have hss:=HSS.out wz hz.1
          have hrr:=rel_at k8 hk8 wz p hz.2
          go_simp⟩) hHeld ?_
         simp only [Act.put,gd,ge,gf]
         refine wpTill.take (i:=10) (oi:=_) (v:=.string (rlF k8)) rfl (by kernel_rfl) (fun c a w h=>by have h':_∧_:=h;exact ⟨(Rr.put_defers a _ _).symm.trans h'.1,h'.2⟩) (Or.inl ⟨by rfl,fun wz hz=>by
          have hss:=HSS.out wz hz.1
          have hrr:=rel_at k8 hk8 wz p hz.2
          go_simp⟩) hHeld ?_
         simp only [Act.put,gd,ge,gf]
         refine wpTill.ready (rs:=[12]) (by kernel_rfl) (by simp) (TillAll.cons (o:=_) rfl (fun K hK=>?_) TillAll.nil)
         go_simp
         (refine (nx_any HS8.out.g.mx 4 (by decide)).mono ?_)
         rintro e w12 ⟨k12,pz,rfl,hk12,hm,hkx⟩
         have HS12:=zH (HS8.out.kx hm hkx)
         have HN12:=zH (hkx.at HN8.out (obj_ne HN8.out HS8.out.g.mx.at_ (by decide)))
         replace hb6:=hkx.at hb6 (obj_ne hb6 HS8.out.g.mx.at_ (by decide))
         go_simp
         refine hK.out _ _ (.inr ⟨⟨HS12.out.g.at_,HN12.out,_,HS12.out.g.mx⟩,hb6⟩) (fun hHeld=>?_)
         clear hK K hm hkx
         replace hHeld:=hHeld.resolve_left (by decide)
         refine wpTill.take (i:=13) (oi:=_) (v:=.agg #[.string (nmF i),.string (rlF k8),iV (k12:Int)]) rfl (by kernel_rfl) (fun c a w h=>by have h':_∧_:=h;exact ⟨(Rr.put_defers a _ _).symm.trans h'.1,h'.2⟩) (Or.inl ⟨by rfl,fun wz hz=>by
          have hss:=HSS.out wz hz.1
          have hrr:=rel_at k8 hk8 wz p hz.2
          go_simp⟩) hHeld ?_
         simp only [Act.put,gd,ge,gf]
         refine wpTill.ready (rs:=[14]) (by kernel_rfl) (by simp) (TillAll.cons (o:=_) rfl (fun K hK=>?_) TillAll.nil)
         go_simp
         have hx7:=Ext.alloc (Ext.refl w12) (.cells #[.string (nmF i),.string (rlF k8),iV (k12:Int)] 88)
         have hb7:=heap_alloc_new w12 (.cells #[.string (nmF i),.string (rlF k8),iV (k12:Int)] 88)
         have HS7:=zH (HS12.out.ext hx7)
         have HN7:=zH ((hx7.block _ (zL HN12.out)).trans HN12.out)
         replace hb6:=(hx7.block _ (zL hb6)).trans hb6
         refine hK.out _ _ (.inr ⟨⟨HS7.out.g.at_,HN7.out,_,HS7.out.g.mx⟩,hb6⟩) (fun hHeld=>?_)
         clear hK K hx7
         replace hHeld:=hHeld.resolve_left (by decide)
         obtain ⟨p7,hp7⟩:∃ p7,p7=(w12).heap.size:=⟨_,rfl⟩
         rw [← hp7] at hb7 ⊢
         clear hp7
         generalize (w12).alloc (.cells #[.string (nmF i),.string (rlF k8),iV (k12:Int)] 88)=wq at *
         have hsz:W.heap.size≤wq.heap.size:=HS7.out.g.mx.low.size
         refine wpTill.ready (rs:=[15]) (by kernel_rfl) (by simp) (TillAll.cons (o:=_) rfl (fun K hK=>?_) TillAll.nil)
         rw [if_pos (by rfl)]
         refine op_append (cs:=cellsRq) (z:=.agg #[.string ⟨#[]⟩,.string ⟨#[]⟩,iV 0]) one_rq 28 88 40 Tryz.underlying28 info108 (by rfl) (by decide) (by decide) (.tmp 106) (.tmp 119) rfl W.heap.size (.slice ra T.rs.length rc) T.rs (by rfl) (HLS.out ▸ HS7.out.g.rs_) p7 ⟨nmF i,rlF k8,(k12:Int)⟩ (by rfl) hb7 hel hsz ?_
         intro g7 cap7 w7 hr7 hg7 hat7
         rw [← HLS.out] at hg7
         have hat:=row_stays HS7.out.g.rs_ hg7 HS7.out.g.at_ (by decide)
         have hnt:=row_stays HS7.out.g.rs_ hg7 HN7.out (by decide)
         have hp6:=row_stays HS7.out.g.rs_ hg7 hb6 (by decide)
         have hmx:=HS7.out.g.mx.row HS7.out.g.rs_ (by decide) hg7
         obtain ⟨hcc,hff,lD⟩:=zC hat
         have c1:w7.cell? ⟨D,3,none⟩=some (.slice ra T.rs.length rc):=(hcc 3).trans (congrArg some HLS.out)
         have f1:=hff 3
         have HSN:=zH (HS7.out.pushR (x:=(some ⟨g7,0,none⟩,T.rs.length+1,cap7)) (q:=⟨nmF i,rlF k8,(k12:Int)⟩) hg7 hr7 HME.out (rlF_ok _) ⟨by simp only;omega,by simp only;omega⟩)
         have HNN:=zH ((heap_setCell_other w7 ⟨D,3,none⟩ pn (.slice (some ⟨g7,0,none⟩) (T.rs.length+1) cap7) (obj_ne hnt hat (by decide))).trans hnt)
         refine hK.out _ _ (.inr ⟨⟨hat,hnt,_,hmx⟩,hp6⟩) (fun hHeld=>?_)
         clear hK K hr7 hg7 hat7 hat hnt hp6 hmx hcc hff
         replace hHeld:=hHeld.resolve_left (by decide)
         simp only [Act.put,gd,ge,gf]
         refine wpTill.take (i:=16) (oi:=_) (v:=.pointer (some ⟨D,3,none⟩)) rfl (by kernel_rfl) (fun c a w h=>by have h':_∧_:=h;exact ⟨(Rr.put_defers a _ _).symm.trans h'.1,h'.2⟩) (Or.inl ⟨by rfl,fun wz hz=>by
          have hss:=HSS.out wz hz.1
          have hrr:=rel_at k8 hk8 wz p hz.2
          go_simp⟩) hHeld ?_
         simp only [Act.put,gd,ge,gf]
         refine wpTill.ready (rs:=[17]) (by kernel_rfl) (by simp) (TillAll.cons (o:=_) rfl (fun K hK=>?_) TillAll.nil)
         go_simp
         refine hK.out _ _ (.inl rfl) (fun _=>?_)
         clear hK K hHeld
         refine wpTill.done (by kernel_rfl) ?_ _
         go_wp2_with (fail)
         exact ⟨⟨i+1,_,_,_,by simp,by omega,HSN,HNN⟩,by simp [iof];omega⟩
        ·skip
         go_simp
         (refine (nx_any HSd.out.g.mx 2 (by decide)).mono ?_)
         rintro e w8 ⟨k8,pz,rfl,hk8,hm,hkx⟩
         have HS8:=zH (HSd.out.kx hm hkx)
         have HN8:=zH (hkx.at HNd.out (obj_ne HNd.out HSd.out.g.mx.at_ (by decide)))
         skip
         go_simp
         refine hK.out _ _ (.inr ⟨HS8.out.g.at_,HN8.out,_,HS8.out.g.mx⟩) (fun hHeld=>?_)
         clear hK K hm hkx
         replace hHeld:=hHeld.resolve_left (by decide)
         refine wpTill.ready (rs:=[6,12]) (by kernel_rfl) (by simp) (TillAll.cons (o:=_) rfl (fun K hK=>?_) (TillAll.cons (o:=_) rfl (fun K hK=>?_) TillAll.nil))
         ·skip
          go_simp
          have hx6:=Ext.alloc (Ext.refl w8) (.cells #[.string leB,.string geB] 9)
          have hb6:=heap_alloc_new w8 (.cells #[.string leB,.string geB] 9)
          have HS6:=zH (HS8.out.ext hx6)
          have HN6:=zH ((hx6.block _ (zL HN8.out)).trans HN8.out)
          refine hK.out _ _ (.inr ⟨HS6.out.g.at_,HN6.out,_,HS6.out.g.mx⟩) (fun hHeld=>?_)
          clear hK K hx6
          replace hHeld:=hHeld.resolve_left (by decide)
          obtain ⟨p,hp⟩:∃ p,p=(w8).heap.size:=⟨_,rfl⟩
          rw [← hp] at hb6 ⊢
          clear hp
          generalize (w8).alloc (.cells #[.string leB,.string geB] 9)=wm at *
          refine wpTill.more (T':=fun w'=>(w'.heap[D]? = some (.cells (tenC r) 39)∧w'.heap[pn]? = some (.cells nmC 9)∧∃ pos,MX W w' bn (.slice A ns.length c) ns pos)∧w'.heap[p]? = some (.cells #[.string leB,.string geB] 9)) (fun _ h=>h.1) _ _ _ _ ?_
          replace hHeld:=And.intro hHeld hb6
          refine wpTill.take (i:=9) (oi:=_) (v:=.pointer (some ⟨p,k8,none⟩)) rfl (by kernel_rfl) (fun c a w h=>by have h':_∧_:=h;exact ⟨(Rr.put_defers a _ _).symm.trans h'.1,h'.2⟩) (Or.inl ⟨by rfl,fun wz hz=>by
           have hss:=HSS.out wz hz.1
           have hrr:=rel_at k8 hk8 wz p hz.2
           go_simp⟩) hHeld ?_
          simp only [Act.put,gd,ge,gf]
          refine wpTill.take (i:=10) (oi:=_) (v:=.string (rlF k8)) rfl (by kernel_rfl) (fun c a w h=>by have h':_∧_:=h;exact ⟨(Rr.put_defers a _ _).symm.trans h'.1,h'.2⟩) (Or.inl ⟨by rfl,fun wz hz=>by
           have hss:=HSS.out wz hz.1
           have hrr:=rel_at k8 hk8 wz p hz.2
           go_simp⟩) hHeld ?_
          simp only [Act.put,gd,ge,gf]
          refine wpTill.ready (rs:=[12]) (by kernel_rfl) (by simp) (TillAll.cons (o:=_) rfl (fun K hK=>?_) TillAll.nil)
          go_simp
          (refine (nx_any HS6.out.g.mx 4 (by decide)).mono ?_)
          rintro e w12 ⟨k12,pz,rfl,hk12,hm,hkx⟩
          have HS12:=zH (HS6.out.kx hm hkx)
          have HN12:=zH (hkx.at HN6.out (obj_ne HN6.out HS6.out.g.mx.at_ (by decide)))
          replace hb6:=hkx.at hb6 (obj_ne hb6 HS6.out.g.mx.at_ (by decide))
          go_simp
          refine hK.out _ _ (.inr ⟨⟨HS12.out.g.at_,HN12.out,_,HS12.out.g.mx⟩,hb6⟩) (fun hHeld=>?_)
          clear hK K hm hkx
          replace hHeld:=hHeld.resolve_left (by decide)
          refine wpTill.take (i:=13) (oi:=_) (v:=.agg #[.string (nmF i),.string (rlF k8),iV (k12:Int)]) rfl (by kernel_rfl) (fun c a w h=>by have h':_∧_:=h;exact ⟨(Rr.put_defers a _ _).symm.trans h'.1,h'.2⟩) (Or.inl ⟨by rfl,fun wz hz=>by
           have hss:=HSS.out wz hz.1
           have hrr:=rel_at k8 hk8 wz p hz.2
           go_simp⟩) hHeld ?_
          simp only [Act.put,gd,ge,gf]
          refine wpTill.ready (rs:=[14]) (by kernel_rfl) (by simp) (TillAll.cons (o:=_) rfl (fun K hK=>?_) TillAll.nil)
          go_simp
          have hx7:=Ext.alloc (Ext.refl w12) (.cells #[.string (nmF i),.string (rlF k8),iV (k12:Int)] 88)
          have hb7:=heap_alloc_new w12 (.cells #[.string (nmF i),.string (rlF k8),iV (k12:Int)] 88)
          have HS7:=zH (HS12.out.ext hx7)
          have HN7:=zH ((hx7.block _ (zL HN12.out)).trans HN12.out)
          replace hb6:=(hx7.block _ (zL hb6)).trans hb6
          refine hK.out _ _ (.inr ⟨⟨HS7.out.g.at_,HN7.out,_,HS7.out.g.mx⟩,hb6⟩) (fun hHeld=>?_)
          clear hK K hx7
          replace hHeld:=hHeld.resolve_left (by decide)
          obtain ⟨p7,hp7⟩:∃ p7,p7=(w12).heap.size:=⟨_,rfl⟩
          rw [← hp7] at hb7 ⊢
          clear hp7
          generalize (w12).alloc (.cells #[.string (nmF i),.string (rlF k8),iV (k12:Int)] 88)=wq at *
          have hsz:W.heap.size≤wq.heap.size:=HS7.out.g.mx.low.size
          refine wpTill.ready (rs:=[15]) (by kernel_rfl) (by simp) (TillAll.cons (o:=_) rfl (fun K hK=>?_) TillAll.nil)
          rw [if_pos (by rfl)]
          refine op_append (cs:=cellsRq) (z:=.agg #[.string ⟨#[]⟩,.string ⟨#[]⟩,iV 0]) one_rq 28 88 40 Tryz.underlying28 info108 (by rfl) (by decide) (by decide) (.tmp 106) (.tmp 119) rfl W.heap.size (.slice ra T.rs.length rc) T.rs (by rfl) (HLS.out ▸ HS7.out.g.rs_) p7 ⟨nmF i,rlF k8,(k12:Int)⟩ (by rfl) hb7 hel hsz ?_
          intro g7 cap7 w7 hr7 hg7 hat7
          rw [← HLS.out] at hg7
          have hat:=row_stays HS7.out.g.rs_ hg7 HS7.out.g.at_ (by decide)
          have hnt:=row_stays HS7.out.g.rs_ hg7 HN7.out (by decide)
          have hp6:=row_stays HS7.out.g.rs_ hg7 hb6 (by decide)
          have hmx:=HS7.out.g.mx.row HS7.out.g.rs_ (by decide) hg7
          obtain ⟨hcc,hff,lD⟩:=zC hat
          have c1:w7.cell? ⟨D,3,none⟩=some (.slice ra T.rs.length rc):=(hcc 3).trans (congrArg some HLS.out)
          have f1:=hff 3
          have HSN:=zH (HS7.out.pushR (x:=(some ⟨g7,0,none⟩,T.rs.length+1,cap7)) (q:=⟨nmF i,rlF k8,(k12:Int)⟩) hg7 hr7 HME.out (rlF_ok _) ⟨by simp only;omega,by simp only;omega⟩)
          have HNN:=zH ((heap_setCell_other w7 ⟨D,3,none⟩ pn (.slice (some ⟨g7,0,none⟩) (T.rs.length+1) cap7) (obj_ne hnt hat (by decide))).trans hnt)
          refine hK.out _ _ (.inr ⟨⟨hat,hnt,_,hmx⟩,hp6⟩) (fun hHeld=>?_)
          clear hK K hr7 hg7 hat7 hat hnt hp6 hmx hcc hff
          replace hHeld:=hHeld.resolve_left (by decide)
          simp only [Act.put,gd,ge,gf]
          refine wpTill.take (i:=16) (oi:=_) (v:=.pointer (some ⟨D,3,none⟩)) rfl (by kernel_rfl) (fun c a w h=>by have h':_∧_:=h;exact ⟨(Rr.put_defers a _ _).symm.trans h'.1,h'.2⟩) (Or.inl ⟨by rfl,fun wz hz=>by
           have hss:=HSS.out wz hz.1
           have hrr:=rel_at k8 hk8 wz p hz.2
           go_simp⟩) hHeld ?_
          simp only [Act.put,gd,ge,gf]
          refine wpTill.ready (rs:=[17]) (by kernel_rfl) (by simp) (TillAll.cons (o:=_) rfl (fun K hK=>?_) TillAll.nil)
          go_simp
          refine hK.out _ _ (.inl rfl) (fun _=>?_)
          clear hK K hHeld
          refine wpTill.done (by kernel_rfl) ?_ _
          go_wp2_with (fail)
          exact ⟨⟨i+1,_,_,_,by simp,by omega,HSN,HNN⟩,by simp [iof];omega⟩
         ·skip
          go_simp
          (refine (nx_any HS8.out.g.mx 4 (by decide)).mono ?_)
          rintro e w12 ⟨k12,pz,rfl,hk12,hm,hkx⟩
          have HS12:=zH (HS8.out.kx hm hkx)
          have HN12:=zH (hkx.at HN8.out (obj_ne HN8.out HS8.out.g.mx.at_ (by decide)))
          skip
          go_simp
          refine hK.out _ _ (.inr ⟨HS12.out.g.at_,HN12.out,_,HS12.out.g.mx⟩) (fun hHeld=>?_)
          clear hK K hm hkx
          replace hHeld:=hHeld.resolve_left (by decide)
          refine wpTill.ready (rs:=[6]) (by kernel_rfl) (by simp) (TillAll.cons (o:=_) rfl (fun K hK=>?_) TillAll.nil)
          go_simp
          have hx6:=Ext.alloc (Ext.refl w12) (.cells #[.string leB,.string geB] 9)
          have hb6:=heap_alloc_new w12 (.cells #[.string leB,.string geB] 9)
          have HS6:=zH (HS12.out.ext hx6)
          have HN6:=zH ((hx6.block _ (zL HN12.out)).trans HN12.out)
          refine hK.out _ _ (.inr ⟨HS6.out.g.at_,HN6.out,_,HS6.out.g.mx⟩) (fun hHeld=>?_)
          clear hK K hx6
          replace hHeld:=hHeld.resolve_left (by decide)
          obtain ⟨p,hp⟩:∃ p,p=(w12).heap.size:=⟨_,rfl⟩
          rw [← hp] at hb6 ⊢
          clear hp
          generalize (w12).alloc (.cells #[.string leB,.string geB] 9)=wm at *
          refine wpTill.more (T':=fun w'=>(w'.heap[D]? = some (.cells (tenC r) 39)∧w'.heap[pn]? = some (.cells nmC 9)∧∃ pos,MX W w' bn (.slice A ns.length c) ns pos)∧w'.heap[p]? = some (.cells #[.string leB,.string geB] 9)) (fun _ h=>h.1) _ _ _ _ ?_
          replace hHeld:=And.intro hHeld hb6
          refine wpTill.take (i:=9) (oi:=_) (v:=.pointer (some ⟨p,k8,none⟩)) rfl (by kernel_rfl) (fun c a w h=>by have h':_∧_:=h;exact ⟨(Rr.put_defers a _ _).symm.trans h'.1,h'.2⟩) (Or.inl ⟨by rfl,fun wz hz=>by
           have hss:=HSS.out wz hz.1
           have hrr:=rel_at k8 hk8 wz p hz.2
           go_simp⟩) hHeld ?_
          simp only [Act.put,gd,ge,gf]
          refine wpTill.take (i:=10) (oi:=_) (v:=.string (rlF k8)) rfl (by kernel_rfl) (fun c a w h=>by have h':_∧_:=h;exact ⟨(Rr.put_defers a _ _).symm.trans h'.1,h'.2⟩) (Or.inl ⟨by rfl,fun wz hz=>by
           have hss:=HSS.out wz hz.1
           have hrr:=rel_at k8 hk8 wz p hz.2
           go_simp⟩) hHeld ?_
          simp only [Act.put,gd,ge,gf]
          refine wpTill.take (i:=13) (oi:=_) (v:=.agg #[.string (nmF i),.string (rlF k8),iV (k12:Int)]) rfl (by kernel_rfl) (fun c a w h=>by have h':_∧_:=h;exact ⟨(Rr.put_defers a _ _).symm.trans h'.1,h'.2⟩) (Or.inl ⟨by rfl,fun wz hz=>by
           have hss:=HSS.out wz hz.1
           have hrr:=rel_at k8 hk8 wz p hz.2
           go_simp⟩) hHeld ?_
          simp only [Act.put,gd,ge,gf]
          refine wpTill.ready (rs:=[14]) (by kernel_rfl) (by simp) (TillAll.cons (o:=_) rfl (fun K hK=>?_) TillAll.nil)
          go_simp
          have hx7:=Ext.alloc (Ext.refl wm) (.cells #[.string (nmF i),.string (rlF k8),iV (k12:Int)] 88)
          have hb7:=heap_alloc_new wm (.cells #[.string (nmF i),.string (rlF k8),iV (k12:Int)] 88)
          have HS7:=zH (HS6.out.ext hx7)
          have HN7:=zH ((hx7.block _ (zL HN6.out)).trans HN6.out)
          replace hb6:=(hx7.block _ (zL hb6)).trans hb6
          refine hK.out _ _ (.inr ⟨⟨HS7.out.g.at_,HN7.out,_,HS7.out.g.mx⟩,hb6⟩) (fun hHeld=>?_)
          clear hK K hx7
          replace hHeld:=hHeld.resolve_left (by decide)
          obtain ⟨p7,hp7⟩:∃ p7,p7=(wm).heap.size:=⟨_,rfl⟩
          rw [← hp7] at hb7 ⊢
          clear hp7
          generalize (wm).alloc (.cells #[.string (nmF i),.string (rlF k8),iV (k12:Int)] 88)=wq at *
          have hsz:W.heap.size≤wq.heap.size:=HS7.out.g.mx.low.size
          refine wpTill.ready (rs:=[15]) (by kernel_rfl) (by simp) (TillAll.cons (o:=_) rfl (fun K hK=>?_) TillAll.nil)
          rw [if_pos (by rfl)]
          refine op_append (cs:=cellsRq) (z:=.agg #[.string ⟨#[]⟩,.string ⟨#[]⟩,iV 0]) one_rq 28 88 40 Tryz.underlying28 info108 (by rfl) (by decide) (by decide) (.tmp 106) (.tmp 119) rfl W.heap.size (.slice ra T.rs.length rc) T.rs (by rfl) (HLS.out ▸ HS7.out.g.rs_) p7 ⟨nmF i,rlF k8,(k12:Int)⟩ (by rfl) hb7 hel hsz ?_
          intro g7 cap7 w7 hr7 hg7 hat7
          rw [← HLS.out] at hg7
          have hat:=row_stays HS7.out.g.rs_ hg7 HS7.out.g.at_ (by decide)
          have hnt:=row_stays HS7.out.g.rs_ hg7 HN7.out (by decide)
          have hp6:=row_stays HS7.out.g.rs_ hg7 hb6 (by decide)
          have hmx:=HS7.out.g.mx.row HS7.out.g.rs_ (by decide) hg7
          obtain ⟨hcc,hff,lD⟩:=zC hat
          have c1:w7.cell? ⟨D,3,none⟩=some (.slice ra T.rs.length rc):=(hcc 3).trans (congrArg some HLS.out)
          have f1:=hff 3
          have HSN:=zH (HS7.out.pushR (x:=(some ⟨g7,0,none⟩,T.rs.length+1,cap7)) (q:=⟨nmF i,rlF k8,(k12:Int)⟩) hg7 hr7 HME.out (rlF_ok _) ⟨by simp only;omega,by simp only;omega⟩)
          have HNN:=zH ((heap_setCell_other w7 ⟨D,3,none⟩ pn (.slice (some ⟨g7,0,none⟩) (T.rs.length+1) cap7) (obj_ne hnt hat (by decide))).trans hnt)
          refine hK.out _ _ (.inr ⟨⟨hat,hnt,_,hmx⟩,hp6⟩) (fun hHeld=>?_)
          clear hK K hr7 hg7 hat7 hat hnt hp6 hmx hcc hff
          replace hHeld:=hHeld.resolve_left (by decide)
          simp only [Act.put,gd,ge,gf]
          refine wpTill.take (i:=16) (oi:=_) (v:=.pointer (some ⟨D,3,none⟩)) rfl (by kernel_rfl) (fun c a w h=>by have h':_∧_:=h;exact ⟨(Rr.put_defers a _ _).symm.trans h'.1,h'.2⟩) (Or.inl ⟨by rfl,fun wz hz=>by
           have hss:=HSS.out wz hz.1
           have hrr:=rel_at k8 hk8 wz p hz.2
           go_simp⟩) hHeld ?_
          simp only [Act.put,gd,ge,gf]
          refine wpTill.ready (rs:=[17]) (by kernel_rfl) (by simp) (TillAll.cons (o:=_) rfl (fun K hK=>?_) TillAll.nil)
          go_simp
          refine hK.out _ _ (.inl rfl) (fun _=>?_)
          clear hK K hHeld
          refine wpTill.done (by kernel_rfl) ?_ _
          go_wp2_with (fail)
          exact ⟨⟨i+1,_,_,_,by simp,by omega,HSN,HNN⟩,by simp [iof];omega⟩
       ·have hkb:((k19:Int) == 0)=false:=by simpa using hk0
        go_wp2_with (fail)
        exact ⟨⟨i+1,pos19,r,T,by simp,by omega,zH (HS19.out.up (Nat.le_succ _) (Nat.le_refl _)),HN19⟩,by simp [iof];omega⟩
      ·have hkb:(kd == 2)=false:=by simpa using hkd
       go_wp2_with (fail)
       exact ⟨⟨i+1,pos,r,T,by simp,by omega,zH (HS.out.up (Nat.le_succ _) (Nat.le_refl _)),HNR⟩,by simp [iof];omega⟩
     ·obtain rfl:i=nc:=by omega
      go_wp2
      go_meet
      case rel=>exact ⟨pos,r,T,HS,HNR⟩
   case rest=>
    obtain ⟨pos,r,T,HS,HNR⟩:=hcut
    rename World=>wc
    have hcl:=HS.out.l.cl
    have HTC:Hid (T.cs.length≤3):=zH (by omega)
    clear hcl
    obtain ⟨row,hrow⟩:∃ row,row=(tenC r).toList:=⟨_,rfl⟩
    have hrs:row.length=20:=by rw [hrow];rfl
    have hrt:row.toArray=tenC r:=by rw [hrow]
    have HK:=zH (mkone_any HS.out.g.mx r T.cs (HS.out.g.sr HTC.out).1 (HS.out.g.sr HTC.out).2 HTC.out)
    rw [← hrt] at HK
    have HRG:Hid (wc.rangeAt D 0 row):=zH (range_of HS.out.g.at_ 0 row (fun j v hv=>by rw [hrow] at hv;simpa using hv))
    have lD:=zL HS.out.g.at_
    clear hrow hrt
    go_upto_region 22 with (first
     |(refine wpList_load_mid rfl 39 (.tmp 4) rfl D 0 (by rfl) row _ HRG.out Tryz.underlying39 rfl (by rw [hrs];kernel_rfl) ?_)
     |(go_at_call 30
       refine HK.out.mono ?_
       rintro e w21 ⟨v1,t1,pos21,rfl,ho,hm,hkx,hrd⟩
       have HO:=zH ho
       have HS21:=zH (HS.out.kx hm hkx)
       have HN21:=zH (hkx.at HNR.out (obj_ne HNR.out HS.out.g.mx.at_ (by decide)))
       have HRD:Hid (Rd (AG W D bn) w21 t1 v1):=zH (Rd.frame (fun _ _ _ _=>rfl) (fun b hb=>⟨by have:=HS.out.g.ge;omega,by omega,by have:=zL HS.out.g.mx.at_;omega⟩) _ _ hrd)
       clear ho hm hkx hrd
       obtain ⟨o0,z1,z2,o3,b4,l4,c4,rfl⟩:=HRD.out.form
       obtain ⟨hcc,hff,lD21⟩:=zC HS21.out.g.at_
       have c6:=zk hcc 6
       have c7:=zk hcc 7
       have c8:=zk hcc 8
       have c9:=zk hcc 9
       have c10:=zk hcc 10
       have f6:=hff 6;have f7:=hff 7;have f8:=hff 8;have f9:=hff 9;have f10:=hff 10
       clear hcc hff))
    have HSa:=zH (HS21.out.setF o0 o3 z1 z2 (b4,l4,c4))
    have HNa:=zH ((put6_other w21 (obj_ne HN21.out HS21.out.g.at_ (by decide)) (.string o0) (iV z1) (iV z2) (.string o3) (slV (b4,l4,c4))).trans HN21.out)
    have HFa:=zH (HRD.out.put6 (D:=D) (fun b hb=>hb.2.1) (.string o0) (iV z1) (iV z2) (.string o3) (slV (b4,l4,c4)))
    have HFb:Hid (∃ r,GS W D bn (.slice A ns.length c) ns (put6 w21 D (.string o0) (iV z1) (iV z2) (.string o3) (slV (b4,l4,c4))) pos21 n5 nc nc 0 r T∧Rd (AG W D bn) (put6 w21 D (.string o0) (iV z1) (iV z2) (.string o3) (slV (b4,l4,c4))) t1 (foV r)):=zH ⟨_,HSa.out,HFa.out⟩
    change Code.wp _ _ _ _ (put6 w21 D (.string o0) (iV z1) (iV z2) (.string o3) (slV (b4,l4,c4)))
    clear HSa HFa HK HRG HS HNR HS21 HN21 HRD c6 c7 c8 c9 c10 f6 f7 f8 f9 f10 lD lD21 hrs
    generalize put6 w21 D (.string o0) (iV z1) (iV z2) (.string o3) (slV (b4,l4,c4))=w22 at *
    obtain ⟨r22,hs22,hf22⟩:=HFb.out
    have HS22:=zH hs22;have HF22:=zH hf22
    clear hs22 hf22 HFb
    go_upto_region 23 with (go_at_call 29;(refine (nx_any HS22.out.g.mx 4 (by decide)).mono ?_);rintro e w23 ⟨kp,pos23,rfl,hkp,hm,hkx⟩;have HS23:=zH (HS22.out.kx hm hkx);have HN23:=zH (hkx.at HNa.out (obj_ne HNa.out HS22.out.g.mx.at_ (by decide)));have HF23:=zH (HF22.out.kx hkx (fun b hb=>hb.2.2));clear hm hkx HS22 HF22 HNa)
    go_upto_block 6 with (fail)
    go_cut [13] (fun s13 wx=>∃ (pos:Nat) (r:TnR) (t:Ex),Hid (GS W D bn (.slice A ns.length c) ns wx pos n5 nc nc 0 r T)∧Hid (wx.heap[pn]? = some (.cells nmC 9))∧Hid (Rd (AG W D bn) wx t (foV r))∧Hid (∃ n,n≤4∧SumE T.cs n t))
    case first=>as_aux_lemma=>
     go_wp2_with (fail)
     go_loopw [13] (fun iv wr=>∃ (i pos:Nat) (r:TnR) (t:Ex),iv=iV i∧i≤kp∧Hid (GS W D bn (.slice A ns.length c) ns wr pos n5 nc nc 0 r T)∧Hid (wr.heap[pn]? = some (.cells nmC 9))∧Hid (Rd (AG W D bn) wr t (foV r))∧Hid (SumE T.cs (i+1) t)) (fun iv _=>kp - (iof iv).toNat)
     case atStart=>exact ⟨0,pos23,r22,t1,rfl,by omega,HS23,HN23,HF23,zH (.one _ HO.out)⟩
     case round=>
      clear HS23 HN23 HF23 HO
      rename World=>wr
      obtain ⟨i,pos,r,t,rfl,hi,HS,HNR,HF,HSU⟩:=hrel
      by_cases hlt:i < kp
      ·skip
       obtain ⟨row,hrow⟩:∃ row,row=(tenC r).toList:=⟨_,rfl⟩
       have hrs:row.length=20:=by rw [hrow];rfl
       have hrt:row.toArray=tenC r:=by rw [hrow]
       have HONE:Hid (∀ (wz:World) (pz:Nat),GS W D bn (.slice A ns.length c) ns wz pz n5 nc nc 0 r T→Calls Tryz.prog 30 #[.pointer (some ⟨bn,0,none⟩),.agg row.toArray] wz fun e w'=>∃ v1 t1 pos',e=.returned v1∧OneE T.cs t1∧MX W w' bn (.slice A ns.length c) ns pos'∧KX bn wz w'∧Rd (AG W D bn) w' t1 v1):=zH fun wz pz hz=>by
        rw [hrt]
        refine (mkone_any hz.g.mx r T.cs (hz.g.sr HTC.out).1 (hz.g.sr HTC.out).2 HTC.out).mono ?_
        rintro e w' ⟨v1,t1,pos',he,ho,hm,hkx,hrd⟩
        exact ⟨v1,t1,pos',he,ho,hm,hkx,Rd.frame (fun _ _ _ _=>rfl) (fun b hb=>⟨by have:=hz.g.ge;have:=zL hz.g.at_;omega,by have:=zL hz.g.at_;omega,by have:=zL hz.g.mx.at_;omega⟩) _ _ hrd⟩
       have HRW:Hid (∀ wz:World,wz.heap[D]? = some (.cells (tenC r) 39)→wz.rangeAt D 0 row):=zH fun wz hz=>range_of hz 0 row (fun j v hv=>by rw [hrow] at hv;simpa using hv)
       have HSS:Hid (∀ wz:World,wz.heap[D]? = some (.cells (tenC r) 39)→D < wz.heap.size):=zH fun wz hz=>zL hz
       clear hrow hrt
       go_upto_region 26 with (fail)
       have HSd:=zH (HS.out.ext (Ext.drew (Ext.refl wr)))
       have HNd:Hid (wr.drew.heap[pn]? = some (.cells nmC 9)):=zH HNR.out
       have HFd:=zH (HF.out.ext (Ext.drew (Ext.refl wr)))
       refine wpTill.start 12 (fun w'=>w'.heap[D]? = some (.cells (tenC r) 39)∧∃ pos,MX W w' bn (.slice A ns.length c) ns pos) (by kernel_rfl) ⟨HSd.out.g.at_,_,HSd.out.g.mx⟩ (fun hHeld=>?_)
       clear HS HNR HF
       generalize wr.drew=wd at *
       refine wpTill.take (i:=1) (oi:=_) (v:=.pointer (some ⟨bn,0,none⟩)) rfl (by kernel_rfl) (fun c a w h=>by have h':_∧_:=h;exact ⟨(Rr.put_defers a _ _).symm.trans h'.1,h'.2⟩) (Or.inl ⟨by rfl,fun wz hz=>by
        have hss:=HSS.out wz hz.1
        skip
        go_simp⟩) hHeld ?_
       simp only [Act.put,gd,ge,gf]
       refine wpTill.take (i:=5) (oi:=_) (v:=.pointer (some ⟨D,6,none⟩)) rfl (by kernel_rfl) (fun c a w h=>by have h':_∧_:=h;exact ⟨(Rr.put_defers a _ _).symm.trans h'.1,h'.2⟩) (Or.inl ⟨by rfl,fun wz hz=>by
        have hss:=HSS.out wz hz.1
        skip
        go_simp⟩) hHeld ?_
       simp only [Act.put,gd,ge,gf]
       refine wpTill.take (i:=6) (oi:=_) (v:=.agg [Value.string r.fo,iV r.f1,iV r.f2,.string r.fn,slV r.fa].toArray) rfl (by kernel_rfl) (fun c a w h=>by have h':_∧_:=h;exact ⟨(Rr.put_defers a _ _).symm.trans h'.1,h'.2⟩) (yieldsIf_load_mid (by rfl) 33 (.tmp 138) rfl D 6 (by rfl) _ _ (fun wz hz=>GT.rf hz.1) Tryz.underlying33 rfl (by kernel_rfl)) hHeld ?_
       simp only [Act.put,gd,ge,gf]
       refine wpTill.take (i:=7) (oi:=_) (v:=.pointer (some ⟨bn,0,none⟩)) rfl (by kernel_rfl) (fun c a w h=>by have h':_∧_:=h;exact ⟨(Rr.put_defers a _ _).symm.trans h'.1,h'.2⟩) (Or.inl ⟨by rfl,fun wz hz=>by
        have hss:=HSS.out wz hz.1
        skip
        go_simp⟩) hHeld ?_
       simp only [Act.put,gd,ge,gf]
       refine wpTill.take (i:=8) (oi:=_) (v:=.agg row.toArray) rfl (by kernel_rfl) (fun c a w h=>by have h':_∧_:=h;exact ⟨(Rr.put_defers a _ _).symm.trans h'.1,h'.2⟩) (yieldsIf_load_mid (by rfl) 39 (.tmp 4) rfl D 0 (by rfl) row _ (fun wz hz=>HRW.out wz hz.1) Tryz.underlying39 rfl (by rw [hrs];kernel_rfl)) hHeld ?_
       simp only [Act.put,gd,ge,gf]
       refine wpTill.ready (rs:=[0,2]) (by kernel_rfl) (by simp) (TillAll.cons (o:=_) rfl (fun K hK=>?_) (TillAll.cons (o:=_) rfl (fun K hK=>?_) TillAll.nil))
       ·skip
        go_simp
        have hx6:=Ext.alloc (Ext.refl wd) (.cells #[.string addB,.string addB,.string subB] 9)
        have hb6:=heap_alloc_new wd (.cells #[.string addB,.string addB,.string subB] 9)
        have HS6:=zH (HSd.out.ext hx6)
        have HN6:=zH ((hx6.block _ (zL HNd.out)).trans HNd.out)
        have HF6:=zH (HFd.out.ext hx6)
        skip
        refine hK.out _ _ (.inr ⟨HS6.out.g.at_,_,HS6.out.g.mx⟩) (fun hHeld=>?_)
        clear hK K hx6
        replace hHeld:=hHeld.resolve_left (by decide)
        obtain ⟨p,hp⟩:∃ p,p=(wd).heap.size:=⟨_,rfl⟩
        rw [← hp] at hb6 ⊢
        clear hp
        generalize (wd).alloc (.cells #[.string addB,.string addB,.string subB] 9)=wm at *
        refine wpTill.ready (rs:=[2]) (by kernel_rfl) (by simp) (TillAll.cons (o:=_) rfl (fun K hK=>?_) TillAll.nil)
        go_simp
        (refine (nx_any HS6.out.g.mx 3 (by decide)).mono ?_)
        rintro e w2 ⟨k2,pz,rfl,hk2,hm,hkx⟩
        have HS2:=zH (HS6.out.kx hm hkx)
        have HN2:=zH (hkx.at HN6.out (obj_ne HN6.out HS6.out.g.mx.at_ (by decide)))
        have HF2:=zH (HF6.out.kx hkx (fun b hb=>hb.2.2))
        replace hb6:=hkx.at hb6 (obj_ne hb6 HS6.out.g.mx.at_ (by decide))
        go_simp
        refine hK.out _ _ (.inr ⟨HS2.out.g.at_,_,HS2.out.g.mx⟩) (fun hHeld=>?_)
        clear hK K hm hkx
        replace hHeld:=hHeld.resolve_left (by decide)
        refine wpTill.more (T':=fun w'=>(w'.heap[D]? = some (.cells (tenC r) 39)∧∃ pos,MX W w' bn (.slice A ns.length c) ns pos)∧w'.heap[p]? = some (.cells #[.string addB,.string addB,.string subB] 9)) (fun _ h=>h.1) _ _ _ _ ?_
        replace hHeld:=And.intro hHeld hb6
        refine wpTill.take (i:=3) (oi:=_) (v:=.pointer (some ⟨p,k2,none⟩)) rfl (by kernel_rfl) (fun c a w h=>by have h':_∧_:=h;exact ⟨(Rr.put_defers a _ _).symm.trans h'.1,h'.2⟩) (Or.inl ⟨by rfl,fun wz hz=>by
         have hss:=HSS.out wz hz.1.1
         skip
         go_simp⟩) hHeld ?_
        simp only [Act.put,gd,ge,gf]
        refine wpTill.take (i:=4) (oi:=_) (v:=.string (pmF k2)) rfl (by kernel_rfl) (fun c a w h=>by have h':_∧_:=h;exact ⟨(Rr.put_defers a _ _).symm.trans h'.1,h'.2⟩) (Or.inl ⟨by rfl,fun wz hz=>by
         have hss:=HSS.out wz hz.1.1
         have hrr:=pm_at k2 hk2 wz p hz.2
         go_simp⟩) hHeld ?_
        simp only [Act.put,gd,ge,gf]
        refine wpTill.ready (rs:=[9]) (by kernel_rfl) (by simp) (TillAll.cons (o:=_) rfl (fun K hK=>?_) TillAll.nil)
        go_simp
        refine (HONE.out _ _ HS2.out).mono ?_
        rintro e w9 ⟨v9,t9,pz9,rfl,ho,hm,hkx,hrd⟩
        have HO9:=zH ho
        have HR9:=zH hrd
        have HS9:=zH (HS2.out.kx hm hkx)
        have HN9:=zH (hkx.at HN2.out (obj_ne HN2.out HS2.out.g.mx.at_ (by decide)))
        have HF9:=zH (HF2.out.kx hkx (fun b hb=>hb.2.2))
        replace hb6:=hkx.at hb6 (obj_ne hb6 HS2.out.g.mx.at_ (by decide))
        go_simp
        refine hK.out _ _ (.inr ⟨⟨HS9.out.g.at_,_,HS9.out.g.mx⟩,hb6⟩) (fun hHeld=>?_)
        clear hK K hm hkx ho hrd
        replace hHeld:=hHeld.resolve_left (by decide)
        refine wpTill.ready (rs:=[10]) (by kernel_rfl) (by simp) (TillAll.cons (o:=_) rfl (fun K hK=>?_) TillAll.nil)
        go_simp
        refine (mkop_any (AG W D bn) (pmF k2) t t9 _ _ _ HF9.out HR9.out (fun b hb=>⟨by have:=HS9.out.g.ge;have:=zL HS9.out.g.at_;omega,by have:=zL HS9.out.g.at_;omega,by have:=zL HS9.out.g.mx.at_;omega⟩)).mono ?_
        rintro e wo ⟨vo,rfl,hxo,hro⟩
        have HRO:=zH hro
        have HSo:=zH (HS9.out.ext hxo)
        have HNo:=zH ((hxo.block _ (zL HN9.out)).trans HN9.out)
        replace hb6:=(hxo.block _ (zL hb6)).trans hb6
        obtain ⟨o0,z1,z2,o3,b4,l4,c4,rfl⟩:=HRO.out.form
        obtain ⟨hcc,hff,lDo⟩:=zC HSo.out.g.at_
        have c6:=zk hcc 6
        have c7:=zk hcc 7
        have c8:=zk hcc 8
        have c9:=zk hcc 9
        have c10:=zk hcc 10
        have f6:=hff 6;have f7:=hff 7;have f8:=hff 8;have f9:=hff 9;have f10:=hff 10
        clear hcc hff hxo hro
        go_simp
        refine hK.out _ _ (.inr ⟨⟨HSo.out.g.at_,_,HSo.out.g.mx⟩,hb6⟩) (fun hHeld=>?_)
        clear hK K
        replace hHeld:=hHeld.resolve_left (by decide)
        refine wpTill.take (i:=11) (oi:=_) (v:=.pointer (some ⟨D,6,none⟩)) rfl (by kernel_rfl) (fun c a w h=>by have h':_∧_:=h;exact ⟨(Rr.put_defers a _ _).symm.trans h'.1,h'.2⟩) (Or.inl ⟨by rfl,fun wz hz=>by
         have hss:=HSS.out wz hz.1.1
         skip
         go_simp⟩) hHeld ?_
        simp only [Act.put,gd,ge,gf]
        refine wpTill.ready (rs:=[12]) (by kernel_rfl) (by simp) (TillAll.cons (o:=_) rfl (fun K hK=>?_) TillAll.nil)
        go_simp
        have HSa:=zH (HSo.out.setF o0 o3 z1 z2 (b4,l4,c4))
        have HNa:=zH ((put6_other wo (obj_ne HNo.out HSo.out.g.at_ (by decide)) (.string o0) (iV z1) (iV z2) (.string o3) (slV (b4,l4,c4))).trans HNo.out)
        have HFa:=zH (HRO.out.put6 (D:=D) (fun b hb=>hb.2.1) (.string o0) (iV z1) (iV z2) (.string o3) (slV (b4,l4,c4)))
        refine hK.out _ _ (.inl rfl) (fun _=>?_)
        clear hK K hHeld
        refine wpTill.done (by kernel_rfl) ?_ _
        go_wp2_with (fail)
        exact ⟨⟨i+1,_,_,_,by simp,by omega,HSa,HNa,HFa,zH (.add (i+1) (if k2=2 then 1 else 0) t t9 HSU.out HO9.out (by split <;> simp))⟩,by simp [iof];omega⟩
       ·skip
        go_simp
        (refine (nx_any HSd.out.g.mx 3 (by decide)).mono ?_)
        rintro e w2 ⟨k2,pz,rfl,hk2,hm,hkx⟩
        have HS2:=zH (HSd.out.kx hm hkx)
        have HN2:=zH (hkx.at HNd.out (obj_ne HNd.out HSd.out.g.mx.at_ (by decide)))
        have HF2:=zH (HFd.out.kx hkx (fun b hb=>hb.2.2))
        skip
        go_simp
        refine hK.out _ _ (.inr ⟨HS2.out.g.at_,_,HS2.out.g.mx⟩) (fun hHeld=>?_)
        clear hK K hm hkx
        replace hHeld:=hHeld.resolve_left (by decide)
        refine wpTill.ready (rs:=[0,9]) (by kernel_rfl) (by simp) (TillAll.cons (o:=_) rfl (fun K hK=>?_) (TillAll.cons (o:=_) rfl (fun K hK=>?_) TillAll.nil))
        ·skip
         go_simp
         have hx6:=Ext.alloc (Ext.refl w2) (.cells #[.string addB,.string addB,.string subB] 9)
         have hb6:=heap_alloc_new w2 (.cells #[.string addB,.string addB,.string subB] 9)
         have HS6:=zH (HS2.out.ext hx6)
         have HN6:=zH ((hx6.block _ (zL HN2.out)).trans HN2.out)
         have HF6:=zH (HF2.out.ext hx6)
         skip
         refine hK.out _ _ (.inr ⟨HS6.out.g.at_,_,HS6.out.g.mx⟩) (fun hHeld=>?_)
         clear hK K hx6
         replace hHeld:=hHeld.resolve_left (by decide)
         obtain ⟨p,hp⟩:∃ p,p=(w2).heap.size:=⟨_,rfl⟩
         rw [← hp] at hb6 ⊢
         clear hp
         generalize (w2).alloc (.cells #[.string addB,.string addB,.string subB] 9)=wm at *
         refine wpTill.more (T':=fun w'=>(w'.heap[D]? = some (.cells (tenC r) 39)∧∃ pos,MX W w' bn (.slice A ns.length c) ns pos)∧w'.heap[p]? = some (.cells #[.string addB,.string addB,.string subB] 9)) (fun _ h=>h.1) _ _ _ _ ?_
         replace hHeld:=And.intro hHeld hb6
         refine wpTill.take (i:=3) (oi:=_) (v:=.pointer (some ⟨p,k2,none⟩)) rfl (by kernel_rfl) (fun c a w h=>by have h':_∧_:=h;exact ⟨(Rr.put_defers a _ _).symm.trans h'.1,h'.2⟩) (Or.inl ⟨by rfl,fun wz hz=>by
          have hss:=HSS.out wz hz.1.1
          skip
          go_simp⟩) hHeld ?_
         simp only [Act.put,gd,ge,gf]
         refine wpTill.take (i:=4) (oi:=_) (v:=.string (pmF k2)) rfl (by kernel_rfl) (fun c a w h=>by have h':_∧_:=h;exact ⟨(Rr.put_defers a _ _).symm.trans h'.1,h'.2⟩) (Or.inl ⟨by rfl,fun wz hz=>by
          have hss:=HSS.out wz hz.1.1
          have hrr:=pm_at k2 hk2 wz p hz.2
          go_simp⟩) hHeld ?_
         simp only [Act.put,gd,ge,gf]
         refine wpTill.ready (rs:=[9]) (by kernel_rfl) (by simp) (TillAll.cons (o:=_) rfl (fun K hK=>?_) TillAll.nil)
         go_simp
         refine (HONE.out _ _ HS6.out).mono ?_
         rintro e w9 ⟨v9,t9,pz9,rfl,ho,hm,hkx,hrd⟩
         have HO9:=zH ho
         have HR9:=zH hrd
         have HS9:=zH (HS6.out.kx hm hkx)
         have HN9:=zH (hkx.at HN6.out (obj_ne HN6.out HS6.out.g.mx.at_ (by decide)))
         have HF9:=zH (HF6.out.kx hkx (fun b hb=>hb.2.2))
         replace hb6:=hkx.at hb6 (obj_ne hb6 HS6.out.g.mx.at_ (by decide))
         go_simp
         refine hK.out _ _ (.inr ⟨⟨HS9.out.g.at_,_,HS9.out.g.mx⟩,hb6⟩) (fun hHeld=>?_)
         clear hK K hm hkx ho hrd
         replace hHeld:=hHeld.resolve_left (by decide)
         refine wpTill.ready (rs:=[10]) (by kernel_rfl) (by simp) (TillAll.cons (o:=_) rfl (fun K hK=>?_) TillAll.nil)
         go_simp
         refine (mkop_any (AG W D bn) (pmF k2) t t9 _ _ _ HF9.out HR9.out (fun b hb=>⟨by have:=HS9.out.g.ge;have:=zL HS9.out.g.at_;omega,by have:=zL HS9.out.g.at_;omega,by have:=zL HS9.out.g.mx.at_;omega⟩)).mono ?_
         rintro e wo ⟨vo,rfl,hxo,hro⟩
         have HRO:=zH hro
         have HSo:=zH (HS9.out.ext hxo)
         have HNo:=zH ((hxo.block _ (zL HN9.out)).trans HN9.out)
         replace hb6:=(hxo.block _ (zL hb6)).trans hb6
         obtain ⟨o0,z1,z2,o3,b4,l4,c4,rfl⟩:=HRO.out.form
         obtain ⟨hcc,hff,lDo⟩:=zC HSo.out.g.at_
         have c6:=zk hcc 6
         have c7:=zk hcc 7
         have c8:=zk hcc 8
         have c9:=zk hcc 9
         have c10:=zk hcc 10
         have f6:=hff 6;have f7:=hff 7;have f8:=hff 8;have f9:=hff 9;have f10:=hff 10
         clear hcc hff hxo hro
         go_simp
         refine hK.out _ _ (.inr ⟨⟨HSo.out.g.at_,_,HSo.out.g.mx⟩,hb6⟩) (fun hHeld=>?_)
         clear hK K
         replace hHeld:=hHeld.resolve_left (by decide)
         refine wpTill.take (i:=11) (oi:=_) (v:=.pointer (some ⟨D,6,none⟩)) rfl (by kernel_rfl) (fun c a w h=>by have h':_∧_:=h;exact ⟨(Rr.put_defers a _ _).symm.trans h'.1,h'.2⟩) (Or.inl ⟨by rfl,fun wz hz=>by
          have hss:=HSS.out wz hz.1.1
          skip
          go_simp⟩) hHeld ?_
         simp only [Act.put,gd,ge,gf]
         refine wpTill.ready (rs:=[12]) (by kernel_rfl) (by simp) (TillAll.cons (o:=_) rfl (fun K hK=>?_) TillAll.nil)
         go_simp
         have HSa:=zH (HSo.out.setF o0 o3 z1 z2 (b4,l4,c4))
         have HNa:=zH ((put6_other wo (obj_ne HNo.out HSo.out.g.at_ (by decide)) (.string o0) (iV z1) (iV z2) (.string o3) (slV (b4,l4,c4))).trans HNo.out)
         have HFa:=zH (HRO.out.put6 (D:=D) (fun b hb=>hb.2.1) (.string o0) (iV z1) (iV z2) (.string o3) (slV (b4,l4,c4)))
         refine hK.out _ _ (.inl rfl) (fun _=>?_)
         clear hK K hHeld
         refine wpTill.done (by kernel_rfl) ?_ _
         go_wp2_with (fail)
         exact ⟨⟨i+1,_,_,_,by simp,by omega,HSa,HNa,HFa,zH (.add (i+1) (if k2=2 then 1 else 0) t t9 HSU.out HO9.out (by split <;> simp))⟩,by simp [iof];omega⟩
        ·skip
         go_simp
         refine (HONE.out _ _ HS2.out).mono ?_
         rintro e w9 ⟨v9,t9,pz9,rfl,ho,hm,hkx,hrd⟩
         have HO9:=zH ho
         have HR9:=zH hrd
         have HS9:=zH (HS2.out.kx hm hkx)
         have HN9:=zH (hkx.at HN2.out (obj_ne HN2.out HS2.out.g.mx.at_ (by decide)))
         have HF9:=zH (HF2.out.kx hkx (fun b hb=>hb.2.2))
         skip
         go_simp
         refine hK.out _ _ (.inr ⟨HS9.out.g.at_,_,HS9.out.g.mx⟩) (fun hHeld=>?_)
         clear hK K hm hkx ho hrd
         replace hHeld:=hHeld.resolve_left (by decide)
         refine wpTill.ready (rs:=[0]) (by kernel_rfl) (by simp) (TillAll.cons (o:=_) rfl (fun K hK=>?_) TillAll.nil)
         go_simp
         have hx6:=Ext.alloc (Ext.refl w9) (.cells #[.string addB,.string addB,.string subB] 9)
         have hb6:=heap_alloc_new w9 (.cells #[.string addB,.string addB,.string subB] 9)
         have HS6:=zH (HS9.out.ext hx6)
         have HN6:=zH ((hx6.block _ (zL HN9.out)).trans HN9.out)
         have HF6:=zH (HF9.out.ext hx6)
         have HR6:=zH (HR9.out.ext hx6)
         refine hK.out _ _ (.inr ⟨HS6.out.g.at_,_,HS6.out.g.mx⟩) (fun hHeld=>?_)
         clear hK K hx6
         replace hHeld:=hHeld.resolve_left (by decide)
         obtain ⟨p,hp⟩:∃ p,p=(w9).heap.size:=⟨_,rfl⟩
         rw [← hp] at hb6 ⊢
         clear hp
         generalize (w9).alloc (.cells #[.string addB,.string addB,.string subB] 9)=wm at *
         refine wpTill.more (T':=fun w'=>(w'.heap[D]? = some (.cells (tenC r) 39)∧∃ pos,MX W w' bn (.slice A ns.length c) ns pos)∧w'.heap[p]? = some (.cells #[.string addB,.string addB,.string subB] 9)) (fun _ h=>h.1) _ _ _ _ ?_
         replace hHeld:=And.intro hHeld hb6
         refine wpTill.take (i:=3) (oi:=_) (v:=.pointer (some ⟨p,k2,none⟩)) rfl (by kernel_rfl) (fun c a w h=>by have h':_∧_:=h;exact ⟨(Rr.put_defers a _ _).symm.trans h'.1,h'.2⟩) (Or.inl ⟨by rfl,fun wz hz=>by
          have hss:=HSS.out wz hz.1.1
          skip
          go_simp⟩) hHeld ?_
         simp only [Act.put,gd,ge,gf]
         refine wpTill.take (i:=4) (oi:=_) (v:=.string (pmF k2)) rfl (by kernel_rfl) (fun c a w h=>by have h':_∧_:=h;exact ⟨(Rr.put_defers a _ _).symm.trans h'.1,h'.2⟩) (Or.inl ⟨by rfl,fun wz hz=>by
          have hss:=HSS.out wz hz.1.1
          have hrr:=pm_at k2 hk2 wz p hz.2
          go_simp⟩) hHeld ?_
         simp only [Act.put,gd,ge,gf]
         refine wpTill.ready (rs:=[10]) (by kernel_rfl) (by simp) (TillAll.cons (o:=_) rfl (fun K hK=>?_) TillAll.nil)
         go_simp
         refine (mkop_any (AG W D bn) (pmF k2) t t9 _ _ _ HF6.out HR6.out (fun b hb=>⟨by have:=HS6.out.g.ge;have:=zL HS6.out.g.at_;omega,by have:=zL HS6.out.g.at_;omega,by have:=zL HS6.out.g.mx.at_;omega⟩)).mono ?_
         rintro e wo ⟨vo,rfl,hxo,hro⟩
         have HRO:=zH hro
         have HSo:=zH (HS6.out.ext hxo)
         have HNo:=zH ((hxo.block _ (zL HN6.out)).trans HN6.out)
         replace hb6:=(hxo.block _ (zL hb6)).trans hb6
         obtain ⟨o0,z1,z2,o3,b4,l4,c4,rfl⟩:=HRO.out.form
         obtain ⟨hcc,hff,lDo⟩:=zC HSo.out.g.at_
         have c6:=zk hcc 6
         have c7:=zk hcc 7
         have c8:=zk hcc 8
         have c9:=zk hcc 9
         have c10:=zk hcc 10
         have f6:=hff 6;have f7:=hff 7;have f8:=hff 8;have f9:=hff 9;have f10:=hff 10
         clear hcc hff hxo hro
         go_simp
         refine hK.out _ _ (.inr ⟨⟨HSo.out.g.at_,_,HSo.out.g.mx⟩,hb6⟩) (fun hHeld=>?_)
         clear hK K
         replace hHeld:=hHeld.resolve_left (by decide)
         refine wpTill.take (i:=11) (oi:=_) (v:=.pointer (some ⟨D,6,none⟩)) rfl (by kernel_rfl) (fun c a w h=>by have h':_∧_:=h;exact ⟨(Rr.put_defers a _ _).symm.trans h'.1,h'.2⟩) (Or.inl ⟨by rfl,fun wz hz=>by
          have hss:=HSS.out wz hz.1.1
          skip
          go_simp⟩) hHeld ?_
         simp only [Act.put,gd,ge,gf]
         refine wpTill.ready (rs:=[12]) (by kernel_rfl) (by simp) (TillAll.cons (o:=_) rfl (fun K hK=>?_) TillAll.nil)
         go_simp
         have HSa:=zH (HSo.out.setF o0 o3 z1 z2 (b4,l4,c4))
         have HNa:=zH ((put6_other wo (obj_ne HNo.out HSo.out.g.at_ (by decide)) (.string o0) (iV z1) (iV z2) (.string o3) (slV (b4,l4,c4))).trans HNo.out)
         have HFa:=zH (HRO.out.put6 (D:=D) (fun b hb=>hb.2.1) (.string o0) (iV z1) (iV z2) (.string o3) (slV (b4,l4,c4)))
         refine hK.out _ _ (.inl rfl) (fun _=>?_)
         clear hK K hHeld
         refine wpTill.done (by kernel_rfl) ?_ _
         go_wp2_with (fail)
         exact ⟨⟨i+1,_,_,_,by simp,by omega,HSa,HNa,HFa,zH (.add (i+1) (if k2=2 then 1 else 0) t t9 HSU.out HO9.out (by split <;> simp))⟩,by simp [iof];omega⟩
      ·obtain rfl:i=kp:=by omega
       go_wp2
       go_meet
       case rel=>exact ⟨pos,r,t,HS,HNR,HF,zH ⟨i+1,by omega,HSU.out⟩⟩
    case rest=>
     obtain ⟨pos,r,t,HS,HNR,HF,HSU⟩:=hcut
     clear HS23 HN23 HF23 HO
     rename World=>wc
     obtain ⟨lim,hlim⟩:∃ x,x=wc.heap.size:=⟨_,rfl⟩
     have HTS:Hid (TS W D bn lim pn wc r t):=zH ⟨by rw [hlim];exact Rd.alive _ _ HF.out,HNR.out,by rw [hlim];exact zL HNR.out,fun b e=>by rw [HS.out.tz rfl] at e;cases e⟩
     have hll:lim≤wc.heap.size:=Nat.le_of_eq hlim
     have HFM:Hid (FoM T.cs t):=zH (.inr HSU.out)
     clear hlim HF HNR HSU
     go_upto_if 147 with (go_at_call 29;(refine (nx_any HS.out.g.mx 3 (by decide)).mono ?_);rintro e w27 ⟨k27,pos27,rfl,hk27,hm,hkx⟩;have HS27:=zH (HS.out.kx hm hkx);have HT27:=zH (HTS.out.kx HS.out.g.mx hkx);have hl27:lim≤w27.heap.size:=Nat.le_trans hll hkx.size;clear hm hkx HS HTS hll)
     go_cut [148] (fun s148 wx=>∃ (pos:Nat) (r:TnR) (T:TP),Hid (GS W D bn (.slice A ns.length c) ns wx pos n5 nc nc 1 r T)∧Hid (TS W D bn lim pn wx r t)∧lim≤wx.heap.size∧Hid (FoM T.cs t))
     case first=>as_aux_lemma=>
      by_cases hk0:(0:Int) < (k27:Int)
      ·obtain ⟨⟨ta,tn,tc⟩,hrl⟩:∃ x:Sl,x=r.ts:=⟨_,rfl⟩
       obtain rfl:tn=T.ts.length:=row_len (by have:=HS27.out.g.ts_;rw [← hrl] at this;exact this)
       have HLS:Hid (slV r.ts=.slice ta T.ts.length tc):=zH (by rw [← hrl])
       have hel:T.ts.length < 1000000:=by have:=HS27.out.l.tl;omega
       obtain ⟨hcc,-,lD⟩:=zC HS27.out.g.at_
       have c11:w27.cell? ⟨D,11,none⟩=some (.slice ta T.ts.length tc):=(hcc 11).trans (congrArg some HLS.out)
       clear hcc hrl
       have hxa:=Ext.alloc (Ext.refl w27) (.cells #[.string priceB] 9)
       have hpb:=heap_alloc_new w27 (.cells #[.string priceB] 9)
       have HSA:=zH (HS27.out.ext hxa);have HTA:=zH (HT27.out.kx HS27.out.g.mx (KX.of_ext hxa))
       have hsz:W.heap.size≤(w27.alloc (.cells #[.string priceB] 9)).heap.size:=HSA.out.g.mx.low.size
       have hla:lim≤(w27.alloc (.cells #[.string priceB] 9)).heap.size:=Nat.le_trans hl27 hxa.size
       go_wp2_with (at_builtin;refine append_str rfl (.tmp 149) (.tmp 150) rfl W.heap.size (.slice ta T.ts.length tc) T.ts (by rfl) (HLS.out ▸ HSA.out.g.ts_) w27.heap.size priceB (by rfl) hpb hel hsz ?_;intro g7 cap7 w7 hr7 hg7 hat7;rw [← HLS.out] at hg7 hat7;have hat:=row_stays HSA.out.g.ts_ hg7 HSA.out.g.at_ (by decide);have HSN:=zH (HSA.out.pushT (x:=(some ⟨g7,0,none⟩,T.ts.length+1,cap7)) hg7 hr7 (.inl rfl));have HTN:=zH (HTA.out.pushT (n:=T.ts.length+1) (c:=cap7) HSA.out.g.at_ hg7 hla hat7);have hlN:lim≤w7.heap.size:=Nat.le_trans hla hg7.size;obtain ⟨hcc,hff,lDo⟩:=zC hat;have c1:w7.cell? ⟨D,11,none⟩=some (.slice ta T.ts.length tc):=(hcc 11).trans (congrArg some HLS.out);have f1:=hff 11;clear hr7 hg7 hat7 hat hcc hff)
       go_meet
       case rel=>exact ⟨_,_,_,HSN,HTN,by simpa using hlN,HFM⟩
      ·go_wp2
       go_meet
       case rel=>exact ⟨_,_,_,zH (HS27.out.up (Nat.le_refl _) (by decide)),HT27,hl27,HFM⟩
     case rest=>
      obtain ⟨pos,r,T,HS,HTS,hlw,HFM⟩:=hcut
      clear HS27 HT27 hl27
      rename World=>wc
      go_upto_block 8 with (fail)
      go_cut [14] (fun s14 wx=>∃ (pos:Nat) (r:TnR) (T:TP),Hid (GS W D bn (.slice A ns.length c) ns wx pos n5 nc nc (nc+1) r T)∧Hid (TS W D bn lim pn wx r t)∧lim≤wx.heap.size∧Hid (FoM T.cs t))
      case first=>as_aux_lemma=>
       go_wp2_with (fail)
       go_loopw [14] (fun iv wr=>∃ (i pos:Nat) (r:TnR) (T:TP),iv=iV i∧i≤nc∧Hid (GS W D bn (.slice A ns.length c) ns wr pos n5 nc nc (i+1) r T)∧Hid (TS W D bn lim pn wr r t)∧lim≤wr.heap.size∧Hid (FoM T.cs t)) (fun iv _=>nc - (iof iv).toNat)
       case atStart=>exact ⟨0,pos,r,T,rfl,by omega,HS,HTS,hlw,HFM⟩
       case round=>
        clear HS HTS HFM hlw
        rename World=>wr
        obtain ⟨i,pos,r,T,rfl,hi,HS,HTS,hlw,HFM⟩:=hrel
        by_cases hlt:i < nc
        ·go_upto_if 160 with (go_at_call 29;(refine (nx_any HS.out.g.mx 3 (by decide)).mono ?_);rintro e w32 ⟨k32,pos32,rfl,hk32,hm,hkx⟩;have HS32:=zH (HS.out.kx hm hkx);have HT32:=zH (HTS.out.kx HS.out.g.mx hkx);have hl32:lim≤w32.heap.size:=Nat.le_trans hlw hkx.size;clear hm hkx HS HTS hlw)
         by_cases hk0:(0:Int) < (k32:Int)
         ·obtain ⟨⟨ta,tn,tc⟩,hrl⟩:∃ x:Sl,x=r.ts:=⟨_,rfl⟩
          obtain rfl:tn=T.ts.length:=row_len (by have:=HS32.out.g.ts_;rw [← hrl] at this;exact this)
          have HLS:Hid (slV r.ts=.slice ta T.ts.length tc):=zH (by rw [← hrl])
          have hel:T.ts.length < 1000000:=by have:=HS32.out.l.tl;omega
          have HSS:Hid (∀ wz:World,(wz.heap[D]? = some (.cells (tenC r) 39)∧wz.heap[pn]? = some (.cells nmC 9))→wz.cell? ⟨D,11,none⟩=some (.slice ta T.ts.length tc)∧wz.cell? ⟨pn,i,none⟩=some (.string (nmF i))∧D < wz.heap.size∧pn < wz.heap.size):=zH fun wz ⟨h1,h2⟩=>by
           refine ⟨(cell_of_row wz D 11 _ _ _ h1).trans (congrArg some HLS.out),(cell_of_row wz pn i _ _ _ h2).trans ?_,zL h1,zL h2⟩
           obtain rfl|rfl|rfl:i=0∨i=1∨i=2:=by omega
           ·rfl
           ·rfl
           ·rfl
          have hi3:(i:Int) < 3:=by omega
          have HME : Hid (nmF i = priceB ∨ ∃ c ∈ T.cs, nmF i = c.name) := zH (.inr ⟨T.cs[i]'(by have := HS32.out.l.cl; omega), List.getElem_mem _, (HS32.out.l.cs i _).1.symm⟩)
          clear hrl
          go_upto_region 33 with (fail)
          clear hk0
          have HSd:=zH (HS32.out.ext (Ext.drew (Ext.refl w32)))
          have HTd:=zH (HT32.out.kx HS32.out.g.mx (KX.of_ext (Ext.drew (Ext.refl w32))))
          have hld:lim≤w32.drew.heap.size:=hl32
          refine wpTill.start 9 (fun w'=>w'.heap[D]? = some (.cells (tenC r) 39)∧w'.heap[pn]? = some (.cells nmC 9)) (by kernel_rfl) ⟨HSd.out.g.at_,HTd.out.nm⟩ (fun hHeld=>?_)
          clear HS32 HT32 hl32
          generalize w32.drew=wd at *
          refine wpTill.take (i:=0) (oi:=_) (v:=.pointer (some ⟨D,11,none⟩)) rfl (by kernel_rfl) (fun c a w h=>by have h':_∧_:=h;exact ⟨(Rr.put_defers a _ _).symm.trans h'.1,h'.2⟩) (Or.inl ⟨by rfl,fun wz hz=>by
           have hss:=HSS.out wz hz
           go_simp⟩) hHeld ?_
          simp only [Act.put,gd,ge,gf]
          refine wpTill.take (i:=1) (oi:=_) (v:=.slice ta T.ts.length tc) rfl (by kernel_rfl) (fun c a w h=>by have h':_∧_:=h;exact ⟨(Rr.put_defers a _ _).symm.trans h'.1,h'.2⟩) (Or.inl ⟨by rfl,fun wz hz=>by
           have hss:=HSS.out wz hz
           go_simp⟩) hHeld ?_
          simp only [Act.put,gd,ge,gf]
          refine wpTill.take (i:=2) (oi:=_) (v:=.slice (some ⟨pn,0,none⟩) 3 3) rfl (by kernel_rfl) (fun c a w h=>by have h':_∧_:=h;exact ⟨(Rr.put_defers a _ _).symm.trans h'.1,h'.2⟩) (Or.inl ⟨by rfl,fun wz hz=>by
           have hss:=HSS.out wz hz
           go_simp⟩) hHeld ?_
          simp only [Act.put,gd,ge,gf]
          refine wpTill.take (i:=3) (oi:=_) (v:=iV (i:Int)) rfl (by kernel_rfl) (fun c a w h=>by have h':_∧_:=h;exact ⟨(Rr.put_defers a _ _).symm.trans h'.1,h'.2⟩) (Or.inl ⟨by rfl,fun wz hz=>by
           have hss:=HSS.out wz hz
           go_simp⟩) hHeld ?_
          simp only [Act.put,gd,ge,gf]
          refine wpTill.take (i:=4) (oi:=_) (v:=.pointer (some ⟨pn,i,none⟩)) rfl (by kernel_rfl) (fun c a w h=>by have h':_∧_:=h;exact ⟨(Rr.put_defers a _ _).symm.trans h'.1,h'.2⟩) (Or.inl ⟨by rfl,fun wz hz=>by
           have hss:=HSS.out wz hz
           go_simp⟩) hHeld ?_
          simp only [Act.put,gd,ge,gf]
          refine wpTill.take (i:=5) (oi:=_) (v:=.string (nmF i)) rfl (by kernel_rfl) (fun c a w h=>by have h':_∧_:=h;exact ⟨(Rr.put_defers a _ _).symm.trans h'.1,h'.2⟩) (Or.inl ⟨by rfl,fun wz hz=>by
           have hss:=HSS.out wz hz
           go_simp⟩) hHeld ?_
          simp only [Act.put,gd,ge,gf]
          refine wpTill.ready (rs:=[6]) (by kernel_rfl) (by simp) (TillAll.cons (o:=_) rfl (fun K hK=>?_) TillAll.nil)
          go_simp
          have hx7:=Ext.alloc (Ext.refl wd) (.cells #[.string (nmF i)] 9)
          have hb7:=heap_alloc_new wd (.cells #[.string (nmF i)] 9)
          have HS7:=zH (HSd.out.ext hx7)
          have HT7:=zH (HTd.out.kx HSd.out.g.mx (KX.of_ext hx7))
          have hl7:lim≤(wd.alloc (.cells #[.string (nmF i)] 9)).heap.size:=Nat.le_trans hld hx7.size
          refine hK.out _ _ (.inr ⟨HS7.out.g.at_,HT7.out.nm⟩) (fun hHeld=>?_)
          clear hK K hx7
          replace hHeld:=hHeld.resolve_left (by decide)
          obtain ⟨p7,hp7⟩:∃ p7,p7=wd.heap.size:=⟨_,rfl⟩
          rw [← hp7] at hb7 ⊢
          clear hp7
          generalize wd.alloc (.cells #[.string (nmF i)] 9)=wq at *
          have hsz:W.heap.size≤wq.heap.size:=HS7.out.g.mx.low.size
          refine wpTill.ready (rs:=[7]) (by kernel_rfl) (by simp) (TillAll.cons (o:=_) rfl (fun K hK=>?_) TillAll.nil)
          rw [if_pos (by rfl)]
          refine op_append (cs:=strC) (z:=.string ⟨#[]⟩) one_str 34 9 16 Tryz.underlying34 (by kernel_rfl) (by rfl) (by decide) (by decide) (.tmp 162) (.tmp 167) rfl W.heap.size (.slice ta T.ts.length tc) T.ts (by rfl) (HLS.out ▸ HS7.out.g.ts_) p7 (nmF i) (by rfl) hb7 hel hsz ?_
          intro g7 cap7 w7 hr7 hg7 hat7
          rw [← HLS.out] at hg7 hat7
          have hat:=row_stays HS7.out.g.ts_ hg7 HS7.out.g.at_ (by decide)
          have HSN:=zH (HS7.out.pushT (x:=(some ⟨g7,0,none⟩,T.ts.length+1,cap7)) hg7 hr7 HME.out)
          have HTN:=zH (HT7.out.pushT (n:=T.ts.length+1) (c:=cap7) HS7.out.g.at_ hg7 hl7 hat7)
          have hnt:w7.heap[pn]? = some (.cells nmC 9):=(hg7.block pn (zL HT7.out.nm) (fun e=>Nat.lt_irrefl _ (Nat.lt_of_lt_of_le HT7.out.pl (HT7.out.own pn e.symm)))).trans HT7.out.nm
          have hlN:lim≤w7.heap.size:=Nat.le_trans hl7 hg7.size
          obtain ⟨hcc,hff,lDo⟩:=zC hat
          have c1:w7.cell? ⟨D,11,none⟩=some (.slice ta T.ts.length tc):=(hcc 11).trans (congrArg some HLS.out)
          have f1:=hff 11
          refine hK.out _ _ (.inr ⟨hat,hnt⟩) (fun hHeld=>?_)
          clear hK K hr7 hg7 hat7 hat hnt hcc hff
          replace hHeld:=hHeld.resolve_left (by decide)
          simp only [Act.put,gd,ge,gf]
          refine wpTill.take (i:=8) (oi:=_) (v:=.pointer (some ⟨D,11,none⟩)) rfl (by kernel_rfl) (fun c a w h=>by have h':_∧_:=h;exact ⟨(Rr.put_defers a _ _).symm.trans h'.1,h'.2⟩) (Or.inl ⟨by rfl,fun wz hz=>by
           have hss:=HSS.out wz hz
           go_simp⟩) hHeld ?_
          simp only [Act.put,gd,ge,gf]
          refine wpTill.ready (rs:=[9]) (by kernel_rfl) (by simp) (TillAll.cons (o:=_) rfl (fun K hK=>?_) TillAll.nil)
          go_simp
          refine hK.out _ _ (.inl rfl) (fun _=>?_)
          clear hK K hHeld
          refine wpTill.done (by kernel_rfl) ?_ _
          go_wp2_with (fail)
          exact ⟨⟨i+1,_,_,_,by simp,by omega,HSN,HTN,by simpa using hlN,HFM⟩,by simp [iof];omega⟩
         ·go_wp2_with (fail)
          exact ⟨⟨i+1,_,_,_,by simp,by omega,zH (HS32.out.up (Nat.le_refl _) (Nat.le_succ _)),HT32,hl32,HFM⟩,by simp [iof];omega⟩
        ·obtain rfl:i=nc:=by omega
         go_wp2
         go_meet
         case rel=>exact ⟨pos,r,T,HS,HTS,hlw,HFM⟩
      case rest=>
       obtain ⟨pos,r,T,HS,HTS,hlw,HFM⟩:=hcut
       rename World=>wc
       go_upto_region 34 with (fail)
       go_cut [176] (fun s176 wx=>∃ (b:Bool) (pos:Nat),s176=.bool b∧Hid (GS W D bn (.slice A ns.length c) ns wx pos n5 nc nc (nc+1) r T)∧Hid (TS W D bn lim pn wx r t))
       case first=>as_aux_lemma=>
        by_cases h1:(1:Int) < (n5:Int)
        ·go_wp2_with (go_at_call 29;(refine (nx_any HS.out.g.mx 2 (by decide)).mono ?_);rintro e w34 ⟨k34,pos34,rfl,hk34,hm,hkx⟩;have HS34:=zH (HS.out.kx hm hkx);have HT34:=zH (HTS.out.kx HS.out.g.mx hkx);clear hm hkx)
         go_meet
         case rel=>exact ⟨_,_,rfl,HS34,HT34⟩
        ·go_wp2
         go_meet
         case rel=>exact ⟨_,_,rfl,HS,HTS⟩
       case rest=>
        obtain ⟨b,pos,rfl,HS,HTS⟩:=hcut
        rename World=>wc
        go_upto_if 176 with (fail)
        go_cut [177] (fun s177 wx=>∃ (pos:Nat) (r:TnR) (kk:List Sl),Hid (GZ W D bn lim (.slice A ns.length c) ns wx pos n5 nc nc (nc+1) r T t kk))
        case first=>as_aux_lemma=>
         cases b with
         | false=>
          go_wp2
          go_meet
          case rel=>exact ⟨_,_,_,zH ⟨HS.out.g,HS.out.l,HS.out.n,HTS.out.fo,.inl ⟨HS.out.k,rfl⟩⟩⟩
         | true=>
          have hx1:=Ext.alloc (Ext.refl wc) (.cells #[iV 1,iV 2] 3)
          have hx2:=Ext.alloc (Ext.refl (wc.alloc (.cells #[iV 1,iV 2] 3))) (.cells #[.slice (some ⟨wc.heap.size,0,none⟩) 2 2] 22)
          have hb1:=(hx2.block _ (zL (heap_alloc_new wc (.cells #[iV 1,iV 2] 3)))).trans (heap_alloc_new wc (.cells #[iV 1,iV 2] 3))
          have hb2:=heap_alloc_new (wc.alloc (.cells #[iV 1,iV 2] 3)) (.cells #[.slice (some ⟨wc.heap.size,0,none⟩) 2 2] 22)
          have HG2:=zH ((HS.out.g.ext hx1).ext hx2)
          have HF2:=zH ((HTS.out.fo.ext hx1).ext hx2)
          obtain ⟨hcc,hff,lD⟩:=zC HG2.out.at_
          have c13:((wc.alloc (.cells #[iV 1,iV 2] 3)).alloc (.cells #[.slice (some ⟨wc.heap.size,0,none⟩) 2 2] 22)).cell? ⟨D,13,none⟩=some (slV r.ks):=hcc 13
          have f13:=hff 13
          clear hcc hff
          have HG3:=zH (HG2.out.set (r':={ r with ks:=(some ⟨(wc.alloc (.cells #[iV 1,iV 2] 3)).heap.size,0,none⟩,1,1) }) 13 _ rfl rfl rfl rfl rfl)
          have hq1:=(heap_setCell_other _ ⟨D,13,none⟩ _ (slV (some ⟨(wc.alloc (.cells #[iV 1,iV 2] 3)).heap.size,0,none⟩,1,1)) (obj_ne hb1 HG2.out.at_ (by decide))).trans hb1
          have hq2:=(heap_setCell_other _ ⟨D,13,none⟩ _ (slV (some ⟨(wc.alloc (.cells #[iV 1,iV 2] 3)).heap.size,0,none⟩,1,1)) (obj_ne hb2 HG2.out.at_ (by decide))).trans hb2
          have HF3:=zH (HF2.out.put (D:=D) (j:=13) (x:=slV (some ⟨(wc.alloc (.cells #[iV 1,iV 2] 3)).heap.size,0,none⟩,1,1)) (fun b hb=>hb.1.2.1))
          have HZ3:Hid (GZ W D bn lim (.slice A ns.length c) ns _ pos n5 nc nc (nc+1) { r with ks:=(some ⟨(wc.alloc (.cells #[iV 1,iV 2] 3)).heap.size,0,none⟩,1,1) } T t [(some ⟨wc.heap.size,0,none⟩,2,2)]):=zH ⟨HG3.out,HS.out.l,⟨HS.out.n.nm,HS.out.n.low,HS.out.n.high,HS.out.n.budget,HS.out.n.most,HS.out.n.t0,HS.out.n.t1,HS.out.n.t2,HS.out.n.t3,HS.out.n.t4⟩,HF3.out,.inr ⟨_,_,rfl,hq1,hq2,rfl⟩⟩
          clear HG3 hq1 hq2 HF3 HF2 hb1 hb2 hx1 hx2
          simp only [World.size_alloc] at c13 f13 HZ3
          go_wp2
          go_meet
          case rel=>exact ⟨_,_,_,HZ3⟩
        case rest=>
         obtain ⟨pos,r,kk,HZ⟩:=hcut
         clear HS HTS hlw
         rename World=>wc
         go_upto_region 37 with (go_at_call 29;(refine (nx_any HZ.out.g.mx 5 (by decide)).mono ?_);rintro e w36 ⟨k36,pos36,rfl,hk36,hm,hkx⟩;have HZ36:=zH (HZ.out.kx hm hkx);have hw36:IntKind.i64.wrap (10+(k36:Int))=10+(k36:Int):=(by rw [IntKind.wrap_i64];omega);obtain ⟨hcc,hff,lD⟩:=zC HZ36.out.g.at_;have c15:=zk hcc 15;have f15:=hff 15;clear hm hkx hcc hff HZ)
         obtain ⟨z0,hz0⟩:∃ z:Int,z=10+(k36:Int):=⟨_,rfl⟩
         rw [← hz0]
         have hb0:0≤z0∧z0≤20:=by omega
         clear hz0 hw36 hk36
         have HZQ:Hid (∃ r':TnR,r'.t0=z0∧GZ W D bn lim (.slice A ns.length c) ns (w36.setCell ⟨D,15,none⟩ (iV z0)) pos36 n5 nc nc (nc+1) r' T t kk):=zH ⟨{ r with t0:=z0 },rfl,HZ36.out.set 15 _ rfl rfl rfl rfl rfl rfl rfl ⟨HZ36.out.n.nm,HZ36.out.n.low,HZ36.out.n.high,HZ36.out.n.budget,HZ36.out.n.most,⟨hb0.1,by simp only;omega⟩,HZ36.out.n.t1,HZ36.out.n.t2,HZ36.out.n.t3,HZ36.out.n.t4⟩⟩
         clear HZ36 c15 f15 lD
         generalize w36.setCell ⟨D,15,none⟩ (iV z0)=w37 at *
         obtain ⟨r37,hr37,hz37⟩:=HZQ.out
         have HR37:=zH hr37;have HZ37:=zH hz37
         clear hr37 hz37 HZQ
         have lbn:bn < (w37).heap.size:=zL (HZ37.out.g).mx.at_
         letI G:Rs.Gw:=gwM W bn (.slice A ns.length c) ns (w37).heap.size
         have hG:Rs.Gw.R w37 w37:=⟨KX.of_ext (Ext.refl _),⟨Nat.le_refl _,lbn⟩,⟨_,(HZ37.out.g).mx⟩,⟨_,(HZ37.out.g).mx⟩⟩
         have hwa:IntKind.i64.wrap (z0+1)=z0+1:=by rw [IntKind.wrap_i64];omega
         have HSS:Hid (∀ wz,KX bn w37 wz→wz.cell? ⟨D,15,none⟩=some (iV z0)∧D < wz.heap.size):=zH fun wz hz=>⟨(cell_of_row wz D 15 _ _ _ (hz.at HZ37.out.g.at_ HZ37.out.g.dn)).trans (by show some (Value.int .i64 r37.t0)=_;rw [HR37.out]),zL (hz.at HZ37.out.g.at_ HZ37.out.g.dn)⟩
         refine Rs.wp_region hG [(0,.y),(1,.y),(2,.y),(3,.y),(4,.y),(5,.z),(6,.y)] (fun _=>(.cells #[] 3,Rg.ptr)) (by kernel_rfl) (by kernel_rfl) ?_
         iterate 5
          (refine Rs.yd ?_
           apply Exists.intro
           refine ⟨fun wz hw hh=>?_,?_⟩
           ·have hss:=HSS.out wz hw.1
            go_simp
            (with_reducible exact zU)
           simp only [zp])
         (refine Rs.zd (fun v _=>∃ k:Nat,v=iV (k:Int)∧k < 5) (fun v w1 w2 h e=>h) (fun wz hw hh=>?_) (fun u5=>?_)
          ·go_simp
           apply Rs.upR_enter
           obtain ⟨p,hp⟩:=hw.2.2.2
           refine (nx_any hp 5 (by decide)).mono ?_
           rintro e wq ⟨k,p',rfl,hk,hn,hg⟩
           exact ⟨_,rfl,⟨hg,⟨Nat.le_trans hw.2.1.1 hw.1.size,hw.2.1.2⟩,⟨p,hp⟩,⟨p',hn⟩⟩,k,rfl,by omega⟩
          simp only [zp])
         (refine Rs.yd ⟨iV ((z0+1)+iof u5),fun wz hw hh=>?_,?_⟩
          ·obtain ⟨kz,hkz,hkl⟩:=hh _ zM
           subst hkz
           have hwr:IntKind.i64.wrap ((z0+1)+(kz:Int))=(z0+1)+(kz:Int):=by rw [IntKind.wrap_i64];omega
           go_simp
           exact zU
          simp only [zp])
         refine Rs.wr_nil ?_
         intro wy hy hh
         obtain ⟨k5',hk5',hk5l⟩:=hh _ zM
         subst hk5'
         simp only [gg,gh,gi,gj,Nat.reduceAdd]
         rw [show iof (iV (k5':Int))=(k5':Int) from rfl]
         clear hh
         obtain ⟨pos5',hm5⟩:=hy.2.2.2
         have HZy:=zH (HZ37.out.kx hm5 hy.1)
         clear hm5 hy HSS lbn hG G HZ37 HR37 hwa
         obtain ⟨hcc,hff,lD⟩:=zC HZy.out.g.at_
         have cb:=zk hcc 16
         have fb:=hff 16
         clear hcc hff
         obtain ⟨z1,hzz⟩:∃ z:Int,z=z0+1+(k5':Int):=⟨_,rfl⟩
         rw [← hzz]
         have hb1:0≤z1∧z1≤30:=by omega
         clear hzz hk5l
         go_upto_region 38 with (fail)
         have HZQ:Hid (∃ r':TnR,r'.t1=z1∧GZ W D bn lim (.slice A ns.length c) ns (wy.setCell ⟨D,16,none⟩ (iV z1)) pos5' n5 nc nc (nc+1) r' T t kk):=zH ⟨{ r37 with t1:=z1 },rfl,HZy.out.set 16 _ rfl rfl rfl rfl rfl rfl rfl ⟨HZy.out.n.nm,HZy.out.n.low,HZy.out.n.high,HZy.out.n.budget,HZy.out.n.most,HZy.out.n.t0,⟨hb1.1,by simp only;omega⟩,HZy.out.n.t2,HZy.out.n.t3,HZy.out.n.t4⟩⟩
         clear HZy cb fb lD
         generalize wy.setCell ⟨D,16,none⟩ (iV z1)=w38 at *
         obtain ⟨r38,hrq,hzq⟩:=HZQ.out
         have HR38:=zH hrq
         have HZ38:=zH hzq
         clear hrq hzq HZQ
         have lbn:bn < (w38).heap.size:=zL (HZ38.out.g).mx.at_
         letI G:Rs.Gw:=gwM W bn (.slice A ns.length c) ns (w38).heap.size
         have hG:Rs.Gw.R w38 w38:=⟨KX.of_ext (Ext.refl _),⟨Nat.le_refl _,lbn⟩,⟨_,(HZ38.out.g).mx⟩,⟨_,(HZ38.out.g).mx⟩⟩
         have hwa:IntKind.i64.wrap (z1+1)=z1+1:=by rw [IntKind.wrap_i64];omega
         have HSS:Hid (∀ wz,KX bn w38 wz→wz.cell? ⟨D,16,none⟩=some (iV z1)∧D < wz.heap.size):=zH fun wz hz=>⟨(cell_of_row wz D 16 _ _ _ (hz.at HZ38.out.g.at_ HZ38.out.g.dn)).trans (by show some (Value.int .i64 r38.t1)=_;rw [HR38.out]),zL (hz.at HZ38.out.g.at_ HZ38.out.g.dn)⟩
         refine Rs.wp_region hG [(0,.y),(1,.y),(2,.y),(3,.y),(4,.y),(5,.z),(6,.y)] (fun _=>(.cells #[] 3,Rg.ptr)) (by kernel_rfl) (by kernel_rfl) ?_
         iterate 5
          (refine Rs.yd ?_
           apply Exists.intro
           refine ⟨fun wz hw hh=>?_,?_⟩
           ·have hss:=HSS.out wz hw.1
            go_simp
            (with_reducible exact zU)
           simp only [zp])
         (refine Rs.zd (fun v _=>∃ k:Nat,v=iV (k:Int)∧k < 5) (fun v w1 w2 h e=>h) (fun wz hw hh=>?_) (fun u5=>?_)
          ·go_simp
           apply Rs.upR_enter
           obtain ⟨p,hp⟩:=hw.2.2.2
           refine (nx_any hp 5 (by decide)).mono ?_
           rintro e wq ⟨k,p',rfl,hk,hn,hg⟩
           exact ⟨_,rfl,⟨hg,⟨Nat.le_trans hw.2.1.1 hw.1.size,hw.2.1.2⟩,⟨p,hp⟩,⟨p',hn⟩⟩,k,rfl,by omega⟩
          simp only [zp])
         (refine Rs.yd ⟨iV ((z1+1)+iof u5),fun wz hw hh=>?_,?_⟩
          ·obtain ⟨kz,hkz,hkl⟩:=hh _ zM
           subst hkz
           have hwr:IntKind.i64.wrap ((z1+1)+(kz:Int))=(z1+1)+(kz:Int):=by rw [IntKind.wrap_i64];omega
           go_simp
           exact zU
          simp only [zp])
         refine Rs.wr_nil ?_
         intro wy hy hh
         obtain ⟨k5',hk5',hk5l⟩:=hh _ zM
         subst hk5'
         simp only [gg,gh,gi,gj,Nat.reduceAdd]
         rw [show iof (iV (k5':Int))=(k5':Int) from rfl]
         clear hh
         obtain ⟨pos5',hm5⟩:=hy.2.2.2
         have HZy:=zH (HZ38.out.kx hm5 hy.1)
         clear hm5 hy HSS lbn hG G HZ38 HR38 hwa
         obtain ⟨hcc,hff,lD⟩:=zC HZy.out.g.at_
         have cb:=zk hcc 17
         have fb:=hff 17
         clear hcc hff
         obtain ⟨z2,hzz⟩:∃ z:Int,z=z1+1+(k5':Int):=⟨_,rfl⟩
         rw [← hzz]
         have hb2:0≤z2∧z2≤40:=by omega
         clear hzz hk5l
         go_upto_region 39 with (fail)
         have HZQ:Hid (∃ r':TnR,r'.t2=z2∧GZ W D bn lim (.slice A ns.length c) ns (wy.setCell ⟨D,17,none⟩ (iV z2)) pos5' n5 nc nc (nc+1) r' T t kk):=zH ⟨{ r38 with t2:=z2 },rfl,HZy.out.set 17 _ rfl rfl rfl rfl rfl rfl rfl ⟨HZy.out.n.nm,HZy.out.n.low,HZy.out.n.high,HZy.out.n.budget,HZy.out.n.most,HZy.out.n.t0,HZy.out.n.t1,⟨hb2.1,by simp only;omega⟩,HZy.out.n.t3,HZy.out.n.t4⟩⟩
         clear HZy cb fb lD
         generalize wy.setCell ⟨D,17,none⟩ (iV z2)=w39 at *
         obtain ⟨r39,hrq,hzq⟩:=HZQ.out
         have HR39:=zH hrq
         have HZ39:=zH hzq
         clear hrq hzq HZQ
         have lbn:bn < (w39).heap.size:=zL (HZ39.out.g).mx.at_
         letI G:Rs.Gw:=gwM W bn (.slice A ns.length c) ns (w39).heap.size
         have hG:Rs.Gw.R w39 w39:=⟨KX.of_ext (Ext.refl _),⟨Nat.le_refl _,lbn⟩,⟨_,(HZ39.out.g).mx⟩,⟨_,(HZ39.out.g).mx⟩⟩
         have hwa:IntKind.i64.wrap (z2+1)=z2+1:=by rw [IntKind.wrap_i64];omega
         have HSS:Hid (∀ wz,KX bn w39 wz→wz.cell? ⟨D,17,none⟩=some (iV z2)∧D < wz.heap.size):=zH fun wz hz=>⟨(cell_of_row wz D 17 _ _ _ (hz.at HZ39.out.g.at_ HZ39.out.g.dn)).trans (by show some (Value.int .i64 r39.t2)=_;rw [HR39.out]),zL (hz.at HZ39.out.g.at_ HZ39.out.g.dn)⟩
         refine Rs.wp_region hG [(0,.y),(1,.y),(2,.y),(3,.y),(4,.y),(5,.z),(6,.y)] (fun _=>(.cells #[] 3,Rg.ptr)) (by kernel_rfl) (by kernel_rfl) ?_
         iterate 5
          (refine Rs.yd ?_
           apply Exists.intro
           refine ⟨fun wz hw hh=>?_,?_⟩
           ·have hss:=HSS.out wz hw.1
            go_simp
            (with_reducible exact zU)
           simp only [zp])
         (refine Rs.zd (fun v _=>∃ k:Nat,v=iV (k:Int)∧k < 5) (fun v w1 w2 h e=>h) (fun wz hw hh=>?_) (fun u5=>?_)
          ·go_simp
           apply Rs.upR_enter
           obtain ⟨p,hp⟩:=hw.2.2.2
           refine (nx_any hp 5 (by decide)).mono ?_
           rintro e wq ⟨k,p',rfl,hk,hn,hg⟩
           exact ⟨_,rfl,⟨hg,⟨Nat.le_trans hw.2.1.1 hw.1.size,hw.2.1.2⟩,⟨p,hp⟩,⟨p',hn⟩⟩,k,rfl,by omega⟩
          simp only [zp])
         (refine Rs.yd ⟨iV ((z2+1)+iof u5),fun wz hw hh=>?_,?_⟩
          ·obtain ⟨kz,hkz,hkl⟩:=hh _ zM
           subst hkz
           have hwr:IntKind.i64.wrap ((z2+1)+(kz:Int))=(z2+1)+(kz:Int):=by rw [IntKind.wrap_i64];omega
           go_simp
           exact zU
          simp only [zp])
         refine Rs.wr_nil ?_
         intro wy hy hh
         obtain ⟨k5',hk5',hk5l⟩:=hh _ zM
         subst hk5'
         simp only [gg,gh,gi,gj,Nat.reduceAdd]
         rw [show iof (iV (k5':Int))=(k5':Int) from rfl]
         clear hh
         obtain ⟨pos5',hm5⟩:=hy.2.2.2
         have HZy:=zH (HZ39.out.kx hm5 hy.1)
         clear hm5 hy HSS lbn hG G HZ39 HR39 hwa
         obtain ⟨hcc,hff,lD⟩:=zC HZy.out.g.at_
         have cb:=zk hcc 18
         have fb:=hff 18
         clear hcc hff
         obtain ⟨z3,hzz⟩:∃ z:Int,z=z2+1+(k5':Int):=⟨_,rfl⟩
         rw [← hzz]
         have hb3:0≤z3∧z3≤50:=by omega
         clear hzz hk5l
         go_upto_region 40 with (fail)
         have HZQ:Hid (∃ r':TnR,r'.t3=z3∧GZ W D bn lim (.slice A ns.length c) ns (wy.setCell ⟨D,18,none⟩ (iV z3)) pos5' n5 nc nc (nc+1) r' T t kk):=zH ⟨{ r39 with t3:=z3 },rfl,HZy.out.set 18 _ rfl rfl rfl rfl rfl rfl rfl ⟨HZy.out.n.nm,HZy.out.n.low,HZy.out.n.high,HZy.out.n.budget,HZy.out.n.most,HZy.out.n.t0,HZy.out.n.t1,HZy.out.n.t2,⟨hb3.1,by simp only;omega⟩,HZy.out.n.t4⟩⟩
         clear HZy cb fb lD
         generalize wy.setCell ⟨D,18,none⟩ (iV z3)=w40 at *
         obtain ⟨r40,hrq,hzq⟩:=HZQ.out
         have HR40:=zH hrq
         have HZ40:=zH hzq
         clear hrq hzq HZQ
         go_upto_region 41 with (go_at_call 29;(refine (nx_any HZ40.out.g.mx 10 (by decide)).mono ?_);rintro e w36' ⟨k40,pos40,rfl,hk40,hm,hkx⟩;have HZy:=zH (HZ40.out.kx hm hkx);obtain ⟨hcc,hff,lD⟩:=zC HZy.out.g.at_;have c19:w36'.cell? ⟨D,19,none⟩=some (iV r40.t4):=hcc 19;have f19:=hff 19;clear hm hkx hcc hff HZ40 HR40)
         have HZQ:Hid (∃ r':TnR,GZ W D bn lim (.slice A ns.length c) ns (w36'.setCell ⟨D,19,none⟩ (iV (k40:Int))) pos40 n5 nc nc (nc+1) r' T t kk):=zH ⟨{ r40 with t4:=(k40:Int) },HZy.out.set 19 _ rfl rfl rfl rfl rfl rfl rfl ⟨HZy.out.n.nm,HZy.out.n.low,HZy.out.n.high,HZy.out.n.budget,HZy.out.n.most,HZy.out.n.t0,HZy.out.n.t1,HZy.out.n.t2,HZy.out.n.t3,⟨by simp only;omega,by simp only;omega⟩⟩⟩
         clear HZy c19 f19 lD hk40
         generalize w36'.setCell ⟨D,19,none⟩ (iV (k40:Int))=w41 at *
         obtain ⟨r41,hz41⟩:=HZQ.out
         have HZ41:=zH hz41
         clear hz41 HZQ hb0 hb1 hb2 hb3
         have hnc3:nc≤3:=by omega
         have hnc4:nc+1≤4:=by omega
         have HNC:=zH hnc3;have HNC4:=zH hnc4
         have HCK:=zH (check_any r41 _ kk w41 (HZ41.out.tvAt HN5.out.1 HN5.out.2 hnc3 hnc3 hnc4 HFM.out w41 (fun _ _=>rfl)))
         obtain ⟨row,hrow⟩:∃ row,row=(tenC r41).toList:=⟨_,rfl⟩
         have hrs:row.length=20:=by rw [hrow];rfl
         have hrt:row.toArray=tenC r41:=by rw [hrow]
         rw [← hrt] at HCK
         have HRG:Hid (w41.rangeAt D 0 row):=zH (range_of HZ41.out.g.at_ 0 row (fun j v hv=>by rw [hrow] at hv;simpa using hv))
         have lD:=zL HZ41.out.g.at_
         clear hrow hrt hnc3 hnc4
         go_upto_region 42 with (first
          |(refine wpList_load_mid rfl 39 (.tmp 4) rfl D 0 (by rfl) row _ HRG.out Tryz.underlying39 rfl (by rw [hrs];kernel_rfl) ?_)
          |(go_at_call 32
            refine HCK.out.mono ?_
            rintro e w42 ⟨sc,ec,rfl,hx42⟩
            have HZ42:=zH (HZ41.out.ext hx42)
            clear hx42))
         clear HCK HRG HZ41 lD hrs
         go_upto_if 222 with (fail)
         go_cut [223] (fun s223 wx=>∃ (lim':Nat) (r:TnR) (f:Ex),Hid (GZ W D bn lim' (.slice A ns.length c) ns wx pos40 n5 nc nc (nc+1) r T f kk)∧Hid (FoM T.cs f))
         case first=>as_aux_lemma=>
          by_cases hec:ec=0
          ·subst hec
           go_wp2
           go_meet
           case rel=>exact ⟨_,_,_,HZ42,HFM⟩
          ·have heb:(ec == 0)=false:=by simpa using hec
           go_wp2_with (first
            |(go_at_call 33;first
             |((with_reducible refine (mkname_any lowB w42).mono ?_);rintro e w43 ⟨rfl,hx43⟩;have HZ43:=zH (HZ42.out.ext hx43);clear hx43)
             |((with_reducible refine (mkname_any priceB w43).mono ?_);rintro e w44 ⟨rfl,hx44⟩;have HZ44:=zH (HZ43.out.ext hx44);clear hx44))
            |(go_at_call 31
              refine (mkop_any (AG W D bn) quoB (nameE lowB) (nameE priceB) w44 _ _ (Rd.leaf I2.zero) (Rd.leaf I2.zero) (fun b hb=>⟨by have:=HZ44.out.g.ge;have:=zL HZ44.out.g.at_;omega,by have:=zL HZ44.out.g.at_;omega,by have:=zL HZ44.out.g.mx.at_;omega⟩)).mono ?_
              rintro e wo ⟨vo,rfl,hxo,hro⟩
              have HRO:=zH hro
              have HZo:=zH (HZ44.out.ext hxo)
              obtain ⟨o0,z1,z2,o3,b4,l4,c4,rfl⟩:=HRO.out.form
              obtain ⟨hcc,hff,lDo⟩:=zC HZo.out.g.at_
              have c6:=zk hcc 6
              have c7:=zk hcc 7
              have c8:=zk hcc 8
              have c9:=zk hcc 9
              have c10:=zk hcc 10
              have f6:=hff 6;have f7:=hff 7;have f8:=hff 8;have f9:=hff 9;have f10:=hff 10
              have HZf:=zH (HZo.out.setF (lim':=wo.heap.size) o0 o3 z1 z2 (b4,l4,c4) (Rd.alive _ _ HRO.out))
              clear hcc hff hxo hro))
           go_meet
           case rel=>exact ⟨_,_,_,HZf,zH (.inl rfl)⟩
         case rest=>
          obtain ⟨lim',r,f,HZ,HFF⟩:=hcut
          clear HZ42
          rename World=>wc
          obtain ⟨row,hrow⟩:∃ row,row=(tenC r).toList:=⟨_,rfl⟩
          have hrs:row.length=20:=by rw [hrow];rfl
          have hrt:row.toArray=tenC r:=by rw [hrow]
          have HRT:=zH hrt
          have HRG:Hid (wc.rangeAt D 0 row):=zH (range_of HZ.out.g.at_ 0 row (fun j v hv=>by rw [hrow] at hv;simpa using hv))
          have lD:=zL HZ.out.g.at_
          have hone:∀ v∈row.toArray.toList,v.oneCell' = true:=by rw [hrt];exact ten_one r
          have hsz:row.toArray.size=20:=hrs
          have hd:=HD0.out
          subst hd
          clear hrow hrt
          go_wp2_with (first
           |(refine wpList_load_mid rfl 39 (.tmp 4) rfl D 0 (by rfl) row _ HRG.out Tryz.underlying39 rfl (by rw [hrs];kernel_rfl) ?_)
           |(refine wpList_store_row (hgd:=rfl) 39 (.tmp 2) (.tmp 227) rfl W.heap.size (by rfl) row.toArray (by rfl) (tenC zT) 39 HZ.out.g.z_ (by rw [hsz];rfl) (by rw [hsz];kernel_rfl) hone ?_))
          have hfin:CT (wc.setRow W.heap.size row.toArray) r { T with f:=f } kk∧GdT { T with f:=f }∧GdN r∧Ext W (wc.setRow W.heap.size row.toArray):=by
           clear hone hsz HRG
           rw [HRT.out]
           exact HZ.out.out HN5.out.1 HN5.out.2 HNC.out HNC.out HNC4.out HFF.out
          have he:Ending.returned (.agg row.toArray)=.returned (.agg (tenC r)):=congrArg (fun x=>Ending.returned (.agg x)) HRT.out
          exact bodyPost_ret (v:=.agg row.toArray) (results_cell_row Tryz.results12 _ _ W.heap.size 39 _ _ _ (by rfl) (setRow_heap _ _ _ row.toArray _ _ HZ.out.g.z_) Tryz.underlying39 rfl (by rw [hsz];kernel_rfl)) rfl ⟨r,he,_,⟨kk,hfin.1⟩,hfin.2⟩
end Go.Proofs.YteomcpplajeidaaGreat
