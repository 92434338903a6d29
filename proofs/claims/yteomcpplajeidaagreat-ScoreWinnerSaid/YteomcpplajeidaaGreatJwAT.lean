/-
  Lemmas of this claim (JwAT). Nothing is asked.
-/
import Derived.Test.YteomcpplajeidaaGreatJwAS
import Derived.Test.YteomcpplajeidaaGreatJwAQ
set_option linter.unusedVariables false
set_option linter.unusedSimpArgs false
set_option maxRecDepth 100000
set_option maxHeartbeats 40000000
namespace Go.Proofs.YteomcpplajeidaaGreat
open Go.RowKit
abbrev zero57:Array Value:=#[iV 0,iV 0,iV 0,iV 0,.slice none 0 0]
theorem wrap_okI (z:Int):OkI (IntKind.i64.wrap z):=by
 constructor
 ·rw [IntKind.wrap_i64];omega
 ·rw [IntKind.wrap_i64];omega
theorem ird_cell {W w:World} {A:Option Addr} {n c:Nat} {ns:List Int} (h:IRd W (.slice A n c) ns) (x:Ext W w) (k:Nat) (hk:k < ns.length):∃ b off,A=some ⟨b,off,none⟩∧w.cell? ⟨b,off+k,none⟩=some (iV ns[k])∧OkI ns[k]:=by
 obtain ⟨A',c',hv,-,hok,hc⟩:=h.ext x
 injection hv with h1 _ _
 subst h1
 obtain ⟨b,off,rfl,hcc⟩:=hc.resolve_left (by intro e;rw [e] at hk;simp at hk)
 exact ⟨b,off,rfl,hcc k hk,hok _ (List.getElem_mem hk)⟩
theorem entries13_any (r:TnR) (T:TP) (v:Value) (ns:List Int) (W:World) (ht:TV W r T) (hg:GdT T) (hn:GdN r) (h:IRd W v ns) :
 Calls Tryz.prog 13 #[.agg (tenC r),v] W fun e w'=>∃ (v':Value) (xs:List ER),e=.returned v'∧EO W w' v' xs∧Ext W w':=by
 obtain ⟨A,cp,hv,hl,hok,hcl⟩:=id h
 subst hv
 have HI:=zH h
 clear h hok hcl
 have HGT:=zH hg;have HTV:=zH ht
 have hlow:=hn.low;have hhigh:=hn.high
 obtain ⟨⟨la,ln,lc⟩,hrl⟩:∃ x:Sl,x=r.ls:=⟨_,rfl⟩
 obtain ⟨⟨ca,cn,cc⟩,hrc⟩:∃ x:Sl,x=r.cs:=⟨_,rfl⟩
 obtain rfl:ln=T.ls.length:=by have:=ht.h1;rw [← hrl] at this;exact this.len
 obtain rfl:cn=T.cs.length:=by have:=ht.h2;rw [← hrc] at this;exact this.len
 have HLS:Hid (slV r.ls=.slice la T.ls.length lc):=zH (by rw [← hrl])
 have HCS:Hid (slV r.cs=.slice ca T.cs.length cc):=zH (by rw [← hrc])
 have HLL:=zH hg.ll;have HCL:=zH hg.cl
 obtain ⟨lo,hlo⟩:∃ x,x=r.low:=⟨_,rfl⟩
 obtain ⟨hi',hhi⟩:∃ x,x=r.high:=⟨_,rfl⟩
 rw [← hlo] at hlow hhigh
 rw [← hhi] at hhigh
 have hx0:Ext W (W.alloc (.cells (tenC r) 39)):=Ext.alloc (Ext.refl _) _
 have hp0:=heap_alloc_new W (.cells (tenC r) 39)
 obtain ⟨P,hP⟩:∃ P,P=W.heap.size:=⟨_,rfl⟩
 rw [← hP] at hp0
 have HPC:Hid (∀ wz:World,wz.heap[P]? = some (.cells (tenC r) 39)→wz.cell? ⟨P,1,none⟩=some (.slice la T.ls.length lc)∧wz.cell? ⟨P,2,none⟩=some (.slice ca T.cs.length cc)∧wz.cell? ⟨P,4,none⟩=some (iV lo)∧wz.cell? ⟨P,5,none⟩=some (iV hi')∧P < wz.heap.size):=zH fun wz hz=>by
  obtain ⟨hc,-,hl⟩:=zC hz
  exact ⟨(hc 1).trans (congrArg some HLS.out),(hc 2).trans (congrArg some HCS.out),(hc 4).trans (by rw [hlo];rfl),(hc 5).trans (by rw [hhi];rfl),hl⟩
 have HX0:=zH hx0;have HP0:=zH hp0
 clear hx0 hp0 hrl hrc hlo hhi ht hg hn
 go_in
 go_upto_region 1 with (fail)
 rw [← hP]
 have HPS:Hid (W.heap.size≤P):=zH (Nat.le_of_eq hP.symm)
 clear hP
 generalize W.alloc (.cells (tenC r) 39)=W1 at *
 go_upto_region 3 with (fail)
 go_loopw [6,5,7,8,9,10] (fun iv ov s7 s8 s9 s10 wr=>∃ (i q:Nat) (xs:List ER),iv=iV q∧Hid (q=5 * i)∧Hid (xs.length=i)∧Hid (EO W wr ov xs)∧Hid (Ext W wr)∧Hid (wr.heap[P]? = some (.cells (tenC r) 39))) (fun iv _ _ _ _ _ _=>70 - (iof iv).toNat)
 case atStart=>exact ⟨0,0,[],rfl,zH rfl,zH rfl,zH (EO.nil _ _),HX0,HP0⟩
 case round=>
  clear HX0 HP0
  obtain ⟨i,q,xs,rfl,HQ,HXL,HE,HX,HP⟩:=hrel
  obtain ⟨p1,p2,p4,p5,lP⟩:=HPC.out _ HP.out
  have hqb:q≤60:=by have h1:=HQ.out;have h2:=HXL.out;have h3:=HE.out.len;omega
  have hw4:IntKind.i64.wrap ((q:Int)+4)=(q:Int)+4:=by rw [IntKind.wrap_i64];omega
  have hll0:(0:Int) < (T.ls.length:Int):=by have:=HLL.out.1;omega
  have hll0n:0 < T.ls.length:=by omega
  by_cases hA:(q:Int)+4 < (ns.length:Int)
  ·by_cases hB:(q:Int) < 60
   ·skip
    obtain ⟨nb,no,rfl,-,-⟩:=ird_cell HI.out HX.out q (by omega)
    obtain ⟨a0,a1,a2,a3,a4,HN,HOK⟩:∃ a0 a1 a2 a3 a4:Int,Hid (∀ wz,Ext wr wz→wz.cell? ⟨nb,no+q,none⟩=some (iV a0)∧wz.cell? ⟨nb,no+(q+1),none⟩=some (iV a1)∧wz.cell? ⟨nb,no+(q+2),none⟩=some (iV a2)∧wz.cell? ⟨nb,no+(q+3),none⟩=some (iV a3)∧wz.cell? ⟨nb,no+(q+4),none⟩=some (iV a4))∧Hid (OkI a0∧OkI a1∧OkI a2∧OkI a3∧OkI a4):=by
     have get:∀ k,k < ns.length→(∀ wz,Ext wr wz→wz.cell? ⟨nb,no+k,none⟩=some (iV (ns.getD k 0)))∧OkI (ns.getD k 0):=fun k hk=>by
      rw [List.getD_eq_getElem?_getD,List.getElem?_eq_getElem hk,Option.getD_some]
      refine ⟨fun wz hz=>?_,?_⟩
      ·obtain ⟨b,o,e,h1,-⟩:=ird_cell HI.out (HX.out.trans hz) k hk
       injection e with e
       injection e with e1 e2 _
       subst e1 e2
       exact h1
      ·obtain ⟨-,-,-,-,h1⟩:=ird_cell HI.out HX.out k hk
       exact h1
     exact ⟨_,_,_,_,_,zH fun wz hz=>⟨(get q (by omega)).1 wz hz,(get (q+1) (by omega)).1 wz hz,(get (q+2) (by omega)).1 wz hz,(get (q+3) (by omega)).1 wz hz,(get (q+4) (by omega)).1 wz hz⟩,zH ⟨(get q (by omega)).2,(get (q+1) (by omega)).2,(get (q+2) (by omega)).2,(get (q+3) (by omega)).2,(get (q+4) (by omega)).2⟩⟩
    have hq5:(q:Int) / 5=(i:Int):=by have:=HQ.out;omega
    have hq5t:(q:Int).tdiv 5=(i:Int):=by rw [Int.tdiv_eq_ediv_of_nonneg (by omega)];exact hq5
    have hi12:(i:Int)≤12:=by have:=HXL.out;have:=HE.out.len;omega
    have hwi0:IntKind.i64.wrap (i:Int)=(i:Int):=by rw [IntKind.wrap_i64];omega
    have hll3:(T.ls.length:Int)≤3:=by have:=HLL.out.2;omega
    have hwi:IntKind.i64.wrap (1+(i:Int))=1+(i:Int):=by rw [IntKind.wrap_i64];omega
    have hw1:IntKind.i64.wrap ((q:Int)+1)=(q:Int)+1:=by rw [IntKind.wrap_i64];omega
    have hw2:IntKind.i64.wrap ((q:Int)+2)=(q:Int)+2:=by rw [IntKind.wrap_i64];omega
    have hw3:IntKind.i64.wrap ((q:Int)+3)=(q:Int)+3:=by rw [IntKind.wrap_i64];omega
    have hn1:((q:Int)+1).toNat=q+1:=by omega
    have hn2:((q:Int)+2).toNat=q+2:=by omega
    have hn3:((q:Int)+3).toNat=q+3:=by omega
    have hn4:((q:Int)+4).toNat=q+4:=by omega
    have hb0:(q:Int) < (ns.length:Int):=by omega
    have hb1:(q:Int)+1 < (ns.length:Int):=by omega
    have hb2:(q:Int)+2 < (ns.length:Int):=by omega
    have hb3:(q:Int)+3 < (ns.length:Int):=by omega
    have hb4:(q:Int)+4 < (ns.length:Int):=hA
    have hg1:(0:Int)≤(q:Int)+1:=by omega
    have hg2:(0:Int)≤(q:Int)+2:=by omega
    have hg3:(0:Int)≤(q:Int)+3:=by omega
    have hg4:(0:Int)≤(q:Int)+4:=by omega
    obtain ⟨lb,hlb,-,hlz⟩:=(show SR cellsLot 2 W (.slice la T.ls.length lc) T.ls from HLS.out ▸ HTV.out.h1).block 0 (by omega)
    subst hlb
    have HLZ:Hid (∀ wz,Ext W wz→∀ k (hk:k < T.ls.length),wz.cell? ⟨lb,k * 2,none⟩=some (iV (T.ls.getD k (0,0)).1)):=zH fun wz hz k hk=>by
     rw [List.getD_eq_getElem?_getD,List.getElem?_eq_getElem hk,Option.getD_some]
     exact (hz.cells.1 _ _ (zB W _ (hlz k hk 0 _ rfl))).trans (hlz k hk 0 _ rfl)
    clear hlz
    go_upto_region 5 with (fail)
    have HQ6:Hid (q < 60):=zH (by omega)
    clear p1 p2 p4 p5 lP hA hB
    refine Rr.wp_region [(0,.y),(1,.y),(2,.y),(3,.y),(4,.y),(5,.y),(6,.y),(10,.y),(11,.y),(13,.y),(14,.y),(15,.y),(16,.y),(17,.y),(18,.y),(19,.y),(20,.y),(21,.y),(22,.y),(7,.z),(8,.y),(9,.y),(12,.y),(23,.z),(24,.y),(25,.y),(26,.y),(27,.y),(28,.m)] (fun _=>(.cells zero57 57,Rg.ptr)) (by kernel_rfl) (by kernel_rfl) ?_
    iterate 19
     (refine Rr.yd ?_
      apply Exists.intro
      refine ⟨fun wz hw _=>?_,?_⟩
      ·obtain ⟨s0,s1,s2,s3,s4⟩:=HN.out wz hw
       obtain ⟨p1,p2,p4,p5,lP⟩:=HPC.out wz ((hw.block _ (zL HP.out)).trans HP.out)
       go_simp
       (with_reducible exact zU)
      simp only [zp])
    (refine Rr.zd (fun v _=>∃ k:Nat,v=iV (k:Int)∧(k:Int) < 3) (fun v w1 w2 h e=>h) (fun wz hw hh=>?_) (fun u7=>?_)
     ·go_simp
      apply Rr.upR_enter
      refine (mod34_any _ 3 ⟨by omega,by omega⟩ HOK.out.1 wz).mono ?_
      rintro e w3 ⟨k,rfl,hk,hx⟩
      exact ⟨_,rfl,hx,k,rfl,by omega⟩
     simp only [zp])
    (refine Rr.yd ⟨iV (iof u7 * 20),fun wz hw hh=>?_,?_⟩
     ·obtain ⟨kz,hkz,hkl⟩:=hh _ zM
      subst hkz
      have hwr:IntKind.i64.wrap ((kz:Int) * 20)=(kz:Int) * 20:=by rw [IntKind.wrap_i64];omega
      go_simp
      exact zU
     simp only [zp])
    (refine Rr.yd ⟨iV (1+iof u7 * 20),fun wz hw hh=>?_,?_⟩
     ·obtain ⟨kz,hkz,hkl⟩:=hh _ zM
      subst hkz
      have hwr:IntKind.i64.wrap (1+iof (Value.int .i64 (kz:Int)) * 20)=1+iof (Value.int .i64 (kz:Int)) * 20:=by show IntKind.i64.wrap (1+(kz:Int) * 20)=1+(kz:Int) * 20;rw [IntKind.wrap_i64];omega
      go_simp
      exact zU
     simp only [zp])
    (refine Rr.yd ⟨iV (1+iof u7 * 20+(i:Int)),fun wz hw hh=>?_,?_⟩
     ·obtain ⟨kz,hkz,hkl⟩:=hh _ zM
      subst hkz
      have hwr:IntKind.i64.wrap (1+iof (Value.int .i64 (kz:Int)) * 20+(i:Int))=1+iof (Value.int .i64 (kz:Int)) * 20+(i:Int):=by show IntKind.i64.wrap (1+(kz:Int) * 20+(i:Int))=1+(kz:Int) * 20+(i:Int);rw [IntKind.wrap_i64];omega
      go_simp
      exact zU
     simp only [zp])
    (refine Rr.zd (fun v _=>∃ k:Nat,v=iV (k:Int)∧(k:Int) < (T.ls.length:Int)) (fun v w1 w2 h e=>h) (fun wz hw hh=>?_) (fun u23=>?_)
     ·go_simp
      apply Rr.upR_enter
      refine (mod34_any _ (T.ls.length:Int) ⟨by omega,by omega⟩ HOK.out.2.1 wz).mono ?_
      rintro e w3 ⟨k,rfl,hk,hx⟩
      exact ⟨_,rfl,hx,k,rfl,by omega⟩
     simp only [zp])
    iterate 2
     (refine Rr.yd ⟨.pointer (some ⟨lb,(iof u23).toNat * 2,none⟩),fun wz hw hh=>?_,?_⟩
      ·obtain ⟨kz,hkz,hkl⟩:=hh _ zM
       subst hkz
       skip
       go_simp
       exact zU
      simp only [zp])
    (refine Rr.yd ⟨iV (T.ls.getD (iof u23).toNat (0,0)).1,fun wz hw hh=>?_,?_⟩
     ·obtain ⟨kz,hkz,hkl⟩:=hh _ zM
      subst hkz
      have hlz:wz.cell? ⟨lb,(iof (Value.int .i64 (kz:Int))).toNat * 2,none⟩=some (iV (T.ls.getD (iof (Value.int .i64 (kz:Int))).toNat (0,0)).1):=HLZ.out wz (HX.out.trans hw) kz (by omega)
      go_simp
      exact zU
     simp only [zp])
    (refine Rr.yd ⟨.agg (entC (1+(i:Int)) (T.ls.getD (iof u23).toNat (0,0)).1 (1+iof u7 * 20+(i:Int)) 0 (none,0,0)),fun wz hw hh=>?_,?_⟩
     ·go_simp
      exact zU
     simp only [zp])
    refine Rr.wr_m (by simp only [ga,gb,gc];rfl) (by rfl) (fun wz=>by go_simp) (fun X hX=>?_)
    simp only [zp]
    refine Rr.wr_nil ?_
    intro wy hy hh
    obtain ⟨-,hge,hbl⟩:=hh _ zM
    obtain ⟨k23,hk23,hk23l⟩:=hh _ (zN _ zM)
    obtain ⟨k7,hk7,hk7l⟩:=hh _ (zN _ (zN _ zM))
    subst hk23 hk7
    simp only [gg,gh,gi,gj,Nat.reduceAdd]
    rw [show iof (iV (k23:Int))=(k23:Int) from rfl,show iof (iV (k7:Int))=(k7:Int) from rfl,Int.toNat_natCast]
    clear hh
    have hlo1:OkI (T.ls.getD k23 (0,0)).1:=by
     have h1:k23 < T.ls.length:=by omega
     rw [List.getD_eq_getElem?_getD,List.getElem?_eq_getElem h1,Option.getD_some]
     obtain ⟨h2,-⟩:=HGT.out.ls k23 h1
     rw [h2]
     exact ⟨by omega,by omega⟩
    have HLO:=zH hlo1
    generalize (T.ls.getD k23 (0,0)).1=lot at *
    obtain ⟨rc,hrc⟩:∃ x:Int,x=1+(k7:Int) * 20+(i:Int):=⟨_,rfl⟩
    rw [← hrc]
    have HRC:Hid (∃ c:Int,0≤c∧c≤2∧rc=1+c * 20+i):=zH ⟨(k7:Int),by omega,by omega,hrc⟩
    have HRO:Hid (OkI rc):=zH ⟨by omega,by omega⟩
    have HBO:Hid (OkI (1+(i:Int))):=zH ⟨by omega,by omega⟩
    clear hrc hk7l hk23l hlo1
    have HEX:=zH (EX.start hy hge hbl (1+(i:Int)) lot rc 0)
    go_upto_region 6 with (refine wpList_store_row (hgd:=rfl) 57 (.tmp 7) (.tmp 55) rfl X (by rfl) (entC (1+(i:Int)) lot rc 0 (none,0,0)) (by rfl) zero57 57 hbl (by rfl) (by kernel_rfl) (by simp [Value.oneCell']) ?_)
    change Code.wp _ _ _ _ (wy.setRow X (entC (1+(i:Int)) lot rc 0 (none,0,0)))
    clear hy hge hbl hX
    generalize wy.setRow X (entC (1+(i:Int)) lot rc 0 (none,0,0))=w5 at *
    have HXC:Hid (∀ wz,Ext w5 wz→X < wz.heap.size):=zH fun wz hz=>Nat.lt_of_lt_of_le (zL HEX.out.at_) hz.size
    have hwm:IntKind.i64.wrap (hi' - lo)=hi' - lo:=by rw [IntKind.wrap_i64];omega
    have hwx:IntKind.i64.wrap (max (hi' - lo) 0+2)=max (hi' - lo) 0+2:=by rw [IntKind.wrap_i64];omega
    refine Rr.rg [(0,.y),(1,.y),(2,.y),(3,.y),(4,.y),(5,.y),(6,.y),(7,.y),(8,.y),(9,.y),(10,.y),(11,.y),(12,.y),(13,.y),(14,.z),(15,.y)] ?_
    iterate 14
     (refine Rr.yd ?_
      apply Exists.intro
      refine ⟨fun wz hw _=>?_,?_⟩
      ·obtain ⟨s0,s1,s2,s3,s4⟩:=HN.out wz (HEX.out.low.trans hw)
       obtain ⟨p1,p2,p4,p5,lP⟩:=HPC.out wz (((HEX.out.low.trans hw).block _ (zL HP.out)).trans HP.out)
       have lX:=HXC.out wz hw
       go_simp
       (with_reducible exact zU)
      simp only [zp])
    (refine Rr.zd (fun v _=>∃ k:Nat,v=iV (k:Int)∧(k:Int) < (max (hi' - lo) 0+2)) (fun v w1 w2 h e=>h) (fun wz hw hh=>?_) (fun u14=>?_)
     ·go_simp
      apply Rr.upR_enter
      refine (mod34_any _ (max (hi' - lo) 0+2) ⟨by omega,by omega⟩ HOK.out.2.2.1 wz).mono ?_
      rintro e w3 ⟨k,rfl,hk,hx⟩
      exact ⟨_,rfl,hx,k,rfl,by omega⟩
     simp only [zp])
    (refine Rr.yd ⟨iV (lo+iof u14),fun wz hw hh=>?_,?_⟩
     ·obtain ⟨kz,hkz,hkl⟩:=hh _ zM
      subst hkz
      have hwr:IntKind.i64.wrap (lo+(kz:Int))=lo+(kz:Int):=by rw [IntKind.wrap_i64];omega
      go_simp
      exact zU
     simp only [zp])
    refine Rr.wr_nil ?_
    intro wy hy hh
    obtain ⟨k14,hk14,hk14l⟩:=hh _ zM
    subst hk14
    simp only [gg,gh,gi,gj,Nat.reduceAdd]
    rw [show iof (iV (k14:Int))=(k14:Int) from rfl]
    clear hh
    obtain ⟨pr,hpr⟩:∃ x:Int,x=lo+(k14:Int):=⟨_,rfl⟩
    rw [← hpr]
    have HPR:Hid (0≤pr∧pr≤1000):=zH (by omega)
    clear hpr hk14l hwm hwx
    have HEY:=zH (HEX.out.ext hy)
    obtain ⟨hcc,hff,lX⟩:=zC HEY.out.at_
    have c3:=zk hcc 3
    have f3:=hff 3
    clear hcc hff
    have HE6:=zH (HEY.out.set (p':=pr) 3 (iV pr) rfl)
    go_upto_region 7 with (fail)
    clear c3 f3 HEY HEX HXC hy
    generalize wy.setCell ⟨X,3,none⟩ (iV pr)=w6 at *
    go_upto_block 2 with (fail)
    go_cut [8,9] (fun s8 s9 wx=>∃ (sl:Sl) (vs:Vals),Hid (vs.length=T.cs.length)∧Hid (EX wr wx X (1+(i:Int)) lot rc pr sl vs))
    case first=>as_aux_lemma=>
     go_wp2_with (fail)
     go_loopw [8,9] (fun jv cv wq=>∃ (j:Nat) (sl:Sl) (vs:Vals),jv=iV j∧j≤T.cs.length∧Hid (vs.length=j)∧Hid (EX wr wq X (1+(i:Int)) lot rc pr sl vs)) (fun jv _ _=>T.cs.length - (iof jv).toNat)
     case atStart=>exact ⟨0,_,[],rfl,Nat.zero_le _,zH rfl,HE6⟩
     case round=>
      clear HE6
      rename World=>wq
      obtain ⟨j,sl,vs,rfl,hjl,HVL,HEX⟩:=hrel
      obtain ⟨p1,p2,p4,p5,lP⟩:=HPC.out _ ((HEX.out.low.block _ (zL HP.out)).trans HP.out)
      have hcl3:(T.cs.length:Int)≤3:=by have:=HCL.out;omega
      by_cases hlt:j < T.cs.length
      ·obtain ⟨cb,hcb,hcz⟩:=SR.at (base:=ca) (n:=T.cs.length) (c:=cc) (show SR cellsCr 5 W (.slice ca T.cs.length cc) T.cs from HCS.out ▸ HTV.out.h2) (HX.out.trans HEX.out.low) j hlt
       subst hcb
       have hji:(j:Int) < (T.cs.length:Int):=by omega
       have HCM:=zH (HGT.out.cs j hlt)
       have e0:=hcz 0 _ rfl;have e1:=hcz 1 _ rfl;have e2:=hcz 2 _ rfl;have e3:=hcz 3 _ rfl;have e4:=hcz 4 _ rfl
       clear hcz
       generalize T.cs[j]=cr at *
       obtain ⟨nm,kd,lw,hg,les⟩:=cr
       have hlw:0≤lw∧lw≤1:=HCM.out.2.low
       have hhg:lw≤hg∧hg≤4:=HCM.out.2.high
       simp only [Nat.add_zero] at e0 e1 e2 e3 e4
       have hcl:=zB wq _ e1
       clear HCM
       have hxa:=Ext.alloc (Ext.refl wq) (.cells #[.string nm,iV kd,iV lw,iV hg,.bool les] 78)
       have hba:=heap_alloc_new wq (.cells #[.string nm,iV kd,iV lw,iV hg,.bool les] 78)
       have HEA:=zH (HEX.out.ext hxa)
       go_upto_region 11 with (fail)
       change Code.wp _ _ _ _ (wq.alloc (.cells #[.string nm,iV kd,iV lw,iV hg,.bool les] 78))
       obtain ⟨C,hC⟩:∃ C,C=wq.heap.size:=⟨_,rfl⟩
       rw [← hC] at hba ⊢
       clear hC e0 e1 e2 e3 e4 hcl p1 p2 p4 p5 lP HEX hxa
       generalize wq.alloc (.cells #[.string nm,iV kd,iV lw,iV hg,.bool les] 78)=w10 at *
       obtain ⟨⟨va,vn,vc⟩,hsl⟩:∃ x:Sl,x=sl:=⟨_,rfl⟩
       subst hsl
       obtain rfl:vn=vs.length:=row_len HEA.out.row
       have HSS:Hid (∀ wz,Ext w10 wz→wz.cell? ⟨X,4,none⟩=some (.slice va vs.length vc)∧wz.cell? ⟨C,0,none⟩=some (.string nm)∧wz.cell? ⟨C,2,none⟩=some (iV lw)∧wz.cell? ⟨C,3,none⟩=some (iV hg)∧X < wz.heap.size∧C < wz.heap.size):=zH fun wz hz=>by
        have h1:=(hz.block _ (zL HEA.out.at_)).trans HEA.out.at_
        have h2:=(hz.block _ (zL hba)).trans hba
        exact ⟨cell_of_row wz X 4 _ _ _ h1,cell_of_row wz C 0 _ _ _ h2,cell_of_row wz C 2 _ _ _ h2,cell_of_row wz C 3 _ _ _ h2,zL h1,zL h2⟩
       clear hba
       have hwj:IntKind.i64.wrap (1+(j:Int))=1+(j:Int):=by rw [IntKind.wrap_i64];omega
       have hj0:¬ (1+(j:Int))=0:=by omega
       have hwc:IntKind.i64.wrap (hg - lw)=hg - lw:=by rw [IntKind.wrap_i64];omega
       have hwd:IntKind.i64.wrap (max (hg - lw) 0+1)=max (hg - lw) 0+1:=by rw [IntKind.wrap_i64];omega
       refine Rp.rT [] [(0,.y),(1,.y),(2,.y),(3,.y),(4,.y),(5,.y),(6,.y),(7,.y),(8,.y),(9,.y),(10,.y),(11,.y),(12,.y),(13,.y),(14,.y),(15,.y),(16,.y),(17,.y),(18,.y),(19,.y),(20,.y),(21,.y),(22,.y),(23,.y),(24,.y),(25,.y),(26,.y),(27,.y),(28,.y),(29,.z),(30,.y),(31,.y),(32,.z)] [33,34,35] ?_
       iterate 29
        (refine Rr.yd ?_
         apply Exists.intro
         refine ⟨fun wz hw _=>?_,?_⟩
         ·obtain ⟨s0,s1,s2,s3,s4⟩:=HN.out wz (HEA.out.low.trans hw)
          obtain ⟨t0,t1,t2,t3,lX,lC⟩:=HSS.out wz hw
          go_simp
          (with_reducible exact zU)
         simp only [zp])
       (refine Rr.zd (fun v _=>∃ k:Nat,v=iV (k:Int)∧(k:Int) < (max (hg - lw) 0+1)) (fun v w1 w2 h e=>h) (fun wz hw hh=>?_) (fun u29=>?_)
        ·go_simp
         apply Rr.upR_enter
         refine (mod34_any _ (max (hg - lw) 0+1) ⟨by omega,by omega⟩ (wrap_okI _) wz).mono ?_
         rintro e w3 ⟨k,rfl,hk,hx⟩
         exact ⟨_,rfl,hx,k,rfl,by omega⟩
        simp only [zp])
       (refine Rr.yd ⟨iV (lw+iof u29),fun wz hw hh=>?_,?_⟩
        ·obtain ⟨kz,hkz,hkl⟩:=hh _ zM
         subst hkz
         have hwr:IntKind.i64.wrap (lw+(kz:Int))=lw+(kz:Int):=by rw [IntKind.wrap_i64];omega
         go_simp
         exact zU
        simp only [zp])
       (refine Rr.yd ⟨.agg #[.string nm,iV (lw+iof u29)],fun wz hw hh=>?_,?_⟩
        ·go_simp
         exact zU
        simp only [zp])
       (refine Rr.zd (fun v w=>∃ p,v=.slice (some ⟨p,0,none⟩) 1 1∧w10.heap.size≤p∧w.heap[p]? = some (.cells #[.string nm,iV (lw+iof u29)] 80)) (fun v w1 w2 ⟨p,h1,h2,h3⟩ e=>⟨p,h1,h2,(e.block p (zL h3)).trans h3⟩) (fun wz hw hh=>?_) (fun u32=>?_)
        ·go_simp
         exact Rr.upR_value (Ext.alloc (Ext.refl _) _) ⟨_,rfl,hw.size,heap_alloc_new wz _⟩
        simp only [zp])
       refine Rr.wr_nil ?_
       intro wy hy hh
       obtain ⟨pe,hpe,-,hpb⟩:=hh _ zM
       obtain ⟨k29,hk29,hk29l⟩:=hh _ (zN _ zM)
       subst hpe hk29
       clear hh
       simp only [List.filterMap_cons,List.filterMap_nil,List.getElem?_cons_succ,List.getElem?_cons_zero]
       have HEB:=zH (HEA.out.ext hy)
       rw [show iof (iV (k29:Int))=(k29:Int) from rfl] at *
       obtain ⟨vz,hvz⟩:∃ x:Int,x=lw+(k29:Int):=⟨_,rfl⟩
       rw [← hvz] at hpb
       have hvo:OkI vz:=⟨by omega,by omega⟩
       have hvs:vs.length≤3:=by have:=HVL.out;omega
       have hel:vs.length < 1000000:=by omega
       have hsz:wr.heap.size≤wy.heap.size:=HEB.out.low.size
       clear hy HEA HSS hvz hk29l
       refine append_gw (cs:=cellsP) (z:=.agg #[.string ⟨#[]⟩,iV 0]) one_val 55 80 24 Tryz.underlying55 info51 (by rfl) (by decide) (by decide) rfl (.tmp 86) (.tmp 117) rfl wr.heap.size (.slice va vs.length vc) vs (by rfl) HEB.out.row pe (nm,vz) (by rfl) hpb hel hsz ?_
       intro g7 cap7 w7 hr7 hg7 hat7
       have hat:=row_stays HEB.out.row hg7 HEB.out.at_ (by decide)
       obtain ⟨hcc,hff,lX⟩:=zC hat
       have c4:=zk hcc 4
       have f4:=hff 4
       have HEN:=zH (HEB.out.push (x:=(some ⟨g7,0,none⟩,vs.length+1,cap7)) (q:=(nm,vz)) hg7 hr7 hvo)
       have HVN:Hid ((vs ++ [(nm,vz)]).length=j+1):=zH (by simp [HVL.out])
       clear hr7 hg7 hat7 hat hcc hff hpb
       simp only [zp]
       go_wp2_with (fail)
       exact ⟨⟨j+1,_,_,by simp,by omega,HVN,HEN⟩,by simp [iof];omega⟩
      ·obtain rfl:j=T.cs.length:=by omega
       go_wp2
       go_meet
       case rel=>exact ⟨sl,vs,HVL,HEX⟩
    case rest=>
     obtain ⟨sl,vs,HVL,HEX⟩:=hcut
     rename World=>wc
     clear HE6
     obtain ⟨⟨va,vn,vc⟩,hsl⟩:∃ x:Sl,x=sl:=⟨_,rfl⟩
     subst hsl
     obtain rfl:vn=vs.length:=row_len HEX.out.row
     have hvs:vs.length≤3:=by have:=HVL.out;have:=HCL.out;omega
     clear HVL
     obtain ⟨hcc,hff,lX⟩:=zC HEX.out.at_
     have x0:=zk hcc 0
     have x1:=zk hcc 1
     have x2:=zk hcc 2
     have x3:=zk hcc 3
     have x4:=zk hcc 4
     have g0:=hff 0;have g1:=hff 1;have g2:=hff 2;have g3:=hff 3;have g4:=hff 4
     clear hcc hff
     obtain ⟨s0,s1,s2,s3,s4⟩:=HN.out wc HEX.out.low
     go_upto_block 4 with (go_at_call 34;refine (mod34_any a4 25 ⟨by decide,by decide⟩ HOK.out.2.2.2.2 _).mono ?_;rintro e w13 ⟨k13,rfl,hk13,hx13⟩;have HE13:=zH (HEX.out.ext hx13);clear hx13)
     clear x0 x1 x2 x3 x4 g0 g1 g2 g3 g4 lX s0 s1 s2 s3 s4 HEX
     go_cut [129] (fun s129 wx=>∃ (l' p':Int) (sl':Sl) (vs':Vals),Hid (EY wr wx X (1+(i:Int)) l' rc p' sl' vs'))
     case first=>as_aux_lemma=>
      obtain ⟨hcc,hff,lX⟩:=zC HE13.out.at_
      have x1:=zk hcc 1
      have x3:=zk hcc 3
      have x4:=zk hcc 4
      have g1:=hff 1;have g3:=hff 3;have g4:=hff 4
      clear hcc hff
      have hvl:vs.length≤100:=by omega
      have hpo:OkI pr:=⟨by have:=HPR.out;omega,by have:=HPR.out;omega⟩
      have hno:OkI (-pr):=⟨by have:=HPR.out;omega,by have:=HPR.out;omega⟩
      have hwn:IntKind.i64.wrap (-pr) = -pr:=by rw [IntKind.wrap_i64];have:=HPR.out;omega
      have hl0:=HLO.out
      have HVO:=zH hvl
      have HOO:Hid (OkI lot∧OkI pr∧OkI (-pr)):=zH ⟨hl0,hpo,hno⟩
      clear hpo hno hl0 hvl
      by_cases h20:k13=20
      ·subst h20
       go_wp2
       go_meet
       case rel=>exact ⟨_,_,_,_,zH ((HE13.out.set (p':=-pr) 3 (iV (-pr)) rfl).ey HVO.out ⟨HOO.out.1,HOO.out.2.2⟩)⟩
      have e20:((k13:Int) == 20)=false:=by simp;omega
      by_cases h21:k13=21
      ·subst h21
       go_wp2
       go_meet
       case rel=>exact ⟨_,_,_,_,zH ((HE13.out.set (l':=0) 1 (iV 0) rfl).ey HVO.out ⟨⟨by decide,by decide⟩,HOO.out.2.1⟩)⟩
      have e21:((k13:Int) == 21)=false:=by simp;omega
      by_cases h22:k13=22
      ·subst h22
       by_cases h0:(0:Int) < (vs.length:Int)
       ·skip
        obtain ⟨g,cap,cur,hf,-,-,hcap,hmax,-⟩:=HE13.out.row.2.resolve_left (fun h=>by have:=h.2;omega)
        obtain ⟨hf1,hf3⟩:va=some ⟨g,0,none⟩∧vc=cap:=by injection hf with h1 h2 h3;exact ⟨h1,h3⟩
        subst hf1 hf3
        clear hf
        by_cases hc1:vc=1
        ·have hcz:(vc:Int) - 1=0:=by omega
         have hcy:vc - 1=0:=by omega
         have hmx:(vc:Int)≤9223372036854775807:=by omega
         have hcc:(vs.length:Int)≤(vc:Int):=by omega
         have h1v:(1:Int)≤(vs.length:Int):=by omega
         have HV1:Hid (vs.length=1):=zH (by omega)
         clear hc1
         go_wp2
         go_meet
         case rel=>
          exact ⟨_,_,_,_,zH (HE13.out.tail (g:=g) (cap:=vc) rfl HVO.out (some ⟨g,0,none⟩,vs.length - 1,0) (.inr ⟨HV1.out,by have:=HV1.out;simp only;omega⟩) ⟨HOO.out.1,HOO.out.2.1⟩)⟩
        ·have hcg:(1:Int)≤(vc:Int) - 1:=by omega
         have hmx:(vc:Int)≤9223372036854775807:=by unfold maxLen at hmax;omega
         have hcc:(vs.length:Int)≤(vc:Int):=by omega
         have h1v:(1:Int)≤(vs.length:Int):=by omega
         go_wp2
         go_meet
         case rel=>exact ⟨_,_,_,_,zH (HE13.out.tail (g:=g) (cap:=vc) rfl HVO.out (some ⟨g,2,none⟩,vs.length - 1,vc - 1) (.inl rfl) ⟨HOO.out.1,HOO.out.2.1⟩)⟩
       ·go_wp2
        go_meet
        case rel=>exact ⟨_,_,_,_,zH (HE13.out.ey HVO.out ⟨HOO.out.1,HOO.out.2.1⟩)⟩
      have e22:((k13:Int) == 22)=false:=by simp;omega
      by_cases h23:k13=23
      ·subst h23
       by_cases h0:(0:Int) < (vs.length:Int)
       ·skip
        obtain ⟨g,cap,cur,hf,-,-,hcap,hmax,-⟩:=HE13.out.row.2.resolve_left (fun h=>by have:=h.2;omega)
        obtain ⟨hf1,hf3⟩:va=some ⟨g,0,none⟩∧vc=cap:=by injection hf with h1 h2 h3;exact ⟨h1,h3⟩
        subst hf1 hf3
        clear hf
        obtain ⟨q0,q1,-,lg⟩:=HE13.out.cell (g:=g) (cap:=vc) rfl 0 (by omega)
        have hel:vs.length < 1000000:=by have:=HVO.out;omega
        have HV2:Hid (OkI vs[0].2):=zH (HE13.out.vr _ (List.getElem_mem _))
        generalize vs[0]=v0 at *
        obtain ⟨nm,vz⟩:=v0
        simp only [Nat.zero_mul,Nat.zero_add] at q0 q1 HV2
        go_upto_region 23 with (fail)
        have HSS:Hid (∀ wz,Ext w13 wz→wz.cell? ⟨X,4,none⟩=some (.slice (some ⟨g,0,none⟩) vs.length vc)∧wz.cell? ⟨g,0,none⟩=some (.string nm)∧wz.cell? ⟨g,1,none⟩=some (iV vz)∧X < wz.heap.size∧g < wz.heap.size):=zH fun wz hz=>⟨(hz.cells.1 _ _ lX).trans x4,(hz.cells.1 _ _ lg).trans q0,(hz.cells.1 _ _ lg).trans q1,Nat.lt_of_lt_of_le lX hz.size,Nat.lt_of_lt_of_le lg hz.size⟩
        clear x1 x3 x4 g1 g3 g4 q0 q1 lX lg
        refine Rp.rT [] [(0,.y),(1,.y),(2,.y),(3,.y),(4,.y),(5,.y),(6,.z)] [7,8,9] ?_
        iterate 6
         (refine Rr.yd ?_
          apply Exists.intro
          refine ⟨fun wz hw _=>?_,?_⟩
          ·obtain ⟨t0,t1,t2,lX,lg⟩:=HSS.out wz hw
           go_simp
           (with_reducible exact zU)
          simp only [zp])
        (refine Rr.zd (fun v w=>∃ p,v=.slice (some ⟨p,0,none⟩) 1 1∧w13.heap.size≤p∧w.heap[p]? = some (.cells #[.string nm,iV vz] 80)) (fun v w1 w2 ⟨p,h1,h2,h3⟩ e=>⟨p,h1,h2,(e.block p (zL h3)).trans h3⟩) (fun wz hw hh=>?_) (fun u6=>?_)
         ·go_simp
          exact Rr.upR_value (Ext.alloc (Ext.refl _) _) ⟨_,rfl,hw.size,heap_alloc_new wz _⟩
         simp only [zp])
        refine Rr.wr_nil ?_
        intro wy hy hh
        obtain ⟨pe,hpe,-,hpb⟩:=hh _ zM
        subst hpe
        clear hh
        simp only [List.filterMap_cons,List.filterMap_nil,List.getElem?_cons_succ,List.getElem?_cons_zero]
        have HEB:=zH (HE13.out.ext hy)
        have hsz:wr.heap.size≤wy.heap.size:=HEB.out.low.size
        clear hy HSS
        refine append_gw (cs:=cellsP) (z:=.agg #[.string ⟨#[]⟩,iV 0]) one_val 55 80 24 Tryz.underlying55 info51 (by rfl) (by decide) (by decide) rfl (.tmp 151) (.tmp 156) rfl wr.heap.size (.slice (some ⟨g,0,none⟩) vs.length vc) vs (by rfl) HEB.out.row pe (nm,vz) (by rfl) hpb hel hsz ?_
        intro g7 cap7 w7 hr7 hg7 hat7
        have hat:=row_stays HEB.out.row hg7 HEB.out.at_ (by decide)
        obtain ⟨hcc,hff,lX⟩:=zC hat
        have c4:=zk hcc 4
        have f4:=hff 4
        have HEN:=zH (HEB.out.push (x:=(some ⟨g7,0,none⟩,vs.length+1,cap7)) (q:=(nm,vz)) hg7 hr7 HV2.out)
        clear hr7 hg7 hat7 hat hcc hff hpb
        simp only [zp]
        go_wp2
        go_meet
        case rel=>exact ⟨_,_,_,_,zH (HEN.out.ey (by have:=HCL.out;simp;omega) ⟨HOO.out.1,HOO.out.2.1⟩)⟩
       ·go_wp2
        go_meet
        case rel=>exact ⟨_,_,_,_,zH (HE13.out.ey HVO.out ⟨HOO.out.1,HOO.out.2.1⟩)⟩
      have e23:((k13:Int) == 23)=false:=by simp;omega
      by_cases h24:k13=24
      ·subst h24
       by_cases h0:(0:Int) < (vs.length:Int)
       ·skip
        obtain ⟨g,cap,cur,hf,-,-,hcap,hmax,-⟩:=HE13.out.row.2.resolve_left (fun h=>by have:=h.2;omega)
        obtain ⟨hf1,hf3⟩:va=some ⟨g,0,none⟩∧vc=cap:=by injection hf with h1 h2 h3;exact ⟨h1,h3⟩
        subst hf1 hf3
        clear hf
        have hvb:(vs.length:Int)≤100:=by have:=HVO.out;omega
        go_upto_region 26 with (fail)
        have HSS:Hid (∀ wz,Ext w13 wz→wz.cell? ⟨X,4,none⟩=some (.slice (some ⟨g,0,none⟩) vs.length vc)∧X < wz.heap.size):=zH fun wz hz=>⟨(hz.cells.1 _ _ lX).trans x4,Nat.lt_of_lt_of_le lX hz.size⟩
        clear x1 x3 x4 g1 g3 g4 lX
        refine Rp.rT [] [(0,.y),(1,.y),(2,.y),(3,.y),(4,.y),(5,.y),(6,.y),(7,.y),(9,.y),(10,.y),(11,.y),(12,.y),(13,.y),(8,.z),(14,.y)] [15,16] ?_
        iterate 13
         (refine Rr.yd ?_
          apply Exists.intro
          refine ⟨fun wz hw _=>?_,?_⟩
          ·obtain ⟨s0,s1,s2,s3,s4⟩:=HN.out wz (HE13.out.low.trans hw)
           obtain ⟨t0,lX⟩:=HSS.out wz hw
           go_simp
           (with_reducible exact zU)
          simp only [zp])
        (refine Rr.zd (fun v _=>∃ k:Nat,v=iV (k:Int)∧(k:Int) < (vs.length:Int)) (fun v w1 w2 h e=>h) (fun wz hw hh=>?_) (fun u8=>?_)
         ·go_simp
          apply Rr.upR_enter
          refine (mod34_any _ (vs.length:Int) ⟨by omega,by omega⟩ HOK.out.2.2.2.1 wz).mono ?_
          rintro e w3 ⟨k,rfl,hk,hx⟩
          exact ⟨_,rfl,hx,k,rfl,by omega⟩
         simp only [zp])
        (refine Rr.yd ⟨.pointer (some ⟨g,(iof u8).toNat * 2,none⟩),fun wz hw hh=>?_,?_⟩
         ·obtain ⟨kz,hkz,hkl⟩:=hh _ zM
          subst hkz
          skip
          go_simp
          exact zU
         simp only [zp])
        refine Rr.wr_nil ?_
        intro wy hy hh
        obtain ⟨k8,hk8,hk8l⟩:=hh _ zM
        subst hk8
        clear hh
        simp only [List.filterMap_cons,List.filterMap_nil,List.getElem?_cons_succ,List.getElem?_cons_zero]
        rw [show iof (iV (k8:Int))=(k8:Int) from rfl,Int.toNat_natCast]
        have hk8n:k8 < vs.length:=by omega
        have HEB:=zH (HE13.out.ext hy)
        obtain ⟨-,q1,fq,lg⟩:=HEB.out.cell (g:=g) (cap:=vc) rfl k8 hk8n
        have HEP:=zH (HEB.out.put (g:=g) (cap:=vc) rfl k8 hk8n a2 HOK.out.2.2.1)
        clear hy HSS hk8l
        go_wp2
        go_meet
        case rel=>exact ⟨_,_,_,_,zH (HEP.out.ey (by rw [List.length_set];exact HVO.out) ⟨HOO.out.1,HOO.out.2.1⟩)⟩
       ·go_wp2
        go_meet
        case rel=>exact ⟨_,_,_,_,zH (HE13.out.ey HVO.out ⟨HOO.out.1,HOO.out.2.1⟩)⟩
      have e24:((k13:Int) == 24)=false:=by simp;omega
      go_wp2
      go_meet
      case rel=>exact ⟨_,_,_,_,zH (HE13.out.ey HVO.out ⟨HOO.out.1,HOO.out.2.1⟩)⟩
     case rest=>
      obtain ⟨l',p',⟨va',vn',vc'⟩,vs',HY⟩:=hcut
      clear HE13
      rename World=>wc
      have HEy:=zH (HE.out.ext HY.out.low)
      have HXy:=zH (HX.out.trans HY.out.low)
      have HPy:=zH ((HY.out.low.block _ (zL HP.out)).trans HP.out)
      have hxa:=Ext.alloc (Ext.refl wc) (.cells (entC (1+(i:Int)) l' rc p' (va',vn',vc')) 57)
      have hpb:=heap_alloc_new wc (.cells (entC (1+(i:Int)) l' rc p' (va',vn',vc')) 57)
      have HEA:=zH (HEy.out.ext hxa)
      have HXA:=zH (HXy.out.trans hxa)
      have HPA:=zH ((hxa.block _ (zL HPy.out)).trans HPy.out)
      have HVA:=zH (HY.out.vt.grow hxa)
      have hel:xs.length < 1000000:=by have:=HE.out.len;omega
      have hsz:W.heap.size≤(wc.alloc (.cells (entC (1+(i:Int)) l' rc p' (va',vn',vc')) 57)).heap.size:=HXA.out.size
      have HLT:Hid (xs.length < 12):=zH (by have h1:=HQ.out;have h2:=HXL.out;have h3:=HQ6.out;omega)
      have HOE:Hid (OkE ⟨1+(i:Int),l',rc,p',vs'⟩):=zH ⟨HBO.out,HY.out.ok.1,HRO.out,HY.out.ok.2,by have:=HY.out.vl;simp only;omega⟩
      obtain ⟨x0,x1,x2,x3,x4,lX⟩:=zC5 HY.out.at_
      clear HE HX HP HEy HXy HPy hxa
      go_wp2_with (at_builtin;refine append_gw (cs:=cellsEn) (z:=.agg zero57) one_en 41 57 56 Tryz.underlying41 (by kernel_rfl) (by rfl) (by decide) (by decide) rfl (.tmp 179) (.tmp 181) rfl W.heap.size _ xs (by rfl) HEA.out.row wc.heap.size (⟨1+(i:Int),l',rc,p',vs'⟩,(va',vn',vc')) (by rfl) hpb hel hsz ?_;intro g7 cap7 w7 hr7 hg7 hat7;have HEN:=zH (HEA.out.push HLT.out hg7 hr7 HOE.out HVA.out (by have:=HXL.out;simp only;omega) (by rw [HXL.out];exact HRC.out));have HXN:=zH (ext_grown HXA.out hg7 (fun b e=>(HEA.out.row.lt b e).1));have HPN:=zH (row_stays HEA.out.row hg7 HPA.out (by decide));clear hr7 hg7 hat7)
      exact ⟨⟨i+1,q+5,_,by simp,zH (by have:=HQ.out;omega),zH (by simp [HXL.out]),HEN,HXN,HPN⟩,by simp [iof];omega⟩
   ·go_wp2
    go_ret
    exact ⟨_,rfl,⟨_,HE.out⟩,HX.out⟩
  ·go_wp2
   go_ret
   exact ⟨_,rfl,⟨_,HE.out⟩,HX.out⟩
end Go.Proofs.YteomcpplajeidaaGreat
