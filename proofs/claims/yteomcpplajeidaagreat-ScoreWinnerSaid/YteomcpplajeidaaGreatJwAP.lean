/-
  Lemmas of this claim (JwAP). Nothing is asked.
-/
import Derived.Test.YteomcpplajeidaaGreatJwAO
import Derived.Test.YteomcpplajeidaaGreatJwAE
import Derived.Test.YteomcpplajeidaaGreatJwAH
set_option linter.unusedVariables false
set_option linter.unusedSimpArgs false
set_option maxRecDepth 100000
set_option maxHeartbeats 40000000
namespace Go.Proofs.YteomcpplajeidaaGreat
open Go.RowKit
def ChkP (w:World) (e:Ending) (w':World):Prop:=∃ (s:ByteArray) (er:Int),e=.returned (.tuple #[.string s,iV er])∧Ext w w'
theorem nat9_ok {z:Int} (h:Nat9 z):OkI z:=⟨by have:=h.1;omega,by have:=h.2;omega⟩
theorem CT.tok {w:World} {r:TnR} {T:TP} {kk:List Sl} (h:CT w r T kk):TOk r T.cs:=
 ⟨nat9_ok h.pt.low,nat9_ok h.pt.high,fun c hc=>⟨nat9_ok (h.pt.cs c hc).2.1,nat9_ok (h.pt.cs c hc).2.2.1⟩,by have:=h.pt.cl;omega⟩
theorem BdP.r {w:World} {e:Ending} {w':World} (h:BdP w e w'):∃ u,e=.returned u∧(∃ lo hi b,u=.tuple #[iV lo,iV hi,.bool b])∧Ext w w':=by
 obtain ⟨lo,hi,b,rfl,-,-,hx⟩:=h
 exact ⟨_,rfl,⟨lo,hi,b,rfl⟩,hx⟩
def BdR (u:Value):Prop:=∃ lo hi b,u=.tuple #[iV lo,iV hi,.bool b]
theorem check_any (r:TnR) (T:TP) (kk:List Sl) (w:World) (h:CT w r T kk):Calls Tryz.prog 32 #[.agg (tenC r)] w (ChkP w):=by
 have HRI:=zH (fun wz (hz:Ext w wz)=>right_any r T kk wz (h.ext hz))
 have HPW:=zH (fun wz (hz:Ext w wz)=>power_any r T.cs h.tok h.pt.f wz _ (h.tv.h2.ext hz) (h.tv.h5.ext hz))
 have HIN:=zH (fun wz (hz:Ext w wz)=>interval_any r T.cs h.tok h.pt.f wz _ (h.tv.h2.ext hz) (h.tv.h5.ext hz))
 have HBD:=zH (fun s wz (hz:Ext w wz)=>bounds_any r T.cs s wz (h.tv.h2.ext hz) h.tok)
 have HT:=zH h
 obtain ⟨nm,⟨la,ln,lc⟩,⟨ca,cn,cc⟩,⟨ra,rn,rc⟩,low,high,fo,f1,f2,fn,⟨fa0,fa1,fa2⟩,⟨ta,tn,tc⟩,most,⟨ka,kn,kc⟩,budget,t0,t1,t2,t3,t4⟩:=r
 obtain rfl:ln=T.ls.length:=h.tv.h1.n_eq
 obtain rfl:cn=T.cs.length:=h.tv.h2.n_eq
 obtain rfl:rn=T.rs.length:=h.tv.h3.n_eq
 obtain rfl:tn=T.ts.length:=h.tv.h4.n_eq
 obtain rfl:kn=kk.length:=h.ks.sr.n_eq
 obtain ⟨ls,cs,rs,ts,f⟩:=T
 simp only at *
 have HS1:=zH h.tv.h1;have HS2:=zH h.tv.h2;have HS3:=zH h.tv.h3;have HS4:=zH h.tv.h4;have HS5:=zH h.ks.sr
 have HP5:=zH h.ks.each
 have HN:Hid (ls.length≤12∧cs.length≤12∧rs.length≤12∧ts.length≤12∧kk.length≤12):=zH ⟨h.pt.ll.2,h.pt.cl,h.pt.rl,h.pt.tl,h.ks.len⟩
 clear h HT
 obtain ⟨row,hrow⟩:∃ row:List Value,row=(tenC ⟨nm,(la,ls.length,lc),(ca,cs.length,cc),(ra,rs.length,rc),low,high,fo,f1,f2,fn,(fa0,fa1,fa2),(ta,ts.length,tc),most,(ka,kk.length,kc),budget,t0,t1,t2,t3,t4⟩).toList:=⟨_,rfl⟩
 have hrt:tenC ⟨nm,(la,ls.length,lc),(ca,cs.length,cc),(ra,rs.length,rc),low,high,fo,f1,f2,fn,(fa0,fa1,fa2),(ta,ts.length,tc),most,(ka,kk.length,kc),budget,t0,t1,t2,t3,t4⟩=row.toArray:=by rw [hrow]
 have hrs:row.length=20:=by rw [hrow];rfl
 rw [hrt] at HRI HPW HIN HBD ⊢
 obtain ⟨W,hW⟩:∃ W,W=w.alloc (.cells row.toArray 39):=⟨_,rfl⟩
 have hx:Ext w W:=by rw [hW];exact Ext.alloc (Ext.refl _) _
 have hb:W.heap[w.heap.size]? = some (.cells row.toArray 39):=by rw [hW];exact block_new rfl
 obtain ⟨p,hp⟩:∃ p,p=w.heap.size:=⟨_,rfl⟩
 rw [← hp] at hb
 have HX0:=zH hx;have HB:=zH hb
 have HRT:Hid (row.toArray=#[.string nm,.slice la ls.length lc,.slice ca cs.length cc,.slice ra rs.length rc,iV low,iV high,.string fo,iV f1,iV f2,.string fn,.slice fa0 fa1 fa2,.slice ta ts.length tc,iV most,.slice ka kk.length kc,iV budget,iV t0,iV t1,iV t2,iV t3,iV t4]):=zH hrt.symm
 clear hx hb hrow hrt
 go_in
 go_upto_region 1 with (fail)
 rw [← hW]
 rw [← hp]
 clear hW hp
 have hrg0:W.rangeAt p 0 row:=range_of HB.out 0 row (fun j v hv=>by simpa using hv)
 have lp0:=zL HB.out
 go_upto_region 2 with (first
  |(refine wpList_load_mid rfl 39 (.tmp 1) rfl p 0 (by rfl) row _ hrg0 Tryz.underlying39 rfl (by rw [hrs];kernel_rfl) ?_)
  |(go_at_call 56;(with_reducible refine (HRI.out _ HX0.out).mono ?_);rintro e w1 ⟨s,b,rfl,hx⟩;have HX:=zH hx;clear hx))
 clear hrg0 lp0
 cases b with
 | false=>
  go_wp2_with (fail)
  go_ret2
  exact ⟨_,_,rfl,HX0.out.trans HX.out⟩
 | true=>
  have hbk:(w1).heap[p]? = some (.cells row.toArray 39):=((HX.out).block _ (zL HB.out)).trans HB.out
  rw [HRT.out] at hbk
  obtain ⟨hcc,-,lp⟩:=zC hbk
  have c1:(w1).cell? ⟨p,1,none⟩=some (.slice _ ls.length lc):=hcc 1
  have c2:(w1).cell? ⟨p,2,none⟩=some (.slice _ cs.length cc):=hcc 2
  have c3:(w1).cell? ⟨p,3,none⟩=some (.slice _ rs.length rc):=hcc 3
  have c4:=zk hcc 4
  have c5:=zk hcc 5
  have c11:(w1).cell? ⟨p,11,none⟩=some (.slice _ ts.length tc):=hcc 11
  have c13:(w1).cell? ⟨p,13,none⟩=some (.slice _ kk.length kc):=hcc 13
  clear hbk
  clear hcc
  go_upto_region 5 with (fail)
  clear c1 c2 c3 c4 c5 c11 c13 lp
  go_loopw [6] (fun iv wr=>∃ i:Nat,iv=iV i∧i≤cs.length∧Hid (Ext W wr)) (fun iv _=>cs.length - (iof iv).toNat)
  case atStart=>exact ⟨0,rfl,Nat.zero_le _,HX⟩
  case round=>
   obtain ⟨i,rfl,hi,HX⟩:=hrel
   have hbk:(wr).heap[p]? = some (.cells row.toArray 39):=((HX.out).block _ (zL HB.out)).trans HB.out
   rw [HRT.out] at hbk
   obtain ⟨hcc,-,lp⟩:=zC hbk
   have c1:(wr).cell? ⟨p,1,none⟩=some (.slice _ ls.length lc):=hcc 1
   have c2:(wr).cell? ⟨p,2,none⟩=some (.slice _ cs.length cc):=hcc 2
   have c3:(wr).cell? ⟨p,3,none⟩=some (.slice _ rs.length rc):=hcc 3
   have c4:=zk hcc 4
   have c5:=zk hcc 5
   have c11:(wr).cell? ⟨p,11,none⟩=some (.slice _ ts.length tc):=hcc 11
   have c13:(wr).cell? ⟨p,13,none⟩=some (.slice _ kk.length kc):=hcc 13
   clear hbk
   clear hcc
   by_cases hil:i < cs.length
   ·as_aux_lemma=>
    obtain ⟨bb,e9,hcs⟩:=HS2.out.at (HX0.out.trans HX.out) i hil
    subst e9
    have e0:=hcs 0 _ rfl;have e2:=hcs 2 _ rfl;have e3:=hcs 3 _ rfl
    clear hcs
    generalize cs[i]=q at *
    obtain ⟨n0,z1,z2,z3,z4⟩:=q
    simp only [Nat.add_zero] at e0 e2 e3
    have hbl:=zB wr _ e2
    have hili:(i:Int) < (cs.length:Int):=by omega
    have hwi:=wz ((i:Int)+1) (by have:=HN.out;omega)
    go_upto_region 7 with (fail)
    by_cases hgt:z3 < z2
    ·go_quiet (fail)
     have hxq:Ext wr (wr.drewN nq):=xt
     go_wp2_with (fail)
     go_ret2
     exact ⟨_,_,rfl,(HX0.out.trans HX.out).trans hxq⟩
    ·go_quiet (fail)
     have hxq:Ext wr (wr.drewN nq):=xt
     go_wp2_with (fail)
     exact ⟨⟨i+1,by rfl,by omega,zH (HX.out.trans hxq)⟩,by simp [iof];omega⟩
   ·obtain rfl:i=cs.length:=by omega
    obtain ⟨w2,rfl⟩:∃ x:World,x=wr:=⟨_,rfl⟩
    by_cases hlh:high < low
    ·go_wp2_with (fail)
     go_ret2
     exact ⟨_,_,rfl,HX0.out.trans HX.out⟩
    ·go_upto_region 12 with (fail)
     clear c1 c2 c3 c4 c5 c11 c13 lp
     go_loopw [7] (fun iv wr=>∃ i:Nat,iv=iV i∧i≤ls.length∧Hid (Ext W wr)) (fun iv _=>ls.length - (iof iv).toNat)
     case atStart=>exact ⟨0,rfl,Nat.zero_le _,HX⟩
     case round=>
      rename World=>wr
      obtain ⟨i,rfl,hi,HX⟩:=hrel
      have hbk:(wr).heap[p]? = some (.cells row.toArray 39):=((HX.out).block _ (zL HB.out)).trans HB.out
      rw [HRT.out] at hbk
      obtain ⟨hcc,-,lp⟩:=zC hbk
      have c1:(wr).cell? ⟨p,1,none⟩=some (.slice _ ls.length lc):=hcc 1
      have c2:(wr).cell? ⟨p,2,none⟩=some (.slice _ cs.length cc):=hcc 2
      have c3:(wr).cell? ⟨p,3,none⟩=some (.slice _ rs.length rc):=hcc 3
      have c4:=zk hcc 4
      have c5:=zk hcc 5
      have c11:(wr).cell? ⟨p,11,none⟩=some (.slice _ ts.length tc):=hcc 11
      have c13:(wr).cell? ⟨p,13,none⟩=some (.slice _ kk.length kc):=hcc 13
      clear hbk
      clear hcc
      by_cases hil:i < ls.length
      ·as_aux_lemma=>
       obtain ⟨bb,e9,hcs⟩:=HS1.out.at (HX0.out.trans HX.out) i hil
       subst e9
       have e0:=hcs 0 _ rfl;have e1:=hcs 1 _ rfl
       clear hcs
       generalize ls[i]=q at *
       obtain ⟨z1,z2⟩:=q
       simp only [Nat.add_zero] at e0 e1
       have hbl:=zB wr _ e1
       have hili:(i:Int) < (ls.length:Int):=by omega
       have hwi:=wz ((i:Int)+1) (by have:=HN.out;omega)
       go_upto_region 14 with (fail)
       by_cases hgt:z2 < low
       ·go_quiet (fail)
        have hxq:Ext wr (wr.drewN nq):=xt
        go_wp2_with (fail)
        go_ret2
        exact ⟨_,_,rfl,(HX0.out.trans HX.out).trans hxq⟩
       ·go_quiet (fail)
        have hxq:Ext wr (wr.drewN nq):=xt
        go_wp2_with (fail)
        exact ⟨⟨i+1,by rfl,by omega,zH (HX.out.trans hxq)⟩,by simp [iof];omega⟩
      ·obtain rfl:i=ls.length:=by omega
       obtain ⟨w3,rfl⟩:∃ x:World,x=wr:=⟨_,rfl⟩
       go_upto_region 17 with (fail)
       clear c1 c2 c3 c4 c5 c11 c13 lp
       go_loopw [8] (fun iv wr=>∃ i:Nat,iv=iV i∧i≤rs.length∧Hid (Ext W wr)) (fun iv _=>rs.length - (iof iv).toNat)
       case atStart=>exact ⟨0,rfl,Nat.zero_le _,HX⟩
       case round=>
        rename World=>wr
        obtain ⟨i,rfl,hi,HX⟩:=hrel
        have hbk:(wr).heap[p]? = some (.cells row.toArray 39):=((HX.out).block _ (zL HB.out)).trans HB.out
        rw [HRT.out] at hbk
        obtain ⟨hcc,-,lp⟩:=zC hbk
        have c1:(wr).cell? ⟨p,1,none⟩=some (.slice _ ls.length lc):=hcc 1
        have c2:(wr).cell? ⟨p,2,none⟩=some (.slice _ cs.length cc):=hcc 2
        have c3:(wr).cell? ⟨p,3,none⟩=some (.slice _ rs.length rc):=hcc 3
        have c4:=zk hcc 4
        have c5:=zk hcc 5
        have c11:(wr).cell? ⟨p,11,none⟩=some (.slice _ ts.length tc):=hcc 11
        have c13:(wr).cell? ⟨p,13,none⟩=some (.slice _ kk.length kc):=hcc 13
        clear hbk
        clear hcc
        by_cases hil:i < rs.length
        ·as_aux_lemma=>
         obtain ⟨bb,e9,hcs⟩:=HS3.out.at (HX0.out.trans HX.out) i hil
         have HC0:=zH (fun wz (hz:Ext wr wz)=>(hz.cells.1 _ _ (zB wr _ (hcs 0 _ rfl))).trans (hcs 0 _ rfl))
         clear hcs
         generalize rs[i]=q at *
         obtain ⟨n0,z1,z2⟩:=q
         simp only [Nat.add_zero] at HC0
         have hili:(i:Int) < (rs.length:Int):=by omega
         have hwi:=wz ((i:Int)+1) (by have:=HN.out;omega)
         go_upto_region 21 with (fail)
         clear c1 c2 c3 c4 c5 c11 c13 lp
         go_loopw [9,10] (fun kv iv wq=>∃ (k:Int) (j:Nat),kv=iV k∧iv=iV j∧j≤cs.length∧Hid (Ext wr wq)) (fun _ iv _=>cs.length - (iof iv).toNat)
         case atStart=>exact ⟨_,0,rfl,rfl,Nat.zero_le _,zH (Ext.refl _)⟩
         case round=>
          rename World=>wq
          obtain ⟨k,j,rfl,rfl,hj,HY⟩:=hrel
          have hbk:(wq).heap[p]? = some (.cells row.toArray 39):=(((HX.out.trans HY.out)).block _ (zL HB.out)).trans HB.out
          rw [HRT.out] at hbk
          obtain ⟨hcc,-,lp⟩:=zC hbk
          have c1:(wq).cell? ⟨p,1,none⟩=some (.slice _ ls.length lc):=hcc 1
          have c2:(wq).cell? ⟨p,2,none⟩=some (.slice _ cs.length cc):=hcc 2
          have c3:(wq).cell? ⟨p,3,none⟩=some (.slice _ rs.length rc):=hcc 3
          have c4:=zk hcc 4
          have c5:=zk hcc 5
          have c11:(wq).cell? ⟨p,11,none⟩=some (.slice _ ts.length tc):=hcc 11
          have c13:(wq).cell? ⟨p,13,none⟩=some (.slice _ kk.length kc):=hcc 13
          clear hbk
          clear hcc
          by_cases hjl:j < cs.length
          ·obtain ⟨bc,e8,hcs⟩:=HS2.out.at (HX0.out.trans (HX.out.trans HY.out)) j hjl
           have d0:=hcs 0 _ rfl;have d1:=hcs 1 _ rfl
           clear hcs
           generalize cs[j]=qc at *
           obtain ⟨m0,y1,y2,y3,y4⟩:=qc
           simp only [Nat.add_zero] at d0 d1
           have e0:=HC0.out wq HY.out
           subst e8 e9
           have hbl:=zB wq _ e0
           have hbm:=zB wq _ d1
           have hjli:(j:Int) < (cs.length:Int):=by omega
           have hwj:=wz ((j:Int)+1) (by have:=HN.out;omega)
           go_upto_region 23 with (fail)
           by_cases hnn:(m0.toList == n0.toList)=true
           ·go_quiet (fail)
            have hxq:Ext wq (wq.drewN nq):=xt
            go_wp2_with (fail)
            exact ⟨⟨_,j+1,by rfl,by rfl,by omega,zH (HY.out.trans hxq)⟩,by simp [iof];omega⟩
           ·have hnn':(m0.toList == n0.toList)=false:=by simpa using hnn
            clear hnn
            go_quiet (fail)
            have hxq:Ext wq (wq.drewN nq):=xt
            go_wp2_with (fail)
            exact ⟨⟨_,j+1,by rfl,by rfl,by omega,zH (HY.out.trans hxq)⟩,by simp [iof];omega⟩
          ·obtain rfl:j=cs.length:=by omega
           by_cases hk0:k=0
           ·subst hk0
            go_wp2_with (fail)
            go_ret2
            exact ⟨_,_,rfl,HX0.out.trans (HX.out.trans HY.out)⟩
           ·have hk0b:(k == 0)=false:=by rw [beq_eq_false_iff_ne];exact hk0
            by_cases hk2:k=2
            ·subst hk2
             go_wp2_with (fail)
             exact ⟨⟨i+1,by rfl,by omega,zH (HX.out.trans HY.out)⟩,by simp [iof];omega⟩
            ·have hk2b:(k == 2)=false:=by rw [beq_eq_false_iff_ne];exact hk2
             go_wp2_with (fail)
             go_ret2
             exact ⟨_,_,rfl,HX0.out.trans (HX.out.trans HY.out)⟩
        ·obtain rfl:i=rs.length:=by omega
         obtain ⟨w4,rfl⟩:∃ x:World,x=wr:=⟨_,rfl⟩
         clear c1 c2 c3 c4 c5 c11 c13 lp
         have hbk:(w4).heap[p]? = some (.cells row.toArray 39):=((HX.out).block _ (zL HB.out)).trans HB.out
         rw [HRT.out] at hbk
         obtain ⟨hcc,-,lp⟩:=zC hbk
         have c1:(w4).cell? ⟨p,1,none⟩=some (.slice _ ls.length lc):=hcc 1
         have c2:(w4).cell? ⟨p,2,none⟩=some (.slice _ cs.length cc):=hcc 2
         have c3:(w4).cell? ⟨p,3,none⟩=some (.slice _ rs.length rc):=hcc 3
         have c4:=zk hcc 4
         have c5:=zk hcc 5
         have c11:(w4).cell? ⟨p,11,none⟩=some (.slice _ ts.length tc):=hcc 11
         have c13:(w4).cell? ⟨p,13,none⟩=some (.slice _ kk.length kc):=hcc 13
         clear hbk
         have c6:=zk hcc 6
         have c7:=zk hcc 7
         have c8:=zk hcc 8
         have c9:=zk hcc 9
         have c10:=zk hcc 10
         clear hcc
         have hrg0:w4.rangeAt p 0 row:=range_of ((HX.out.block _ (zL HB.out)).trans HB.out) 0 row (fun j v hv=>by simpa using hv)
         go_upto_region 30 with (first
          |(refine wpList_load_mid rfl 39 (.tmp 1) rfl p 0 (by rfl) row _ hrg0 Tryz.underlying39 rfl (by rw [hrs];kernel_rfl) ?_)
          |(go_at_call 57;(with_reducible refine (HPW.out _ (HX0.out.trans HX.out)).mono ?_);rintro e w5 ⟨n1,er1,rfl,hx⟩;have HX5:=zH (HX.out.trans hx);clear hx))
         clear hrg0 c6 c7 c8 c9 c10
         clear c1 c2 c3 c4 c5 c11 c13 lp
         by_cases hz1:er1=0
         rotate_left
         ·have hz1b:(er1 == 0)=false:=by rw [beq_eq_false_iff_ne];exact hz1
          go_wp2_with (fail)
          go_ret2
          exact ⟨_,_,rfl,HX0.out.trans HX5.out⟩
         ·subst hz1
          by_cases hn1:n1=0
          rotate_left
          ·have hn1b:(n1 == 0)=false:=by rw [beq_eq_false_iff_ne];exact hn1
           go_wp2_with (fail)
           go_ret2
           exact ⟨_,_,rfl,HX0.out.trans HX5.out⟩
          ·subst hn1
           have hbk:(w5).heap[p]? = some (.cells row.toArray 39):=((HX5.out).block _ (zL HB.out)).trans HB.out
           rw [HRT.out] at hbk
           obtain ⟨hcc,-,lp⟩:=zC hbk
           have c1:(w5).cell? ⟨p,1,none⟩=some (.slice _ ls.length lc):=hcc 1
           have c2:(w5).cell? ⟨p,2,none⟩=some (.slice _ cs.length cc):=hcc 2
           have c3:(w5).cell? ⟨p,3,none⟩=some (.slice _ rs.length rc):=hcc 3
           have c4:=zk hcc 4
           have c5:=zk hcc 5
           have c11:(w5).cell? ⟨p,11,none⟩=some (.slice _ ts.length tc):=hcc 11
           have c13:(w5).cell? ⟨p,13,none⟩=some (.slice _ kk.length kc):=hcc 13
           clear hbk
           have c6:=zk hcc 6
           have c7:=zk hcc 7
           have c8:=zk hcc 8
           have c9:=zk hcc 9
           have c10:=zk hcc 10
           clear hcc
           have hrg0:w5.rangeAt p 0 row:=range_of ((HX5.out.block _ (zL HB.out)).trans HB.out) 0 row (fun j v hv=>by simpa using hv)
           go_upto_region 34 with (first
            |(refine wpList_load_mid rfl 39 (.tmp 1) rfl p 0 (by rfl) row _ hrg0 Tryz.underlying39 rfl (by rw [hrs];kernel_rfl) ?_)
            |(go_at_call 58;(with_reducible refine (HIN.out _ (HX0.out.trans HX5.out)).mono ?_);rintro e w6 ⟨⟨lo1,lo2⟩,⟨hi1,hi2⟩,er2,rfl,-,-,hx⟩;have HX6:=zH (HX5.out.trans hx);clear hx))
           clear hrg0 c6 c7 c8 c9 c10
           clear c1 c2 c3 c4 c5 c11 c13 lp
           by_cases hz2:er2=0
           rotate_left
           ·have hz2b:(er2 == 0)=false:=by rw [beq_eq_false_iff_ne];exact hz2
            go_wp2_with (fail)
            go_ret2
            exact ⟨_,_,rfl,HX0.out.trans HX6.out⟩
           ·subst hz2
            go_upto_region 37 with (fail)
            go_loopw [13] (fun iv wr=>∃ i:Nat,iv=iV i∧i≤ts.length∧Hid (Ext W wr)) (fun iv _=>ts.length - (iof iv).toNat)
            case atStart=>exact ⟨0,rfl,Nat.zero_le _,HX6⟩
            case round=>
             rename World=>wr
             clear HX HX5 HX6
             obtain ⟨i,rfl,hi,HX⟩:=hrel
             have hbk:(wr).heap[p]? = some (.cells row.toArray 39):=((HX.out).block _ (zL HB.out)).trans HB.out
             rw [HRT.out] at hbk
             obtain ⟨hcc,-,lp⟩:=zC hbk
             have c1:(wr).cell? ⟨p,1,none⟩=some (.slice _ ls.length lc):=hcc 1
             have c2:(wr).cell? ⟨p,2,none⟩=some (.slice _ cs.length cc):=hcc 2
             have c3:(wr).cell? ⟨p,3,none⟩=some (.slice _ rs.length rc):=hcc 3
             have c4:=zk hcc 4
             have c5:=zk hcc 5
             have c11:(wr).cell? ⟨p,11,none⟩=some (.slice _ ts.length tc):=hcc 11
             have c13:(wr).cell? ⟨p,13,none⟩=some (.slice _ kk.length kc):=hcc 13
             clear hbk
             clear hcc
             by_cases hil:i < ts.length
             ·as_aux_lemma=>
              obtain ⟨bb,e9,hcs⟩:=HS4.out.at (HX0.out.trans HX.out) i hil
              subst e9
              have e0:=hcs 0 _ rfl
              have HC0:=zH (fun wz (hz:Ext wr wz)=>(hz.cells.1 _ _ (zB wr _ (hcs 0 _ rfl))).trans (hcs 0 _ rfl))
              clear hcs
              have HBs:=zH (fun wz (hz:Ext w wz)=>HBD.out ts[i] wz hz)
              generalize ts[i]=n0 at *
              simp only [Nat.add_zero,Nat.mul_one] at e0 HC0
              have hbl:=zB wr _ e0
              have hili:(i:Int) < (ts.length:Int):=by omega
              have hwi:=wz ((i:Int)+1) (by have:=HN.out;omega)
              go_upto_region 39 with (fail)
              have h39:=(HX.out.block _ (zL HB.out)).trans HB.out
              refine Rr.rE [9,10] [(0,.y),(1,.y),(2,.y),(3,.y),(4,.y),(5,.y),(6,.z),(7,.y),(8,.y),(9,.y),(10,.y)] ?_
              refine Rr.y2 (h:=fun wz hw=>up_row (by rfl) ((hw.block _ (zL h39)).trans h39) Tryz.underlying39 (by rw [List.size_toArray,hrs];kernel_rfl)) (k:=?_)
              iterate 5
               refine Rr.y1 ?_
              (refine Rr.zd (fun v _=>BdR v) (fun v w1 w2 h e=>h) (fun wz hw hh=>?_) (fun u=>?_)
               ·go_simp
                apply Rr.upR_enter
                (refine (HBs.out wz (HX0.out.trans (HX.out.trans hw))).mono ?_)
                intro e wq hq
                obtain ⟨uu,rfl,hu,hxq⟩:=hq.r
                exact ⟨uu,rfl,hxq,hu⟩
               simp only [zp])
              (refine Rr.yd ⟨u,fun wz hw hh=>?_,?_⟩
               ·obtain ⟨lo,hi,b,rfl⟩:=hh _ zM
                go_simp
                exact zU
               simp only [zp])
              (refine Rr.yd ⟨tg u 0,fun wz hw hh=>?_,?_⟩
               ·obtain ⟨lo,hi,b,rfl⟩:=hh _ zM
                go_simp
                exact zU
               simp only [zp])
              (refine Rr.yd ⟨tg u 1,fun wz hw hh=>?_,?_⟩
               ·obtain ⟨lo,hi,b,rfl⟩:=hh _ zM
                go_simp
                exact zU
               simp only [zp])
              (refine Rr.yd ⟨tg u 2,fun wz hw hh=>?_,?_⟩
               ·obtain ⟨lo,hi,b,rfl⟩:=hh _ zM
                go_simp
                exact zU
               simp only [zp])
              refine Rr.wr_nil ?_
              intro wy hy hh
              obtain ⟨lo,hi,b,rfl⟩:=hh _ zM
              simp only [gg,gh,gi,gj,Nat.reduceAdd]
              clear hh h39
              rw [show tg (.tuple #[iV lo,iV hi,.bool b]) 0=iV lo from rfl,show tg (.tuple #[iV lo,iV hi,.bool b]) 1=iV hi from rfl,show tg (.tuple #[iV lo,iV hi,.bool b]) 2=.bool b from rfl]
              have HXy:=zH (HX.out.trans hy)
              have d0:=HC0.out wy hy
              have ld:=zB wy _ d0
              clear hy e0 hbl
              clear c1 c2 c3 c4 c5 c11 c13 lp
              have hbk:(wy).heap[p]? = some (.cells row.toArray 39):=((HXy.out).block _ (zL HB.out)).trans HB.out
              rw [HRT.out] at hbk
              obtain ⟨hcc,-,lp⟩:=zC hbk
              have c1:(wy).cell? ⟨p,1,none⟩=some (.slice _ ls.length lc):=hcc 1
              have c2:(wy).cell? ⟨p,2,none⟩=some (.slice _ cs.length cc):=hcc 2
              have c3:(wy).cell? ⟨p,3,none⟩=some (.slice _ rs.length rc):=hcc 3
              have c4:=zk hcc 4
              have c5:=zk hcc 5
              have c11:(wy).cell? ⟨p,11,none⟩=some (.slice _ ts.length tc):=hcc 11
              have c13:(wy).cell? ⟨p,13,none⟩=some (.slice _ kk.length kc):=hcc 13
              clear hbk
              clear hcc
              cases b with
              | false=>
               go_wp2_with (fail)
               go_ret2
               exact ⟨_,_,rfl,HX0.out.trans HXy.out⟩
              | true=>
               by_cases hlw:(n0.toList == [108,111,119])=true
               ·go_wp2_with (fail)
                go_ret2
                exact ⟨_,_,rfl,HX0.out.trans HXy.out⟩
               ·have hlw':(n0.toList == [108,111,119])=false:=by simpa using hlw
                clear hlw
                go_wp2_with (fail)
                exact ⟨⟨i+1,by rfl,by omega,HXy⟩,by simp [iof];omega⟩
             ·obtain rfl:i=ts.length:=by omega
              obtain ⟨w7,rfl⟩:∃ x:World,x=wr:=⟨_,rfl⟩
              go_upto_region 43 with (fail)
              clear c1 c2 c3 c4 c5 c11 c13 lp
              go_loopw [17] (fun iv wr=>∃ i:Nat,iv=iV i∧i≤kk.length∧Hid (Ext W wr)) (fun iv _=>kk.length - (iof iv).toNat)
              case atStart=>exact ⟨0,rfl,Nat.zero_le _,HX⟩
              case round=>
               rename World=>wr
               obtain ⟨i,rfl,hi,HX⟩:=hrel
               by_cases hil:i < kk.length
               ·as_aux_lemma=>
                obtain ⟨bb,e9,hcs⟩:=HS5.out.at (HX0.out.trans HX.out) i hil
                obtain ⟨l,hl1,hl2,hl3⟩:=HP5.out kk[i] (List.getElem_mem hil)
                have HL1:=zH hl1
                have HC0:=zH (fun wz (hz:Ext wr wz)=>(hz.cells.1 _ _ (zB wr _ (hcs 0 _ rfl))).trans (hcs 0 _ rfl))
                clear hcs hl1 hl3
                generalize kk[i]=q at *
                obtain ⟨qa,qn,qc⟩:=q
                simp only [Nat.add_zero,Nat.mul_one] at HC0
                obtain ⟨qa',qc',hqv,-,-,hcl⟩:=HL1.out
                injection hqv with hq1 hq2 hq3
                subst hq1 hq2 hq3 e9
                have HCL:=zH hcl
                clear hcl
                have hili:(i:Int) < (kk.length:Int):=by omega
                have hwi:=wz ((i:Int)+1) (by have:=HN.out;omega)
                have hbk:(wr).heap[p]? = some (.cells row.toArray 39):=((HX.out).block _ (zL HB.out)).trans HB.out
                rw [HRT.out] at hbk
                obtain ⟨hcc,-,lp⟩:=zC hbk
                have c1:(wr).cell? ⟨p,1,none⟩=some (.slice _ ls.length lc):=hcc 1
                have c2:(wr).cell? ⟨p,2,none⟩=some (.slice _ cs.length cc):=hcc 2
                have c3:(wr).cell? ⟨p,3,none⟩=some (.slice _ rs.length rc):=hcc 3
                have c4:=zk hcc 4
                have c5:=zk hcc 5
                have c11:(wr).cell? ⟨p,11,none⟩=some (.slice _ ts.length tc):=hcc 11
                have c13:(wr).cell? ⟨p,13,none⟩=some (.slice _ kk.length kc):=hcc 13
                clear hbk
                clear hcc
                go_upto_region 46 with (fail)
                clear c1 c2 c3 c4 c5 c11 c13 lp
                go_loopw [18] (fun iv wq=>∃ j:Nat,iv=iV j∧j≤l.length∧Hid (Ext wr wq)) (fun iv _=>l.length - (iof iv).toNat)
                case atStart=>exact ⟨0,rfl,Nat.zero_le _,zH (Ext.refl _)⟩
                case round=>
                 rename World=>wq
                 obtain ⟨j,rfl,hj,HY⟩:=hrel
                 have hbk:(wq).heap[p]? = some (.cells row.toArray 39):=(((HX.out.trans HY.out)).block _ (zL HB.out)).trans HB.out
                 rw [HRT.out] at hbk
                 obtain ⟨hcc,-,lp⟩:=zC hbk
                 have c1:(wq).cell? ⟨p,1,none⟩=some (.slice _ ls.length lc):=hcc 1
                 have c2:(wq).cell? ⟨p,2,none⟩=some (.slice _ cs.length cc):=hcc 2
                 have c3:(wq).cell? ⟨p,3,none⟩=some (.slice _ rs.length rc):=hcc 3
                 have c4:=zk hcc 4
                 have c5:=zk hcc 5
                 have c11:(wq).cell? ⟨p,11,none⟩=some (.slice _ ts.length tc):=hcc 11
                 have c13:(wq).cell? ⟨p,13,none⟩=some (.slice _ kk.length kc):=hcc 13
                 clear hbk
                 clear hcc
                 have e0:=HC0.out wq HY.out
                 change wq.cell? _=some (.slice qa l.length qc) at e0
                 have hbl:=zB wq _ e0
                 by_cases hjl:j < l.length
                 ·obtain ⟨b1,off,hqa,hcs⟩:=HCL.out.resolve_left (by intro e;rw [e] at hjl;simp at hjl)
                  have HD0:=zH (fun wz (hz:Ext W wz)=>((HX0.out.trans hz).cells.1 _ _ (zB w _ (hcs j hjl))).trans (hcs j hjl))
                  clear hcs
                  have hji:(j:Int) < (l.length:Int):=by omega
                  have hwj:=wz ((j:Int)+1) (by omega)
                  have hwj2:=wz (j:Int) (by omega)
                  subst hqa
                  generalize l[j]=z at *
                  go_upto_region 50 with (fail)
                  clear c1 c2 c3 c4 c5 c11 c13 lp
                  clear e0 hbl
                  go_loopw [19,20] (fun bv iv wu=>∃ (b:Bool) (k:Nat),bv=.bool b∧iv=iV k∧k≤ls.length∧Hid (Ext wq wu)) (fun _ iv _=>ls.length - (iof iv).toNat)
                  case atStart=>exact ⟨_,0,rfl,rfl,Nat.zero_le _,zH (Ext.refl _)⟩
                  case round=>
                   rename World=>wu
                   obtain ⟨b,k,rfl,rfl,hk,HZ⟩:=hrel
                   have HWu:=zH (HX.out.trans (HY.out.trans HZ.out))
                   have hbk:(wu).heap[p]? = some (.cells row.toArray 39):=((HWu.out).block _ (zL HB.out)).trans HB.out
                   rw [HRT.out] at hbk
                   obtain ⟨hcc,-,lp⟩:=zC hbk
                   have c1:(wu).cell? ⟨p,1,none⟩=some (.slice _ ls.length lc):=hcc 1
                   have c2:(wu).cell? ⟨p,2,none⟩=some (.slice _ cs.length cc):=hcc 2
                   have c3:(wu).cell? ⟨p,3,none⟩=some (.slice _ rs.length rc):=hcc 3
                   have c4:=zk hcc 4
                   have c5:=zk hcc 5
                   have c11:(wu).cell? ⟨p,11,none⟩=some (.slice _ ts.length tc):=hcc 11
                   have c13:(wu).cell? ⟨p,13,none⟩=some (.slice _ kk.length kc):=hcc 13
                   clear hbk
                   clear hcc
                   have e0:=HC0.out wu (HY.out.trans HZ.out)
                   change wu.cell? _=some (.slice _ l.length qc) at e0
                   have hbl:=zB wu _ e0
                   have d0:=HD0.out wu HWu.out
                   have ld:=zB wu _ d0
                   by_cases hkl:k < ls.length
                   ·obtain ⟨bl,e8,hcs⟩:=HS1.out.at (HX0.out.trans HWu.out) k hkl
                    subst e8
                    have k0:=hcs 0 _ rfl
                    clear hcs
                    have lk:=zB wu _ k0
                    generalize ls[k]=y at *
                    simp only [Nat.add_zero] at k0
                    have hki:(k:Int) < (ls.length:Int):=by omega
                    have hwk:=wz ((k:Int)+1) (by have:=HN.out;omega)
                    cases b with
                    | false=>
                     go_upto_region 52 with (fail)
                     go_quiet (fail)
                     have hxq:Ext wu (wu.drewN nq):=xt
                     go_wp2_with (fail)
                     exact ⟨⟨_,k+1,by rfl,by rfl,by omega,zH (HZ.out.trans hxq)⟩,by simp [iof];omega⟩
                    | true=>
                     go_upto_region 52 with (fail)
                     go_quiet (fail)
                     have hxq:Ext wu (wu.drewN nq):=xt
                     go_wp2_with (fail)
                     exact ⟨⟨_,k+1,by rfl,by rfl,by omega,zH (HZ.out.trans hxq)⟩,by simp [iof];omega⟩
                   ·obtain rfl:k=ls.length:=by omega
                    cases b with
                    | false=>
                     go_wp2_with (fail)
                     go_ret2
                     exact ⟨_,_,rfl,HX0.out.trans HWu.out⟩
                    | true=>
                     go_wp2_with (fail)
                     exact ⟨⟨j+1,by rfl,by omega,zH (HY.out.trans HZ.out)⟩,by simp [iof];omega⟩
                 ·obtain rfl:j=l.length:=by omega
                  go_wp2_with (fail)
                  exact ⟨⟨i+1,by rfl,by omega,zH (HX.out.trans HY.out)⟩,by simp [iof];omega⟩
               ·as_aux_lemma=>
                obtain rfl:i=kk.length:=by omega
                have hbk:(wr).heap[p]? = some (.cells row.toArray 39):=((HX.out).block _ (zL HB.out)).trans HB.out
                rw [HRT.out] at hbk
                obtain ⟨hcc,-,lp⟩:=zC hbk
                have c1:(wr).cell? ⟨p,1,none⟩=some (.slice _ ls.length lc):=hcc 1
                have c2:(wr).cell? ⟨p,2,none⟩=some (.slice _ cs.length cc):=hcc 2
                have c3:(wr).cell? ⟨p,3,none⟩=some (.slice _ rs.length rc):=hcc 3
                have c4:=zk hcc 4
                have c5:=zk hcc 5
                have c11:(wr).cell? ⟨p,11,none⟩=some (.slice _ ts.length tc):=hcc 11
                have c13:(wr).cell? ⟨p,13,none⟩=some (.slice _ kk.length kc):=hcc 13
                clear hbk
                have c15:=zk hcc 15
                have c16:=zk hcc 16
                have c17:=zk hcc 17
                have c18:=zk hcc 18
                clear hcc
                by_cases h1:t1 < t0
                ·go_wp2_with (fail)
                 go_ret2
                 exact ⟨_,_,rfl,HX0.out.trans HX.out⟩
                ·by_cases h2:t2 < t1
                 ·go_wp2_with (fail)
                  go_ret2
                  exact ⟨_,_,rfl,HX0.out.trans HX.out⟩
                 ·by_cases h3:t3 < t2
                  ·go_wp2_with (fail)
                   go_ret2
                   exact ⟨_,_,rfl,HX0.out.trans HX.out⟩
                  ·go_wp2_with (fail)
                   go_ret2
                   exact ⟨_,_,rfl,HX0.out.trans HX.out⟩
theorem GdT.pt {r:TnR} {T:TP} (h:GdT T) (hn:GdN r):PT r T where
 nm:=by rw [hn.nm];exact ⟨by decide +kernel,by decide⟩
 ls:=fun x hx=>by
  obtain ⟨j,hj,rfl⟩:=List.getElem_of_mem hx
  obtain ⟨h1,h2,h3⟩:=h.ls j hj
  have:=h.ll.2
  exact ⟨by omega,by omega,h2,by omega⟩
 ll:=⟨h.ll.1,by have:=h.ll.2;omega⟩
 cs:=fun c hc=>by
  obtain ⟨h1,h2,h3,h4⟩:=h.names c hc
  exact ⟨h1,⟨h2.1,by omega⟩,⟨by omega,by omega⟩,h4⟩
 cl:=by have:=h.cl;omega
 rs:=fun q hq=>by
  obtain ⟨⟨c,hc,he⟩,h2,h3,h4⟩:=h.rs q hq
  exact ⟨he ▸ (h.names c hc).1,by rcases h2 with e|e <;> rw [e] <;> decide,h3,by omega⟩
 rl:=by have:=h.rl;omega
 ts:=fun s hs=>by
  rcases h.ts s hs with rfl|⟨c,hc,rfl⟩
  ·decide
  ·exact (h.names c hc).1.sz
 tl:=by have:=h.tl;omega
 low:=⟨by have:=hn.low;omega,by have:=hn.low;omega⟩
 high:=⟨by have:=hn.high;have:=hn.low;omega,by have:=hn.high;omega⟩
 most:=⟨hn.most.1,by have:=hn.most;omega⟩
 budget:=⟨by have:=hn.budget;omega,by have:=hn.budget;omega⟩
 t0:=⟨hn.t0.1,by have:=hn.t0;omega⟩
 t1:=⟨hn.t1.1,by have:=hn.t1;omega⟩
 t2:=⟨hn.t2.1,by have:=hn.t2;omega⟩
 t3:=⟨hn.t3.1,by have:=hn.t3;omega⟩
 t4:=⟨hn.t4.1,by have:=hn.t4;omega⟩
 f:=(h.f.ge fun c hc=>(h.names c hc).1).1
 fp:=(h.f.ge fun c hc=>(h.names c hc).1).2.1
 fd:=(h.f.ge fun c hc=>(h.names c hc).1).2.2
section
variable {W w w':World} {D bn lim pn:Nat} {v:Value} {ns:List Int} {pos pos' nl nc nr nt:Nat} {r r':TnR} {T:TP} {f:Ex}
theorem KB.ks {kk:List Sl} (h:KB w r kk):KS w (slV r.ks) kk:=by
 rcases h with ⟨h1,rfl⟩|⟨q1,q2,h1,h2,h3,rfl⟩
 ·rw [h1]
  exact ⟨⟨none,0,rfl,Nat.zero_le _,.inl rfl⟩,Nat.zero_le _,fun x hx=>by cases hx⟩
 ·rw [h1]
  refine ⟨SR.of_block (xs:=[((some ⟨q1,0,none⟩,2,2):Sl)]) (cs:=cellsSl) (sz:=1) (fun _=>rfl) h3 (by show (1:Nat)≤1000000;decide),by show (1:Nat)≤12;decide,fun x hx=>?_⟩
  rw [List.mem_singleton.1 hx]
  refine ⟨[1,2],⟨_,_,rfl,by show (2:Nat)≤_;decide,by decide,.inr ⟨q1,0,rfl,fun k hk=>?_⟩⟩,by show (2:Nat)≤12;decide,by decide⟩
  obtain rfl|rfl:k=0∨k=1:=by simp at hk;omega
  ·exact (cell_of_row w q1 0 _ _ _ h2).trans rfl
  ·exact (cell_of_row w q1 1 _ _ _ h2).trans rfl
theorem GZ.tvAt {kk:List Sl} (h:GZ W D bn lim v ns w pos nl nc nr nt r T f kk) (h1:1≤nl) (h2:nl≤3) (h3:nc≤3) (h4:nr≤3) (h5:nt≤4) (hf:FoM T.cs f) (w':World) (hw:∀ b,b≠W.heap.size→w'.heap[b]? = w.heap[b]?):CT w' r { T with f:=f } kk:=by
 have hg:=h.l.gd h1 h2 h3 h4 h5 hf
 have hp:=hg.pt h.n
 have mv:∀ {E sz n:Nat} {u:Value} {xs:List Value},w.ownsRow W.heap.size E sz u n xs→E≠39→w'.ownsRow W.heap.size E sz u n xs:=fun {E sz n u xs} hr hE=>row_move hr fun b hb _=>hw b (by
  obtain ⟨ds,hd⟩:=row_obj hr hb
  exact obj_ne hd h.g.z_ hE)
 exact ⟨⟨SR.of_row (cs:=cellsLot) (fun x=>(one_lot x).1) (mv h.g.ls_ (by decide)) (Nat.le_trans hp.ll.2 (by decide)),SR.of_row (cs:=cellsCr) (fun x=>(one_cr x).1) (mv h.g.cs_ (by decide)) (Nat.le_trans hp.cl (by decide)),SR.of_row (cs:=cellsRq) (fun x=>(one_rq x).1) (mv h.g.rs_ (by decide)) (Nat.le_trans hp.rl (by decide)),SR.of_row (cs:=strC) (fun x=>(one_str x).1) (mv h.g.ts_ (by decide)) (Nat.le_trans hp.tl (by decide)),
  (Rd.frame (fun b o hb _=>World.cell?_of_block (hw b (Ne.symm (Nat.ne_of_lt hb.1.1)))) (fun _ h=>h) _ _ h.fo).all,Nat.le_trans hp.fp (by decide)⟩,
  (h.kb.move (r':=r) (w':=w') rfl fun b cs t hb ht=>(hw b (obj_ne hb h.g.z_ (by rcases ht with rfl|rfl <;> decide))).trans hb).ks,hp⟩
theorem GZ.out {kk:List Sl} (h:GZ W D bn lim v ns w pos nl nc nr nt r T f kk) (h1:1≤nl) (h2:nl≤3) (h3:nc≤3) (h4:nr≤3) (h5:nt≤4) (hf:FoM T.cs f) :
 CT (w.setRow W.heap.size (tenC r)) r { T with f:=f } kk∧GdT { T with f:=f }∧GdN r∧Ext W (w.setRow W.heap.size (tenC r)):=
 ⟨h.tvAt h1 h2 h3 h4 h5 hf _ fun b hb=>setRow_other _ _ _ _ hb,h.l.gd h1 h2 h3 h4 h5 hf,h.n,below_setRow h.g.mx.low (Nat.le_refl _) _⟩
end
end Go.Proofs.YteomcpplajeidaaGreat
