/-
  Lemmas of this claim (JwAL). Nothing is asked.
-/
import Derived.Test.YteomcpplajeidaaGreatJwAJ
import Derived.Test.YteomcpplajeidaaGreatJwAK
set_option linter.unusedVariables false
set_option linter.unusedSimpArgs false
set_option maxRecDepth 100000
set_option maxHeartbeats 40000000
namespace Go.Proofs.YteomcpplajeidaaGreat
open Go.RowKit
abbrev lotA:ByteArray:=⟨#[108,111,116,32]⟩
abbrev lotB:ByteArray:=⟨#[32,109,111,115,116,32]⟩
abbrev spB:ByteArray:=⟨#[32]⟩
abbrev reqB:ByteArray:=⟨#[114,101,113,117,105,114,101,32]⟩
abbrev priB:ByteArray:=⟨#[112,114,105,99,101,32]⟩
abbrev forB:ByteArray:=⟨#[10,102,111,114,109,117,108,97,32]⟩
abbrev timB:ByteArray:=⟨#[116,105,109,101,115,32]⟩
abbrev criB:ByteArray:=⟨#[99,114,105,116,101,114,105,111,110,32]⟩
abbrev graB:ByteArray:=⟨#[103,114,97,100,101]⟩
abbrev offB:ByteArray:=⟨#[111,102,102,101,114]⟩
theorem printed_any (r:TnR) (T:TP) (kk:List Sl) (w:World) (h:CT w r T kk):Calls Tryz.prog 97 #[.agg (tenC r)] w (StB 100000 w):=by
 have HT:=zH h
 obtain ⟨nm,⟨la,ln,lc⟩,⟨ca,cn,cc⟩,⟨ra,rn,rc⟩,low,high,fo,f1,f2,fn,⟨fa0,fa1,fa2⟩,⟨ta,tn,tc⟩,most,⟨ka,kn,kc⟩,budget,t0,t1,t2,t3,t4⟩:=r
 obtain rfl:ln=T.ls.length:=h.tv.h1.n_eq
 obtain rfl:cn=T.cs.length:=h.tv.h2.n_eq
 obtain rfl:rn=T.rs.length:=h.tv.h3.n_eq
 obtain rfl:tn=T.ts.length:=h.tv.h4.n_eq
 obtain rfl:kn=kk.length:=h.ks.sr.n_eq
 obtain ⟨ls,cs,rs,ts,f⟩:=T
 simp only at *
 have hnm:nm.size≤100:=h.pt.nm.2
 have HS1:=zH h.tv.h1;have HS2:=zH h.tv.h2;have HS3:=zH h.tv.h3;have HS4:=zH h.tv.h4;have HS5:=zH h.ks.sr
 have HP1:=zH h.pt.ls;have HP2:=zH h.pt.cs;have HP3:=zH h.pt.rs;have HP4:=zH h.pt.ts;have HP5:=zH h.ks.each
 have HLO:=zH (fun wz=>numb_known low h.pt.low wz)
 have hzsLo:=numTx_sz low
 generalize numTx low=sLo at *
 have HHI:=zH (fun wz=>numb_known high h.pt.high wz)
 have hzsHi:=numTx_sz high
 generalize numTx high=sHi at *
 have HMO:=zH (fun wz=>numb_known most h.pt.most wz)
 have hzsMo:=numTx_sz most
 generalize numTx most=sMo at *
 have HBU:=zH (fun wz=>numb_known budget h.pt.budget wz)
 have hzsBu:=numTx_sz budget
 generalize numTx budget=sBu at *
 have HT0:=zH (fun wz=>numb_known t0 h.pt.t0 wz)
 have hzsT0:=numTx_sz t0
 generalize numTx t0=sT0 at *
 have HT1:=zH (fun wz=>numb_known t1 h.pt.t1 wz)
 have hzsT1:=numTx_sz t1
 generalize numTx t1=sT1 at *
 have HT2:=zH (fun wz=>numb_known t2 h.pt.t2 wz)
 have hzsT2:=numTx_sz t2
 generalize numTx t2=sT2 at *
 have HT3:=zH (fun wz=>numb_known t3 h.pt.t3 wz)
 have hzsT3:=numTx_sz t3
 generalize numTx t3=sT3 at *
 have HT4:=zH (fun wz=>numb_known t4 h.pt.t4 wz)
 have hzsT4:=numTx_sz t4
 generalize numTx t4=sT4 at *
 have HFO:=zH (fun wz (hz:Ext w wz)=>(print_any h.pt.f (by have:=h.pt.fp;omega) wz _ (h.tv.h5.ext hz)).mono fun _ _ hh=>hh.up (show 200 * f.parts≤12000 by have:=h.pt.fp;simp only at this;omega))
 have HN:Hid (ls.length≤12∧cs.length≤12∧rs.length≤12∧ts.length≤12∧kk.length≤12):=zH ⟨h.pt.ll.2,h.pt.cl,h.pt.rl,h.pt.tl,h.ks.len⟩
 clear h HT
 obtain ⟨W,hW⟩:∃ W,W=w.alloc (.cells (tenC ⟨nm,(la,ls.length,lc),(ca,cs.length,cc),(ra,rs.length,rc),low,high,fo,f1,f2,fn,(fa0,fa1,fa2),(ta,ts.length,tc),most,(ka,kk.length,kc),budget,t0,t1,t2,t3,t4⟩) 39):=⟨_,rfl⟩
 have hx:Ext w W:=by rw [hW];exact Ext.alloc (Ext.refl _) _
 have hb:W.heap[w.heap.size]? = some (.cells (tenC ⟨nm,(la,ls.length,lc),(ca,cs.length,cc),(ra,rs.length,rc),low,high,fo,f1,f2,fn,(fa0,fa1,fa2),(ta,ts.length,tc),most,(ka,kk.length,kc),budget,t0,t1,t2,t3,t4⟩) 39):=by rw [hW];exact block_new rfl
 obtain ⟨p,hp⟩:∃ p,p=w.heap.size:=⟨_,rfl⟩
 rw [← hp] at hb
 have HX0:=zH hx;have HB:=zH hb
 clear hx hb
 go_in
 go_upto_region 1 with (fail)
 rw [← hW]
 rw [← hp]
 clear hW hp
 have HCS:Hid (∀ wz,Ext W wz→wz.cell? ⟨p,1,none⟩=some (.slice la ls.length lc)∧wz.cell? ⟨p,2,none⟩=some (.slice ca cs.length cc)∧wz.cell? ⟨p,3,none⟩=some (.slice ra rs.length rc)∧wz.cell? ⟨p,11,none⟩=some (.slice ta ts.length tc)∧wz.cell? ⟨p,13,none⟩=some (.slice ka kk.length kc)∧p < wz.heap.size):=zH fun wz x=>by
  obtain ⟨hcc,-,lp⟩:=zC ((x.block _ (zL HB.out)).trans HB.out)
  exact ⟨hcc 1,hcc 2,hcc 3,hcc 11,hcc 13,lp⟩
 obtain ⟨c1,c2,c3,c11,c13,lp⟩:=HCS.out _ ((Ext.refl _))
 obtain ⟨hcc,-,-⟩:=zC ((((Ext.refl _)).block _ (zL HB.out)).trans HB.out)
 have c0:=zk hcc 0
 have hn1:7+nm.size≤9223372036854775807:=by omega
 have hn2:7+nm.size+1≤9223372036854775807:=by omega
 clear hcc
 go_upto_region 3 with (fail)
 clear c0 c1 c2 c3 c11 c13 lp hn1 hn2
 go_loopw [3,4] (fun bv iv wr=>∃ (s:ByteArray) (i:Nat),bv=.string s∧iv=iV i∧i≤ls.length∧s.size≤1000+400 * i∧Hid (Ext W wr)) (fun _ iv _=>ls.length - (iof iv).toNat)
 case atStart=>exact ⟨_,0,rfl,rfl,Nat.zero_le _,by simp only [sz_app];have e1:(⟨#[116,101,110,100,101,114,32]⟩:ByteArray).size=7:=rfl;have e2:(⟨#[10]⟩:ByteArray).size=1:=rfl;omega,zH (Ext.refl _)⟩
 case round=>
  obtain ⟨s,i,rfl,rfl,hi,hss,HX⟩:=hrel
  have hNs:=HN.out.1
  clear hnm
  by_cases hil:i < ls.length
  ·as_aux_lemma=>
   obtain ⟨bb,rfl,hcs⟩:=HS1.out.at (HX0.out.trans HX.out) i hil
   obtain ⟨c1,c2,c3,c11,c13,lp⟩:=HCS.out _ (HX.out)
   have e0:=hcs 0 _ rfl;have e1:=hcs 1 _ rfl
   have HPi:=zH (HP1.out ls[i] (List.getElem_mem hil))
   have HSM:=zH (fun wz=>numb_any ls[i].1 ⟨by have:=HPi.out.1;omega,HPi.out.2.1⟩ wz)
   have HSN:=zH (fun wz=>numb_any ls[i].2 HPi.out.2.2 wz)
   clear hcs
   generalize ls[i]=q at *
   obtain ⟨z1,z2⟩:=q
   simp only [Nat.add_zero] at e0 e1
   simp only at HSM HSN
   have hbl:=zB wr _ e1
   have hili:(i:Int) < (ls.length:Int):=by omega
   have hwi:=wz ((i:Int)+1) (by have:=HN.out;omega)
   go_upto_region 5 with (fail)
   refine Rr.rg [(0,.y),(1,.y),(2,.y),(3,.y),(4,.y),(5,.y),(6,.y),(7,.y),(11,.y),(12,.y),(13,.y),(14,.y),(15,.y),(16,.y),(8,.z),(9,.y),(10,.y),(17,.z)] ?_
   refine Rr.y1 ?_
   (refine Rr.yd ⟨.string (s ++ lotA),fun wz hw hh=>?_,?_⟩
    ·have hcz:=hw.cells.1
     have hq2:¬ 9223372036854775807 < s.size+4:=by omega
     go_simp
     exact zU
    simp only [zp])
   iterate 12
    refine Rr.y1 ?_
   (refine Rr.zd (fun v _=>StR 10 v) (fun v w1 w2 h e=>h) (fun wz hw hh=>?_) (fun uA=>?_)
    ·go_simp
     apply Rr.upR_enter
     (refine (HSM.out wz).mono ?_)
     rintro e wq ⟨n1,rfl,ho,hxq⟩
     exact ⟨_,rfl,hxq,StR.mk ho⟩
    simp only [zp])
   (refine Rr.yd ⟨.string (s ++ lotA ++ sof uA),fun wz hw hh=>?_,?_⟩
    ·obtain ⟨sa,rfl,hsa⟩:=hh _ zM
     rw [show sof (.string sa)=sa from rfl]
     have hq2:¬ 9223372036854775807 < s.size+4+sa.size:=by omega
     go_simp
     exact zU
    simp only [zp])
   (refine Rr.yd ⟨.string (s ++ lotA ++ sof uA ++ lotB),fun wz hw hh=>?_,?_⟩
    ·obtain ⟨sa,rfl,hsa⟩:=hh _ zM
     rw [show sof (.string sa)=sa from rfl]
     have hq2:¬ 9223372036854775807 < s.size+4+sa.size+6:=by omega
     go_simp
     exact zU
    simp only [zp])
   (refine Rr.zd (fun v _=>StR 10 v) (fun v w1 w2 h e=>h) (fun wz hw hh=>?_) (fun uB=>?_)
    ·go_simp
     apply Rr.upR_enter
     (refine (HSN.out wz).mono ?_)
     rintro e wq ⟨n1,rfl,ho,hxq⟩
     exact ⟨_,rfl,hxq,StR.mk ho⟩
    simp only [zp])
   refine Rr.wr_nil ?_
   intro wy hy hh
   obtain ⟨sb,rfl,hsb⟩:=hh _ zM
   obtain ⟨sa,rfl,hsa⟩:=hh _ (zN _ zM)
   simp only [gg,gh,gi,gj,Nat.reduceAdd]
   clear hh
   rw [show sof (.string sa)=sa from rfl]
   have hr1:s.size+4+sa.size+6+sb.size≤9223372036854775807:=by omega
   have hr2:s.size+4+sa.size+6+sb.size+1≤9223372036854775807:=by omega
   go_wp2_with (fail)
   exact ⟨⟨_,i+1,by rfl,by rfl,by omega,by simp only [sz_app];have e1:lotA.size=4:=rfl;have e2:lotB.size=6:=rfl;have e3:(⟨#[10]⟩:ByteArray).size=1:=rfl;omega,zH (HX.out.trans hy)⟩,by simp [iof];omega⟩
  ·obtain rfl:i=ls.length:=by omega
   obtain ⟨w1,rfl⟩:∃ x:World,x=wr:=⟨_,rfl⟩
   obtain ⟨c1,c2,c3,c11,c13,lp⟩:=HCS.out _ (HX.out)
   go_upto_region 7 with (fail)
   clear c1 c2 c3 c11 c13 lp hi hil
   go_loopw [3,5] (fun bv iv wr=>∃ (s:ByteArray) (i:Nat),bv=.string s∧iv=iV i∧i≤cs.length∧s.size≤6000+400 * i∧Hid (Ext W wr)) (fun _ iv _=>cs.length - (iof iv).toNat)
   case atStart=>exact ⟨_,0,rfl,rfl,Nat.zero_le _,by omega,HX⟩
   case round=>
    rename World=>wr
    rename ByteArray=>s0
    clear hss
    obtain ⟨s,i,rfl,rfl,hi,hss,HX⟩:=hrel
    have hNs:=HN.out.2.1
    by_cases hil:i < cs.length
    ·as_aux_lemma=>
     obtain ⟨bb,rfl,hcs⟩:=HS2.out.at (HX0.out.trans HX.out) i hil
     obtain ⟨c1,c2,c3,c11,c13,lp⟩:=HCS.out _ (HX.out)
     have e0:=hcs 0 _ rfl;have e1:=hcs 1 _ rfl;have e2:=hcs 2 _ rfl;have e3:=hcs 3 _ rfl;have e4:=hcs 4 _ rfl
     have HPi:=zH (HP2.out cs[i] (List.getElem_mem hil))
     have HSM:=zH (fun wz=>numb_known cs[i].low HPi.out.2.1 wz)
     have HSN:=zH (fun wz=>numb_known cs[i].high HPi.out.2.2.1 wz)
     have hsa:=numTx_sz cs[i].low
     have hsb:=numTx_sz cs[i].high
     generalize numTx cs[i].low=sa at *
     generalize numTx cs[i].high=sb at *
     clear hcs
     generalize cs[i]=q at *
     obtain ⟨n0,z1,z2,z3,z4⟩:=q
     simp only [Nat.add_zero] at e0 e1 e2 e3 e4
     simp only at HSM HSN HPi
     have hn0:n0.size≤100:=HPi.out.1.sz
     have hk:=HPi.out.2.2.2
     have hbl:=zB wr _ e1
     have hili:(i:Int) < (cs.length:Int):=by omega
     have hwi:=wz ((i:Int)+1) (by omega)
     go_upto_region 10 with (fail)
     have hxa:Ext wr (wr.alloc (.cells #[.string n0,iV z1,iV z2,iV z3,.bool z4] 78)):=Ext.alloc (Ext.refl _) _
     have hb4:(wr.alloc (.cells #[.string n0,iV z1,iV z2,iV z3,.bool z4] 78)).heap[wr.heap.size]? = some (.cells #[.string n0,iV z1,iV z2,iV z3,.bool z4] 78):=block_new rfl
     obtain ⟨pc,hpc⟩:∃ x,x=wr.heap.size:=⟨_,rfl⟩
     rw [← hpc] at hb4 ⊢
     clear hpc e0 e1 e2 e3 e4 hbl lp c1 c2 c3 c11 c13
     have HX:=zH (HX.out.trans hxa)
     clear hxa
     generalize wr.alloc (.cells #[.string n0,iV z1,iV z2,iV z3,.bool z4] 78)=w5 at *
     have HB4:=zH hb4
     obtain ⟨d0,d1,d2,d3,lpc⟩:=zC4 hb4
     clear hb4
     rcases hk with rfl|rfl
     ·skip
      refine Rr.wp_region [(0,.y),(1,.y),(2,.y),(3,.y),(4,.y),(5,.y),(7,.y),(8,.y),(9,.y),(14,.y),(15,.y),(16,.y),(19,.y),(20,.y),(21,.y),(6,.m),(10,.y),(11,.y),(12,.y),(13,.y),(17,.y),(18,.y)] (fun _=>(.cells #[.string graB,.string offB] 9,fun p=>.slice (some ⟨p,0,none⟩) 2 2)) (by kernel_rfl) (by kernel_rfl) ?_
      refine Rr.y1 ?_
      (refine Rr.yd ⟨.string (s ++ criB),fun wz hw hh=>?_,?_⟩
       ·have hcz:=hw.cells.1
        have hq2:¬ 9223372036854775807 < s.size+10:=by omega
        go_simp
        exact zU
       simp only [zp])
      iterate 2
       refine Rr.y1 ?_
      (refine Rr.yd ⟨.string (s ++ criB ++ n0),fun wz hw hh=>?_,?_⟩
       ·have hcz:=hw.cells.1
        have hq2:¬ 9223372036854775807 < s.size+10+n0.size:=by omega
        go_simp
        exact zU
       simp only [zp])
      (refine Rr.yd ⟨.string (s ++ criB ++ n0 ++ spB),fun wz hw hh=>?_,?_⟩
       ·have hcz:=hw.cells.1
        have hq2:¬ 9223372036854775807 < s.size+10+n0.size+1:=by omega
        go_simp
        exact zU
       simp only [zp])
      iterate 5
       refine Rr.y1 ?_
      (refine Rr.yd ⟨.string sa,fun wz hw hh=>?_,?_⟩
       ·go_simp
        apply Rg.up_enter
        (refine (HSM.out wz).mono ?_)
        rintro e w3 ⟨rfl,hb3⟩
        exact ⟨rfl,hb3⟩
       simp only [zp])
      iterate 2
       refine Rr.y1 ?_
      (refine Rr.yd ⟨.string sb,fun wz hw hh=>?_,?_⟩
       ·go_simp
        apply Rg.up_enter
        (refine (HSN.out wz).mono ?_)
        rintro e w3 ⟨rfl,hb3⟩
        exact ⟨rfl,hb3⟩
       simp only [zp])
      refine Rr.wr_m (by simp only [ga,gb,gc];rfl) (by rfl) (fun wz=>by go_simp) (fun pR hpR=>?_)
      simp only [zp]
      (refine Rr.yd ⟨.pointer (some ⟨pR,0,none⟩),fun wz hw hh=>?_,?_⟩
       ·go_simp
        exact zU
       simp only [zp])
      (refine Rr.yd ⟨.string graB,fun wz hw hh=>?_,?_⟩
       ·obtain ⟨-,-,hbk⟩:=hh _ zM
        have hck:wz.cell? ⟨pR,0,none⟩=some (.string graB):=(cell_of_row wz pR 0 _ _ _ hbk).trans rfl
        have hlk:=zL hbk
        go_simp
        exact zU
       simp only [zp])
      (refine Rr.yd ⟨.string (s ++ criB ++ n0 ++ spB ++ graB),fun wz hw hh=>?_,?_⟩
       ·have hcz:=hw.cells.1
        have hq2:¬ 9223372036854775807 < s.size+10+n0.size+1+5:=by omega
        go_simp
        exact zU
       simp only [zp])
      (refine Rr.yd ⟨.string (s ++ criB ++ n0 ++ spB ++ graB ++ spB),fun wz hw hh=>?_,?_⟩
       ·have hcz:=hw.cells.1
        have hq2:¬ 9223372036854775807 < s.size+10+n0.size+1+5+1:=by omega
        go_simp
        exact zU
       simp only [zp])
      (refine Rr.yd ⟨.string (s ++ criB ++ n0 ++ spB ++ graB ++ spB ++ sa),fun wz hw hh=>?_,?_⟩
       ·have hcz:=hw.cells.1
        have hq2:¬ 9223372036854775807 < s.size+10+n0.size+1+5+1+sa.size:=by omega
        go_simp
        exact zU
       simp only [zp])
      (refine Rr.yd ⟨.string (s ++ criB ++ n0 ++ spB ++ graB ++ spB ++ sa ++ spB),fun wz hw hh=>?_,?_⟩
       ·have hcz:=hw.cells.1
        have hq2:¬ 9223372036854775807 < s.size+10+n0.size+1+5+1+sa.size+1:=by omega
        go_simp
        exact zU
       simp only [zp])
      refine Rr.wr_nil ?_
      intro wy hy hh
      simp only [gg,gh,gi,gj,Nat.reduceAdd]
      clear hh
      have hr1:s.size+10+n0.size+1+5+1+sa.size+1+sb.size≤9223372036854775807:=by omega
      have HX9:=zH (HX.out.trans hy)
      have a4:wy.cell? ⟨pc,4,none⟩=some (.bool z4):=(cell_of_row wy pc 4 _ _ _ ((hy.block _ (zL HB4.out)).trans HB4.out)).trans rfl
      have la:=zB wy _ a4
      clear d0 d1 d2 d3 lpc
      go_upto_region 11 with (fail)
      clear hr1
      have hS:(s ++ criB ++ n0 ++ spB ++ graB ++ spB ++ sa ++ spB ++ sb).size≤6000+400 * i+200:=by
       simp only [sz_app]
       have e1:criB.size=10:=rfl
       have e2:spB.size=1:=rfl
       have e3:(graB).size=5:=rfl
       omega
      generalize s ++ criB ++ n0 ++ spB ++ graB ++ spB ++ sa ++ spB ++ sb=S at *
      have h1:S.size+5≤9223372036854775807:=by omega
      have h2:S.size+5+1≤9223372036854775807:=by omega
      have h3:S.size+1≤9223372036854775807:=by omega
      cases z4 with
      | false=>
       go_wp2_with (fail)
       exact ⟨⟨_,i+1,by rfl,by rfl,by omega,by simp only [sz_app];have e1:(⟨#[10]⟩:ByteArray).size=1:=rfl;omega,HX9⟩,by simp [iof];omega⟩
      | true=>
       go_wp2_with (fail)
       exact ⟨⟨_,i+1,by rfl,by rfl,by omega,by simp only [sz_app];have e1:(⟨#[10]⟩:ByteArray).size=1:=rfl;have e2:(⟨#[32,108,101,115,115]⟩:ByteArray).size=5:=rfl;omega,HX9⟩,by simp [iof];omega⟩
     ·skip
      refine Rr.wp_region [(0,.y),(1,.y),(2,.y),(3,.y),(4,.y),(5,.y),(7,.y),(8,.y),(9,.y),(14,.y),(15,.y),(16,.y),(19,.y),(20,.y),(21,.y),(6,.m),(10,.y),(11,.y),(12,.y),(13,.y),(17,.y),(18,.y)] (fun _=>(.cells #[.string graB,.string offB] 9,fun p=>.slice (some ⟨p,0,none⟩) 2 2)) (by kernel_rfl) (by kernel_rfl) ?_
      refine Rr.y1 ?_
      (refine Rr.yd ⟨.string (s ++ criB),fun wz hw hh=>?_,?_⟩
       ·have hcz:=hw.cells.1
        have hq2:¬ 9223372036854775807 < s.size+10:=by omega
        go_simp
        exact zU
       simp only [zp])
      iterate 2
       refine Rr.y1 ?_
      (refine Rr.yd ⟨.string (s ++ criB ++ n0),fun wz hw hh=>?_,?_⟩
       ·have hcz:=hw.cells.1
        have hq2:¬ 9223372036854775807 < s.size+10+n0.size:=by omega
        go_simp
        exact zU
       simp only [zp])
      (refine Rr.yd ⟨.string (s ++ criB ++ n0 ++ spB),fun wz hw hh=>?_,?_⟩
       ·have hcz:=hw.cells.1
        have hq2:¬ 9223372036854775807 < s.size+10+n0.size+1:=by omega
        go_simp
        exact zU
       simp only [zp])
      iterate 5
       refine Rr.y1 ?_
      (refine Rr.yd ⟨.string sa,fun wz hw hh=>?_,?_⟩
       ·go_simp
        apply Rg.up_enter
        (refine (HSM.out wz).mono ?_)
        rintro e w3 ⟨rfl,hb3⟩
        exact ⟨rfl,hb3⟩
       simp only [zp])
      iterate 2
       refine Rr.y1 ?_
      (refine Rr.yd ⟨.string sb,fun wz hw hh=>?_,?_⟩
       ·go_simp
        apply Rg.up_enter
        (refine (HSN.out wz).mono ?_)
        rintro e w3 ⟨rfl,hb3⟩
        exact ⟨rfl,hb3⟩
       simp only [zp])
      refine Rr.wr_m (by simp only [ga,gb,gc];rfl) (by rfl) (fun wz=>by go_simp) (fun pR hpR=>?_)
      simp only [zp]
      (refine Rr.yd ⟨.pointer (some ⟨pR,1,none⟩),fun wz hw hh=>?_,?_⟩
       ·go_simp
        exact zU
       simp only [zp])
      (refine Rr.yd ⟨.string offB,fun wz hw hh=>?_,?_⟩
       ·obtain ⟨-,-,hbk⟩:=hh _ zM
        have hck:wz.cell? ⟨pR,1,none⟩=some (.string offB):=(cell_of_row wz pR 1 _ _ _ hbk).trans rfl
        have hlk:=zL hbk
        go_simp
        exact zU
       simp only [zp])
      (refine Rr.yd ⟨.string (s ++ criB ++ n0 ++ spB ++ offB),fun wz hw hh=>?_,?_⟩
       ·have hcz:=hw.cells.1
        have hq2:¬ 9223372036854775807 < s.size+10+n0.size+1+5:=by omega
        go_simp
        exact zU
       simp only [zp])
      (refine Rr.yd ⟨.string (s ++ criB ++ n0 ++ spB ++ offB ++ spB),fun wz hw hh=>?_,?_⟩
       ·have hcz:=hw.cells.1
        have hq2:¬ 9223372036854775807 < s.size+10+n0.size+1+5+1:=by omega
        go_simp
        exact zU
       simp only [zp])
      (refine Rr.yd ⟨.string (s ++ criB ++ n0 ++ spB ++ offB ++ spB ++ sa),fun wz hw hh=>?_,?_⟩
       ·have hcz:=hw.cells.1
        have hq2:¬ 9223372036854775807 < s.size+10+n0.size+1+5+1+sa.size:=by omega
        go_simp
        exact zU
       simp only [zp])
      (refine Rr.yd ⟨.string (s ++ criB ++ n0 ++ spB ++ offB ++ spB ++ sa ++ spB),fun wz hw hh=>?_,?_⟩
       ·have hcz:=hw.cells.1
        have hq2:¬ 9223372036854775807 < s.size+10+n0.size+1+5+1+sa.size+1:=by omega
        go_simp
        exact zU
       simp only [zp])
      refine Rr.wr_nil ?_
      intro wy hy hh
      simp only [gg,gh,gi,gj,Nat.reduceAdd]
      clear hh
      have hr1:s.size+10+n0.size+1+5+1+sa.size+1+sb.size≤9223372036854775807:=by omega
      have HX9:=zH (HX.out.trans hy)
      have a4:wy.cell? ⟨pc,4,none⟩=some (.bool z4):=(cell_of_row wy pc 4 _ _ _ ((hy.block _ (zL HB4.out)).trans HB4.out)).trans rfl
      have la:=zB wy _ a4
      clear d0 d1 d2 d3 lpc
      go_upto_region 11 with (fail)
      clear hr1
      have hS:(s ++ criB ++ n0 ++ spB ++ offB ++ spB ++ sa ++ spB ++ sb).size≤6000+400 * i+200:=by
       simp only [sz_app]
       have e1:criB.size=10:=rfl
       have e2:spB.size=1:=rfl
       have e3:(offB).size=5:=rfl
       omega
      generalize s ++ criB ++ n0 ++ spB ++ offB ++ spB ++ sa ++ spB ++ sb=S at *
      have h1:S.size+5≤9223372036854775807:=by omega
      have h2:S.size+5+1≤9223372036854775807:=by omega
      have h3:S.size+1≤9223372036854775807:=by omega
      cases z4 with
      | false=>
       go_wp2_with (fail)
       exact ⟨⟨_,i+1,by rfl,by rfl,by omega,by simp only [sz_app];have e1:(⟨#[10]⟩:ByteArray).size=1:=rfl;omega,HX9⟩,by simp [iof];omega⟩
      | true=>
       go_wp2_with (fail)
       exact ⟨⟨_,i+1,by rfl,by rfl,by omega,by simp only [sz_app];have e1:(⟨#[10]⟩:ByteArray).size=1:=rfl;have e2:(⟨#[32,108,101,115,115]⟩:ByteArray).size=5:=rfl;omega,HX9⟩,by simp [iof];omega⟩
    ·obtain rfl:i=cs.length:=by omega
     obtain ⟨w2,rfl⟩:∃ x:World,x=wr:=⟨_,rfl⟩
     obtain ⟨c1,c2,c3,c11,c13,lp⟩:=HCS.out _ (HX.out)
     go_upto_region 15 with (fail)
     clear c1 c2 c3 c11 c13 lp hi hil
     go_loopw [3,7] (fun bv iv wr=>∃ (s:ByteArray) (i:Nat),bv=.string s∧iv=iV i∧i≤rs.length∧s.size≤11000+400 * i∧Hid (Ext W wr)) (fun _ iv _=>rs.length - (iof iv).toNat)
     case atStart=>exact ⟨_,0,rfl,rfl,Nat.zero_le _,by omega,HX⟩
     case round=>
      rename World=>wr
      clear hss
      rename ByteArray=>s1
      obtain ⟨s,i,rfl,rfl,hi,hss,HX⟩:=hrel
      have hNs:=HN.out.2.2.1
      by_cases hil:i < rs.length
      ·as_aux_lemma=>
       obtain ⟨bb,rfl,hcs⟩:=HS3.out.at (HX0.out.trans HX.out) i hil
       obtain ⟨c1,c2,c3,c11,c13,lp⟩:=HCS.out _ (HX.out)
       have e0:=hcs 0 _ rfl;have e1:=hcs 1 _ rfl;have e2:=hcs 2 _ rfl
       have HPi:=zH (HP3.out rs[i] (List.getElem_mem hil))
       have HSM:=zH (fun wz=>numb_known rs[i].value HPi.out.2.2 wz)
       have hsa:=numTx_sz rs[i].value
       generalize numTx rs[i].value=sa at *
       clear hcs
       generalize rs[i]=q at *
       obtain ⟨n0,z1,z2⟩:=q
       simp only [Nat.add_zero] at e0 e1 e2
       simp only at HSM HPi
       have hn0:n0.size≤100:=HPi.out.1.sz
       have hz1:z1.size≤100:=HPi.out.2.1
       have hbl:=zB wr _ e1
       have hili:(i:Int) < (rs.length:Int):=by omega
       have hwi:=wz ((i:Int)+1) (by omega)
       go_upto_region 18 with (fail)
       have hxa:Ext wr (wr.alloc (.cells #[.string n0,.string z1,iV z2] 88)):=Ext.alloc (Ext.refl _) _
       have hb4:(wr.alloc (.cells #[.string n0,.string z1,iV z2] 88)).heap[wr.heap.size]? = some (.cells #[.string n0,.string z1,iV z2] 88):=block_new rfl
       obtain ⟨pc,hpc⟩:∃ x,x=wr.heap.size:=⟨_,rfl⟩
       rw [← hpc] at hb4 ⊢
       clear hpc e0 e1 e2 hbl lp c1 c2 c3 c11 c13
       have HX:=zH (HX.out.trans hxa)
       clear hxa
       generalize wr.alloc (.cells #[.string n0,.string z1,iV z2] 88)=w5 at *
       obtain ⟨d0,d1,d2,lpc⟩:=zC3 hb4
       clear hb4
       refine Rr.rg ((List.range 13).map (fun i=>(i,.y))) ?_
       simp only [List.range,List.range.loop,List.map_cons,List.map_nil]
       refine Rr.y1 ?_
       (refine Rr.yd ⟨.string (s ++ reqB),fun wz hw hh=>?_,?_⟩
        ·have hcz:=hw.cells.1
         have hq2:¬ 9223372036854775807 < s.size+8:=by omega
         go_simp
         exact zU
        simp only [zp])
       iterate 2
        refine Rr.y1 ?_
       (refine Rr.yd ⟨.string (s ++ reqB ++ n0),fun wz hw hh=>?_,?_⟩
        ·have hcz:=hw.cells.1
         have hq2:¬ 9223372036854775807 < s.size+8+n0.size:=by omega
         go_simp
         exact zU
        simp only [zp])
       (refine Rr.yd ⟨.string (s ++ reqB ++ n0 ++ spB),fun wz hw hh=>?_,?_⟩
        ·have hcz:=hw.cells.1
         have hq2:¬ 9223372036854775807 < s.size+8+n0.size+1:=by omega
         go_simp
         exact zU
        simp only [zp])
       iterate 2
        refine Rr.y1 ?_
       (refine Rr.yd ⟨.string (s ++ reqB ++ n0 ++ spB ++ z1),fun wz hw hh=>?_,?_⟩
        ·have hcz:=hw.cells.1
         have hq2:¬ 9223372036854775807 < s.size+8+n0.size+1+z1.size:=by omega
         go_simp
         exact zU
        simp only [zp])
       (refine Rr.yd ⟨.string (s ++ reqB ++ n0 ++ spB ++ z1 ++ spB),fun wz hw hh=>?_,?_⟩
        ·have hcz:=hw.cells.1
         have hq2:¬ 9223372036854775807 < s.size+8+n0.size+1+z1.size+1:=by omega
         go_simp
         exact zU
        simp only [zp])
       iterate 2
        refine Rr.y1 ?_
       (refine Rr.yd ⟨.string sa,fun wz hw hh=>?_,?_⟩
        ·go_simp
         apply Rg.up_enter
         (refine (HSM.out wz).mono ?_)
         rintro e w3 ⟨rfl,hb3⟩
         exact ⟨rfl,hb3⟩
        simp only [zp])
       refine Rr.wr_nil ?_
       intro wy hy hh
       simp only [gg,gh,gi,gj,Nat.reduceAdd]
       clear hh
       have hr1:s.size+8+n0.size+1+z1.size+1+sa.size≤9223372036854775807:=by omega
       have hr2:s.size+8+n0.size+1+z1.size+1+sa.size+1≤9223372036854775807:=by omega
       have HX9:=zH (HX.out.trans hy)
       go_wp2_with (fail)
       exact ⟨⟨_,i+1,by rfl,by rfl,by omega,by simp only [sz_app];have e1:reqB.size=8:=rfl;have e2:spB.size=1:=rfl;have e3:(⟨#[10]⟩:ByteArray).size=1:=rfl;omega,HX9⟩,by simp [iof];omega⟩
      ·obtain rfl:i=rs.length:=by omega
       obtain ⟨w3,rfl⟩:∃ x:World,x=wr:=⟨_,rfl⟩
       obtain ⟨c1,c2,c3,c11,c13,lp⟩:=HCS.out _ (HX.out)
       obtain ⟨hcc,-,-⟩:=zC (((HX.out).block _ (zL HB.out)).trans HB.out)
       have c4:=zk hcc 4
       have c5:=zk hcc 5
       have c6:=zk hcc 6
       have c7:=zk hcc 7
       have c8:=zk hcc 8
       have c9:=zk hcc 9
       have c10:=zk hcc 10
       clear hcc
       have hs16:s.size≤16000:=by omega
       clear hss hi hil
       go_upto_region 19 with (fail)
       refine Rr.rg [(0,.y),(1,.y),(2,.y),(3,.y),(4,.y),(5,.y),(6,.y),(7,.y),(8,.y),(9,.y),(10,.y),(11,.y),(12,.y),(13,.y),(14,.z)] ?_
       refine Rr.y1 ?_
       (refine Rr.yd ⟨.string (s ++ priB),fun wz hw hh=>?_,?_⟩
        ·have hcz:=hw.cells.1
         have hq2:¬ 9223372036854775807 < s.size+6:=by omega
         go_simp
         exact zU
        simp only [zp])
       iterate 2
        refine Rr.y1 ?_
       (refine Rr.yd ⟨.string sLo,fun wz hw hh=>?_,?_⟩
        ·go_simp
         apply Rg.up_enter
         (refine (HLO.out wz).mono ?_)
         rintro e w3 ⟨rfl,hb3⟩
         exact ⟨rfl,hb3⟩
        simp only [zp])
       (refine Rr.yd ⟨.string (s ++ priB ++ sLo),fun wz hw hh=>?_,?_⟩
        ·have hcz:=hw.cells.1
         have hq2:¬ 9223372036854775807 < s.size+6+sLo.size:=by omega
         go_simp
         exact zU
        simp only [zp])
       (refine Rr.yd ⟨.string (s ++ priB ++ sLo ++ spB),fun wz hw hh=>?_,?_⟩
        ·have hcz:=hw.cells.1
         have hq2:¬ 9223372036854775807 < s.size+6+sLo.size+1:=by omega
         go_simp
         exact zU
        simp only [zp])
       iterate 2
        refine Rr.y1 ?_
       (refine Rr.yd ⟨.string sHi,fun wz hw hh=>?_,?_⟩
        ·go_simp
         apply Rg.up_enter
         (refine (HHI.out wz).mono ?_)
         rintro e w3 ⟨rfl,hb3⟩
         exact ⟨rfl,hb3⟩
        simp only [zp])
       (refine Rr.yd ⟨.string (s ++ priB ++ sLo ++ spB ++ sHi),fun wz hw hh=>?_,?_⟩
        ·have hcz:=hw.cells.1
         have hq2:¬ 9223372036854775807 < s.size+6+sLo.size+1+sHi.size:=by omega
         go_simp
         exact zU
        simp only [zp])
       (refine Rr.yd ⟨.string (s ++ priB ++ sLo ++ spB ++ sHi ++ forB),fun wz hw hh=>?_,?_⟩
        ·have hcz:=hw.cells.1
         have hq2:¬ 9223372036854775807 < s.size+6+sLo.size+1+sHi.size+9:=by omega
         go_simp
         exact zU
        simp only [zp])
       refine Rr.y1 ?_
       refine Rr.y2 (h:=fun wz hw=>up_load29 (by rfl) ((hw.cells.1 _ _ lp).trans c6) ((hw.cells.1 _ _ lp).trans c7) ((hw.cells.1 _ _ lp).trans c8) ((hw.cells.1 _ _ lp).trans c9) ((hw.cells.1 _ _ lp).trans c10)) (k:=?_)
       (refine Rr.zd (fun v _=>StR 12000 v) (fun v w1 w2 h e=>h) (fun wz hw hh=>?_) (fun uF=>?_)
        ·go_simp
         apply Rr.upR_enter
         (refine (HFO.out wz (HX0.out.trans (HX.out.trans hw))).mono ?_)
         rintro e wq ⟨n1,rfl,ho,hxq⟩
         exact ⟨_,rfl,hxq,StR.mk ho⟩
        simp only [zp])
       refine Rr.wr_nil ?_
       intro wy hy hh
       obtain ⟨sf,rfl,hsf⟩:=hh _ zM
       simp only [gg,gh,gi,gj,Nat.reduceAdd]
       clear hh
       have hr1:s.size+6+sLo.size+1+sHi.size+9+sf.size≤9223372036854775807:=by omega
       have hr2:s.size+6+sLo.size+1+sHi.size+9+sf.size+1≤9223372036854775807:=by omega
       have HX:=zH (HX.out.trans hy)
       clear c1 c2 c3 c11 c13 lp c4 c5 c6 c7 c8 c9 c10 hy
       obtain ⟨c1,c2,c3,c11,c13,lp⟩:=HCS.out _ (HX.out)
       go_upto_region 20 with (fail)
       have hS:(s ++ priB ++ sLo ++ spB ++ sHi ++ forB ++ sf ++ ⟨#[10]⟩).size≤29000:=by
        simp only [sz_app]
        have e1:priB.size=6:=rfl
        have e2:spB.size=1:=rfl
        have e3:forB.size=9:=rfl
        have e4:(⟨#[10]⟩:ByteArray).size=1:=rfl
        omega
       clear hr1 hr2 hs16 hsf
       generalize s ++ priB ++ sLo ++ spB ++ sHi ++ forB ++ sf ++ ⟨#[10]⟩=S at *
       go_upto_if 132 with (fail)
       go_cut [3] (fun sv wx=>∃ s:ByteArray,sv=.string s∧s.size≤34000∧Ext W wx)
       case first=>as_aux_lemma=>
        by_cases h0i:(0:Int) < (ts.length:Int)
        rotate_left
        ·go_wp2
         go_meet
         case rel=>exact ⟨_,rfl,by omega,HX.out⟩
        ·have h1:S.size+3≤9223372036854775807:=by omega
         go_upto_region 23 with (fail)
         clear c1 c2 c3 c11 c13 lp
         have hS3:(S ++ (⟨#[116,105,101]⟩:ByteArray)).size≤29010:=by
          rw [sz_app]
          have e1:(⟨#[116,105,101]⟩:ByteArray).size=3:=rfl
          omega
         clear h1 hS h0i
         generalize S ++ (⟨#[116,105,101]⟩:ByteArray)=S3 at *
         go_loopw [3,9] (fun bv iv wr=>∃ (s:ByteArray) (i:Nat),bv=.string s∧iv=iV i∧i≤ts.length∧s.size≤29010+400 * i∧Hid (Ext W wr)) (fun _ iv _=>ts.length - (iof iv).toNat)
         case atStart=>exact ⟨_,0,rfl,rfl,Nat.zero_le _,by omega,HX⟩
         case round=>
          rename World=>wr
          obtain ⟨s,i,rfl,rfl,hi,hss,HX⟩:=hrel
          have hNs:=HN.out.2.2.2.1
          obtain ⟨c1,c2,c3,c11,c13,lp⟩:=HCS.out _ (HX.out)
          by_cases hil:i < ts.length
          ·obtain ⟨bb,rfl,hcs⟩:=HS4.out.at (HX0.out.trans HX.out) i hil
           have e0:=hcs 0 _ rfl
           have hn0:ts[i].size≤100:=HP4.out ts[i] (List.getElem_mem hil)
           clear hcs
           generalize ts[i]=n0 at *
           simp only [Nat.add_zero,Nat.mul_one] at e0
           have hbl:=zB wr _ e0
           have hili:(i:Int) < (ts.length:Int):=by omega
           have hwi:=wz ((i:Int)+1) (by omega)
           have h1:s.size+1≤9223372036854775807:=by omega
           have h2:s.size+1+n0.size≤9223372036854775807:=by omega
           go_wp2_with (fail)
           exact ⟨⟨_,i+1,by rfl,by rfl,by omega,by simp only [sz_app];have e1:(⟨#[32]⟩:ByteArray).size=1:=rfl;omega,HX⟩,by simp [iof];omega⟩
          ·obtain rfl:i=ts.length:=by omega
           have h1:s.size+1≤9223372036854775807:=by omega
           go_wp2
           go_meet
           case rel=>exact ⟨_,rfl,by simp only [sz_app];have e1:(⟨#[10]⟩:ByteArray).size=1:=rfl;omega,HX.out⟩
       case rest=>
        clear c1 c2 c3 c11 c13 lp
        obtain ⟨wk,rfl⟩:∃ wd:World,wd=wc:=⟨_,rfl⟩
        obtain ⟨s,rfl,hs34,hx⟩:=hcut
        have HX:=zH hx
        clear hx hS
        go_upto_region 27 with (fail)
        obtain ⟨c1,c2,c3,c11,c13,lp⟩:=HCS.out _ (HX.out)
        obtain ⟨hcc,-,-⟩:=zC (((HX.out).block _ (zL HB.out)).trans HB.out)
        have c12:=zk hcc 12
        clear hcc
        go_upto_if 154 with (fail)
        go_cut [3] (fun sv wx=>∃ s:ByteArray,sv=.string s∧s.size≤34900∧Ext W wx)
        case first=>as_aux_lemma=>
         by_cases h0:most=0
         ·subst h0
          go_wp2
          go_meet
          case rel=>exact ⟨_,rfl,by omega,HX.out⟩
         ·have h0b:(most == 0)=false:=by rw [beq_eq_false_iff_ne];exact h0
          have h1:s.size+5≤9223372036854775807:=by omega
          have h2:s.size+5+sMo.size≤9223372036854775807:=by omega
          have h3:s.size+5+sMo.size+1≤9223372036854775807:=by omega
          go_wp2_with (go_at_call 151;(refine (HMO.out _).mono ?_);rintro e w7 ⟨rfl,hx⟩;have HX7:=zH (HX.out.trans hx);clear hx)
          go_meet
          case rel=>exact ⟨_,rfl,by simp only [sz_app];have e1:(⟨#[109,111,115,116,32]⟩:ByteArray).size=5:=rfl;have e2:(⟨#[10]⟩:ByteArray).size=1:=rfl;omega,HX7.out⟩
        case rest=>
         clear c1 c2 c3 c11 c12 c13 lp
         obtain ⟨wl,rfl⟩:∃ wd:World,wd=wc:=⟨_,rfl⟩
         obtain ⟨s,rfl,hs35,hx⟩:=hcut
         have HX:=zH hx
         clear hx hs34
         go_upto_region 30 with (fail)
         go_loopw [3,10] (fun bv iv wr=>∃ (s:ByteArray) (i:Nat),bv=.string s∧iv=iV i∧i≤kk.length∧s.size≤35000+400 * i∧Hid (Ext W wr)) (fun _ iv _=>kk.length - (iof iv).toNat)
         case atStart=>exact ⟨_,0,rfl,rfl,Nat.zero_le _,by omega,HX⟩
         case round=>
          rename World=>wr
          obtain ⟨s,i,rfl,rfl,hi,hss,HX⟩:=hrel
          have hNs:=HN.out.2.2.2.2
          by_cases hil:i < kk.length
          ·as_aux_lemma=>
           obtain ⟨bb,rfl,hcs⟩:=HS5.out.at (HX0.out.trans HX.out) i hil
           obtain ⟨l,hl1,hl2,hl3⟩:=HP5.out kk[i] (List.getElem_mem hil)
           have HL1:=zH hl1;have HL3:=zH hl3
           have HC0:=zH (fun wz (hz:Ext wr wz)=>(hz.cells.1 _ _ (zB wr _ (hcs 0 _ rfl))).trans (hcs 0 _ rfl))
           clear hcs hl1 hl3
           generalize kk[i]=q at *
           obtain ⟨qa,qn,qc⟩:=q
           simp only [Nat.add_zero,Nat.mul_one] at HC0
           obtain ⟨qa',qc',hqv,-,-,hcl⟩:=HL1.out
           injection hqv with hq1 hq2 hq3
           subst hq1 hq2 hq3
           have HCL:=zH hcl
           clear hcl
           have hili:(i:Int) < (kk.length:Int):=by omega
           have hwi:=wz ((i:Int)+1) (by omega)
           have h1:s.size+5≤9223372036854775807:=by omega
           have hs5:(s ++ (⟨#[99,111,109,98,111]⟩:ByteArray)).size≤35000+400 * i+5:=by
            rw [sz_app]
            have e1:(⟨#[99,111,109,98,111]⟩:ByteArray).size=5:=rfl
            omega
           obtain ⟨c1,c2,c3,c11,c13,lp⟩:=HCS.out _ (HX.out)
           go_upto_region 34 with (fail)
           clear h1 c1 c2 c3 c11 c13 lp
           generalize s ++ (⟨#[99,111,109,98,111]⟩:ByteArray)=S at *
           go_loopw [3,11] (fun bv iv wq=>∃ (s:ByteArray) (j:Nat),bv=.string s∧iv=iV j∧j≤l.length∧s.size≤35000+400 * i+5+20 * j∧Hid (Ext wr wq)) (fun _ iv _=>l.length - (iof iv).toNat)
           case atStart=>exact ⟨_,0,rfl,rfl,Nat.zero_le _,by omega,zH (Ext.refl _)⟩
           case round=>
            rename World=>wq
            clear hss hs5
            obtain ⟨s,j,rfl,rfl,hj,hss,HY⟩:=hrel
            obtain ⟨c1,c2,c3,c11,c13,lp⟩:=HCS.out _ ((HX.out.trans HY.out))
            have e0:=HC0.out wq HY.out
            change wq.cell? _=some (.slice qa l.length qc) at e0
            have hbl:=zB wq _ e0
            by_cases hjl:j < l.length
            ·obtain ⟨b1,off,rfl,hcs⟩:=HCL.out.resolve_left (by intro e;rw [e] at hjl;simp at hjl)
             have HSM:=zH (fun wz=>numb_known l[j] ⟨by have:=(HL3.out _ (List.getElem_mem hjl)).1;omega,(HL3.out _ (List.getElem_mem hjl)).2⟩ wz)
             have hsa:=numTx_sz l[j]
             generalize numTx l[j]=sa at *
             have d0:=((HX0.out.trans (HX.out.trans HY.out)).cells.1 _ _ (zB w _ (hcs j hjl))).trans (hcs j hjl)
             clear hcs
             have ld:=zB wq _ d0
             have hji:(j:Int) < (l.length:Int):=by omega
             have hwj:=wz ((j:Int)+1) (by omega)
             have hwj2:=wz (j:Int) (by omega)
             generalize l[j]=z at *
             have h1:s.size+1≤9223372036854775807:=by omega
             have h2:s.size+1+sa.size≤9223372036854775807:=by omega
             go_wp2_with (go_at_call 151;(refine (HSM.out _).mono ?_);rintro e w6 ⟨rfl,hx⟩;have HZ:=zH (HY.out.trans hx);clear hx)
             exact ⟨⟨_,j+1,by rfl,by rfl,by omega,by simp only [sz_app];have e1:(⟨#[32]⟩:ByteArray).size=1:=rfl;omega,HZ⟩,by simp [iof];omega⟩
            ·obtain rfl:j=l.length:=by omega
             have h1:s.size+1≤9223372036854775807:=by omega
             go_wp2_with (fail)
             exact ⟨⟨_,i+1,by rfl,by rfl,by omega,by simp only [sz_app];have e1:(⟨#[10]⟩:ByteArray).size=1:=rfl;omega,zH (HX.out.trans HY.out)⟩,by simp [iof];omega⟩
          ·as_aux_lemma=>
           obtain rfl:i=kk.length:=by omega
           obtain ⟨w5,rfl⟩:∃ x:World,x=wr:=⟨_,rfl⟩
           obtain ⟨c1,c2,c3,c11,c13,lp⟩:=HCS.out _ (HX.out)
           obtain ⟨hcc,-,-⟩:=zC (((HX.out).block _ (zL HB.out)).trans HB.out)
           have c14:=zk hcc 14
           have c15:=zk hcc 15
           have c16:=zk hcc 16
           have c17:=zk hcc 17
           have c18:=zk hcc 18
           have c19:=zk hcc 19
           clear hcc
           have hs4:s.size≤40000:=by omega
           clear hss hi hil
           go_upto_region 39 with (fail)
           have hxa:Ext w5 (w5.alloc (.cells #[iV t0,iV t1,iV t2,iV t3,iV t4] 37)):=Ext.alloc (Ext.refl _) _
           have hb4:(w5.alloc (.cells #[iV t0,iV t1,iV t2,iV t3,iV t4] 37)).heap[w5.heap.size]? = some (.cells #[iV t0,iV t1,iV t2,iV t3,iV t4] 37):=block_new rfl
           have c14':=(hxa.cells.1 _ _ lp).trans c14
           have lp':=Nat.lt_of_lt_of_le lp hxa.size
           obtain ⟨pc,hpc⟩:∃ x,x=w5.heap.size:=⟨_,rfl⟩
           rw [← hpc] at hb4 ⊢
           clear hpc c1 c2 c3 c11 c13 c14 c15 c16 c17 c18 c19 lp
           have HX:=zH (HX.out.trans hxa)
           clear hxa
           generalize w5.alloc (.cells #[iV t0,iV t1,iV t2,iV t3,iV t4] 37)=w6 at *
           have HB4:=zH hb4
           clear hb4
           have h1:s.size+7≤9223372036854775807:=by omega
           have h2:s.size+7+sBu.size≤9223372036854775807:=by omega
           have h3:s.size+7+sBu.size+1≤9223372036854775807:=by omega
           have hs5:(s ++ (⟨#[98,117,100,103,101,116,32]⟩:ByteArray) ++ sBu ++ ⟨#[10]⟩).size≤40100:=by
            simp only [sz_app]
            have e1:(⟨#[98,117,100,103,101,116,32]⟩:ByteArray).size=7:=rfl
            have e2:(⟨#[10]⟩:ByteArray).size=1:=rfl
            omega
           go_upto_region 40 with (go_at_call 151;(refine (HBU.out _).mono ?_);rintro e w7 ⟨rfl,hx⟩;have HX7:=zH hx;clear hx)
           clear h1 h2 h3 c14' lp'
           generalize s ++ (⟨#[98,117,100,103,101,116,32]⟩:ByteArray) ++ sBu ++ ⟨#[10]⟩=S at *
           obtain ⟨d0,d1,d2,d3,d4,lpc⟩:=zC5 ((HX7.out.block _ (zL HB4.out)).trans HB4.out)
           refine Rr.rg ((List.range 25).map (fun i=>(i,.y))) ?_
           simp only [List.range,List.range.loop,List.map_cons,List.map_nil]
           refine Rr.y1 ?_
           (refine Rr.yd ⟨.string (S ++ timB),fun wz hw hh=>?_,?_⟩
            ·have hcz:=hw.cells.1
             have hq2:¬ 9223372036854775807 < S.size+6:=by omega
             go_simp
             exact zU
            simp only [zp])
           iterate 2
            refine Rr.y1 ?_
           (refine Rr.yd ⟨.string sT0,fun wz hw hh=>?_,?_⟩
            ·go_simp
             apply Rg.up_enter
             (refine (HT0.out wz).mono ?_)
             rintro e w3 ⟨rfl,hb3⟩
             exact ⟨rfl,hb3⟩
            simp only [zp])
           (refine Rr.yd ⟨.string (S ++ timB ++ sT0),fun wz hw hh=>?_,?_⟩
            ·have hcz:=hw.cells.1
             have hq2:¬ 9223372036854775807 < S.size+6+sT0.size:=by omega
             go_simp
             exact zU
            simp only [zp])
           (refine Rr.yd ⟨.string (S ++ timB ++ sT0 ++ spB),fun wz hw hh=>?_,?_⟩
            ·have hcz:=hw.cells.1
             have hq2:¬ 9223372036854775807 < S.size+6+sT0.size+1:=by omega
             go_simp
             exact zU
            simp only [zp])
           iterate 2
            refine Rr.y1 ?_
           (refine Rr.yd ⟨.string sT1,fun wz hw hh=>?_,?_⟩
            ·go_simp
             apply Rg.up_enter
             (refine (HT1.out wz).mono ?_)
             rintro e w3 ⟨rfl,hb3⟩
             exact ⟨rfl,hb3⟩
            simp only [zp])
           (refine Rr.yd ⟨.string (S ++ timB ++ sT0 ++ spB ++ sT1),fun wz hw hh=>?_,?_⟩
            ·have hcz:=hw.cells.1
             have hq2:¬ 9223372036854775807 < S.size+6+sT0.size+1+sT1.size:=by omega
             go_simp
             exact zU
            simp only [zp])
           (refine Rr.yd ⟨.string (S ++ timB ++ sT0 ++ spB ++ sT1 ++ spB),fun wz hw hh=>?_,?_⟩
            ·have hcz:=hw.cells.1
             have hq2:¬ 9223372036854775807 < S.size+6+sT0.size+1+sT1.size+1:=by omega
             go_simp
             exact zU
            simp only [zp])
           iterate 2
            refine Rr.y1 ?_
           (refine Rr.yd ⟨.string sT2,fun wz hw hh=>?_,?_⟩
            ·go_simp
             apply Rg.up_enter
             (refine (HT2.out wz).mono ?_)
             rintro e w3 ⟨rfl,hb3⟩
             exact ⟨rfl,hb3⟩
            simp only [zp])
           (refine Rr.yd ⟨.string (S ++ timB ++ sT0 ++ spB ++ sT1 ++ spB ++ sT2),fun wz hw hh=>?_,?_⟩
            ·have hcz:=hw.cells.1
             have hq2:¬ 9223372036854775807 < S.size+6+sT0.size+1+sT1.size+1+sT2.size:=by omega
             go_simp
             exact zU
            simp only [zp])
           (refine Rr.yd ⟨.string (S ++ timB ++ sT0 ++ spB ++ sT1 ++ spB ++ sT2 ++ spB),fun wz hw hh=>?_,?_⟩
            ·have hcz:=hw.cells.1
             have hq2:¬ 9223372036854775807 < S.size+6+sT0.size+1+sT1.size+1+sT2.size+1:=by omega
             go_simp
             exact zU
            simp only [zp])
           iterate 2
            refine Rr.y1 ?_
           (refine Rr.yd ⟨.string sT3,fun wz hw hh=>?_,?_⟩
            ·go_simp
             apply Rg.up_enter
             (refine (HT3.out wz).mono ?_)
             rintro e w3 ⟨rfl,hb3⟩
             exact ⟨rfl,hb3⟩
            simp only [zp])
           (refine Rr.yd ⟨.string (S ++ timB ++ sT0 ++ spB ++ sT1 ++ spB ++ sT2 ++ spB ++ sT3),fun wz hw hh=>?_,?_⟩
            ·have hcz:=hw.cells.1
             have hq2:¬ 9223372036854775807 < S.size+6+sT0.size+1+sT1.size+1+sT2.size+1+sT3.size:=by omega
             go_simp
             exact zU
            simp only [zp])
           (refine Rr.yd ⟨.string (S ++ timB ++ sT0 ++ spB ++ sT1 ++ spB ++ sT2 ++ spB ++ sT3 ++ spB),fun wz hw hh=>?_,?_⟩
            ·have hcz:=hw.cells.1
             have hq2:¬ 9223372036854775807 < S.size+6+sT0.size+1+sT1.size+1+sT2.size+1+sT3.size+1:=by omega
             go_simp
             exact zU
            simp only [zp])
           iterate 2
            refine Rr.y1 ?_
           (refine Rr.yd ⟨.string sT4,fun wz hw hh=>?_,?_⟩
            ·go_simp
             apply Rg.up_enter
             (refine (HT4.out wz).mono ?_)
             rintro e w3 ⟨rfl,hb3⟩
             exact ⟨rfl,hb3⟩
            simp only [zp])
           refine Rr.wr_nil ?_
           intro wy hy hh
           simp only [gg,gh,gi,gj,Nat.reduceAdd]
           clear hh
           have hr1:S.size+6+sT0.size+1+sT1.size+1+sT2.size+1+sT3.size+1+sT4.size≤9223372036854775807:=by omega
           have hr2:S.size+6+sT0.size+1+sT1.size+1+sT2.size+1+sT3.size+1+sT4.size+1≤9223372036854775807:=by omega
           go_wp2
           go_ret
           exact ⟨_,rfl,by simp only [sz_app];have e1:timB.size=6:=rfl;have e2:spB.size=1:=rfl;have e3:(⟨#[10]⟩:ByteArray).size=1:=rfl;omega,(HX0.out.trans (HX.out.trans HX7.out)).trans hy⟩
end Go.Proofs.YteomcpplajeidaaGreat
