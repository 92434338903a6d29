/-
  Lemmas of this claim (JwAJ). Nothing is asked.
-/
import Derived.Test.YteomcpplajeidaaGreatJwAI
import Derived.Test.YteomcpplajeidaaGreatJwI
set_option linter.unusedVariables false
set_option linter.unusedSimpArgs false
set_option maxRecDepth 100000
set_option maxHeartbeats 40000000
namespace Go.Proofs.YteomcpplajeidaaGreat
open Go.RowKit
def Nat9 (z:Int):Prop:=0≤z∧z≤1000000000
def cellsSl (x:Sl):List Value:=[slV x]
structure KS (w:World) (v:Value) (kk:List Sl):Prop where
 sr:SR cellsSl 1 w v kk
 len:kk.length≤12
 each:∀ x∈kk,∃ l,IRd w (slV x) l∧l.length≤12∧∀ z∈l,1≤z∧z≤1000000000
theorem KS.ext {w w':World} {v:Value} {kk:List Sl} (h:KS w v kk) (x:Ext w w'):KS w' v kk:=
 ⟨h.sr.ext x,h.len,fun y hy=>by
  obtain ⟨l,h1,h2⟩:=h.each y hy
  exact ⟨l,h1.ext x,h2⟩⟩
structure PT (r:TnR) (T:TP):Prop where
 nm:namS r.nm=true∧r.nm.size≤100
 ls:∀ x∈T.ls,1≤x.1∧x.1≤1000000000∧Nat9 x.2
 ll:1≤T.ls.length∧T.ls.length≤12
 cs:∀ c∈T.cs,NmOk c.name∧Nat9 c.low∧Nat9 c.high∧(c.kind=1∨c.kind=2)
 cl:T.cs.length≤12
 rs:∀ q∈T.rs,NmOk q.name∧q.rel.size≤100∧Nat9 q.value
 rl:T.rs.length≤12
 ts:∀ s∈T.ts,s.size≤100
 tl:T.ts.length≤12
 low:Nat9 r.low
 high:Nat9 r.high
 most:Nat9 r.most
 budget:Nat9 r.budget
 t0:Nat9 r.t0
 t1:Nat9 r.t1
 t2:Nat9 r.t2
 t3:Nat9 r.t3
 t4:Nat9 r.t4
 f:GE T.f
 fp:T.f.parts≤60
 fd:T.f.depth≤12
theorem SR.n_eq {α:Type} {cs:α→List Value} {sz:Nat} {w:World} {b:Option Addr} {n c:Nat} {xs:List α} (h:SR cs sz w (.slice b n c) xs):n=xs.length:=by
 obtain ⟨_,_,h1,-⟩:=h
 injection h1
structure CT (w:World) (r:TnR) (T:TP) (kk:List Sl):Prop where
 tv:TV w r T
 ks:KS w (slV r.ks) kk
 pt:PT r T
theorem CT.ext {w w':World} {r:TnR} {T:TP} {kk:List Sl} (h:CT w r T kk) (x:Ext w w'):CT w' r T kk:=⟨h.tv.ext x,h.ks.ext x,h.pt⟩
theorem listed_any (r:TnR) (T:TP) (kk:List Sl) (w:World) (h:CT w r T kk):Calls Tryz.prog 95 #[.agg (tenC r)] w (BoP w):=by
 have HT:=zH h
 obtain ⟨nm,⟨la,ln,lc⟩,⟨ca,cn,cc⟩,⟨ra,rn,rc⟩,low,high,fo,f1,f2,fn,fa,⟨ta,tn,tc⟩,most,⟨ka,kn,kc⟩,budget,t0,t1,t2,t3,t4⟩:=r
 obtain rfl:ln=T.ls.length:=h.tv.h1.n_eq
 obtain rfl:cn=T.cs.length:=h.tv.h2.n_eq
 obtain rfl:rn=T.rs.length:=h.tv.h3.n_eq
 obtain rfl:tn=T.ts.length:=h.tv.h4.n_eq
 obtain rfl:kn=kk.length:=h.ks.sr.n_eq
 obtain ⟨ls,cs,rs,ts,f⟩:=T
 simp only at *
 have hl1:¬ (ls.length:Int) < 1:=by have:=h.pt.ll.1;simp only at this;omega
 have hl2:¬ (12:Int) < (ls.length:Int):=by have:=h.pt.ll.2;simp only at this;omega
 have hl3:¬ (12:Int) < (cs.length:Int):=by have:=h.pt.cl;simp only at this;omega
 have hl4:¬ (24:Int) < (rs.length:Int):=by have:=h.pt.rl;simp only at this;omega
 have hl5:¬ (12:Int) < (ts.length:Int):=by have:=h.pt.tl;simp only at this;omega
 have hl6:¬ (12:Int) < (kk.length:Int):=by have:=h.ks.len;omega
 have HS1:=zH h.tv.h1;have HS2:=zH h.tv.h2;have HS3:=zH h.tv.h3;have HS4:=zH h.tv.h4;have HS5:=zH h.ks.sr
 have HP1:=zH h.pt.ls;have HP2:=zH h.pt.cs;have HP3:=zH h.pt.rs;have HP4:=zH h.pt.ts;have HP5:=zH h.ks.each
 clear h HT
 have HN:Hid (ls.length≤12∧cs.length≤12∧rs.length≤24∧ts.length≤12∧kk.length≤12):=zH (by omega)
 obtain ⟨W,hW⟩:∃ W,W=w.alloc (.cells (tenC ⟨nm,(la,ls.length,lc),(ca,cs.length,cc),(ra,rs.length,rc),low,high,fo,f1,f2,fn,fa,(ta,ts.length,tc),most,(ka,kk.length,kc),budget,t0,t1,t2,t3,t4⟩) 39):=⟨_,rfl⟩
 have hx:Ext w W:=by rw [hW];exact Ext.alloc (Ext.refl _) _
 have hb:W.heap[w.heap.size]? = some (.cells (tenC ⟨nm,(la,ls.length,lc),(ca,cs.length,cc),(ra,rs.length,rc),low,high,fo,f1,f2,fn,fa,(ta,ts.length,tc),most,(ka,kk.length,kc),budget,t0,t1,t2,t3,t4⟩) 39):=by rw [hW];exact block_new rfl
 obtain ⟨p,hp⟩:∃ p,p=w.heap.size:=⟨_,rfl⟩
 rw [← hp] at hb
 have HX0:=zH hx;have HB:=zH hb
 clear hx hb
 go_in
 go_upto_region 1 with (fail)
 rw [← hW]
 rw [← hp]
 clear hW hp
 have HCS:Hid (∀ wz,Ext W wz→wz.cell? ⟨p,1,none⟩=some (.slice la ls.length lc)∧wz.cell? ⟨p,2,none⟩=some (.slice ca cs.length cc)∧wz.cell? ⟨p,3,none⟩=some (.slice ra rs.length rc)∧wz.cell? ⟨p,11,none⟩=some (.slice ta ts.length tc)∧wz.cell? ⟨p,13,none⟩=some (.slice ka kk.length kc)∧p < wz.heap.size):=zH fun wz x=>by
  obtain ⟨hcc,-,lp⟩:=zC ((x.block _ (zL HB.out)).trans HB.out)
  exact ⟨hcc 1,hcc 2,hcc 3,hcc 11,hcc 13,lp⟩
 obtain ⟨c1,c2,c3,c11,c13,lp⟩:=HCS.out _ ((Ext.refl _))
 go_upto_region 5 with (fail)
 clear c1 c2 c3 c11 c13 lp hl1 hl2 hl3 hl4 hl5 hl6
 go_loopw [3,4] (fun bv iv wr=>∃ (b:Bool) (i:Nat),bv=.bool b∧iv=iV i∧i≤ls.length∧Hid (Ext W wr)) (fun _ iv _=>ls.length - (iof iv).toNat)
 case atStart=>exact ⟨_,0,rfl,rfl,Nat.zero_le _,zH (Ext.refl _)⟩
 case round=>
  obtain ⟨b,i,rfl,rfl,hi,HX⟩:=hrel
  obtain ⟨c1,c2,c3,c11,c13,lp⟩:=HCS.out _ (HX.out)
  by_cases hil:i < ls.length
  ·as_aux_lemma=>
   obtain ⟨bb,rfl,hcs⟩:=HS1.out.at (HX0.out.trans HX.out) i hil
   have e0:=hcs 0 _ rfl;have e1:=hcs 1 _ rfl
   have HPi:=zH (HP1.out ls[i] (List.getElem_mem hil))
   have HSM:=zH (fun wz=>small_yes ls[i].1 1 ⟨HPi.out.1,HPi.out.2.1⟩ wz)
   have HSN:=zH (fun wz=>small_yes ls[i].2 0 HPi.out.2.2 wz)
   clear hcs
   generalize ls[i]=q at *
   obtain ⟨z1,z2⟩:=q
   simp only [Nat.add_zero] at e0 e1
   simp only at HSM HSN
   have hbl:=zB wr _ e1
   have hili:(i:Int) < (ls.length:Int):=by omega
   have hwi:=wz ((i:Int)+1) (by have:=HN.out;omega)
   cases b with
   | false=>
    go_upto_region 9 with (fail)
    clear e0 e1 hbl lp c1 c2 c3 c11 c13
    have HIX:=zH HX.out
    go_loopw [3,5] (fun bv iv wq=>∃ (b:Bool) (j:Nat),bv=.bool b∧iv=iV j∧j≤i∧Hid (Ext W wq)) (fun _ iv _=>i - (iof iv).toNat)
    case atStart=>exact ⟨_,0,rfl,rfl,Nat.zero_le _,HX⟩
    case round=>
     rename World=>wq
     obtain ⟨b,j,rfl,rfl,hj,HY⟩:=hrel
     obtain ⟨c1,c2,c3,c11,c13,lp⟩:=HCS.out _ (HY.out)
     by_cases hjl:j < i
     ·obtain ⟨bb,e1,hcs⟩:=HS1.out.at (HX0.out.trans HY.out) j (by omega)
      injection e1 with e1
      injection e1 with e1
      subst e1
      have d0:=hcs 0 _ rfl
      clear hcs
      obtain ⟨bb2,e2,hcs⟩:=HS1.out.at (HX0.out.trans HY.out) i hil
      injection e2 with e2
      injection e2 with e2
      subst e2
      have k0:=hcs 0 _ rfl
      clear hcs
      have hji:(j:Int) < (ls.length:Int):=by omega
      have hwj:=wz ((j:Int)+1) (by have:=HN.out;omega)
      simp only [Nat.add_zero] at d0 k0
      have ld:=zB wq _ d0
      cases b with
      | false=>
       go_upto_region 11 with (fail)
       go_quiet (fail)
       have hxq:Ext wq (wq.drewN nq):=xt
       go_wp2_with (fail)
       exact ⟨⟨_,j+1,by rfl,by rfl,by omega,zH (HY.out.trans hxq)⟩,by simp [iof];omega⟩
      | true=>
       go_upto_region 11 with (fail)
       go_quiet (fail)
       have hxq:Ext wq (wq.drewN nq):=xt
       go_wp2_with (fail)
       exact ⟨⟨_,j+1,by rfl,by rfl,by omega,zH (HY.out.trans hxq)⟩,by simp [iof];omega⟩
     ·obtain rfl:j=i:=by omega
      go_wp2_with (fail)
      exact ⟨⟨_,j+1,by rfl,by rfl,by omega,HY⟩,by simp [iof];omega⟩
   | true=>
    go_upto_region 8 with (go_at_call 96;first|((with_reducible refine (HSM.out _).mono ?_);rintro e w5 ⟨rfl,rfl⟩)|((with_reducible refine (HSN.out _).mono ?_);rintro e w5 ⟨rfl,rfl⟩))
    go_upto_region 9 with (fail)
    clear e0 e1 hbl lp c1 c2 c3 c11 c13
    have HIX:=zH HX.out
    go_loopw [3,5] (fun bv iv wq=>∃ (b:Bool) (j:Nat),bv=.bool b∧iv=iV j∧j≤i∧Hid (Ext W wq)) (fun _ iv _=>i - (iof iv).toNat)
    case atStart=>exact ⟨_,0,rfl,rfl,Nat.zero_le _,HX⟩
    case round=>
     rename World=>wq
     obtain ⟨b,j,rfl,rfl,hj,HY⟩:=hrel
     obtain ⟨c1,c2,c3,c11,c13,lp⟩:=HCS.out _ (HY.out)
     by_cases hjl:j < i
     ·obtain ⟨bb,e1,hcs⟩:=HS1.out.at (HX0.out.trans HY.out) j (by omega)
      injection e1 with e1
      injection e1 with e1
      subst e1
      have d0:=hcs 0 _ rfl
      clear hcs
      obtain ⟨bb2,e2,hcs⟩:=HS1.out.at (HX0.out.trans HY.out) i hil
      injection e2 with e2
      injection e2 with e2
      subst e2
      have k0:=hcs 0 _ rfl
      clear hcs
      have hji:(j:Int) < (ls.length:Int):=by omega
      have hwj:=wz ((j:Int)+1) (by have:=HN.out;omega)
      simp only [Nat.add_zero] at d0 k0
      have ld:=zB wq _ d0
      cases b with
      | false=>
       go_upto_region 11 with (fail)
       go_quiet (fail)
       have hxq:Ext wq (wq.drewN nq):=xt
       go_wp2_with (fail)
       exact ⟨⟨_,j+1,by rfl,by rfl,by omega,zH (HY.out.trans hxq)⟩,by simp [iof];omega⟩
      | true=>
       go_upto_region 11 with (fail)
       go_quiet (fail)
       have hxq:Ext wq (wq.drewN nq):=xt
       go_wp2_with (fail)
       exact ⟨⟨_,j+1,by rfl,by rfl,by omega,zH (HY.out.trans hxq)⟩,by simp [iof];omega⟩
     ·obtain rfl:j=i:=by omega
      go_wp2_with (fail)
      exact ⟨⟨_,j+1,by rfl,by rfl,by omega,HY⟩,by simp [iof];omega⟩
  ·obtain rfl:i=ls.length:=by omega
   obtain ⟨w1,rfl⟩:∃ x:World,x=wr:=⟨_,rfl⟩
   go_upto_region 13 with (fail)
   clear c1 c2 c3 c11 c13 lp
   go_loopw [3,6] (fun bv iv wr=>∃ (b:Bool) (i:Nat),bv=.bool b∧iv=iV i∧i≤cs.length∧Hid (Ext W wr)) (fun _ iv _=>cs.length - (iof iv).toNat)
   case atStart=>exact ⟨_,0,rfl,rfl,Nat.zero_le _,HX⟩
   case round=>
    rename World=>wr
    obtain ⟨b,i,rfl,rfl,hi,HX⟩:=hrel
    obtain ⟨c1,c2,c3,c11,c13,lp⟩:=HCS.out _ (HX.out)
    by_cases hil:i < cs.length
    ·as_aux_lemma=>
     obtain ⟨bb,rfl,hcs⟩:=HS2.out.at (HX0.out.trans HX.out) i hil
     have e0:=hcs 0 _ rfl;have e1:=hcs 1 _ rfl;have e2:=hcs 2 _ rfl;have e3:=hcs 3 _ rfl;have e4:=hcs 4 _ rfl
     have HPi:=zH (HP2.out cs[i] (List.getElem_mem hil))
     have HWO:=zH (fun wz=>IsWord_any cs[i].name (by have:=HPi.out.1.sz;omega) wz)
     have HSM:=zH (fun wz=>small_yes cs[i].low 0 HPi.out.2.1 wz)
     have HSN:=zH (fun wz=>small_yes cs[i].high 0 HPi.out.2.2.1 wz)
     clear hcs
     generalize hq:cs[i]=q at *
     have HQ:=zH hq
     clear hq
     obtain ⟨n0,z1,z2,z3,z4⟩:=q
     simp only [Nat.add_zero] at e0 e1 e2 e3 e4
     simp only at HSM HSN HWO HPi
     have hbl:=zB wr _ e1
     have hili:(i:Int) < (cs.length:Int):=by omega
     have hwi:=wz ((i:Int)+1) (by have:=HN.out;omega)
     go_upto_region 16 with (fail)
     have hxa:Ext wr (wr.alloc (.cells #[.string n0,iV z1,iV z2,iV z3,.bool z4] 78)):=Ext.alloc (Ext.refl _) _
     have hb4:(wr.alloc (.cells #[.string n0,iV z1,iV z2,iV z3,.bool z4] 78)).heap[wr.heap.size]? = some (.cells #[.string n0,iV z1,iV z2,iV z3,.bool z4] 78):=block_new rfl
     obtain ⟨pc,hpc⟩:∃ x,x=wr.heap.size:=⟨_,rfl⟩
     rw [← hpc] at hb4 ⊢
     clear hpc e0 e1 e2 e3 e4 hbl lp c1 c2 c3 c11 c13
     have HX:=zH (HX.out.trans hxa)
     clear hxa
     generalize wr.alloc (.cells #[.string n0,iV z1,iV z2,iV z3,.bool z4] 78)=w5 at *
     have HB4:=zH hb4
     obtain ⟨d0,d1,d2,d3,lpc⟩:=zC4 hb4
     clear hb4
     generalize worS n0=wo at *
     cases b with
     | false=>
      go_upto_region 18 with (go_at_call 150;fail)
      clear d0 d1 d2 d3 lpc
      have HX6:=zH HX.out
      go_loopw [3,8] (fun bv iv wq=>∃ (b:Bool) (j:Nat),bv=.bool b∧iv=iV j∧j≤i∧Hid (Ext w5 wq)) (fun _ iv _=>i - (iof iv).toNat)
      case atStart=>exact ⟨_,0,rfl,rfl,Nat.zero_le _,zH (Ext.refl _)⟩
      case round=>
       rename World=>wq
       obtain ⟨b,j,rfl,rfl,hj,HY⟩:=hrel
       obtain ⟨c1,c2,c3,c11,c13,lp⟩:=HCS.out _ ((HX6.out.trans HY.out))
       by_cases hjl:j < i
       ·obtain ⟨b1,e1,hcs⟩:=HS2.out.at (HX0.out.trans (HX6.out.trans HY.out)) j (by omega)
        injection e1 with e1
        injection e1 with e1
        subst e1
        have k0:=hcs 0 _ rfl
        clear hcs
        obtain ⟨hcc,-,lpc⟩:=zC ((HY.out.block _ (zL HB4.out)).trans HB4.out)
        have d0:=zk hcc 0
        clear hcc
        have hji:(j:Int) < (cs.length:Int):=by omega
        have hwj:=wz ((j:Int)+1) (by have:=HN.out;omega)
        simp only [Nat.add_zero] at k0
        have ld:=zB wq _ k0
        cases b with
        | false=>
         go_upto_region 20 with (fail)
         go_quiet (fail)
         have hxq:Ext wq (wq.drewN nq):=xt
         go_wp2_with (fail)
         exact ⟨⟨_,j+1,by rfl,by rfl,by omega,zH (HY.out.trans hxq)⟩,by simp [iof];omega⟩
        | true=>
         go_upto_region 20 with (fail)
         go_quiet (fail)
         have hxq:Ext wq (wq.drewN nq):=xt
         go_wp2_with (fail)
         exact ⟨⟨_,j+1,by rfl,by rfl,by omega,zH (HY.out.trans hxq)⟩,by simp [iof];omega⟩
       ·obtain rfl:j=i:=by omega
        go_wp2_with (fail)
        exact ⟨⟨_,j+1,by rfl,by rfl,by omega,zH (HX6.out.trans HY.out)⟩,by simp [iof];omega⟩
     | true=>
      cases wo with
      | false=>
       go_upto_region 18 with (go_at_call 150;((refine (HWO.out _).mono ?_);rintro e w6 ⟨rfl,rfl⟩))
       clear d0 d1 d2 d3 lpc
       have HX6:=zH HX.out
       go_loopw [3,8] (fun bv iv wq=>∃ (b:Bool) (j:Nat),bv=.bool b∧iv=iV j∧j≤i∧Hid (Ext w5 wq)) (fun _ iv _=>i - (iof iv).toNat)
       case atStart=>exact ⟨_,0,rfl,rfl,Nat.zero_le _,zH (Ext.refl _)⟩
       case round=>
        rename World=>wq
        obtain ⟨b,j,rfl,rfl,hj,HY⟩:=hrel
        obtain ⟨c1,c2,c3,c11,c13,lp⟩:=HCS.out _ ((HX6.out.trans HY.out))
        by_cases hjl:j < i
        ·obtain ⟨b1,e1,hcs⟩:=HS2.out.at (HX0.out.trans (HX6.out.trans HY.out)) j (by omega)
         injection e1 with e1
         injection e1 with e1
         subst e1
         have k0:=hcs 0 _ rfl
         clear hcs
         obtain ⟨hcc,-,lpc⟩:=zC ((HY.out.block _ (zL HB4.out)).trans HB4.out)
         have d0:=zk hcc 0
         clear hcc
         have hji:(j:Int) < (cs.length:Int):=by omega
         have hwj:=wz ((j:Int)+1) (by have:=HN.out;omega)
         simp only [Nat.add_zero] at k0
         have ld:=zB wq _ k0
         cases b with
         | false=>
          go_upto_region 20 with (fail)
          go_quiet (fail)
          have hxq:Ext wq (wq.drewN nq):=xt
          go_wp2_with (fail)
          exact ⟨⟨_,j+1,by rfl,by rfl,by omega,zH (HY.out.trans hxq)⟩,by simp [iof];omega⟩
         | true=>
          go_upto_region 20 with (fail)
          go_quiet (fail)
          have hxq:Ext wq (wq.drewN nq):=xt
          go_wp2_with (fail)
          exact ⟨⟨_,j+1,by rfl,by rfl,by omega,zH (HY.out.trans hxq)⟩,by simp [iof];omega⟩
        ·obtain rfl:j=i:=by omega
         go_wp2_with (fail)
         exact ⟨⟨_,j+1,by rfl,by rfl,by omega,zH (HX6.out.trans HY.out)⟩,by simp [iof];omega⟩
      | true=>
       rcases HPi.out.2.2.2 with rfl|rfl
       ·go_upto_region 17 with (first
         |(go_at_call 150;(with_reducible refine (HWO.out _).mono ?_);rintro e w6 ⟨rfl,rfl⟩)
         |(go_at_call 96;first|((with_reducible refine (HSM.out _).mono ?_);rintro e w6 ⟨rfl,rfl⟩)|((with_reducible refine (HSN.out _).mono ?_);rintro e w6 ⟨rfl,rfl⟩)))
        go_upto_region 18 with (go_at_call 150;fail)
        clear d0 d1 d2 d3 lpc
        have HX6:=zH HX.out
        go_loopw [3,8] (fun bv iv wq=>∃ (b:Bool) (j:Nat),bv=.bool b∧iv=iV j∧j≤i∧Hid (Ext w5 wq)) (fun _ iv _=>i - (iof iv).toNat)
        case atStart=>exact ⟨_,0,rfl,rfl,Nat.zero_le _,zH (Ext.refl _)⟩
        case round=>
         rename World=>wq
         obtain ⟨b,j,rfl,rfl,hj,HY⟩:=hrel
         obtain ⟨c1,c2,c3,c11,c13,lp⟩:=HCS.out _ ((HX6.out.trans HY.out))
         by_cases hjl:j < i
         ·obtain ⟨b1,e1,hcs⟩:=HS2.out.at (HX0.out.trans (HX6.out.trans HY.out)) j (by omega)
          injection e1 with e1
          injection e1 with e1
          subst e1
          have k0:=hcs 0 _ rfl
          clear hcs
          obtain ⟨hcc,-,lpc⟩:=zC ((HY.out.block _ (zL HB4.out)).trans HB4.out)
          have d0:=zk hcc 0
          clear hcc
          have hji:(j:Int) < (cs.length:Int):=by omega
          have hwj:=wz ((j:Int)+1) (by have:=HN.out;omega)
          simp only [Nat.add_zero] at k0
          have ld:=zB wq _ k0
          cases b with
          | false=>
           go_upto_region 20 with (fail)
           go_quiet (fail)
           have hxq:Ext wq (wq.drewN nq):=xt
           go_wp2_with (fail)
           exact ⟨⟨_,j+1,by rfl,by rfl,by omega,zH (HY.out.trans hxq)⟩,by simp [iof];omega⟩
          | true=>
           go_upto_region 20 with (fail)
           go_quiet (fail)
           have hxq:Ext wq (wq.drewN nq):=xt
           go_wp2_with (fail)
           exact ⟨⟨_,j+1,by rfl,by rfl,by omega,zH (HY.out.trans hxq)⟩,by simp [iof];omega⟩
         ·obtain rfl:j=i:=by omega
          go_wp2_with (fail)
          exact ⟨⟨_,j+1,by rfl,by rfl,by omega,zH (HX6.out.trans HY.out)⟩,by simp [iof];omega⟩
       ·go_upto_region 17 with (first
         |(go_at_call 150;(with_reducible refine (HWO.out _).mono ?_);rintro e w6 ⟨rfl,rfl⟩)
         |(go_at_call 96;first|((with_reducible refine (HSM.out _).mono ?_);rintro e w6 ⟨rfl,rfl⟩)|((with_reducible refine (HSN.out _).mono ?_);rintro e w6 ⟨rfl,rfl⟩)))
        go_upto_region 18 with (go_at_call 150;fail)
        clear d0 d1 d2 d3 lpc
        have HX6:=zH HX.out
        go_loopw [3,8] (fun bv iv wq=>∃ (b:Bool) (j:Nat),bv=.bool b∧iv=iV j∧j≤i∧Hid (Ext w5 wq)) (fun _ iv _=>i - (iof iv).toNat)
        case atStart=>exact ⟨_,0,rfl,rfl,Nat.zero_le _,zH (Ext.refl _)⟩
        case round=>
         rename World=>wq
         obtain ⟨b,j,rfl,rfl,hj,HY⟩:=hrel
         obtain ⟨c1,c2,c3,c11,c13,lp⟩:=HCS.out _ ((HX6.out.trans HY.out))
         by_cases hjl:j < i
         ·obtain ⟨b1,e1,hcs⟩:=HS2.out.at (HX0.out.trans (HX6.out.trans HY.out)) j (by omega)
          injection e1 with e1
          injection e1 with e1
          subst e1
          have k0:=hcs 0 _ rfl
          clear hcs
          obtain ⟨hcc,-,lpc⟩:=zC ((HY.out.block _ (zL HB4.out)).trans HB4.out)
          have d0:=zk hcc 0
          clear hcc
          have hji:(j:Int) < (cs.length:Int):=by omega
          have hwj:=wz ((j:Int)+1) (by have:=HN.out;omega)
          simp only [Nat.add_zero] at k0
          have ld:=zB wq _ k0
          cases b with
          | false=>
           go_upto_region 20 with (fail)
           go_quiet (fail)
           have hxq:Ext wq (wq.drewN nq):=xt
           go_wp2_with (fail)
           exact ⟨⟨_,j+1,by rfl,by rfl,by omega,zH (HY.out.trans hxq)⟩,by simp [iof];omega⟩
          | true=>
           go_upto_region 20 with (fail)
           go_quiet (fail)
           have hxq:Ext wq (wq.drewN nq):=xt
           go_wp2_with (fail)
           exact ⟨⟨_,j+1,by rfl,by rfl,by omega,zH (HY.out.trans hxq)⟩,by simp [iof];omega⟩
         ·obtain rfl:j=i:=by omega
          go_wp2_with (fail)
          exact ⟨⟨_,j+1,by rfl,by rfl,by omega,zH (HX6.out.trans HY.out)⟩,by simp [iof];omega⟩
    ·obtain rfl:i=cs.length:=by omega
     obtain ⟨w2,rfl⟩:∃ x:World,x=wr:=⟨_,rfl⟩
     go_upto_region 22 with (fail)
     clear c1 c2 c3 c11 c13 lp
     go_loopw [3,9] (fun bv iv wr=>∃ (b:Bool) (i:Nat),bv=.bool b∧iv=iV i∧i≤rs.length∧Hid (Ext W wr)) (fun _ iv _=>rs.length - (iof iv).toNat)
     case atStart=>exact ⟨_,0,rfl,rfl,Nat.zero_le _,HX⟩
     case round=>
      rename World=>wr
      obtain ⟨b,i,rfl,rfl,hi,HX⟩:=hrel
      obtain ⟨c1,c2,c3,c11,c13,lp⟩:=HCS.out _ (HX.out)
      by_cases hil:i < rs.length
      ·as_aux_lemma=>
       obtain ⟨bb,rfl,hcs⟩:=HS3.out.at (HX0.out.trans HX.out) i hil
       have e0:=hcs 0 _ rfl;have e1:=hcs 1 _ rfl;have e2:=hcs 2 _ rfl
       have HPi:=zH (HP3.out rs[i] (List.getElem_mem hil))
       have HWO:=zH (fun wz=>IsWord_any rs[i].name (by have:=HPi.out.1.sz;omega) wz)
       have HSM:=zH (fun wz=>small_yes rs[i].value 0 HPi.out.2.2 wz)
       clear hcs
       generalize rs[i]=q at *
       obtain ⟨n0,z1,z2⟩:=q
       simp only [Nat.add_zero] at e0 e1 e2
       simp only at HSM HWO HPi
       have hbl:=zB wr _ e1
       have hili:(i:Int) < (rs.length:Int):=by omega
       have hwi:=wz ((i:Int)+1) (by have:=HN.out;omega)
       go_upto_region 25 with (fail)
       have hxa:Ext wr (wr.alloc (.cells #[.string n0,.string z1,iV z2] 88)):=Ext.alloc (Ext.refl _) _
       have hb4:(wr.alloc (.cells #[.string n0,.string z1,iV z2] 88)).heap[wr.heap.size]? = some (.cells #[.string n0,.string z1,iV z2] 88):=block_new rfl
       obtain ⟨pc,hpc⟩:∃ x,x=wr.heap.size:=⟨_,rfl⟩
       rw [← hpc] at hb4 ⊢
       clear hpc e0 e1 e2 hbl lp c1 c2 c3 c11 c13
       have HX:=zH (HX.out.trans hxa)
       clear hxa
       generalize wr.alloc (.cells #[.string n0,.string z1,iV z2] 88)=w5 at *
       obtain ⟨d0,d1,d2,lpc⟩:=zC3 hb4
       clear hb4
       generalize worS n0=wo at *
       cases b with
       | false=>
        go_wp2_with (first
         |(go_at_call 150;(with_reducible refine (HWO.out _).mono ?_);rintro e w6 ⟨rfl,rfl⟩)
         |(go_at_call 96;(with_reducible refine (HSM.out _).mono ?_);rintro e w6 ⟨rfl,rfl⟩))
        exact ⟨⟨_,i+1,by rfl,by rfl,by omega,HX⟩,by simp [iof];omega⟩
       | true=>
        cases wo with
        | false=>
         go_wp2_with (first
          |(go_at_call 150;(with_reducible refine (HWO.out _).mono ?_);rintro e w6 ⟨rfl,rfl⟩)
          |(go_at_call 96;(with_reducible refine (HSM.out _).mono ?_);rintro e w6 ⟨rfl,rfl⟩))
         exact ⟨⟨_,i+1,by rfl,by rfl,by omega,HX⟩,by simp [iof];omega⟩
        | true=>
         by_cases hle:(z1.toList == [60,61])=true
         ·skip
          go_wp2_with (first
           |(go_at_call 150;(with_reducible refine (HWO.out _).mono ?_);rintro e w6 ⟨rfl,rfl⟩)
           |(go_at_call 96;(with_reducible refine (HSM.out _).mono ?_);rintro e w6 ⟨rfl,rfl⟩))
          exact ⟨⟨_,i+1,by rfl,by rfl,by omega,HX⟩,by simp [iof];omega⟩
         ·have hle':(z1.toList == [60,61])=false:=by simpa using hle
          go_wp2_with (first
           |(go_at_call 150;(with_reducible refine (HWO.out _).mono ?_);rintro e w6 ⟨rfl,rfl⟩)
           |(go_at_call 96;(with_reducible refine (HSM.out _).mono ?_);rintro e w6 ⟨rfl,rfl⟩))
          exact ⟨⟨_,i+1,by rfl,by rfl,by omega,HX⟩,by simp [iof];omega⟩
      ·obtain rfl:i=rs.length:=by omega
       obtain ⟨w3,rfl⟩:∃ x:World,x=wr:=⟨_,rfl⟩
       go_upto_region 27 with (fail)
       clear c1 c2 c3 c11 c13 lp
       go_loopw [3,11] (fun bv iv wr=>∃ (b:Bool) (i:Nat),bv=.bool b∧iv=iV i∧i≤ts.length∧Hid (Ext W wr)) (fun _ iv _=>ts.length - (iof iv).toNat)
       case atStart=>exact ⟨_,0,rfl,rfl,Nat.zero_le _,HX⟩
       case round=>
        rename World=>wr
        obtain ⟨b,i,rfl,rfl,hi,HX⟩:=hrel
        obtain ⟨c1,c2,c3,c11,c13,lp⟩:=HCS.out _ (HX.out)
        by_cases hil:i < ts.length
        ·as_aux_lemma=>
         obtain ⟨bb,rfl,hcs⟩:=HS4.out.at (HX0.out.trans HX.out) i hil
         have e0:=hcs 0 _ rfl
         have HPi:=zH (HP4.out ts[i] (List.getElem_mem hil))
         have HWO:=zH (fun wz=>IsWord_any ts[i] (by have:=HPi.out;omega) wz)
         clear hcs
         generalize ts[i]=n0 at *
         simp only [Nat.add_zero,Nat.mul_one] at e0
         have hbl:=zB wr _ e0
         have hili:(i:Int) < (ts.length:Int):=by omega
         have hwi:=wz ((i:Int)+1) (by have:=HN.out;omega)
         generalize worS n0=wo at *
         cases b with
         | false=>
          go_upto_region 31 with (go_at_call 150;(refine (HWO.out _).mono ?_);rintro e w6 ⟨rfl,rfl⟩)
          clear e0 hbl lp c1 c2 c3 c11 c13
          have HX6:=zH HX.out
          go_loopw [3,12] (fun bv iv wq=>∃ (b:Bool) (j:Nat),bv=.bool b∧iv=iV j∧j≤i∧Hid (Ext W wq)) (fun _ iv _=>i - (iof iv).toNat)
          case atStart=>exact ⟨_,0,rfl,rfl,Nat.zero_le _,HX⟩
          case round=>
           rename World=>wq
           obtain ⟨b,j,rfl,rfl,hj,HY⟩:=hrel
           obtain ⟨c1,c2,c3,c11,c13,lp⟩:=HCS.out _ (HY.out)
           by_cases hjl:j < i
           ·obtain ⟨b1,e1,hcs⟩:=HS4.out.at (HX0.out.trans HY.out) j (by omega)
            injection e1 with e1
            injection e1 with e1
            subst e1
            have d0:=hcs 0 _ rfl
            clear hcs
            obtain ⟨b2,e2,hcs⟩:=HS4.out.at (HX0.out.trans HY.out) i hil
            injection e2 with e2
            injection e2 with e2
            subst e2
            have k0:=hcs 0 _ rfl
            clear hcs
            have hji:(j:Int) < (ts.length:Int):=by omega
            have hwj:=wz ((j:Int)+1) (by have:=HN.out;omega)
            simp only [Nat.add_zero,Nat.mul_one] at d0 k0
            have ld:=zB wq _ d0
            cases b with
            | false=>
             go_upto_region 33 with (fail)
             go_quiet (fail)
             have hxq:Ext wq (wq.drewN nq):=xt
             go_wp2_with (fail)
             exact ⟨⟨_,j+1,by rfl,by rfl,by omega,zH (HY.out.trans hxq)⟩,by simp [iof];omega⟩
            | true=>
             go_upto_region 33 with (fail)
             go_quiet (fail)
             have hxq:Ext wq (wq.drewN nq):=xt
             go_wp2_with (fail)
             exact ⟨⟨_,j+1,by rfl,by rfl,by omega,zH (HY.out.trans hxq)⟩,by simp [iof];omega⟩
           ·obtain rfl:j=i:=by omega
            go_wp2_with (fail)
            exact ⟨⟨_,j+1,by rfl,by rfl,by omega,HY⟩,by simp [iof];omega⟩
         | true=>
          by_cases hpr:(n0.toList == [112,114,105,99,101])=true
          ·skip
           go_upto_region 31 with (go_at_call 150;(refine (HWO.out _).mono ?_);rintro e w6 ⟨rfl,rfl⟩)
           clear e0 hbl lp c1 c2 c3 c11 c13
           have HX6:=zH HX.out
           go_loopw [3,12] (fun bv iv wq=>∃ (b:Bool) (j:Nat),bv=.bool b∧iv=iV j∧j≤i∧Hid (Ext W wq)) (fun _ iv _=>i - (iof iv).toNat)
           case atStart=>exact ⟨_,0,rfl,rfl,Nat.zero_le _,HX⟩
           case round=>
            rename World=>wq
            obtain ⟨b,j,rfl,rfl,hj,HY⟩:=hrel
            obtain ⟨c1,c2,c3,c11,c13,lp⟩:=HCS.out _ (HY.out)
            by_cases hjl:j < i
            ·obtain ⟨b1,e1,hcs⟩:=HS4.out.at (HX0.out.trans HY.out) j (by omega)
             injection e1 with e1
             injection e1 with e1
             subst e1
             have d0:=hcs 0 _ rfl
             clear hcs
             obtain ⟨b2,e2,hcs⟩:=HS4.out.at (HX0.out.trans HY.out) i hil
             injection e2 with e2
             injection e2 with e2
             subst e2
             have k0:=hcs 0 _ rfl
             clear hcs
             have hji:(j:Int) < (ts.length:Int):=by omega
             have hwj:=wz ((j:Int)+1) (by have:=HN.out;omega)
             simp only [Nat.add_zero,Nat.mul_one] at d0 k0
             have ld:=zB wq _ d0
             cases b with
             | false=>
              go_upto_region 33 with (fail)
              go_quiet (fail)
              have hxq:Ext wq (wq.drewN nq):=xt
              go_wp2_with (fail)
              exact ⟨⟨_,j+1,by rfl,by rfl,by omega,zH (HY.out.trans hxq)⟩,by simp [iof];omega⟩
             | true=>
              go_upto_region 33 with (fail)
              go_quiet (fail)
              have hxq:Ext wq (wq.drewN nq):=xt
              go_wp2_with (fail)
              exact ⟨⟨_,j+1,by rfl,by rfl,by omega,zH (HY.out.trans hxq)⟩,by simp [iof];omega⟩
            ·obtain rfl:j=i:=by omega
             go_wp2_with (fail)
             exact ⟨⟨_,j+1,by rfl,by rfl,by omega,HY⟩,by simp [iof];omega⟩
          ·have hpr':(n0.toList == [112,114,105,99,101])=false:=by simpa using hpr
           go_upto_region 31 with (go_at_call 150;(refine (HWO.out _).mono ?_);rintro e w6 ⟨rfl,rfl⟩)
           clear e0 hbl lp c1 c2 c3 c11 c13
           have HX6:=zH HX.out
           go_loopw [3,12] (fun bv iv wq=>∃ (b:Bool) (j:Nat),bv=.bool b∧iv=iV j∧j≤i∧Hid (Ext W wq)) (fun _ iv _=>i - (iof iv).toNat)
           case atStart=>exact ⟨_,0,rfl,rfl,Nat.zero_le _,HX⟩
           case round=>
            rename World=>wq
            obtain ⟨b,j,rfl,rfl,hj,HY⟩:=hrel
            obtain ⟨c1,c2,c3,c11,c13,lp⟩:=HCS.out _ (HY.out)
            by_cases hjl:j < i
            ·obtain ⟨b1,e1,hcs⟩:=HS4.out.at (HX0.out.trans HY.out) j (by omega)
             injection e1 with e1
             injection e1 with e1
             subst e1
             have d0:=hcs 0 _ rfl
             clear hcs
             obtain ⟨b2,e2,hcs⟩:=HS4.out.at (HX0.out.trans HY.out) i hil
             injection e2 with e2
             injection e2 with e2
             subst e2
             have k0:=hcs 0 _ rfl
             clear hcs
             have hji:(j:Int) < (ts.length:Int):=by omega
             have hwj:=wz ((j:Int)+1) (by have:=HN.out;omega)
             simp only [Nat.add_zero,Nat.mul_one] at d0 k0
             have ld:=zB wq _ d0
             cases b with
             | false=>
              go_upto_region 33 with (fail)
              go_quiet (fail)
              have hxq:Ext wq (wq.drewN nq):=xt
              go_wp2_with (fail)
              exact ⟨⟨_,j+1,by rfl,by rfl,by omega,zH (HY.out.trans hxq)⟩,by simp [iof];omega⟩
             | true=>
              go_upto_region 33 with (fail)
              go_quiet (fail)
              have hxq:Ext wq (wq.drewN nq):=xt
              go_wp2_with (fail)
              exact ⟨⟨_,j+1,by rfl,by rfl,by omega,zH (HY.out.trans hxq)⟩,by simp [iof];omega⟩
            ·obtain rfl:j=i:=by omega
             go_wp2_with (fail)
             exact ⟨⟨_,j+1,by rfl,by rfl,by omega,HY⟩,by simp [iof];omega⟩
        ·obtain rfl:i=ts.length:=by omega
         obtain ⟨w4,rfl⟩:∃ x:World,x=wr:=⟨_,rfl⟩
         go_upto_region 35 with (fail)
         clear c1 c2 c3 c11 c13 lp
         go_loopw [3,13] (fun bv iv wr=>∃ (b:Bool) (i:Nat),bv=.bool b∧iv=iV i∧i≤kk.length∧Hid (Ext W wr)) (fun _ iv _=>kk.length - (iof iv).toNat)
         case atStart=>exact ⟨_,0,rfl,rfl,Nat.zero_le _,HX⟩
         case round=>
          rename World=>wr
          obtain ⟨b,i,rfl,rfl,hi,HX⟩:=hrel
          obtain ⟨c1,c2,c3,c11,c13,lp⟩:=HCS.out _ (HX.out)
          by_cases hil:i < kk.length
          ·as_aux_lemma=>
           obtain ⟨bb,rfl,hcs⟩:=HS5.out.at (HX0.out.trans HX.out) i hil
           have e0:=hcs 0 _ rfl
           obtain ⟨l,hl1,hl2,hl3⟩:=HP5.out kk[i] (List.getElem_mem hil)
           have HL1:=zH hl1;have HL3:=zH hl3
           clear hcs hl1 hl3
           generalize kk[i]=q at *
           obtain ⟨qa,qn,qc⟩:=q
           simp only [Nat.add_zero,Nat.mul_one] at e0
           obtain ⟨qa',qc',hqv,-,-,hcl⟩:=HL1.out
           injection hqv with hq1 hq2 hq3
           subst hq1 hq2 hq3
           have HCL:=zH hcl
           clear hcl
           have hbl:=zB wr _ e0
           change wr.cell? _=some (.slice qa l.length qc) at e0
           have hili:(i:Int) < (kk.length:Int):=by omega
           have hwi:=wz ((i:Int)+1) (by have:=HN.out;omega)
           have hl12:(l.length:Int)≤12:=by omega
           have HL2:=zH hl2
           clear hl2
           cases b with
           | false=>
            go_upto_region 40 with (fail)
            clear e0 hbl lp c1 c2 c3 c11 c13
            go_loopw [3,15] (fun bv iv wq=>∃ (b:Bool) (j:Nat),bv=.bool b∧iv=iV j∧j≤l.length∧Hid (Ext W wq)) (fun _ iv _=>l.length - (iof iv).toNat)
            case atStart=>exact ⟨_,0,rfl,rfl,Nat.zero_le _,HX⟩
            case round=>
             rename World=>wq
             obtain ⟨b,j,rfl,rfl,hj,HY⟩:=hrel
             by_cases hjl:j < l.length
             ·obtain ⟨b1,off,rfl,hcs⟩:=HCL.out.resolve_left (by intro e;rw [e] at hjl;simp at hjl)
              have HSM:=zH (fun wz=>small_yes l[j] 1 (HL3.out _ (List.getElem_mem hjl)) wz)
              have HC:=zH (fun (k:Nat) (hk:k < l.length) wz (hz:Ext W wz)=>((HX0.out.trans hz).cells.1 _ _ (zB w _ (hcs k hk))).trans (hcs k hk))
              clear hcs
              have d0:=HC.out j hjl wq HY.out
              have ld:=zB wq _ d0
              have hji:(j:Int) < (l.length:Int):=by omega
              have hwj:=wz ((j:Int)+1) (by have:=HL2.out;omega)
              have hwj2:=wz (j:Int) (by have:=HL2.out;omega)
              generalize l[j]=z at *
              cases b with
              | false=>
               go_upto_region 44 with (go_at_call 96;(refine (HSM.out _).mono ?_);rintro e w6 ⟨rfl,rfl⟩)
               go_loopw [3,16] (fun bv iv wu=>∃ (b:Bool) (k:Nat),bv=.bool b∧iv=iV k∧k≤j∧Hid (Ext wq wu)) (fun _ iv _=>j - (iof iv).toNat)
               case atStart=>exact ⟨_,0,rfl,rfl,Nat.zero_le _,zH (Ext.refl _)⟩
               case round=>
                rename World=>wu
                obtain ⟨b,k,rfl,rfl,hk,HZ⟩:=hrel
                have d9:=(HZ.out.cells.1 _ _ ld).trans d0
                clear d0
                by_cases hkl:k < j
                ·have k9:=HC.out k (by omega) wu (HY.out.trans HZ.out)
                 have lk:=zB wu _ k9
                 have hki:(k:Int) < (l.length:Int):=by omega
                 have hwk:=wz ((k:Int)+1) (by have:=HL2.out;omega)
                 generalize l[k]=zk at *
                 cases b with
                 | false=>
                  go_upto_region 46 with (fail)
                  go_quiet (fail)
                  have hxq:Ext wu (wu.drewN nq):=xt
                  go_wp2_with (fail)
                  exact ⟨⟨_,k+1,by rfl,by rfl,by omega,zH (HZ.out.trans hxq)⟩,by simp [iof];omega⟩
                 | true=>
                  go_upto_region 46 with (fail)
                  go_quiet (fail)
                  have hxq:Ext wu (wu.drewN nq):=xt
                  go_wp2_with (fail)
                  exact ⟨⟨_,k+1,by rfl,by rfl,by omega,zH (HZ.out.trans hxq)⟩,by simp [iof];omega⟩
                ·obtain rfl:k=j:=by omega
                 go_wp2_with (fail)
                 exact ⟨⟨_,k+1,by rfl,by rfl,by omega,zH (HY.out.trans HZ.out)⟩,by simp [iof];omega⟩
              | true=>
               go_upto_region 44 with (go_at_call 96;(refine (HSM.out _).mono ?_);rintro e w6 ⟨rfl,rfl⟩)
               go_loopw [3,16] (fun bv iv wu=>∃ (b:Bool) (k:Nat),bv=.bool b∧iv=iV k∧k≤j∧Hid (Ext wq wu)) (fun _ iv _=>j - (iof iv).toNat)
               case atStart=>exact ⟨_,0,rfl,rfl,Nat.zero_le _,zH (Ext.refl _)⟩
               case round=>
                rename World=>wu
                obtain ⟨b,k,rfl,rfl,hk,HZ⟩:=hrel
                have d9:=(HZ.out.cells.1 _ _ ld).trans d0
                clear d0
                by_cases hkl:k < j
                ·have k9:=HC.out k (by omega) wu (HY.out.trans HZ.out)
                 have lk:=zB wu _ k9
                 have hki:(k:Int) < (l.length:Int):=by omega
                 have hwk:=wz ((k:Int)+1) (by have:=HL2.out;omega)
                 generalize l[k]=zk at *
                 cases b with
                 | false=>
                  go_upto_region 46 with (fail)
                  go_quiet (fail)
                  have hxq:Ext wu (wu.drewN nq):=xt
                  go_wp2_with (fail)
                  exact ⟨⟨_,k+1,by rfl,by rfl,by omega,zH (HZ.out.trans hxq)⟩,by simp [iof];omega⟩
                 | true=>
                  go_upto_region 46 with (fail)
                  go_quiet (fail)
                  have hxq:Ext wu (wu.drewN nq):=xt
                  go_wp2_with (fail)
                  exact ⟨⟨_,k+1,by rfl,by rfl,by omega,zH (HZ.out.trans hxq)⟩,by simp [iof];omega⟩
                ·obtain rfl:k=j:=by omega
                 go_wp2_with (fail)
                 exact ⟨⟨_,k+1,by rfl,by rfl,by omega,zH (HY.out.trans HZ.out)⟩,by simp [iof];omega⟩
             ·obtain rfl:j=l.length:=by omega
              go_wp2_with (fail)
              exact ⟨⟨_,i+1,by rfl,by rfl,by omega,HY⟩,by simp [iof];omega⟩
           | true=>
            by_cases h2:(2:Int)≤(l.length:Int)
            ·skip
             go_upto_region 40 with (fail)
             clear e0 hbl lp c1 c2 c3 c11 c13
             go_loopw [3,15] (fun bv iv wq=>∃ (b:Bool) (j:Nat),bv=.bool b∧iv=iV j∧j≤l.length∧Hid (Ext W wq)) (fun _ iv _=>l.length - (iof iv).toNat)
             case atStart=>exact ⟨_,0,rfl,rfl,Nat.zero_le _,HX⟩
             case round=>
              rename World=>wq
              obtain ⟨b,j,rfl,rfl,hj,HY⟩:=hrel
              by_cases hjl:j < l.length
              ·obtain ⟨b1,off,rfl,hcs⟩:=HCL.out.resolve_left (by intro e;rw [e] at hjl;simp at hjl)
               have HSM:=zH (fun wz=>small_yes l[j] 1 (HL3.out _ (List.getElem_mem hjl)) wz)
               have HC:=zH (fun (k:Nat) (hk:k < l.length) wz (hz:Ext W wz)=>((HX0.out.trans hz).cells.1 _ _ (zB w _ (hcs k hk))).trans (hcs k hk))
               clear hcs
               have d0:=HC.out j hjl wq HY.out
               have ld:=zB wq _ d0
               have hji:(j:Int) < (l.length:Int):=by omega
               have hwj:=wz ((j:Int)+1) (by have:=HL2.out;omega)
               have hwj2:=wz (j:Int) (by have:=HL2.out;omega)
               generalize l[j]=z at *
               cases b with
               | false=>
                go_upto_region 44 with (go_at_call 96;(refine (HSM.out _).mono ?_);rintro e w6 ⟨rfl,rfl⟩)
                go_loopw [3,16] (fun bv iv wu=>∃ (b:Bool) (k:Nat),bv=.bool b∧iv=iV k∧k≤j∧Hid (Ext wq wu)) (fun _ iv _=>j - (iof iv).toNat)
                case atStart=>exact ⟨_,0,rfl,rfl,Nat.zero_le _,zH (Ext.refl _)⟩
                case round=>
                 rename World=>wu
                 obtain ⟨b,k,rfl,rfl,hk,HZ⟩:=hrel
                 have d9:=(HZ.out.cells.1 _ _ ld).trans d0
                 clear d0
                 by_cases hkl:k < j
                 ·have k9:=HC.out k (by omega) wu (HY.out.trans HZ.out)
                  have lk:=zB wu _ k9
                  have hki:(k:Int) < (l.length:Int):=by omega
                  have hwk:=wz ((k:Int)+1) (by have:=HL2.out;omega)
                  generalize l[k]=zk at *
                  cases b with
                  | false=>
                   go_upto_region 46 with (fail)
                   go_quiet (fail)
                   have hxq:Ext wu (wu.drewN nq):=xt
                   go_wp2_with (fail)
                   exact ⟨⟨_,k+1,by rfl,by rfl,by omega,zH (HZ.out.trans hxq)⟩,by simp [iof];omega⟩
                  | true=>
                   go_upto_region 46 with (fail)
                   go_quiet (fail)
                   have hxq:Ext wu (wu.drewN nq):=xt
                   go_wp2_with (fail)
                   exact ⟨⟨_,k+1,by rfl,by rfl,by omega,zH (HZ.out.trans hxq)⟩,by simp [iof];omega⟩
                 ·obtain rfl:k=j:=by omega
                  go_wp2_with (fail)
                  exact ⟨⟨_,k+1,by rfl,by rfl,by omega,zH (HY.out.trans HZ.out)⟩,by simp [iof];omega⟩
               | true=>
                go_upto_region 44 with (go_at_call 96;(refine (HSM.out _).mono ?_);rintro e w6 ⟨rfl,rfl⟩)
                go_loopw [3,16] (fun bv iv wu=>∃ (b:Bool) (k:Nat),bv=.bool b∧iv=iV k∧k≤j∧Hid (Ext wq wu)) (fun _ iv _=>j - (iof iv).toNat)
                case atStart=>exact ⟨_,0,rfl,rfl,Nat.zero_le _,zH (Ext.refl _)⟩
                case round=>
                 rename World=>wu
                 obtain ⟨b,k,rfl,rfl,hk,HZ⟩:=hrel
                 have d9:=(HZ.out.cells.1 _ _ ld).trans d0
                 clear d0
                 by_cases hkl:k < j
                 ·have k9:=HC.out k (by omega) wu (HY.out.trans HZ.out)
                  have lk:=zB wu _ k9
                  have hki:(k:Int) < (l.length:Int):=by omega
                  have hwk:=wz ((k:Int)+1) (by have:=HL2.out;omega)
                  generalize l[k]=zk at *
                  cases b with
                  | false=>
                   go_upto_region 46 with (fail)
                   go_quiet (fail)
                   have hxq:Ext wu (wu.drewN nq):=xt
                   go_wp2_with (fail)
                   exact ⟨⟨_,k+1,by rfl,by rfl,by omega,zH (HZ.out.trans hxq)⟩,by simp [iof];omega⟩
                  | true=>
                   go_upto_region 46 with (fail)
                   go_quiet (fail)
                   have hxq:Ext wu (wu.drewN nq):=xt
                   go_wp2_with (fail)
                   exact ⟨⟨_,k+1,by rfl,by rfl,by omega,zH (HZ.out.trans hxq)⟩,by simp [iof];omega⟩
                 ·obtain rfl:k=j:=by omega
                  go_wp2_with (fail)
                  exact ⟨⟨_,k+1,by rfl,by rfl,by omega,zH (HY.out.trans HZ.out)⟩,by simp [iof];omega⟩
              ·obtain rfl:j=l.length:=by omega
               go_wp2_with (fail)
               exact ⟨⟨_,i+1,by rfl,by rfl,by omega,HY⟩,by simp [iof];omega⟩
            ·skip
             go_upto_region 40 with (fail)
             clear e0 hbl lp c1 c2 c3 c11 c13
             go_loopw [3,15] (fun bv iv wq=>∃ (b:Bool) (j:Nat),bv=.bool b∧iv=iV j∧j≤l.length∧Hid (Ext W wq)) (fun _ iv _=>l.length - (iof iv).toNat)
             case atStart=>exact ⟨_,0,rfl,rfl,Nat.zero_le _,HX⟩
             case round=>
              rename World=>wq
              obtain ⟨b,j,rfl,rfl,hj,HY⟩:=hrel
              by_cases hjl:j < l.length
              ·obtain ⟨b1,off,rfl,hcs⟩:=HCL.out.resolve_left (by intro e;rw [e] at hjl;simp at hjl)
               have HSM:=zH (fun wz=>small_yes l[j] 1 (HL3.out _ (List.getElem_mem hjl)) wz)
               have HC:=zH (fun (k:Nat) (hk:k < l.length) wz (hz:Ext W wz)=>((HX0.out.trans hz).cells.1 _ _ (zB w _ (hcs k hk))).trans (hcs k hk))
               clear hcs
               have d0:=HC.out j hjl wq HY.out
               have ld:=zB wq _ d0
               have hji:(j:Int) < (l.length:Int):=by omega
               have hwj:=wz ((j:Int)+1) (by have:=HL2.out;omega)
               have hwj2:=wz (j:Int) (by have:=HL2.out;omega)
               generalize l[j]=z at *
               cases b with
               | false=>
                go_upto_region 44 with (go_at_call 96;(refine (HSM.out _).mono ?_);rintro e w6 ⟨rfl,rfl⟩)
                go_loopw [3,16] (fun bv iv wu=>∃ (b:Bool) (k:Nat),bv=.bool b∧iv=iV k∧k≤j∧Hid (Ext wq wu)) (fun _ iv _=>j - (iof iv).toNat)
                case atStart=>exact ⟨_,0,rfl,rfl,Nat.zero_le _,zH (Ext.refl _)⟩
                case round=>
                 rename World=>wu
                 obtain ⟨b,k,rfl,rfl,hk,HZ⟩:=hrel
                 have d9:=(HZ.out.cells.1 _ _ ld).trans d0
                 clear d0
                 by_cases hkl:k < j
                 ·have k9:=HC.out k (by omega) wu (HY.out.trans HZ.out)
                  have lk:=zB wu _ k9
                  have hki:(k:Int) < (l.length:Int):=by omega
                  have hwk:=wz ((k:Int)+1) (by have:=HL2.out;omega)
                  generalize l[k]=zk at *
                  cases b with
                  | false=>
                   go_upto_region 46 with (fail)
                   go_quiet (fail)
                   have hxq:Ext wu (wu.drewN nq):=xt
                   go_wp2_with (fail)
                   exact ⟨⟨_,k+1,by rfl,by rfl,by omega,zH (HZ.out.trans hxq)⟩,by simp [iof];omega⟩
                  | true=>
                   go_upto_region 46 with (fail)
                   go_quiet (fail)
                   have hxq:Ext wu (wu.drewN nq):=xt
                   go_wp2_with (fail)
                   exact ⟨⟨_,k+1,by rfl,by rfl,by omega,zH (HZ.out.trans hxq)⟩,by simp [iof];omega⟩
                 ·obtain rfl:k=j:=by omega
                  go_wp2_with (fail)
                  exact ⟨⟨_,k+1,by rfl,by rfl,by omega,zH (HY.out.trans HZ.out)⟩,by simp [iof];omega⟩
               | true=>
                go_upto_region 44 with (go_at_call 96;(refine (HSM.out _).mono ?_);rintro e w6 ⟨rfl,rfl⟩)
                go_loopw [3,16] (fun bv iv wu=>∃ (b:Bool) (k:Nat),bv=.bool b∧iv=iV k∧k≤j∧Hid (Ext wq wu)) (fun _ iv _=>j - (iof iv).toNat)
                case atStart=>exact ⟨_,0,rfl,rfl,Nat.zero_le _,zH (Ext.refl _)⟩
                case round=>
                 rename World=>wu
                 obtain ⟨b,k,rfl,rfl,hk,HZ⟩:=hrel
                 have d9:=(HZ.out.cells.1 _ _ ld).trans d0
                 clear d0
                 by_cases hkl:k < j
                 ·have k9:=HC.out k (by omega) wu (HY.out.trans HZ.out)
                  have lk:=zB wu _ k9
                  have hki:(k:Int) < (l.length:Int):=by omega
                  have hwk:=wz ((k:Int)+1) (by have:=HL2.out;omega)
                  generalize l[k]=zk at *
                  cases b with
                  | false=>
                   go_upto_region 46 with (fail)
                   go_quiet (fail)
                   have hxq:Ext wu (wu.drewN nq):=xt
                   go_wp2_with (fail)
                   exact ⟨⟨_,k+1,by rfl,by rfl,by omega,zH (HZ.out.trans hxq)⟩,by simp [iof];omega⟩
                  | true=>
                   go_upto_region 46 with (fail)
                   go_quiet (fail)
                   have hxq:Ext wu (wu.drewN nq):=xt
                   go_wp2_with (fail)
                   exact ⟨⟨_,k+1,by rfl,by rfl,by omega,zH (HZ.out.trans hxq)⟩,by simp [iof];omega⟩
                 ·obtain rfl:k=j:=by omega
                  go_wp2_with (fail)
                  exact ⟨⟨_,k+1,by rfl,by rfl,by omega,zH (HY.out.trans HZ.out)⟩,by simp [iof];omega⟩
              ·obtain rfl:j=l.length:=by omega
               go_wp2_with (fail)
               exact ⟨⟨_,i+1,by rfl,by rfl,by omega,HY⟩,by simp [iof];omega⟩
          ·obtain rfl:i=kk.length:=by omega
           go_wp2
           go_ret
           exact ⟨_,rfl,HX0.out.trans HX.out⟩
end Go.Proofs.YteomcpplajeidaaGreat
