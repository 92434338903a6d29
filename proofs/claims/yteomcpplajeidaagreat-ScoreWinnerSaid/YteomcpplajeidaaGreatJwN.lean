/-
  Lemmas of this claim (JwN). Nothing is asked.
-/
import Derived.Test.YteomcpplajeidaaGreatJwM
import Derived.Deep.Upon
import Derived.ArgAppend
import Derived.Test.YteomcpplajeidaaGreatJwG
set_option linter.unusedVariables false
set_option linter.unusedSimpArgs false
set_option maxRecDepth 100000
set_option maxHeartbeats 40000000
namespace Go.Proofs.YteomcpplajeidaaGreat
open Go.RowKit
theorem append_zs {ops:Array Oper} {rest:List Oper} {o:Oper} {a:Act} {Q:Exit→Act→World→Prop} {w:World} (hgd:o.guard=none) (s x:Operand)
 (ho:o.op=.call { callee:=.builtin .append,args:=#[s,x],argTypes:=#[22,22] }) (B:Nat) (v:Value) (vs:List Int) (hs:a.eval s=v) (hF:w.ownsRow B 3 1 v vs.length (vs.flatMap cellsZ))
 (A:Option Addr) (c:Nat) (us:List Int) (hx:a.eval x=.slice A us.length c) (hu:us=[]∨∃ b off,A=some ⟨b,off,none⟩∧∀ k (h:k < us.length),w.cell? ⟨b,off+k,none⟩=some (iV us[k]))
 (hn:vs.length+us.length≤1000000) (hB:B≤w.heap.size)
 (h:∀ v' w',w'.ownsRow B 3 1 v' (vs ++ us).length ((vs ++ us).flatMap cellsZ)→w.grownBy w' v.ownBlock→(us≠[]→∃ g cap,v' = .slice (some ⟨g,0,none⟩) (vs.length+us.length) cap)→(us=[]→v' = v∧w' = w)→wpList Tryz.prog ops Q rest (a.put o.dst v') w'):wpList Tryz.prog ops Q (o :: rest) a w:=by
 obtain ⟨i0,hi,hz0,hz1,hz2⟩:=info_parts (show (Tryz.prog.info? 3).map (fun i=>(i.zero,i.size,i.bytes))=some (some (iV 0),1,8) by kernel_rfl)
 refine wpList_plain hgd fun K hK=>?_
 by_cases h0:us=[]
 ·subst h0
  obtain ⟨base,cap,hv,hle⟩:∃ base cap,v=.slice base vs.length cap∧vs.length≤cap:=by
   rcases hF.2 with ⟨hn,h0⟩|⟨g,cap',cur,hv,hb,hg,h1,h2,h3,h4⟩
   ·exact ⟨none,0,by rw [hn,h0],by omega⟩
   ·exact ⟨_,cap',hv,h1⟩
  have hsrc:Src Tryz.prog i0.size 22 (.slice A 0 c) 0 [] w:=by
   rw [hz1]
   cases A with
   | none=>exact Src.ofNil w Tryz.underlying22 c
   | some a=>exact Src.ofSlice w Tryz.underlying22 a 0 c _ (by simp) (by simp) (by simp)
  have hr:=run_append_nothing (P:=Tryz.prog) w 22 22 o.type 3 i0 Tryz.underlying22 hi base vs.length cap hle (.slice A 0 c) hsrc
  rw [← hv] at hr
  unfold Oper.wp execOp
  simp only [List.length_nil] at hx
  simp only [ho,resolve,invoke,builtin,Sem.run_bind,Sem.run_pure,Result.andThen_ok,List.map_toArray,List.map_cons,List.map_nil,hs,hx,hr]
  exact hK _ _ (h v w (by simpa using hF) ⟨rfl,rfl,rfl,Nat.le_refl _,fun _ _ _=>rfl⟩ (fun h=>absurd rfl h) (fun _=>⟨rfl,rfl⟩))
 ·obtain ⟨b,off,rfl,hcell⟩:=hu.resolve_left h0
  have hpos:0 < us.length:=List.length_pos_iff.2 h0
  obtain ⟨g,cap',w',hr,h2,h3,h4,h5⟩:=run_append_lies (P:=Tryz.prog) w 22 o.type B 3 i0 _ 1 8 Tryz.underlying22 hi hz0 hz1 hz2 rfl (by decide) v vs.length _ hF ⟨b,off,none⟩ us.length c (us.map (Value.int .i64)) (by simp)
   (by
     intro j u hu
     have hj:j < us.length:=by have:=(List.getElem?_eq_some_iff.1 hu).1;simpa using this
     rw [List.getElem?_eq_getElem (by simpa using hj)] at hu
     simp only [List.getElem_map,Option.some.injEq] at hu
     subst hu
     rw [Go.WideShapes.add_plain]
     exact hcell j hj) (by intro u hu;obtain ⟨z,-,rfl⟩:=List.mem_map.1 hu;rfl) hpos (by unfold maxLen;omega) (by omega) hB w.heap.size rfl
  unfold Oper.wp execOp
  simp only [ho,resolve,invoke,builtin,Sem.run_bind,Sem.run_pure,Result.andThen_ok,List.map_toArray,List.map_cons,List.map_nil,hs,hx,hr] at *
  refine hK _ _ (h _ w' ?_ h3 (fun _=>⟨g,cap',rfl⟩) (fun e=>absurd e h0))
  rw [List.flatMap_append,List.length_append,flatZ us]
  exact h2
theorem grown_ext {w0 w w':World} {v:Value} {B E sz n:Nat} {xs:List Value} (h:Ext w0 w) (hr:w.ownsRow B E sz v n xs) (hB:w0.heap.size≤B) (hg:w.grownBy w' v.ownBlock):Ext w0 w':=
 Below.trans h ⟨hg.os,hg.tape,hg.output,hg.size,fun k hk=>hg.block k (by have:=h.size;omega) (fun e=>by have:=(hr.lt k e.symm).1;omega)⟩
theorem DR.other {w:World} {g o n c:Nat} {l:List Int} (h:DR w (.slice (some ⟨g,o,none⟩) n c) l) {p i:Nat} (hp:g≠p) (u:Value):DR (w.setCell ⟨p,i,none⟩ u) (.slice (some ⟨g,o,none⟩) n c) l:=by
 obtain ⟨A,cap,h1,h2,h3,h4,h5⟩:=h
 refine ⟨A,cap,h1,h2,h3,h4,h5.imp id fun ⟨b,off,ha,hc⟩=>⟨b,off,ha,fun k hk=>?_⟩⟩
 injection h1 with e1 e2 e3
 rw [← e1] at ha
 injection ha with ha
 injection ha with ha _ _
 subst ha
 rw [← hc k hk]
 exact World.cell?_of_block (heap_setCell_other w _ g _ hp)
theorem DR.src {w:World} {A:Option Addr} {n c:Nat} {l:List Int} (h:DR w (.slice A n c) l):l=[]∨∃ b off,A=some ⟨b,off,none⟩∧∀ k (h:k < l.length),w.cell? ⟨b,off+k,none⟩=some (iV l[k]):=by
 obtain ⟨A',cap,h1,h2,h3,h4,h5⟩:=h
 injection h1 with e1 e2 e3
 subst e1
 exact h5
theorem drop_set_self (l:List Int) (i:Nat) (d:Int) (h:i < l.length):(l.set i d).drop i=d :: l.drop (i+1):=by
 rw [List.drop_eq_getElem_cons (by rw [List.length_set];exact h),List.getElem_set_self,List.drop_set_of_lt (by omega)]
theorem ov_form {w wA:World} {v1:Value} {x:Int} {rs:List Int} {B:Nat} (hr:wA.ownsRow B 3 1 v1 ([x] ++ rs).length (([x] ++ rs).flatMap cellsZ)) (hs:rs≠[]→∃ g cap,v1=.slice (some ⟨g,0,none⟩) ([x].length+rs.length) cap) (hn:rs=[]→v1=.slice (some ⟨w.heap.size,0,none⟩) 1 1∧wA=w.alloc (.cells #[iV x] 3)):∃ g cap,v1=.slice (some ⟨g,0,none⟩) (x :: rs).length cap∧B≤g:=by
 by_cases h0:rs=[]
 ·obtain ⟨h1,-⟩:=hn h0
  subst h1
  exact ⟨w.heap.size,1,by rw [h0];rfl,(hr.lt _ rfl).1⟩
 ·obtain ⟨g,cap,h1⟩:=hs h0
  subst h1
  exact ⟨g,cap,by simp [Nat.add_comm],(hr.lt _ rfl).1⟩
def OvI (l m:List Int) (w:World) (p:Nat) (rv kv:Value) (wr:World):Prop:=
 ∃ (j:Nat) (qs rs:List Int),kv=iV ((j:Int) - 1)∧j≤l.length∧BZ wr p qs∧qs.length=l.length∧Dg qs∧DR wr rv rs∧Tr rs∧dv rs < dv m∧rs.length≤m.length∧dv (l.drop j)=dv (qs.drop j) * dv m+dv rs∧Ext w wr
theorem bover_any (l m:List Int) (w:World) (v u:Value) (h:DR w v l) (h':DR w u m) (hl:l.length≤50) (hm:m.length≤50) (htm:Tr m) (hm0:0 < dv m) :
 Calls Tryz.prog 155 #[v,u] w fun e w'=>∃ x y q r,e=.returned (.tuple #[x,y])∧Ext w w'∧DR w' x q∧DR w' y r∧Tr q∧Tr r∧dv q=dv l / dv m∧dv r=dv l % dv m∧q.length≤l.length∧r.length≤m.length:=by
 obtain ⟨A,ca,rfl⟩:=h.form
 obtain ⟨B,cb,rfl⟩:=h'.form
 have HA:=zH h
 have HB:=zH h'
 have HM0:=zH hm0;have HTM:=zH htm
 clear h h' htm hm0
 go_in
 have hmk:=make_z w l.length (l.length:Int) rfl (by omega)
 go_upto_region 4 with (fail)
 have hZ:BZ (w.alloc (.cells (Array.replicate l.length (Value.int .i64 0)) 3)) w.heap.size (List.replicate l.length 0):=by
  unfold BZ;rw [rep_z];exact block_new rfl
 have hx1:Ext w (w.alloc (.cells (Array.replicate l.length (Value.int .i64 0)) 3)):=xt
 generalize w.alloc (.cells (Array.replicate l.length (Value.int .i64 0)) 3)=W1 at *
 obtain ⟨p,hp⟩:∃ p,p=w.heap.size:=⟨_,rfl⟩
 rw [← hp] at hZ ⊢
 have HPE:=zH hp
 have HZ:=zH hZ;have HX1:=zH hx1
 clear hp hZ hmk hx1
 go_loopw [7,8] (fun r k wr=>OvI l m w p r k wr) (fun _ k _=>(intOf k+1).toNat)
 case atStart=>
  unfold OvI
  exact ⟨l.length,List.replicate l.length 0,[],by go_num,Nat.le_refl _,HZ.out,by simp,fun d hd=>by rw [List.eq_of_mem_replicate hd];omega,DR.nil _,.inl rfl,by simpa [dv] using HM0.out,by simp,by simp [dv],HX1.out⟩
 case round=>
  unfold OvI at hrel
  obtain ⟨j,qs,rs,rfl,hj,hZ,hql,hqd,hr,htr,hrm,hrl,hE,hx⟩:=hrel
  have HZ1:=zH hZ;have HQD:=zH hqd;have HR:=zH hr;have HTR:=zH htr;have HRM:=zH hrm;have HE:=zH hE;have HQL:=zH hql
  clear hZ hqd hr htr hrm hE hql
  rcases j with _|i
  ·have hE:=HE.out
   simp only [List.drop_zero] at hE
   obtain ⟨h1,h2⟩:=ov_final hE (dv_nonneg HR.out.dg) HRM.out
   obtain ⟨t1,t2,t3,t4⟩:=trimL_spec qs HQD.out
   have HF:=zH (show dv (trimL qs)=dv l / dv m∧dv rs=dv l % dv m∧Tr (trimL qs)∧(trimL qs).length≤l.length from ⟨t3.trans h1,h2,t2,by rw [← HQL.out];exact t4⟩)
   have HT:=zH (trim_any qs wr (.slice (some ⟨p,0,none⟩) qs.length qs.length) (HZ1.out.dr (by rw [HQL.out];omega) HQD.out))
   rw [HQL.out] at HT
   have HX:=zH hx
   clear hE h1 h2 t1 t2 t3 t4 HQL hx
   go_wp2_with (go_at_call 85;(refine HT.out.mono ?_);rintro e w8 ⟨x8,rfl,hx8,hd8⟩)
   go_ret2
   exact ⟨x8,_,_,rs,rfl,HX.out.trans hx8,hd8,HR.out.ext hx8,HF.out.2.2.1,HTR.out,HF.out.1,HF.out.2.1,HF.out.2.2.2,hrl⟩
  ·have hil:i < l.length:=by omega
   have k1:(((i+1:Nat):Int) - 1)=(i:Int):=by omega
   rw [k1]
   obtain ⟨b,off,rfl,-,hcs⟩:=HA.out.block i hil
   have hcl:=hcs i hil
   have hb:=zB w _ hcl
   replace hcl:=(hx.cells.1 _ _ hb).trans hcl
   have hbl:=Nat.lt_of_lt_of_le hb hx.size
   have hxd:=HA.out.dg.at i hil
   have HDD:=zH (dv_drop l i hil)
   clear hcs hb
   generalize l[i]=x at *
   obtain ⟨ra,rc,rfl⟩:=HR.out.form
   have HX:=zH hx
   have HSRC:=zH (DR.src (show DR (wr.alloc (.cells #[iV x] 3)) (.slice ra rs.length rc) rs from HR.out.ext xt))
   have HOWN:Hid ((wr.alloc (.cells #[iV x] 3)).ownsRow wr.heap.size 3 1 (.slice (some ⟨wr.heap.size,0,none⟩) 1 1) 1 [iV x]):=zH ⟨rfl,.inr ⟨wr.heap.size,1,#[iV x],rfl,Nat.le_refl _,heap_alloc_new wr _,by simp,by simp [maxLen],rfl,rfl⟩⟩
   have HXC:=zH (Ext.alloc (Ext.refl wr) (.cells #[iV x] 3))
   have HXD:=zH hxd
   have hi0:(0:Int)≤(i:Int):=by omega
   have hiz:(i:Int) < (l.length:Int):=by omega
   go_upto_region 7 with (first
    |(at_builtin;go_loud (refine append_zs rfl _ _ rfl wr.heap.size (.slice (some ⟨wr.heap.size,0,none⟩) 1 1) [x] (by rfl) HOWN.out ra rc rs (by rfl) HSRC.out (by simp only [List.length_cons,List.length_nil];omega) HXC.out.size ?_;intro v1 wA hrA hgA hsA hnA;have HXA:=zH (grown_ext HXC.out HOWN.out (Nat.le_refl _) hgA);have hdA:DR wA v1 (x :: rs):=OZ.dr (os:=x :: rs) hrA (by simp only [List.length_cons];omega) (Dg.cons HXD.out HR.out.dg);have HFA:Hid (∃ g cap,v1=.slice (some ⟨g,0,none⟩) (x :: rs).length cap∧wr.heap.size≤g):=zH (ov_form hrA hsA hnA);have HDA:=zH hdA;clear hrA hgA hsA hnA hdA))
    |(go_at_call 85;(with_reducible refine (trim_w (x :: rs) wA v1 HDA.out).mono ?_);rintro e w8 ⟨x8,rfl,rfl,hd8,hf8⟩))
   obtain ⟨g,cap,hv1,hgw⟩:=HFA.out
   obtain ⟨m1,rfl⟩:=hf8 _ _ hv1
   subst hv1
   obtain ⟨t1,t2,t3,t4⟩:=trimL_spec (x :: rs) (Dg.cons HXD.out HR.out.dg)
   have HD8:=zH hd8
   have HT2:=zH t2
   have HR8:=zH (show dv (trimL (x :: rs))=x+65536 * dv rs from t3)
   have h8l:(trimL (x :: rs)).length≤80:=by simp only [List.length_cons] at t4;omega
   have HGP:Hid (g≠p∧p < wr.heap.size):=zH (by have:=HZ1.out.lt;omega)
   have HZ8:=zH (HZ1.out.ext HXA.out)
   have HX8:=zH (HX.out.trans HXA.out)
   clear hd8 hf8 t1 t2 t3 t4 HDA HFA HSRC HOWN HXC hcl hbl hx hgw
   generalize trimL (x :: rs)=r8 at *
   have HCM:=zH (bcmp_any r8 m w8 _ _ HD8.out (HB.out.ext HX8.out) HT2.out HTM.out)
   obtain ⟨z,hz⟩:∃ z,z=cmpL r8 m:=⟨_,rfl⟩
   rw [← hz] at HCM
   have HZC:Hid (z < 0↔dv r8 < dv m):=zH (by
    rw [hz]
    unfold cmpL
    split
    ·simp;assumption
    ·split <;> simp <;> omega)
   clear hz
   by_cases hz0:z < 0
   ·have HHI:Hid (dv r8 < 1 * dv m):=zH (by rw [Int.one_mul];exact HZC.out.1 hz0)
    go_upto_region 11 with (go_at_call 131;(refine HCM.out.mono ?_);rintro e w9 ⟨rfl,hx9⟩)
    have HX9:=zH (HX8.out.trans hx9);have HD9:=zH (HD8.out.ext hx9);have HX89:=zH hx9
    clear hx9 HCM HZC hz0
    go_loopw [9,10] (fun a b wq=>∃ lo hi:Int,a=iV lo∧b=iV hi∧0≤lo∧lo < hi∧hi≤65536∧Hid (lo * dv m≤dv r8∧dv r8 < hi * dv m)∧Ext w9 wq) (fun a b _=>(intOf b - intOf a).toNat)
    case atStart=>exact ⟨0,1,rfl,rfl,by omega,by omega,by omega,zH ⟨by rw [Int.zero_mul];exact dv_nonneg HD8.out.dg,HHI.out⟩,Ext.refl _⟩
    case round=>
     rename World=>wq
     obtain ⟨lo,hi,rfl,rfl,hlo,hlh,hhi,HS,hxq⟩:=hrel
     have kw:=wz (hi - lo) (by omega)
     by_cases hgap:1 < hi - lo
     ·have kw2:IntKind.i64.wrap (lo+hi)=lo+hi:=by rw [IntKind.wrap_i64];omega
      have kt:(lo+hi).tdiv 2=(lo+hi) / 2:=Int.tdiv_eq_ediv_of_nonneg (by omega)
      obtain ⟨mm,hmm⟩:∃ mm,mm=(lo+hi) / 2:=⟨_,rfl⟩
      have hm1:lo < mm∧mm < hi:=by omega
      rw [← hmm] at kt
      have hmm':(lo+hi) / 2=mm:=hmm.symm
      obtain ⟨hm1,hm2⟩:=hm1
      have hmd:0≤mm∧mm < 65536:=by omega
      have HBY:=zH (by_any m mm wq _ (HB.out.ext (HX9.out.trans hxq)) (by omega) hmd)
      obtain ⟨y1,y2,y3,y4⟩:=timesL_spec m [mm] HB.out.dg (Dg.cons hmd Dg.nil)
      have HTY:=zH y2
      have HYV:Hid (dv (timesL m [mm])=mm * dv m):=zH (by rw [y3,Int.mul_comm];simp [dv])
      have HCQ:=zH (fun wB vB (hB:DR wB vB (timesL m [mm])) (hxB:Ext wq wB)=>bcmp_any (timesL m [mm]) r8 wB _ _ hB (HD9.out.ext (hxq.trans hxB)) y2 HT2.out)
      obtain ⟨z2,hz2⟩:∃ z2,z2=cmpL (timesL m [mm]) r8:=⟨_,rfl⟩
      rw [← hz2] at HCQ
      have HZ2:Hid (z2≤0↔mm * dv m≤dv r8):=zH (by
       rw [hz2,← HYV.out]
       unfold cmpL
       split
       ·simp;omega
       ·split <;> simp <;> omega)
      have HXQ:=zH hxq
      clear hz2 y1 y2 y3 y4 hxq HYV hmm
      generalize timesL m [mm]=ts at *
      by_cases hz0:z2≤0
      ·have HS2:=zH (HZ2.out.1 hz0)
       go_wp2_with (first
        |(go_at_call 192;(with_reducible refine HBY.out.mono ?_);rintro e wB ⟨vB,rfl,hxB,hdB⟩;have HDB:=zH hdB;have HXB:=zH hxB;clear hdB hxB)
        |(go_at_call 131;(with_reducible refine (HCQ.out wB vB HDB.out HXB.out).mono ?_);rintro e wC ⟨rfl,hxC⟩))
       exact ⟨⟨mm,hi,rfl,rfl,by omega,by omega,by omega,zH ⟨HS2.out,HS.out.2⟩,HXQ.out.trans (HXB.out.trans hxC)⟩,by simp [intOf];omega⟩
      ·have HS2:=zH (show ¬ mm * dv m≤dv r8 from fun h=>hz0 (HZ2.out.2 h))
       go_wp2_with (first
        |(go_at_call 192;(with_reducible refine HBY.out.mono ?_);rintro e wB ⟨vB,rfl,hxB,hdB⟩;have HDB:=zH hdB;have HXB:=zH hxB;clear hdB hxB)
        |(go_at_call 131;(with_reducible refine (HCQ.out wB vB HDB.out HXB.out).mono ?_);rintro e wC ⟨rfl,hxC⟩))
       exact ⟨⟨lo,mm,rfl,rfl,by omega,by omega,by omega,zH ⟨HS.out.1,by have:=HS2.out;omega⟩,HXQ.out.trans (HXB.out.trans hxC)⟩,by simp [intOf];omega⟩
     ·have hld:0≤lo∧lo < 65536:=by omega
      have HEND:=zH (ov_end (by omega) hlh HS.out.1 HS.out.2)
      have hiq:i < qs.length:=by rw [HQL.out];exact hil
      have HZq:=zH (HZ8.out.ext (HX89.out.trans hxq))
      have cz:=HZq.out.cell i hiq
      have cl:=HZq.out.lt
      have cf:=HZq.out.free i
      have HXQ:=zH (HX9.out.trans hxq)
      have HDQ:=zH (HD9.out.ext hxq)
      obtain ⟨o0,ho0⟩:∃ o0,o0=qs[i]:=⟨_,rfl⟩
      rw [← ho0] at cz
      clear ho0 HS hxq
      go_upto_region 17 with (fail)
      have HZs:=zH (HZq.out.set' i lo)
      have HDs:=zH (DR.other HDQ.out HGP.out.1 (i:=i) (iV lo))
      have HXs:Hid (Ext w (wq.setCell ⟨p,i,none⟩ (iV lo))):=zH (Below.setCell HXQ.out (by have:=HPE.out;show _≤p;omega) _)
      clear cz cl cf HZq HDQ HXQ
      generalize wq.setCell ⟨p,i,none⟩ (iV lo)=W8 at *
      have HBY:=zH (by_any m lo W8 _ (HB.out.ext HXs.out) (by omega) hld)
      obtain ⟨y1,y2,y3,y4⟩:=timesL_spec m [lo] HB.out.dg (Dg.cons hld Dg.nil)
      have HYV:Hid (dv (timesL m [lo])=lo * dv m):=zH (by rw [y3,Int.mul_comm];simp [dv])
      have HMI:=zH (fun wB vB (hB:DR wB vB (timesL m [lo])) (hxB:Ext W8 wB)=>minus_any r8 (timesL m [lo]) wB _ _ (HDs.out.ext hxB) hB (by omega) (by simp only [List.length_cons,List.length_nil] at y4;omega) (by rw [HYV.out];have:=HEND.out.1;omega))
      obtain ⟨n1,n2,n3⟩:=minusL_spec 0 r8 (timesL m [lo]) (by omega) (by omega) HDs.out.dg y1 (by rw [HYV.out];have:=HEND.out.1;omega)
      obtain ⟨t1,t2,t3,t4⟩:=trimL_spec _ n1
      have HRN:Hid (Tr (trimL (minusL 0 r8 (timesL m [lo])))∧dv (trimL (minusL 0 r8 (timesL m [lo])))=dv r8 - lo * dv m):=zH ⟨t2,by rw [t3,n2,HYV.out];omega⟩
      have HLN:Hid ((trimL (minusL 0 r8 (timesL m [lo]))).length≤m.length):=zH (t2.len_le t1 _ (by have h1:=HRN.out.2;have h2:=HEND.out.2;have h3:=dv_lt HB.out.dg;omega))
      clear y1 y2 y3 y4 n1 n2 n3 t1 t2 t3 t4 HYV
      generalize timesL m [lo]=ts at *
      go_wp2_with (first
       |(go_at_call 192;(with_reducible refine HBY.out.mono ?_);rintro e wB ⟨vB,rfl,hxB,hdB⟩;have HDB:=zH hdB;have HXB:=zH hxB;clear hdB hxB)
       |(go_at_call 132;(with_reducible refine (HMI.out wB vB HDB.out HXB.out).mono ?_);rintro e wC ⟨vC,rfl,hxC,hdC⟩))
      refine ⟨?_,by simp only [intOf];omega⟩
      unfold OvI
      refine ⟨i,qs.set i lo,_,rfl,by omega,HZs.out.ext (HXB.out.trans hxC),by rw [List.length_set];exact HQL.out,fun d hd=>?_,hdC,HRN.out.1,?_,HLN.out,?_,HXs.out.trans (HXB.out.trans hxC)⟩
      ·rcases List.mem_or_eq_of_mem_set hd with hd|rfl
       ·exact HQD.out d hd
       ·exact hld
      ·rw [HRN.out.2];exact HEND.out.2
      ·rw [HRN.out.2,HDD.out,HR8.out,drop_set_self qs i lo hiq,dv_cons]
       exact ov_step HE.out
   ·have HHI:Hid (dv r8 < 65536 * dv m):=zH (by rw [HR8.out];exact ov_bound HXD.out.2 HRM.out)
    go_upto_region 11 with (go_at_call 131;(refine HCM.out.mono ?_);rintro e w9 ⟨rfl,hx9⟩)
    have HX9:=zH (HX8.out.trans hx9);have HD9:=zH (HD8.out.ext hx9);have HX89:=zH hx9
    clear hx9 HCM HZC hz0
    go_loopw [9,10] (fun a b wq=>∃ lo hi:Int,a=iV lo∧b=iV hi∧0≤lo∧lo < hi∧hi≤65536∧Hid (lo * dv m≤dv r8∧dv r8 < hi * dv m)∧Ext w9 wq) (fun a b _=>(intOf b - intOf a).toNat)
    case atStart=>exact ⟨0,65536,rfl,rfl,by omega,by omega,by omega,zH ⟨by rw [Int.zero_mul];exact dv_nonneg HD8.out.dg,HHI.out⟩,Ext.refl _⟩
    case round=>
     rename World=>wq
     obtain ⟨lo,hi,rfl,rfl,hlo,hlh,hhi,HS,hxq⟩:=hrel
     have kw:=wz (hi - lo) (by omega)
     by_cases hgap:1 < hi - lo
     ·have kw2:IntKind.i64.wrap (lo+hi)=lo+hi:=by rw [IntKind.wrap_i64];omega
      have kt:(lo+hi).tdiv 2=(lo+hi) / 2:=Int.tdiv_eq_ediv_of_nonneg (by omega)
      obtain ⟨mm,hmm⟩:∃ mm,mm=(lo+hi) / 2:=⟨_,rfl⟩
      have hm1:lo < mm∧mm < hi:=by omega
      rw [← hmm] at kt
      have hmm':(lo+hi) / 2=mm:=hmm.symm
      obtain ⟨hm1,hm2⟩:=hm1
      have hmd:0≤mm∧mm < 65536:=by omega
      have HBY:=zH (by_any m mm wq _ (HB.out.ext (HX9.out.trans hxq)) (by omega) hmd)
      obtain ⟨y1,y2,y3,y4⟩:=timesL_spec m [mm] HB.out.dg (Dg.cons hmd Dg.nil)
      have HTY:=zH y2
      have HYV:Hid (dv (timesL m [mm])=mm * dv m):=zH (by rw [y3,Int.mul_comm];simp [dv])
      have HCQ:=zH (fun wB vB (hB:DR wB vB (timesL m [mm])) (hxB:Ext wq wB)=>bcmp_any (timesL m [mm]) r8 wB _ _ hB (HD9.out.ext (hxq.trans hxB)) y2 HT2.out)
      obtain ⟨z2,hz2⟩:∃ z2,z2=cmpL (timesL m [mm]) r8:=⟨_,rfl⟩
      rw [← hz2] at HCQ
      have HZ2:Hid (z2≤0↔mm * dv m≤dv r8):=zH (by
       rw [hz2,← HYV.out]
       unfold cmpL
       split
       ·simp;omega
       ·split <;> simp <;> omega)
      have HXQ:=zH hxq
      clear hz2 y1 y2 y3 y4 hxq HYV hmm
      generalize timesL m [mm]=ts at *
      by_cases hz0:z2≤0
      ·have HS2:=zH (HZ2.out.1 hz0)
       go_wp2_with (first
        |(go_at_call 192;(with_reducible refine HBY.out.mono ?_);rintro e wB ⟨vB,rfl,hxB,hdB⟩;have HDB:=zH hdB;have HXB:=zH hxB;clear hdB hxB)
        |(go_at_call 131;(with_reducible refine (HCQ.out wB vB HDB.out HXB.out).mono ?_);rintro e wC ⟨rfl,hxC⟩))
       exact ⟨⟨mm,hi,rfl,rfl,by omega,by omega,by omega,zH ⟨HS2.out,HS.out.2⟩,HXQ.out.trans (HXB.out.trans hxC)⟩,by simp [intOf];omega⟩
      ·have HS2:=zH (show ¬ mm * dv m≤dv r8 from fun h=>hz0 (HZ2.out.2 h))
       go_wp2_with (first
        |(go_at_call 192;(with_reducible refine HBY.out.mono ?_);rintro e wB ⟨vB,rfl,hxB,hdB⟩;have HDB:=zH hdB;have HXB:=zH hxB;clear hdB hxB)
        |(go_at_call 131;(with_reducible refine (HCQ.out wB vB HDB.out HXB.out).mono ?_);rintro e wC ⟨rfl,hxC⟩))
       exact ⟨⟨lo,mm,rfl,rfl,by omega,by omega,by omega,zH ⟨HS.out.1,by have:=HS2.out;omega⟩,HXQ.out.trans (HXB.out.trans hxC)⟩,by simp [intOf];omega⟩
     ·have hld:0≤lo∧lo < 65536:=by omega
      have HEND:=zH (ov_end (by omega) hlh HS.out.1 HS.out.2)
      have hiq:i < qs.length:=by rw [HQL.out];exact hil
      have HZq:=zH (HZ8.out.ext (HX89.out.trans hxq))
      have cz:=HZq.out.cell i hiq
      have cl:=HZq.out.lt
      have cf:=HZq.out.free i
      have HXQ:=zH (HX9.out.trans hxq)
      have HDQ:=zH (HD9.out.ext hxq)
      obtain ⟨o0,ho0⟩:∃ o0,o0=qs[i]:=⟨_,rfl⟩
      rw [← ho0] at cz
      clear ho0 HS hxq
      go_upto_region 17 with (fail)
      have HZs:=zH (HZq.out.set' i lo)
      have HDs:=zH (DR.other HDQ.out HGP.out.1 (i:=i) (iV lo))
      have HXs:Hid (Ext w (wq.setCell ⟨p,i,none⟩ (iV lo))):=zH (Below.setCell HXQ.out (by have:=HPE.out;show _≤p;omega) _)
      clear cz cl cf HZq HDQ HXQ
      generalize wq.setCell ⟨p,i,none⟩ (iV lo)=W8 at *
      have HBY:=zH (by_any m lo W8 _ (HB.out.ext HXs.out) (by omega) hld)
      obtain ⟨y1,y2,y3,y4⟩:=timesL_spec m [lo] HB.out.dg (Dg.cons hld Dg.nil)
      have HYV:Hid (dv (timesL m [lo])=lo * dv m):=zH (by rw [y3,Int.mul_comm];simp [dv])
      have HMI:=zH (fun wB vB (hB:DR wB vB (timesL m [lo])) (hxB:Ext W8 wB)=>minus_any r8 (timesL m [lo]) wB _ _ (HDs.out.ext hxB) hB (by omega) (by simp only [List.length_cons,List.length_nil] at y4;omega) (by rw [HYV.out];have:=HEND.out.1;omega))
      obtain ⟨n1,n2,n3⟩:=minusL_spec 0 r8 (timesL m [lo]) (by omega) (by omega) HDs.out.dg y1 (by rw [HYV.out];have:=HEND.out.1;omega)
      obtain ⟨t1,t2,t3,t4⟩:=trimL_spec _ n1
      have HRN:Hid (Tr (trimL (minusL 0 r8 (timesL m [lo])))∧dv (trimL (minusL 0 r8 (timesL m [lo])))=dv r8 - lo * dv m):=zH ⟨t2,by rw [t3,n2,HYV.out];omega⟩
      have HLN:Hid ((trimL (minusL 0 r8 (timesL m [lo]))).length≤m.length):=zH (t2.len_le t1 _ (by have h1:=HRN.out.2;have h2:=HEND.out.2;have h3:=dv_lt HB.out.dg;omega))
      clear y1 y2 y3 y4 n1 n2 n3 t1 t2 t3 t4 HYV
      generalize timesL m [lo]=ts at *
      go_wp2_with (first
       |(go_at_call 192;(with_reducible refine HBY.out.mono ?_);rintro e wB ⟨vB,rfl,hxB,hdB⟩;have HDB:=zH hdB;have HXB:=zH hxB;clear hdB hxB)
       |(go_at_call 132;(with_reducible refine (HMI.out wB vB HDB.out HXB.out).mono ?_);rintro e wC ⟨vC,rfl,hxC,hdC⟩))
      refine ⟨?_,by simp only [intOf];omega⟩
      unfold OvI
      refine ⟨i,qs.set i lo,_,rfl,by omega,HZs.out.ext (HXB.out.trans hxC),by rw [List.length_set];exact HQL.out,fun d hd=>?_,hdC,HRN.out.1,?_,HLN.out,?_,HXs.out.trans (HXB.out.trans hxC)⟩
      ·rcases List.mem_or_eq_of_mem_set hd with hd|rfl
       ·exact HQD.out d hd
       ·exact hld
      ·rw [HRN.out.2];exact HEND.out.2
      ·rw [HRN.out.2,HDD.out,HR8.out,drop_set_self qs i lo hiq,dv_cons]
       exact ov_step HE.out
end Go.Proofs.YteomcpplajeidaaGreat
namespace Go.Proofs.YteomcpplajeidaaGreat
theorem gcd_comm1 {a b:Int} (h:Int.gcd a b=1):Int.gcd b a=1:=(Int.gcd_comm b a).trans h
theorem dvd_of_cop {a b c:Int} (h:a ∣ b * c) (hc:Int.gcd a b=1):a ∣ c:=by
 rw [← Int.natAbs_dvd_natAbs,Int.natAbs_mul] at h
 rw [← Int.natAbs_dvd_natAbs]
 rw [Int.gcd_eq_natAbs_gcd_natAbs] at hc
 exact Nat.Coprime.dvd_of_dvd_mul_left hc h
theorem gcd_emod' (a b:Int):Int.gcd a (b % a)=Int.gcd a b:=by
 have:b % a=b+(-(b / a)) * a:=by have:=Int.emod_add_mul_ediv b a;rw [Int.neg_mul,Int.mul_comm (b / a) a];omega
 rw [this,Int.gcd_add_mul_right_right]
theorem norm_unique {p q N D:Int} (hq:0 < q) (hD:0 < D) (hc:Int.gcd p q=1) (h:p * D=N * q):N / (Int.gcd N D:Int)=p∧D / (Int.gcd N D:Int)=q:=by
 have hd:q ∣ p * D:=⟨N,by rw [h,Int.mul_comm]⟩
 obtain ⟨k,rfl⟩:=dvd_of_cop hd (gcd_comm1 hc)
 have hk:0 < k:=by
  rcases Int.lt_trichotomy k 0 with h1|h1|h1
  ·have:=Int.mul_neg_of_pos_of_neg hq h1;omega
  ·subst h1;simp at hD
  ·exact h1
 have hN:N=p * k:=by
  have:q * (p * k)=q * N:=by rw [← Int.mul_assoc,Int.mul_comm q p,Int.mul_assoc,h,Int.mul_comm]
  exact (Int.eq_of_mul_eq_mul_left (by omega) this).symm
 subst hN
 have hg:(Int.gcd (p * k) (q * k):Int)=k:=by
  rw [Int.gcd_mul_right,hc,Nat.one_mul]
  omega
 rw [hg]
 exact ⟨Int.mul_ediv_cancel _ (by omega),Int.mul_ediv_cancel _ (by omega)⟩
def normS (N D:Int):(Int×Int)×Bool:=
 let g:Int:=Int.gcd N D
 if N / g < -9223372036854775808∨9223372036854775807 < N / g∨9223372036854775807 < D / g then ((0,1),false) else ((N / g,D / g),true)
theorem normS_of {p q N D:Int} (hq:0 < q) (hD:0 < D) (hc:Int.gcd p q=1) (h:p * D=N * q):normS N D=if p < -9223372036854775808∨9223372036854775807 < p∨9223372036854775807 < q then ((0,1),false) else ((p,q),true):=by
 obtain ⟨h1,h2⟩:=norm_unique hq hD hc h
 unfold normS
 simp only [h1,h2]
def sgn (neg:Bool) (n:Int):Int:=if neg then -n else n
theorem sgn_gcd (neg:Bool) (n d:Int):Int.gcd (sgn neg n) d=Int.gcd n d:=by unfold sgn;cases neg <;> simp
theorem pos_of_mul {g e:Int} (hg:0 < g) (h:0 < g * e):0 < e:=by
 rcases Int.lt_trichotomy e 0 with h' | h' | h'
 ·have:=Int.mul_neg_of_pos_of_neg hg h';omega
 ·rw [h'] at h;simp at h
 ·exact h'
theorem gcd_split (a b:Int) (hb:0 < b):∃ g x y,(Int.gcd a b:Int)=g∧0 < g∧a=g * x∧b=g * y∧Int.gcd x y=1∧a / g=x∧b / g=y:=by
 obtain ⟨x,hx⟩:=Int.gcd_dvd_left a b
 obtain ⟨y,hy⟩:=Int.gcd_dvd_right a b
 have hg:0 < Int.gcd a b:=by
  rcases Nat.eq_zero_or_pos (Int.gcd a b) with h|h
  ·rw [h] at hy;simp at hy;omega
  ·exact h
 have h0:(Int.gcd a b:Int)≠0:=by omega
 have hc:Int.gcd x y=1:=by
  have h:=Int.gcd_mul_left (Int.gcd a b:Int) x y
  rw [← hx,← hy,Int.natAbs_natCast] at h
  exact (Nat.eq_of_mul_eq_mul_left hg (by rw [Nat.mul_one];exact h.symm))
 generalize hge:(Int.gcd a b:Int)=g at *
 exact ⟨g,x,y,rfl,by omega,hx,hy,hc,by rw [hx,Int.mul_ediv_cancel_left _ h0],by rw [hy,Int.mul_ediv_cancel_left _ h0]⟩
theorem sizeZ_gcd (n d:Int):Int.gcd (sizeZ n) d=Int.gcd n d:=by unfold sizeZ;split <;> simp
theorem rightB_iff (n d:Int):rightB n d=true↔0 < d∧Int.gcd n d=1:=by
 unfold rightB
 rw [Bool.and_eq_true,decide_eq_true_eq,beq_iff_eq,sizeZ_gcd]
 constructor
 ·rintro ⟨h1,h2⟩;exact ⟨h1,by omega⟩
 ·rintro ⟨h1,h2⟩;exact ⟨h1,by omega⟩
theorem normS_right {N D:Int} (hD:0 < D) {p:Int×Int} (h:normS N D=(p,true)):rightB p.1 p.2=true∧p.1 * D=N * p.2:=by
 obtain ⟨g,x,y,hg,hgp,rfl,rfl,hc,q1,q2⟩:=gcd_split N D hD
 unfold normS at h
 simp only at h
 split at h
 ·cases h
 ·injection h with h _
  rw [hg,q1,q2] at h
  subst h
  refine ⟨(rightB_iff _ _).2 ⟨pos_of_mul hgp hD,hc⟩,?_⟩
  simp only [Int.mul_assoc,Int.mul_left_comm,Int.mul_comm]
end Go.Proofs.YteomcpplajeidaaGreat

namespace Go.Proofs.YteomcpplajeidaaGreat
open Go.RowKit
theorem bgcd_step (a b:Int):Int.gcd b (a % b)=Int.gcd a b:=by rw [gcd_emod',Int.gcd_comm]
def GcI (G:Nat) (w:World) (a b:Value) (wr:World):Prop:=∃ ga bs,DR wr a ga∧DR wr b bs∧ga.length≤50∧bs.length≤50∧Int.gcd (dv ga) (dv bs)=G∧Ext w wr
theorem bcommon_any (l m:List Int) (w:World) (v u:Value) (h:DR w v l) (h':DR w u m) (hl:l.length≤50) (hm:m.length≤50) :
 Calls Tryz.prog 154 #[v,u] w fun e w'=>∃ x g,e=.returned x∧Ext w w'∧DR w' x g∧Tr g∧dv g=(Int.gcd (dv l) (dv m):Int)∧g.length≤50:=by
 have HI:Hid (GcI (Int.gcd (dv l) (dv m)) w v u w):=zH ⟨l,m,h,h',hl,hm,rfl,Ext.refl _⟩
 generalize Int.gcd (dv l) (dv m)=G at *
 clear h h' hl hm
 go_in
 go_upto_region 1 with (fail)
 go_loopw [0,1] (fun a b wr=>GcI G w a b wr) (fun _ b wr=>dvOf wr b)
 case atStart=>exact HI.out
 case round=>
  unfold GcI at hrel
  obtain ⟨ga,bs,ha,hb,hla,hlb,hG,hx⟩:=hrel
  obtain ⟨A,ca,rfl⟩:=ha.form
  obtain ⟨B,cb,rfl⟩:=hb.form
  have HA:=zH ha;have HB:=zH hb;have HG:=zH hG;have HX:=zH hx
  have HDV:=zH (dvOf_eq hb)
  have HTB:=zH (trim_any bs wr _ hb)
  obtain ⟨t1,t2,t3,t4⟩:=trimL_spec bs hb.dg
  obtain ⟨s1,s2,s3,s4⟩:=trimL_spec ga ha.dg
  by_cases h0:dv bs=0
  ·have hnil:trimL bs=[]:=dv_zero t1 t2 (by rw [t3,h0])
   rw [hnil] at HTB
   have HS:=zH (show dv (trimL ga)=(G:Int)∧Tr (trimL ga)∧(trimL ga).length≤50 from ⟨by rw [s3,← hG,h0,Int.gcd_zero];have:=dv_nonneg ha.dg;omega,s2,by omega⟩)
   have HTA:=zH (fun W (hW:Ext wr W)=>trim_any ga W _ (HA.out.ext hW))
   clear ha hb hG hx t1 t2 t3 t4 s1 s2 s3 s4 h0 hnil
   go_upto_region 5 with (go_at_call 85;(refine HTB.out.mono ?_);rintro e w2 ⟨x2,rfl,hx2,hd2⟩;obtain ⟨A2,c2,rfl⟩:=hd2.form;simp only [List.length_nil])
   go_wp2_with (go_at_call 85;(refine (HTA.out w2 hx2).mono ?_);rintro e w3 ⟨x3,rfl,hx3,hd3⟩)
   go_ret
   exact ⟨x3,_,rfl,HX.out.trans (hx2.trans hx3),hd3,HS.out.2.1,HS.out.1,HS.out.2.2⟩
  ·have hpos:0 < dv (trimL bs):=by have:=dv_nonneg hb.dg;omega
   have hlen:0 < (trimL bs).length:=by
    rcases Nat.eq_zero_or_pos (trimL bs).length with h|h
    ·rw [List.length_eq_zero_iff.1 h] at hpos
     simp [dv] at hpos
    ·exact h
   have HTA:=zH (fun W (hW:Ext wr W)=>trim_any ga W _ (HA.out.ext hW))
   have HTB2:=zH (fun W (hW:Ext wr W)=>trim_any bs W _ (HB.out.ext hW))
   have HOV:=zH (fun W xa xb (h1:DR W xa (trimL ga)) (h2:DR W xb (trimL bs))=>bover_any (trimL ga) (trimL bs) W xa xb h1 h2 (by omega) (by omega) t2 hpos)
   have HTS:=zH (show dv (trimL ga)=dv ga∧dv (trimL bs)=dv bs∧(trimL bs).length≤50 from ⟨s3,t3,by omega⟩)
   have HP:=zH (show 0 < dv bs by omega)
   clear ha hb hG hx t1 t2 t3 t4 s1 s2 s3 s4 h0 hpos
   generalize trimL bs=tb at *
   generalize trimL ga=ta at *
   go_upto_region 2 with (go_at_call 85;(refine HTB.out.mono ?_);rintro e w2 ⟨x2,rfl,hx2,hd2⟩;obtain ⟨A2,c2,rfl⟩:=hd2.form)
   have HX2:=zH hx2
   clear hx2 hd2 hlen
   go_wp2_with (first
    |(go_at_call 155;(with_reducible refine (HOV.out w4 x3 x4 (HD3.out.ext HX4.out) HD4.out).mono ?_);rintro e w5 ⟨xq,xr,q,r,rfl,hx5,hdq,hdr,-,-,-,hrv,-,hrl⟩)
    |(go_at_call_of 85 (Value.slice A ga.length ca);(with_reducible refine (HTA.out w2 HX2.out).mono ?_);rintro e w3 ⟨x3,rfl,hx3,hd3⟩;have HD3:=zH hd3;have HX3:=zH hx3;clear hx3 hd3)
    |(go_at_call_of 85 (Value.slice B bs.length cb);(with_reducible refine (HTB2.out w3 (HX2.out.trans HX3.out)).mono ?_);rintro e w4 ⟨x4,rfl,hx4,hd4⟩;have HD4:=zH hd4;have HX4:=zH hx4;clear hx4 hd4))
   have hx9:=HX2.out.trans (HX3.out.trans (HX4.out.trans hx5))
   refine ⟨?_,?_⟩
   ·unfold GcI
    exact ⟨bs,r,HB.out.ext hx9,hdr,hlb,by have:=HTS.out.2.2;omega,by rw [hrv,HTS.out.1,HTS.out.2.1,bgcd_step];exact HG.out,HX.out.trans hx9⟩
   ·rw [HDV.out,dvOf_eq hdr,hrv,HTS.out.1,HTS.out.2.1]
    have h1:=Int.emod_lt_of_pos (dv ga) HP.out
    have h2:=Int.emod_nonneg (dv ga) (show dv bs≠0 by have:=HP.out;omega)
    have h3:=HP.out
    omega
end Go.Proofs.YteomcpplajeidaaGreat
