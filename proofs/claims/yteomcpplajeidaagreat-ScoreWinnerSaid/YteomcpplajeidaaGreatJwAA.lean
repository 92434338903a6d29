/-
  Lemmas of this claim (JwAA). Nothing is asked.
-/
import Derived.Test.YteomcpplajeidaaGreatJwZ
import Derived.Test.YteomcpplajeidaaGreatJwR
import Derived.Test.YteomcpplajeidaaGreatJwV
set_option linter.unusedVariables false
set_option linter.unusedSimpArgs false
set_option maxRecDepth 100000
set_option maxHeartbeats 40000000
namespace Go.Proofs.YteomcpplajeidaaGreat
open Go.RowKit
def SortAt (w0:World) (recv:Value) (cmp:Sc→Sc→Int) (zs:List Sc):Prop:=
 ∀ g n c w,zs.length=n→SO w0 w w g n c zs→Calls Tryz.prog 39 #[.slice (some ⟨g,0,none⟩) n c,.func (.func 40) #[recv] #[]] w fun e w'=>e=.returned (.tuple #[])∧SO w0 w w' g n c (isort (ltC cmp) zs)
theorem SO.refl {w0 w:World} {g n c:Nat} {zs:List Sc} (hlow:Ext w0 w) (hr:w.ownsRow w0.heap.size 100 7 (.slice (some ⟨g,0,none⟩) n c) n (zs.flatMap Sc.cs)):SO w0 w w g n c zs:=⟨hlow,hr,KX.of_ext (Ext.refl w)⟩
theorem sort_row {w0 w:World} {recv v:Value} {cmp:Sc→Sc→Int} {zs:List Sc} (hS:SortAt w0 recv cmp zs) (hlow:Ext w0 w) (hr:w.ownsRow w0.heap.size 100 7 v zs.length (zs.flatMap Sc.cs)) :
 Calls Tryz.prog 39 #[v,.func (.func 40) #[recv] #[]] w fun e w'=>e=.returned (.tuple #[])∧Ext w0 w'∧w'.ownsRow w0.heap.size 100 7 v zs.length ((isort (ltC cmp) zs).flatMap Sc.cs)∧w.grownBy w' v.ownBlock:=by
 by_cases h0:zs=[]
 ·subst h0
  obtain ⟨b,c,rfl⟩:=row_form hr
  refine (sort_nil b c _ w).mono ?_
  rintro e w' ⟨rfl,hx⟩
  exact ⟨rfl,hlow.trans hx,row_ext hr hx,⟨hx.os,hx.tape,hx.output,hx.size,fun k hk _=>hx.block k hk⟩⟩
 ·have hp:0 < zs.length:=List.length_pos_iff.2 h0
  obtain ⟨g,cap,rfl,-,-⟩:=hr.form hp
  refine (hS g zs.length cap w rfl (SO.refl hlow hr)).mono ?_
  rintro e w' ⟨rfl,h⟩
  exact ⟨rfl,h.low,h.own,h.kx⟩
theorem admit_en {w:World} {r:TnR} {T:TP} (h:TV w r T) (x:ER) (hx:VRd All w x.1.vs (slV x.2)):Calls Tryz.prog 22 #[.agg (tenC r),.agg (cellsEn x).toArray] w fun e w'=>e=.returned (iV (admF r T x.1))∧Ext w w':=
 Admit_any r x.1.bid x.1.lot x.1.rec_ x.1.price x.2 T.ls T.cs T.rs x.1.vs w h.h1 h.h2 h.h3 hx
theorem points_en {w:World} {r:TnR} {T:TP} (h:TV w r T) (x:ER) (hx:VRd All w x.1.vs (slV x.2)) (ho:OkE x.1) (lw:Int) (hl:OkI lw):Calls Tryz.prog 23 #[.agg (tenC r),.agg (cellsEn x).toArray,iV lw] w fun e w'=>e=.returned (rev (ptsF T lw x.1))∧Ext w w':=
 points_any x.1.vs T.f x.1.price lw ho.price hl w _ _ _ _ _ _ _ _ _ _ _ _ _ _ _ _ _ _ _ _ _ _ _ _ h.h5 hx ho.vl
theorem low_ok (r:TnR) (T:TP):∀ (own:List ER) (q:Int×Bool),OkI q.1→(∀ x∈own,OkE x.1)→OkI (own.foldl (lowStep r T) q).1
 | [],q,h,_=>h
 | x :: l,q,h,ho=>by
  rw [List.foldl_cons]
  refine low_ok r T l _ ?_ (fun y hy=>ho y (zN _ hy))
  unfold lowStep
  split
  ·exact (ho x zM).price
  ·exact h
theorem Rank_any (r:TnR) (T:TP) (lot:Int) (v:Value) (xs:List ER) (w:World) (h:TV w r T) (hv:XR w v xs) (hxl:xs.length≤100000)
 (hS:errE T.ls lot (ownE lot xs)=0→∀ w0 recv,CmpAt w0 recv (cmpS T.cs T.ts) (goodF r T (lowF r T (ownE lot xs)) (ownE lot xs))→SortAt w0 recv (cmpS T.cs T.ts) (goodF r T (lowF r T (ownE lot xs)) (ownE lot xs))) :
 Calls Tryz.prog 15 #[.agg (tenC r),iV lot,v] w fun e w'=>∃ v',e=.returned (.tuple #[v',iV (errE T.ls lot (ownE lot xs))])∧Ext w w'∧w'.ownsRow w.heap.size 62 5 v' (rankL r T lot xs).length ((rankL r T lot xs).flatMap Rk.cs):=by
 have hx1:Ext w (w.alloc (.cells (tenC r) 39)):=Ext.alloc (Ext.refl _) _
 have g3:(w.alloc (.cells (tenC r) 39)).heap[w.heap.size]? = some (.cells (tenC r) 39):=block_new rfl
 obtain ⟨row,hrow⟩:∃ row,row=(tenC r).toList:=⟨_,rfl⟩
 have hrs:row.length=20:=by rw [hrow];rfl
 have hrt:row.toArray=tenC r:=by rw [hrow]
 have hxok:∀ x∈ownE lot xs,OkE x.1∧VRd All w x.1.vs (slV x.2):=fun x hx=>hv.ok x (List.mem_filter.1 hx).1
 have HEN:=zH (fun wz (hw:Ext w wz)=>entries_any r T.ls lot v xs wz (h.ext hw).h1 (hv.ext hw).sr (fun x hx=>⟨(hv.ok x hx).1.bid,(hv.ok x hx).1.rec_⟩) hxl)
 have HAD:=zH (fun (x:ER) (hx:x∈ownE lot xs) wz (hw:Ext w wz)=>admit_en (h.ext hw) x (VRd.ext hw (hxok x hx).2))
 have HPT:=zH (fun (x:ER) (hx:x∈ownE lot xs) wz (hw:Ext w wz) lw (hl:OkI lw)=>points_en (h.ext hw) x (VRd.ext hw (hxok x hx).2) (hxok x hx).1 lw hl)
 rw [← hrt] at HEN HAD HPT
 obtain ⟨W1,hW1⟩:∃ W1,W1=w.alloc (.cells (tenC r) 39):=⟨_,rfl⟩
 rw [← hW1] at hx1 g3
 obtain ⟨G3,hG3⟩:∃ x,x=w.heap.size:=⟨_,rfl⟩
 rw [← hG3] at g3
 have HRG:Hid (∀ W,Ext W1 W→W.rangeAt G3 0 row∧G3 < W.heap.size):=zH fun W hW=>⟨range_of ((hW.block _ (zL g3)).trans g3) 0 row (fun j v hv=>by rw [hrow] at hv;simpa using hv),zL ((hW.block _ (zL g3)).trans g3)⟩
 have HX1:=zH hx1
 have HT:=zH h;have HV:=zH hv;have HOK:=zH hxok;have HS:=zH hS;have HRT:=zH hrt;have HXL:=zH hxl
 have HG3:=zH hG3
 have hown:(ownE lot xs).length≤100000:=by
  have:=List.length_filter_le (fun x:ER=>x.1.lot == lot) xs
  unfold ownE
  omega
 have HOW:=zH hown
 clear h hv hxl hS hrow hrt hxok hx1 hown g3
 go_in
 go_upto_region 1 with (fail)
 rw [← hW1]
 rw [← hG3]
 clear hW1 hG3
 have l3:=(HRG.out W1 (Ext.refl _)).2
 go_upto_region 2 with (first
  |(refine wpList_load_mid rfl 39 (.tmp 3) rfl G3 0 (by rfl) row _ (HRG.out _ (Ext.refl _)).1 Tryz.underlying39 rfl (by rw [hrs];kernel_rfl) ?_)
  |(go_at_call 38;(with_reducible refine (HEN.out _ HX1.out).mono ?_);rintro e w2 ⟨v',rfl,hx2,ho2⟩;have HX2:=zH hx2;have HO2:=zH ho2;clear hx2 ho2))
 by_cases he:errE T.ls lot (ownE lot xs)=0
 ·replace HS:=zH (HS.out he)
  have HE:=zH he
  rw [he]
  have hro:=HO2.out he
  clear he HO2
  obtain ⟨own,ho⟩:∃ own,own=ownE lot xs:=⟨_,rfl⟩
  rw [← ho] at HAD HPT HOK HS HOW HE hro
  have HOO:=zH ho
  clear ho HEN
  obtain ⟨ob,oc,hof⟩:=row_form hro
  subst hof
  have HSR:=zH (SR.of_row (cs:=cellsEn) (fun x=>(one_en x).1) hro (by have:=HOW.out;omega))
  clear hro
  obtain ⟨lw,hlw⟩:∃ lw,lw=lowF r T own:=⟨_,rfl⟩
  rw [← hlw] at HS
  have HLW:=zH hlw
  have hlok:OkI lw:=by rw [hlw];exact low_ok r T own (0,false) ⟨by decide,by decide⟩ (fun x hx=>(HOK.out x hx).1)
  have HLO:=zH hlok
  clear hlw hlok
  have hol:own.length≤100000:=HOW.out
  go_upto_region 6 with (fail)
  have HXW:=zH (HX1.out.trans HX2.out)
  go_loopw [10,11,35] (fun av bv iv wr=>∃ (i:Nat) (q:Int×Bool),iv=iV i∧i≤own.length∧av=iV q.1∧bv=.bool q.2∧Hid (q=(own.take i).foldl (lowStep r T) (0,false))∧Hid (Ext w2 wr)) (fun _ _ iv _=>own.length - (iof iv).toNat)
  case atStart=>exact ⟨0,(0,false),rfl,Nat.zero_le _,rfl,rfl,zH rfl,zH (Ext.refl _)⟩
  case round=>
   obtain ⟨i,⟨lo,fd⟩,rfl,hi,rfl,rfl,HQ,HX⟩:=hrel
   by_cases hil:i < own.length
   ·obtain ⟨bb,rfl,hcs⟩:=HSR.out.at HX.out i hil
    have HQS:Hid ((own.take (i+1)).foldl (lowStep r T) (0,false)=lowStep r T (lo,fd) own[i]):=zH (by rw [List.take_succ_eq_append_getElem hil,List.foldl_append,← HQ.out];rfl)
    have HAx:=zH (HAD.out own[i] (List.getElem_mem hil))
    have e0:=hcs 0 _ rfl;have e1:=hcs 1 _ rfl;have e2:=hcs 2 _ rfl;have e3:=hcs 3 _ rfl;have e4:=hcs 4 _ rfl
    clear hcs
    obtain ⟨x,hx⟩:∃ x,x=own[i]:=⟨_,rfl⟩
    rw [← hx] at e0 e1 e2 e3 e4 HQS HAx
    clear hx
    obtain ⟨⟨x0,x1,x2,x3,xv⟩,xa,xl,xc⟩:=x
    simp only [Nat.add_zero] at e0 e1 e2 e3 e4
    simp only [cellsEn] at HAx
    have hbl:=zB wr _ e1
    have hili:(i:Int) < (own.length:Int):=by omega
    have HLS:Hid (lowStep r T (lo,fd) (⟨x0,x1,x2,x3,xv⟩,xa,xl,xc)=if admF r T ⟨x0,x1,x2,x3,xv⟩=0∧(fd=false∨x3 < lo) then (x3,true) else (lo,fd)):=zH rfl
    generalize admF r T ⟨x0,x1,x2,x3,xv⟩=ad at *
    go_upto_region 8 with (fail)
    have hxa:Ext wr (wr.alloc (.cells #[iV x0,iV x1,iV x2,iV x3,.slice xa xl xc] 57)):=Ext.alloc (Ext.refl _) _
    have hb4:(wr.alloc (.cells #[iV x0,iV x1,iV x2,iV x3,.slice xa xl xc] 57)).heap[wr.heap.size]? = some (.cells #[iV x0,iV x1,iV x2,iV x3,.slice xa xl xc] 57):=block_new rfl
    have HXA:=zH (HX.out.trans hxa)
    have HB4:=zH hb4
    clear hxa hb4 e0 e1 e2 e3 e4 hbl
    obtain ⟨px,hpx⟩:∃ x,x=wr.heap.size:=⟨_,rfl⟩
    rw [← hpx] at HB4 ⊢
    clear hpx
    generalize wr.alloc (.cells #[iV x0,iV x1,iV x2,iV x3,.slice xa xl xc] 57)=w4 at *
    obtain ⟨d0,d1,d2,d3,d4,-⟩:=cells_five HB4.out
    have lpx:=zL HB4.out
    by_cases ha:ad=0
    ·subst ha
     cases fd with
     | false=>
      have HQ2:Hid ((x3,true)=(own.take (i+1)).foldl (lowStep r T) (0,false)):=zH (by rw [HQS.out,HLS.out,if_pos ⟨rfl,.inl rfl⟩])
      go_wp2_with (first
       |(refine wpList_load_mid rfl 39 (.tmp 3) rfl G3 0 (by rfl) row _ (HRG.out _ (HX2.out.trans HXA.out)).1 Tryz.underlying39 rfl (by rw [hrs];kernel_rfl) ?_)
       |(go_at_call 22;(with_reducible refine (HAx.out _ (HXW.out.trans HXA.out)).mono ?_);rintro e w5 ⟨rfl,hx5⟩;have HX5:=zH (HXA.out.trans hx5);have HB5:=zH ((hx5.block _ (zL HB4.out)).trans HB4.out);clear hx5 d0 d1 d2 d3 d4;obtain ⟨d0,d1,d2,d3,d4,-⟩:=cells_five HB5.out;have lpx5:=zL HB5.out))
      exact ⟨⟨i+1,(x3,true),by rfl,by omega,by rfl,by rfl,HQ2,HX5⟩,by simp [iof];omega⟩
     | true=>
      by_cases hlt:x3 < lo
      ·have HQ2:Hid ((x3,true)=(own.take (i+1)).foldl (lowStep r T) (0,false)):=zH (by rw [HQS.out,HLS.out,if_pos ⟨rfl,.inr hlt⟩])
       go_wp2_with (first
        |(refine wpList_load_mid rfl 39 (.tmp 3) rfl G3 0 (by rfl) row _ (HRG.out _ (HX2.out.trans HXA.out)).1 Tryz.underlying39 rfl (by rw [hrs];kernel_rfl) ?_)
        |(go_at_call 22;(with_reducible refine (HAx.out _ (HXW.out.trans HXA.out)).mono ?_);rintro e w5 ⟨rfl,hx5⟩;have HX5:=zH (HXA.out.trans hx5);have HB5:=zH ((hx5.block _ (zL HB4.out)).trans HB4.out);clear hx5 d0 d1 d2 d3 d4;obtain ⟨d0,d1,d2,d3,d4,-⟩:=cells_five HB5.out;have lpx5:=zL HB5.out))
       exact ⟨⟨i+1,(x3,true),by rfl,by omega,by rfl,by rfl,HQ2,HX5⟩,by simp [iof];omega⟩
      ·have HQ2:Hid ((lo,true)=(own.take (i+1)).foldl (lowStep r T) (0,false)):=zH (by rw [HQS.out,HLS.out,if_neg (fun h=>h.2.elim (fun h=>by cases h) hlt)])
       go_wp2_with (first
        |(refine wpList_load_mid rfl 39 (.tmp 3) rfl G3 0 (by rfl) row _ (HRG.out _ (HX2.out.trans HXA.out)).1 Tryz.underlying39 rfl (by rw [hrs];kernel_rfl) ?_)
        |(go_at_call 22;(with_reducible refine (HAx.out _ (HXW.out.trans HXA.out)).mono ?_);rintro e w5 ⟨rfl,hx5⟩;have HX5:=zH (HXA.out.trans hx5);have HB5:=zH ((hx5.block _ (zL HB4.out)).trans HB4.out);clear hx5 d0 d1 d2 d3 d4;obtain ⟨d0,d1,d2,d3,d4,-⟩:=cells_five HB5.out;have lpx5:=zL HB5.out))
       exact ⟨⟨i+1,(lo,true),by rfl,by omega,by rfl,by rfl,HQ2,HX5⟩,by simp [iof];omega⟩
    ·have had:(ad == 0)=false:=by rw [beq_eq_false_iff_ne];exact ha
     have HQ2:Hid ((lo,fd)=(own.take (i+1)).foldl (lowStep r T) (0,false)):=zH (by rw [HQS.out,HLS.out,if_neg (fun h=>ha h.1)])
     go_wp2_with (first
      |(refine wpList_load_mid rfl 39 (.tmp 3) rfl G3 0 (by rfl) row _ (HRG.out _ (HX2.out.trans HXA.out)).1 Tryz.underlying39 rfl (by rw [hrs];kernel_rfl) ?_)
      |(go_at_call 22;(with_reducible refine (HAx.out _ (HXW.out.trans HXA.out)).mono ?_);rintro e w5 ⟨rfl,hx5⟩;have HX5:=zH (HXA.out.trans hx5);have HB5:=zH ((hx5.block _ (zL HB4.out)).trans HB4.out);clear hx5 d0 d1 d2 d3 d4;obtain ⟨d0,d1,d2,d3,d4,-⟩:=cells_five HB5.out;have lpx5:=zL HB5.out))
     exact ⟨⟨i+1,(lo,fd),by rfl,by omega,by rfl,by rfl,HQ2,HX5⟩,by simp [iof];omega⟩
   ·obtain rfl:i=own.length:=by omega
    have hll:lo=lw:=by
     have h1:=HQ.out
     rw [List.take_length] at h1
     have h2:=congrArg Prod.fst h1
     rw [HLW.out]
     exact h2
    subst hll
    obtain ⟨W3,hW3⟩:∃ W3,W3=wr:=⟨_,rfl⟩
    rw [← hW3] at HX ⊢
    clear hW3 HQ hi hil
    go_upto_region 14 with (fail)
    go_loopw [14,15,58] (fun gv ov iv wr=>∃ i:Nat,iv=iV i∧i≤own.length∧Hid (wr.ownsRow w2.heap.size 100 7 gv (goodF r T lo (own.take i)).length ((goodF r T lo (own.take i)).flatMap Sc.cs))∧Hid (wr.ownsRow w2.heap.size 62 5 ov (outF r T lo (own.take i)).length ((outF r T lo (own.take i)).flatMap Rk.cs))∧Hid (Ext w2 wr)) (fun _ _ iv _=>own.length - (iof iv).toNat)
    case atStart=>exact ⟨0,rfl,Nat.zero_le _,zH (World.ownsRow_nil _ _ _ _),zH (World.ownsRow_nil _ _ _ _),HX⟩
    case round=>
     obtain ⟨i,rfl,hi,HG,HO,HXr⟩:=hrel
     by_cases hil:i < own.length
     ·obtain ⟨bb,rfl,hcs⟩:=HSR.out.at HXr.out i hil
      have HTG:Hid (goodF r T lo (own.take (i+1))=goodF r T lo (own.take i) ++ (if badF r T lo own[i].1 == 0 then [⟨own[i].1,own[i].2,(ptsF T lo own[i].1).1⟩] else [])):=zH (by
       unfold goodF
       rw [List.take_succ_eq_append_getElem hil,List.filter_append,List.map_append,List.filter_cons,List.filter_nil]
       split <;> rfl)
      have HTO:Hid (outF r T lo (own.take (i+1))=outF r T lo (own.take i) ++ (if badF r T lo own[i].1 == 0 then [] else [⟨own[i].1.bid,(0,0),0,badF r T lo own[i].1⟩])):=zH (by
       unfold outF
       rw [List.take_succ_eq_append_getElem hil,List.filter_append,List.map_append,List.filter_cons,List.filter_nil]
       cases (badF r T lo own[i].1 == 0) <;> rfl)
      have HAx:=zH (HAD.out own[i] (List.getElem_mem hil))
      have HPx:=zH (fun wz (hw:Ext w wz)=>HPT.out own[i] (List.getElem_mem hil) wz hw lo HLO.out)
      have e0:=hcs 0 _ rfl;have e1:=hcs 1 _ rfl;have e2:=hcs 2 _ rfl;have e3:=hcs 3 _ rfl;have e4:=hcs 4 _ rfl
      clear hcs
      have HBF:Hid (badF r T lo own[i].1=if admF r T own[i].1=0 then (ptsF T lo own[i].1).2 else admF r T own[i].1):=zH rfl
      have HGL:Hid ((goodF r T lo (own.take i)).length < 1000000∧(outF r T lo (own.take i)).length < 1000000):=zH (by
       have h1:(own.take i).length≤i:=by rw [List.length_take];omega
       have h2:=List.length_filter_le (fun x:ER=>badF r T lo x.1 == 0) (own.take i)
       have h3:=List.length_filter_le (fun x:ER=>!(badF r T lo x.1 == 0)) (own.take i)
       unfold goodF outF
       rw [List.length_map,List.length_map]
       omega)
      obtain ⟨x,hx⟩:∃ x,x=own[i]:=⟨_,rfl⟩
      rw [← hx] at e0 e1 e2 e3 e4 HTG HTO HAx HPx HBF
      clear hx
      generalize goodF r T lo (own.take i)=gs at *
      generalize outF r T lo (own.take i)=os at *
      obtain ⟨⟨x0,x1,x2,x3,xv⟩,xa,xl,xc⟩:=x
      simp only [Nat.add_zero] at e0 e1 e2 e3 e4
      simp only [cellsEn] at HAx HPx
      simp only at HTG HTO HBF
      have hbl:=zB wr _ e1
      have hili:(i:Int) < (own.length:Int):=by omega
      generalize admF r T ⟨x0,x1,x2,x3,xv⟩=ad at *
      obtain ⟨⟨⟨p1,p2⟩,pe⟩,hpts⟩:∃ p,p=ptsF T lo ⟨x0,x1,x2,x3,xv⟩:=⟨_,rfl⟩
      rw [← hpts] at HTG HPx HBF
      clear hpts
      generalize badF r T lo ⟨x0,x1,x2,x3,xv⟩=bad at *
      go_upto_region 16 with (fail)
      have hxa:Ext wr (wr.alloc (.cells #[iV x0,iV x1,iV x2,iV x3,.slice xa xl xc] 57)):=Ext.alloc (Ext.refl _) _
      have hb4:(wr.alloc (.cells #[iV x0,iV x1,iV x2,iV x3,.slice xa xl xc] 57)).heap[wr.heap.size]? = some (.cells #[iV x0,iV x1,iV x2,iV x3,.slice xa xl xc] 57):=block_new rfl
      have HXA:=zH (HXr.out.trans hxa)
      have HB4:=zH hb4
      have HG4:=zH (row_ext HG.out hxa);have HO4:=zH (row_ext HO.out hxa)
      have HPG:Hid (∀ b,u14.ownBlock=some b→b < wr.heap.size):=zH fun b e=>(HG.out.lt b e).2
      clear hxa hb4 e0 e1 e2 e3 e4 hbl HG HO
      obtain ⟨px,hpx⟩:∃ x,x=wr.heap.size:=⟨_,rfl⟩
      rw [← hpx] at HB4 HPG ⊢
      clear hpx
      generalize wr.alloc (.cells #[iV x0,iV x1,iV x2,iV x3,.slice xa xl xc] 57)=w4 at *
      obtain ⟨d0,d1,d2,d3,d4,-⟩:=cells_five HB4.out
      have lpx:=zL HB4.out
      go_upto_region 17 with (first
       |(refine wpList_load_mid rfl 39 (.tmp 3) rfl G3 0 (by rfl) row _ (HRG.out _ (HX2.out.trans HXA.out)).1 Tryz.underlying39 rfl (by rw [hrs];kernel_rfl) ?_)
       |(go_at_call 22;(with_reducible refine (HAx.out _ (HXW.out.trans HXA.out)).mono ?_);rintro e w5 ⟨rfl,hx5⟩;have HX5:=zH (HXA.out.trans hx5);have HB5:=zH ((hx5.block _ (zL HB4.out)).trans HB4.out);have HG5:=zH (row_ext HG4.out hx5);have HO5:=zH (row_ext HO4.out hx5);clear hx5 d0 d1 d2 d3 d4 lpx HG4 HO4 HB4 HXA))
      go_upto_region 18 with (fail)
      have hxa:Ext w5 (w5.alloc (.cells #[iV 0,iV 0] 30)):=Ext.alloc (Ext.refl _) _
      have HB6:=zH ((hxa.block _ (zL HB5.out)).trans HB5.out)
      have HX6:=zH (HX5.out.trans hxa)
      have HG6:=zH (row_ext HG5.out hxa);have HO6:=zH (row_ext HO5.out hxa)
      have HY6:Hid ((w5.alloc (.cells #[iV 0,iV 0] 30)).heap[w5.heap.size]? = some (.cells #[iV 0,iV 0] 30)):=zH (block_new rfl)
      have HPY:Hid (∀ b,u14.ownBlock=some b→b < w5.heap.size):=zH fun b e=>(HG5.out.lt b e).2
      have HX5':=zH HX5.out
      clear hxa HG5 HO5 HB5 HX5
      obtain ⟨py,hpy⟩:∃ x,x=w5.heap.size:=⟨_,rfl⟩
      have HPYL:Hid (w2.heap.size≤py):=zH (by rw [hpy];exact HX5'.out.size)
      rw [← hpy] at HY6 HPY ⊢
      clear hpy
      generalize w5.alloc (.cells #[iV 0,iV 0] 30)=w6 at *
      obtain ⟨d0,d1,d2,d3,d4,-⟩:=cells_five HB6.out
      have lpx:=zL HB6.out
      have lpy:=zL HY6.out
      by_cases ha:ad=0
      ·subst ha
       rw [if_pos rfl] at HBF
       go_upto_region 20 with (first
        |(refine wpList_load_mid rfl 39 (.tmp 3) rfl G3 0 (by rfl) row _ (HRG.out _ (HX2.out.trans HX6.out)).1 Tryz.underlying39 rfl (by rw [hrs];kernel_rfl) ?_)
        |(go_at_call 23;(with_reducible refine (HPx.out _ (HXW.out.trans HX6.out)).mono ?_);rintro e w7 ⟨rfl,hx7⟩;have HX7:=zH (HX6.out.trans hx7);have HB7:=zH ((hx7.block _ (zL HB6.out)).trans HB6.out);have HY7:=zH ((hx7.block _ (zL HY6.out)).trans HY6.out);have HG7:=zH (row_ext HG6.out hx7);have HO7:=zH (row_ext HO6.out hx7);clear hx7;have y0:w7.cell? ⟨py,0,none⟩=some (iV 0):=cell_of_row w7 py 0 _ _ _ HY7.out;have y1:w7.cell? ⟨py,1,none⟩=some (iV 0):=cell_of_row w7 py 1 _ _ _ HY7.out;have z0:w7.frozen? ⟨py,0,none⟩=false:=put_frozen HY7.out;have z1:w7.frozen? ⟨py,1,none⟩=false:=put_frozen HY7.out;have ly7:=zL HY7.out))
       have hk8:KX py w7 ((w7.setCell ⟨py,0,none⟩ (iV p1)).setCell ⟨py,1,none⟩ (iV p2)):=((KX.of_ext (Ext.refl w7)).set _).set _
       have HY8:Hid (((w7.setCell ⟨py,0,none⟩ (iV p1)).setCell ⟨py,1,none⟩ (iV p2)).heap[py]? = some (.cells #[iV p1,iV p2] 30)):=zH (heap_put _ (heap_put _ HY7.out))
       have hpp:px≠py:=fun e=>by
        have h1:=HB7.out
        rw [e,HY7.out] at h1;cases h1
       have HB8:=zH (hk8.at HB7.out hpp)
       have HX8:=zH (ext_grown HX7.out hk8 (fun b e=>by
        injection e with e
        have:=HPYL.out
        omega))
       have HG8:=zH (row_move HG7.out (fun b hb hl=>hk8.block b hl (fun e=>by
        obtain ⟨c1,h1⟩:=row_obj HG7.out hb
        injection e with e
        rw [e,HY7.out] at h1;cases h1)))
       have HO8:=zH (row_move HO7.out (fun b hb hl=>hk8.block b hl (fun e=>by
        obtain ⟨c1,h1⟩:=row_obj HO7.out hb
        injection e with e
        rw [e,HY7.out] at h1;cases h1)))
       clear hk8 hpp d0 d1 d2 d3 d4 lpx lpy y0 y1 z0 z1 ly7 HX7 HB7 HY7 HG7 HO7 HX6 HB6 HY6 HG6 HO6
       generalize (w7.setCell ⟨py,0,none⟩ (iV p1)).setCell ⟨py,1,none⟩ (iV p2)=w8 at *
       obtain ⟨d0,d1,d2,d3,d4,-⟩:=cells_five HB8.out
       have y0:w8.cell? ⟨py,0,none⟩=some (iV p1):=cell_of_row w8 py 0 _ _ _ HY8.out
       have y1:w8.cell? ⟨py,1,none⟩=some (iV p2):=cell_of_row w8 py 1 _ _ _ HY8.out
       have lpx:=zL HB8.out
       have lpy:=zL HY8.out
       by_cases hpe:pe=0
       ·subst hpe
        have hbq:(bad == 0)=true:=by rw [HBF.out];rfl
        rw [hbq] at HTO HTG
        go_upto_region 22 with (fail)
        have hxa:Ext w8 (w8.alloc (.cells #[iV x0,iV x1,iV x2,iV x3,.slice xa xl xc,iV p1,iV p2] 100)):=Ext.alloc (Ext.refl _) _
        have hat:(w8.alloc (.cells #[iV x0,iV x1,iV x2,iV x3,.slice xa xl xc,iV p1,iV p2] 100)).heap[w8.heap.size]? = some (.cells #[iV x0,iV x1,iV x2,iV x3,.slice xa xl xc,iV p1,iV p2] 100):=block_new rfl
        have HAT:=zH hat
        have HGA:=zH (row_ext HG8.out hxa);have HOA:=zH (row_ext HO8.out hxa);have HXA:=zH (HX8.out.trans hxa)
        clear hxa hat
        go_upto_region 23 with (at_builtin;refine append_gw (cs:=Sc.cs) (z:=.agg #[iV 0,iV 0,iV 0,iV 0,.slice none 0 0,iV 0,iV 0]) one_sc 98 100 72 Tryz.underlying98 (by kernel_rfl) (by rfl) (by decide) (by decide) rfl (.tmp 83) (.tmp 87) rfl w2.heap.size u14 gs (by rfl) HGA.out w8.heap.size ⟨⟨x0,x1,x2,x3,xv⟩,(xa,xl,xc),(p1,p2)⟩ (by rfl) HAT.out HGL.out.1 HXA.out.size ?_;intro g7 cap7 w9 hr7 hg7 hat7;have HR7:=zH hr7;have HO7:Hid (w9.ownsRow w2.heap.size 62 5 u15 os.length (os.flatMap Rk.cs)):=zH (row_move HOA.out (fun b hb hl=>hg7.block b hl (fun e=>by
         obtain ⟨c1,h1⟩:=row_obj HOA.out hb
         obtain ⟨c2,h2⟩:=row_obj HGA.out e.symm
         rw [h1] at h2;cases h2)));have HX7:=zH (ext_grown HXA.out hg7 (fun b e=>(HGA.out.lt b e).1));clear hr7 hg7 hat7)
        go_wp2_with (fail)
        exact ⟨⟨i+1,by rfl,by omega,zH (by rw [HTG.out];exact HR7.out),zH (by rw [HTO.out];simpa using HO7.out),HX7⟩,by simp [iof];omega⟩
       ·have hpq:(pe == 0)=false:=by rw [beq_eq_false_iff_ne];exact hpe
        have hbq:(bad == 0)=false:=by rw [HBF.out];exact hpq
        rw [hbq,HBF.out] at HTO
        rw [hbq] at HTG
        go_upto_region 21 with (fail)
        have hxa:Ext w8 (w8.alloc (.cells #[iV x0,iV 0,iV 0,iV 0,iV pe] 62)):=Ext.alloc (Ext.refl _) _
        have hat:(w8.alloc (.cells #[iV x0,iV 0,iV 0,iV 0,iV pe] 62)).heap[w8.heap.size]? = some (.cells #[iV x0,iV 0,iV 0,iV 0,iV pe] 62):=block_new rfl
        have HAT:=zH hat
        have HGA:=zH (row_ext HG8.out hxa);have HOA:=zH (row_ext HO8.out hxa);have HXA:=zH (HX8.out.trans hxa)
        clear hxa hat
        go_upto_region 23 with (at_builtin;refine append_gw (cs:=Rk.cs) (z:=.agg #[iV 0,iV 0,iV 0,iV 0,iV 0]) one_rk 44 62 40 Tryz.underlying44 (by kernel_rfl) (by rfl) (by decide) (by decide) rfl (.tmp 76) (.tmp 81) rfl w2.heap.size u15 os (by rfl) HOA.out w8.heap.size ⟨x0,(0,0),0,pe⟩ (by rfl) HAT.out HGL.out.2 HXA.out.size ?_;intro g7 cap7 w7 hr7 hg7 hat7;have HR7:=zH hr7;have HG7:Hid (w7.ownsRow w2.heap.size 100 7 u14 gs.length (gs.flatMap Sc.cs)):=zH (row_move HGA.out (fun b hb hl=>hg7.block b hl (fun e=>by
         obtain ⟨c1,h1⟩:=row_obj HGA.out hb
         obtain ⟨c2,h2⟩:=row_obj HOA.out e.symm
         rw [h1] at h2;cases h2)));have HX7:=zH (ext_grown HXA.out hg7 (fun b e=>(HOA.out.lt b e).1));clear hr7 hg7 hat7)
        go_wp2_with (fail)
        exact ⟨⟨i+1,by rfl,by omega,zH (by rw [HTG.out];simpa using HG7.out),zH (by rw [HTO.out];exact HR7.out),HX7⟩,by simp [iof];omega⟩
      ·have had:(ad == 0)=false:=by rw [beq_eq_false_iff_ne];exact ha
       rw [if_neg ha] at HBF
       have hbq:(bad == 0)=false:=by rw [HBF.out];exact had
       rw [hbq,HBF.out] at HTO
       rw [hbq] at HTG
       go_upto_region 21 with (fail)
       have hxa:Ext w6 (w6.alloc (.cells #[iV x0,iV 0,iV 0,iV 0,iV ad] 62)):=Ext.alloc (Ext.refl _) _
       have hat:(w6.alloc (.cells #[iV x0,iV 0,iV 0,iV 0,iV ad] 62)).heap[w6.heap.size]? = some (.cells #[iV x0,iV 0,iV 0,iV 0,iV ad] 62):=block_new rfl
       have HAT:=zH hat
       have HGA:=zH (row_ext HG6.out hxa);have HOA:=zH (row_ext HO6.out hxa);have HXA:=zH (HX6.out.trans hxa)
       clear hxa hat
       go_upto_region 23 with (at_builtin;refine append_gw (cs:=Rk.cs) (z:=.agg #[iV 0,iV 0,iV 0,iV 0,iV 0]) one_rk 44 62 40 Tryz.underlying44 (by kernel_rfl) (by rfl) (by decide) (by decide) rfl (.tmp 76) (.tmp 81) rfl w2.heap.size u15 os (by rfl) HOA.out w6.heap.size ⟨x0,(0,0),0,ad⟩ (by rfl) HAT.out HGL.out.2 HXA.out.size ?_;intro g7 cap7 w7 hr7 hg7 hat7;have HR7:=zH hr7;have HG7:Hid (w7.ownsRow w2.heap.size 100 7 u14 gs.length (gs.flatMap Sc.cs)):=zH (row_move HGA.out (fun b hb hl=>hg7.block b hl (fun e=>by
        obtain ⟨c1,h1⟩:=row_obj HGA.out hb
        obtain ⟨c2,h2⟩:=row_obj HOA.out e.symm
        rw [h1] at h2;cases h2)));have HX7:=zH (ext_grown HXA.out hg7 (fun b e=>(HOA.out.lt b e).1));clear hr7 hg7 hat7)
       go_wp2_with (fail)
       exact ⟨⟨i+1,by rfl,by omega,zH (by rw [HTG.out];simpa using HG7.out),zH (by rw [HTO.out];exact HR7.out),HX7⟩,by simp [iof];omega⟩
     ·obtain rfl:i=own.length:=by omega
      rw [List.take_length] at HG HO
      have hcmp:CmpAt w2 (.agg (tenC r)) (cmpS T.cs T.ts) (goodF r T lo own):=by
       have hsc:∀ x∈goodF r T lo own,∀ wz,Ext w2 wz→ScV wz x:=by
        intro x hx wz hwz
        obtain ⟨e,he,rfl⟩:=List.mem_map.1 hx
        obtain ⟨h1,h2⟩:=List.mem_filter.1 he
        have hb:badF r T lo e.1=0:=by simpa using h2
        obtain ⟨o1,o2⟩:=HOK.out e h1
        refine ⟨VRd.ext (HXW.out.trans hwz) o2,pts_I2 (HT.out) o1 HLO.out o2 ?_⟩
        unfold badF at hb
        split at hb
        ·exact hb
        ·rename_i hne;exact absurd hb hne
       exact fun x hx y hy wz hwz=>compareS_any r T.cs T.ts x y wz (HT.out.h2.ext (HXW.out.trans hwz)) (HT.out.h4.ext (HXW.out.trans hwz)) (hsc x hx wz hwz) (hsc y hy wz hwz)
      have hsr:=sort_row (HS.out w2 _ hcmp) HXr.out HG.out
      rw [ltC_cmpS] at hsr
      have HSRT:=zH hsr
      clear hcmp hsr
      have HRK:Hid (rankL r T lot xs=inF 0 (isort (ltS T.cs T.ts) (goodF r T lo own)) ++ outF r T lo own):=zH (by
       unfold rankL
       rw [← HOO.out,if_pos HE.out,← HLW.out]
       rfl)
      have HSL:Hid ((isort (ltS T.cs T.ts) (goodF r T lo own)).length=(goodF r T lo own).length):=zH (isort_len _ _)
      have HGL:Hid ((goodF r T lo own).length≤100000∧(outF r T lo own).length≤100000):=zH (by
       have h2:=List.length_filter_le (fun x:ER=>badF r T lo x.1 == 0) own
       have h3:=List.length_filter_le (fun x:ER=>!(badF r T lo x.1 == 0)) own
       unfold goodF outF
       rw [List.length_map,List.length_map]
       omega)
      generalize isort (ltS T.cs T.ts) (goodF r T lo own)=ss at *
      generalize goodF r T lo own=gs at *
      generalize outF r T lo own=os at *
      obtain ⟨W4,hW4⟩:∃ W4,W4=wr:=⟨_,rfl⟩
      rw [← hW4] at HG HO HXr HSRT ⊢
      clear hW4 hi hil
      have HRX:Hid (W4.rangeAt G3 0 (tenC r).toList):=zH (by
       have h1:=(HRG.out W4 (HX2.out.trans HXr.out)).1
       have h2:row=(tenC r).toList:=by rw [← HRT.out]
       rw [← h2]
       exact h1)
      have l4:=(HRG.out W4 (HX2.out.trans HXr.out)).2
      go_upto_region 25 with (first
       |(refine wpList_load_mid rfl 39 (.tmp 3) rfl G3 0 (by rfl) (tenC r).toList _ HRX.out Tryz.underlying39 rfl (by kernel_rfl) ?_)
       |(go_at_call 39;(with_reducible refine HSRT.out.mono ?_);rintro e w7 ⟨rfl,hx7,hg7,hk7⟩;have HX7:=zH hx7;have HG7:=zH hg7;have HO7:Hid (w7.ownsRow w2.heap.size 62 5 u15 os.length (os.flatMap Rk.cs)):=zH (row_move HO.out (fun b hb hl=>hk7.block b hl (fun e=>by
          obtain ⟨c1,h1⟩:=row_obj HO.out hb
          obtain ⟨c2,h2⟩:=row_obj HG.out e.symm
          rw [h1] at h2;cases h2)));clear hx7 hg7 hk7))
      obtain ⟨gb,gc,hgf⟩:=row_form HG7.out
      subst hgf
      have hss:=HG7.out
      rw [← HSL.out] at hss
      have HSS:=zH (SR.of_row (cs:=Sc.cs) sc_len hss (by have:=HSL.out;have:=HGL.out;omega))
      have hgl:gs.length≤100000:=HGL.out.1
      clear hss l4 HG HO HSRT HG7
      rw [← HSL.out] at hgl ⊢
      go_upto_region 27 with (fail)
      go_loopw [20,97] (fun nv iv wr=>∃ k:Nat,iv=iV k∧k≤ss.length∧Hid (wr.ownsRow w7.heap.size 62 5 nv (inF 0 (ss.take k)).length ((inF 0 (ss.take k)).flatMap Rk.cs))∧Hid (Ext w7 wr)) (fun _ iv _=>ss.length - (iof iv).toNat)
      case atStart=>exact ⟨0,rfl,Nat.zero_le _,zH (World.ownsRow_nil _ _ _ _),zH (Ext.refl _)⟩
      case round=>
       obtain ⟨k,rfl,hk,HN,HXn⟩:=hrel
       by_cases hkl:k < ss.length
       ·obtain ⟨bb,rfl,hcs⟩:=HSS.out.at HXn.out k hkl
        have HTN:Hid (inF 0 (ss.take (k+1))=inF 0 (ss.take k) ++ [⟨ss[k].e.bid,ss[k].p,(k:Int)+1,0⟩]):=zH (by
         rw [List.take_succ_eq_append_getElem hkl,inF_snoc,List.length_take,show 0+min k ss.length=k by omega])
        have HNL:Hid ((inF 0 (ss.take k)).length < 1000000):=zH (by rw [inF_len,List.length_take];omega)
        have e0:=hcs 0 _ rfl;have e1:=hcs 1 _ rfl;have e2:=hcs 2 _ rfl;have e3:=hcs 3 _ rfl;have e4:=hcs 4 _ rfl;have e5:=hcs 5 _ rfl;have e6:=hcs 6 _ rfl
        clear hcs
        generalize inF 0 (ss.take k)=ns at *
        generalize ss[k]=x at *
        obtain ⟨⟨x0,x1,x2,x3,xv⟩,⟨xa,xl,xc⟩,p1,p2⟩:=x
        simp only [Nat.add_zero] at e0 e1 e2 e3 e4 e5 e6 HTN
        have hbl:=zB wr _ e1
        have hkli:(k:Int) < (ss.length:Int):=by omega
        have hwk:=wz ((k:Int)+1) (by omega)
        go_upto_region 29 with (fail)
        have hxa:Ext wr (wr.alloc (.cells #[iV x0,iV x1,iV x2,iV x3,.slice xa xl xc,iV p1,iV p2] 100)):=Ext.alloc (Ext.refl _) _
        have hb4:(wr.alloc (.cells #[iV x0,iV x1,iV x2,iV x3,.slice xa xl xc,iV p1,iV p2] 100)).heap[wr.heap.size]? = some (.cells #[iV x0,iV x1,iV x2,iV x3,.slice xa xl xc,iV p1,iV p2] 100):=block_new rfl
        have HXA:=zH (HXn.out.trans hxa);have HN4:=zH (row_ext HN.out hxa)
        obtain ⟨px,hpx⟩:∃ x,x=wr.heap.size:=⟨_,rfl⟩
        rw [← hpx] at hb4 ⊢
        clear hpx hxa e0 e1 e2 e3 e4 e5 e6 hbl HN
        generalize wr.alloc (.cells #[iV x0,iV x1,iV x2,iV x3,.slice xa xl xc,iV p1,iV p2] 100)=w9 at *
        have f0:w9.cell? ⟨px,0,none⟩=some (iV x0):=cell_of_row w9 px 0 _ _ _ hb4
        have f5:w9.cell? ⟨px,5,none⟩=some (iV p1):=cell_of_row w9 px 5 _ _ _ hb4
        have f6:w9.cell? ⟨px,6,none⟩=some (iV p2):=cell_of_row w9 px 6 _ _ _ hb4
        have lpx:=zL hb4
        have hxb:Ext w9 (w9.alloc (.cells #[iV x0,iV p1,iV p2,iV ((k:Int)+1),iV 0] 62)):=Ext.alloc (Ext.refl _) _
        have hat:(w9.alloc (.cells #[iV x0,iV p1,iV p2,iV ((k:Int)+1),iV 0] 62)).heap[w9.heap.size]? = some (.cells #[iV x0,iV p1,iV p2,iV ((k:Int)+1),iV 0] 62):=block_new rfl
        have HAT:=zH hat
        have HNA:=zH (row_ext HN4.out hxb);have HXB:=zH (HXA.out.trans hxb)
        clear hat hxb hb4
        go_upto_region 30 with (at_builtin;refine append_one (cs:=Rk.cs) (z:=.agg #[iV 0,iV 0,iV 0,iV 0,iV 0]) one_rk 44 62 40 Tryz.underlying44 (by kernel_rfl) (by rfl) (by decide) (by decide) rfl (.tmp 102) (.tmp 111) rfl w7.heap.size u20 ns (by rfl) HNA.out w9.heap.size ⟨x0,(p1,p2),(k:Int)+1,0⟩ (by rfl) HAT.out HNL.out HXB.out.size ?_;intro g7 cap7 wz hr7 hb7;have HR7:=zH hr7;have HX9:Hid (Ext w7 wz):=zH (RowKit.Below.trans HXB.out hb7);clear hr7 hb7)
        go_wp2_with (fail)
        exact ⟨⟨k+1,by rfl,by omega,zH (by rw [HTN.out];exact HR7.out),HX9⟩,by simp [iof];omega⟩
       ·obtain rfl:k=ss.length:=by omega
        rw [List.take_length] at HN
        have HOn:=zH (row_ext HO7.out HXn.out)
        obtain ⟨ub,uc,huf⟩:=row_form HOn.out
        subst huf
        have hsrc:=own_src HOn.out
        have hsrc':os=[]∨∃ b off,ub=some ⟨b,off,none⟩∧∀ j u,(os.flatMap Rk.cs)[j]? = some u→wr.cell? ⟨b,off+j,none⟩=some u:=hsrc.imp List.length_eq_zero_iff.1 id
        have HSC:=zH hsrc'
        have HNL:Hid ((inF 0 ss).length+os.length≤1000000):=zH (by rw [inF_len];have:=HGL.out;omega)
        clear hsrc hsrc'
        go_wp2_with (at_builtin;refine append_rows (cs:=Rk.cs) (z:=.agg #[iV 0,iV 0,iV 0,iV 0,iV 0]) 44 62 40 Tryz.underlying44 (by kernel_rfl) (by rfl) (by decide) (by decide) rfl (.tmp 114) (.tmp 115) rfl w7.heap.size u20 (inF 0 ss) (by rfl) HN.out one_rk ub uc os (by rfl) HSC.out HNL.out HXn.out.size ?_;intro v9 w9 hr9 hg9;have HR9:=zH hr9;have HX9:=zH (ext_grown HXn.out hg9 (fun b e=>(HN.out.lt b e).1));clear hr9 hg9)
        go_ret2
        exact ⟨_,by rw [← HOO.out,HE.out];rfl,(HXW.out.trans HX7.out).trans HX9.out,by rw [HRK.out];exact row_base HR9.out (HXW.out.trans HX7.out).size⟩
 ·have HE:=zH he
  have HR:Hid (rankL r T lot xs=[]):=zH (if_neg he)
  obtain ⟨er,her⟩:∃ er,er=errE T.ls lot (ownE lot xs):=⟨_,rfl⟩
  rw [← her] at he ⊢
  have heb:(er == 0)=false:=by rw [beq_eq_false_iff_ne];exact he
  have HER:=zH her
  clear her
  go_wp2_with (fail)
  go_ret2
  exact ⟨_,by rw [← HER.out];rfl,HX1.out.trans HX2.out,by rw [HR.out];exact World.ownsRow_nil _ _ _ _⟩
abbrev lfA (op:ByteArray) (n:Int×Int) (nm:ByteArray):Value:=.agg #[.string op,iV n.1,iV n.2,.string nm,.slice none 0 0]
theorem mknum_any (n d:Int) (hn:-1000000≤n∧n≤1000000) (hd:1≤d∧d≤1000000) (w:World):Calls Tryz.prog 36 #[iV n,iV d] w fun e w'=>e=.returned (lfA numB (quickZ n d) nilB)∧Ext w w':=by
 have HM:=zH (fun wz=>Make_any n d hn hd wz)
 generalize quickZ n d=q at *
 obtain ⟨q1,q2⟩:=q
 clear hn hd
 have hb0:=heap_alloc_new w (.cells zero5 33)
 have hx0:=Ext.alloc (Ext.refl w) (.cells zero5 33)
 obtain ⟨g,hg⟩:∃ x,x=w.heap.size:=⟨_,rfl⟩
 have hgw:w.heap.size≤g:=by omega
 go_in
 go_upto_region 1 with (fail)
 change Code.wp _ _ _ _ (w.alloc (.cells zero5 33))
 rw [← hg] at hb0 ⊢
 have HGW:=zH hgw
 clear hg hgw
 generalize w.alloc (.cells zero5 33)=W0 at *
 have HB0:=zH hb0;have HX0:=zH hx0
 clear hb0 hx0
 go_upto_region 2 with (go_at_call 60;(refine (HM.out _).mono ?_);rintro e w1 ⟨rfl,hx⟩;have HX1:=zH hx;clear hx)
 have hx2:=HX1.out.trans (Ext.alloc (Ext.refl w1) (.cells #[iV q1,iV q2] 30))
 have hq2:=heap_alloc_new w1 (.cells #[iV q1,iV q2] 30)
 generalize w1.alloc (.cells #[iV q1,iV q2] 30)=w2 at *
 obtain ⟨hcc,-,lq⟩:=zC hq2
 have d0:=zk hcc 0
 have d1:=zk hcc 1
 have hb2:=(hx2.block _ (zL HB0.out)).trans HB0.out
 have HB2:=zH hb2
 obtain ⟨hcc,hff,lg⟩:=zC hb2
 have k0:=zk hcc 0
 have k1:=zk hcc 1
 have k2:=zk hcc 2
 have k3:=zk hcc 3
 have k4:=zk hcc 4
 have f0:=hff 0;have f1:=hff 1;have f2:=hff 2;have f3:=hff 3;have f4:=hff 4
 have HX2:=zH (HX0.out.trans hx2)
 clear hcc hff hb2 hq2 hx2
 go_wp2_with (fail)
 exact bodyPost_ret (v:=lfA numB (q1,q2) nilB) (results_cell_row Tryz.results36 _ _ g 33 _ _ _ (by rfl) (put5_at HB2.out _ _ _ _ _) Tryz.underlying33 rfl (by kernel_rfl)) rfl ⟨rfl,ext_grown HX2.out (put5_kx0 w2 g _ _ _ _ _) (fun b e=>by injection e with e;have:=HGW.out;omega)⟩
theorem mkname_any (nm:ByteArray) (w:World):Calls Tryz.prog 33 #[.string nm] w fun e w'=>e=.returned (lfA nameB (0,0) nm)∧Ext w w':=by
 go_in
 go_wp2
 exact bodyPost_ret (v:=lfA nameB (0,0) nm) (by simp [results,Tryz.results33,go_sem]) rfl ⟨rfl,xt⟩
theorem mkop_walk (s:ByteArray) (a0 a1 a2 a3 a4 b0 b1 b2 b3 b4:Value) (w:World):Calls Tryz.prog 31 #[.string s,.agg #[a0,a1,a2,a3,a4],.agg #[b0,b1,b2,b3,b4]] w fun e w'=>
 ∃ p,e=.returned (.agg #[.string s,iV 0,iV 0,.string nilB,.slice (some ⟨p,0,none⟩) 2 2])∧w.heap.size≤p∧w'.heap[p]? = some (.cells #[a0,a1,a2,a3,a4,b0,b1,b2,b3,b4] 33)∧Ext w w':=by
 go_in
 go_wp2
 exact bodyPost_ret (v:=.agg #[.string s,iV 0,iV 0,.string nilB,.slice (some ⟨w.heap.size+1+1+1,0,none⟩) 2 2]) (by simp [results,Tryz.results31,go_sem]) rfl ⟨_,rfl,by omega,block_new (by simp),xt⟩
theorem Rd.vals5 {S:Nat→Prop} {w:World} {t:Ex} {v:Value} (h:Rd S w t v):∃ a0 a1 a2 a3 a4,v=.agg #[a0,a1,a2,a3,a4]:=by
 obtain ⟨op,n,nm,ts⟩:=t
 unfold Rd at h
 obtain ⟨base,cap,hv,-⟩:=h
 exact ⟨_,_,_,_,_,hv⟩
theorem mkop_any (S:Nat→Prop) (s:ByteArray) (ta tb:Ex) (w:World) (va vb:Value) (ha:Rd S w ta va) (hb:Rd S w tb vb) (hS:∀ b,w.heap.size≤b→S b) :
 Calls Tryz.prog 31 #[.string s,va,vb] w fun e w'=>∃ v,e=.returned v∧Ext w w'∧Rd S w' (opE' s ta tb) v:=by
 obtain ⟨a0,a1,a2,a3,a4,rfl⟩:=ha.vals5
 obtain ⟨b0,b1,b2,b3,b4,rfl⟩:=hb.vals5
 refine (mkop_walk s a0 a1 a2 a3 a4 b0 b1 b2 b3 b4 w).mono ?_
 rintro e w' ⟨p,rfl,hp,hh,hx⟩
 refine ⟨_,rfl,hx,?_⟩
 obtain ⟨h0,h1⟩:=cells10 hh
 unfold Rd
 refine ⟨_,_,rfl,I2.zero,by simp,.inr ⟨p,rfl,hS p hp,?_⟩⟩
 unfold RdL
 refine ⟨⟨_,h0,ha.ext hx⟩,?_⟩
 unfold RdL
 exact ⟨⟨_,h1,hb.ext hx⟩,by unfold RdL;trivial⟩
def wdn (k:Nat):Int:=if k=0 then 1 else if k=1 then 2 else if k=2 then 10 else 4
theorem wei_ok (k j:Nat) (hk:k < 9) (hj:j < 4):NuOk (quickZ (1+(k:Int)) (wdn j)).1 (quickZ (1+(k:Int)) (wdn j)).2:=by
 have key:∀ k:Fin 9,∀ j:Fin 4,0≤(quickZ (1+((k:Nat):Int)) (wdn j)).1∧(quickZ (1+((k:Nat):Int)) (wdn j)).1≤1000∧((quickZ (1+((k:Nat):Int)) (wdn j)).2=1∨(quickZ (1+((k:Nat):Int)) (wdn j)).2=2∨(quickZ (1+((k:Nat):Int)) (wdn j)).2=4∨(quickZ (1+((k:Nat):Int)) (wdn j)).2=5∨(quickZ (1+((k:Nat):Int)) (wdn j)).2=10):=by decide +kernel
 obtain ⟨h1,h2,h3⟩:=key ⟨k,hk⟩ ⟨j,hj⟩
 exact ⟨h1,h2,h3,quickZ_right _ _ (by unfold wdn;split;decide;split;decide;split <;> decide)⟩
end Go.Proofs.YteomcpplajeidaaGreat
