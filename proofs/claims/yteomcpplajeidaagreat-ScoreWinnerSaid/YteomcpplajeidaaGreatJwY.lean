/-
  Lemmas of this claim (JwY). Nothing is asked.
-/
import Derived.Test.YteomcpplajeidaaGreatJwX
import Derived.Deep.MidRow
set_option linter.unusedVariables false
set_option linter.unusedSimpArgs false
set_option maxRecDepth 100000
set_option maxHeartbeats 40000000
namespace Go.Proofs.YteomcpplajeidaaGreat
open Go.RowKit
theorem same64 (id most:Int) (lot:Int) (q:Nat) (w:World) (hc:w.cell? ⟨q,0,none⟩=some (iV lot)) :
 Calls Tryz.prog 64 #[.agg #[iV id,iV most],.pointer (some ⟨q,0,none⟩)] w fun e w'=>e=.returned (.bool (id == lot))∧Ext w w':=by
 have hb:=zB w _ hc
 go_in
 go_wp2
 go_ret
 exact ⟨rfl,xt⟩
theorem append_gw {α:Type} {cs:α→List Value} {sz:Nat} (hl:∀ x,(cs x).length=sz∧∀ c∈cs x,c.oneCell' = true) (T E bytes:Nat) {z:Value} (hT:Tryz.prog.underlying T=some (.slice E))
 (hinfo:(Tryz.prog.info? E).map (fun i=>(i.zero,i.size,i.bytes))=some (some z,sz,bytes)) (hz:z.cells.size=sz) (h0:0 < sz) (hby:bytes≤100000)
 {ops:Array Oper} {rest:List Oper} {o:Oper} {a:Act} {Q:Exit→Act→World→Prop} {w:World} (hgd:o.guard=none) (s x:Operand)
 (ho:o.op=.call { callee:=.builtin .append,args:=#[s,x],argTypes:=#[T,T] }) (B:Nat) (v:Value) (vs:List α) (hs:a.eval s=v) (hF:w.ownsRow B E sz v vs.length (vs.flatMap cs))
 (p:Nat) (u:α) (hx:a.eval x=.slice (some ⟨p,0,none⟩) 1 1) (hp:w.heap[p]? = some (.cells (cs u).toArray E)) (hn:vs.length < 1000000) (hB:B≤w.heap.size)
 (h:∀ g cap w',w'.ownsRow B E sz (.slice (some ⟨g,0,none⟩) (vs.length+1) cap) (vs ++ [u]).length ((vs ++ [u]).flatMap cs)→w.grownBy w' v.ownBlock→(v.ownBlock=some g∨g=w.heap.size)→wpList Tryz.prog ops Q rest (a.put o.dst (.slice (some ⟨g,0,none⟩) (vs.length+1) cap)) w'):wpList Tryz.prog ops Q (o :: rest) a w:=by
 obtain ⟨i0,hi,hz0,hz1,hz2⟩:=info_parts hinfo
 refine wpList_append_lies w hgd s x T ho B E i0 _ sz bytes hT hi hz0 hz1 hz2 hz h0 v vs.length _ hs hF ⟨p,0,none⟩ 1 1 (cs u) hx (by rw [(hl u).1,Nat.one_mul]) ?_ (hl u).2 (by decide) (by unfold maxLen;omega) ?_ hB w.heap.size rfl ?_
 ·intro j c hc
  rw [addr_add,cell_of_row w p _ _ _ _ hp]
  simpa using hc
 ·have:(vs.length+1) * bytes≤1000000 * 100000:=Nat.mul_le_mul (by omega) hby
  omega
 ·intro g cap w' hw hg hat hlt
  refine h g cap w' ?_ hg hat
  rw [List.flatMap_append,List.length_append]
  simpa using hw
def hasLot (ls:List (Int×Int)) (lot:Int):Bool:=ls.any fun l=>l.1 == lot
theorem has63_any (ls:List (Int×Int)) (lot:Int) (x:Sl) (p:Nat) (w:World) (h:SR cellsLot 2 w (slV x) ls) (hc:w.cell? ⟨p,0,none⟩=some (iV lot)) :
 Calls Tryz.prog 63 #[slV x,.func (.func 64) #[] #[.pointer (some ⟨p,0,none⟩)]] w fun e w'=>e=.returned (.bool (hasLot ls lot))∧Ext w w':=by
 have key:Calls Tryz.prog 48 #[slV x,.func (.func 64) #[] #[.pointer (some ⟨p,0,none⟩)]] w fun e w'=>e=.returned (iV (idxZ (lotP ls lot) ls.length))∧Ext w w':=by
  obtain ⟨base,n,c⟩:=x
  have hb:=zB w _ hc
  rcases Nat.eq_zero_or_pos ls.length with h0|h0
  ·obtain ⟨_,_,hf⟩:=h.form
   injection hf with _ hn _
   rw [h0] at hn ⊢
   subst hn
   exact index59_nil base c _ w
  ·have hle:=h.le
   obtain ⟨b,rfl,rfl,hcs⟩:=h.block 0 h0
   refine index59 b 0 ls.length c hle 64 _ (fun k j=>if j=0 then iV (ls.getD k (0,0)).1 else iV (ls.getD k (0,0)).2) _ w (fun k hk=>?_) (fun k hk=>?_) (fun k w' hk hx=>?_) (fun _ _=>by kernel_rfl)
   ·rw [Nat.zero_add];exact hcs k hk 0 _ (by simp [cellsLot,List.getD_eq_getElem?_getD,hk])
   ·rw [Nat.zero_add];exact hcs k hk 1 _ (by simp [cellsLot,List.getD_eq_getElem?_getD,hk])
   ·exact same64 _ _ lot p w' ((hx.cells.1 _ _ hb).trans hc)
 have hany:=idx_any (fun l:Int×Int=>l.1 == lot) ls (lotP ls lot) (fun k hk=>lotP_spec ls lot k hk)
 change _=hasLot ls lot at hany
 have HK:=zH key
 have HY:=zH hany
 clear key hany
 generalize idxZ (lotP ls lot) ls.length=z at *
 obtain ⟨x1,x2,x3⟩:=x
 go_in
 go_wp2_with (go_at_call 48;(refine HK.out.mono ?_);rintro e w1 ⟨rfl,hx1⟩)
 go_ret
 exact ⟨by rw [← HY.out];rfl,xt⟩
def ownE (lot:Int) (xs:List ER):List ER:=xs.filter fun x=>x.1.lot == lot
def errE (ls:List (Int×Int)) (lot:Int) (own:List ER):Int:=
 if hasLot ls lot=false then 34
 else if 40 < own.length then 2
 else if (own.map fun x=>x.1.bid).Nodup∧(own.map fun x=>x.1.rec_).Nodup then 0 else 33
theorem row_form {w:World} {B E sz n:Nat} {v:Value} {xs:List Value} (h:w.ownsRow B E sz v n xs):∃ b c,v=.slice b n c:=by
 rcases h.2 with ⟨h1,h2⟩|⟨g,cap,cur,h1,-⟩
 ·exact ⟨none,0,by rw [h1,h2]⟩
 ·exact ⟨_,_,h1⟩
structure ES (w wr:World) (G m1 m2:Nat) (lot:Int) (ov:Value) (own:List ER):Prop where
 low:Ext w wr
 box:wr.heap[G]? = some (.cells #[iV lot] 3)
 row:wr.ownsRow w.heap.size 57 5 ov own.length (own.flatMap cellsEn)
 k1:KM wr m1 (keysL (own.map fun x=>x.1.bid))
 k2:KM wr m2 (keysL (own.map fun x=>x.1.rec_))
 ne:m1≠m2
 b1:w.heap.size≤m1
 b2:w.heap.size≤m2
theorem ES.ext {w wr w':World} {G m1 m2:Nat} {lot:Int} {ov:Value} {own:List ER} (h:ES w wr G m1 m2 lot ov own) (x:Ext wr w'):ES w w' G m1 m2 lot ov own:=
 ⟨h.low.trans x,(x.block _ (zL h.box)).trans h.box,row_ext h.row x,h.k1.ext x,h.k2.ext x,h.ne,h.b1,h.b2⟩
theorem KM.obj {w:World} {b:Nat} {ks:List Int} (h:KM w b ks):∃ es c,w.heap[b]? = some (.map es c):=by
 obtain ⟨l,⟨-,-,es,c,hb,-⟩,-⟩:=h
 exact ⟨es,c,hb⟩
theorem row_obj {w:World} {B E sz n b:Nat} {v:Value} {xs:List Value} (h:w.ownsRow B E sz v n xs) (hb:v.ownBlock=some b):∃ cs,w.heap[b]? = some (.cells cs E):=by
 rcases h.2 with ⟨h1,-⟩|⟨g,cap,cur,rfl,-,hg,-⟩
 ·rw [h1] at hb;cases hb
 ·injection hb with hb
  subst hb
  exact ⟨cur,hg⟩
theorem ext_grown {w wr w':World} {o:Option Nat} (h:Ext w wr) (hg:wr.grownBy w' o) (ho:∀ b,o=some b→w.heap.size≤b):Ext w w':=
 ⟨hg.os.trans h.os,hg.tape.trans h.tape,hg.output.trans h.output,Nat.le_trans h.size hg.size,fun i hi=>(hg.block i (Nat.lt_of_lt_of_le hi h.size) (fun e=>by have:=ho i e.symm;omega)).trans (h.block i hi)⟩
theorem entries_any (r:TnR) (ls:List (Int×Int)) (lot:Int) (v:Value) (xs:List ER) (w:World) (h1:SR cellsLot 2 w (slV r.ls) ls) (hv:SR cellsEn 5 w v xs) (hI:∀ x∈xs,OkI x.1.bid∧OkI x.1.rec_) (hxl:xs.length≤100000) :
 Calls Tryz.prog 38 #[.agg (tenC r),iV lot,v] w fun e w'=>∃ v',e=.returned (.tuple #[v',iV (errE ls lot (ownE lot xs))])∧Ext w w'∧(errE ls lot (ownE lot xs)=0→w'.ownsRow w.heap.size 57 5 v' (ownE lot xs).length ((ownE lot xs).flatMap cellsEn)):=by
 obtain ⟨base,cap,rfl⟩:=hv.form
 have HV:=zH hv;have HI:=zH hI;have HXL:=zH hxl
 obtain ⟨W1,hW1⟩:∃ W1,W1=(w.alloc (.cells (tenC r) 39)).alloc (.cells #[iV lot] 3):=⟨_,rfl⟩
 have hx1:Ext w W1:=by rw [hW1];exact Ext.alloc (Ext.alloc (Ext.refl _) _) _
 have g3:W1.heap[w.heap.size]? = some (.cells (tenC r) 39):=by rw [hW1];exact al (block_new rfl)
 have g4:W1.heap[w.heap.size+1]? = some (.cells #[iV lot] 3):=by rw [hW1];exact block_new (by simp)
 have c1:W1.cell? ⟨w.heap.size,1,none⟩=some (slV r.ls):=cell_of_row W1 _ 1 _ _ _ g3
 have c4:W1.cell? ⟨w.heap.size+1,0,none⟩=some (iV lot):=cell_of_row W1 _ 0 _ _ _ g4
 have HH:=zH (fun wz (hw:Ext w wz) p (hc:wz.cell? ⟨p,0,none⟩=some (iV lot))=>has63_any ls lot r.ls p wz (h1.ext hw) hc)
 have l3:=zL g3;have l4:=zL g4
 have HX1:=zH hx1
 obtain ⟨la,ll,lc,hls⟩:∃ a l c,r.ls=(a,l,c):=⟨_,_,_,rfl⟩
 rw [hls] at c1 HH
 have HG4:=zH g4
 clear h1 hv hI hxl g3 g4 hx1 hls
 go_in
 go_upto_region 1 with (fail)
 rw [← hW1]
 clear hW1
 obtain ⟨G4,hG4⟩:∃ x,x=w.heap.size+1:=⟨_,rfl⟩
 obtain ⟨G3,hG3⟩:∃ x,x=w.heap.size:=⟨_,rfl⟩
 rw [← hG4] at c4 l4 HG4 ⊢
 rw [← hG3] at c1 l3 ⊢
 have HG3:=zH hG3
 clear hG4 hG3
 cases hh:hasLot ls lot with
 | false=>
  have HE:Hid (errE ls lot (ownE lot xs)=34):=zH (by unfold errE;rw [if_pos hh])
  rw [hh] at HH
  clear hh
  go_wp2_with (go_at_call 63;(refine (HH.out _ HX1.out _ c4).mono ?_);rintro e w2 ⟨rfl,hx2⟩;have HX2:=zH hx2;clear hx2)
  go_ret2
  exact ⟨_,by rw [HE.out];rfl,HX1.out.trans HX2.out,fun h=>by rw [HE.out] at h;cases h⟩
 | true=>
  have HE:Hid (errE ls lot (ownE lot xs)=if 40 < (ownE lot xs).length then 2 else if ((ownE lot xs).map fun x=>x.1.bid).Nodup∧((ownE lot xs).map fun x=>x.1.rec_).Nodup then 0 else 33):=zH (by unfold errE;rw [if_neg (by rw [hh];decide)])
  rw [hh] at HH
  clear hh
  have hmm:∀ W:World,(Instr.makeMap 132 none).run Tryz.prog W=.ok (.map (some W.heap.size)) (W.alloc (.map #[] 0)):=fun _=>rfl
  go_upto_region 5 with (go_at_call 63;(refine (HH.out _ HX1.out _ c4).mono ?_);rintro e w2 ⟨rfl,hx2⟩;have HX2:=zH hx2;have hsz2:w.heap.size≤w2.heap.size:=(HX1.out.trans hx2).size;have HB4:=zH ((hx2.block _ l4).trans HG4.out);clear hx2)
  clear hmm
  have hs0:ES w ((w2.alloc (.map #[] 0)).alloc (.map #[] 0)) G4 w2.heap.size (w2.heap.size+1) lot (.slice none 0 0) []:=by
   have hb4:w2.heap[G4]? = some (.cells #[iV lot] 3):=HB4.out
   refine ⟨(HX1.out.trans HX2.out).trans (Ext.alloc (Ext.alloc (Ext.refl _) _) _),al (al hb4),World.ownsRow_nil _ _ _ _,(KM.made w2).ext (Ext.alloc (Ext.refl _) _),?_,by omega,hsz2,by omega⟩
   have:=KM.made (w2.alloc (.map #[] 0))
   rw [World.size_alloc] at this
   exact this
  have HS0:=zH hs0
  clear hs0
  obtain ⟨m2,hm2⟩:∃ x,x=w2.heap.size+1:=⟨_,rfl⟩
  obtain ⟨m1,hm1⟩:∃ x,x=w2.heap.size:=⟨_,rfl⟩
  rw [← hm2] at HS0 ⊢
  rw [← hm1] at HS0 ⊢
  clear hm2 hm1 HB4 HX2 HX1 c1 c4 l3 l4 hsz2
  generalize (w2.alloc (.map #[] 0)).alloc (.map #[] 0)=w3 at *
  go_upto_region 6 with (fail)
  go_loopw [8,22] (fun ov iv wr=>∃ i:Nat,iv=iV i∧i≤xs.length∧Hid (ES w wr G4 m1 m2 lot ov (ownE lot (xs.take i)))) (fun _ iv _=>xs.length - (iof iv).toNat)
  case atStart=>exact ⟨0,rfl,Nat.zero_le _,HS0⟩
  case round=>
   obtain ⟨i,rfl,hi,HS⟩:=hrel
   by_cases hil:i < xs.length
   ·obtain ⟨bb,rfl,hcs⟩:=HV.out.at HS.out.low i hil
    have hTK:ownE lot (xs.take (i+1))=ownE lot (xs.take i) ++ (if xs[i].1.lot == lot then [xs[i]] else []):=by
     unfold ownE
     rw [List.take_succ_eq_append_getElem hil,List.filter_append,List.filter_cons,List.filter_nil]
    have HTK:=zH hTK
    have HOK:=zH (HI.out xs[i] (List.getElem_mem hil))
    have HOL:Hid ((ownE lot (xs.take i)).length < 1000000):=zH (by
     have h1:=List.length_filter_le (fun x:ER=>x.1.lot == lot) (xs.take i)
     have h2:=HXL.out
     have h3:(xs.take i).length≤xs.length:=by rw [List.length_take];omega
     unfold ownE
     omega)
    clear hTK
    generalize ownE lot (xs.take i)=own at *
    have e0:=hcs 0 _ rfl;have e1:=hcs 1 _ rfl;have e2:=hcs 2 _ rfl;have e3:=hcs 3 _ rfl;have e4:=hcs 4 _ rfl
    clear hcs
    generalize xs[i]=x at *
    obtain ⟨⟨x0,x1,x2,x3,xv⟩,xa,xl,xc⟩:=x
    simp only [Nat.add_zero] at e0 e1 e2 e3 e4 HTK HOK
    have hbl:=zB wr _ e1
    have hili:(i:Int) < (xs.length:Int):=by omega
    have hib:i≤100000:=by have:=HXL.out;omega
    have b0:=cell_of_row wr G4 0 _ _ _ HS.out.box
    have l4:=zL HS.out.box
    change wr.cell? _=some (iV lot) at b0
    by_cases hlq:x1=lot
    ·subst hlq
     have hbq:(x1 == x1)=true:=by simp
     rw [hbq] at HTK
     go_upto_region 9 with (fail)
     have HS4:=zH (HS.out.ext (Ext.alloc (Ext.refl wr) (.cells #[iV x0,iV x1,iV x2,iV x3,.slice xa xl xc] 57)))
     have hb4:(wr.alloc (.cells #[iV x0,iV x1,iV x2,iV x3,.slice xa xl xc] 57)).heap[wr.heap.size]? = some (.cells #[iV x0,iV x1,iV x2,iV x3,.slice xa xl xc] 57):=block_new rfl
     have HOB:Hid (∀ b,u8.ownBlock=some b→b≠wr.heap.size):=zH fun b e=>by have:=(HS.out.row.lt b e).2;omega
     have HB4:=zH hb4
     clear hb4 e0 e1 e2 e3 e4 b0 l4 hbl
     obtain ⟨px,hpx⟩:∃ x,x=wr.heap.size:=⟨_,rfl⟩
     rw [← hpx] at HB4 HOB ⊢
     clear hpx
     generalize wr.alloc (.cells #[iV x0,iV x1,iV x2,iV x3,.slice xa xl xc] 57)=w4 at *
     obtain ⟨d0,d1,d2,d3,d4,-⟩:=cells_five HB4.out
     have lpx:=zL HB4.out
     have hat:(w4.alloc (.cells #[iV x0,iV x1,iV x2,iV x3,.slice xa xl xc] 57)).heap[w4.heap.size]? = some (.cells #[iV x0,iV x1,iV x2,iV x3,.slice xa xl xc] 57):=block_new rfl
     have HAT:=zH hat
     have HSA:=zH (HS4.out.ext (Ext.alloc (Ext.refl w4) (.cells #[iV x0,iV x1,iV x2,iV x3,.slice xa xl xc] 57)))
     have HBA:=zH (al (o':=.cells #[iV x0,iV x1,iV x2,iV x3,.slice xa xl xc] 57) HB4.out)
     clear hat
     go_upto_region 10 with (at_builtin;refine append_gw (cs:=cellsEn) (z:=.agg #[iV 0,iV 0,iV 0,iV 0,.slice none 0 0]) one_en 41 57 56 Tryz.underlying41 (by kernel_rfl) (by rfl) (by decide) (by decide) rfl (.tmp 30) (.tmp 32) rfl w.heap.size u8 own (by rfl) HSA.out.row w4.heap.size (⟨x0,x1,x2,x3,xv⟩,xa,xl,xc) (by rfl) HAT.out HOL.out HSA.out.low.size ?_;intro g7 cap7 w7 hr7 hg7 hat7;have HR7:=zH hr7;have HG7:=zH hg7;clear hr7 hg7 hat7)
     have hm1:u8.ownBlock≠some m1:=fun e=>by
      obtain ⟨cs,h1⟩:=row_obj HSA.out.row e
      obtain ⟨es,c,h2⟩:=HSA.out.k1.obj
      rw [h1] at h2;cases h2
     have hm2:u8.ownBlock≠some m2:=fun e=>by
      obtain ⟨cs,h1⟩:=row_obj HSA.out.row e
      obtain ⟨es,c,h2⟩:=HSA.out.k2.obj
      rw [h1] at h2;cases h2
     have hg4:u8.ownBlock≠some G4:=fun e=>by
      obtain ⟨cs,h1⟩:=row_obj HSA.out.row e
      rw [HSA.out.box] at h1;cases h1
     have HK1:=zH (HSA.out.k1.kept HG7.out (Ne.symm hm1))
     have HK2:=zH (HSA.out.k2.kept HG7.out (Ne.symm hm2))
     have HX4:=zH ((HG7.out.block G4 (zL HSA.out.box) (Ne.symm hg4)).trans HSA.out.box)
     have HPX:=zH ((HG7.out.block px (zL HBA.out) (fun e=>HOB.out px e.symm rfl)).trans HBA.out)
     have HL7:=zH (ext_grown HSA.out.low HG7.out (fun b e=>(HSA.out.row.lt b e).1))
     have HM:=zH (show m1≠m2∧w.heap.size≤m1∧w.heap.size≤m2 from ⟨HS.out.ne,HS.out.b1,HS.out.b2⟩)
     have hp1:px≠m1:=fun e=>by
      obtain ⟨es,c,h2⟩:=HK1.out.obj
      rw [← e,HPX.out] at h2;cases h2
     have hp2:px≠m2:=fun e=>by
      obtain ⟨es,c,h2⟩:=HK2.out.obj
      rw [← e,HPX.out] at h2;cases h2
     clear hm1 hm2 hg4 d0 d1 d2 d3 d4 lpx
     obtain ⟨d0,d1,d2,d3,d4,-⟩:=cells_five HPX.out
     have lpx:=zL HPX.out
     have HPM:=zH (show _∧_ from ⟨hp1,hp2⟩)
     clear hp1 hp2 HG7 HSA HBA HAT HS4 HB4 HOB HOL
     obtain ⟨wa,hra,hka,hga⟩:=(HK1.out.ext (Ext.drew (Ext.refl w7))).put HOK.out.1
     have kS:wa.cell? ⟨px,0,none⟩=some (iV x0)∧wa.cell? ⟨px,2,none⟩=some (iV x2):=⟨(World.cell?_of_block (hga.block px lpx (fun e=>HPM.out.1 (by injection e)))).trans d0,(World.cell?_of_block (hga.block px lpx (fun e=>HPM.out.1 (by injection e)))).trans d2⟩
     have hk2:KM wa m2 _:=(HK2.out.ext (Ext.drew (Ext.refl w7))).kept hga (fun e=>HM.out.1 (by injection e with e;exact e.symm))
     obtain ⟨wb,hrb,hkb,hgb⟩:=hk2.put HOK.out.2
     have kS2:wb.cell? ⟨px,0,none⟩=some (iV x0)∧wb.cell? ⟨px,2,none⟩=some (iV x2):=⟨(World.cell?_of_block (hgb.block px (Nat.lt_of_lt_of_le lpx hga.size) (fun e=>HPM.out.2 (by injection e)))).trans kS.1,(World.cell?_of_block (hgb.block px (Nat.lt_of_lt_of_le lpx hga.size) (fun e=>HPM.out.2 (by injection e)))).trans kS.2⟩
     have HKA:=zH hka;have HKB:=zH hkb;have HGA:=zH hga;have HGB:=zH hgb
     clear hka hkb hga hgb hk2
     go_region_held3 (fun w'=>w'.cell? ⟨px,0,none⟩=some (iV x0)∧w'.cell? ⟨px,2,none⟩=some (iV x2))
      (first|exact ⟨d0,d2⟩|exact kS|exact kS2|go_keep)
      (first|fail)
     have hne:∀ (bx mx:Nat) (cs:Array Value) (T:TypeId) (ks:List Int),w7.heap[bx]? = some (.cells cs T)→KM w7 mx ks→bx≠mx:=fun bx mx cs T ks h1 h2 e=>by
      obtain ⟨es,c,h3⟩:=h2.obj
      rw [← e,h1] at h3;cases h3
     have hdr:Ext w7 w7.drew:=Ext.drew (Ext.refl w7)
     have hblk:∀ (bx:Nat) (cs:Array Value) (T:TypeId),w7.heap[bx]? = some (.cells cs T)→wb.heap[bx]? = some (.cells cs T):=fun bx cs T h=>by
      have h1:=(hdr.block _ (zL h)).trans h
      have h2:=(HGA.out.block bx (zL h1) (fun e=>hne bx m1 cs T _ h HK1.out (by injection e))).trans h1
      exact (HGB.out.block bx (zL h2) (fun e=>hne bx m2 cs T _ h HK2.out (by injection e))).trans h2
     have hlow:Ext w wb:=ext_grown (ext_grown (HL7.out.trans hdr) HGA.out (fun b e=>by injection e with e;rw [← e];exact HM.out.2.1)) HGB.out (fun b e=>by injection e with e;rw [← e];exact HM.out.2.2)
     have HES:Hid (ES w wb G4 m1 m2 x1 (.slice (some ⟨g7,0,none⟩) (own.length+1) cap7) (own ++ [(⟨x0,x1,x2,x3,xv⟩,xa,xl,xc)])):=zH ⟨hlow,hblk _ _ _ HX4.out,row_move HR7.out (fun b hb hl=>by
      obtain ⟨cs,hc⟩:=row_obj HR7.out hb
      rw [hblk _ _ _ hc,hc]),by
      rw [List.map_append,List.map_cons,List.map_nil,keysL_snoc]
      exact HKA.out.kept HGB.out (fun e=>HM.out.1 (by injection e)),by
      rw [List.map_append,List.map_cons,List.map_nil,keysL_snoc]
      exact HKB.out,HM.out.1,HM.out.2.1,HM.out.2.2⟩
     clear hne hdr hblk hlow kS kS2 hra hrb
     go_wp2_with (fail)
     exact ⟨⟨i+1,by rfl,by omega,zH (by rw [HTK.out];exact HES.out)⟩,by simp [iof];omega⟩
    ·have hbq:(x1 == lot)=false:=by simp [hlq]
     rw [hbq] at HTK
     go_wp2_with (fail)
     exact ⟨⟨i+1,by rfl,by omega,zH (by rw [HTK.out];simpa using HS.out.ext xt)⟩,by simp [iof];omega⟩
   ·obtain rfl:i=xs.length:=by omega
    rw [List.take_length] at HS
    have HOL:Hid ((ownE lot xs).length≤100000):=zH (by
     have h1:=List.length_filter_le (fun x:ER=>x.1.lot == lot) xs
     have h2:=HXL.out
     unfold ownE
     omega)
    obtain ⟨own,ho⟩:∃ own,own=ownE lot xs:=⟨_,rfl⟩
    rw [← ho] at HS HOL HE
    have HOO:=zH ho
    clear ho
    obtain ⟨ob,oc,hof⟩:=row_form HS.out.row
    subst hof
    have q1:=HS.out.k1.len 3
    have q2:=HS.out.k2.len 3
    obtain ⟨f1,f2⟩:=keysL_len (own.map fun x=>x.1.bid)
    obtain ⟨f3,f4⟩:=keysL_len (own.map fun x=>x.1.rec_)
    rw [List.length_map] at f1 f2 f3 f4
    have HF:=zH (show _∧_ from ⟨f2,f4⟩)
    have HFL:=zH (show _∧_ from ⟨f1,f3⟩)
    clear f1 f2 f3 f4
    obtain ⟨n1,hn1⟩:∃ n,n=(keysL (own.map fun x=>x.1.bid)).length:=⟨_,rfl⟩
    obtain ⟨n2,hn2⟩:∃ n,n=(keysL (own.map fun x=>x.1.rec_)).length:=⟨_,rfl⟩
    rw [← hn1] at q1 HF HFL
    rw [← hn2] at q2 HF HFL
    have hL:=HOL.out
    have hN:=HFL.out
    clear hn1 hn2
    by_cases h40:40 < own.length
    ·have h40i:(40:Int) < (own.length:Int):=by omega
     have HR:Hid (errE ls lot own=2):=zH (by rw [HE.out,if_pos h40])
     go_wp2_with (fail)
     go_ret2
     exact ⟨_,by rw [← HOO.out,HR.out];rfl,HS.out.low,fun h=>by rw [← HOO.out,HR.out] at h;cases h⟩
    ·have h40i:¬ (40:Int) < (own.length:Int):=by omega
     by_cases d1:n1 < own.length
     ·have d1i:(n1:Int) < (own.length:Int):=by omega
      have HR:Hid (errE ls lot own=33):=zH (by rw [HE.out,if_neg h40,if_neg (fun h=>HF.out.1.1 d1 h.1)])
      go_wp2_with (fail)
      go_ret2
      exact ⟨_,by rw [← HOO.out,HR.out];rfl,HS.out.low,fun h=>by rw [← HOO.out,HR.out] at h;cases h⟩
     ·have d1i:¬ (n1:Int) < (own.length:Int):=by omega
      by_cases d2:n2 < own.length
      ·have d2i:(n2:Int) < (own.length:Int):=by omega
       have HR:Hid (errE ls lot own=33):=zH (by rw [HE.out,if_neg h40,if_neg (fun h=>HF.out.2.1 d2 h.2)])
       go_wp2_with (fail)
       go_ret2
       exact ⟨_,by rw [← HOO.out,HR.out];rfl,HS.out.low,fun h=>by rw [← HOO.out,HR.out] at h;cases h⟩
      ·have d2i:¬ (n2:Int) < (own.length:Int):=by omega
       have HR:Hid (errE ls lot own=0):=zH (by rw [HE.out,if_neg h40,if_pos ⟨Decidable.not_not.1 (fun h=>d1 (HF.out.1.2 h)),Decidable.not_not.1 (fun h=>d2 (HF.out.2.2 h))⟩])
       go_wp2_with (fail)
       go_ret2
       exact ⟨_,by rw [← HOO.out,HR.out];rfl,HS.out.low,fun _=>by rw [← HOO.out];exact HS.out.row⟩
theorem range_of {w:World} {b:Nat} {row:Array Value} {t:TypeId} {fr:Nat×Nat} (h:w.heap[b]? = some (.cells row t fr)) (o:Nat) (cs:List Value) (hc:∀ j v,cs[j]? = some v→row[o+j]? = some v):w.rangeAt b o cs:=fun j v hv=>by
 rw [← hc j v hv]
 exact cell_of_row w b (o+j) _ _ _ h
def ltS (cs:List Cr) (ts:List ByteArray) (x y:Sc):Bool:=betF cs ts x.e y.e x.p y.p
def cmpS (cs:List Cr) (ts:List ByteArray) (x y:Sc):Int:=if ltS cs ts x y then -1 else if ltS cs ts y x then 1 else 0
theorem cmpS_neg (cs:List Cr) (ts:List ByteArray) (x y:Sc):decide (cmpS cs ts x y < 0)=ltS cs ts x y:=by
 unfold cmpS
 cases ltS cs ts x y
 ·rw [if_neg (by decide)]
  split <;> rfl
 ·rfl
def ScV (w:World) (x:Sc):Prop:=VRd All w x.e.vs (slV x.s)∧I2 x.p
theorem compareS_any (r:TnR) (cs:List Cr) (ts:List ByteArray) (x y:Sc) (w:World) (h2:SR cellsCr 5 w (slV r.cs) cs) (h4:SR strC 1 w (slV r.ts) ts) (hx:ScV w x) (hy:ScV w y) :
 Calls Tryz.prog 40 #[.agg (tenC r),.agg x.cs.toArray,.agg y.cs.toArray] w fun e w'=>e=.returned (iV (cmpS cs ts x y))∧Ext w w':=by
 have HXY:=zH (fun wz (hw:Ext w wz)=>Better_any r cs ts x.e y.e x.s y.s x.p y.p hx.2 hy.2 wz (h2.ext hw) (h4.ext hw) (VRd.ext hw hx.1) (VRd.ext hw hy.1))
 have HYX:=zH (fun wz (hw:Ext w wz)=>Better_any r cs ts y.e x.e y.s x.s y.p x.p hy.2 hx.2 wz (h2.ext hw) (h4.ext hw) (VRd.ext hw hy.1) (VRd.ext hw hx.1))
 change Hid (∀ wz,Ext w wz→Calls Tryz.prog 20 _ wz fun e w'=>e=.returned (.bool (ltS cs ts x y))∧Ext wz w') at HXY
 change Hid (∀ wz,Ext w wz→Calls Tryz.prog 20 _ wz fun e w'=>e=.returned (.bool (ltS cs ts y x))∧Ext wz w') at HYX
 have HC:Hid (cmpS cs ts x y=if ltS cs ts x y then -1 else if ltS cs ts y x then 1 else 0):=zH rfl
 generalize ltS cs ts x y=b1 at *
 generalize ltS cs ts y x=b2 at *
 obtain ⟨⟨x0,x1,x2,x3,xv⟩,⟨xa,xl,xc⟩,⟨x5,x6⟩⟩:=x
 obtain ⟨⟨y0,y1,y2,y3,yv⟩,⟨ya,yl,yc⟩,⟨y5,y6⟩⟩:=y
 simp only [Sc.cs]
 clear hx hy h2 h4
 obtain ⟨W1,hW1⟩:∃ W1,W1=((w.alloc (.cells (tenC r) 104)).alloc (.cells #[iV x0,iV x1,iV x2,iV x3,.slice xa xl xc,iV x5,iV x6] 100)).alloc (.cells #[iV y0,iV y1,iV y2,iV y3,.slice ya yl yc,iV y5,iV y6] 100):=⟨_,rfl⟩
 have hx1:Ext w W1:=by rw [hW1];exact Ext.alloc (Ext.alloc (Ext.alloc (Ext.refl _) _) _) _
 have g3:W1.heap[w.heap.size]? = some (.cells (tenC r) 104):=by rw [hW1];exact al (al (block_new rfl))
 have g4:W1.heap[w.heap.size+1]? = some (.cells #[iV x0,iV x1,iV x2,iV x3,.slice xa xl xc,iV x5,iV x6] 100):=by rw [hW1];exact al (block_new (by simp))
 have g5:W1.heap[w.heap.size+1+1]? = some (.cells #[iV y0,iV y1,iV y2,iV y3,.slice ya yl yc,iV y5,iV y6] 100):=by rw [hW1];exact block_new (by simp)
 go_in
 go_upto_region 1 with (fail)
 rw [← hW1]
 clear hW1
 obtain ⟨G5,hG5⟩:∃ x,x=w.heap.size+1+1:=⟨_,rfl⟩
 obtain ⟨G4,hG4⟩:∃ x,x=w.heap.size+1:=⟨_,rfl⟩
 obtain ⟨G3,hG3⟩:∃ x,x=w.heap.size:=⟨_,rfl⟩
 rw [← hG5] at g5 ⊢
 rw [← hG4] at g4 ⊢
 rw [← hG3] at g3 ⊢
 clear hG5 hG4 hG3
 have HG:Hid (∀ W,Ext W1 W→W.heap[G3]? = some (.cells (tenC r) 104)∧W.heap[G4]? = some (.cells #[iV x0,iV x1,iV x2,iV x3,.slice xa xl xc,iV x5,iV x6] 100)∧W.heap[G5]? = some (.cells #[iV y0,iV y1,iV y2,iV y3,.slice ya yl yc,iV y5,iV y6] 100)):=zH fun W hW=>⟨(hW.block _ (zL g3)).trans g3,(hW.block _ (zL g4)).trans g4,(hW.block _ (zL g5)).trans g5⟩
 have HX:=zH hx1
 have HX0:=zH (Ext.refl W1)
 clear g3 g4 g5 hx1
 obtain ⟨row,hrow⟩:∃ row,row=(tenC r).toList:=⟨_,rfl⟩
 have hrs:row.length=20:=by rw [hrow];rfl
 have HRT:Hid (row.toArray=tenC r):=zH (by rw [hrow])
 have HRG:Hid (∀ W,Ext W1 W→W.rangeAt G3 0 row):=zH fun W hW=>range_of (HG.out W hW).1 0 row (fun j v hv=>by rw [hrow] at hv;simpa using hv)
 rw [← HRT.out] at HXY HYX
 clear hrow
 obtain ⟨e0,e1,e2,e3,e4,e5,e6⟩:=(show _∧_∧_∧_∧_∧_∧_ from ⟨cell_of_row _ G4 0 _ _ _ (HG.out _ HX0.out).2.1,cell_of_row _ G4 1 _ _ _ (HG.out _ HX0.out).2.1,cell_of_row _ G4 2 _ _ _ (HG.out _ HX0.out).2.1,cell_of_row _ G4 3 _ _ _ (HG.out _ HX0.out).2.1,cell_of_row _ G4 4 _ _ _ (HG.out _ HX0.out).2.1,cell_of_row _ G4 5 _ _ _ (HG.out _ HX0.out).2.1,cell_of_row _ G4 6 _ _ _ (HG.out _ HX0.out).2.1⟩)
 obtain ⟨f0,f1,f2,f3,f4,f5,f6⟩:=(show _∧_∧_∧_∧_∧_∧_ from ⟨cell_of_row _ G5 0 _ _ _ (HG.out _ HX0.out).2.2,cell_of_row _ G5 1 _ _ _ (HG.out _ HX0.out).2.2,cell_of_row _ G5 2 _ _ _ (HG.out _ HX0.out).2.2,cell_of_row _ G5 3 _ _ _ (HG.out _ HX0.out).2.2,cell_of_row _ G5 4 _ _ _ (HG.out _ HX0.out).2.2,cell_of_row _ G5 5 _ _ _ (HG.out _ HX0.out).2.2,cell_of_row _ G5 6 _ _ _ (HG.out _ HX0.out).2.2⟩)
 have l3:=zL (HG.out _ HX0.out).1
 have l4:=zL (HG.out _ HX0.out).2.1
 have l5:=zL (HG.out _ HX0.out).2.2
 simp only [List.getElem?_toArray,List.getElem?_cons_zero,List.getElem?_cons_succ] at e0 e1 e2 e3 e4 e5 e6 f0 f1 f2 f3 f4 f5 f6
 cases b1 with
 | true=>
  go_wp2_with
   (first
     |(refine wpList_load_mid rfl 39 (.tmp 8) rfl G3 0 (by rfl) row _ (HRG.out _ HX0.out) Tryz.underlying39 rfl (by rw [hrs];kernel_rfl) ?_)
     |(go_at_call 20;(with_reducible refine (HXY.out _ (HX.out.trans HX0.out)).mono ?_);rintro e W2 ⟨rfl,hx2⟩;have HX0:=zH (HX0.out.trans hx2);clear hx2))
  go_ret
  exact ⟨by rw [HC.out];rfl,HX.out.trans HX0.out⟩
 | false=>
  go_upto_region 3 with
   (first
     |(refine wpList_load_mid rfl 39 (.tmp 8) rfl G3 0 (by rfl) row _ (HRG.out _ HX0.out) Tryz.underlying39 rfl (by rw [hrs];kernel_rfl) ?_)
     |(go_at_call 20;(with_reducible refine (HXY.out _ (HX.out.trans HX0.out)).mono ?_);rintro e W2 ⟨rfl,hx2⟩;have HX0:=zH (HX0.out.trans hx2);clear hx2))
  obtain ⟨e0,e1,e2,e3,e4,e5,e6⟩:=(show _∧_∧_∧_∧_∧_∧_ from ⟨cell_of_row _ G4 0 _ _ _ (HG.out _ HX0.out).2.1,cell_of_row _ G4 1 _ _ _ (HG.out _ HX0.out).2.1,cell_of_row _ G4 2 _ _ _ (HG.out _ HX0.out).2.1,cell_of_row _ G4 3 _ _ _ (HG.out _ HX0.out).2.1,cell_of_row _ G4 4 _ _ _ (HG.out _ HX0.out).2.1,cell_of_row _ G4 5 _ _ _ (HG.out _ HX0.out).2.1,cell_of_row _ G4 6 _ _ _ (HG.out _ HX0.out).2.1⟩)
  obtain ⟨f0,f1,f2,f3,f4,f5,f6⟩:=(show _∧_∧_∧_∧_∧_∧_ from ⟨cell_of_row _ G5 0 _ _ _ (HG.out _ HX0.out).2.2,cell_of_row _ G5 1 _ _ _ (HG.out _ HX0.out).2.2,cell_of_row _ G5 2 _ _ _ (HG.out _ HX0.out).2.2,cell_of_row _ G5 3 _ _ _ (HG.out _ HX0.out).2.2,cell_of_row _ G5 4 _ _ _ (HG.out _ HX0.out).2.2,cell_of_row _ G5 5 _ _ _ (HG.out _ HX0.out).2.2,cell_of_row _ G5 6 _ _ _ (HG.out _ HX0.out).2.2⟩)
  have l3:=zL (HG.out _ HX0.out).1
  have l4:=zL (HG.out _ HX0.out).2.1
  have l5:=zL (HG.out _ HX0.out).2.2
  simp only [List.getElem?_toArray,List.getElem?_cons_zero,List.getElem?_cons_succ] at e0 e1 e2 e3 e4 e5 e6 f0 f1 f2 f3 f4 f5 f6
  cases b2 with
  | true=>
   go_wp2_with (first
    |(refine wpList_load_mid rfl 39 (.tmp 20) rfl G3 0 (by rfl) row _ (HRG.out _ HX0.out) Tryz.underlying39 rfl (by rw [hrs];kernel_rfl) ?_)
    |(go_at_call 20;(with_reducible refine (HYX.out _ (HX.out.trans HX0.out)).mono ?_);rintro e W3 ⟨rfl,hx3⟩;have HX0:=zH (HX0.out.trans hx3);clear hx3))
   go_ret
   exact ⟨by rw [HC.out];rfl,HX.out.trans HX0.out⟩
  | false=>
   go_wp2_with (first
    |(refine wpList_load_mid rfl 39 (.tmp 20) rfl G3 0 (by rfl) row _ (HRG.out _ HX0.out) Tryz.underlying39 rfl (by rw [hrs];kernel_rfl) ?_)
    |(go_at_call 20;(with_reducible refine (HYX.out _ (HX.out.trans HX0.out)).mono ?_);rintro e W3 ⟨rfl,hx3⟩;have HX0:=zH (HX0.out.trans hx3);clear hx3))
   go_ret
   exact ⟨by rw [HC.out];rfl,HX.out.trans HX0.out⟩
end Go.Proofs.YteomcpplajeidaaGreat
namespace Go.Proofs.YteomcpplajeidaaGreat
section
variable {α:Type} (lt:α→α→Bool)
def insRv (x:α):List α→List α
 | []=>[x]
 | y :: ys=>if lt x y then y :: insRv x ys else x :: y :: ys
def insR (x:α) (A:List α):List α:=(insRv lt x A.reverse).reverse
theorem insR_nil (x:α):insR lt x []=[x]:=rfl
theorem insR_snoc (x y:α) (A:List α):insR lt x (A ++ [y])=if lt x y then insR lt x A ++ [y] else A ++ [y] ++ [x]:=by
 unfold insR
 rw [List.reverse_append]
 simp only [List.reverse_cons,List.reverse_nil,List.nil_append,List.cons_append,insRv]
 split
 ·simp
 ·simp
theorem insRv_perm (x:α):∀ A:List α,(insRv lt x A).Perm (x :: A)
 | []=>.refl _
 | y :: ys=>by
  unfold insRv
  split
  ·exact ((insRv_perm x ys).cons y).trans (.swap x y ys)
  ·exact .refl _
theorem insR_perm (x:α) (A:List α):(insR lt x A).Perm (x :: A):=
 (List.reverse_perm _).trans ((insRv_perm lt x _).trans ((List.reverse_perm A).cons x))
def isort (zs:List α):List α:=zs.foldl (fun acc x=>insR lt x acc) []
theorem isort_snoc (zs:List α) (x:α):isort lt (zs ++ [x])=insR lt x (isort lt zs):=by
 unfold isort
 rw [List.foldl_append]
 rfl
theorem isort_perm_acc:∀ (zs acc:List α),(zs.foldl (fun acc x=>insR lt x acc) acc).Perm (acc ++ zs)
 | [],acc=>by simp
 | x :: zs,acc=>by
  rw [List.foldl_cons]
  refine (isort_perm_acc zs _).trans ?_
  refine ((insR_perm lt x acc).append_right zs).trans ?_
  exact List.perm_middle.symm
theorem isort_perm (zs:List α):(isort lt zs).Perm zs:=isort_perm_acc lt zs []
theorem isort_len (zs:List α):(isort lt zs).length=zs.length:=(isort_perm lt zs).length_eq
theorem isort_take (zs:List α) (i:Nat) (h:i < zs.length):isort lt (zs.take (i+1))=insR lt zs[i] (isort lt (zs.take i)):=by
 rw [List.take_succ_eq_append_getElem h,isort_snoc]
end
end Go.Proofs.YteomcpplajeidaaGreat

