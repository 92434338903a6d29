/-
  Lemmas of this claim (JwX). Nothing is asked.
-/
import Derived.Test.YteomcpplajeidaaGreatJwW
import Derived.Test.YteomcpplajeidaaGreatJwJ
import Derived.Test.YteomcpplajeidaaGreatBase
import Derived.Maps.OwnSet
import Derived.Maps.RangeWalk
import Derived.Deep.RegionHeld3
import Derived.DeepKeys4
set_option linter.unusedVariables false
set_option linter.unusedSimpArgs false
set_option maxRecDepth 100000
set_option maxHeartbeats 40000000
namespace Go.Proofs.YteomcpplajeidaaGreat
open Go.RowKit
def tiesF (cs:List Cr) (a b:En):List ByteArray→Bool
 | []=>decide (a.rec_ < b.rec_)
 | nm :: l=>if tieF cs nm a b=0 then tiesF cs a b l else decide (0 < tieF cs nm a b)
def betF (cs:List Cr) (ts:List ByteArray) (a b:En) (p q:Int×Int):Bool:=
 if cmpI p q=0 then tiesF cs a b ts else decide (0 < cmpI p q)
theorem tiesF_drop (cs:List Cr) (a b:En) (ts:List ByteArray) (k:Nat) (h:k < ts.length):tiesF cs a b (ts.drop k)=if tieF cs ts[k] a b=0 then tiesF cs a b (ts.drop (k+1)) else decide (0 < tieF cs ts[k] a b):=by
 rw [List.drop_eq_getElem_cons h,tiesF]
theorem al {w:World} {g:Nat} {o o':Obj} (h:w.heap[g]? = some o):(w.alloc o').heap[g]? = some o:=((Ext.alloc (Ext.refl w) o').block _ (zL h)).trans h
theorem Better_any (r:TnR) (cs:List Cr) (ts:List ByteArray) (a b:En) (sa sb:Sl) (p q:Int×Int) (hp:I2 p) (hq:I2 q) (w:World) (h2:SR cellsCr 5 w (slV r.cs) cs) (h4:SR strC 1 w (slV r.ts) ts) (ha:VRd All w a.vs (slV sa)) (hb:VRd All w b.vs (slV sb)) :
 Calls Tryz.prog 20 #[.agg (tenC r),.agg (enC a sa),.agg (enC b sb),rv p,rv q] w fun e w'=>e=.returned (.bool (betF cs ts a b p q))∧Ext w w':=by
 obtain ⟨p1,p2⟩:=p
 obtain ⟨q1,q2⟩:=q
 have HCM:=zH (fun wz=>Cmp_any (p1,p2) (q1,q2) hp hq wz)
 have HC:=zH h2;have HTS:=zH h4;have HA:=zH ha;have HB:=zH hb
 have HBF:Hid (betF cs ts a b (p1,p2) (q1,q2)=if cmpI (p1,p2) (q1,q2)=0 then tiesF cs a b ts else decide (0 < cmpI (p1,p2) (q1,q2))):=zH rfl
 generalize cmpI (p1,p2) (q1,q2)=cm at *
 obtain ⟨W1,hW1⟩:∃ W1,W1=((((w.alloc (.cells (tenC r) 39)).alloc (.cells (enC a sa) 57)).alloc (.cells (enC b sb) 57)).alloc (.cells #[iV p1,iV p2] 30)).alloc (.cells #[iV q1,iV q2] 30):=⟨_,rfl⟩
 have hx1:Ext w W1:=by rw [hW1];exact Ext.alloc (Ext.alloc (Ext.alloc (Ext.alloc (Ext.alloc (Ext.refl _) _) _) _) _) _
 have g5:W1.heap[w.heap.size]? = some (.cells (tenC r) 39):=by rw [hW1];exact al (al (al (al (block_new rfl))))
 have g6:W1.heap[w.heap.size+1]? = some (.cells (enC a sa) 57):=by rw [hW1];exact al (al (al (block_new (by simp))))
 have g7:W1.heap[w.heap.size+1+1]? = some (.cells (enC b sb) 57):=by rw [hW1];exact al (al (block_new (by simp)))
 have g8:W1.heap[w.heap.size+1+1+1]? = some (.cells #[iV p1,iV p2] 30):=by rw [hW1];exact al (block_new (by simp))
 have g9:W1.heap[w.heap.size+1+1+1+1]? = some (.cells #[iV q1,iV q2] 30):=by rw [hW1];exact block_new (by simp)
 have HX1:=zH hx1
 have d0:W1.cell? ⟨w.heap.size+1+1+1,0,none⟩=some (iV p1):=cell_of_row W1 _ 0 _ _ _ g8
 have d1:W1.cell? ⟨w.heap.size+1+1+1,1,none⟩=some (iV p2):=cell_of_row W1 _ 1 _ _ _ g8
 have d2:W1.cell? ⟨w.heap.size+1+1+1+1,0,none⟩=some (iV q1):=cell_of_row W1 _ 0 _ _ _ g9
 have d3:W1.cell? ⟨w.heap.size+1+1+1+1,1,none⟩=some (iV q2):=cell_of_row W1 _ 1 _ _ _ g9
 have l8:=zL g8;have l9:=zL g9
 have HG:Hid (∀ W,Ext W1 W→W.heap[w.heap.size]? = some (.cells (tenC r) 39)∧W.heap[w.heap.size+1]? = some (.cells (enC a sa) 57)∧W.heap[w.heap.size+1+1]? = some (.cells (enC b sb) 57)):=zH fun W hW=>⟨(hW.block _ (zL g5)).trans g5,(hW.block _ (zL g6)).trans g6,(hW.block _ (zL g7)).trans g7⟩
 clear hx1 g5 g6 g7 g8 g9 h2 h4 ha hb
 go_in
 go_upto_region 1 with (fail)
 rw [← hW1]
 clear hW1
 obtain ⟨G9,hG9⟩:∃ x,x=w.heap.size+1+1+1+1:=⟨_,rfl⟩
 obtain ⟨G8,hG8⟩:∃ x,x=w.heap.size+1+1+1:=⟨_,rfl⟩
 obtain ⟨G7,hG7⟩:∃ x,x=w.heap.size+1+1:=⟨_,rfl⟩
 obtain ⟨G6,hG6⟩:∃ x,x=w.heap.size+1:=⟨_,rfl⟩
 obtain ⟨G5,hG5⟩:∃ x,x=w.heap.size:=⟨_,rfl⟩
 rw [← hG9] at d2 d3 l9 ⊢
 rw [← hG8] at d0 d1 l8 ⊢
 rw [← hG7] at HG ⊢
 rw [← hG6] at HG ⊢
 rw [← hG5] at HG ⊢
 clear hG9 hG8 hG7 hG6 hG5
 by_cases hcm:cm=0
 ·subst hcm
  rw [if_pos rfl] at HBF
  obtain ⟨tb,tc,hform⟩:=HTS.out.form
  have hle:=HTS.out.le
  have HFM:=zH hform
  clear hform
  go_upto_region 4 with (go_at_call 44;(refine (HCM.out _).mono ?_);rintro e W2 ⟨rfl,hx2⟩;have HX2:=zH hx2;clear hx2)
  have x11:W2.cell? ⟨G5,11,none⟩=some (.slice tb ts.length tc):=by
   rw [← HFM.out]
   exact cell_of_row W2 G5 11 _ _ _ (HG.out W2 HX2.out).1
  have l5:=zL (HG.out W2 HX2.out).1
  go_upto_region 5 with (fail)
  have HT1:=HTS
  rw [HFM.out] at HT1
  clear d0 d1 d2 d3 l8 l9 x11 l5
  go_loopw [25] (fun kv wr=>∃ k:Nat,kv=iV k∧k≤ts.length∧Hid (tiesF cs a b ts=tiesF cs a b (ts.drop k))∧Hid (Ext W1 wr)) (fun kv _=>ts.length - (intOf kv).toNat)
  case atStart=>exact ⟨0,rfl,Nat.zero_le _,zH rfl,HX2⟩
  case round=>
   obtain ⟨k,rfl,hk,HD,HX⟩:=hrel
   by_cases hkl:k < ts.length
   ·obtain ⟨g,rfl,-,hgl,hcell⟩:=str_at (HT1.out.ext (HX1.out.trans HX.out)) k hkl
    have HDD:=zH (HD.out.trans (tiesF_drop cs a b ts k hkl))
    generalize ts[k]=nm at *
    have hki:(k:Int) < (ts.length:Int):=by omega
    have HG':=zH (HG.out wr HX.out)
    go_upto_region 7 with (fail)
    have HXW:=zH (HX1.out.trans HX.out)
    refine Rr.rg [(0,.y),(1,.y),(3,.y),(4,.y),(2,.z),(5,.y)] ?_
    refine Rr.y2 (h:=fun wz hw=>up_row (by rfl) ((hw.block _ (zL HG'.out.1)).trans HG'.out.1) Tryz.underlying39 (by kernel_rfl)) (k:=?_)
    refine Rr.y1 ?_
    refine Rr.y2 (h:=fun wz hw=>up_row (by rfl) ((hw.block _ (zL HG'.out.2.1)).trans HG'.out.2.1) Tryz.underlying57 (by kernel_rfl)) (k:=?_)
    refine Rr.y2 (h:=fun wz hw=>up_row (by rfl) ((hw.block _ (zL HG'.out.2.2)).trans HG'.out.2.2) Tryz.underlying57 (by kernel_rfl)) (k:=?_)
    refine Rr.z3 (fun v w'=>TieV cs nm v w') (fun wz hw hh=>tie_any r cs nm wz (HC.out.ext (HXW.out.trans hw))) (fun u=>?_)
    (refine Rr.yd ⟨iV (tieF cs nm a b),fun wz hw hh=>?_,?_⟩
     ·have ht:=hold0 hh
      rw [tie_val]
      rcases ht with ⟨h1,rfl⟩|⟨h1,h2,rfl⟩|⟨h1,c,pp,qq,h2,rfl,h3,h4⟩
      ·rw [if_pos h1]
       go_simp
       apply Rg.up_enter
       (refine (call75 a b sa sb wz).mono ?_)
       rintro e w3 ⟨rfl,hb3⟩
       exact ⟨rfl,hb3⟩
      ·rw [if_neg (by rw [h1];decide),h2]
       go_simp
       apply Rg.up_enter
       (refine (call78 a b sa sb wz).mono ?_)
       rintro e w3 ⟨rfl,hb3⟩
       exact ⟨rfl,hb3⟩
      ·rw [if_neg (by rw [h1];decide),h2]
       go_simp
       apply Rg.up_enter
       (refine (call79 a b sa sb nm (if c.less then -1 else 1) (by cases c.less <;> simp) pp qq wz (HA.out.ext (HXW.out.trans hw)) (HB.out.ext (HXW.out.trans hw)) h3 h4).mono ?_)
       rintro e w3 ⟨rfl,hb3⟩
       exact ⟨rfl,hb3⟩
     simp only [zp])
    refine Rr.wr_nil ?_
    intro wy hy hh
    simp only [gg,gh,gi,gj,Nat.reduceAdd]
    clear hh
    have HY:=zH (HX.out.trans hy)
    clear hy
    obtain ⟨z,hz⟩:∃ z,z=tieF cs nm a b:=⟨_,rfl⟩
    rw [← hz] at HDD ⊢
    clear hz
    by_cases hz0:z=0
    ·subst hz0
     have HD2:Hid (tiesF cs a b ts=tiesF cs a b (ts.drop (k+1))):=zH (by rw [HDD.out];exact if_pos rfl)
     go_wp2_with (fail)
     go_roundw
     case rel=>exact ⟨k+1,by rfl,by omega,HD2,HY⟩
     case measure=>simp [intOf];omega
    ·have hzq:(z == 0)=false:=by rw [beq_eq_false_iff_ne];exact hz0
     have HD2:Hid (tiesF cs a b ts=decide (0 < z)):=zH (by rw [HDD.out];exact if_neg hz0)
     go_wp2
     go_ret
     exact ⟨by rw [HBF.out,HD2.out];rfl,HX1.out.trans HY.out⟩
   ·obtain rfl:k=ts.length:=by omega
    have HD2:Hid (tiesF cs a b ts=decide (a.rec_ < b.rec_)):=zH (by rw [HD.out,List.drop_length];rfl)
    have v2:wr.cell? ⟨G6,2,none⟩=some (iV a.rec_):=cell_of_row wr G6 2 _ _ _ (HG.out wr HX.out).2.1
    have v3:wr.cell? ⟨G7,2,none⟩=some (iV b.rec_):=cell_of_row wr G7 2 _ _ _ (HG.out wr HX.out).2.2
    have l6:=zL (HG.out wr HX.out).2.1
    have l7:=zL (HG.out wr HX.out).2.2
    go_wp2
    go_ret
    exact ⟨by rw [HBF.out,HD2.out];rfl,HX1.out.trans HX.out⟩
 ·have hcq:(cm == 0)=false:=by rw [beq_eq_false_iff_ne];exact hcm
  rw [if_neg hcm] at HBF
  go_upto_region 3 with (go_at_call 44;(refine (HCM.out _).mono ?_);rintro e W2 ⟨rfl,hx2⟩;have HX2:=zH hx2;clear hx2)
  go_wp2
  go_ret
  exact ⟨by rw [HBF.out];rfl,HX1.out.trans HX2.out⟩
theorem flat_set {α:Type} {cs:α→List Value} {sz:Nat}:∀ (us:List α) (_:∀ x,(cs x).length=sz) (i:Nat) (_:i < us.length) (x:α),(us.set i x).flatMap cs=(us.flatMap cs).take (i * sz) ++ cs x ++ (us.flatMap cs).drop (i * sz+sz)
 | y :: us,hl,0,_,x=>by
  rw [List.set_cons_zero,List.flatMap_cons,List.flatMap_cons,Nat.zero_mul,List.take_zero,Nat.zero_add,List.nil_append,← hl y,List.drop_left]
 | y :: us,hl,i+1,h,x=>by
  rw [List.set_cons_succ,List.flatMap_cons,List.flatMap_cons,flat_set us hl i (by simpa using h) x]
  have e1:(i+1) * sz=(cs y).length+i * sz:=by rw [hl y,Nat.succ_mul];omega
  rw [e1,List.take_length_add_append,Nat.add_assoc,List.drop_length_add_append]
  simp only [List.append_assoc]
theorem store_elem {α:Type} {cs:α→List Value} {T sz:Nat} (hl:∀ x,(cs x).length=sz) (hone:∀ x,∀ v∈cs x,v.oneCell' = true) (hT:(Tryz.prog.info? T).map (·.size)=some sz)
 {ops:Array Oper} {rest:List Oper} {o:Oper} {a:Act} {w:World} {Q:Exit→Act→World→Prop} (hgd:o.guard=none) (x y:Operand) (ho:o.op=.store T x y)
 (g i n c B:Nat) (gs:List α) (x':α) (hx:a.eval x=.pointer (some ⟨g,i * sz,none⟩)) (hy:a.eval y=.agg (cs x').toArray) (hr:w.ownsRow B T sz (.slice (some ⟨g,0,none⟩) n c) n (gs.flatMap cs)) (hn:gs.length=n) (hi:i < n)
 (h:∀ w',w'.ownsRow B T sz (.slice (some ⟨g,0,none⟩) n c) n ((gs.set i x').flatMap cs)→w.grownBy w' (some g)→wpList Tryz.prog ops Q rest (a.put o.dst undef) w'):wpList Tryz.prog ops Q (o :: rest) a w:=by
 have hfl:(gs.flatMap cs).length=n * sz:=hr.1
 rcases hr.2 with ⟨h1,-⟩|⟨g',cap,cur,hv,hB,hb,h1,h2,h3,h4⟩
 ·cases h1
 injection hv with hv1 hv2 hv3
 injection hv1 with hv1
 injection hv1 with hv1 _ _
 subst hv1 hv3
 have hm:i * sz+sz≤n * sz:=by rw [← Nat.succ_mul];exact Nat.mul_le_mul_right _ hi
 have hm2:n * sz≤c * sz:=Nat.mul_le_mul_right _ h1
 have hcl:cur.toList.length=c * sz:=by rw [Array.length_toList];exact h3
 have hA:cur.toList=gs.flatMap cs ++ cur.toList.drop (n * sz):=by rw [← h4,List.take_append_drop]
 have h6:(cs x').length=sz:=hl x'
 refine wpList_plain hgd fun K hK=>?_
 have hst0:=run_storeCells_at (P:=Tryz.prog) g (i * sz) T (cs x') 0 cur w hb (by rw [h6,h3];omega) (hone x')
 obtain ⟨new,hnew⟩:∃ new,new=(cur.toList.take (i * sz+0) ++ cs x' ++ cur.toList.drop (i * sz+0+(cs x').length)).toArray:=⟨_,rfl⟩
 rw [← hnew] at hst0
 have hs:(Go.sizeOf T).run Tryz.prog w=.ok sz w:=by
  cases hq:Tryz.prog.info? T with
  | none=>simp [hq] at hT
  | some i=>
   have hs:i.size=sz:=by simpa [hq] using hT
   simp [sizeOf,typeInfo,hq,hs]
 have hst:(storeVar T ⟨g,i * sz,none⟩ (.agg (cs x').toArray)).run Tryz.prog w=.ok () (w.setRow g new):=by
  unfold storeVar
  simp only [Value.cells,Sem.run_bind,hs,Result.andThen_ok,List.size_toArray,h6,ne_eq,not_true_eq_false,if_false]
  exact hst0
 unfold Oper.wp execOp
 simp only [ho,hx,hy,Instr.storeAt,Instr.sureAddr,Sem.run_bind,Sem.run_pure,Result.andThen_ok,hst]
 refine hK _ _ (h _ ⟨?_,.inr ⟨g,c,new,rfl,hB,setRow_heap w g cur new T _ hb,h1,h2,?_,?_⟩⟩ ⟨rfl,rfl,rfl,by simp,fun k _ hk=>setRow_other w g k new (fun e=>hk (by rw [e]))⟩)
 ·rw [flat_set (sz:=sz) gs hl i (by omega),List.length_append,List.length_append,List.length_take,List.length_drop,h6,hfl]
  omega
 ·have:new.toList.length=c * sz:=by
   rw [hnew]
   simp only [List.length_append,List.length_take,List.length_drop,h6,hcl]
   omega
  rw [← Array.length_toList]
  exact this
 ·have hnl:new.toList=(gs.set i x').flatMap cs ++ cur.toList.drop (n * sz):=by
   rw [hnew,flat_set (sz:=sz) gs hl i (by omega)]
   simp only [Nat.add_zero,h6]
   generalize cur.toList.drop (n * sz)=R at *
   rw [hA]
   generalize gs.flatMap cs=F at *
   rw [List.take_append,List.drop_append,show i * sz - F.length=0 by omega,show i * sz+sz - F.length=0 by omega,List.take_zero,List.drop_zero,List.append_nil]
   simp only [List.append_assoc]
  rw [hnl]
  have hl2:((gs.set i x').flatMap cs).length=n * sz:=by
   rw [flat_set (sz:=sz) gs hl i (by omega),List.length_append,List.length_append,List.length_take,List.length_drop,h6,hfl]
   omega
  rw [← hl2,List.take_left]
theorem row_at {α:Type} {cs:α→List Value} {sz:Nat} {w:World} {base:Option Addr} {n c:Nat} {xs:List α} (h:SR cs sz w (.slice base n c) xs) (k:Nat) (hk:k < xs.length):∃ b,base=some ⟨b,0,none⟩∧∀ j u,(cs xs[k])[j]? = some u→w.cell? ⟨b,k * sz+j,none⟩=some u:=by
 obtain ⟨b,h1,-,h3⟩:=h.block k hk
 exact ⟨b,h1,h3 k hk⟩
structure Sc where
 e:En
 s:Sl
 p:Int×Int
def Sc.cs (x:Sc):List Value:=[iV x.e.bid,iV x.e.lot,iV x.e.rec_,iV x.e.price,slV x.s,iV x.p.1,iV x.p.2]
theorem sc_one (x:Sc):∀ v∈x.cs,v.oneCell' = true:=by
 intro v hv
 unfold Sc.cs at hv
 simp only [List.mem_cons,List.not_mem_nil,or_false] at hv
 rcases hv with rfl|rfl|rfl|rfl|rfl|rfl|rfl <;> rfl
theorem sc_len (x:Sc):x.cs.length=7:=rfl
abbrev ER:=En×Sl
def cellsEn (x:ER):List Value:=[iV x.1.bid,iV x.1.lot,iV x.1.rec_,iV x.1.price,slV x.2]
theorem one_en (x:ER):(cellsEn x).length=5∧∀ c∈cellsEn x,c.oneCell' = true:=⟨rfl,by intro c hc;simp [cellsEn] at hc;rcases hc with rfl|rfl|rfl|rfl|rfl <;> rfl⟩
structure Rk where
 bid:Int
 p:Int×Int
 place:Int
 out:Int
def Rk.cs (x:Rk):List Value:=[iV x.bid,iV x.p.1,iV x.p.2,iV x.place,iV x.out]
theorem one_rk (x:Rk):x.cs.length=5∧∀ c∈x.cs,c.oneCell' = true:=⟨rfl,by intro c hc;simp [Rk.cs] at hc;rcases hc with rfl|rfl|rfl|rfl|rfl <;> rfl⟩
theorem one_sc (x:Sc):x.cs.length=7∧∀ c∈x.cs,c.oneCell' = true:=⟨rfl,sc_one x⟩
end Go.Proofs.YteomcpplajeidaaGreat
namespace Go.Proofs.YteomcpplajeidaaGreat
open Go.RowKit Go.MapKept Go.ChangeMaps
open Go.Maps (Keyed)
structure KE {κ:Type} (P:Program) (k:TypeId) (enc:κ→Value) (good:κ→Prop):Prop where
 keyed:Keyed P k
 inj:∀ a b,enc a=enc b→a=b
 lit:∀ a,good a→∃ l,keyOf P k (enc a)=some l
section
variable {κ:Type}
def MP (enc:κ→Value) (good:κ→Prop) (w:World) (b:Nat) (l:List (κ×Value)):Prop:=
 (∀ p∈l,good p.1)∧(l.map (·.1)).Nodup∧∃ es clock,w.heap[b]? = some (.map es clock)∧es.toList.map (fun e=>(e.key,e.val))=l.map (fun p=>(enc p.1,p.2))∧MapKept.Stamped es clock
variable {enc:κ→Value} {good:κ→Prop} {P:Program} {k e t:TypeId} {w w':World} {b:Nat} {l:List (κ×Value)}
theorem MP.nodup (h:MP enc good w b l):(l.map (·.1)).Nodup:=h.2.1
theorem MP.gd (h:MP enc good w b l):∀ p∈l,good p.1:=h.1
theorem MP.lt (h:MP enc good w b l):b < w.heap.size:=by
 obtain ⟨-,-,es,clock,hb,-,-⟩:=h
 exact (Array.getElem?_eq_some_iff.1 hb).1
theorem MP.of_block (h:MP enc good w b l) (hb:w'.heap[b]? = w.heap[b]?):MP enc good w' b l:=by
 obtain ⟨h1,h2,es,clock,h3,h4⟩:=h
 exact ⟨h1,h2,es,clock,hb.trans h3,h4⟩
theorem MP.made (w:World):MP enc good (w.alloc (.map #[] 0)) w.heap.size []:=⟨by simp,by simp,#[],0,(MapKept.heap_alloc w _).1,by simp,MapKept.stamped_empty _⟩
theorem MP.len (h:MP enc good w b l) (ht:P.underlying t=some (.map k e)) (ty:TypeId):(Builtin.len_ #[t] ty #[.map (some b)]).run P w=.ok (iV l.length) w:=by
 obtain ⟨h1,h2,es,clock,hb,hes,hst⟩:=h
 have:es.size=l.length:=by have:=congrArg List.length hes;simpa using this
 simp [Builtin.len_,run_underlying ht,MapKept.run_getObj_map hb,goInt,Result.andThen,this]
theorem entries_keyed (K:KE P k enc good) {es:Array MapEntry} (hg:∀ p∈l,good p.1) (hes:es.toList.map (fun e=>(e.key,e.val))=l.map (fun p=>(enc p.1,p.2))):∀ e∈es.toList,∃ l,keyOf P k e.key=some l:=by
 intro e he
 have:(e.key,e.val)∈es.toList.map (fun e=>(e.key,e.val)):=List.mem_map.2 ⟨e,he,rfl⟩
 rw [hes] at this
 obtain ⟨p,hp,hpe⟩:=List.mem_map.1 this
 obtain ⟨li,hli⟩:=K.lit p.1 (hg p hp)
 refine ⟨li,?_⟩
 have h1:enc p.1=e.key:=congrArg Prod.fst hpe
 rw [← h1]
 exact hli
section
variable {ops:Array Oper} {rest:List Oper} {o:Oper} {a:Act} {Q:Exit→Act→World→Prop}
end
end
section
variable {κ:Type} [DecidableEq κ]
def putL (l:List (κ×Value)) (x:κ) (v:Value):List (κ×Value):=
 if x∈l.map (·.1) then l.map (fun p=>if p.1=x then (x,v) else p) else l ++ [(x,v)]
theorem putL_keys (l:List (κ×Value)) (x:κ) (v:Value):(putL l x v).map (·.1)=if x∈l.map (·.1) then l.map (·.1) else l.map (·.1) ++ [x]:=by
 unfold putL
 split
 ·rw [List.map_map]
  apply List.map_congr_left
  intro p _
  by_cases h:p.1=x <;> simp [h]
 ·simp
theorem putL_nodup {l:List (κ×Value)} (h:(l.map (·.1)).Nodup) (x:κ) (v:Value):((putL l x v).map (·.1)).Nodup:=by
 rw [putL_keys]
 split
 ·exact h
 ·rename_i hx
  rw [List.nodup_append]
  refine ⟨h,List.nodup_cons.2 ⟨by simp,List.nodup_nil⟩,fun a ha b hb e=>?_⟩
  rw [List.mem_singleton] at hb
  exact hx (hb ▸ e ▸ ha)
theorem lookup_none {l:List (κ×Value)} {x:κ}:l.lookup x=none↔x ∉ l.map (·.1):=by
 induction l with
 | nil=>simp
 | cons p l ih=>
  obtain ⟨k,v⟩:=p
  by_cases h:x=k
  ·subst h;simp
  ·have hb:(x == k)=false:=by simpa using h
   simp only [List.lookup_cons,hb,List.map_cons,List.mem_cons,h,false_or]
   exact ih
theorem mem_lookup {l:List (κ×Value)} (hn:(l.map (·.1)).Nodup) {x:κ} {v:Value} (h:(x,v)∈l):l.lookup x=some v:=by
 induction l with
 | nil=>simp at h
 | cons p l ih=>
  obtain ⟨k,u⟩:=p
  rw [List.map_cons,List.nodup_cons] at hn
  rcases List.mem_cons.1 h with e|h'
  ·cases e;simp
  ·have hx:x≠k:=fun e=>hn.1 (e ▸ List.mem_map.2 ⟨_,h',rfl⟩)
   have hb:(x == k)=false:=by simpa using hx
   rw [List.lookup_cons,hb]
   exact ih hn.2 h'
variable {enc:κ→Value} {good:κ→Prop} {P:Program} {k e t:TypeId} {w w':World} {b:Nat} {l:List (κ×Value)}
theorem MP.find (K:KE P k enc good) (h:MP enc good w b l) {x:κ} (hx:good x) {es:Array MapEntry} (hes:es.toList.map (fun e=>(e.key,e.val))=l.map (fun p=>(enc p.1,p.2))) :
 ((Instr.findKey k (enc x) es.toList).run P w=.ok none w∧l.lookup x=none) ∨
 ∃ (j:Nat) (v:Value),(Instr.findKey k (enc x) es.toList).run P w=.ok (some (j,v)) w∧l.lookup x=some v∧∃ e,es.toList[j]? = some e∧e.key=enc x∧e.val=v∧l[j]? = some (x,v):=by
 obtain ⟨li,hli⟩:=K.lit x hx
 rcases K.keyed.find w hli es.toList (entries_keyed K h.gd hes) with ⟨h1,h2⟩|⟨j,e,h1,h2,h3⟩
 ·refine .inl ⟨h1,lookup_none.2 fun hm=>?_⟩
  obtain ⟨p,hp,hpx⟩:=List.mem_map.1 hm
  have:(enc p.1,p.2)∈es.toList.map (fun e=>(e.key,e.val)):=by rw [hes];exact List.mem_map.2 ⟨p,hp,rfl⟩
  obtain ⟨e,he,hpe⟩:=List.mem_map.1 this
  have h3:e.key=enc p.1:=congrArg Prod.fst hpe
  rw [hpx] at h3
  exact h2 e he h3
 ·have h4:(es.toList.map (fun e=>(e.key,e.val)))[j]? = some (e.key,e.val):=by rw [List.getElem?_map,h2];rfl
  rw [hes,List.getElem?_map] at h4
  cases hl:l[j]? with
  | none=>rw [hl] at h4;simp at h4
  | some p=>
   rw [hl] at h4
   simp only [Option.map_some,Option.some.injEq,Prod.mk.injEq] at h4
   obtain ⟨k1,v1⟩:=p
   have hk:k1=x:=K.inj _ _ (h4.1.trans h3)
   subst hk
   have hv:v1=e.val:=h4.2
   subst hv
   exact .inr ⟨j,e.val,h1,mem_lookup h.nodup (List.mem_of_getElem? hl),e,h2,h3,rfl,hl⟩
theorem modify_toList (es:Array MapEntry) (j:Nat) (f:MapEntry→MapEntry):(es.modify j f).toList=es.toList.modify j f:=by simp
theorem map_modify_key {l:List (κ×Value)} (hn:(l.map (·.1)).Nodup) {j:Nat} {x:κ} {v0:Value} (hj:l[j]? = some (x,v0)) (v:Value):l.set j (x,v)=l.map (fun p=>if p.1=x then (x,v) else p):=by
 apply List.ext_getElem?
 intro i
 rw [List.getElem?_set,List.getElem?_map]
 by_cases hi:j=i
 ·subst hi
  have hlt:=(List.getElem?_eq_some_iff.1 hj).1
  rw [if_pos rfl,if_pos hlt,hj]
  simp
 ·rw [if_neg hi]
  cases hl:l[i]? with
  | none=>rfl
  | some p=>
   have hne:p.1≠x:=by
    intro e
    have h1:(l.map (·.1))[i]? = some x:=by rw [List.getElem?_map,hl];simp [e]
    have h2:(l.map (·.1))[j]? = some x:=by rw [List.getElem?_map,hj];rfl
    have hlt:=(List.getElem?_eq_some_iff.1 h1).1
    exact hi ((List.getElem?_inj hlt hn).1 (h1.trans h2.symm)).symm
   simp [hne]
theorem MP.update (K:KE P k enc good) (ht:P.underlying t=some (.map k e)) (h:MP enc good w b l) {x:κ} (hx:good x) (v:Value) :
 ∃ w',(Instr.mapUpdate t (.map (some b)) (enc x) v).run P w=.ok () w'∧MP enc good w' b (putL l x v)∧w.grownBy w' (some b):=by
 have h0:=h
 obtain ⟨h1,h2,es,clock,hb,hes,hst⟩:=h
 obtain ⟨li,hli⟩:=K.lit x hx
 rcases MP.find K h0 hx hes with ⟨hf,hl⟩|⟨j,v0,hf,hl,e0,hj,hek,hev,hlj⟩
 ·have hm:=lookup_none.1 hl
  refine ⟨setBlock w b (.map (es.push { key:=enc x,val:=v,born:=clock }) (clock+1)),?_,⟨?_,putL_nodup h2 x v,_,_,heap_setBlock_same hb _,?_,MapKept.stamped_push hst (fun y hy e=>?_)⟩,⟨rfl,rfl,rfl,by simp [setBlock],fun i _ hi=>heap_setBlock_other hb _ (fun e=>hi (by rw [e]))⟩⟩
  ·simp [Instr.mapUpdate,run_underlying ht,MapKept.run_getObj_map hb,K.keyed.check w _ hli,hf,Result.andThen]
   exact MapKept.run_setObj_map _ hb
  ·intro p hp
   unfold putL at hp
   rw [if_neg hm] at hp
   rcases List.mem_append.1 hp with hp|hp
   ·exact h1 p hp
   ·rw [List.mem_singleton] at hp;subst hp;exact hx
  ·unfold putL
   rw [if_neg hm]
   simp [hes]
  ·have h3:(y.key,y.val)∈es.toList.map (fun e=>(e.key,e.val)):=List.mem_map.2 ⟨y,hy,rfl⟩
   rw [hes] at h3
   obtain ⟨p,hp,hpe⟩:=List.mem_map.1 h3
   exact hm (List.mem_map.2 ⟨p,hp,K.inj _ _ ((congrArg Prod.fst hpe).trans e)⟩)
 ·have hm:x∈l.map (·.1):=List.mem_map.2 ⟨(x,v0),List.mem_of_getElem? hlj,rfl⟩
  refine ⟨setBlock w b (.map (es.modify j fun e=>{ e with key:=enc x,val:=v }) clock),?_,⟨?_,putL_nodup h2 x v,_,_,heap_setBlock_same hb _,?_,MapKept.stamped_modify hst j _ (fun _ _=>rfl) (fun y hy hyj=>?_)⟩,⟨rfl,rfl,rfl,by simp [setBlock],fun i _ hi=>heap_setBlock_other hb _ (fun e=>hi (by rw [e]))⟩⟩
  ·have hj':es[j]? = some e0:=by rw [← Array.getElem?_toList];exact hj
   simp [Instr.mapUpdate,run_underlying ht,MapKept.run_getObj_map hb,K.keyed.check w _ hli,hf,hj',hek,K.keyed.stays w hli,Result.andThen]
   exact MapKept.run_setObj_map _ hb
  ·intro p hp
   unfold putL at hp
   rw [if_pos hm] at hp
   obtain ⟨q,hq,rfl⟩:=List.mem_map.1 hp
   by_cases hqx:q.1=x
   ·rw [if_pos hqx];exact hx
   ·rw [if_neg hqx];exact h1 q hq
  ·unfold putL
   rw [if_pos hm,← map_modify_key h2 hlj v,modify_toList]
   apply List.ext_getElem?
   intro i
   have hi:=congrArg (fun q=>q[i]?) hes
   simp only [List.getElem?_map] at hi
   rw [List.getElem?_map,List.getElem?_map,List.getElem?_modify,List.getElem?_set]
   by_cases hij:j=i
   ·subst hij
    have hlt:=(List.getElem?_eq_some_iff.1 hlj).1
    simp [hj,hlt]
   ·simp only [hij,if_false]
    rw [← hi]
    cases es.toList[i]? <;> simp
  ·have hj':es[j]? = some e0:=by rw [← Array.getElem?_toList];exact hj
   rw [hj'] at hyj
   injection hyj with hyj
   rw [← hyj]
   exact hek.symm
section ops
variable {ops:Array Oper} {rest:List Oper} {o:Oper} {a:Act} {Q:Exit→Act→World→Prop}
end ops
end
end Go.Proofs.YteomcpplajeidaaGreat

namespace Go.Proofs.YteomcpplajeidaaGreat
open Go.RowKit
def OkI (a:Int):Prop:=-9223372036854775808≤a∧a≤9223372036854775807
theorem OkI.wf {a:Int} (h:OkI a):(Lit.int .i64 a).wf=true:=by
 obtain ⟨h1,h2⟩:=h
 simp [Lit.wf,IntKind.min,IntKind.max,IntKind.signed,IntKind.bits]
 omega
abbrev encI (i:Int):Value:=iV i
theorem keI:KE Tryz.prog 3 encI OkI:=⟨Go.Maps.int_keyed Tryz.underlying3,fun a b h=>by injection h,fun a h=>⟨_,Go.Maps.keyOf_int_mk Tryz.underlying3 h.wf⟩⟩
def KM (w:World) (b:Nat) (ks:List Int):Prop:=∃ l,MP encI OkI w b l∧l.map (·.1)=ks
theorem KM.of_block {w w':World} {b:Nat} {ks:List Int} (h:KM w b ks) (hb:w'.heap[b]? = w.heap[b]?):KM w' b ks:=by
 obtain ⟨l,h1,h2⟩:=h
 exact ⟨l,h1.of_block hb,h2⟩
theorem KM.lt {w:World} {b:Nat} {ks:List Int} (h:KM w b ks):b < w.heap.size:=by
 obtain ⟨l,h1,-⟩:=h
 exact h1.lt
theorem KM.ext {w w':World} {b:Nat} {ks:List Int} (h:KM w b ks) (x:Ext w w'):KM w' b ks:=h.of_block (x.block _ h.lt)
theorem KM.kept {w w':World} {b:Nat} {ks:List Int} {row:Option Nat} (h:KM w b ks) (x:w.grownBy w' row) (hne:some b≠row):KM w' b ks:=h.of_block (x.block b h.lt hne)
theorem KM.made (w:World):KM (w.alloc (.map #[] 0)) w.heap.size []:=⟨[],MP.made w,rfl⟩
def addK (ks:List Int) (x:Int):List Int:=if x∈ks then ks else ks ++ [x]
theorem KM.put {w:World} {b:Nat} {ks:List Int} (h:KM w b ks) {x:Int} (hx:OkI x):∃ w',(Instr.mapUpdate 132 (.map (some b)) (iV x) (.bool true)).run Tryz.prog w=.ok () w'∧KM w' b (addK ks x)∧w.grownBy w' (some b):=by
 obtain ⟨l,h1,rfl⟩:=h
 obtain ⟨w',hr,hm,hg⟩:=MP.update keI Tryz.underlying132 h1 hx (.bool true)
 refine ⟨w',hr,⟨_,hm,?_⟩,hg⟩
 unfold putL addK
 split
 ·rw [List.map_map]
  apply List.map_congr_left
  intro p hp
  show (if p.1=x then (x,Value.bool true) else p).1=p.1
  split
  ·rename_i e;exact e.symm
  ·rfl
 ·simp
theorem KM.len {w:World} {b:Nat} {ks:List Int} (h:KM w b ks) (ty:TypeId):(Builtin.len_ #[132] ty #[.map (some b)]).run Tryz.prog w=.ok (iV ks.length) w:=by
 obtain ⟨l,h1,rfl⟩:=h
 have:=h1.len Tryz.underlying132 ty
 simpa using this
def keysL (xs:List Int):List Int:=xs.foldl addK []
theorem keysL_snoc (xs:List Int) (x:Int):keysL (xs ++ [x])=addK (keysL xs) x:=by
 unfold keysL
 rw [List.foldl_append]
 rfl
theorem addK_mem {ks:List Int} {x y:Int}:y∈addK ks x↔y∈ks∨y=x:=by
 unfold addK
 split
 ·rename_i h
  constructor
  ·exact .inl
  ·rintro (h1|rfl)
   ·exact h1
   ·exact h
 ·simp
theorem fold_facts:∀ (xs ks:List Int),ks.Nodup→(∀ y,y∈xs.foldl addK ks↔y∈ks∨y∈xs)∧(xs.foldl addK ks).Nodup∧(xs.foldl addK ks).length≤ks.length+xs.length∧((xs.foldl addK ks).length < ks.length+xs.length↔¬ (ks ++ xs).Nodup)
 | [],ks,h=>⟨by simp,h,by simp,by simp [h]⟩
 | x :: xs,ks,h=>by
  have hn:(addK ks x).Nodup:=by
   unfold addK
   split
   ·exact h
   ·rename_i hx
    rw [List.nodup_append]
    exact ⟨h,by simp,fun a ha b hb e=>by rw [List.mem_singleton] at hb;subst hb;subst e;exact hx ha⟩
  obtain ⟨h1,h2,h3,h4⟩:=fold_facts xs (addK ks x) hn
  have hl:(addK ks x).length=if x∈ks then ks.length else ks.length+1:=by unfold addK;split <;> simp
  rw [List.foldl_cons]
  refine ⟨fun y=>by rw [h1,addK_mem,List.mem_cons,or_assoc],h2,?_,?_⟩
  ·rw [List.length_cons];split at hl <;> omega
  ·rw [List.length_cons]
   by_cases hx:x∈ks
   ·rw [if_pos hx] at hl
    constructor
    ·intro _ hnd
     rw [List.nodup_append] at hnd
     exact hnd.2.2 x hx x zM rfl
    ·intro _;omega
   ·rw [if_neg hx] at hl
    rw [show ks.length+(xs.length+1)=(addK ks x).length+xs.length by omega,h4]
    unfold addK
    rw [if_neg hx,List.append_assoc]
    rfl
theorem keysL_len (xs:List Int):(keysL xs).length≤xs.length∧((keysL xs).length < xs.length↔¬ xs.Nodup):=by
 have:=fold_facts xs [] List.nodup_nil
 simp only [List.length_nil,Nat.zero_add,List.nil_append] at this
 exact ⟨this.2.2.1,this.2.2.2⟩
theorem row_move {B E sz n:Nat} {w w':World} {v:Value} {xs:List Value} (h:w.ownsRow B E sz v n xs) (k:∀ b,v.ownBlock=some b→b < w.heap.size→w'.heap[b]? = w.heap[b]?):w'.ownsRow B E sz v n xs:=by
 refine ⟨h.1,h.2.imp id ?_⟩
 rintro ⟨g,cap,cur,rfl,hb,hg,rest⟩
 exact ⟨g,cap,cur,rfl,hb,(k g rfl (zL hg)).trans hg,rest⟩
theorem row_base {B B' E sz n:Nat} {w:World} {v:Value} {xs:List Value} (h:w.ownsRow B E sz v n xs) (hB:B'≤B):w.ownsRow B' E sz v n xs:=by
 refine ⟨h.1,h.2.imp id ?_⟩
 rintro ⟨g,cap,cur,rfl,hb,rest⟩
 exact ⟨g,cap,cur,rfl,Nat.le_trans hB hb,rest⟩
theorem row_len {B E sz n:Nat} {w:World} {b:Option Addr} {m c:Nat} {xs:List Value} (h:w.ownsRow B E sz (.slice b m c) n xs):m=n:=by
 rcases h.2 with ⟨h1,h2⟩|⟨g,cap,cur,h1,-⟩
 ·injection h1 with _ h1 _;omega
 ·injection h1 with _ h1 _
end Go.Proofs.YteomcpplajeidaaGreat
