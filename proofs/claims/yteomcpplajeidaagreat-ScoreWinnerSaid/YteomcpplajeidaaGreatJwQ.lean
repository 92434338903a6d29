/-
  Lemmas of this claim (JwQ). Nothing is asked.
-/
import Derived.Test.YteomcpplajeidaaGreatJwP
set_option linter.unusedVariables false
set_option linter.unusedSimpArgs false
set_option maxRecDepth 100000
set_option maxHeartbeats 40000000
namespace Go.Proofs.YteomcpplajeidaaGreat
open Go.RowKit
def refQuo (a b:Int×Int):(Int×Int)×Bool:=if b.1=0 then ((0,1),false) else refOp a b (a.1 * sgn (decide (b.1 < 0)) b.2) (a.2 * sizeZ b.1)
theorem refQuo_no {a b:Int×Int} (h:(rightB a.1 a.2 && rightB b.1 b.2)=false∨b.1=0):refQuo a b=((0,1),false):=by
 unfold refQuo
 by_cases h0:b.1=0
 ·rw [if_pos h0]
 ·rw [if_neg h0]
  unfold refOp
  rw [if_neg (by rw [h.resolve_right h0];simp)]
theorem quo_neg {a1 a2 b1 b2:Int} (h:b1 < 0):normS (a1 * sgn (decide (b1 < 0)) b2) (a2 * sizeZ b1)=normS (-(a1 * b2)) (-(a2 * b1)):=by
 rw [decide_eq_true h]
 unfold sgn sizeZ
 rw [if_pos rfl,if_pos h,Int.mul_neg,Int.mul_neg]
theorem quo_pos {a1 a2 b1 b2:Int} (h:0 < b1):normS (a1 * sgn (decide (b1 < 0)) b2) (a2 * sizeZ b1)=normS (a1 * b2) (a2 * b1):=by
 rw [decide_eq_false (by omega)]
 unfold sgn sizeZ
 rw [if_neg (by simp),if_neg (by omega)]
theorem quo_val {a1 a2 b1 b2 x y:Int} {s:Bool} (ha:0 < a2) (hb:b1≠0) (hy:0≤y) (hm:sgn (decide (a2 < 0) != decide (b1 < 0)) y=a2 * b1) (hn:sgn s x=a1 * b2) :
 y=a2 * sizeZ b1∧0 < a2 * sizeZ b1∧sgn (s != (decide (a2 < 0) != decide (b1 < 0))) x=a1 * sgn (decide (b1 < 0)) b2:=by
 rw [decide_eq_false (show ¬ a2 < 0 by omega),show ∀ z:Bool,(false != z)=z by intro z;cases z <;> rfl] at hm ⊢
 by_cases h:b1 < 0
 ·rw [decide_eq_true h] at hm ⊢
  have hz:sizeZ b1 = -b1:=by unfold sizeZ;rw [if_pos h]
  have hy2:y=a2 * sizeZ b1:=by
   rw [hz,Int.mul_neg,← hm]
   unfold sgn
   simp
  refine ⟨hy2,?_,?_⟩
  ·rw [hz];exact Int.mul_pos ha (by omega)
  ·have:sgn (s != true) x = -sgn s x:=by unfold sgn;cases s <;> simp
   rw [this,hn]
   unfold sgn
   simp [Int.mul_neg]
 ·rw [decide_eq_false h] at hm ⊢
  have hz:sizeZ b1=b1:=by unfold sizeZ;rw [if_neg h]
  refine ⟨?_,?_,?_⟩
  ·rw [hz,← hm];rfl
  ·rw [hz];exact Int.mul_pos ha (by omega)
  ·rw [show ∀ z:Bool,(z != false)=z by intro z;cases z <;> rfl,hn];rfl
theorem rQuo_any (a b:Int×Int) (ha:OkR a) (hb:OkR b) (w:World) :
 Calls Tryz.prog 102 #[rv a,rv b] w fun e w'=>e=.returned (rbv (refQuo a b))∧Ext w w':=by
 have HBO:=zH (fun W=>rboth_any a b ha hb W)
 have HTI:=zH (fun W=>tiny_any a b W)
 obtain ⟨hxb,h2,h3⟩:=rbox2 (w:=w) (a:=a) (b:=b)
 obtain ⟨W1,hW1⟩:∃ W1,W1=(((w.alloc (.cells #[iV a.1,iV a.2] 30)).alloc (.cells #[iV b.1,iV b.2] 30)).alloc (.cells #[iV 0,iV 0] 30)):=⟨_,rfl⟩
 have hx1:Ext w W1:=by rw [hW1];exact Ext.alloc hxb _
 have k2:W1.heap[w.heap.size]? = some (.cells #[iV a.1,iV a.2] 30):=by rw [hW1,Below.heap_alloc _ _ _ (zL h2)];exact h2
 have k3:W1.heap[w.heap.size+1]? = some (.cells #[iV b.1,iV b.2] 30):=by rw [hW1,Below.heap_alloc _ _ _ (zL h3)];exact h3
 have k4:W1.heap[w.heap.size+1+1]? = some (.cells #[iV 0,iV 0] 30):=by rw [hW1];exact block_new (by simp)
 clear hxb h2 h3
 obtain ⟨a1,a2⟩:=a
 obtain ⟨b1,b2⟩:=b
 simp only at k2 k3 k4 hW1
 have HC:Hid (∀ W,Ext W1 W→W.cell? ⟨w.heap.size,0,none⟩=some (iV a1)∧W.cell? ⟨w.heap.size,1,none⟩=some (iV a2)∧w.heap.size < W.heap.size∧W.cell? ⟨w.heap.size+1,0,none⟩=some (iV b1)∧W.cell? ⟨w.heap.size+1,1,none⟩=some (iV b2)∧w.heap.size+1 < W.heap.size∧W.heap[w.heap.size+1+1]? = some (.cells #[iV 0,iV 0] 30)):=zH fun W hW=>by
  obtain ⟨c0,c1,cl⟩:=rcell (a:=(a1,a2)) ((hW.block _ (zL k2)).trans k2)
  obtain ⟨d0,d1,dl⟩:=rcell (a:=(b1,b2)) ((hW.block _ (zL k3)).trans k3)
  exact ⟨c0,c1,cl,d0,d1,dl,(hW.block _ (zL k4)).trans k4⟩
 have HX1:=zH hx1
 have HA:=zH ha;have HB:=zH hb
 clear ha hb k2 k3 k4 hx1
 unfold tinyB at HTI
 simp only at HBO HTI ⊢
 go_in
 go_upto_region 1 with (fail)
 rw [← hW1]
 clear hW1
 obtain ⟨p2,hp2⟩:∃ p2,p2=w.heap.size:=⟨_,rfl⟩
 obtain ⟨p3,hp3⟩:∃ p3,p3=w.heap.size+1:=⟨_,rfl⟩
 obtain ⟨p4,hp4⟩:∃ p4,p4=w.heap.size+1+1:=⟨_,rfl⟩
 rw [← hp4,← hp3,← hp2] at HC ⊢
 have HP4:=zH (show w.heap.size≤p4 by omega)
 clear hp2 hp3 hp4
 obtain ⟨c0,c1,cl,d0,d1,dl,-⟩:=HC.out W1 (Ext.refl _)
 obtain ⟨rr,hrr⟩:∃ rr,rr=(rightB a1 a2 && rightB b1 b2):=⟨_,rfl⟩
 rw [← hrr] at HBO
 cases rr
 ·have HRES:Hid (refQuo (a1,a2) (b1,b2)=((0,1),false)):=zH (refQuo_no (.inl (hrr.symm)))
  clear HTI hrr
  go_wp2_with (first
   |(go_at_call 81;(with_reducible refine (HBO.out _).mono ?_);rintro e w2 ⟨rfl,hx2⟩)
   |(go_at_call 28;(with_reducible refine (refOf_any _ _).mono ?_);rintro e w9 ⟨rfl,hx9⟩;obtain ⟨hc9,hf9,hl9⟩:=zC (HC.out w9 (hx2.trans hx9)).2.2.2.2.2.2))
  have hp4:=HP4.out
  have hxx:=HX1.out.trans (hx2.trans hx9)
  exact bodyPost_ret (v:=rbv ((0,1),false)) (by simp [results,Tryz.results102,go_sem,hc9,hf9]) rfl ⟨by rw [HRES.out],xt⟩
 ·have hr1:=(Bool.and_eq_true_iff.1 hrr.symm).1
  have hr2:=(Bool.and_eq_true_iff.1 hrr.symm).2
  obtain ⟨ha2,hga⟩:=(rightB_iff _ _).1 hr1
  obtain ⟨hb2,hgb⟩:=(rightB_iff _ _).1 hr2
  by_cases hb0:b1=0
  ·have HRES:Hid (refQuo (a1,a2) (b1,b2)=((0,1),false)):=zH (refQuo_no (.inr hb0))
   subst hb0
   clear HTI hrr
   go_wp2_with (first
    |(go_at_call 81;(with_reducible refine (HBO.out _).mono ?_);rintro e w2 ⟨rfl,hx2⟩;obtain ⟨e0,e1,el,f0,f1,fl,-⟩:=HC.out w2 hx2)
    |(go_at_call 28;(with_reducible refine (refOf_any _ _).mono ?_);rintro e w9 ⟨rfl,hx9⟩;obtain ⟨hc9,hf9,hl9⟩:=zC (HC.out w9 (hx2.trans hx9)).2.2.2.2.2.2))
   have hp4:=HP4.out
   have hxx:=HX1.out.trans (hx2.trans hx9)
   exact bodyPost_ret (v:=rbv ((0,1),false)) (by simp [results,Tryz.results102,go_sem,hc9,hf9]) rfl ⟨by rw [HRES.out],xt⟩
  have HRR:Hid (refQuo (a1,a2) (b1,b2)=normS (a1 * sgn (decide (b1 < 0)) b2) (a2 * sizeZ b1)):=zH ((if_neg hb0).trans (if_pos hrr.symm))
  clear hrr hr1 hr2 hga hgb
  have HPA:=zH ha2;have HPB:=zH hb2
  clear ha2 hb2
  obtain ⟨tb,htb⟩:∃ tb,tb=(smB a1 && smB a2 && smB b1 && smB b2):=⟨_,rfl⟩
  rw [← htb] at HTI
  have HTB:=zH htb
  clear htb
  go_upto_region 3 with (go_at_call 81;(refine (HBO.out _).mono ?_);rintro e w2 ⟨rfl,hx2⟩;obtain ⟨e0,e1,el,f0,f1,fl,-⟩:=HC.out w2 hx2)
  have HX2:=zH hx2
  clear c0 c1 cl d0 d1 dl hx2 HBO e0 e1 el f0 f1 fl
  obtain ⟨c0,c1,cl,d0,d1,dl,-⟩:=HC.out w2 HX2.out
  cases tb
  ·go_upto_region 5 with (go_at_call 153;(refine (HTI.out _).mono ?_);rintro e w3 ⟨rfl,hx3⟩)
   have HX3:=zH (HX2.out.trans hx3)
   clear c0 c1 cl d0 d1 dl hx3 HX2 HTI
   obtain ⟨c0,c1,cl,d0,d1,dl,-⟩:=HC.out w3 HX3.out
   have HO1:=zH (fun W=>bof_any a1 W HA.out.1 HA.out.2.1)
   have HO2:=zH (fun W=>bof_any a2 W HA.out.2.2.1 HA.out.2.2.2)
   have HO3:=zH (fun W=>bof_any b1 W HB.out.1 HB.out.2.1)
   have HO4:=zH (fun W=>bof_any b2 W HB.out.2.2.1 HB.out.2.2.2)
   have L1:(ofL (a1.natAbs:Int)).length≤4:=(of_val HA.out.1 HA.out.2.1).2.2.2.1
   have L2:(ofL (a2.natAbs:Int)).length≤4:=(of_val HA.out.2.2.1 HA.out.2.2.2).2.2.2.1
   have L3:(ofL (b1.natAbs:Int)).length≤4:=(of_val HB.out.1 HB.out.2.1).2.2.2.1
   have L4:(ofL (b2.natAbs:Int)).length≤4:=(of_val HB.out.2.2.1 HB.out.2.2.2).2.2.2.1
   obtain ⟨-,n2,n3⟩:=mul_val (a:=a1) (b:=b2) ⟨HA.out.1,HA.out.2.1⟩ ⟨HB.out.2.2.1,HB.out.2.2.2⟩
   obtain ⟨m1,m2,m3⟩:=mul_val (a:=a2) (b:=b1) ⟨HA.out.2.2.1,HA.out.2.2.2⟩ ⟨HB.out.1,HB.out.2.1⟩
   obtain ⟨hdv,hdp,hsv⟩:=quo_val HPA.out hb0 (dv_nonneg m1) m2 n2
   have HLO:=zH (fun W v u (hv:BgR W v (decide (a1 < 0) != decide (b2 < 0)) (timesL (ofL a1.natAbs) (ofL b2.natAbs))) (hu:BgR W u (decide (a2 < 0) != decide (b1 < 0)) (timesL (ofL a2.natAbs) (ofL b1.natAbs)))=>blowest_any _ _ _ _ W v u hv hu (by omega) (by omega) (by rw [hdv];exact hdp))
   rw [hdv,hsv] at HLO
   have HM1:=zH (fun W v u (hv:BgR W v (decide (a1 < 0)) (ofL a1.natAbs)) (hu:BgR W u (decide (b2 < 0)) (ofL b2.natAbs))=>bmul_any (decide (a1 < 0)) (decide (b2 < 0)) (ofL a1.natAbs) (ofL b2.natAbs) W v u hv hu (by omega) (by omega))
   have HM2:=zH (fun W v u (hv:BgR W v (decide (a2 < 0)) (ofL a2.natAbs)) (hu:BgR W u (decide (b1 < 0)) (ofL b1.natAbs))=>bmul_any (decide (a2 < 0)) (decide (b1 < 0)) (ofL a2.natAbs) (ofL b1.natAbs) W v u hv hu (by omega) (by omega))
   clear L1 L2 L3 L4 n2 n3 m1 m2 m3 hdp hdv hsv
   obtain ⟨⟨⟨r1,r2⟩,r3⟩,hnr⟩:∃ nr:(Int×Int)×Bool,nr=normS (a1 * sgn (decide (b1 < 0)) b2) (a2 * sizeZ b1):=⟨_,rfl⟩
   rw [← hnr] at HLO
   have HRES:=zH (HRR.out.trans hnr.symm)
   clear hnr HRR
   simp only at HLO
   refine Rr.rE [16] [(0,.y),(1,.y),(3,.y),(4,.y),(7,.y),(8,.y),(10,.y),(11,.y),(2,.z),(5,.z),(6,.z),(9,.z),(12,.z),(13,.z),(14,.y),(15,.y),(16,.y)] ?_
   iterate 8
    refine Rr.y1 ?_
   refine Rr.z3 (fun v w'=>BgR w' v (decide (a1 < 0)) (ofL a1.natAbs)) (fun wz hw hh=>HO1.out wz) (fun u=>?_)
   refine Rr.z3 (fun v w'=>BgR w' v (decide (b2 < 0)) (ofL b2.natAbs)) (fun wz hw hh=>HO4.out wz) (fun u=>?_)
   refine Rr.z3 (fun v w'=>BgR w' v (decide (a1 < 0) != decide (b2 < 0)) (timesL (ofL a1.natAbs) (ofL b2.natAbs))) (fun wz hw hh=>HM1.out wz _ _ (hold1 hh) (hold0 hh)) (fun u=>?_)
   refine Rr.z3 (fun v w'=>BgR w' v (decide (a2 < 0)) (ofL a2.natAbs)) (fun wz hw hh=>HO2.out wz) (fun u=>?_)
   refine Rr.z3 (fun v w'=>BgR w' v (decide (b1 < 0)) (ofL b1.natAbs)) (fun wz hw hh=>HO3.out wz) (fun u=>?_)
   refine Rr.z3 (fun v w'=>BgR w' v (decide (a2 < 0) != decide (b1 < 0)) (timesL (ofL a2.natAbs) (ofL b1.natAbs))) (fun wz hw hh=>HM2.out wz _ _ (hold1 hh) (hold0 hh)) (fun u=>?_)
   refine Rr.yd ⟨.tuple #[.agg #[iV r1,iV r2],.bool r3],fun wz hw hh=>?_,?_⟩
   ·go_simp
    apply Rg.up_enter
    (refine (HLO.out wz _ _ (hold3 hh) (hold0 hh)).mono ?_)
    rintro e w4 ⟨rfl,hb4⟩
    exact ⟨rfl,hb4⟩
   simp only [zp]
   iterate 2
    refine Rr.y1 ?_
   refine Rr.wr_nil ?_
   intro wy hy hh
   simp only [gg,gh,gi,gj,Nat.reduceAdd]
   have h40:=(HC.out wy (HX3.out.trans hy)).2.2.2.2.2.2
   refine wpList_store_row (hgd:=rfl) 30 (.tmp 4) (.tmp 45) rfl p4 (by rfl) #[iV r1,iV r2] (by rfl) #[iV 0,iV 0] 30 h40 (by rfl) (by kernel_rfl) (by simp [Value.oneCell']) ?_
   have hbc:=setRow_heap wy p4 _ #[iV r1,iV r2] 30 _ h40
   have hxc:Ext w (wy.setRow p4 #[iV r1,iV r2]):=below_setRow (HX1.out.trans (HX3.out.trans hy)) HP4.out #[iV r1,iV r2]
   generalize wy.setRow p4 #[iV r1,iV r2]=W9 at *
   obtain ⟨hc9,hf9,hl9⟩:=zC hbc
   clear hh h40 hbc hy c0 c1 cl d0 d1 dl
   go_wp2_with (fail)
   exact bodyPost_ret (v:=rbv ((r1,r2),r3)) (by simp [results,Tryz.results102,go_sem,hc9,hf9]) rfl ⟨by rw [HRES.out],hxc⟩
  ·have hsm:(smB a1 && smB a2 && smB b1 && smB b2)=true:=HTB.out.symm
   simp only [Bool.and_eq_true,smB_iff] at hsm
   obtain ⟨⟨⟨s1,s2⟩,s3⟩,s4⟩:=hsm
   have b1':=sm_mul s1 s4
   have b2':=sm_mul s2 s3
   have kw1:=wz (a1 * b2) (by omega)
   have kw2:=wz (a2 * b1) (by omega)
   by_cases hneg:b1 < 0
   ·skip
    have hdp:0 < -(a2 * b1):=by have:=Int.mul_neg_of_pos_of_neg HPA.out hneg;omega
    have HQ:=zH (fun W=>quick_m (a1 * b2) (a2 * b1) (by omega) (by omega) W)
    have HNQ:=zH (quick_norm (n:=-(a1 * b2)) (d:=-(a2 * b1)) hdp (by omega) (by omega))
    rw [← quo_neg hneg] at HNQ
    clear s1 s2 s3 s4 b1' b2' hdp
    obtain ⟨⟨r1,r2⟩,hnr⟩:∃ nr:Int×Int,nr=quickZ (-(a1 * b2)) (-(a2 * b1)):=⟨_,rfl⟩
    rw [← hnr] at HQ HNQ
    have HRES:=zH (HRR.out.trans HNQ.out)
    clear hnr HRR HNQ
    go_wp2_with (first
     |(go_at_call 153;(with_reducible refine (HTI.out _).mono ?_);rintro e w3 ⟨rfl,hx3⟩;obtain ⟨e0,e1,el,f0,f1,fl,-⟩:=HC.out w3 (HX2.out.trans hx3))
     |(go_at_call 106;(with_reducible refine (HQ.out _).mono ?_);rintro e w9 ⟨rfl,hx9⟩;obtain ⟨hc9,hf9,hl9⟩:=zC (HC.out w9 (HX2.out.trans (hx3.trans hx9))).2.2.2.2.2.2))
    have hp4:=HP4.out
    have hxx:=HX1.out.trans (HX2.out.trans (hx3.trans hx9))
    exact bodyPost_ret (v:=rbv ((r1,r2),true)) (by simp [results,Tryz.results102,go_sem,hc9,hf9]) rfl ⟨by rw [HRES.out],xt⟩
   ·have hpos:0 < b1:=by omega
    have hdp:0 < a2 * b1:=Int.mul_pos HPA.out hpos
    have HQ:=zH (fun W=>quick_p (a1 * b2) (a2 * b1) (by omega) (by omega) W)
    have HNQ:=zH (quick_norm (n:=a1 * b2) (d:=a2 * b1) hdp (by omega) (by omega))
    rw [← quo_pos hpos] at HNQ
    clear s1 s2 s3 s4 b1' b2' hdp
    obtain ⟨⟨r1,r2⟩,hnr⟩:∃ nr:Int×Int,nr=quickZ (a1 * b2) (a2 * b1):=⟨_,rfl⟩
    rw [← hnr] at HQ HNQ
    have HRES:=zH (HRR.out.trans HNQ.out)
    clear hnr HRR HNQ
    go_wp2_with (first
     |(go_at_call 153;(with_reducible refine (HTI.out _).mono ?_);rintro e w3 ⟨rfl,hx3⟩;obtain ⟨e0,e1,el,f0,f1,fl,-⟩:=HC.out w3 (HX2.out.trans hx3))
     |(go_at_call 106;(with_reducible refine (HQ.out _).mono ?_);rintro e w9 ⟨rfl,hx9⟩;obtain ⟨hc9,hf9,hl9⟩:=zC (HC.out w9 (HX2.out.trans (hx3.trans hx9))).2.2.2.2.2.2))
    have hp4:=HP4.out
    have hxx:=HX1.out.trans (HX2.out.trans (hx3.trans hx9))
    exact bodyPost_ret (v:=rbv ((r1,r2),true)) (by simp [results,Tryz.results102,go_sem,hc9,hf9]) rfl ⟨by rw [HRES.out],xt⟩
theorem sgn_not (t:Bool) (x:Int):sgn (!t) x = -sgn t x:=by unfold sgn;cases t <;> simp
theorem DR.setr {w:World} {v:Value} {l:List Int} (h:DR w v l) {p:Nat} {a:Bool} {x:Option Addr} {y z:Nat} (hp:w.heap[p]? = some (.cells #[.bool a,.slice x y z] 150)) (cs:Array Value):DR (w.setRow p cs) v l:=by
 obtain ⟨A,cap,h1,h2,h3,h4,h5⟩:=h
 refine ⟨A,cap,h1,h2,h3,h4,h5.imp id fun ⟨b,off,ha,hc⟩=>⟨b,off,ha,fun k hk=>?_⟩⟩
 have hk':=hc k hk
 have hbp:b≠p:=by
  rintro rfl
  rw [(zC hp).1] at hk'
  generalize off+k=q at hk'
  rcases q with _|_|q
  ·simp at hk'
  ·simp at hk'
  ·simp at hk'
 rw [← hk']
 exact World.cell?_of_block (setRow_other w p b cs hbp)
theorem rSub_any (a b:Int×Int) (ha:OkR a) (hb:OkR b) (w:World) :
 Calls Tryz.prog 100 #[rv a,rv b] w fun e w'=>e=.returned (rbv (refOp a b (a.1 * b.2 - b.1 * a.2) (a.2 * b.2)))∧Ext w w':=by
 have HBO:=zH (fun W=>rboth_any a b ha hb W)
 have HTI:=zH (fun W=>tiny_any a b W)
 obtain ⟨hxb,h2,h3⟩:=rbox2 (w:=w) (a:=a) (b:=b)
 obtain ⟨W1,hW1⟩:∃ W1,W1=(((w.alloc (.cells #[iV a.1,iV a.2] 30)).alloc (.cells #[iV b.1,iV b.2] 30)).alloc (.cells #[iV 0,iV 0] 30)):=⟨_,rfl⟩
 have hx1:Ext w W1:=by rw [hW1];exact Ext.alloc hxb _
 have k2:W1.heap[w.heap.size]? = some (.cells #[iV a.1,iV a.2] 30):=by rw [hW1,Below.heap_alloc _ _ _ (zL h2)];exact h2
 have k3:W1.heap[w.heap.size+1]? = some (.cells #[iV b.1,iV b.2] 30):=by rw [hW1,Below.heap_alloc _ _ _ (zL h3)];exact h3
 have k4:W1.heap[w.heap.size+1+1]? = some (.cells #[iV 0,iV 0] 30):=by rw [hW1];exact block_new (by simp)
 clear hxb h2 h3
 obtain ⟨a1,a2⟩:=a
 obtain ⟨b1,b2⟩:=b
 simp only at k2 k3 k4 hW1
 have HC:Hid (∀ W,Ext W1 W→W.cell? ⟨w.heap.size,0,none⟩=some (iV a1)∧W.cell? ⟨w.heap.size,1,none⟩=some (iV a2)∧w.heap.size < W.heap.size∧W.cell? ⟨w.heap.size+1,0,none⟩=some (iV b1)∧W.cell? ⟨w.heap.size+1,1,none⟩=some (iV b2)∧w.heap.size+1 < W.heap.size∧W.heap[w.heap.size+1+1]? = some (.cells #[iV 0,iV 0] 30)):=zH fun W hW=>by
  obtain ⟨c0,c1,cl⟩:=rcell (a:=(a1,a2)) ((hW.block _ (zL k2)).trans k2)
  obtain ⟨d0,d1,dl⟩:=rcell (a:=(b1,b2)) ((hW.block _ (zL k3)).trans k3)
  exact ⟨c0,c1,cl,d0,d1,dl,(hW.block _ (zL k4)).trans k4⟩
 have HX1:=zH hx1
 have HA:=zH ha;have HB:=zH hb
 clear ha hb k2 k3 k4 hx1
 unfold tinyB at HTI
 simp only at HBO HTI ⊢
 go_in
 go_upto_region 1 with (fail)
 rw [← hW1]
 clear hW1
 obtain ⟨p2,hp2⟩:∃ p2,p2=w.heap.size:=⟨_,rfl⟩
 obtain ⟨p3,hp3⟩:∃ p3,p3=w.heap.size+1:=⟨_,rfl⟩
 obtain ⟨p4,hp4⟩:∃ p4,p4=w.heap.size+1+1:=⟨_,rfl⟩
 rw [← hp4,← hp3,← hp2] at HC ⊢
 have HP4:=zH (show w.heap.size≤p4 by omega)
 clear hp2 hp3 hp4
 obtain ⟨c0,c1,cl,d0,d1,dl,-⟩:=HC.out W1 (Ext.refl _)
 obtain ⟨rr,hrr⟩:∃ rr,rr=(rightB a1 a2 && rightB b1 b2):=⟨_,rfl⟩
 rw [← hrr] at HBO
 cases rr
 ·have HRES:Hid (refOp (a1,a2) (b1,b2) (a1 * b2 - b1 * a2) (a2 * b2)=((0,1),false)):=zH (if_neg (by rw [← hrr];simp))
  clear HTI hrr
  go_wp2_with (first
   |(go_at_call 81;(with_reducible refine (HBO.out _).mono ?_);rintro e w2 ⟨rfl,hx2⟩)
   |(go_at_call 28;(with_reducible refine (refOf_any _ _).mono ?_);rintro e w9 ⟨rfl,hx9⟩;obtain ⟨hc9,hf9,hl9⟩:=zC (HC.out w9 (hx2.trans hx9)).2.2.2.2.2.2))
  have hp4:=HP4.out
  have hxx:=HX1.out.trans (hx2.trans hx9)
  exact bodyPost_ret (v:=rbv ((0,1),false)) (by simp [results,Tryz.results100,go_sem,hc9,hf9]) rfl ⟨by rw [HRES.out],xt⟩
 ·have hr1:=(Bool.and_eq_true_iff.1 hrr.symm).1
  have hr2:=(Bool.and_eq_true_iff.1 hrr.symm).2
  obtain ⟨ha2,hga⟩:=(rightB_iff _ _).1 hr1
  obtain ⟨hb2,hgb⟩:=(rightB_iff _ _).1 hr2
  have HRR:Hid (refOp (a1,a2) (b1,b2) (a1 * b2 - b1 * a2) (a2 * b2)=normS (a1 * b2 - b1 * a2) (a2 * b2)):=zH (if_pos hrr.symm)
  clear hrr hr1 hr2 hga hgb
  have HPA:=zH ha2;have HPB:=zH hb2
  clear ha2 hb2
  obtain ⟨tb,htb⟩:∃ tb,tb=(smB a1 && smB a2 && smB b1 && smB b2):=⟨_,rfl⟩
  rw [← htb] at HTI
  have HTB:=zH htb
  clear htb
  go_upto_region 3 with (go_at_call 81;(refine (HBO.out _).mono ?_);rintro e w2 ⟨rfl,hx2⟩)
  have HX2:=zH hx2
  clear c0 c1 cl d0 d1 dl hx2 HBO
  obtain ⟨c0,c1,cl,d0,d1,dl,-⟩:=HC.out w2 HX2.out
  cases tb
  ·go_upto_region 5 with (go_at_call 153;(refine (HTI.out _).mono ?_);rintro e w3 ⟨rfl,hx3⟩)
   have HX3:=zH (HX2.out.trans hx3)
   clear c0 c1 cl d0 d1 dl hx3 HX2 HTI
   obtain ⟨c0,c1,cl,d0,d1,dl,-⟩:=HC.out w3 HX3.out
   have HO1:=zH (fun W=>bof_any a1 W HA.out.1 HA.out.2.1)
   have HO2:=zH (fun W=>bof_any a2 W HA.out.2.2.1 HA.out.2.2.2)
   have HO3:=zH (fun W=>bof_any b1 W HB.out.1 HB.out.2.1)
   have HO4:=zH (fun W=>bof_any b2 W HB.out.2.2.1 HB.out.2.2.2)
   have L1:(ofL (a1.natAbs:Int)).length≤4:=(of_val HA.out.1 HA.out.2.1).2.2.2.1
   have L2:(ofL (a2.natAbs:Int)).length≤4:=(of_val HA.out.2.2.1 HA.out.2.2.2).2.2.2.1
   have L3:(ofL (b1.natAbs:Int)).length≤4:=(of_val HB.out.1 HB.out.2.1).2.2.2.1
   have L4:(ofL (b2.natAbs:Int)).length≤4:=(of_val HB.out.2.2.1 HB.out.2.2.2).2.2.2.1
   obtain ⟨n1,n2,n3⟩:=mul_val (a:=a1) (b:=b2) ⟨HA.out.1,HA.out.2.1⟩ ⟨HB.out.2.2.1,HB.out.2.2.2⟩
   obtain ⟨o1,o2,o3⟩:=mul_val (a:=b1) (b:=a2) ⟨HB.out.1,HB.out.2.1⟩ ⟨HA.out.2.2.1,HA.out.2.2.2⟩
   obtain ⟨-,m2,m3⟩:=mul_val (a:=a2) (b:=b2) ⟨HA.out.2.2.1,HA.out.2.2.2⟩ ⟨HB.out.2.2.1,HB.out.2.2.2⟩
   have hda:(decide (a2 < 0) != decide (b2 < 0))=false:=by rw [decide_eq_false (by have:=HPA.out;omega),decide_eq_false (by have:=HPB.out;omega)];rfl
   have hdp:0 < a2 * b2:=Int.mul_pos HPA.out HPB.out
   have hdv:dv (timesL (ofL a2.natAbs) (ofL b2.natAbs))=a2 * b2:=by rw [hda] at m2;exact m2
   obtain ⟨-,u2,u3⟩:=sum_val (s:=decide (a1 < 0) != decide (b2 < 0)) (t:=!(decide (b1 < 0) != decide (a2 < 0))) n1 o1
   rw [n2,sgn_not,o2] at u2
   have HSU:=zH (fun W v u (hv:BgR W v (decide (a1 < 0) != decide (b2 < 0)) (timesL (ofL a1.natAbs) (ofL b2.natAbs))) (hu:BgR W u (!(decide (b1 < 0) != decide (a2 < 0))) (timesL (ofL b1.natAbs) (ofL a2.natAbs)))=>badd_any (decide (a1 < 0) != decide (b2 < 0)) (!(decide (b1 < 0) != decide (a2 < 0))) (timesL (ofL a1.natAbs) (ofL b2.natAbs)) (timesL (ofL b1.natAbs) (ofL a2.natAbs)) W v u hv hu (by omega) (by omega))
   obtain ⟨⟨bs,bl⟩,hbs⟩:∃ x:Bool×List Int,x=bgSum (decide (a1 < 0) != decide (b2 < 0)) (!(decide (b1 < 0) != decide (a2 < 0))) (timesL (ofL a1.natAbs) (ofL b2.natAbs)) (timesL (ofL b1.natAbs) (ofL a2.natAbs)):=⟨_,rfl⟩
   rw [← hbs] at u2 u3 HSU
   simp only at u2 u3 HSU
   clear hbs
   have HLO:=zH (fun W v u (hv:BgR W v bs bl) (hu:BgR W u (decide (a2 < 0) != decide (b2 < 0)) (timesL (ofL a2.natAbs) (ofL b2.natAbs)))=>blowest_any _ _ _ _ W v u hv hu (by omega) (by omega) (by rw [hdv];exact hdp))
   rw [hdv,show sgn (bs != (decide (a2 < 0) != decide (b2 < 0))) (dv bl)=a1 * b2 - b1 * a2 by rw [hda,show ∀ x:Bool,(x != false)=x by intro x;cases x <;> rfl];rw [u2];omega] at HLO
   have HM1:=zH (fun W v u (hv:BgR W v (decide (a1 < 0)) (ofL a1.natAbs)) (hu:BgR W u (decide (b2 < 0)) (ofL b2.natAbs))=>bmul_any (decide (a1 < 0)) (decide (b2 < 0)) (ofL a1.natAbs) (ofL b2.natAbs) W v u hv hu (by omega) (by omega))
   have HM3:=zH (fun W v u (hv:BgR W v (decide (b1 < 0)) (ofL b1.natAbs)) (hu:BgR W u (decide (a2 < 0)) (ofL a2.natAbs))=>bmul_any (decide (b1 < 0)) (decide (a2 < 0)) (ofL b1.natAbs) (ofL a2.natAbs) W v u hv hu (by omega) (by omega))
   have HM2:=zH (fun W v u (hv:BgR W v (decide (a2 < 0)) (ofL a2.natAbs)) (hu:BgR W u (decide (b2 < 0)) (ofL b2.natAbs))=>bmul_any (decide (a2 < 0)) (decide (b2 < 0)) (ofL a2.natAbs) (ofL b2.natAbs) W v u hv hu (by omega) (by omega))
   clear L1 L2 L3 L4 n1 n2 n3 o1 o2 o3 m2 m3 u2 u3 hda hdp hdv
   obtain ⟨⟨⟨r1,r2⟩,r3⟩,hnr⟩:∃ nr:(Int×Int)×Bool,nr=normS (a1 * b2 - b1 * a2) (a2 * b2):=⟨_,rfl⟩
   rw [← hnr] at HLO
   have HRES:=zH (HRR.out.trans hnr.symm)
   clear hnr HRR
   simp only at HLO
   refine Rr.wp_region [(0,.y),(1,.y),(3,.y),(4,.y),(2,.z),(5,.z),(6,.z),(7,.m)] (fun _=>(.cells #[.bool false,.slice none 0 0] 150,Rg.ptr)) (by kernel_rfl) (by kernel_rfl) ?_
   iterate 4
    refine Rr.y1 ?_
   refine Rr.z3 (fun v w'=>BgR w' v (decide (b1 < 0)) (ofL b1.natAbs)) (fun wz hw hh=>HO3.out wz) (fun u=>?_)
   refine Rr.z3 (fun v w'=>BgR w' v (decide (a2 < 0)) (ofL a2.natAbs)) (fun wz hw hh=>HO2.out wz) (fun u=>?_)
   refine Rr.z3 (fun v w'=>BgR w' v (decide (b1 < 0) != decide (a2 < 0)) (timesL (ofL b1.natAbs) (ofL a2.natAbs))) (fun wz hw hh=>HM3.out wz _ _ (hold1 hh) (hold0 hh)) (fun u=>?_)
   refine Rr.wr_m (by simp only [ga,gb,gc];rfl) (by rfl) (fun wz=>by go_simp) (fun pm hpm=>?_)
   simp only [zp]
   refine Rr.wr_nil ?_
   intro wy hy hh
   simp only [gg,gh,gi,gj,Nat.reduceAdd]
   obtain ⟨-,hb1,hb2⟩:=hh _ zM
   obtain ⟨⟨xA,xn,xc⟩,hxe,hxd⟩:=hold1 hh
   subst hxe
   generalize (decide (b1 < 0) != decide (a2 < 0))=sm at *
   generalize timesL (ofL b1.natAbs) (ofL a2.natAbs)=tm at *
   refine wpList_store_row (hgd:=rfl) 150 (.tmp 6) (.tmp 38) rfl pm (by rfl) #[.bool sm,slV (xA,xn,xc)] (by rfl) #[.bool false,.slice none 0 0] 150 hb2 (by rfl) (by kernel_rfl) (by simp [Value.oneCell',slV]) ?_
   have hbc:=setRow_heap wy pm _ #[.bool sm,slV (xA,xn,xc)] 150 _ hb2
   have hxc:=below_setRow hy hb1 #[.bool sm,slV (xA,xn,xc)]
   have hxd2:=DR.setr hxd hb2 #[.bool sm,slV (xA,xn,xc)]
   generalize wy.setRow pm #[.bool sm,slV (xA,xn,xc)]=W5 at *
   clear hh hb2 hxd hy c0 c1 cl d0 d1 dl
   obtain ⟨hc5,hf5,hl5⟩:=zC hbc
   have g0:W5.cell? ⟨pm,0,none⟩=some (.bool sm):=hc5 0
   have gf:=hf5 0
   go_upto_region 7 with (fail)
   have hb6:(W5.setCell ⟨pm,0,none⟩ (.bool (!sm))).heap[pm]? = some (.cells #[.bool (!sm),slV (xA,xn,xc)] 150):=heap_setCell_same W5 pm 0 _ 150 _ hbc
   have hx6:Ext w3 (W5.setCell ⟨pm,0,none⟩ (.bool (!sm))):=Below.setCell hxc hb1 _
   have hd6:=DR.set (a:=sm) (x:=xA) (y:=xn) (z:=xc) hxd2 hbc 0 (.bool (!sm))
   generalize W5.setCell ⟨pm,0,none⟩ (.bool (!sm))=W6 at *
   have HMI:Hid (BgR W6 (.agg #[.bool (!sm),slV (xA,xn,xc)]) (!sm) tm):=zH ⟨(xA,xn,xc),rfl,hd6⟩
   have HX3':=zH (HX3.out.trans hx6)
   clear HX3 hbc hxc hxd2 hc5 hf5 hl5 g0 gf hx6 hd6 hb1
   have HX3:=HX3'
   clear HX3'
   obtain ⟨c0,c1,cl,d0,d1,dl,-⟩:=HC.out W6 HX3.out
   refine Rr.rE [18] [(0,.y),(1,.y),(3,.y),(4,.y),(7,.y),(9,.y),(10,.y),(12,.y),(13,.y),(2,.z),(5,.z),(6,.z),(8,.z),(11,.z),(14,.z),(15,.z),(16,.y),(17,.y),(18,.y)] ?_
   iterate 4
    refine Rr.y1 ?_
   refine Rr.y2 (h:=fun wz hw=>up_row (by rfl) ((hw.block _ (zL hb6)).trans hb6) Tryz.underlying150 (by kernel_rfl)) (k:=?_)
   iterate 4
    refine Rr.y1 ?_
   refine Rr.z3 (fun v w'=>BgR w' v (decide (a1 < 0)) (ofL a1.natAbs)) (fun wz hw hh=>HO1.out wz) (fun u=>?_)
   refine Rr.z3 (fun v w'=>BgR w' v (decide (b2 < 0)) (ofL b2.natAbs)) (fun wz hw hh=>HO4.out wz) (fun u=>?_)
   refine Rr.z3 (fun v w'=>BgR w' v (decide (a1 < 0) != decide (b2 < 0)) (timesL (ofL a1.natAbs) (ofL b2.natAbs))) (fun wz hw hh=>HM1.out wz _ _ (hold1 hh) (hold0 hh)) (fun u=>?_)
   refine Rr.z3 (fun v w'=>BgR w' v bs bl) (fun wz hw hh=>HSU.out wz _ _ (hold0 hh) (HMI.out.ext hw)) (fun u=>?_)
   refine Rr.z3 (fun v w'=>BgR w' v (decide (a2 < 0)) (ofL a2.natAbs)) (fun wz hw hh=>HO2.out wz) (fun u=>?_)
   refine Rr.z3 (fun v w'=>BgR w' v (decide (b2 < 0)) (ofL b2.natAbs)) (fun wz hw hh=>HO4.out wz) (fun u=>?_)
   refine Rr.z3 (fun v w'=>BgR w' v (decide (a2 < 0) != decide (b2 < 0)) (timesL (ofL a2.natAbs) (ofL b2.natAbs))) (fun wz hw hh=>HM2.out wz _ _ (hold1 hh) (hold0 hh)) (fun u=>?_)
   clear hb6
   refine Rr.yd ⟨.tuple #[.agg #[iV r1,iV r2],.bool r3],fun wz hw hh=>?_,?_⟩
   ·go_simp
    apply Rg.up_enter
    (refine (HLO.out wz _ _ (hold3 hh) (hold0 hh)).mono ?_)
    rintro e w4 ⟨rfl,hb4⟩
    exact ⟨rfl,hb4⟩
   simp only [zp]
   iterate 2
    refine Rr.y1 ?_
   refine Rr.wr_nil ?_
   intro wy hy hh
   simp only [gg,gh,gi,gj,Nat.reduceAdd]
   have h40:=(HC.out wy (HX3.out.trans hy)).2.2.2.2.2.2
   refine wpList_store_row (hgd:=rfl) 30 (.tmp 4) (.tmp 60) rfl p4 (by rfl) #[iV r1,iV r2] (by rfl) #[iV 0,iV 0] 30 h40 (by rfl) (by kernel_rfl) (by simp [Value.oneCell']) ?_
   have hbc:=setRow_heap wy p4 _ #[iV r1,iV r2] 30 _ h40
   have hxc:Ext w (wy.setRow p4 #[iV r1,iV r2]):=below_setRow (HX1.out.trans (HX3.out.trans hy)) HP4.out #[iV r1,iV r2]
   generalize wy.setRow p4 #[iV r1,iV r2]=W9 at *
   obtain ⟨hc9,hf9,hl9⟩:=zC hbc
   clear hh h40 hbc hy c0 c1 cl d0 d1 dl
   go_wp2_with (fail)
   exact bodyPost_ret (v:=rbv ((r1,r2),r3)) (by simp [results,Tryz.results100,go_sem,hc9,hf9]) rfl ⟨by rw [HRES.out],hxc⟩
  ·have hsm:(smB a1 && smB a2 && smB b1 && smB b2)=true:=HTB.out.symm
   simp only [Bool.and_eq_true,smB_iff] at hsm
   obtain ⟨⟨⟨s1,s2⟩,s3⟩,s4⟩:=hsm
   have b1':=sm_mul s1 s4
   have b3':=sm_mul s3 s2
   have b2':=sm_mul s2 s4
   have hdp:0 < a2 * b2:=Int.mul_pos HPA.out HPB.out
   have kw1:=wz (a1 * b2) (by omega)
   have kw3:=wz (b1 * a2) (by omega)
   have kw4:=wz (a1 * b2 - b1 * a2) (by omega)
   have kw2:=wz (a2 * b2) (by omega)
   have HQ:=zH (fun W=>quick_p (a1 * b2 - b1 * a2) (a2 * b2) (by omega) (by omega) W)
   have HNQ:=zH (quick_norm (n:=a1 * b2 - b1 * a2) hdp (by omega) (by omega))
   clear s1 s2 s3 s4 b1' b2' b3' hdp
   obtain ⟨⟨r1,r2⟩,hnr⟩:∃ nr:Int×Int,nr=quickZ (a1 * b2 - b1 * a2) (a2 * b2):=⟨_,rfl⟩
   rw [← hnr] at HQ HNQ
   have HRES:=zH (HRR.out.trans HNQ.out)
   clear hnr HRR HNQ
   go_wp2_with (first
    |(go_at_call 153;(with_reducible refine (HTI.out _).mono ?_);rintro e w3 ⟨rfl,hx3⟩;obtain ⟨e0,e1,el,f0,f1,fl,-⟩:=HC.out w3 (HX2.out.trans hx3))
    |(go_at_call 106;(with_reducible refine (HQ.out _).mono ?_);rintro e w9 ⟨rfl,hx9⟩;obtain ⟨hc9,hf9,hl9⟩:=zC (HC.out w9 (HX2.out.trans (hx3.trans hx9))).2.2.2.2.2.2))
   have hp4:=HP4.out
   have hxx:=HX1.out.trans (HX2.out.trans (hx3.trans hx9))
   exact bodyPost_ret (v:=rbv ((r1,r2),true)) (by simp [results,Tryz.results100,go_sem,hc9,hf9]) rfl ⟨by rw [HRES.out],xt⟩
end Go.Proofs.YteomcpplajeidaaGreat
