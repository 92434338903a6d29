/-
  Lemmas of this claim (JwP). Nothing is asked.
-/
import Derived.Test.YteomcpplajeidaaGreatJwO
set_option linter.unusedVariables false
set_option linter.unusedSimpArgs false
set_option maxRecDepth 100000
set_option maxHeartbeats 40000000
namespace Go.Proofs.YteomcpplajeidaaGreat
open Go.RowKit
def OkR (a:Int×Int):Prop:=-9223372036854775808≤a.1∧a.1≤9223372036854775807∧-9223372036854775808≤a.2∧a.2≤9223372036854775807
theorem rbox2 {w:World} {a b:Int×Int}:Ext w ((w.alloc (.cells #[iV a.1,iV a.2] 30)).alloc (.cells #[iV b.1,iV b.2] 30)) ∧
 ((w.alloc (.cells #[iV a.1,iV a.2] 30)).alloc (.cells #[iV b.1,iV b.2] 30)).heap[w.heap.size]? = some (.cells #[iV a.1,iV a.2] 30) ∧
 ((w.alloc (.cells #[iV a.1,iV a.2] 30)).alloc (.cells #[iV b.1,iV b.2] 30)).heap[w.heap.size+1]? = some (.cells #[iV b.1,iV b.2] 30):=
 ⟨Ext.alloc (Ext.alloc (Ext.refl _) _) _,by rw [Below.heap_alloc _ _ _ (by simp)];exact block_new rfl,block_new (by simp)⟩
theorem rcell {w:World} {p:Nat} {a:Int×Int} (h:w.heap[p]? = some (.cells #[iV a.1,iV a.2] 30)):w.cell? ⟨p,0,none⟩=some (iV a.1)∧w.cell? ⟨p,1,none⟩=some (iV a.2)∧p < w.heap.size:=
 ⟨(zC h).1 0,(zC h).1 1,zL h⟩
theorem rboth_any (a b:Int×Int) (ha:OkR a) (hb:OkR b) (w:World) :
 Calls Tryz.prog 81 #[rv a,rv b] w fun e w'=>e=.returned (.bool (rightB a.1 a.2 && rightB b.1 b.2))∧Ext w w':=by
 obtain ⟨hx,h2,h3⟩:=rbox2 (w:=w) (a:=a) (b:=b)
 obtain ⟨a1,a2⟩:=a
 obtain ⟨b1,b2⟩:=b
 obtain ⟨k1,k2,k3,k4⟩:=ha
 obtain ⟨m1,m2,m3,m4⟩:=hb
 have HR1:=zH (fun W=>rRight_any a1 a2 k1 k2 k3 k4 W)
 have HR2:=zH (fun W=>rRight_any b1 b2 m1 m2 m3 m4 W)
 obtain ⟨c0,c1,cl⟩:=rcell (a:=(a1,a2)) h2
 obtain ⟨d0,d1,dl⟩:=rcell (a:=(b1,b2)) h3
 simp only at c0 c1 d0 d1 hx h2 h3 cl dl ⊢
 generalize rightB a1 a2=r1 at *
 generalize rightB b1 b2=r2 at *
 have HX:=zH hx
 clear k1 k2 k3 k4 m1 m2 m3 m4 h2 h3 hx
 cases r1
 ·go_in
  go_wp2_with (first
   |(go_at_call_of 128 (Value.agg #[iV a1,iV a2]);(with_reducible refine (HR1.out _).mono ?_);rintro e w2 ⟨rfl,hx2⟩;have e0:=(hx2.cells.1 _ _ dl).trans d0;have e1:=(hx2.cells.1 _ _ dl).trans d1;have el:=Nat.lt_of_lt_of_le dl hx2.size)
   |(go_at_call_of 128 (Value.agg #[iV b1,iV b2]);(with_reducible refine (HR2.out _).mono ?_);rintro e w3 ⟨rfl,hx3⟩))
  go_ret
  exact ⟨rfl,HX.out.trans (hx2.trans hx3)⟩
 ·go_in
  go_wp2_with (first
   |(go_at_call_of 128 (Value.agg #[iV a1,iV a2]);(with_reducible refine (HR1.out _).mono ?_);rintro e w2 ⟨rfl,hx2⟩;have e0:=(hx2.cells.1 _ _ dl).trans d0;have e1:=(hx2.cells.1 _ _ dl).trans d1;have el:=Nat.lt_of_lt_of_le dl hx2.size)
   |(go_at_call_of 128 (Value.agg #[iV b1,iV b2]);(with_reducible refine (HR2.out _).mono ?_);rintro e w3 ⟨rfl,hx3⟩))
  go_ret
  exact ⟨rfl,HX.out.trans (hx2.trans hx3)⟩
def tinyB (a b:Int×Int):Bool:=smB a.1 && smB a.2 && smB b.1 && smB b.2
theorem tiny_any (a b:Int×Int) (w:World) :
 Calls Tryz.prog 153 #[rv a,rv b] w fun e w'=>e=.returned (.bool (tinyB a b))∧Ext w w':=by
 obtain ⟨hx,h2,h3⟩:=rbox2 (w:=w) (a:=a) (b:=b)
 obtain ⟨a1,a2⟩:=a
 obtain ⟨b1,b2⟩:=b
 have H1:=zH (fun W=>small_c a1 W)
 have H2:=zH (fun W=>small_c a2 W)
 have H3:=zH (fun W=>small_c b1 W)
 have H4:=zH (fun W=>small_c b2 W)
 obtain ⟨c0,c1,cl⟩:=rcell (a:=(a1,a2)) h2
 obtain ⟨d0,d1,dl⟩:=rcell (a:=(b1,b2)) h3
 unfold tinyB
 simp only at c0 c1 d0 d1 hx h2 h3 cl dl ⊢
 generalize smB a1=s1 at *
 generalize smB a2=s2 at *
 generalize smB b1=s3 at *
 generalize smB b2=s4 at *
 have HX:=zH hx
 clear h2 h3 hx
 cases s1
 ·skip
  go_in
  go_wp2_with (first
   |(go_at_call_of 105 (iV a1);(with_reducible refine (H1.out _).mono ?_);rintro e w2 ⟨rfl,rfl⟩)
   |(go_at_call_of 105 (iV a2);(with_reducible refine (H2.out _).mono ?_);rintro e w2 ⟨rfl,rfl⟩)
   |(go_at_call_of 105 (iV b1);(with_reducible refine (H3.out _).mono ?_);rintro e w2 ⟨rfl,rfl⟩)
   |(go_at_call_of 105 (iV b2);(with_reducible refine (H4.out _).mono ?_);rintro e w2 ⟨rfl,rfl⟩))
  go_ret
  exact ⟨rfl,HX.out⟩
 ·cases s2
  ·skip
   go_in
   go_wp2_with (first
    |(go_at_call_of 105 (iV a1);(with_reducible refine (H1.out _).mono ?_);rintro e w2 ⟨rfl,rfl⟩)
    |(go_at_call_of 105 (iV a2);(with_reducible refine (H2.out _).mono ?_);rintro e w2 ⟨rfl,rfl⟩)
    |(go_at_call_of 105 (iV b1);(with_reducible refine (H3.out _).mono ?_);rintro e w2 ⟨rfl,rfl⟩)
    |(go_at_call_of 105 (iV b2);(with_reducible refine (H4.out _).mono ?_);rintro e w2 ⟨rfl,rfl⟩))
   go_ret
   exact ⟨rfl,HX.out⟩
  ·cases s3
   ·skip
    go_in
    go_wp2_with (first
     |(go_at_call_of 105 (iV a1);(with_reducible refine (H1.out _).mono ?_);rintro e w2 ⟨rfl,rfl⟩)
     |(go_at_call_of 105 (iV a2);(with_reducible refine (H2.out _).mono ?_);rintro e w2 ⟨rfl,rfl⟩)
     |(go_at_call_of 105 (iV b1);(with_reducible refine (H3.out _).mono ?_);rintro e w2 ⟨rfl,rfl⟩)
     |(go_at_call_of 105 (iV b2);(with_reducible refine (H4.out _).mono ?_);rintro e w2 ⟨rfl,rfl⟩))
    go_ret
    exact ⟨rfl,HX.out⟩
   ·skip
    go_in
    go_wp2_with (first
     |(go_at_call_of 105 (iV a1);(with_reducible refine (H1.out _).mono ?_);rintro e w2 ⟨rfl,rfl⟩)
     |(go_at_call_of 105 (iV a2);(with_reducible refine (H2.out _).mono ?_);rintro e w2 ⟨rfl,rfl⟩)
     |(go_at_call_of 105 (iV b1);(with_reducible refine (H3.out _).mono ?_);rintro e w2 ⟨rfl,rfl⟩)
     |(go_at_call_of 105 (iV b2);(with_reducible refine (H4.out _).mono ?_);rintro e w2 ⟨rfl,rfl⟩))
    go_ret
    exact ⟨rfl,HX.out⟩
theorem sum_val {s t:Bool} {l m:List Int} (hl:Dg l) (hm:Dg m):Dg (bgSum s t l m).2∧sgn (bgSum s t l m).1 (dv (bgSum s t l m).2)=sgn s (dv l)+sgn t (dv m)∧(bgSum s t l m).2.length≤max l.length m.length+1:=by
 unfold bgSum
 by_cases h:s=t
 ·subst h
  rw [if_pos rfl]
  obtain ⟨h1,h2,h3⟩:=plusL_spec 0 l m (by omega) (by omega) hl hm
  refine ⟨h1,?_,h3⟩
  simp only
  rw [h2]
  unfold sgn
  cases s <;> simp <;> omega
 ·rw [if_neg h]
  by_cases h2:dv m≤dv l
  ·rw [if_pos h2]
   obtain ⟨k1,k2,k3⟩:=minusL_spec 0 l m (by omega) (by omega) hl hm (by omega)
   obtain ⟨t1,t2,t3,t4⟩:=trimL_spec _ k1
   refine ⟨t1,?_,by simp only;omega⟩
   simp only
   rw [t3,k2]
   unfold sgn
   cases s <;> cases t <;> simp at h ⊢ <;> omega
  ·rw [if_neg h2]
   obtain ⟨k1,k2,k3⟩:=minusL_spec 0 m l (by omega) (by omega) hm hl (by omega)
   obtain ⟨t1,t2,t3,t4⟩:=trimL_spec _ k1
   refine ⟨t1,?_,by simp only;omega⟩
   simp only
   rw [t3,k2]
   unfold sgn
   cases s <;> cases t <;> simp at h ⊢ <;> omega
theorem sgn_mulB (s t:Bool) (a b:Int):sgn (s != t) (a * b)=sgn s a * sgn t b:=by
 unfold sgn
 cases s <;> cases t <;> simp [Int.neg_mul,Int.mul_neg]
theorem mul_val {a b:Int} (ha:-9223372036854775808≤a∧a≤9223372036854775807) (hb:-9223372036854775808≤b∧b≤9223372036854775807) :
 Dg (timesL (ofL a.natAbs) (ofL b.natAbs))∧sgn (decide (a < 0) != decide (b < 0)) (dv (timesL (ofL a.natAbs) (ofL b.natAbs)))=a * b∧(timesL (ofL a.natAbs) (ofL b.natAbs)).length≤8:=by
 obtain ⟨a1,-,a3,a4,a5⟩:=of_val ha.1 ha.2
 obtain ⟨b1,-,b3,b4,b5⟩:=of_val hb.1 hb.2
 obtain ⟨k1,-,k3,k4⟩:=timesL_spec _ _ a1 b1
 refine ⟨k1,?_,by omega⟩
 rw [k3,sgn_mulB,a5,b5]
theorem hold3 {f a b c:World→Prop} {fs:List (World→Prop)} {w:World} (h:Rr.Holds (a :: b :: c :: f :: fs) w):f w:=h _ (zN _ (zN _ (zN _ zM)))
theorem sm_mul {x y:Int} (hx:-1000000000 < x∧x < 1000000000) (hy:-1000000000 < y∧y < 1000000000):-1000000000000000000≤x * y∧x * y≤1000000000000000000:=by
 have h:(x * y).natAbs≤1000000000 * 1000000000:=by
  rw [Int.natAbs_mul]
  exact Nat.mul_le_mul (by omega) (by omega)
 omega
def refOp (a b:Int×Int) (N D:Int):(Int×Int)×Bool:=if (rightB a.1 a.2 && rightB b.1 b.2)=true then normS N D else ((0,1),false)
theorem rMul_any (a b:Int×Int) (ha:OkR a) (hb:OkR b) (w:World) :
 Calls Tryz.prog 101 #[rv a,rv b] w fun e w'=>e=.returned (rbv (refOp a b (a.1 * b.1) (a.2 * b.2)))∧Ext w w':=by
 have HBO:=zH (fun W=>rboth_any a b ha hb W)
 have HTI:=zH (fun W=>tiny_any a b W)
 obtain ⟨hxb,h2,h3⟩:=rbox2 (w:=w) (a:=a) (b:=b)
 obtain ⟨W1,hW1⟩:∃ W1,W1=(((w.alloc (.cells #[iV a.1,iV a.2] 30)).alloc (.cells #[iV b.1,iV b.2] 30)).alloc (.cells #[iV 0,iV 0] 30)):=⟨_,rfl⟩
 have hx1:Ext w W1:=by rw [hW1];exact Ext.alloc hxb _
 have k2:W1.heap[w.heap.size]? = some (.cells #[iV a.1,iV a.2] 30):=by rw [hW1,Below.heap_alloc _ _ _ (zL h2)];exact h2
 have k3:W1.heap[w.heap.size+1]? = some (.cells #[iV b.1,iV b.2] 30):=by rw [hW1,Below.heap_alloc _ _ _ (zL h3)];exact h3
 have k4:W1.heap[w.heap.size+1+1]? = some (.cells #[iV 0,iV 0] 30):=by rw [hW1];exact block_new (by simp)
 clear hxb h2 h3
 obtain ⟨a1,a2⟩:=a
 obtain ⟨b1,b2⟩:=b
 simp only at k2 k3 k4 hW1
 have HC:Hid (∀ W,Ext W1 W→W.cell? ⟨w.heap.size,0,none⟩=some (iV a1)∧W.cell? ⟨w.heap.size,1,none⟩=some (iV a2)∧w.heap.size < W.heap.size∧W.cell? ⟨w.heap.size+1,0,none⟩=some (iV b1)∧W.cell? ⟨w.heap.size+1,1,none⟩=some (iV b2)∧w.heap.size+1 < W.heap.size∧W.heap[w.heap.size+1+1]? = some (.cells #[iV 0,iV 0] 30)):=zH fun W hW=>by
  obtain ⟨c0,c1,cl⟩:=rcell (a:=(a1,a2)) ((hW.block _ (zL k2)).trans k2)
  obtain ⟨d0,d1,dl⟩:=rcell (a:=(b1,b2)) ((hW.block _ (zL k3)).trans k3)
  exact ⟨c0,c1,cl,d0,d1,dl,(hW.block _ (zL k4)).trans k4⟩
 have HX1:=zH hx1
 have HA:=zH ha;have HB:=zH hb
 clear ha hb k2 k3 k4 hx1
 unfold tinyB at HTI
 simp only at HBO HTI ⊢
 go_in
 go_upto_region 1 with (fail)
 rw [← hW1]
 clear hW1
 obtain ⟨p2,hp2⟩:∃ p2,p2=w.heap.size:=⟨_,rfl⟩
 obtain ⟨p3,hp3⟩:∃ p3,p3=w.heap.size+1:=⟨_,rfl⟩
 obtain ⟨p4,hp4⟩:∃ p4,p4=w.heap.size+1+1:=⟨_,rfl⟩
 rw [← hp4,← hp3,← hp2] at HC ⊢
 have HP4:=zH (show w.heap.size≤p4 by omega)
 clear hp2 hp3 hp4
 obtain ⟨c0,c1,cl,d0,d1,dl,-⟩:=HC.out W1 (Ext.refl _)
 obtain ⟨rr,hrr⟩:∃ rr,rr=(rightB a1 a2 && rightB b1 b2):=⟨_,rfl⟩
 rw [← hrr] at HBO
 cases rr
 ·have HRES:Hid (refOp (a1,a2) (b1,b2) (a1 * b1) (a2 * b2)=((0,1),false)):=zH (if_neg (by rw [← hrr];simp))
  clear HTI hrr
  go_wp2_with (first
   |(go_at_call 81;(with_reducible refine (HBO.out _).mono ?_);rintro e w2 ⟨rfl,hx2⟩)
   |(go_at_call 28;(with_reducible refine (refOf_any _ _).mono ?_);rintro e w9 ⟨rfl,hx9⟩;obtain ⟨hc9,hf9,hl9⟩:=zC (HC.out w9 (hx2.trans hx9)).2.2.2.2.2.2))
  have hp4:=HP4.out
  have hxx:=HX1.out.trans (hx2.trans hx9)
  exact bodyPost_ret (v:=rbv ((0,1),false)) (by simp [results,Tryz.results101,go_sem,hc9,hf9]) rfl ⟨by rw [HRES.out],xt⟩
 ·have hr1:=(Bool.and_eq_true_iff.1 hrr.symm).1
  have hr2:=(Bool.and_eq_true_iff.1 hrr.symm).2
  obtain ⟨ha2,hga⟩:=(rightB_iff _ _).1 hr1
  obtain ⟨hb2,hgb⟩:=(rightB_iff _ _).1 hr2
  have HRR:Hid (refOp (a1,a2) (b1,b2) (a1 * b1) (a2 * b2)=normS (a1 * b1) (a2 * b2)):=zH (if_pos hrr.symm)
  clear hrr hr1 hr2 hga hgb
  have HPA:=zH ha2;have HPB:=zH hb2
  clear ha2 hb2
  obtain ⟨tb,htb⟩:∃ tb,tb=(smB a1 && smB a2 && smB b1 && smB b2):=⟨_,rfl⟩
  rw [← htb] at HTI
  have HTB:=zH htb
  clear htb
  go_upto_region 3 with (go_at_call 81;(refine (HBO.out _).mono ?_);rintro e w2 ⟨rfl,hx2⟩)
  have HX2:=zH hx2
  clear c0 c1 cl d0 d1 dl hx2 HBO
  obtain ⟨c0,c1,cl,d0,d1,dl,-⟩:=HC.out w2 HX2.out
  cases tb
  ·go_upto_region 5 with (go_at_call 153;(refine (HTI.out _).mono ?_);rintro e w3 ⟨rfl,hx3⟩)
   have HX3:=zH (HX2.out.trans hx3)
   clear c0 c1 cl d0 d1 dl hx3 HX2 HTI
   obtain ⟨c0,c1,cl,d0,d1,dl,-⟩:=HC.out w3 HX3.out
   have HO1:=zH (fun W=>bof_any a1 W HA.out.1 HA.out.2.1)
   have HO2:=zH (fun W=>bof_any a2 W HA.out.2.2.1 HA.out.2.2.2)
   have HO3:=zH (fun W=>bof_any b1 W HB.out.1 HB.out.2.1)
   have HO4:=zH (fun W=>bof_any b2 W HB.out.2.2.1 HB.out.2.2.2)
   have L1:(ofL (a1.natAbs:Int)).length≤4:=(of_val HA.out.1 HA.out.2.1).2.2.2.1
   have L2:(ofL (a2.natAbs:Int)).length≤4:=(of_val HA.out.2.2.1 HA.out.2.2.2).2.2.2.1
   have L3:(ofL (b1.natAbs:Int)).length≤4:=(of_val HB.out.1 HB.out.2.1).2.2.2.1
   have L4:(ofL (b2.natAbs:Int)).length≤4:=(of_val HB.out.2.2.1 HB.out.2.2.2).2.2.2.1
   obtain ⟨-,n2,n3⟩:=mul_val (a:=a1) (b:=b1) ⟨HA.out.1,HA.out.2.1⟩ ⟨HB.out.1,HB.out.2.1⟩
   obtain ⟨-,m2,m3⟩:=mul_val (a:=a2) (b:=b2) ⟨HA.out.2.2.1,HA.out.2.2.2⟩ ⟨HB.out.2.2.1,HB.out.2.2.2⟩
   have hda:(decide (a2 < 0) != decide (b2 < 0))=false:=by rw [decide_eq_false (by have:=HPA.out;omega),decide_eq_false (by have:=HPB.out;omega)];rfl
   have hdp:0 < a2 * b2:=Int.mul_pos HPA.out HPB.out
   have hdv:dv (timesL (ofL a2.natAbs) (ofL b2.natAbs))=a2 * b2:=by rw [hda] at m2;exact m2
   have HLO:=zH (fun W v u (hv:BgR W v (decide (a1 < 0) != decide (b1 < 0)) (timesL (ofL a1.natAbs) (ofL b1.natAbs))) (hu:BgR W u (decide (a2 < 0) != decide (b2 < 0)) (timesL (ofL a2.natAbs) (ofL b2.natAbs)))=>blowest_any _ _ _ _ W v u hv hu (by omega) (by omega) (by rw [hdv];exact hdp))
   rw [hdv,show sgn ((decide (a1 < 0) != decide (b1 < 0)) != (decide (a2 < 0) != decide (b2 < 0))) (dv (timesL (ofL a1.natAbs) (ofL b1.natAbs)))=a1 * b1 by rw [hda,show ∀ x:Bool,(x != false)=x by intro x;cases x <;> rfl];exact n2] at HLO
   have HM1:=zH (fun W v u (hv:BgR W v (decide (a1 < 0)) (ofL a1.natAbs)) (hu:BgR W u (decide (b1 < 0)) (ofL b1.natAbs))=>bmul_any (decide (a1 < 0)) (decide (b1 < 0)) (ofL a1.natAbs) (ofL b1.natAbs) W v u hv hu (by omega) (by omega))
   have HM2:=zH (fun W v u (hv:BgR W v (decide (a2 < 0)) (ofL a2.natAbs)) (hu:BgR W u (decide (b2 < 0)) (ofL b2.natAbs))=>bmul_any (decide (a2 < 0)) (decide (b2 < 0)) (ofL a2.natAbs) (ofL b2.natAbs) W v u hv hu (by omega) (by omega))
   clear L1 L2 L3 L4 n2 n3 m2 m3 hda hdp hdv
   obtain ⟨⟨⟨r1,r2⟩,r3⟩,hnr⟩:∃ nr:(Int×Int)×Bool,nr=normS (a1 * b1) (a2 * b2):=⟨_,rfl⟩
   rw [← hnr] at HLO
   have HRES:=zH (HRR.out.trans hnr.symm)
   clear hnr HRR
   simp only at HLO
   refine Rr.rE [16] [(0,.y),(1,.y),(3,.y),(4,.y),(7,.y),(8,.y),(10,.y),(11,.y),(2,.z),(5,.z),(6,.z),(9,.z),(12,.z),(13,.z),(14,.y),(15,.y),(16,.y)] ?_
   iterate 8
    refine Rr.y1 ?_
   refine Rr.z3 (fun v w'=>BgR w' v (decide (a1 < 0)) (ofL a1.natAbs)) (fun wz hw hh=>HO1.out wz) (fun u=>?_)
   refine Rr.z3 (fun v w'=>BgR w' v (decide (b1 < 0)) (ofL b1.natAbs)) (fun wz hw hh=>HO3.out wz) (fun u=>?_)
   refine Rr.z3 (fun v w'=>BgR w' v (decide (a1 < 0) != decide (b1 < 0)) (timesL (ofL a1.natAbs) (ofL b1.natAbs))) (fun wz hw hh=>HM1.out wz _ _ (hold1 hh) (hold0 hh)) (fun u=>?_)
   refine Rr.z3 (fun v w'=>BgR w' v (decide (a2 < 0)) (ofL a2.natAbs)) (fun wz hw hh=>HO2.out wz) (fun u=>?_)
   refine Rr.z3 (fun v w'=>BgR w' v (decide (b2 < 0)) (ofL b2.natAbs)) (fun wz hw hh=>HO4.out wz) (fun u=>?_)
   refine Rr.z3 (fun v w'=>BgR w' v (decide (a2 < 0) != decide (b2 < 0)) (timesL (ofL a2.natAbs) (ofL b2.natAbs))) (fun wz hw hh=>HM2.out wz _ _ (hold1 hh) (hold0 hh)) (fun u=>?_)
   refine Rr.yd ⟨.tuple #[.agg #[iV r1,iV r2],.bool r3],fun wz hw hh=>?_,?_⟩
   ·go_simp
    apply Rg.up_enter
    (refine (HLO.out wz _ _ (hold3 hh) (hold0 hh)).mono ?_)
    rintro e w4 ⟨rfl,hb4⟩
    exact ⟨rfl,hb4⟩
   simp only [zp]
   iterate 2
    refine Rr.y1 ?_
   refine Rr.wr_nil ?_
   intro wy hy hh
   simp only [gg,gh,gi,gj,Nat.reduceAdd]
   have h40:=(HC.out wy (HX3.out.trans hy)).2.2.2.2.2.2
   refine wpList_store_row (hgd:=rfl) 30 (.tmp 4) (.tmp 40) rfl p4 (by rfl) #[iV r1,iV r2] (by rfl) #[iV 0,iV 0] 30 h40 (by rfl) (by kernel_rfl) (by simp [Value.oneCell']) ?_
   have hbc:=setRow_heap wy p4 _ #[iV r1,iV r2] 30 _ h40
   have hxc:Ext w (wy.setRow p4 #[iV r1,iV r2]):=below_setRow (HX1.out.trans (HX3.out.trans hy)) HP4.out #[iV r1,iV r2]
   generalize wy.setRow p4 #[iV r1,iV r2]=W9 at *
   obtain ⟨hc9,hf9,hl9⟩:=zC hbc
   clear hh h40 hbc hy c0 c1 cl d0 d1 dl
   go_wp2_with (fail)
   exact bodyPost_ret (v:=rbv ((r1,r2),r3)) (by simp [results,Tryz.results101,go_sem,hc9,hf9]) rfl ⟨by rw [HRES.out],hxc⟩
  ·have hsm:(smB a1 && smB a2 && smB b1 && smB b2)=true:=HTB.out.symm
   simp only [Bool.and_eq_true,smB_iff] at hsm
   obtain ⟨⟨⟨s1,s2⟩,s3⟩,s4⟩:=hsm
   have b1':=sm_mul s1 s3
   have b2':=sm_mul s2 s4
   have hdp:0 < a2 * b2:=Int.mul_pos HPA.out HPB.out
   have kw1:=wz (a1 * b1) (by omega)
   have kw2:=wz (a2 * b2) (by omega)
   have HQ:=zH (fun W=>quick_p (a1 * b1) (a2 * b2) (by omega) (by omega) W)
   have HNQ:=zH (quick_norm (n:=a1 * b1) hdp (by omega) (by omega))
   clear s1 s2 s3 s4 b1' b2' hdp
   obtain ⟨⟨r1,r2⟩,hnr⟩:∃ nr:Int×Int,nr=quickZ (a1 * b1) (a2 * b2):=⟨_,rfl⟩
   rw [← hnr] at HQ HNQ
   have HRES:=zH (HRR.out.trans HNQ.out)
   clear hnr HRR HNQ
   go_wp2_with (first
    |(go_at_call 153;(with_reducible refine (HTI.out _).mono ?_);rintro e w3 ⟨rfl,hx3⟩;obtain ⟨e0,e1,el,f0,f1,fl,-⟩:=HC.out w3 (HX2.out.trans hx3))
    |(go_at_call 106;(with_reducible refine (HQ.out _).mono ?_);rintro e w9 ⟨rfl,hx9⟩;obtain ⟨hc9,hf9,hl9⟩:=zC (HC.out w9 (HX2.out.trans (hx3.trans hx9))).2.2.2.2.2.2))
   have hp4:=HP4.out
   have hxx:=HX1.out.trans (HX2.out.trans (hx3.trans hx9))
   exact bodyPost_ret (v:=rbv ((r1,r2),true)) (by simp [results,Tryz.results101,go_sem,hc9,hf9]) rfl ⟨by rw [HRES.out],xt⟩
theorem rAdd_any (a b:Int×Int) (ha:OkR a) (hb:OkR b) (w:World) :
 Calls Tryz.prog 98 #[rv a,rv b] w fun e w'=>e=.returned (rbv (refOp a b (a.1 * b.2+b.1 * a.2) (a.2 * b.2)))∧Ext w w':=by
 have HBO:=zH (fun W=>rboth_any a b ha hb W)
 have HTI:=zH (fun W=>tiny_any a b W)
 obtain ⟨hxb,h2,h3⟩:=rbox2 (w:=w) (a:=a) (b:=b)
 obtain ⟨W1,hW1⟩:∃ W1,W1=(((w.alloc (.cells #[iV a.1,iV a.2] 30)).alloc (.cells #[iV b.1,iV b.2] 30)).alloc (.cells #[iV 0,iV 0] 30)):=⟨_,rfl⟩
 have hx1:Ext w W1:=by rw [hW1];exact Ext.alloc hxb _
 have k2:W1.heap[w.heap.size]? = some (.cells #[iV a.1,iV a.2] 30):=by rw [hW1,Below.heap_alloc _ _ _ (zL h2)];exact h2
 have k3:W1.heap[w.heap.size+1]? = some (.cells #[iV b.1,iV b.2] 30):=by rw [hW1,Below.heap_alloc _ _ _ (zL h3)];exact h3
 have k4:W1.heap[w.heap.size+1+1]? = some (.cells #[iV 0,iV 0] 30):=by rw [hW1];exact block_new (by simp)
 clear hxb h2 h3
 obtain ⟨a1,a2⟩:=a
 obtain ⟨b1,b2⟩:=b
 simp only at k2 k3 k4 hW1
 have HC:Hid (∀ W,Ext W1 W→W.cell? ⟨w.heap.size,0,none⟩=some (iV a1)∧W.cell? ⟨w.heap.size,1,none⟩=some (iV a2)∧w.heap.size < W.heap.size∧W.cell? ⟨w.heap.size+1,0,none⟩=some (iV b1)∧W.cell? ⟨w.heap.size+1,1,none⟩=some (iV b2)∧w.heap.size+1 < W.heap.size∧W.heap[w.heap.size+1+1]? = some (.cells #[iV 0,iV 0] 30)):=zH fun W hW=>by
  obtain ⟨c0,c1,cl⟩:=rcell (a:=(a1,a2)) ((hW.block _ (zL k2)).trans k2)
  obtain ⟨d0,d1,dl⟩:=rcell (a:=(b1,b2)) ((hW.block _ (zL k3)).trans k3)
  exact ⟨c0,c1,cl,d0,d1,dl,(hW.block _ (zL k4)).trans k4⟩
 have HX1:=zH hx1
 have HA:=zH ha;have HB:=zH hb
 clear ha hb k2 k3 k4 hx1
 unfold tinyB at HTI
 simp only at HBO HTI ⊢
 go_in
 go_upto_region 1 with (fail)
 rw [← hW1]
 clear hW1
 obtain ⟨p2,hp2⟩:∃ p2,p2=w.heap.size:=⟨_,rfl⟩
 obtain ⟨p3,hp3⟩:∃ p3,p3=w.heap.size+1:=⟨_,rfl⟩
 obtain ⟨p4,hp4⟩:∃ p4,p4=w.heap.size+1+1:=⟨_,rfl⟩
 rw [← hp4,← hp3,← hp2] at HC ⊢
 have HP4:=zH (show w.heap.size≤p4 by omega)
 clear hp2 hp3 hp4
 obtain ⟨c0,c1,cl,d0,d1,dl,-⟩:=HC.out W1 (Ext.refl _)
 obtain ⟨rr,hrr⟩:∃ rr,rr=(rightB a1 a2 && rightB b1 b2):=⟨_,rfl⟩
 rw [← hrr] at HBO
 cases rr
 ·have HRES:Hid (refOp (a1,a2) (b1,b2) (a1 * b2+b1 * a2) (a2 * b2)=((0,1),false)):=zH (if_neg (by rw [← hrr];simp))
  clear HTI hrr
  go_wp2_with (first
   |(go_at_call 81;(with_reducible refine (HBO.out _).mono ?_);rintro e w2 ⟨rfl,hx2⟩)
   |(go_at_call 28;(with_reducible refine (refOf_any _ _).mono ?_);rintro e w9 ⟨rfl,hx9⟩;obtain ⟨hc9,hf9,hl9⟩:=zC (HC.out w9 (hx2.trans hx9)).2.2.2.2.2.2))
  have hp4:=HP4.out
  have hxx:=HX1.out.trans (hx2.trans hx9)
  exact bodyPost_ret (v:=rbv ((0,1),false)) (by simp [results,Tryz.results98,go_sem,hc9,hf9]) rfl ⟨by rw [HRES.out],xt⟩
 ·have hr1:=(Bool.and_eq_true_iff.1 hrr.symm).1
  have hr2:=(Bool.and_eq_true_iff.1 hrr.symm).2
  obtain ⟨ha2,hga⟩:=(rightB_iff _ _).1 hr1
  obtain ⟨hb2,hgb⟩:=(rightB_iff _ _).1 hr2
  have HRR:Hid (refOp (a1,a2) (b1,b2) (a1 * b2+b1 * a2) (a2 * b2)=normS (a1 * b2+b1 * a2) (a2 * b2)):=zH (if_pos hrr.symm)
  clear hrr hr1 hr2 hga hgb
  have HPA:=zH ha2;have HPB:=zH hb2
  clear ha2 hb2
  obtain ⟨tb,htb⟩:∃ tb,tb=(smB a1 && smB a2 && smB b1 && smB b2):=⟨_,rfl⟩
  rw [← htb] at HTI
  have HTB:=zH htb
  clear htb
  go_upto_region 3 with (go_at_call 81;(refine (HBO.out _).mono ?_);rintro e w2 ⟨rfl,hx2⟩)
  have HX2:=zH hx2
  clear c0 c1 cl d0 d1 dl hx2 HBO
  obtain ⟨c0,c1,cl,d0,d1,dl,-⟩:=HC.out w2 HX2.out
  cases tb
  ·go_upto_region 5 with (go_at_call 153;(refine (HTI.out _).mono ?_);rintro e w3 ⟨rfl,hx3⟩)
   have HX3:=zH (HX2.out.trans hx3)
   clear c0 c1 cl d0 d1 dl hx3 HX2 HTI
   obtain ⟨c0,c1,cl,d0,d1,dl,-⟩:=HC.out w3 HX3.out
   have HO1:=zH (fun W=>bof_any a1 W HA.out.1 HA.out.2.1)
   have HO2:=zH (fun W=>bof_any a2 W HA.out.2.2.1 HA.out.2.2.2)
   have HO3:=zH (fun W=>bof_any b1 W HB.out.1 HB.out.2.1)
   have HO4:=zH (fun W=>bof_any b2 W HB.out.2.2.1 HB.out.2.2.2)
   have L1:(ofL (a1.natAbs:Int)).length≤4:=(of_val HA.out.1 HA.out.2.1).2.2.2.1
   have L2:(ofL (a2.natAbs:Int)).length≤4:=(of_val HA.out.2.2.1 HA.out.2.2.2).2.2.2.1
   have L3:(ofL (b1.natAbs:Int)).length≤4:=(of_val HB.out.1 HB.out.2.1).2.2.2.1
   have L4:(ofL (b2.natAbs:Int)).length≤4:=(of_val HB.out.2.2.1 HB.out.2.2.2).2.2.2.1
   obtain ⟨n1,n2,n3⟩:=mul_val (a:=a1) (b:=b2) ⟨HA.out.1,HA.out.2.1⟩ ⟨HB.out.2.2.1,HB.out.2.2.2⟩
   obtain ⟨o1,o2,o3⟩:=mul_val (a:=b1) (b:=a2) ⟨HB.out.1,HB.out.2.1⟩ ⟨HA.out.2.2.1,HA.out.2.2.2⟩
   obtain ⟨-,m2,m3⟩:=mul_val (a:=a2) (b:=b2) ⟨HA.out.2.2.1,HA.out.2.2.2⟩ ⟨HB.out.2.2.1,HB.out.2.2.2⟩
   have hda:(decide (a2 < 0) != decide (b2 < 0))=false:=by rw [decide_eq_false (by have:=HPA.out;omega),decide_eq_false (by have:=HPB.out;omega)];rfl
   have hdp:0 < a2 * b2:=Int.mul_pos HPA.out HPB.out
   have hdv:dv (timesL (ofL a2.natAbs) (ofL b2.natAbs))=a2 * b2:=by rw [hda] at m2;exact m2
   obtain ⟨-,u2,u3⟩:=sum_val (s:=decide (a1 < 0) != decide (b2 < 0)) (t:=decide (b1 < 0) != decide (a2 < 0)) n1 o1
   rw [n2,o2] at u2
   have HSU:=zH (fun W v u (hv:BgR W v (decide (a1 < 0) != decide (b2 < 0)) (timesL (ofL a1.natAbs) (ofL b2.natAbs))) (hu:BgR W u (decide (b1 < 0) != decide (a2 < 0)) (timesL (ofL b1.natAbs) (ofL a2.natAbs)))=>badd_any (decide (a1 < 0) != decide (b2 < 0)) (decide (b1 < 0) != decide (a2 < 0)) (timesL (ofL a1.natAbs) (ofL b2.natAbs)) (timesL (ofL b1.natAbs) (ofL a2.natAbs)) W v u hv hu (by omega) (by omega))
   obtain ⟨⟨bs,bl⟩,hbs⟩:∃ x:Bool×List Int,x=bgSum (decide (a1 < 0) != decide (b2 < 0)) (decide (b1 < 0) != decide (a2 < 0)) (timesL (ofL a1.natAbs) (ofL b2.natAbs)) (timesL (ofL b1.natAbs) (ofL a2.natAbs)):=⟨_,rfl⟩
   rw [← hbs] at u2 u3 HSU
   simp only at u2 u3 HSU
   clear hbs
   have HLO:=zH (fun W v u (hv:BgR W v bs bl) (hu:BgR W u (decide (a2 < 0) != decide (b2 < 0)) (timesL (ofL a2.natAbs) (ofL b2.natAbs)))=>blowest_any _ _ _ _ W v u hv hu (by omega) (by omega) (by rw [hdv];exact hdp))
   rw [hdv,show sgn (bs != (decide (a2 < 0) != decide (b2 < 0))) (dv bl)=a1 * b2+b1 * a2 by rw [hda,show ∀ x:Bool,(x != false)=x by intro x;cases x <;> rfl];exact u2] at HLO
   have HM1:=zH (fun W v u (hv:BgR W v (decide (a1 < 0)) (ofL a1.natAbs)) (hu:BgR W u (decide (b2 < 0)) (ofL b2.natAbs))=>bmul_any (decide (a1 < 0)) (decide (b2 < 0)) (ofL a1.natAbs) (ofL b2.natAbs) W v u hv hu (by omega) (by omega))
   have HM3:=zH (fun W v u (hv:BgR W v (decide (b1 < 0)) (ofL b1.natAbs)) (hu:BgR W u (decide (a2 < 0)) (ofL a2.natAbs))=>bmul_any (decide (b1 < 0)) (decide (a2 < 0)) (ofL b1.natAbs) (ofL a2.natAbs) W v u hv hu (by omega) (by omega))
   have HM2:=zH (fun W v u (hv:BgR W v (decide (a2 < 0)) (ofL a2.natAbs)) (hu:BgR W u (decide (b2 < 0)) (ofL b2.natAbs))=>bmul_any (decide (a2 < 0)) (decide (b2 < 0)) (ofL a2.natAbs) (ofL b2.natAbs) W v u hv hu (by omega) (by omega))
   clear L1 L2 L3 L4 n1 n2 n3 o1 o2 o3 m2 m3 u2 u3 hda hdp hdv
   obtain ⟨⟨⟨r1,r2⟩,r3⟩,hnr⟩:∃ nr:(Int×Int)×Bool,nr=normS (a1 * b2+b1 * a2) (a2 * b2):=⟨_,rfl⟩
   rw [← hnr] at HLO
   have HRES:=zH (HRR.out.trans hnr.symm)
   clear hnr HRR
   simp only at HLO
   refine Rr.rE [24] [(0,.y),(1,.y),(3,.y),(4,.y),(7,.y),(8,.y),(10,.y),(11,.y),(15,.y),(16,.y),(18,.y),(19,.y),(2,.z),(5,.z),(6,.z),(9,.z),(12,.z),(13,.z),(14,.z),(17,.z),(20,.z),(21,.z),(22,.y),(23,.y),(24,.y)] ?_
   iterate 12
    refine Rr.y1 ?_
   refine Rr.z3 (fun v w'=>BgR w' v (decide (a1 < 0)) (ofL a1.natAbs)) (fun wz hw hh=>HO1.out wz) (fun u=>?_)
   refine Rr.z3 (fun v w'=>BgR w' v (decide (b2 < 0)) (ofL b2.natAbs)) (fun wz hw hh=>HO4.out wz) (fun u=>?_)
   refine Rr.z3 (fun v w'=>BgR w' v (decide (a1 < 0) != decide (b2 < 0)) (timesL (ofL a1.natAbs) (ofL b2.natAbs))) (fun wz hw hh=>HM1.out wz _ _ (hold1 hh) (hold0 hh)) (fun u=>?_)
   refine Rr.z3 (fun v w'=>BgR w' v (decide (b1 < 0)) (ofL b1.natAbs)) (fun wz hw hh=>HO3.out wz) (fun u=>?_)
   refine Rr.z3 (fun v w'=>BgR w' v (decide (a2 < 0)) (ofL a2.natAbs)) (fun wz hw hh=>HO2.out wz) (fun u=>?_)
   refine Rr.z3 (fun v w'=>BgR w' v (decide (b1 < 0) != decide (a2 < 0)) (timesL (ofL b1.natAbs) (ofL a2.natAbs))) (fun wz hw hh=>HM3.out wz _ _ (hold1 hh) (hold0 hh)) (fun u=>?_)
   refine Rr.z3 (fun v w'=>BgR w' v bs bl) (fun wz hw hh=>HSU.out wz _ _ (hold3 hh) (hold0 hh)) (fun u=>?_)
   refine Rr.z3 (fun v w'=>BgR w' v (decide (a2 < 0)) (ofL a2.natAbs)) (fun wz hw hh=>HO2.out wz) (fun u=>?_)
   refine Rr.z3 (fun v w'=>BgR w' v (decide (b2 < 0)) (ofL b2.natAbs)) (fun wz hw hh=>HO4.out wz) (fun u=>?_)
   refine Rr.z3 (fun v w'=>BgR w' v (decide (a2 < 0) != decide (b2 < 0)) (timesL (ofL a2.natAbs) (ofL b2.natAbs))) (fun wz hw hh=>HM2.out wz _ _ (hold1 hh) (hold0 hh)) (fun u=>?_)
   refine Rr.yd ⟨.tuple #[.agg #[iV r1,iV r2],.bool r3],fun wz hw hh=>?_,?_⟩
   ·go_simp
    apply Rg.up_enter
    (refine (HLO.out wz _ _ (hold3 hh) (hold0 hh)).mono ?_)
    rintro e w4 ⟨rfl,hb4⟩
    exact ⟨rfl,hb4⟩
   simp only [zp]
   iterate 2
    refine Rr.y1 ?_
   refine Rr.wr_nil ?_
   intro wy hy hh
   simp only [gg,gh,gi,gj,Nat.reduceAdd]
   have h40:=(HC.out wy (HX3.out.trans hy)).2.2.2.2.2.2
   refine wpList_store_row (hgd:=rfl) 30 (.tmp 4) (.tmp 54) rfl p4 (by rfl) #[iV r1,iV r2] (by rfl) #[iV 0,iV 0] 30 h40 (by rfl) (by kernel_rfl) (by simp [Value.oneCell']) ?_
   have hbc:=setRow_heap wy p4 _ #[iV r1,iV r2] 30 _ h40
   have hxc:Ext w (wy.setRow p4 #[iV r1,iV r2]):=below_setRow (HX1.out.trans (HX3.out.trans hy)) HP4.out #[iV r1,iV r2]
   generalize wy.setRow p4 #[iV r1,iV r2]=W9 at *
   obtain ⟨hc9,hf9,hl9⟩:=zC hbc
   clear hh h40 hbc hy c0 c1 cl d0 d1 dl
   go_wp2_with (fail)
   exact bodyPost_ret (v:=rbv ((r1,r2),r3)) (by simp [results,Tryz.results98,go_sem,hc9,hf9]) rfl ⟨by rw [HRES.out],hxc⟩
  ·have hsm:(smB a1 && smB a2 && smB b1 && smB b2)=true:=HTB.out.symm
   simp only [Bool.and_eq_true,smB_iff] at hsm
   obtain ⟨⟨⟨s1,s2⟩,s3⟩,s4⟩:=hsm
   have b1':=sm_mul s1 s4
   have b3':=sm_mul s3 s2
   have b2':=sm_mul s2 s4
   have hdp:0 < a2 * b2:=Int.mul_pos HPA.out HPB.out
   have kw1:=wz (a1 * b2) (by omega)
   have kw3:=wz (b1 * a2) (by omega)
   have kw4:=wz (a1 * b2+b1 * a2) (by omega)
   have kw2:=wz (a2 * b2) (by omega)
   have HQ:=zH (fun W=>quick_p (a1 * b2+b1 * a2) (a2 * b2) (by omega) (by omega) W)
   have HNQ:=zH (quick_norm (n:=a1 * b2+b1 * a2) hdp (by omega) (by omega))
   clear s1 s2 s3 s4 b1' b2' b3' hdp
   obtain ⟨⟨r1,r2⟩,hnr⟩:∃ nr:Int×Int,nr=quickZ (a1 * b2+b1 * a2) (a2 * b2):=⟨_,rfl⟩
   rw [← hnr] at HQ HNQ
   have HRES:=zH (HRR.out.trans HNQ.out)
   clear hnr HRR HNQ
   go_wp2_with (first
    |(go_at_call 153;(with_reducible refine (HTI.out _).mono ?_);rintro e w3 ⟨rfl,hx3⟩;obtain ⟨e0,e1,el,f0,f1,fl,-⟩:=HC.out w3 (HX2.out.trans hx3))
    |(go_at_call 106;(with_reducible refine (HQ.out _).mono ?_);rintro e w9 ⟨rfl,hx9⟩;obtain ⟨hc9,hf9,hl9⟩:=zC (HC.out w9 (HX2.out.trans (hx3.trans hx9))).2.2.2.2.2.2))
   have hp4:=HP4.out
   have hxx:=HX1.out.trans (HX2.out.trans (hx3.trans hx9))
   exact bodyPost_ret (v:=rbv ((r1,r2),true)) (by simp [results,Tryz.results98,go_sem,hc9,hf9]) rfl ⟨by rw [HRES.out],xt⟩
end Go.Proofs.YteomcpplajeidaaGreat
