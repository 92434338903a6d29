/-
  Lemmas of this claim (JwR). Nothing is asked.
-/
import Derived.Test.YteomcpplajeidaaGreatJwQ
import Derived.Test.YteomcpplajeidaaGreatJwJ
import Derived.Laws.AppendOwnNone
import Derived.Test.YteomcpplajeidaaGreatJwN
import Derived.Test.YteomcpplajeidaaGreatJwI
import Derived.Test.YteomcpplajeidaaGreatJwK
set_option linter.unusedVariables false
set_option linter.unusedSimpArgs false
set_option maxRecDepth 100000
set_option maxHeartbeats 40000000
namespace Go.Proofs.YteomcpplajeidaaGreat
open Go.RowKit
def refCmp (a b:Int×Int):Int:=if (rightB a.1 a.2 && rightB b.1 b.2)=true then (if a.1 * b.2 - b.1 * a.2=0 then 0 else if a.1 * b.2 - b.1 * a.2 < 0 then -1 else 1) else 0
theorem rCmp_any (a b:Int×Int) (ha:OkR a) (hb:OkR b) (w:World) :
 Calls Tryz.prog 46 #[rv a,rv b] w fun e w'=>e=.returned (iV (refCmp a b))∧Ext w w':=by
 have HBO:=zH (fun W=>rboth_any a b ha hb W)
 obtain ⟨hxb,h2,h3⟩:=rbox2 (w:=w) (a:=a) (b:=b)
 obtain ⟨W1,hW1⟩:∃ W1,W1=((w.alloc (.cells #[iV a.1,iV a.2] 30)).alloc (.cells #[iV b.1,iV b.2] 30)):=⟨_,rfl⟩
 have hx1:Ext w W1:=by rw [hW1];exact hxb
 have k2:W1.heap[w.heap.size]? = some (.cells #[iV a.1,iV a.2] 30):=by rw [hW1];exact h2
 have k3:W1.heap[w.heap.size+1]? = some (.cells #[iV b.1,iV b.2] 30):=by rw [hW1];exact h3
 clear hxb h2 h3
 obtain ⟨a1,a2⟩:=a
 obtain ⟨b1,b2⟩:=b
 simp only at k2 k3 hW1
 have HC:Hid (∀ W,Ext W1 W→W.cell? ⟨w.heap.size,0,none⟩=some (iV a1)∧W.cell? ⟨w.heap.size,1,none⟩=some (iV a2)∧w.heap.size < W.heap.size∧W.cell? ⟨w.heap.size+1,0,none⟩=some (iV b1)∧W.cell? ⟨w.heap.size+1,1,none⟩=some (iV b2)∧w.heap.size+1 < W.heap.size):=zH fun W hW=>by
  obtain ⟨c0,c1,cl⟩:=rcell (a:=(a1,a2)) ((hW.block _ (zL k2)).trans k2)
  obtain ⟨d0,d1,dl⟩:=rcell (a:=(b1,b2)) ((hW.block _ (zL k3)).trans k3)
  exact ⟨c0,c1,cl,d0,d1,dl⟩
 have HX1:=zH hx1
 have HA:=zH ha;have HB:=zH hb
 clear ha hb k2 k3 hx1
 simp only at HBO ⊢
 go_in
 go_upto_region 1 with (fail)
 rw [← hW1]
 clear hW1
 obtain ⟨p2,hp2⟩:∃ p2,p2=w.heap.size:=⟨_,rfl⟩
 obtain ⟨p3,hp3⟩:∃ p3,p3=w.heap.size+1:=⟨_,rfl⟩
 rw [← hp3,← hp2] at HC ⊢
 have HP2:=zH (show w.heap.size≤p2 by omega)
 clear hp2 hp3
 obtain ⟨c0,c1,cl,d0,d1,dl⟩:=HC.out W1 (Ext.refl _)
 obtain ⟨rr,hrr⟩:∃ rr,rr=(rightB a1 a2 && rightB b1 b2):=⟨_,rfl⟩
 rw [← hrr] at HBO
 cases rr
 ·have HRES:Hid (refCmp (a1,a2) (b1,b2)=0):=zH (if_neg (by rw [← hrr];simp))
  clear hrr
  go_wp2_with (go_at_call 81;(refine (HBO.out _).mono ?_);rintro e w2 ⟨rfl,hx2⟩)
  go_ret
  exact ⟨by rw [HRES.out];rfl,HX1.out.trans hx2⟩
 ·have hr1:=(Bool.and_eq_true_iff.1 hrr.symm).1
  have hr2:=(Bool.and_eq_true_iff.1 hrr.symm).2
  obtain ⟨ha2,hga⟩:=(rightB_iff _ _).1 hr1
  obtain ⟨hb2,hgb⟩:=(rightB_iff _ _).1 hr2
  have HRR:Hid (refCmp (a1,a2) (b1,b2)=if a1 * b2 - b1 * a2=0 then 0 else if a1 * b2 - b1 * a2 < 0 then -1 else 1):=zH (if_pos hrr.symm)
  clear hrr hr1 hr2 hga hgb
  go_upto_region 3 with (go_at_call 81;(refine (HBO.out _).mono ?_);rintro e w3 ⟨rfl,hx2⟩)
  have HX3:=zH hx2
  clear c0 c1 cl d0 d1 dl hx2 HBO
  obtain ⟨c0,c1,cl,d0,d1,dl⟩:=HC.out w3 HX3.out
  have HO1:=zH (fun W=>bof_any a1 W HA.out.1 HA.out.2.1)
  have HO2:=zH (fun W=>bof_any a2 W HA.out.2.2.1 HA.out.2.2.2)
  have HO3:=zH (fun W=>bof_any b1 W HB.out.1 HB.out.2.1)
  have HO4:=zH (fun W=>bof_any b2 W HB.out.2.2.1 HB.out.2.2.2)
  have L1:(ofL (a1.natAbs:Int)).length≤4:=(of_val HA.out.1 HA.out.2.1).2.2.2.1
  have L2:(ofL (a2.natAbs:Int)).length≤4:=(of_val HA.out.2.2.1 HA.out.2.2.2).2.2.2.1
  have L3:(ofL (b1.natAbs:Int)).length≤4:=(of_val HB.out.1 HB.out.2.1).2.2.2.1
  have L4:(ofL (b2.natAbs:Int)).length≤4:=(of_val HB.out.2.2.1 HB.out.2.2.2).2.2.2.1
  obtain ⟨n1,n2,n3⟩:=mul_val (a:=a1) (b:=b2) ⟨HA.out.1,HA.out.2.1⟩ ⟨HB.out.2.2.1,HB.out.2.2.2⟩
  obtain ⟨o1,o2,o3⟩:=mul_val (a:=b1) (b:=a2) ⟨HB.out.1,HB.out.2.1⟩ ⟨HA.out.2.2.1,HA.out.2.2.2⟩
  obtain ⟨u1,u2,u3⟩:=sum_val (s:=decide (a1 < 0) != decide (b2 < 0)) (t:=!(decide (b1 < 0) != decide (a2 < 0))) n1 o1
  rw [n2,sgn_not,o2] at u2
  have HSU:=zH (fun W v u (hv:BgR W v (decide (a1 < 0) != decide (b2 < 0)) (timesL (ofL a1.natAbs) (ofL b2.natAbs))) (hu:BgR W u (!(decide (b1 < 0) != decide (a2 < 0))) (timesL (ofL b1.natAbs) (ofL a2.natAbs)))=>badd_any (decide (a1 < 0) != decide (b2 < 0)) (!(decide (b1 < 0) != decide (a2 < 0))) (timesL (ofL a1.natAbs) (ofL b2.natAbs)) (timesL (ofL b1.natAbs) (ofL a2.natAbs)) W v u hv hu (by omega) (by omega))
  obtain ⟨⟨bs,bl⟩,hbs⟩:∃ x:Bool×List Int,x=bgSum (decide (a1 < 0) != decide (b2 < 0)) (!(decide (b1 < 0) != decide (a2 < 0))) (timesL (ofL a1.natAbs) (ofL b2.natAbs)) (timesL (ofL b1.natAbs) (ofL a2.natAbs)):=⟨_,rfl⟩
  rw [← hbs] at u1 u2 u3 HSU
  simp only at u1 u2 u3 HSU
  clear hbs
  have HM1:=zH (fun W v u (hv:BgR W v (decide (a1 < 0)) (ofL a1.natAbs)) (hu:BgR W u (decide (b2 < 0)) (ofL b2.natAbs))=>bmul_any (decide (a1 < 0)) (decide (b2 < 0)) (ofL a1.natAbs) (ofL b2.natAbs) W v u hv hu (by omega) (by omega))
  have HM3:=zH (fun W v u (hv:BgR W v (decide (b1 < 0)) (ofL b1.natAbs)) (hu:BgR W u (decide (a2 < 0)) (ofL a2.natAbs))=>bmul_any (decide (b1 < 0)) (decide (a2 < 0)) (ofL b1.natAbs) (ofL a2.natAbs) W v u hv hu (by omega) (by omega))
  have HTR:=zH (fun W v (hv:DR W v bl)=>trim_any bl W v hv)
  obtain ⟨t1,t2,t3,t4⟩:=trimL_spec bl u1
  have HT:Hid (((trimL bl).length:Int)=0∧refCmp (a1,a2) (b1,b2)=0∨¬ ((trimL bl).length:Int)=0∧refCmp (a1,a2) (b1,b2)=if bs then -1 else 1):=zH (by
   rw [HRR.out]
   have hdn:=dv_nonneg u1
   by_cases h0:(trimL bl).length=0
   ·left
    rw [List.length_eq_zero_iff.1 h0] at t3
    rw [← t3] at u2
    have:sgn bs (dv [])=0:=by show sgn bs 0=0;unfold sgn;split <;> rfl
    rw [this] at u2
    exact ⟨by omega,if_pos (by omega)⟩
   ·right
    have hne:dv bl≠0:=fun e=>h0 (by rw [dv_zero t1 t2 (t3.trans e)];rfl)
    refine ⟨by omega,?_⟩
    unfold sgn at u2
    cases bs
    ·rw [if_neg (by decide)] at u2
     rw [if_neg (by omega),if_neg (by omega),if_neg (by decide)]
    ·rw [if_pos rfl] at u2
     rw [if_neg (by omega),if_pos (by omega),if_pos rfl])
  clear L1 L2 L3 L4 n1 n2 n3 o1 o2 o3 u1 u2 u3 t1 t2 t3 t4 HRR ha2 hb2
  refine Rr.wp_region [(0,.y),(1,.y),(3,.y),(4,.y),(2,.z),(5,.z),(6,.z),(7,.m)] (fun _=>(.cells #[.bool false,.slice none 0 0] 150,Rg.ptr)) (by kernel_rfl) (by kernel_rfl) ?_
  iterate 4
   refine Rr.y1 ?_
  refine Rr.z3 (fun v w'=>BgR w' v (decide (b1 < 0)) (ofL b1.natAbs)) (fun wz hw hh=>HO3.out wz) (fun u=>?_)
  refine Rr.z3 (fun v w'=>BgR w' v (decide (a2 < 0)) (ofL a2.natAbs)) (fun wz hw hh=>HO2.out wz) (fun u=>?_)
  refine Rr.z3 (fun v w'=>BgR w' v (decide (b1 < 0) != decide (a2 < 0)) (timesL (ofL b1.natAbs) (ofL a2.natAbs))) (fun wz hw hh=>HM3.out wz _ _ (hold1 hh) (hold0 hh)) (fun u=>?_)
  refine Rr.wr_m (by simp only [ga,gb,gc];rfl) (by rfl) (fun wz=>by go_simp) (fun pm hpm=>?_)
  simp only [zp]
  refine Rr.wr_nil ?_
  intro wy hy hh
  simp only [gg,gh,gi,gj,Nat.reduceAdd]
  obtain ⟨-,hb1,hb2⟩:=hh _ zM
  obtain ⟨⟨xA,xn,xc⟩,hxe,hxd⟩:=hold1 hh
  subst hxe
  generalize (decide (b1 < 0) != decide (a2 < 0))=sm at *
  generalize timesL (ofL b1.natAbs) (ofL a2.natAbs)=tm at *
  refine wpList_store_row (hgd:=rfl) 150 (.tmp 5) (.tmp 17) rfl pm (by rfl) #[.bool sm,slV (xA,xn,xc)] (by rfl) #[.bool false,.slice none 0 0] 150 hb2 (by rfl) (by kernel_rfl) (by simp [Value.oneCell',slV]) ?_
  have hbc:=setRow_heap wy pm _ #[.bool sm,slV (xA,xn,xc)] 150 _ hb2
  have hxc:=below_setRow hy hb1 #[.bool sm,slV (xA,xn,xc)]
  have hxd2:=DR.setr hxd hb2 #[.bool sm,slV (xA,xn,xc)]
  generalize wy.setRow pm #[.bool sm,slV (xA,xn,xc)]=W5 at *
  clear hh hb2 hxd hy c0 c1 cl d0 d1 dl
  obtain ⟨hc5,hf5,hl5⟩:=zC hbc
  have g0:W5.cell? ⟨pm,0,none⟩=some (.bool sm):=hc5 0
  have gf:=hf5 0
  go_upto_region 5 with (fail)
  have hb6:(W5.setCell ⟨pm,0,none⟩ (.bool (!sm))).heap[pm]? = some (.cells #[.bool (!sm),slV (xA,xn,xc)] 150):=heap_setCell_same W5 pm 0 _ 150 _ hbc
  have hx6:Ext w3 (W5.setCell ⟨pm,0,none⟩ (.bool (!sm))):=Below.setCell hxc hb1 _
  have hd6:=DR.set (a:=sm) (x:=xA) (y:=xn) (z:=xc) hxd2 hbc 0 (.bool (!sm))
  generalize W5.setCell ⟨pm,0,none⟩ (.bool (!sm))=W6 at *
  have HMI:Hid (BgR W6 (.agg #[.bool (!sm),slV (xA,xn,xc)]) (!sm) tm):=zH ⟨(xA,xn,xc),rfl,hd6⟩
  have HX3':=zH (HX3.out.trans hx6)
  clear HX3 hbc hxc hxd2 hc5 hf5 hl5 g0 gf hx6 hd6 hb1
  have HX3:=HX3'
  clear HX3'
  obtain ⟨c0,c1,cl,d0,d1,dl⟩:=HC.out W6 HX3.out
  refine Rr.wp_region [(0,.y),(1,.y),(3,.y),(4,.y),(7,.y),(2,.z),(5,.z),(6,.z),(8,.z),(9,.m)] (fun _=>(.cells #[.bool false,.slice none 0 0] 150,Rg.ptr)) (by kernel_rfl) (by kernel_rfl) ?_
  iterate 4
   refine Rr.y1 ?_
  refine Rr.y2 (h:=fun wz hw=>up_row (by rfl) ((hw.block _ (zL hb6)).trans hb6) Tryz.underlying150 (by kernel_rfl)) (k:=?_)
  refine Rr.z3 (fun v w'=>BgR w' v (decide (a1 < 0)) (ofL a1.natAbs)) (fun wz hw hh=>HO1.out wz) (fun u=>?_)
  refine Rr.z3 (fun v w'=>BgR w' v (decide (b2 < 0)) (ofL b2.natAbs)) (fun wz hw hh=>HO4.out wz) (fun u=>?_)
  refine Rr.z3 (fun v w'=>BgR w' v (decide (a1 < 0) != decide (b2 < 0)) (timesL (ofL a1.natAbs) (ofL b2.natAbs))) (fun wz hw hh=>HM1.out wz _ _ (hold1 hh) (hold0 hh)) (fun u=>?_)
  refine Rr.z3 (fun v w'=>BgR w' v bs bl) (fun wz hw hh=>HSU.out wz _ _ (hold0 hh) (HMI.out.ext hw)) (fun u=>?_)
  refine Rr.wr_m (by simp only [ga,gb,gc];rfl) (by rfl) (fun wz=>by go_simp) (fun pk hpk=>?_)
  simp only [zp]
  refine Rr.wr_nil ?_
  intro wy hy hh
  simp only [gg,gh,gi,gj,Nat.reduceAdd]
  obtain ⟨-,hb1,hb2⟩:=hh _ zM
  obtain ⟨⟨yA,yn,yc⟩,hxe,hxd⟩:=hold1 hh
  subst hxe
  refine wpList_store_row (hgd:=rfl) 150 (.tmp 6) (.tmp 30) rfl pk (by rfl) #[.bool bs,slV (yA,yn,yc)] (by rfl) #[.bool false,.slice none 0 0] 150 hb2 (by rfl) (by kernel_rfl) (by simp [Value.oneCell',slV]) ?_
  have hbc:=setRow_heap wy pk _ #[.bool bs,slV (yA,yn,yc)] 150 _ hb2
  have hxc:=below_setRow hy hb1 #[.bool bs,slV (yA,yn,yc)]
  have hxd2:=DR.setr hxd hb2 #[.bool bs,slV (yA,yn,yc)]
  generalize wy.setRow pk #[.bool bs,slV (yA,yn,yc)]=W7 at *
  have HX7:=zH (HX1.out.trans (HX3.out.trans hxc))
  have HTT:=zH (HTR.out W7 _ hxd2)
  clear hh hb2 hxd hy c0 c1 cl d0 d1 dl HMI HX3 HX1 HC HM1 HM3 HO1 HO2 HO3 HO4 HSU hxc hxd2 HTR hb6
  obtain ⟨hc7,hf7,hl7⟩:=zC hbc
  have g0:W7.cell? ⟨pk,0,none⟩=some (.bool bs):=hc7 0
  have g1:W7.cell? ⟨pk,1,none⟩=some (slV (yA,yn,yc)):=hc7 1
  clear hc7 hf7
  rcases HT.out with ⟨hz,hrc⟩|⟨hz,hrc⟩
  ·have HRC:=zH hrc
   clear hrc HT
   generalize trimL bl=tb at *
   go_wp2_with (go_at_call 85;(refine (HTT.out).mono ?_);rintro e w8 ⟨u8,rfl,hx8,hd8⟩;obtain ⟨A8,c8,rfl⟩:=hd8.form)
   go_ret
   exact ⟨by rw [HRC.out];rfl,HX7.out.trans hx8⟩
  ·have HRC:=zH hrc
   have hz':((((trimL bl).length:Int)) == 0)=false:=by rw [beq_eq_false_iff_ne];exact hz
   clear hrc HT
   generalize trimL bl=tb at *
   cases bs
   ·go_wp2_with (go_at_call 85;(refine (HTT.out).mono ?_);rintro e w8 ⟨u8,rfl,hx8,hd8⟩;obtain ⟨A8,c8,rfl⟩:=hd8.form;have k0:=(hx8.cells.1 _ 0 hl7).trans g0;have kl:=Nat.lt_of_lt_of_le hl7 hx8.size)
    go_ret
    exact ⟨by rw [HRC.out];rfl,HX7.out.trans hx8⟩
   ·go_wp2_with (go_at_call 85;(refine (HTT.out).mono ?_);rintro e w8 ⟨u8,rfl,hx8,hd8⟩;obtain ⟨A8,c8,rfl⟩:=hd8.form;have k0:=(hx8.cells.1 _ 0 hl7).trans g0;have kl:=Nat.lt_of_lt_of_le hl7 hx8.size)
    go_ret
    exact ⟨by rw [HRC.out];rfl,HX7.out.trans hx8⟩
theorem quickZ_right (n d:Int) (hd:0 < d):rightB (quickZ n d).1 (quickZ n d).2=true:=by
 obtain ⟨g,x,y,hg,hgp,hx,hy,hc,-,-⟩:=gcd_split n d hd
 have h1:n.tdiv g=x:=by rw [hx,Int.mul_tdiv_cancel_left _ (by omega)]
 have h2:d.tdiv g=y:=by rw [hy,Int.mul_tdiv_cancel_left _ (by omega)]
 unfold quickZ
 simp only [hg,h1,h2]
 exact (rightB_iff _ _).2 ⟨pos_of_mul hgp (by rw [← hy];exact hd),hc⟩
end Go.Proofs.YteomcpplajeidaaGreat
namespace Go.Proofs.YteomcpplajeidaaGreat
open Go.RowKit
theorem eval_ok0 {vs:Vals} {t:Ex} {x:Int×Int} (h:evalI vs t=(x,0)) (hne:∀ f,valueE vs t=.error f→f≠0):valueE vs t=.ok x:=by
 unfold evalI at h
 split at h
 ·cases hv:valueE vs t with
  | ok y=>rw [hv] at h;injection h with h _;rw [h]
  | error f=>rw [hv] at h;injection h with _ h;exact absurd h (hne f hv)
 ·rename_i hw;injection h with _ h;exact absurd h hw
theorem appE_err {p:(Int×Int)×Int} {f:Int} (h:appE p=.error f):f≠0:=by
 unfold appE at h
 split at h
 ·cases h
 ·injection h with h;subst h;assumption
mutual
theorem value_err (vs:Vals):∀ (t:Ex) (f:Int),formedB t=true→valueE vs t=.error f→f≠0
 | .mk op n nm ts,f,hf,hv=>by
  rw [formedB] at hf
  rw [valueE] at hv
  by_cases h1:(op.toList == [110,117,109])=true
  ·rw [if_pos h1] at hv;cases hv
  ·rw [if_neg h1] at hf hv
   by_cases h2:(op.toList == [110,97,109,101])=true
   ·rw [if_pos h2] at hv
    split at hv
    ·cases hv
    ·injection hv with hv;subst hv;decide
   ·rw [if_neg h2] at hf hv
    simp only [Bool.and_eq_true,beq_iff_eq] at hf
    obtain ⟨-,hl,-,-,hl2⟩:=hf
    have hV:=valueL_err vs ts hl2
    have hn:(valueL vs ts).length=2:=by rw [← hl];clear hV hv hl hl2;induction ts with
     | nil=>rfl
     | cons t ts ih=>rw [valueL,List.length_cons,ih,List.length_cons]
    generalize valueL vs ts=vl at *
    match vl,hn,hv with
    | [a,b],_,hv=>
     cases a with
     | error g=>injection hv with hv;subst hv;exact hV _ zM g rfl
     | ok xa=>
      cases b with
      | error g=>injection hv with hv;subst hv;exact hV _ (zN _ zM) g rfl
      | ok xb=>exact appE_err hv
theorem valueL_err (vs:Vals):∀ (ts:List Ex),formedL ts=true→∀ e∈valueL vs ts,∀ f,e=.error f→f≠0
 | [],_,e,he,_,_=>by rw [valueL] at he;cases he
 | t :: ts,hf,e,he,f,hx=>by
  rw [formedL,Bool.and_eq_true] at hf
  rw [valueL] at he
  rcases List.mem_cons.1 he with rfl|he
  ·exact value_err vs t f hf.1 hx
  ·exact valueL_err vs ts hf.2 e he f hx
end
mutual
theorem value_I2 {S:Nat→Prop} {w:World} {vs:Vals} (hr:VR vs):∀ (t:Ex) (v:Value) (x:Int×Int),Rd S w t v→valueE vs t=.ok x→I2 x
 | .mk op n nm ts,v,x,h,hv=>by
  unfold Rd at h
  obtain ⟨base,cap,-,hn,-,hts⟩:=h
  rw [valueE] at hv
  by_cases h1:(op.toList == [110,117,109])=true
  ·rw [if_pos h1] at hv
   injection hv with hv
   subst hv
   exact hn
  ·rw [if_neg h1] at hv
   by_cases h2:(op.toList == [110,97,109,101])=true
   ·rw [if_pos h2] at hv
    split at hv
    ·rename_i k hk
     injection hv with hv
     subst hv
     have:=look_range hr hk
     exact I2.int this.1 this.2
    ·cases hv
   ·rw [if_neg h2] at hv
    have hV:∀ e∈valueL vs ts,∀ x,e=.ok x→I2 x:=by
     rcases hts with rfl|⟨b,-,-,hl⟩
     ·intro e he;rw [valueL] at he;cases he
     ·exact valueL_I2 hr ts b 0 hl
    generalize valueL vs ts=vl at *
    match vl,hv with
    | [a,b],hv=>
     cases a with
     | error f=>cases hv
     | ok xa=>
      cases b with
      | error f=>cases hv
      | ok xb=>
       have h3:=applyI_I2 (opIx op).toNat xa xb (hV _ zM xa rfl) (hV _ (zN _ zM) xb rfl)
       simp only at hv
       unfold appE at hv
       split at hv
       ·injection hv with hv;rw [← hv];exact h3
       ·cases hv
    | [],hv=>cases hv
    | [_],hv=>cases hv
    | _ :: _ :: _ :: _,hv=>cases hv
theorem valueL_I2 {S:Nat→Prop} {w:World} {vs:Vals} (hr:VR vs):∀ (ts:List Ex) (b k:Nat),RdL S w b k ts→∀ e∈valueL vs ts,∀ x,e=.ok x→I2 x
 | [],_,_,_,e,he,_,_=>by rw [valueL] at he;cases he
 | t :: ts,b,k,h,e,he,x,hx=>by
  unfold RdL at h
  obtain ⟨⟨c,-,hc⟩,hl⟩:=h
  rw [valueL] at he
  rcases List.mem_cons.1 he with rfl|he
  ·exact value_I2 hr t _ x hc hx
  ·exact valueL_I2 hr ts b (k+1) hl e he x hx
end
theorem evalI_I2 {S:Nat→Prop} {w:World} {vs:Vals} {t:Ex} {v:Value} {x:Int×Int} (hr:VR vs) (h:Rd S w t v) (hf:formedB t=true) (he:evalI vs t=(x,0)):I2 x:=
 value_I2 hr t v x h (eval_ok0 he (fun f h=>value_err vs t f hf h))
end Go.Proofs.YteomcpplajeidaaGreat

namespace Go.Proofs.YteomcpplajeidaaGreat
open Go.RowKit
structure NmOk (s:ByteArray):Prop where
 nam:namS s=true
 mn:(s.toList == [109,105,110])=false
 mx:(s.toList == [109,97,120])=false
 sz:s.size≤100
structure NuOk (n d:Int):Prop where
 n0:0≤n
 n1:n≤1000
 dd:d=1∨d=2∨d=4∨d=5∨d=10
 rt:rightB n d=true
inductive GE:Ex→Prop
 | num (n d:Int):NuOk n d→GE (numE (n,d))
 | name (s:ByteArray):NmOk s→GE (nameE s)
 | op (i:Nat) (hi:i < 6) (a b:Ex):GE a→GE b→GE (opE' (opNm i) a b)
theorem leaf_shape {w:World} {op nm:ByteArray} {n d:Int} {v:Value} (h:Rd All w (leaf op (n,d) nm) v):∃ base cap,v=.agg #[.string op,iV n,iV d,.string nm,.slice base 0 cap]:=by
 unfold Rd at h
 obtain ⟨base,cap,rfl,-⟩:=h
 exact ⟨base,cap,rfl⟩
structure OpV (w:World) (b:Nat) (ta tb:Ex) (oa:ByteArray) (a1 a2:Int) (na:ByteArray) (ba:Option Addr) (la ca:Nat) (ob:ByteArray) (b1 b2:Int) (nb:ByteArray) (bb:Option Addr) (lb cb:Nat):Prop where
 ra:Rd All w ta (.agg #[.string oa,iV a1,iV a2,.string na,.slice ba la ca])
 rb:Rd All w tb (.agg #[.string ob,iV b1,iV b2,.string nb,.slice bb lb cb])
 lt:b < w.heap.size
 k0:w.cell? ⟨b,0,none⟩=some (.string oa)
 k1:w.cell? ⟨b,1,none⟩=some (iV a1)
 k2:w.cell? ⟨b,2,none⟩=some (iV a2)
 k3:w.cell? ⟨b,3,none⟩=some (.string na)
 k4:w.cell? ⟨b,4,none⟩=some (.slice ba la ca)
 k5:w.cell? ⟨b,5,none⟩=some (.string ob)
 k6:w.cell? ⟨b,6,none⟩=some (iV b1)
 k7:w.cell? ⟨b,7,none⟩=some (iV b2)
 k8:w.cell? ⟨b,8,none⟩=some (.string nb)
 k9:w.cell? ⟨b,9,none⟩=some (.slice bb lb cb)
theorem OpV.ext {w w':World} {b:Nat} {ta tb:Ex} {oa:ByteArray} {a1 a2:Int} {na:ByteArray} {ba:Option Addr} {la ca:Nat} {ob:ByteArray} {b1 b2:Int} {nb:ByteArray} {bb:Option Addr} {lb cb:Nat} (h:OpV w b ta tb oa a1 a2 na ba la ca ob b1 b2 nb bb lb cb) (x:Ext w w'):OpV w' b ta tb oa a1 a2 na ba la ca ob b1 b2 nb bb lb cb:=
 ⟨h.ra.ext x,h.rb.ext x,Nat.lt_of_lt_of_le h.lt x.size,(x.cells.1 _ _ h.lt).trans h.k0,(x.cells.1 _ _ h.lt).trans h.k1,(x.cells.1 _ _ h.lt).trans h.k2,(x.cells.1 _ _ h.lt).trans h.k3,(x.cells.1 _ _ h.lt).trans h.k4,(x.cells.1 _ _ h.lt).trans h.k5,(x.cells.1 _ _ h.lt).trans h.k6,(x.cells.1 _ _ h.lt).trans h.k7,(x.cells.1 _ _ h.lt).trans h.k8,(x.cells.1 _ _ h.lt).trans h.k9⟩
theorem op_shape {w:World} {s:ByteArray} {ta tb:Ex} {v:Value} (hv:Rd All w (opE' s ta tb) v):∃ b cap oa a1 a2 na ba la ca ob b1 b2 nb bb lb cb,v=.agg #[.string s,iV 0,iV 0,.string nilB,.slice (some ⟨b,0,none⟩) 2 cap]∧OpV w b ta tb oa a1 a2 na ba la ca ob b1 b2 nb bb lb cb:=by
 unfold Rd at hv
 obtain ⟨base,cap,rfl,-,-,hr⟩:=hv
 rcases hr with hr|⟨b,rfl,-,hl⟩
 ·cases hr
 obtain ⟨c,hc,hra⟩:=hl.get 0 (by simp)
 obtain ⟨d,hd,hrb⟩:=hl.get 1 (by simp)
 obtain ⟨oa,a1,a2,na,ba,la,ca,c0,c1,c2,c3,c4,ea⟩:=hra.shape
 obtain ⟨ob,b1,b2,nb,bb,lb,cb,d0,d1,d2,d3,d4,eb⟩:=hrb.shape
 simp only [List.getElem_cons_zero,List.getElem_cons_succ] at hra hrb
 rw [ea] at hra
 rw [eb] at hrb
 exact ⟨b,cap,oa,a1,a2,na,ba,la,ca,ob,b1,b2,nb,bb,lb,cb,rfl,hra,hrb,zB w _ (hc 0 (by decide)),(hc 0 (by decide)).trans (congrArg some c0),(hc 1 (by decide)).trans (congrArg some c1),(hc 2 (by decide)).trans (congrArg some c2),(hc 3 (by decide)).trans (congrArg some c3),(hc 4 (by decide)).trans (congrArg some c4),(hd 0 (by decide)).trans (congrArg some d0),(hd 1 (by decide)).trans (congrArg some d1),(hd 2 (by decide)).trans (congrArg some d2),(hd 3 (by decide)).trans (congrArg some d3),(hd 4 (by decide)).trans (congrArg some d4)⟩
theorem NuOk.i2 {n d:Int} (h:NuOk n d):I2 (n,d):=by
 obtain ⟨h1,h2,h3,-⟩:=h
 exact ⟨by show _≤n;omega,by show n≤_;omega,by show _≤d;omega,by show d≤_;omega⟩
theorem small_yes (n m:Int) (h:m≤n∧n≤1000000000) (w:World):Calls Tryz.prog 96 #[iV n,iV m] w fun e w'=>e=.returned (.bool true)∧w=w':=by
 obtain ⟨h1,h2⟩:=h
 go_in
 go_wp2
 go_ret
 exact ⟨rfl,rfl⟩
theorem fits_num (n d:Int) (h:NuOk n d) (w:World) (v:Value) (hv:Rd All w (numE (n,d)) v):Calls Tryz.prog 186 #[v] w fun e w'=>e=.returned (.bool true)∧Ext w w':=by
 obtain ⟨base,cap,rfl⟩:=leaf_shape hv
 have hi:=h.i2
 have HR:=zH (fun W=>rRight_any n d hi.n1 hi.n2 hi.d1 hi.d2 W)
 rw [h.rt] at HR
 have h0:=h.n0
 have h1:¬ d=0:=by have:=h.dd;omega
 have h2:(1000000:Int).tmod d=0:=by rcases h.dd with rfl|rfl|rfl|rfl|rfl <;> decide
 have h3:IntKind.i64.wrap (1000000000 * d)=1000000000 * d:=by rcases h.dd with rfl|rfl|rfl|rfl|rfl <;> decide
 have h4:n≤1000000000 * d:=by have:=h.n1;have:=h.dd;omega
 clear hi h hv
 go_in
 go_wp2_with (go_at_call 128;(refine (HR.out _).mono ?_);rintro e w1 ⟨rfl,hb⟩;obtain ⟨hc,hf⟩:=hb.cells;have hz:=hb.size;simp at hz)
 go_ret
 exact ⟨rfl,xt⟩
theorem fits_name (s:ByteArray) (h:NmOk s) (w:World) (v:Value) (hv:Rd All w (nameE s) v):Calls Tryz.prog 186 #[v] w fun e w'=>e=.returned (.bool true)∧Ext w w':=by
 obtain ⟨base,cap,rfl⟩:=leaf_shape hv
 obtain ⟨h1,h2,h3,h4⟩:=h
 have HI:=zH (fun wz=>IsName_any s (by omega) wz)
 rw [h1] at HI
 clear h1 h4 hv
 go_in
 go_wp2_with (go_at_call 93;(refine (HI.out _).mono ?_);rintro e w1 ⟨rfl,rfl⟩)
 go_ret
 exact ⟨rfl,xt⟩
theorem fits_op (i:Nat) (hi:i < 6) (a b:Ex) (w:World) (v:Value) (hv:Rd All w (opE' (opNm i) a b) v):Calls Tryz.prog 186 #[v] w fun e w'=>e=.returned (.bool true)∧Ext w w':=by
 obtain ⟨bl,cap,oa,a1,a2,na,ba,la,ca,ob,b1,b2,nb,bb,lb,cb,rfl,-⟩:=op_shape hv
 clear hv
 match i,hi with
 | 0,_=>go_in;unfold opNm;go_wp2;go_ret;exact ⟨rfl,xt⟩
 | 1,_=>go_in;unfold opNm;go_wp2;go_ret;exact ⟨rfl,xt⟩
 | 2,_=>go_in;unfold opNm;go_wp2;go_ret;exact ⟨rfl,xt⟩
 | 3,_=>go_in;unfold opNm;go_wp2;go_ret;exact ⟨rfl,xt⟩
 | 4,_=>go_in;unfold opNm;go_wp2;go_ret;exact ⟨rfl,xt⟩
 | 5,_=>go_in;unfold opNm;go_wp2;go_ret;exact ⟨rfl,xt⟩
theorem skip_any (T:TypeId) (p:Nat) (tv:Value) (l:List (ByteArray×Int)) (k:Nat) (rest:List Value) (u:ByteArray) (w:World) (h:PX T w p tv l k rest) (hk:k < l.length) (s:ByteArray) (hs:l[k].1=s) (he:(s.toList == u.toList)=true) (hu:(u.toList == [])=false) (hkb:k≤1000000) :
 Calls Tryz.prog 202 #[.pointer (some ⟨p,0,none⟩),.string u] w fun e w'=>e=.returned (.tuple #[])∧PX T w' p tv l (k+1) rest∧KX p w w':=by
 obtain ⟨c0,c1,c2,c3⟩:=h.c
 have ht:=text_any p tv l k w c0 c1 h.tok hk
 rw [hs] at ht
 have HT:=zH ht
 have HP:=zH h
 have hw:=wz ((k:Int)+1) (by omega)
 clear h ht hs c0 c1 c2 c3
 go_in
 go_upto_region 2 with (go_at_call 140;(refine HT.out.mono ?_);rintro e w1 ⟨rfl,hx1⟩;have HP1:=zH (HP.out.ext hx1);have HX1:=zH hx1;clear hx1)
 obtain ⟨c0,c1,c2,c3⟩:=HP1.out.c
 have f1:w1.frozen? ⟨p,1,none⟩=false:=put_frozen HP1.out.at_
 have hpl1:=zL HP1.out.at_
 go_wp2_with (fail)
 go_end0
 exact ⟨rfl,HP1.out.step (k+1),(KX.of_ext HX1.out).set _⟩
theorem word_any (T:TypeId) (p:Nat) (tv:Value) (l:List (ByteArray×Int)) (k:Nat) (rest:List Value) (w:World) (h:PX T w p tv l k rest) (hk:k < l.length) (s:ByteArray) (hs:l[k].1=s) (hsz:s.size≤1000000) (hd:worS s=true) (hkb:k≤1000000) :
 Calls Tryz.prog 179 #[.pointer (some ⟨p,0,none⟩)] w fun e w'=>e=.returned (.string s)∧PX T w' p tv l (k+1) rest∧KX p w w':=by
 obtain ⟨c0,c1,c2,c3⟩:=h.c
 have ht:=text_any p tv l k w c0 c1 h.tok hk
 rw [hs] at ht
 have HT:=zH ht
 have HN:=zH (fun wz=>IsWord_any s hsz wz)
 rw [hd] at HN
 have hpl:=zL h.at_
 have HP:=zH h
 have hw:=wz ((k:Int)+1) (by omega)
 clear h ht hd hs c0 c1 c2 c3
 go_in
 go_upto_region 2 with (go_at_call 140;(refine HT.out.mono ?_);rintro e w1 ⟨rfl,hx1⟩)
 have HP1:=zH (HP.out.ext hx1)
 have HX1:=zH hx1
 obtain ⟨c0,c1,c2,c3⟩:=HP1.out.c
 have f1:w1.frozen? ⟨p,1,none⟩=false:=put_frozen HP1.out.at_
 have hpl1:=zL HP1.out.at_
 clear hx1 hpl
 go_wp2_with (go_at_call 150;(refine (HN.out _).mono ?_);rintro e w2 ⟨rfl,rfl⟩)
 go_ret
 exact ⟨rfl,HP1.out.step (k+1),(KX.of_ext HX1.out).set _⟩
theorem one_any (T:TypeId) (p:Nat) (tv:Value) (l:List (ByteArray×Int)) (k:Nat) (rest:List Value) (a b:ByteArray) (w:World) (h:PX T w p tv l k rest) (hk:k < l.length) (s:ByteArray) (hs:l[k].1=s) (he:(s.toList == a.toList)=true) (hkb:k≤1000000) :
 Calls Tryz.prog 180 #[.pointer (some ⟨p,0,none⟩),.string a,.string b] w fun e w'=>e=.returned (.string s)∧PX T w' p tv l (k+1) rest∧KX p w w':=by
 obtain ⟨c0,c1,c2,c3⟩:=h.c
 have ht:=text_any p tv l k w c0 c1 h.tok hk
 rw [hs] at ht
 have HT:=zH ht
 have hpl:=zL h.at_
 have HP:=zH h
 have hw:=wz ((k:Int)+1) (by omega)
 clear h ht hs c0 c1 c2 c3
 go_in
 go_upto_region 2 with (go_at_call 140;(refine HT.out.mono ?_);rintro e w1 ⟨rfl,hx1⟩)
 have HP1:=zH (HP.out.ext hx1)
 have HX1:=zH hx1
 obtain ⟨c0,c1,c2,c3⟩:=HP1.out.c
 have f1:w1.frozen? ⟨p,1,none⟩=false:=put_frozen HP1.out.at_
 have hpl1:=zL HP1.out.at_
 clear hx1 hpl
 go_wp2
 go_ret
 exact ⟨rfl,HP1.out.step (k+1),(KX.of_ext HX1.out).set _⟩
theorem PX.put {T:TypeId} {w:World} {p k:Nat} {tv:Value} {l:List (ByteArray×Int)} {rest:List Value} (h:PX T w p tv l k rest) (j:Nat) (u:Value):PX T (w.setCell ⟨p,j+4,none⟩ u) p tv l k (rest.set j u):=
 ⟨(heap_put _ h.at_).trans (by simp),h.tok.kx ((KX.of_ext (Ext.refl _)).set _) h.ne,h.ne⟩
theorem PX.r {T:TypeId} {w:World} {p k:Nat} {tv:Value} {l:List (ByteArray×Int)} {rest:List Value} (h:PX T w p tv l k rest) (j:Nat):w.cell? ⟨p,j+4,none⟩=rest[j]?:=by
 rw [cell_of_row w p (j+4) _ _ _ h.at_]
 simp
theorem own_away {w:World} {B E sz g n c m p o:Nat} {xs:List Value} {u:Value} (h:w.ownsRow B E sz (.slice (some ⟨g,0,none⟩) n c) m xs) (hp:p < B) (B':Nat) (hB:B'≤B) :
 B≤g∧(w.setCell ⟨p,o,none⟩ u).ownsRow B' E sz (.slice (some ⟨g,0,none⟩) n c) m xs:=by
 rcases id h.2 with ⟨h1,-⟩|⟨g',cap,cur,hv,hb,hg,rest⟩
 ·cases h1
 ·injection hv with e1 e2 e3
  injection e1 with e1
  injection e1 with e1
  subst e1 e2 e3
  exact ⟨hb,h.1,.inr ⟨g,c,cur,rfl,Nat.le_trans hB hb,(RowKit.Below.heap_setCell _ _ _ _ (by show g≠p;omega)).trans hg,rest⟩⟩
theorem lot_any (p:Nat) (tv:Value) (l:List (ByteArray×Int)) (k:Nat) (rest:List Value) (w:World) (h:PX 166 w p tv l k rest) (hk:k+2 < l.length) (s u m:ByteArray) (hs:l[k].1=s) (hu:l[k+1].1=u) (hm:l[k+2].1=m) (hue:(u.toList == [109,111,115,116])=true)
 (hsz:s.size≤1000000) (hsd:numS s=true) (hs1:1≤valU s s.size) (hs2:valU s s.size≤1000000000) (hmz:m.size≤1000000) (hmd:numS m=true) (hm1:0≤valU m m.size) (hm2:valU m m.size≤1000000000) (hkb:k≤100000) (hr:rest[2]? = some (.slice none 0 0)) :
 Calls Tryz.prog 177 #[.pointer (some ⟨p,0,none⟩)] w fun e w'=>e=.returned (.tuple #[])∧∃ g cap,w.heap.size≤g∧PX 166 w' p tv l (k+3) (rest.set 2 (.slice (some ⟨g,0,none⟩) 1 cap))∧KX p w w'∧w'.ownsRow w.heap.size 72 2 (.slice (some ⟨g,0,none⟩) 1 cap) 1 ([(valU s s.size,valU m m.size)].flatMap cellsLot):=by
 have HN1:=zH (number_any 166 p tv l k rest 1 w h (by omega) s hs hsz hsd hs1 hs2 (by omega))
 have HSK:=zH (fun wz (hz:PX 166 wz p tv l (k+1) rest)=>skip_any 166 p tv l (k+1) rest ⟨#[109,111,115,116]⟩ wz hz (by omega) u hu (by rw [show (⟨#[109,111,115,116]⟩:ByteArray).toList=[109,111,115,116] from by kernel_rfl];exact hue) (by kernel_rfl) (by omega))
 have HN2:=zH (fun wz (hz:PX 166 wz p tv l (k+2) rest)=>number_any 166 p tv l (k+2) rest 0 wz hz (by omega) m hm hmz hmd hm1 hm2 (by omega))
 have HR:=zH hr
 clear h hs hu hm hue hsd hs1 hs2 hmd hm1 hm2 hr
 generalize valU s s.size=a at *
 generalize valU m m.size=b at *
 go_in
 go_upto_region 1 with (go_at_call 181;(refine HN1.out.mono ?_);rintro e w1 ⟨rfl,hp1,hx1⟩)
 have HP1:=zH hp1;have HX1:=zH hx1
 have r1:=(hp1.r 2).trans HR.out
 have hpl:=zL hp1.at_
 clear hp1 hx1
 go_upto_region 2 with (fail)
 go_loopw [3] (fun kv wr=>kv=iV 0∧wr=w1) (fun kv _=>0)
 case atStart=>exact ⟨rfl,rfl⟩
 case round=>
  obtain ⟨rfl,rfl⟩:=hrel
  obtain ⟨c0,c1,c2,c3⟩:=HP1.out.c
  go_upto_region 8 with (go_at_call 202;(refine (HSK.out _ HP1.out).mono ?_);rintro e w2 ⟨rfl,hp2,hx2⟩)
  have HP2:=zH hp2;have HX2:=zH (HX1.out.trans hx2)
  clear hp2 hx2 c0 c1 c2 c3 r1 hpl
  go_upto_region 9 with (go_at_call 181;(refine (HN2.out _ HP2.out).mono ?_);rintro e w3 ⟨rfl,hp3,hx3⟩)
  have HP3:=zH hp3;have HX3:=zH (HX2.out.trans hx3)
  have r1:=(hp3.r 2).trans HR.out
  have hpl:=zL hp3.at_
  clear hp3 hx3
  have hxa:Ext w3 (w3.alloc (.cells #[iV a,iV b] 72)):=Ext.alloc (Ext.refl _) _
  have hat:(w3.alloc (.cells #[iV a,iV b] 72)).heap[w3.heap.size]? = some (.cells #[iV a,iV b] 72):=block_new rfl
  have hsz:w3.heap.size≤(w3.alloc (.cells #[iV a,iV b] 72)).heap.size:=hxa.size
  have HXA:=zH hxa
  clear hxa
  go_wp2_with (at_builtin;(refine append_one (cs:=cellsLot) (z:=.agg #[iV 0,iV 0]) (fun _=>⟨rfl,by simp [cellsLot,Value.oneCell']⟩) 26 72 16 Tryz.underlying26 (by kernel_rfl) (by rfl) (by decide) (by decide) rfl (.tmp 47) (.tmp 51) rfl w3.heap.size (.slice none 0 0) [] (by rfl) ⟨rfl,.inl ⟨rfl,rfl⟩⟩ w3.heap.size (a,b) (by rfl) hat (by simp) hsz ?_;intro g7 cap7 w7 hr7 hb7;have HX7:Hid (Ext w3 w7):=zH (RowKit.Below.trans HXA.out hb7);have HP7:=zH (HP3.out.ext HX7.out);have HR7:=zH hr7;clear hr7 hb7 hat r1 hpl;have r1:=(HP7.out.r 2).trans HR.out;have hpl:=zL HP7.out.at_;have f1:w7.frozen? ⟨p,6,none⟩=false:=put_frozen HP7.out.at_))
  have hown:=own_away (p:=p) (o:=6) (u:=.slice (some ⟨g7,0,none⟩) 1 cap7) HR7.out (zL HP3.out.at_) w.heap.size HX3.out.size
  go_end0
  exact ⟨rfl,g7,cap7,Nat.le_trans HX3.out.size hown.1,HP7.out.put 2 _,(HX3.out.ext HX7.out).set _,hown.2⟩
end Go.Proofs.YteomcpplajeidaaGreat
