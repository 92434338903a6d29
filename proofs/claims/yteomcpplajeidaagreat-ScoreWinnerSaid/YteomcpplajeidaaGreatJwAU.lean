/-
  Lemmas of this claim (JwAU). Nothing is asked.
-/
import Derived.Test.YteomcpplajeidaaGreatJwAH
import Derived.Test.YteomcpplajeidaaGreatJwAS
import Derived.Test.YteomcpplajeidaaGreatJwAG
import Derived.Test.YteomcpplajeidaaGreatJwAR
import Derived.Test.YteomcpplajeidaaGreatJwAT
import Derived.Test.YteomcpplajeidaaGreatBase
import Derived.ProofKit
import Derived.OpenShut
import Derived.Below
import Derived.ChangeSame
import Derived.ReadAgain
import Derived.ChangeSlices
import Derived.ChangeReads
import Derived.ChangeOld
import Derived.ChangeStays
import Derived.Test.YteomcpplajeidaaGreatJwI
set_option linter.unusedVariables false
set_option linter.unusedSimpArgs false
set_option maxRecDepth 100000
set_option maxHeartbeats 40000000
namespace Go.Proofs.YteomcpplajeidaaGreat
open Go.RowKit
theorem sanity_any (w:World):Calls Tryz.prog 11 #[] w fun e w'=>e=.returned (.bool true)∧Ext w w':=by
 go_in
 go_upto_region 2 with (first
  |(go_at_call 27;(with_reducible refine (chairs_any _).mono ?_);rintro e w1 ⟨r,g,q1,q2,q3,rfl,hx1,htf,hgl,hg,hq1,hb1,hq2,hb2,hq3,hb3⟩
    obtain ⟨htv,hlow,hhigh⟩:=tv_of htf
    have HX1:=zH hx1;have HTV:=zH htv;have HXR:=zH (chE_xr hg hb1 hb2 hb3);have HG:=zH hg;have HLO:=zH hlow;have HHI:=zH hhigh
    clear hx1 htf hgl hg hq1 hb1 hq2 hb2 hq3 hb3 htv hlow hhigh
    obtain ⟨row,hrow⟩:∃ row,row=(tenC r).toList:=⟨_,rfl⟩
    have hrt:tenC r=row.toArray:=by rw [hrow]
    rw [hrt]
    have hrs:row.length=20:=by rw [hrow];rfl
    have hone:∀ v∈row.toArray.toList,v.oneCell' = true:=by rw [← hrt];exact ten_one r
    have HROW:=zH hrt;clear hrow hrt)
  |(refine wpList_store_row rfl 39 (.tmp 1) (.tmp 13) rfl w1.heap.size (by rfl) row.toArray (by rfl) _ 39 (block_new rfl) (by simp [hrs]) (by rw [List.size_toArray,hrs];kernel_rfl) hone ?_))
 have hb2:((w1.alloc (.cells (tenC zeroT) 39)).setRow w1.heap.size row.toArray).heap[w1.heap.size]? = some (.cells row.toArray 39):=setRow_heap _ _ _ row.toArray _ _ (block_new rfl)
 have hx2:Ext w1 ((w1.alloc (.cells (tenC zeroT) 39)).setRow w1.heap.size row.toArray):=below_setRow (Ext.alloc (Ext.refl _) _) (Nat.le_refl _) _
 have HP:=zH hb2;have HX2:=zH (HX1.out.trans hx2);have HT2:=zH (HTV.out.ext hx2);have HV2:=zH (HXR.out.ext hx2);have HG2:=zH ((hx2.block _ (zL HG.out)).trans HG.out)
 clear hb2 hx2 HX1 HTV HXR HG
 generalize hW2:(w1.alloc (.cells (tenC zeroT) 39)).setRow w1.heap.size row.toArray=W2 at *
 have HRG:Hid (∀ wz,Ext W2 wz→wz.rangeAt w1.heap.size 0 row):=zH (fun wz hz=>range_of ((hz.block _ (zL HP.out)).trans HP.out) 0 row (fun j v hv=>by simpa using hv))
 have HR1:Hid (∀ wz,Ext W2 wz→Calls Tryz.prog 15 #[.agg row.toArray,iV 1,.slice (some ⟨g,0,none⟩) 3 3] wz fun e w'=>∃ v',e=.returned (.tuple #[v',iV 0])∧Ext wz w'∧SR Rk.cs 5 w' v' rkC):=zH (fun wz hz=>by
  rw [← HROW.out]
  refine (Rank_any r tpC 1 _ (chE q1 q2 q3) wz (HT2.out.ext hz) (HV2.out.ext hz) (by show (3:Nat)≤100000;omega) (sorts_12 r tpC 1 _ (by show (3:Nat)≤12;omega))).mono ?_
  rintro e w' ⟨v',rfl,h1,h2⟩
  obtain ⟨k1,k2⟩:=rank_1 q1 q2 q3 r HLO.out HHI.out
  rw [k2] at h2
  exact ⟨v',by rw [k1],h1,SR.of_row (cs:=Rk.cs) (xs:=rkC) (fun y=>(one_rk y).1) h2 (by decide)⟩)
 have HR2:Hid (∀ wz,Ext W2 wz→Calls Tryz.prog 15 #[.agg row.toArray,iV 2,.slice (some ⟨g,0,none⟩) 3 3] wz fun e w'=>∃ v',e=.returned (.tuple #[v',iV 34])∧Ext wz w'):=zH (fun wz hz=>by
  rw [← HROW.out]
  refine (Rank_any r tpC 2 _ (chE q1 q2 q3) wz (HT2.out.ext hz) (HV2.out.ext hz) (by show (3:Nat)≤100000;omega) (sorts_12 r tpC 2 _ (by show (3:Nat)≤12;omega))).mono ?_
  rintro e w' ⟨v',rfl,h1,h2⟩
  exact ⟨v',by rw [(rank_2 q1 q2 q3 r).1],h1⟩)
 have HWN:Hid (∀ wz,Ext W2 wz→Calls Tryz.prog 17 #[.agg row.toArray,iV 1,.slice (some ⟨g,0,none⟩) 3 3] wz fun e w'=>e=.returned (.tuple #[iV 7,iV 0])∧Ext wz w'):=zH (fun wz hz=>by
  rw [← HROW.out]
  refine (Winner_any r tpC 1 _ (chE q1 q2 q3) wz (HT2.out.ext hz) (HV2.out.ext hz) (by show (3:Nat)≤100000;omega) (sorts_12 r tpC 1 _ (by show (3:Nat)≤12;omega))).mono ?_
  rintro e w' ⟨rfl,h1⟩
  obtain ⟨k1,k2⟩:=rank_1 q1 q2 q3 r HLO.out HHI.out
  exact ⟨by rw [k1,k2];rfl,h1⟩)
 have HB:Hid (∀ wz,Ext W2 wz→Calls Tryz.prog 20 #[.agg row.toArray,.agg #[iV 7,iV 1,iV 1,iV 100,.slice (some ⟨q1,0,none⟩) 1 1],.agg #[iV 8,iV 1,iV 2,iV 200,.slice (some ⟨q2,0,none⟩) 1 1],.agg #[iV 1,iV 1],.agg #[iV 1,iV 1]] wz (fun e w'=>e=.returned (.bool false)∧Ext wz w') ∧
  Calls Tryz.prog 20 #[.agg row.toArray,.agg #[iV 8,iV 1,iV 2,iV 200,.slice (some ⟨q2,0,none⟩) 1 1],.agg #[iV 7,iV 1,iV 1,iV 100,.slice (some ⟨q1,0,none⟩) 1 1],.agg #[iV 1,iV 1],.agg #[iV 1,iV 1]] wz (fun e w'=>e=.returned (.bool true)∧Ext wz w')):=zH (fun wz hz=>by
  rw [← HROW.out]
  exact en_better r q1 q2 q3 wz (HT2.out.ext hz) (HV2.out.ext hz))
 clear hW2
 obtain ⟨P,hP⟩:∃ x,x=w1.heap.size:=⟨_,rfl⟩
 rw [← hP] at HP HRG ⊢
 have hl2:P < W2.heap.size:=zL HP.out
 have HX0:=zH (Ext.refl W2)
 clear hone HROW HLO HHI HT2 HV2 hP
 go_upto_region 3 with (first
  |(refine wpList_load_mid rfl 39 (.tmp 1) rfl P 0 (by rfl) row _ (HRG.out _ HX0.out) Tryz.underlying39 rfl (by rw [hrs];kernel_rfl) ?_)
  |(go_at_call 15;(with_reducible refine (HR1.out _ HX0.out).mono ?_);rintro e w3 ⟨v3,rfl,hx3,hs3⟩;have HX3:=zH hx3;have HS3:=zH hs3;clear hx3 hs3))
 go_upto_region 4 with (first
  |(refine wpList_load_mid rfl 39 (.tmp 1) rfl P 0 (by rfl) row _ (HRG.out _ HX3.out) Tryz.underlying39 rfl (by rw [hrs];kernel_rfl) ?_)
  |(go_at_call 17;(with_reducible refine (HWN.out _ HX3.out).mono ?_);rintro e w4 ⟨rfl,hx4⟩;have HX4:=zH (HX3.out.trans hx4);have HS4:=zH (HS3.out.ext hx4);clear hx4))
 go_upto_region 5 with (first
  |(refine wpList_load_mid rfl 39 (.tmp 1) rfl P 0 (by rfl) row _ (HRG.out _ HX4.out) Tryz.underlying39 rfl (by rw [hrs];kernel_rfl) ?_)
  |(go_at_call 15;(with_reducible refine (HR2.out _ HX4.out).mono ?_);rintro e w5 ⟨v5,rfl,hx5⟩;have HX5:=zH (HX4.out.trans hx5);have HS5:=zH (HS4.out.ext hx5);clear hx5))
 go_upto_region 7 with (fail)
 obtain ⟨W7,hW7⟩:∃ W7,W7=(w5.alloc (.cells #[iV 1,iV 1] 30)).alloc (.cells #[iV 7,iV 4,iV 5,iV 1,iV 0,iV 8,iV 7,iV 10,iV 2,iV 0,iV 9,iV 0,iV 0,iV 0,iV 16] 62):=⟨_,rfl⟩
 rw [← hW7]
 have hx7:Ext w5 W7:=by rw [hW7];exact Ext.alloc (Ext.alloc (Ext.refl _) _) _
 have ho7:W7.heap[w5.heap.size]? = some (.cells #[iV 1,iV 1] 30):=by rw [hW7];exact al (alloc_new w5 _)
 have hk7:W7.heap[w5.heap.size+1]? = some (.cells (rkC.flatMap Rk.cs).toArray 62):=by
  rw [hW7]
  have:=alloc_new (w5.alloc (.cells #[iV 1,iV 1] 30)) (.cells (rkC.flatMap Rk.cs).toArray 62)
  rw [show (w5.alloc (.cells #[iV 1,iV 1] 30)).heap.size=w5.heap.size+1 by simp] at this
  exact this
 have HX7:=zH (HX5.out.trans hx7);have HO7:=zH ho7;have HS7:=zH (HS5.out.ext hx7)
 have HP7:=zH ((HX7.out.block _ (zL HP.out)).trans HP.out)
 have HG7:=zH ((HX7.out.block _ (zL HG2.out)).trans HG2.out)
 have HK7:Hid (SR Rk.cs 5 W7 (.slice (some ⟨w5.heap.size+1,0,none⟩) 3 3) rkC):=zH (SR.of_block (cs:=Rk.cs) (sz:=5) (xs:=rkC) (fun y=>(one_rk y).1) hk7 (by decide))
 have HSM:Hid (∀ wz,Ext W7 wz→Calls Tryz.prog 19 #[v3,.slice (some ⟨w5.heap.size+1,0,none⟩) 3 3] wz fun e w'=>e=.returned (.bool true)∧Ext wz w'):=zH (fun wz hz=>by
  have h:=same19_any _ _ rkC rkC wz (HS7.out.ext hz) (HK7.out.ext hz)
  rw [sameL_eq.2 rfl] at h
  exact h)
 have HBF:Hid (∀ wz,Ext W7 wz→Calls Tryz.prog 20 #[.agg row.toArray,.agg #[iV 7,iV 1,iV 1,iV 100,.slice (some ⟨q1,0,none⟩) 1 1],.agg #[iV 8,iV 1,iV 2,iV 200,.slice (some ⟨q2,0,none⟩) 1 1],.agg #[iV 1,iV 1],.agg #[iV 1,iV 1]] wz (fun e w'=>e=.returned (.bool false)∧Ext wz w')):=zH (fun wz hz=>(HB.out wz (HX7.out.trans hz)).1)
 have HBT:Hid (∀ wz,Ext W7 wz→Calls Tryz.prog 20 #[.agg row.toArray,.agg #[iV 8,iV 1,iV 2,iV 200,.slice (some ⟨q2,0,none⟩) 1 1],.agg #[iV 7,iV 1,iV 1,iV 100,.slice (some ⟨q1,0,none⟩) 1 1],.agg #[iV 1,iV 1],.agg #[iV 1,iV 1]] wz (fun e w'=>e=.returned (.bool true)∧Ext wz w')):=zH (fun wz hz=>(HB.out wz (HX7.out.trans hz)).2)
 have HE1:Hid (∀ wz,Ext W7 wz→wz.rangeAt g 0 [iV 7,iV 1,iV 1,iV 100,.slice (some ⟨q1,0,none⟩) 1 1]):=zH (fun wz hz=>range_of ((hz.block _ (zL HG7.out)).trans HG7.out) 0 _ (fun j v hv=>by
  have hj:j < 5:=(List.getElem?_eq_some_iff.1 hv).1
  rcases (show j=0∨j=1∨j=2∨j=3∨j=4 by omega) with rfl|rfl|rfl|rfl|rfl <;> exact hv))
 have HE2:Hid (∀ wz,Ext W7 wz→wz.rangeAt g 5 [iV 8,iV 1,iV 2,iV 200,.slice (some ⟨q2,0,none⟩) 1 1]):=zH (fun wz hz=>range_of ((hz.block _ (zL HG7.out)).trans HG7.out) 5 _ (fun j v hv=>by
  have hj:j < 5:=(List.getElem?_eq_some_iff.1 hv).1
  rcases (show j=0∨j=1∨j=2∨j=3∨j=4 by omega) with rfl|rfl|rfl|rfl|rfl <;> exact hv))
 have HXF:=zH (HX2.out.trans HX7.out)
 obtain ⟨O,hO⟩:∃ O,O=w5.heap.size:=⟨_,rfl⟩
 rw [← hO] at HO7 HSM ⊢
 clear hO hW7 hx7 ho7 hk7 HS7 HS5 HS4 HS3 HR1 HR2 HWN HB HRG HP HG2 HK7 HX0 HX3 HX4 HX5 HX2 hl2
 refine Rr.rg ((List.range 44).map (fun i=>(i,.y))) ?_
 simp only [List.range,List.range.loop,List.map_cons,List.map_nil]
 iterate 5
  refine Rr.y1 ?_
 refine Rr.y3 (fun wz hw=>HSM.out wz hw) ?_
 iterate 14
  refine Rr.y1 ?_
 refine Rr.y2 (h:=fun wz hw=>up_row (by rfl) ((hw.block _ (zL HP7.out)).trans HP7.out) Tryz.underlying39 (by rw [List.size_toArray,hrs];kernel_rfl)) (k:=?_)
 iterate 2
  refine Rr.y1 ?_
 refine Rr.y2 (h:=fun wz hw=>up_mid (by rfl) (HE1.out wz hw) Tryz.underlying57 (by kernel_rfl)) (k:=?_)
 iterate 2
  refine Rr.y1 ?_
 refine Rr.y2 (h:=fun wz hw=>up_mid (by rfl) (HE2.out wz hw) Tryz.underlying57 (by kernel_rfl)) (k:=?_)
 iterate 2
  refine Rr.y2 (h:=fun wz hw=>up_row (by rfl) ((hw.block _ (zL HO7.out)).trans HO7.out) Tryz.underlying30 (by kernel_rfl)) (k:=?_)
 refine Rr.y3 (fun wz hw=>HBF.out wz hw) ?_
 iterate 3
  refine Rr.y1 ?_
 refine Rr.y2 (h:=fun wz hw=>up_row (by rfl) ((hw.block _ (zL HP7.out)).trans HP7.out) Tryz.underlying39 (by rw [List.size_toArray,hrs];kernel_rfl)) (k:=?_)
 iterate 2
  refine Rr.y1 ?_
 refine Rr.y2 (h:=fun wz hw=>up_mid (by rfl) (HE2.out wz hw) Tryz.underlying57 (by kernel_rfl)) (k:=?_)
 iterate 2
  refine Rr.y1 ?_
 refine Rr.y2 (h:=fun wz hw=>up_mid (by rfl) (HE1.out wz hw) Tryz.underlying57 (by kernel_rfl)) (k:=?_)
 iterate 2
  refine Rr.y2 (h:=fun wz hw=>up_row (by rfl) ((hw.block _ (zL HO7.out)).trans HO7.out) Tryz.underlying30 (by kernel_rfl)) (k:=?_)
 refine Rr.y3 (fun wz hw=>HBT.out wz hw) ?_
 refine Rr.y1 ?_
 refine Rr.wr_nil ?_
 intro wy hy hh
 simp only [gg,gh,gi,gj,Nat.reduceAdd]
 clear hh
 go_wp2
 go_ret
 exact ⟨rfl,HXF.out.trans hy⟩
theorem nodup_at {α:Type} (f:α→Int) (xs:List α) (h:∀ i j (hi:i < xs.length) (hj:j < xs.length),i < j→f xs[i]≠f xs[j]):(xs.map f).Nodup:=by
 rw [List.Nodup,List.pairwise_iff_getElem]
 intro i j hi hj hij
 rw [List.getElem_map,List.getElem_map]
 exact h i j (by simpa using hi) (by simpa using hj) hij
theorem errE_made {W w:World} {v:Value} {xs:List ER} (h:EO W w v xs) (ls:List (Int×Int)) (lot:Int) (hl:hasLot ls lot=true):errE ls lot (ownE lot xs)=0:=by
 have h1:(xs.map fun x=>x.1.bid).Nodup:=nodup_at (fun x:ER=>x.1.bid) xs fun i j hi hj hij=>by
  have a:=(h.at_ i hi).1
  have b:=(h.at_ j hj).1
  simp only [a,b]
  omega
 have h2:(xs.map fun x=>x.1.rec_).Nodup:=nodup_at (fun x:ER=>x.1.rec_) xs fun i j hi hj hij=>by
  obtain ⟨-,c,c0,c1,a⟩:=h.at_ i hi
  obtain ⟨-,d,d0,d1,b⟩:=h.at_ j hj
  have:=h.len
  simp only [a,b]
  omega
 have hs:List.Sublist (ownE lot xs) xs:=List.filter_sublist
 have hlen:=hs.length_le
 have:=h.len
 unfold errE
 rw [if_neg (by rw [hl];decide),if_neg (by omega),if_pos ⟨h1.sublist (hs.map _),h2.sublist (hs.map _)⟩]
def cntO (l:List Rk):Nat:=(l.filter fun x=>x.out == 0).length
theorem cntO_succ (l:List Rk) (j:Nat) (h:j < l.length):cntO (l.take (j+1))=if l[j].out=0 then cntO (l.take j)+1 else cntO (l.take j):=by
 unfold cntO
 rw [List.take_succ_eq_append_getElem h,List.filter_append,List.length_append]
 by_cases h0:l[j].out=0
 ·rw [if_pos h0];simp [h0]
 ·rw [if_neg h0];simp [h0]
theorem outF_out (r:TnR) (T:TP) (lw:Int) (own:List ER):∀ x∈outF r T lw own,x.out≠0∧x.place=0:=fun x hx=>by
 obtain ⟨y,hy,rfl⟩:=List.mem_map.1 hx
 have:=(List.mem_filter.1 hy).2
 refine ⟨?_,rfl⟩
 simpa using this
theorem win_cases (r:TnR) (T:TP) (lot:Int) (xs:List ER) (h0:errE T.ls lot (ownE lot xs)=0) :
 (cntO (rankL r T lot xs)=0∧winF (rankL r T lot xs) 0=(0,34))∨(0 < cntO (rankL r T lot xs)∧∃ x l,rankL r T lot xs=x :: l∧winF (rankL r T lot xs) 0=(x.bid,0)):=by
 have hr:rankL r T lot xs=inF 0 (sortF r T (lowF r T (ownE lot xs)) (ownE lot xs)) ++ outF r T (lowF r T (ownE lot xs)) (ownE lot xs):=if_pos h0
 rw [hr]
 have ho:=outF_out r T (lowF r T (ownE lot xs)) (ownE lot xs)
 generalize outF r T (lowF r T (ownE lot xs)) (ownE lot xs)=o at *
 cases sortF r T (lowF r T (ownE lot xs)) (ownE lot xs) with
 | nil=>
  refine .inl ⟨?_,?_⟩
  ·unfold cntO
   rw [inF,List.nil_append,List.length_eq_zero_iff,List.filter_eq_nil_iff]
   intro x hx
   simpa using (ho x hx).1
  ·rw [inF,List.nil_append]
   cases o with
   | nil=>rfl
   | cons x l=>
    unfold winF
    rw [if_pos rfl]
    simp only [(ho x zM).2]
    rfl
 | cons y l=>
  refine .inr ⟨?_,_,_,by rw [inF,List.cons_append],?_⟩
  ·unfold cntO
   rw [inF,List.cons_append,List.filter_cons_of_pos (by rfl),List.length_cons]
   omega
  ·rw [inF,List.cons_append]
   rfl
theorem rankL_len (r:TnR) (T:TP) (lot:Int) (xs:List ER) (h:xs.length≤100000):(rankL r T lot xs).length≤1000000:=by
 unfold rankL
 split
 ·rw [List.length_append,inF_len,sortF,isort_len]
  have h1:=List.length_filter_le (fun x:ER=>x.1.lot == lot) xs
  have h2:=List.length_filter_le (fun x:ER=>badF r T (lowF r T (ownE lot xs)) x.1 == 0) (ownE lot xs)
  have h3:=List.length_filter_le (fun x:ER=>!(badF r T (lowF r T (ownE lot xs)) x.1 == 0)) (ownE lot xs)
  have h4:(ownE lot xs).length≤xs.length:=h1
  unfold goodF outF
  rw [List.length_map,List.length_map]
  omega
 ·simp
theorem has_lot {ls:List (Int×Int)} (k:Nat) (h:k < ls.length):hasLot ls ls[k].1=true:=List.any_eq_true.2 ⟨ls[k],List.getElem_mem h,beq_self_eq_true _⟩
theorem winner_walk (v1 v2:Value) (ns ms:List Int) (W:World) (h1:IRd W v1 ns) (h2:IRd W v2 ms) :
 Calls Tryz.prog 8 #[v1,v2] W fun e w'=>e=.returned (.bool true)∧Ext W w':=by
 have HI1:=zH h1;have HI2:=zH h2
 clear h1 h2
 go_in
 go_upto_region 2 with (go_at_call 11;(refine (sanity_any _).mono ?_);rintro e w1 ⟨rfl,hx1⟩;have HX1:=zH hx1;clear hx1)
 go_upto_region 3 with (first
  |(go_at_call 12
    refine (good_any v1 ns w1 (HI1.out.ext HX1.out)).mono ?_
    rintro e w2 ⟨r,T,kk,rfl,hct,hgt,hgn,hx2⟩
    have HCT:=zH hct;have HGT:=zH hgt;have HGN:=zH hgn
    have HX2:=zH (HX1.out.trans hx2)
    clear hct hgt hgn hx2
    obtain ⟨row,hrow⟩:∃ row,row=(tenC r).toList:=⟨_,rfl⟩
    have hrs:row.length=20:=by rw [hrow];rfl
    have hrt:row.toArray=tenC r:=by rw [hrow]
    rw [← hrt]
    have hone:∀ v∈row.toArray.toList,v.oneCell' = true:=by rw [hrt];exact ten_one r
    have hsz:row.toArray.size=20:=hrs
    have HRT:=zH hrt
    clear hrow hrt)
  |(refine wpList_store_row rfl 39 (.tmp 6) (.tmp 18) rfl w2.heap.size (by rfl) row.toArray (by rfl) (tenC zeroT) 39 (block_new rfl) (by rw [hsz];rfl) (by rw [hsz];kernel_rfl) hone ?_))
 have hp3:((w2.alloc (.cells (tenC zeroT) 39)).setRow w2.heap.size row.toArray).heap[w2.heap.size]? = some (.cells row.toArray 39):=setRow_heap _ _ _ row.toArray _ _ (block_new rfl)
 have hx3:Ext w2 ((w2.alloc (.cells (tenC zeroT) 39)).setRow w2.heap.size row.toArray):=below_setRow (Ext.alloc (Ext.refl _) _) (Nat.le_refl _) _
 obtain ⟨P,hP⟩:∃ x,x=w2.heap.size:=⟨_,rfl⟩
 rw [← hP] at hp3 hx3 ⊢
 clear hP
 go_upto_region 3 with (fail)
 generalize (w2.alloc (.cells (tenC zeroT) 39)).setRow P row.toArray=w3 at *
 have HX3:=zH (HX2.out.trans hx3)
 have HCT3:=zH (HCT.out.ext hx3)
 have HP3:Hid (w3.heap[P]? = some (.cells (tenC r) 39)):=zH (by rw [← HRT.out];exact hp3)
 clear hp3 hx3 HCT HX2 hone hsz HX1
 have HEN:=zH (entries13_any r T v2 ms w3 HCT3.out.tv HGT.out HGN.out (HI2.out.ext HX3.out))
 rw [← HRT.out] at HEN
 have HRG:Hid (∀ wz,Ext w3 wz→wz.rangeAt P 0 row∧wz.cell? ⟨P,1,none⟩=some (slV r.ls)∧P < wz.heap.size):=zH fun wz hz=>by
  have h:=(hz.block _ (zL HP3.out)).trans HP3.out
  refine ⟨range_of h 0 row (fun j v hv=>?_),cell_of_row wz P 1 _ _ _ h,zL h⟩
  rw [← HRT.out]
  simpa using hv
 go_upto_region 4 with (first
  |(refine wpList_load_mid rfl 39 (.tmp 6) rfl P 0 (by rfl) row _ (HRG.out _ (Ext.refl _)).1 Tryz.underlying39 rfl (by rw [hrs];kernel_rfl) ?_)
  |(go_at_call 13
    refine HEN.out.mono ?_
    rintro e w4 ⟨v4,xs,rfl,heo,hx4⟩
    have HEO:=zH heo
    have HX4:=zH hx4
    clear heo hx4))
 clear HEN
 have HWN:Hid (∀ lot wz,Ext w4 wz→errE T.ls lot (ownE lot xs)=0→Calls Tryz.prog 17 #[.agg row.toArray,iV lot,v4] wz fun e w'=>e=.returned (.tuple #[iV (winF (rankL r T lot xs) 0).1,iV (winF (rankL r T lot xs) 0).2])∧Ext wz w'):=zH fun lot wz hz h0=>by
  have h:=Winner_any r T lot v4 xs wz (HCT3.out.tv.ext (HX4.out.trans hz)) (HEO.out.xr.ext hz) (by have:=HEO.out.len;omega) (sorts_12 r T lot xs HEO.out.len)
  rw [h0] at h
  rw [HRT.out]
  exact h
 have HRK:Hid (∀ lot wz,Ext w4 wz→errE T.ls lot (ownE lot xs)=0→Calls Tryz.prog 15 #[.agg row.toArray,iV lot,v4] wz fun e w'=>∃ v',e=.returned (.tuple #[v',iV 0])∧Ext wz w'∧w'.ownsRow wz.heap.size 62 5 v' (rankL r T lot xs).length ((rankL r T lot xs).flatMap Rk.cs)):=zH fun lot wz hz h0=>by
  have h:=Rank_any r T lot v4 xs wz (HCT3.out.tv.ext (HX4.out.trans hz)) (HEO.out.xr.ext hz) (by have:=HEO.out.len;omega) (sorts_12 r T lot xs HEO.out.len)
  rw [h0] at h
  rw [HRT.out]
  exact h
 obtain ⟨⟨la,ln,lc⟩,hrl⟩:∃ x:Sl,x=r.ls:=⟨_,rfl⟩
 have HSL:Hid (SR cellsLot 2 w3 (.slice la ln lc) T.ls):=zH (by have:=HCT3.out.tv.h1;rw [← hrl] at this;exact this)
 obtain rfl:ln=T.ls.length:=HSL.out.len
 have HRH:Hid (∀ wz,Ext w4 wz→wz.rangeAt P 0 row∧wz.cell? ⟨P,1,none⟩=some (.slice la T.ls.length lc)∧P < wz.heap.size):=zH fun wz hz=>by
  obtain ⟨a,b,c⟩:=HRG.out wz (HX4.out.trans hz)
  exact ⟨a,b.trans (by rw [← hrl]),c⟩
 have HLL:Hid (T.ls.length≤3):=zH HGT.out.ll.2
 clear hrl HRG
 go_upto_region 5 with (fail)
 go_loopw [8,9,10,11,12,13,14,15] (fun kv s9 s10 s11 s12 s13 s14 s15 wr=>∃ k:Nat,kv=iV k∧k≤T.ls.length∧Hid (Ext w4 wr)) (fun kv _ _ _ _ _ _ _ _=>T.ls.length - (iof kv).toNat)
 case atStart=>exact ⟨0,rfl,Nat.zero_le _,zH (Ext.refl _)⟩
 case round=>
  obtain ⟨k,rfl,hk,HRR⟩:=hrel
  obtain ⟨-,p1,lP⟩:=HRH.out wr HRR.out
  have hll:=HLL.out
  by_cases hlt:k < T.ls.length
  ·obtain ⟨lb,hlb,hlz⟩:=SR.at HSL.out (HX4.out.trans HRR.out) k hlt
   subst hlb
   have e0:wr.cell? ⟨lb,k * 2,none⟩=some (iV T.ls[k].1):=hlz 0 _ rfl
   have hlbl:=zB wr _ e0
   have hki:(k:Int) < (T.ls.length:Int):=by omega
   have he0:=errE_made HEO.out T.ls T.ls[k].1 (has_lot k hlt)
   clear hlz
   generalize T.ls[k].1=lot at *
   have HW:=zH (fun wz hz=>HWN.out lot wz hz he0)
   have HR:=zH (fun wz hz=>HRK.out lot wz hz he0)
   have HWC:=zH (win_cases r T lot xs he0)
   have HRL:=zH (rankL_len r T lot xs (by have:=HEO.out.len;omega))
   clear he0
   generalize rankL r T lot xs=rk at *
   obtain ⟨⟨wb,we⟩,hwf⟩:∃ x,x=winF rk 0:=⟨_,rfl⟩
   rw [← hwf] at HW HWC
   clear hwf
   go_upto_region 12 with (first
    |(refine wpList_load_mid rfl 39 (.tmp 6) rfl P 0 (by rfl) row _ (HRH.out _ HRR.out).1 Tryz.underlying39 rfl (by rw [hrs];kernel_rfl) ?_)
    |(go_at_call 17;refine (HW.out _ HRR.out).mono ?_;rintro e w8 ⟨rfl,hx8⟩;have HRR:=zH (HRR.out.trans hx8);clear hx8)
    |(go_at_call 15;refine (HR.out _ HRR.out).mono ?_;rintro e w9 ⟨v9,rfl,hx9,ho9⟩;have HRR:=zH (HRR.out.trans hx9);have HO9:=zH ho9;clear hx9 ho9;obtain ⟨ob,on,oc,rfl⟩:∃ b n c,v9=.slice b n c:=(by obtain ⟨b,c,h⟩:=row_form HO9.out;exact ⟨b,_,c,h⟩);obtain rfl:on=rk.length:=row_len HO9.out))
   have HSK:=zH (SR.of_row (cs:=Rk.cs) (fun x=>(one_rk x).1) HO9.out HRL.out)
   clear p1 lP e0 hlbl HW HR
   go_loopw [14,15] (fun mv jv wq=>∃ j:Nat,jv=iV j∧j≤rk.length∧mv=iV (cntO (rk.take j))∧Hid (Ext w9 wq)) (fun _ jv _=>rk.length - (iof jv).toNat)
   case atStart=>exact ⟨0,rfl,Nat.zero_le _,rfl,zH (Ext.refl _)⟩
   case round=>
    rename World=>wq
    obtain ⟨j,rfl,hj,rfl,HQ⟩:=hrel
    have hrkl:=HRL.out
    by_cases hjl:j < rk.length
    ·obtain ⟨gb,hgb,hgz⟩:=SR.at HSK.out HQ.out j hjl
     subst hgb
     have e4:wq.cell? ⟨gb,j * 5+4,none⟩=some (iV rk[j].out):=hgz 4 _ rfl
     have hgl:=zB wq _ e4
     have HCS:=zH (cntO_succ rk j hjl)
     have HCB:Hid (cntO (rk.take j)≤1000000):=zH (by
      unfold cntO
      have h1:=List.length_filter_le (fun x:Rk=>x.out == 0) (rk.take j)
      have h2:=List.length_take_le j rk
      omega)
     have hji:(j:Int) < (rk.length:Int):=by omega
     clear hgz
     generalize rk[j].out=ou at *
     generalize cntO (rk.take j)=ct at *
     have hcb:=HCB.out
     by_cases hou:ou=0
     ·subst hou
      have hcs:=HCS.out
      rw [if_pos rfl] at hcs
      have HC2:=zH hcs
      clear hcs HCS
      go_wp2_with (fail)
      exact ⟨⟨j+1,by simp,by omega,by rw [HC2.out];simp,HQ⟩,by simp [iof];omega⟩
     ·have hob:(ou == 0)=false:=by simpa using hou
      have hcs:=HCS.out
      rw [if_neg hou] at hcs
      have HC2:=zH hcs
      clear hcs HCS
      go_wp2_with (fail)
      exact ⟨⟨j+1,by simp,by omega,by rw [HC2.out],HQ⟩,by simp [iof];omega⟩
    ·obtain rfl:j=rk.length:=by omega
     rw [List.take_length]
     rcases HWC.out with ⟨h1,h2⟩|⟨h1,x,l,h2,h3⟩
     ·injection h2 with h3 h4
      subst h3 h4
      rw [h1]
      clear h1 HWC
      go_wp2_with (fail)
      exact ⟨⟨k+1,by simp,by omega,zH (HRR.out.trans HQ.out)⟩,by simp [iof];omega⟩
     ·injection h3 with h4 h5
      subst h4 h5
      have hc0:(0:Int) < ((cntO rk:Nat):Int):=by omega
      have hcz:(((cntO rk:Nat):Int) == 0)=false:=by rw [beq_eq_false_iff_ne];omega
      obtain ⟨gb,hgb,hgz⟩:=SR.at HSK.out HQ.out 0 (by rw [h2];simp)
      subst hgb
      have hx0 : rk[0]'(by rw [h2]; simp) = x := by simp [h2]
      have e0:wq.cell? ⟨gb,0,none⟩=some (iV x.bid):=by have:=hgz 0 _ rfl;rw [hx0] at this;simpa using this
      have hgl:=zB wq _ e0
      have hlp:(0:Int) < (rk.length:Int):=by rw [h2];simp
      clear hgz hx0 h2 HWC h1
      generalize cntO rk=ct at *
      go_wp2_with (fail)
      exact ⟨⟨k+1,by simp,by omega,zH (HRR.out.trans HQ.out)⟩,by simp [iof];omega⟩
  ·obtain rfl:k=T.ls.length:=by omega
   go_wp2
   go_ret
   exact ⟨rfl,HX3.out.trans (HX4.out.trans HRR.out)⟩
end Go.Proofs.YteomcpplajeidaaGreat
namespace Go.Proofs.YteomcpplajeidaaGreat
open Go.RowKit Go.WideShapes Go.ChangeShapes
section
variable {H:Type} {enc:TypeId×Value→H} {P:Program}
theorem post_of_below {f:Func} {s:ChangeSpec} {apart fresh handsOn again:Bool} {W W':World} {args:Array Value} {v:Value} {ds gs:List (DataW H)} {before pa pv:List MemPlace}
 (hW:DataW.Whole enc P f.params.toList s.vars apart W args.toList ds gs before)
 (hres:∀ (b:Nat) (sp:Nat→Bool) (hd:Bool),DataW.TrodAll enc P W' b sp hd f.resultTypes.toList (v.resultList f.resultTypes.size) (s.fn H (ds ++ gs)).results [])
 (hargs:∀ sp:Nat→Bool,(∀ p∈before,sp p.block=true)→DataW.TrodAll enc P W' 0 sp true f.params.toList args.toList (s.fn H (ds ++ gs)).args pa)
 (hvars:∀ sp:Nat→Bool,(∀ p∈before,sp p.block=true)→DataW.TrodVars enc P W' sp s.vars (s.fn H (ds ++ gs)).vars pv)
 (hps:before=pa ++ pv) (hb:Below W.heap.size W W')
 (hok:∀ (j:Nat) (t:TypeId) (r:Value),f.resultTypes[j]? = some t→(v.resultList f.resultTypes.size)[j]? = some r→Value.okWide P W' .any 0 t r) :
 s.post enc P f apart fresh handsOn again W args v W':=by
 have hlt:∀ p∈before,p.block < W.heap.size:=fun p hp=>hW.lt p hp
 have hold:∀ p∈before,(fun b=>decide (b < W.heap.size)) p.block=true:=fun p hp=>by simpa using hlt p hp
 refine ⟨ds,gs,before,[],pa,pv,hW,hres _ _ _,hargs _ hold,hvars _ hold,World.keptBut_mono (fun p hp=>⟨hp,?_⟩) (hb.frame (·∈before)),fun _=>?_⟩
 ·rw [hps,List.mem_append] at hp
  exact Or.inr hp
 ·obtain ⟨_,_,_,_,_,hz,hn⟩:=hW
  refine ⟨hok,_,_,([] ++ pa) ++ pv,⟨[] ++ pa,pv,trodAll_append (hargs _ (fun _ _=>rfl)) (hres _ _ _),hvars _ (fun _ _=>rfl),rfl,?_,?_⟩,?_⟩
  ·intro b off hp
   have hin:MemPlace.cell b off∈before:=by rw [hps];simpa using hp
   rw [hb.frozen (hlt _ hin)]
   exact hz b off hin
  ·intro ha
   have:=hn ha
   rw [hps] at this
   simpa using this
  ·intro p hp _
   rw [hps]
   simpa using hp
end
end Go.Proofs.YteomcpplajeidaaGreat

namespace Go.Proofs.YteomcpplajeidaaGreat
open Go.RowKit Go.WideShapes Go.ChangeShapes
theorem sameAt_below {w w':World} (hb:Below w.heap.size w w') (p:MemPlace) (hp:p.block < w.heap.size):w.sameAt w' p:=by
 cases p with
 | cell b off=>exact Below.cell (p:=⟨b,off,none⟩) hb hp
 | map b=>exact hb.block b hp
section
variable {H:Type} {enc:TypeId×Value→H} {P:Program} {w w':World} {base:Nat} {sp:Nat→Bool} {held:Bool}
end
theorem kids:Kids Tryz.prog (· < Tryz.prog.types.size):=kids_rows (by kernel_rfl) (by kernel_rfl)
theorem full:∀ t e,t < Tryz.prog.types.size→Tryz.prog.underlying t=some (.slice e)→0 < Tryz.prog.cellsOf e:=slices_full_of Tryz.prog (by kernel_rfl)
theorem own:ownKnob Tryz.prog.godebug=none:=by kernel_rfl
theorem cells3:Tryz.prog.cellsOf 3=1:=by kernel_rfl
end Go.Proofs.YteomcpplajeidaaGreat

namespace Go.Proofs.YteomcpplajeidaaGreat
open Go.RowKit Go.WideShapes Go.ChangeShapes
section
variable {H:Type} {enc:TypeId×Value→H} {W W':World} {sp:Nat→Bool}
theorem trodAll_stay (hb:Below W.heap.size W W'):∀ {ts:List TypeId} {vs:List Value} {ds:List (DataW H)} {ps:List MemPlace},(∀ t∈ts,t < Tryz.prog.types.size) →
 DataW.TrodAll enc Tryz.prog W 0 (fun _=>true) true ts vs ds ps→(∀ p∈ps,sp p.block=true)→DataW.TrodAll enc Tryz.prog W' 0 sp true ts vs ds ps
 | [],[],[],_,_,h,_=>h
 | t :: ts,v :: vs,d :: ds,ps,ht,h,hs=>by
  obtain ⟨p,q,⟨fuel,hp⟩,hq,e⟩:=h
  subst e
  refine ⟨p,q,⟨fuel,?_⟩,trodAll_stay hb (fun t h=>ht t (zN _ h)) hq (fun x hx=>hs x (List.mem_append_right _ hx)),rfl⟩
  exact DataW.trod_stays kids (fun {t e} ht hu=>full t e ht hu) (fun h=>by cases h) (ht t zM) hp
   (fun x hx=>sameAt_below hb x (DataW.trod_lt fuel t _ _ hp x hx)) (fun x hx=>hs x (List.mem_append_left _ hx))
 | [],_ :: _,_,_,_,h,_=>h.elim
 | [],[],_ :: _,_,_,h,_=>h.elim
 | _ :: _,[],_,_,_,h,_=>h.elim
 | _ :: _,_ :: _,[],_,_,h,_=>h.elim
theorem i64_of_wf {n:Int} (h:(Lit.int .i64 n).wf=true):-9223372036854775808≤n∧n≤9223372036854775807:=by
 simpa [Lit.wf,IntKind.min,IntKind.max,IntKind.signed,IntKind.bits] using h
end
end Go.Proofs.YteomcpplajeidaaGreat

namespace Go.Proofs.YteomcpplajeidaaGreat
open Go.RowKit Go.WideShapes Go.ChangeShapes
section
variable {H:Type} {enc:TypeId×Value→H} {W W':World} {sp:Nat→Bool}
theorem ird_of_trod {fuel:Nat} {cs:List Value} {x:DataW H×List MemPlace} (h:DataW.trod enc Tryz.prog W 0 (fun _=>true) true fuel 22 cs=some x):∃ v ls,cs=[v]∧IRd W v ls:=by
 rcases open_ints Tryz.underlying22 Tryz.underlying3 cells3 h with ⟨rfl,-⟩|⟨a,len,cap,zs,rfl,-,hl,hm,hz,-,hc,hw⟩
 ·exact ⟨_,[],rfl,none,0,rfl,by simp,by simp,.inl rfl⟩
 ·have hlen:(zs.take len).length=len:=by rw [List.length_take,hz];simp;omega
  unfold maxLen at hm
  refine ⟨_,zs.take len,rfl,some a,cap,by rw [hlen],by rw [hlen];omega,fun z hz=>i64_of_wf (hw z (List.mem_of_mem_take hz)),?_⟩
  rcases Nat.eq_zero_or_pos len with rfl|hpos
  ·exact .inl rfl
  ·have hzl:len≤zs.length:=by rw [hz];simp;omega
   obtain ⟨b,off,rfl,hcell⟩:=ints_at hc (by omega)
   refine .inr ⟨b,off,rfl,fun k hk=>?_⟩
   rw [hlen] at hk
   rw [hcell k (by omega),List.getElem_take,List.getD_eq_getElem?_getD,List.getElem?_eq_getElem (by omega)]
   rfl
theorem open_IRd {r:Reach} {b0:Nat} {v:Value} {d:DataW H} {ps:List MemPlace} (hval:Value.okWide Tryz.prog W r b0 22 v) (hd:DataW.Trod enc Tryz.prog W 0 (fun _=>true) true 22 v d ps):∃ ls,IRd W v ls:=by
 obtain ⟨fuel,hf⟩:=hd
 obtain ⟨a,l,c,rfl⟩:=okWide_slice Tryz.underlying22 hval
 obtain ⟨v,ls,hcs,hr⟩:=ird_of_trod hf
 simp [Value.cells] at hcs
 subst hcs
 exact ⟨ls,hr⟩
end
end Go.Proofs.YteomcpplajeidaaGreat

