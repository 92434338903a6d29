/-
  Lemmas of this claim (JwAO). Nothing is asked.
-/
import Derived.Test.YteomcpplajeidaaGreatJwAL
import Derived.Test.YteomcpplajeidaaGreatJwAN
set_option linter.unusedVariables false
set_option linter.unusedSimpArgs false
set_option maxRecDepth 100000
set_option maxHeartbeats 40000000
namespace Go.Proofs.YteomcpplajeidaaGreat
open Go.RowKit
def RtP (w:World) (e:Ending) (w':World):Prop:=∃ (s:ByteArray) (b:Bool),e=.returned (.tuple #[.string s,.bool b])∧Ext w w'
theorem right_any (r:TnR) (T:TP) (kk:List Sl) (w:World) (h:CT w r T kk):Calls Tryz.prog 56 #[.agg (tenC r)] w (RtP w):=by
 have HNM:=zH (fun wz=>IsName_any r.nm (by have:=h.pt.nm.2;omega) wz)
 rw [h.pt.nm.1] at HNM
 have HRF:=zH (fun wz (hz:Ext w wz)=>rightF_any h.pt.f h.pt.fp h.pt.fd wz _ (h.tv.h5.ext hz))
 have HLI:=zH (fun wz (hz:Ext w wz)=>listed_any r T kk wz (h.ext hz))
 have HPR:=zH (fun wz (hz:Ext w wz)=>printed_any r T kk wz (h.ext hz))
 have S0:=zH (fun wz=>small_yes r.low 0 h.pt.low wz)
 have S1:=zH (fun wz=>small_yes r.high 0 h.pt.high wz)
 have S2:=zH (fun wz=>small_yes r.most 0 h.pt.most wz)
 have S3:=zH (fun wz=>small_yes r.budget 0 h.pt.budget wz)
 have S4:=zH (fun wz=>small_yes r.t0 0 h.pt.t0 wz)
 have S5:=zH (fun wz=>small_yes r.t1 0 h.pt.t1 wz)
 have S6:=zH (fun wz=>small_yes r.t2 0 h.pt.t2 wz)
 have S7:=zH (fun wz=>small_yes r.t3 0 h.pt.t3 wz)
 have S8:=zH (fun wz=>small_yes r.t4 0 h.pt.t4 wz)
 clear h
 obtain ⟨nm,l0,c0,r0,low,high,fo,f1,f2,fn,⟨fa0,fa1,fa2⟩,ts,most,ks,budget,t0,t1,t2,t3,t4⟩:=r
 obtain ⟨row,hrow⟩:∃ row:List Value,row=(tenC ⟨nm,l0,c0,r0,low,high,fo,f1,f2,fn,(fa0,fa1,fa2),ts,most,ks,budget,t0,t1,t2,t3,t4⟩).toList:=⟨_,rfl⟩
 have hrt:tenC ⟨nm,l0,c0,r0,low,high,fo,f1,f2,fn,(fa0,fa1,fa2),ts,most,ks,budget,t0,t1,t2,t3,t4⟩=row.toArray:=by rw [hrow]
 have hrs:row.length=20:=by rw [hrow];rfl
 rw [hrt] at HLI HPR ⊢
 obtain ⟨W,hW⟩:∃ W,W=w.alloc (.cells row.toArray 39):=⟨_,rfl⟩
 have hx:Ext w W:=by rw [hW];exact Ext.alloc (Ext.refl _) _
 have hb:W.heap[w.heap.size]? = some (.cells row.toArray 39):=by rw [hW];exact block_new rfl
 obtain ⟨p,hp⟩:∃ p,p=w.heap.size:=⟨_,rfl⟩
 rw [← hp] at hb
 have HX0:=zH hx;have HB:=zH hb
 have HRT:=zH hrt
 clear hx hb hrow hrt
 go_in
 go_upto_region 1 with (fail)
 rw [← hW]
 rw [← hp]
 clear hW hp
 have hbk:(W).heap[p]? = some (.cells row.toArray 39):=(((Ext.refl _)).block _ (zL HB.out)).trans HB.out
 have hrg:(W).rangeAt p 0 row:=range_of hbk 0 row (fun j v hv=>by simpa using hv)
 rw [← HRT.out] at hbk
 obtain ⟨hcc,-,lp⟩:=zC hbk
 have c0:=zk hcc 0
 have c4:=zk hcc 4
 have c5:=zk hcc 5
 have c6:=zk hcc 6
 have c7:=zk hcc 7
 have c8:=zk hcc 8
 have c9:=zk hcc 9
 have c10:=zk hcc 10
 have c12:=zk hcc 12
 have c14:=zk hcc 14
 have c15:=zk hcc 15
 have c16:=zk hcc 16
 have c17:=zk hcc 17
 have c18:=zk hcc 18
 have c19:=zk hcc 19
 have HRG:=zH hrg
 clear hcc hbk hrg
 go_upto_region 2 with (go_at_call 93;(refine (HNM.out _).mono ?_);rintro e w1 ⟨rfl,rfl⟩)
 go_upto_region 3 with (go_at_call 94;(refine (HRF.out _ HX0.out).mono ?_);rintro e w1 ⟨rfl,hx⟩;have HX1:=zH hx;clear hx)
 clear c0 c4 c5 c6 c7 c8 c9 c10 c12 c14 c15 c16 c17 c18 c19 lp
 have hbk:(w1).heap[p]? = some (.cells row.toArray 39):=((HX1.out).block _ (zL HB.out)).trans HB.out
 have hrg:(w1).rangeAt p 0 row:=range_of hbk 0 row (fun j v hv=>by simpa using hv)
 rw [← HRT.out] at hbk
 obtain ⟨hcc,-,lp⟩:=zC hbk
 have c0:=zk hcc 0
 have c4:=zk hcc 4
 have c5:=zk hcc 5
 have c6:=zk hcc 6
 have c7:=zk hcc 7
 have c8:=zk hcc 8
 have c9:=zk hcc 9
 have c10:=zk hcc 10
 have c12:=zk hcc 12
 have c14:=zk hcc 14
 have c15:=zk hcc 15
 have c16:=zk hcc 16
 have c17:=zk hcc 17
 have c18:=zk hcc 18
 have c19:=zk hcc 19
 have HRG:=zH hrg
 clear hcc hbk hrg
 go_upto_region 4 with (first
  |(refine wpList_load_mid rfl 39 (.tmp 1) rfl p 0 (by rfl) row _ HRG.out Tryz.underlying39 rfl (by rw [hrs];kernel_rfl) ?_)
  |(go_at_call 95;(with_reducible refine (HLI.out _ (HX0.out.trans HX1.out)).mono ?_);rintro e w2 ⟨li,rfl,hx⟩;have HX2:=zH (HX1.out.trans hx);clear hx))
 clear c0 c4 c5 c6 c7 c8 c9 c10 c12 c14 c15 c16 c17 c18 c19 lp
 have hbk:(w2).heap[p]? = some (.cells row.toArray 39):=((HX2.out).block _ (zL HB.out)).trans HB.out
 have hrg:(w2).rangeAt p 0 row:=range_of hbk 0 row (fun j v hv=>by simpa using hv)
 rw [← HRT.out] at hbk
 obtain ⟨hcc,-,lp⟩:=zC hbk
 have c0:=zk hcc 0
 have c4:=zk hcc 4
 have c5:=zk hcc 5
 have c6:=zk hcc 6
 have c7:=zk hcc 7
 have c8:=zk hcc 8
 have c9:=zk hcc 9
 have c10:=zk hcc 10
 have c12:=zk hcc 12
 have c14:=zk hcc 14
 have c15:=zk hcc 15
 have c16:=zk hcc 16
 have c17:=zk hcc 17
 have c18:=zk hcc 18
 have c19:=zk hcc 19
 have HRG:=zH hrg
 clear hcc hbk hrg
 go_upto_region 6 with (go_at_call 96;first
  |((with_reducible refine (S0.out _).mono ?_);rintro e w3 ⟨rfl,rfl⟩)|((with_reducible refine (S1.out _).mono ?_);rintro e w3 ⟨rfl,rfl⟩)|((with_reducible refine (S2.out _).mono ?_);rintro e w3 ⟨rfl,rfl⟩)
  |((with_reducible refine (S3.out _).mono ?_);rintro e w3 ⟨rfl,rfl⟩)|((with_reducible refine (S4.out _).mono ?_);rintro e w3 ⟨rfl,rfl⟩)|((with_reducible refine (S5.out _).mono ?_);rintro e w3 ⟨rfl,rfl⟩)
  |((with_reducible refine (S6.out _).mono ?_);rintro e w3 ⟨rfl,rfl⟩)|((with_reducible refine (S7.out _).mono ?_);rintro e w3 ⟨rfl,rfl⟩)|((with_reducible refine (S8.out _).mono ?_);rintro e w3 ⟨rfl,rfl⟩))
 have HX3:=zH (HX2.out.trans (Ext.alloc (Ext.refl w2) (.cells #[iV t0,iV t1,iV t2,iV t3,iV t4] 37)))
 clear c0 c4 c5 c6 c7 c8 c9 c10 c12 c14 c15 c16 c17 c18 c19 lp HRG
 generalize w2.alloc (.cells #[iV t0,iV t1,iV t2,iV t3,iV t4] 37)=w3 at *
 cases li with
 | false=>
  go_wp2_with (fail)
  go_ret2
  exact ⟨_,_,rfl,HX0.out.trans HX3.out⟩
 | true=>
  have hrg:w3.rangeAt p 0 row:=range_of ((HX3.out.block _ (zL HB.out)).trans HB.out) 0 row (fun j v hv=>by simpa using hv)
  have HRG:=zH hrg
  have lp:=Nat.lt_of_lt_of_le (zL HB.out) HX3.out.size
  clear hrg
  go_wp2_with (first
   |(refine wpList_load_mid rfl 39 (.tmp 1) rfl p 0 (by rfl) row _ HRG.out Tryz.underlying39 rfl (by rw [hrs];kernel_rfl) ?_)
   |(go_at_call 97;(with_reducible refine (HPR.out _ (HX0.out.trans HX3.out)).mono ?_);rintro e w4 ⟨s,rfl,hs,hx⟩;have HX4:=zH (HX3.out.trans hx);clear hx))
  go_ret2
  exact ⟨_,_,rfl,HX0.out.trans HX4.out⟩
end Go.Proofs.YteomcpplajeidaaGreat
