/-
  Lemmas of this claim (JwAM). Nothing is asked.
-/
import Derived.Test.YteomcpplajeidaaGreatJwAH
set_option linter.unusedVariables false
set_option linter.unusedSimpArgs false
set_option maxRecDepth 100000
set_option maxHeartbeats 40000000
namespace Go.Proofs.YteomcpplajeidaaGreat
open Go.RowKit
theorem OkR.int {n:Int} (h:OkI n):OkR (n,1):=⟨h.1,h.2,by show (-9223372036854775808:Int)≤1;decide,by show (1:Int)≤9223372036854775807;decide⟩
theorem two_res {w wr:World} {g:Nat} (hx:Ext w wr) (hg:w.heap.size≤g) (r1:wr.heap[g]? = some (.cells #[iV 0,iV 0] 30)) (r2:wr.heap[g+1]? = some (.cells #[iV 0,iV 0] 30)) (z1 z2 z3 z4:Value) :
 Ext w ((((wr.setCell ⟨g,0,none⟩ z1).setCell ⟨g,1,none⟩ z2).setCell ⟨g+1,0,none⟩ z3).setCell ⟨g+1,1,none⟩ z4)∧((((wr.setCell ⟨g,0,none⟩ z1).setCell ⟨g,1,none⟩ z2).setCell ⟨g+1,0,none⟩ z3).setCell ⟨g+1,1,none⟩ z4).heap[g]? = some (.cells #[z1,z2] 30)∧((((wr.setCell ⟨g,0,none⟩ z1).setCell ⟨g,1,none⟩ z2).setCell ⟨g+1,0,none⟩ z3).setCell ⟨g+1,1,none⟩ z4).heap[g+1]? = some (.cells #[z3,z4] 30):=by
 have x1:KX g wr ((wr.setCell ⟨g,0,none⟩ z1).setCell ⟨g,1,none⟩ z2):=((KX.of_ext (Ext.refl wr)).set _).set _
 have x2:KX (g+1) ((wr.setCell ⟨g,0,none⟩ z1).setCell ⟨g,1,none⟩ z2) ((((wr.setCell ⟨g,0,none⟩ z1).setCell ⟨g,1,none⟩ z2).setCell ⟨g+1,0,none⟩ z3).setCell ⟨g+1,1,none⟩ z4):=((KX.of_ext (Ext.refl _)).set _).set _
 exact ⟨ext_grown (ext_grown hx x1 (fun b e=>by injection e with e;omega)) x2 (fun b e=>by injection e with e;omega),x2.at (heap_put _ (heap_put _ r1)) (by omega),heap_put _ (heap_put _ (x1.at r2 (by omega)))⟩
structure IvB (w W:World) (p q g:Nat) (row:List Value) (f0 f1 f2 f3 f4:Value):Prop where
 low:Ext w W
 ge:w.heap.size≤g
 g0:W.heap[p]? = some (.cells row.toArray 39)
 g1:W.heap[q]? = some (.cells #[f0,f1,f2,f3,f4] 33)
 g2:W.heap[g]? = some (.cells #[iV 0,iV 0] 30)
 g3:W.heap[g+1]? = some (.cells #[iV 0,iV 0] 30)
 pq:p < q∧q < g
theorem IvB.ext {w W W':World} {p q g:Nat} {row:List Value} {f0 f1 f2 f3 f4:Value} (h:IvB w W p q g row f0 f1 f2 f3 f4) (x:Ext W W'):IvB w W' p q g row f0 f1 f2 f3 f4:=
 ⟨h.low.trans x,h.ge,(x.block _ (zL h.g0)).trans h.g0,(x.block _ (zL h.g1)).trans h.g1,(x.block _ (zL h.g2)).trans h.g2,(x.block _ (zL h.g3)).trans h.g3,h.pq⟩
theorem four_box {w:World} {row:List Value} {f0 f1 f2 f3 f4:Value}:∃ W,W=(((w.alloc (.cells row.toArray 39)).alloc (.cells #[f0,f1,f2,f3,f4] 33)).alloc (.cells #[iV 0,iV 0] 30)).alloc (.cells #[iV 0,iV 0] 30)∧IvB w W w.heap.size (w.heap.size+1) (w.heap.size+1+1) row f0 f1 f2 f3 f4:=by
 refine ⟨_,rfl,Ext.alloc (Ext.alloc (Ext.alloc (Ext.alloc (Ext.refl _) _) _) _) _,by omega,?_,?_,?_,block_new (by simp),by omega⟩
 ·rw [Below.heap_alloc _ _ _ (by simp <;> omega),Below.heap_alloc _ _ _ (by simp <;> omega),Below.heap_alloc _ _ _ (by simp)];exact heap_alloc_new _ _
 ·rw [Below.heap_alloc _ _ _ (by simp <;> omega),Below.heap_alloc _ _ _ (by simp)];exact block_new (by simp)
 ·rw [Below.heap_alloc _ _ _ (by simp)];exact block_new (by simp)
theorem interval_num (r:TnR) (n d:Int) (w:World) (v:Value) (ho:OkR (n,d)) (hv:Rd All w (numE (n,d)) v):Calls Tryz.prog 58 #[.agg (tenC r),v] w (EndP w):=by
 obtain ⟨base,cap,rfl⟩:=leaf_shape hv
 obtain ⟨row,hrow⟩:∃ row,row=(tenC r).toList:=⟨_,rfl⟩
 have hrt:tenC r=row.toArray:=by rw [hrow]
 have hrs:row.length=20:=by rw [hrow];rfl
 obtain ⟨W,hW,hb⟩:=four_box (w:=w) (row:=row) (f0:=.string numB) (f1:=iV n) (f2:=iV d) (f3:=.string nilB) (f4:=.slice base 0 cap)
 have HB:=zH hb
 rw [hrt]
 obtain ⟨p,hp⟩:∃ x,x=w.heap.size:=⟨_,rfl⟩
 obtain ⟨q,hq⟩:∃ x,x=w.heap.size+1:=⟨_,rfl⟩
 obtain ⟨g,hg⟩:∃ x,x=w.heap.size+1+1:=⟨_,rfl⟩
 rw [← hg,← hq,← hp] at HB
 clear hv hrow hrt hb
 go_in
 go_upto_region 1 with (fail)
 rw [← hW]
 rw [← hg]
 rw [← hq]
 rw [← hp]
 clear hW hp hq hg
 obtain ⟨e0,e1,e2,l1⟩:=zC3 HB.out.g1
 obtain ⟨hcc,hff,l2⟩:=zC HB.out.g2
 have k0:=zk hcc 0
 have k1:=zk hcc 1
 have f0:=hff 0;have f1:=hff 1
 clear hcc hff
 obtain ⟨hcc,hff,l3⟩:=zC HB.out.g3
 have k2:=zk hcc 0
 have k3:=zk hcc 1
 have f2:=hff 0;have f3:=hff 1
 clear hcc hff
 have n1:q≠g:=by have:=HB.out.pq;omega
 have n2:q≠g+1:=by have:=HB.out.pq;omega
 have n3:g≠q:=by have:=HB.out.pq;omega
 have n4:g+1≠q:=by have:=HB.out.pq;omega
 go_upto_region 2 with (fail)
 go_region_held3 (fun w'=>w'.cell? ⟨q,1,none⟩=some (iV n)∧w'.cell? ⟨q,2,none⟩=some (iV d)) (first|exact ⟨e1,e2⟩|go_keep) (fail)
 all_goals
  (go_wp2_with (fail)
   obtain ⟨kx,kg,kh⟩:=two_res HB.out.low HB.out.ge HB.out.g2 HB.out.g3 (iV n) (iV d) (iV n) (iV d)
   refine bodyPost_ret (v:=.tuple #[rv (n,d),rv (n,d),iV 0]) (results_cct (by rfl) _ _ g (g+1) 30 _ _ _ _ _ (by rfl) (by rfl) (by rfl) kg kh Tryz.underlying30 (by kernel_rfl) (by kernel_rfl)) rfl ?_
   exact ⟨_,_,_,rfl,ho,ho,kx.trans (Ext.drew (Ext.refl _))⟩)
theorem interval_name (r:TnR) (cs:List Cr) (nm:ByteArray) (w:World) (v:Value) (h:SR cellsCr 5 w (slV r.cs) cs) (hk:TOk r cs) (hv:Rd All w (nameE nm) v):Calls Tryz.prog 58 #[.agg (tenC r),v] w (EndP w):=by
 obtain ⟨base,cap,rfl⟩:=leaf_shape hv
 have HBD:=zH (fun s wz (hz:Ext w wz)=>bounds_any r cs s wz (h.ext hz) hk)
 have HOF:=zH (fun n wz=>refOf_any n wz)
 obtain ⟨row,hrow⟩:∃ row,row=(tenC r).toList:=⟨_,rfl⟩
 have hrt:tenC r=row.toArray:=by rw [hrow]
 have hrs:row.length=20:=by rw [hrow];rfl
 obtain ⟨W,hW,hb⟩:=four_box (w:=w) (row:=row) (f0:=.string nameB) (f1:=iV 0) (f2:=iV 0) (f3:=.string nm) (f4:=.slice base 0 cap)
 have HB:=zH hb
 rw [hrt]
 obtain ⟨p,hp⟩:∃ x,x=w.heap.size:=⟨_,rfl⟩
 obtain ⟨q,hq⟩:∃ x,x=w.heap.size+1:=⟨_,rfl⟩
 obtain ⟨g,hg⟩:∃ x,x=w.heap.size+1+1:=⟨_,rfl⟩
 rw [← hg,← hq,← hp] at HB
 rw [hrt] at HBD
 clear hv hrow hrt hb h hk
 go_in
 go_upto_region 1 with (fail)
 rw [← hW]
 rw [← hg]
 rw [← hq]
 rw [← hp]
 clear hW hp hq hg
 obtain ⟨hcc,-,l1⟩:=zC HB.out.g1
 have e0:=zk hcc 0
 have e2:=zk hcc 3
 clear hcc
 have HRG:Hid (W.rangeAt p 0 row):=zH (range_of HB.out.g0 0 row (fun j v hv=>by simpa using hv))
 go_upto_region 5 with (first
  |(refine wpList_load_mid rfl 39 (.tmp 2) rfl p 0 (by rfl) row _ HRG.out Tryz.underlying39 rfl (by rw [hrs];kernel_rfl) ?_)
  |(go_at_call 59;(with_reducible refine (HBD.out _ _ HB.out.low).mono ?_);rintro e w1 ⟨lo,hi,b,rfl,hlo,hhi,hx1⟩;have HB1:=zH (HB.out.ext hx1);clear hx1))
 clear e0 e2 l1
 obtain ⟨hcc,hff,l2⟩:=zC HB1.out.g2
 have k0:=zk hcc 0
 have k1:=zk hcc 1
 have f0:=hff 0;have f1:=hff 1
 clear hcc hff
 obtain ⟨hcc,hff,l3⟩:=zC HB1.out.g3
 have k2:=zk hcc 0
 have k3:=zk hcc 1
 have f2:=hff 0;have f3:=hff 1
 clear hcc hff
 have n5:g≠g+1:=by omega
 cases b with
 | false=>
  go_wp2_with (fail)
  obtain ⟨kx,kg,kh⟩:=two_res HB1.out.low HB1.out.ge HB1.out.g2 HB1.out.g3 (iV 0) (iV 0) (iV 0) (iV 0)
  refine bodyPost_ret (v:=.tuple #[rv (0,0),rv (0,0),iV 13]) (results_cct (by rfl) _ _ g (g+1) 30 _ _ _ _ _ (by rfl) (by rfl) (by rfl) kg kh Tryz.underlying30 (by kernel_rfl) (by kernel_rfl)) rfl ?_
  exact ⟨_,_,_,rfl,OkR.zero,OkR.zero,kx⟩
 | true=>
  by_cases hgt:hi < lo
  ·go_wp2_with (fail)
   obtain ⟨kx,kg,kh⟩:=two_res HB1.out.low HB1.out.ge HB1.out.g2 HB1.out.g3 (iV 0) (iV 0) (iV 0) (iV 0)
   refine bodyPost_ret (v:=.tuple #[rv (0,0),rv (0,0),iV 16]) (results_cct (by rfl) _ _ g (g+1) 30 _ _ _ _ _ (by rfl) (by rfl) (by rfl) kg kh Tryz.underlying30 (by kernel_rfl) (by kernel_rfl)) rfl ?_
   exact ⟨_,_,_,rfl,OkR.zero,OkR.zero,kx⟩
  ·have HLO:=zH hlo;have HHI:=zH hhi
   clear hlo hhi k0 k1 k2 k3 f0 f1 f2 f3 l2 l3
   go_wp2_with (go_at_call 28;first
    |((with_reducible refine (HOF.out _ w1).mono ?_);rintro e w2 ⟨rfl,hx⟩;have HB2:=zH (HB1.out.ext hx);clear hx)
    |((with_reducible refine (HOF.out _ w2).mono ?_);rintro e w3 ⟨rfl,hx⟩;have HB3:=zH (HB2.out.ext hx);clear hx
      obtain ⟨hcc,hff,l2⟩:=zC HB3.out.g2
      have k0:=zk hcc 0
      have k1:=zk hcc 1
      have f0:=hff 0;have f1:=hff 1
      clear hcc hff
      obtain ⟨hcc,hff,l3⟩:=zC HB3.out.g3
      have k2:=zk hcc 0
      have k3:=zk hcc 1
      have f2:=hff 0;have f3:=hff 1
      clear hcc hff
      skip))
   obtain ⟨kx,kg,kh⟩:=two_res HB3.out.low HB3.out.ge HB3.out.g2 HB3.out.g3 (iV lo) (iV 1) (iV hi) (iV 1)
   refine bodyPost_ret (v:=.tuple #[rv (lo,1),rv (hi,1),iV 0]) (results_cct (by rfl) _ _ g (g+1) 30 _ _ _ _ _ (by rfl) (by rfl) (by rfl) kg kh Tryz.underlying30 (by kernel_rfl) (by kernel_rfl)) rfl ?_
   exact ⟨_,_,_,rfl,OkR.int HLO.out,OkR.int HHI.out,kx⟩
end Go.Proofs.YteomcpplajeidaaGreat
