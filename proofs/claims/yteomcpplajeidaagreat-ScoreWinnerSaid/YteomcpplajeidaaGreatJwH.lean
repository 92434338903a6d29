/-
  Lemmas of this claim (JwH). Nothing is asked.
-/
import Derived.Test.YteomcpplajeidaaGreatJwG
import Derived.Test.YteomcpplajeidaaGreatBase
import Derived.Lib.Strings
import Derived.Lib.Slices
import Derived.Lib.Small
import Derived.Lib.Walk
import Derived.Lib.BitFns
import Derived.Test.YteomcpplajeidaaGreatJwA
import Derived.Deep.CutBlock
set_option linter.unusedVariables false
set_option linter.unusedSimpArgs false
set_option maxRecDepth 100000
set_option maxHeartbeats 40000000
namespace Go.Proofs.YteomcpplajeidaaGreat
open Go.RowKit
theorem value_op3 (S:Nat→Prop) (op:ByteArray) (n:Int×Int) (nm:ByteArray) (ta tb:Ex) (h0:(op.toList == [110,117,109])=false) (h:(op.toList == [110,97,109,101])=false) (hi:¬ opIx op = -1)
 (vs:Vals) (w:World) (v sl:Value) (hv:Rd S w (.mk op n nm [ta,tb]) v) (hs:VRd S w vs sl) (ra rb:Except Int (Int×Int))
 (ia:∀ (w:World) (v sl:Value),Rd S w ta v→VRd S w vs sl→Calls Tryz.prog 90 #[v,sl] w fun e w'=>e=endE ra∧Ext w w')
 (ib:∀ (w:World) (v sl:Value),Rd S w tb v→VRd S w vs sl→Calls Tryz.prog 90 #[v,sl] w fun e w'=>e=endE rb∧Ext w w') (x y:Int×Int) (hra:ra=.ok x) (hrb:rb=.ok y) (r:(Int×Int)×Int)
 (hap:∀ w,Calls Tryz.prog 138 #[.agg #[.string (opNm (opIx op).toNat),.func (.func (opFn (opIx op).toNat)) #[] #[]],rv x,rv y] w fun e w'=>e=.returned (rev r)∧Ext w w') (E0:Ending) (HE:Hid (endE (appE r)=E0)) :
 Calls Tryz.prog 90 #[v,sl] w fun e w'=>e=E0∧Ext w w':=by
 subst hra hrb
 unfold Rd at hv
 obtain ⟨base,cap,rfl,-,-,hr⟩:=hv
 rcases hr with hr|⟨b,rfl,-,hl⟩
 ·cases hr
 obtain ⟨c,hc,hra⟩:=hl.get 0 (by simp)
 obtain ⟨d,hd,hrb⟩:=hl.get 1 (by simp)
 obtain ⟨oa,a1,a2,na,ba,la,ca,c0,c1,c2,c3,c4,ea⟩:=hra.shape
 obtain ⟨ob,b1,b2,nb,bb,lb,cb,d0,d1,d2,d3,d4,eb⟩:=hrb.shape
 simp only [List.getElem_cons_zero,List.getElem_cons_succ] at hra hrb
 rw [ea] at hra
 rw [eb] at hrb
 have hbl:b < w.heap.size:=zB w _ (hc 0 (by decide))
 have k0:=(hc 0 (by decide)).trans (congrArg some c0)
 have k1:=(hc 1 (by decide)).trans (congrArg some c1)
 have k2:=(hc 2 (by decide)).trans (congrArg some c2)
 have k3:=(hc 3 (by decide)).trans (congrArg some c3)
 have k4:=(hc 4 (by decide)).trans (congrArg some c4)
 have k5:=(hd 0 (by decide)).trans (congrArg some d0)
 have k6:=(hd 1 (by decide)).trans (congrArg some d1)
 have k7:=(hd 2 (by decide)).trans (congrArg some d2)
 have k8:=(hd 3 (by decide)).trans (congrArg some d3)
 have k9:=(hd 4 (by decide)).trans (congrArg some d4)
 simp only [Nat.zero_add,Nat.zero_mul,Nat.add_zero,Nat.one_mul,Nat.reduceAdd] at k0 k1 k2 k3 k4 k5 k6 k7 k8 k9
 have IA:=zH (fun w' (hw:Ext w w')=>ia w' _ sl (Rd.ext hw hra) (hs.ext hw))
 have IB:=zH (fun w' (hw:Ext w w')=>ib w' _ sl (Rd.ext hw hrb) (hs.ext hw))
 have HF:=zH (find_some op hi)
 clear hc hd c0 c1 c2 c3 c4 d0 d1 d2 d3 d4 ea eb hra hrb hl ia ib hs
 have g1:b < w.heap.size+1:=by omega
 have g2:b < w.heap.size+1+1:=by omega
 simp only [endE] at IA IB
 obtain ⟨x1,x2⟩:=x
 obtain ⟨y1,y2⟩:=y
 obtain ⟨⟨u1,u2⟩,rf⟩:=r
 have HA:=zH hap
 clear hap
 go_in
 go_wp2_with (first
  |(go_at_call 137;(with_reducible refine (HF.out _).mono ?_);rintro e w1 ⟨rfl,hb⟩;obtain ⟨hc,hf⟩:=hb.cells;have hz:=hb.size;simp at hz;have z1:w.heap.size < w1.heap.size:=(by omega);have z2:b < w1.heap.size:=(by omega))
  |(go_at_call 90;(with_reducible refine (IA.out _ xt).mono ?_);rintro e w2 ⟨rfl,hb2⟩;obtain ⟨hc2,hf2⟩:=hb2.cells;have hz2:=hb2.size;simp at hz2;have z3:w.heap.size < w1.heap.size+1:=(by omega);have z4:b < w1.heap.size+1:=(by omega);have z5:w.heap.size < w2.heap.size:=(by omega);have z6:b < w2.heap.size:=(by omega);have z7:w1.heap.size < w2.heap.size:=(by omega);have z8:w.heap.size < w2.heap.size+1:=(by omega);have z9:b < w2.heap.size+1:=(by omega);have z10:w1.heap.size < w2.heap.size+1:=(by omega)))
 have hx1:Ext w (w2.alloc (.cells #[iV x1,iV x2] 30)):=xt
 have v0:w.heap.size+1 < w1.heap.size:=by omega
 have v1:w.heap.size+1 < w2.heap.size:=by omega
 have v2:w.heap.size+1 < w1.heap.size+1:=by omega
 have q0:(w2.alloc (.cells #[iV x1,iV x2] 30)).cell? ⟨w1.heap.size,0,none⟩=some (.string (opNm (opIx op).toNat)):=by go_simp
 have q1:(w2.alloc (.cells #[iV x1,iV x2] 30)).cell? ⟨w1.heap.size,1,none⟩=some (.func (.func (opFn (opIx op).toNat)) #[] #[]):=by go_simp
 have q2:(w2.alloc (.cells #[iV x1,iV x2] 30)).cell? ⟨w2.heap.size,0,none⟩=some (iV x1):=by go_simp
 have q3:(w2.alloc (.cells #[iV x1,iV x2] 30)).cell? ⟨w2.heap.size,1,none⟩=some (iV x2):=by go_simp
 have q4:(w2.alloc (.cells #[iV x1,iV x2] 30)).cell? ⟨w.heap.size,4,none⟩=some (.slice (some ⟨b,0,none⟩) 2 cap):=by go_simp
 have q5:(w2.alloc (.cells #[iV x1,iV x2] 30)).cell? ⟨b,5,none⟩=some (.string ob):=by go_simp
 have q6:(w2.alloc (.cells #[iV x1,iV x2] 30)).cell? ⟨b,6,none⟩=some (iV b1):=by go_simp
 have q7:(w2.alloc (.cells #[iV x1,iV x2] 30)).cell? ⟨b,7,none⟩=some (iV b2):=by go_simp
 have q8:(w2.alloc (.cells #[iV x1,iV x2] 30)).cell? ⟨b,8,none⟩=some (.string nb):=by go_simp
 have q9:(w2.alloc (.cells #[iV x1,iV x2] 30)).cell? ⟨b,9,none⟩=some (.slice bb lb cb):=by go_simp
 have q10:(w2.alloc (.cells #[iV x1,iV x2] 30)).cell? ⟨w.heap.size+1,0,none⟩=some (iV 0):=by go_simp
 have q11:(w2.alloc (.cells #[iV x1,iV x2] 30)).cell? ⟨w.heap.size+1,1,none⟩=some (iV 0):=by go_simp
 have r0:(w2.alloc (.cells #[iV x1,iV x2] 30)).frozen? ⟨w.heap.size+1,0,none⟩=false:=by go_simp
 have r1:(w2.alloc (.cells #[iV x1,iV x2] 30)).frozen? ⟨w.heap.size+1,1,none⟩=false:=by go_simp
 have s1:w.heap.size+1 < (w2.alloc (.cells #[iV x1,iV x2] 30)).heap.size:=by have:=hx1.size;simp;omega
 have s2:w.heap.size < (w2.alloc (.cells #[iV x1,iV x2] 30)).heap.size:=by omega
 have s3:w1.heap.size < (w2.alloc (.cells #[iV x1,iV x2] 30)).heap.size:=by simp;omega
 have s4:w2.heap.size < (w2.alloc (.cells #[iV x1,iV x2] 30)).heap.size:=by simp
 have s5:b < (w2.alloc (.cells #[iV x1,iV x2] 30)).heap.size:=by omega
 clear hc hf hc2 hf2 k0 k1 k2 k3 k4 k5 k6 k7 k8 k9 z1 z2 z3 z4 z5 z6 z7 z8 z9 z10 hz hz2 hb hb2 g1 g2 hbl v0 v1 v2 IA HF
 generalize (w2.alloc (.cells #[iV x1,iV x2] 30))=W at *
 generalize w1.heap.size=b6 at *
 generalize w2.heap.size=b8 at *
 clear w1 w2
 refine Rr.wp_regionE [11] [(0,.y),(1,.y),(2,.y),(3,.y),(4,.y),(5,.y),(6,.y),(7,.y),(8,.y),(9,.y),(10,.y),(11,.y),(12,.m)] (fun _=>(.cells #[iV 0,iV 0] 30,Rg.ptr)) (fun c a d v w h=>by have h':_∧_:=h;exact ⟨(Rr.put_defers a d v).symm.trans h'.1,h'.2⟩) (by kernel_rfl) (by kernel_rfl) ?_
 refine Rr.y2 (h:=fun wz hw=>up_load117 (by rfl) ((hw.cells.1 _ _ s3).trans q0) ((hw.cells.1 _ _ s3).trans q1)) (k:=?_)
 refine Rr.y2 (h:=fun wz hw=>up_load26 (by rfl) ((hw.cells.1 _ _ s4).trans q2) ((hw.cells.1 _ _ s4).trans q3)) (k:=?_)
 iterate 3
  refine Rr.y1 ?_
 refine Rr.y2 (h:=fun wz hw=>up_load29 (by rfl) ((hw.cells.1 _ _ s5).trans q5) ((hw.cells.1 _ _ s5).trans q6) ((hw.cells.1 _ _ s5).trans q7) ((hw.cells.1 _ _ s5).trans q8) ((hw.cells.1 _ _ s5).trans q9)) (k:=?_)
 refine Rr.y1 ?_
 refine Rr.y3 (fun wz hw=>IB.out _ xt) ?_
 refine Rr.y3 (fun wz hw=>HA.out _) ?_
 iterate 3
  refine Rr.y1 ?_
 refine Rr.wr_m (by simp only [ga,gb,gc];rfl) (by rfl) (fun wz=>by go_simp) (fun p hp=>?_)
 simp only [zp]
 refine Rr.wr_nil ?_
 intro wy hy hh
 obtain ⟨-,hp1,hp2⟩:=hh _ zM
 obtain ⟨hcp,hfp,hpl⟩:=zC hp2
 obtain ⟨hcy,hfy⟩:=hy.cells
 simp only [gg,gh,gi,gj,Nat.reduceAdd]
 have hpw:w.heap.size≤p:=by omega
 have hxy:Ext w wy:=hx1.trans hy
 by_cases hrf:rf=0
 ·subst hrf
  go_wp2
  have g0:=(hcy _ _ s1).trans q10
  have g1:=(hcy _ _ s1).trans q11
  have n1:¬ p=w.heap.size+1:=by omega
  have n2:¬ w.heap.size+1=p:=by omega
  exact bodyPost_ret (v:=rv (u1,u2)) (by simp [results,Tryz.results90,go_sem,g0,g1,n1,n2]) rfl ⟨by rw [← HE.out];rfl,xt⟩
 ·go_wp2
  exact ⟨rfl,by rw [← HE.out,appE,if_neg hrf];rfl,xt⟩
end Go.Proofs.YteomcpplajeidaaGreat
namespace Go.Proofs.YteomcpplajeidaaGreat
namespace Dv
def Q (a b u l:Int):Int:=(u * 4294967296+l) / (a * 4294967296+b)
structure Hyp (a b u l:Int):Prop where
 a1:2147483648≤a
 a2:a < 4294967296
 b1:0≤b
 b2:b < 4294967296
 u1:0≤u
 u2:u < a * 4294967296+b
 l1:0≤l
 l2:l < 4294967296
structure Inv (a b u l q r:Int):Prop where
 eq:q * a+r=u
 r0:0≤r
 ge:Q a b u l≤q
 le:q≤4294967297
section
variable {a b u l q r:Int}
theorem Hyp.pos (h:Hyp a b u l):0 < a * 4294967296+b:=by have:=h.a1;have:=h.b1;omega
theorem Hyp.nn (h:Hyp a b u l):0≤Q a b u l:=Int.ediv_nonneg (by have:=h.u1;have:=h.l1;omega) (by have:=h.pos;omega)
theorem Hyp.mul_le (h:Hyp a b u l):Q a b u l * (a * 4294967296+b)≤u * 4294967296+l:=Int.ediv_mul_le _ (by have:=h.pos;omega)
theorem Hyp.lt (h:Hyp a b u l):Q a b u l < 4294967296:=by
 refine (Int.ediv_lt_iff_lt_mul h.pos).2 ?_
 have:=h.u2;have:=h.l2
 omega
theorem dist (q a b:Int):q * (a * 4294967296+b)=q * a * 4294967296+q * b:=by
 rw [Int.mul_add,Int.mul_assoc]
theorem Inv.start (h:Hyp a b u l):Inv a b u l (u / a) (u - u / a * a):=by
 have ha:0 < a:=by have:=h.a1;omega
 refine ⟨by omega,?_,?_,?_⟩
 ·have:=Int.ediv_mul_le u (b:=a) (by omega)
  omega
 ·refine (Int.le_ediv_iff_mul_le ha).2 ?_
  have h1:=h.mul_le
  have h2:=Int.mul_nonneg h.nn h.b1
  have h3:=h.l2
  rw [dist] at h1
  generalize Q a b u l * a=P at *
  generalize Q a b u l * b=M at *
  omega
 ·have h1:u / a < 4294967298:=by
   refine (Int.ediv_lt_iff_lt_mul ha).2 ?_
   have:=h.u2;have:=h.b2;have:=h.a1
   omega
  omega
theorem start_lt (h:Hyp a b u l):u - u / a * a < 4294967296:=by
 have ha:0 < a:=by have:=h.a1;omega
 have:=Int.lt_ediv_add_one_mul_self u ha
 rw [Int.add_mul] at this
 have:=h.a2
 omega
theorem Inv.down (h:Hyp a b u l) (i:Inv a b u l q r) (hc:4294967296≤q∨4294967296 * r+l < q * b):Inv a b u l (q - 1) (r+a):=by
 have e:(q - 1) * a=q * a - a:=by rw [Int.sub_mul,Int.one_mul]
 have i1:=i.eq
 refine ⟨by rw [e];omega,by have:=i.r0;have:=h.a1;omega,?_,by have:=i.le;omega⟩
 have:Q a b u l < q:=by
  rcases hc with hc|hc
  ·have:=h.lt
   omega
  ·refine (Int.ediv_lt_iff_lt_mul h.pos).2 ?_
   rw [dist]
   generalize q * a=P at *
   generalize q * b=M at *
   omega
 omega
theorem Inv.stop (h:Hyp a b u l) (i:Inv a b u l q r) (hc:q * b≤4294967296 * r+l):q=Q a b u l:=by
 have i1:=i.eq
 have i2:=i.ge
 have:q≤Q a b u l:=by
  refine (Int.le_ediv_iff_mul_le h.pos).2 ?_
  rw [dist]
  generalize q * a=P at *
  generalize q * b=M at *
  omega
 omega
theorem mul_bd (h:Hyp a b u l) (h0:0≤q) (hq:q≤4294967296):0≤q * b∧q * b≤18446744069414584320:=by
 refine ⟨Int.mul_nonneg h0 h.b1,?_⟩
 have h1:=Int.mul_le_mul_of_nonneg_right hq h.b1
 have:=h.b2
 omega
theorem Inv.leave (h:Hyp a b u l) (i:Inv a b u l q r) (hq:q≤4294967296) (hr:4294967296≤r):q=Q a b u l:=by
 have h0:0≤q:=by have:=i.ge;have:=h.nn;omega
 have:=mul_bd h h0 hq
 have:=h.l1
 exact i.stop h (by omega)
theorem rest (h:Hyp a b u l):u * 4294967296+l - Q a b u l * (a * 4294967296+b)=(u * 4294967296+l) % (a * 4294967296+b):=by
 have:=Int.emod_add_mul_ediv (u * 4294967296+l) (a * 4294967296+b)
 rw [Int.mul_comm (a * 4294967296+b)] at this
 show _ - (u * 4294967296+l) / (a * 4294967296+b) * (a * 4294967296+b)=_
 omega
theorem rest_bd (h:Hyp a b u l):0≤u * 4294967296+l - Q a b u l * (a * 4294967296+b)∧u * 4294967296+l - Q a b u l * (a * 4294967296+b) < a * 4294967296+b:=by
 rw [rest h]
 exact ⟨Int.emod_nonneg _ (by have:=h.pos;omega),Int.emod_lt_of_pos _ h.pos⟩
end
theorem two {a b u l1 l0:Int} (h:Hyp a b u l1) (k:Hyp a b (u * 4294967296+l1 - Q a b u l1 * (a * 4294967296+b)) l0) :
 Q a b u l1 * 4294967296+Q a b (u * 4294967296+l1 - Q a b u l1 * (a * 4294967296+b)) l0=(u * 18446744073709551616+(l1 * 4294967296+l0)) / (a * 4294967296+b) ∧
 (u * 4294967296+l1 - Q a b u l1 * (a * 4294967296+b)) * 4294967296+l0 - Q a b (u * 4294967296+l1 - Q a b u l1 * (a * 4294967296+b)) l0 * (a * 4294967296+b)=(u * 18446744073709551616+(l1 * 4294967296+l0)) % (a * 4294967296+b):=by
 have hp:=h.pos
 have kb:=rest_bd k
 generalize hR:u * 4294967296+l1 - Q a b u l1 * (a * 4294967296+b)=R at *
 generalize hq1:Q a b u l1=q1 at *
 generalize hq0:Q a b R l0=q0 at *
 generalize a * 4294967296+b=y at *
 have e1:(q1 * 4294967296+q0) * y=q1 * y * 4294967296+q0 * y:=by
  rw [Int.add_mul,Int.mul_right_comm]
 have e2:u * 18446744073709551616+(l1 * 4294967296+l0)=(R * 4294967296+l0 - q0 * y)+y * (q1 * 4294967296+q0):=by
  rw [Int.mul_comm y,e1]
  generalize q1 * y=A at *
  generalize q0 * y=B at *
  omega
 rw [e2]
 exact ⟨by rw [Int.add_mul_ediv_left _ _ (by omega),Int.ediv_eq_zero_of_lt kb.1 kb.2];omega,by rw [Int.add_mul_emod_self_left,Int.emod_eq_of_lt kb.1 kb.2]⟩
theorem whole {hi lo y c d:Int} (hc:0 < c) (hd:c * d=18446744073709551616) (hd0:0 < d) (h0:0 < y) :
 ((hi * c+lo / d) * 18446744073709551616+lo * c % 18446744073709551616) / (y * c)=(hi * 18446744073709551616+lo) / y ∧
 ((hi * c+lo / d) * 18446744073709551616+lo * c % 18446744073709551616) % (y * c) / c=(hi * 18446744073709551616+lo) % y:=by
 have e1:lo * c / 18446744073709551616=lo / d:=by
  rw [← hd,Int.mul_comm lo c]
  exact Int.mul_ediv_mul_of_pos _ _ hc
 have e2:(hi * c+lo / d) * 18446744073709551616+lo * c % 18446744073709551616=c * (hi * 18446744073709551616+lo):=by
  rw [← e1,Int.mul_add,Int.add_mul]
  have:=Int.emod_add_mul_ediv (lo * c) 18446744073709551616
  rw [Int.mul_comm c lo,← Int.mul_assoc,Int.mul_comm c hi]
  omega
 rw [e2,Int.mul_comm y c]
 exact ⟨Int.mul_ediv_mul_of_pos _ _ hc,by rw [Int.mul_emod_mul_of_pos _ _ hc,Int.mul_ediv_cancel_left _ (by omega)]⟩
end Dv
end Go.Proofs.YteomcpplajeidaaGreat

namespace Go.Proofs.YteomcpplajeidaaGreat
open Go.RowKit
theorem len8_get (i : Int) (h0 : 0 ≤ i) (h1 : i ≤ 255) (h : i.toNat < Lib.len8tab.size) : ((Lib.len8tab[i.toNat]'h).toNat : Int) = (Lib.bitLen i.toNat : Int) := by
 rw [← Lib.len8_of i h0 h1]
 simp only [Lib.len8,ByteArray.getElem?_lt' _ _ h,Option.getD_some]
theorem fin_sum {A B k:Nat} (s:A=k+B) (l:B≤8) (hk:k≤56):wrap64 ((k:Int)+wrap64 (B:Int))=(A:Int):=by
 simp only [wrap64]
 omega
theorem fin_z {A:Nat} (l:A≤8):wrap64 (wrap64 (A:Int))=(A:Int):=by
 simp only [wrap64]
 omega
theorem fin_56 (x : Int) (h0 : 0 ≤ x) (h1 : x ≤ 18446744073709551615) (h2 : 72057594037927936 ≤ x) (h3 : x / 4294967296 / 65536 / 256 ≤ 255) (h : (x / 4294967296 / 65536 / 256).toNat < Lib.len8tab.size) : wrap64 (56 + wrap64 (Lib.len8tab[(x / 4294967296 / 65536 / 256).toNat]'h).toNat) = (Lib.bitLen x.toNat : Int) := by
 have l:=Lib.bitLen_le8' (x / 4294967296 / 65536 / 256) (by omega) (by omega)
 have hg:=len8_get (x / 4294967296 / 65536 / 256) (by omega) (by omega) h
 have e:(x / 4294967296 / 65536 / 256).toNat=x.toNat / 72057594037927936:=by omega
 have s:=Lib.bitLen_shift56 x.toNat (by omega) (by omega)
 rw [hg,e]
 rw [e] at l
 exact fin_sum s l (by decide)
theorem fin_48 (x : Int) (h0 : 0 ≤ x) (h1 : x ≤ 18446744073709551615) (h2 : 281474976710656 ≤ x) (h3 : x / 4294967296 / 65536 ≤ 255) (h : (x / 4294967296 / 65536).toNat < Lib.len8tab.size) : wrap64 (48 + wrap64 (Lib.len8tab[(x / 4294967296 / 65536).toNat]'h).toNat) = (Lib.bitLen x.toNat : Int) := by
 have l:=Lib.bitLen_le8' (x / 4294967296 / 65536) (by omega) (by omega)
 have hg:=len8_get (x / 4294967296 / 65536) (by omega) (by omega) h
 have e:(x / 4294967296 / 65536).toNat=x.toNat / 281474976710656:=by omega
 have s:=Lib.bitLen_shift48 x.toNat (by omega) (by omega)
 rw [hg,e]
 rw [e] at l
 exact fin_sum s l (by decide)
theorem fin_40 (x : Int) (h0 : 0 ≤ x) (h1 : x ≤ 18446744073709551615) (h2 : 1099511627776 ≤ x) (h3 : x / 4294967296 / 256 ≤ 255) (h : (x / 4294967296 / 256).toNat < Lib.len8tab.size) : wrap64 (40 + wrap64 (Lib.len8tab[(x / 4294967296 / 256).toNat]'h).toNat) = (Lib.bitLen x.toNat : Int) := by
 have l:=Lib.bitLen_le8' (x / 4294967296 / 256) (by omega) (by omega)
 have hg:=len8_get (x / 4294967296 / 256) (by omega) (by omega) h
 have e:(x / 4294967296 / 256).toNat=x.toNat / 1099511627776:=by omega
 have s:=Lib.bitLen_shift40 x.toNat (by omega) (by omega)
 rw [hg,e]
 rw [e] at l
 exact fin_sum s l (by decide)
theorem fin_32 (x : Int) (h0 : 0 ≤ x) (h1 : x ≤ 18446744073709551615) (h2 : 4294967296 ≤ x) (h3 : x / 4294967296 ≤ 255) (h : (x / 4294967296).toNat < Lib.len8tab.size) : wrap64 (32 + wrap64 (Lib.len8tab[(x / 4294967296).toNat]'h).toNat) = (Lib.bitLen x.toNat : Int) := by
 have l:=Lib.bitLen_le8' (x / 4294967296) (by omega) (by omega)
 have hg:=len8_get (x / 4294967296) (by omega) (by omega) h
 have e:(x / 4294967296).toNat=x.toNat / 4294967296:=by omega
 have s:=Lib.bitLen_shift32 x.toNat (by omega) (by omega)
 rw [hg,e]
 rw [e] at l
 exact fin_sum s l (by decide)
theorem fin_24 (x : Int) (h0 : 0 ≤ x) (h1 : x ≤ 18446744073709551615) (h2 : 16777216 ≤ x) (h3 : x / 65536 / 256 ≤ 255) (h : (x / 65536 / 256).toNat < Lib.len8tab.size) : wrap64 (24 + wrap64 (Lib.len8tab[(x / 65536 / 256).toNat]'h).toNat) = (Lib.bitLen x.toNat : Int) := by
 have l:=Lib.bitLen_le8' (x / 65536 / 256) (by omega) (by omega)
 have hg:=len8_get (x / 65536 / 256) (by omega) (by omega) h
 have e:(x / 65536 / 256).toNat=x.toNat / 16777216:=by omega
 have s:=Lib.bitLen_shift24 x.toNat (by omega) (by omega)
 rw [hg,e]
 rw [e] at l
 exact fin_sum s l (by decide)
theorem fin_16 (x : Int) (h0 : 0 ≤ x) (h1 : x ≤ 18446744073709551615) (h2 : 65536 ≤ x) (h3 : x / 65536 ≤ 255) (h : (x / 65536).toNat < Lib.len8tab.size) : wrap64 (16 + wrap64 (Lib.len8tab[(x / 65536).toNat]'h).toNat) = (Lib.bitLen x.toNat : Int) := by
 have l:=Lib.bitLen_le8' (x / 65536) (by omega) (by omega)
 have hg:=len8_get (x / 65536) (by omega) (by omega) h
 have e:(x / 65536).toNat=x.toNat / 65536:=by omega
 have s:=Lib.bitLen_shift16 x.toNat (by omega) (by omega)
 rw [hg,e]
 rw [e] at l
 exact fin_sum s l (by decide)
theorem fin_8 (x : Int) (h0 : 0 ≤ x) (h1 : x ≤ 18446744073709551615) (h2 : 256 ≤ x) (h3 : x / 256 ≤ 255) (h : (x / 256).toNat < Lib.len8tab.size) : wrap64 (8 + wrap64 (Lib.len8tab[(x / 256).toNat]'h).toNat) = (Lib.bitLen x.toNat : Int) := by
 have l:=Lib.bitLen_le8' (x / 256) (by omega) (by omega)
 have hg:=len8_get (x / 256) (by omega) (by omega) h
 have e:(x / 256).toNat=x.toNat / 256:=by omega
 have s:=Lib.bitLen_shift8 x.toNat (by omega) (by omega)
 rw [hg,e]
 rw [e] at l
 exact fin_sum s l (by decide)
theorem fin_0 (x : Int) (h0 : 0 ≤ x) (h3 : x ≤ 255) (h : x.toNat < Lib.len8tab.size) : wrap64 (wrap64 (Lib.len8tab[x.toNat]'h).toNat) = (Lib.bitLen x.toNat : Int) := by
 have l:=Lib.bitLen_le8' x (by omega) (by omega)
 have hg:=len8_get x (by omega) (by omega) h
 rw [hg]
 exact fin_z l
theorem Len64_any (x:Int) (w:World) (h0:0≤x) (h1:x≤18446744073709551615) :
 Calls Tryz.prog 117 #[.int .u64 x] w fun e w'=>e=.returned (iV (Lib.bitLen x.toNat))∧w' = w:=by
 go_in
 go_wp2
 all_goals first
  |(go_ret;refine ⟨congrArg Ending.returned (congrArg (Value.int IntKind.i64) ?_),rfl⟩)
  |(exfalso;have hs:=Lib.len8tab_size;omega)
 all_goals first
  |(with_reducible refine fin_56 x ?_ ?_ ?_ ?_ _;all_goals omega)
  |(with_reducible refine fin_48 x ?_ ?_ ?_ ?_ _;all_goals omega)
  |(with_reducible refine fin_40 x ?_ ?_ ?_ ?_ _;all_goals omega)
  |(with_reducible refine fin_32 x ?_ ?_ ?_ ?_ _;all_goals omega)
  |(with_reducible refine fin_24 x ?_ ?_ ?_ ?_ _;all_goals omega)
  |(with_reducible refine fin_16 x ?_ ?_ ?_ ?_ _;all_goals omega)
  |(with_reducible refine fin_8 x ?_ ?_ ?_ ?_ _;all_goals omega)
  |(with_reducible refine fin_0 x ?_ ?_ _;all_goals omega)
theorem bitLen_between:∀ (k x:Nat),x < 2 ^ k→k≤64→x≠0→∃ n,Lib.bitLen x=n+1∧2 ^ n≤x∧x < 2 ^ (n+1)
 | 0,x,h,_,h0=>by omega
 | k+1,x,h,hk,h0=>by
  have hx:x < 2 ^ 64:=Nat.lt_of_lt_of_le h (Nat.pow_le_pow_right (by decide) hk)
  have e:=Lib.bitLen_half x h0 hx
  by_cases h1:x / 2=0
  ·have hx1:x=1:=by omega
   subst hx1
   exact ⟨0,by decide,by decide,by decide⟩
  ·obtain ⟨n,hn,h2,h3⟩:=bitLen_between k (x / 2) (by rw [Nat.pow_succ] at h;omega) (by omega) h1
   refine ⟨n+1,by omega,?_,?_⟩
   ·rw [Nat.pow_succ];omega
   ·rw [Nat.pow_succ];omega
theorem lead_any (x:Int) (w:World) (h0:0 < x) (h1:x≤18446744073709551615) :
 ∃ s:Nat,s≤63∧9223372036854775808≤x * 2 ^ s∧x * 2 ^ s < 18446744073709551616∧Calls Tryz.prog 217 #[.int .u64 x] w fun e w'=>e=.returned (iV (s:Int))∧w' = w:=by
 obtain ⟨y,rfl⟩:=Int.eq_ofNat_of_zero_le (show 0≤x by omega)
 obtain ⟨n,hn,h2,h3⟩:=bitLen_between 64 y (by omega) (Nat.le_refl _) (by omega)
 have hn63:n≤63:=by
  rcases Nat.lt_or_ge 63 n with h|h
  ·have:2 ^ 64≤2 ^ n:=Nat.pow_le_pow_right (by decide) h
   omega
  ·exact h
 have e1:2 ^ n * 2 ^ (63 - n)=9223372036854775808:=by
  rw [← Nat.pow_add,show n+(63 - n)=63 by omega]
 have e2:2 ^ (n+1) * 2 ^ (63 - n)=18446744073709551616:=by
  rw [← Nat.pow_add,show n+1+(63 - n)=64 by omega]
 have k1:2 ^ n * 2 ^ (63 - n)≤y * 2 ^ (63 - n):=Nat.mul_le_mul_right _ h2
 have k2:y * 2 ^ (63 - n) < 2 ^ (n+1) * 2 ^ (63 - n):=Nat.mul_lt_mul_of_pos_right h3 (Nat.pow_pos (by decide))
 rw [e1] at k1
 rw [e2] at k2
 have ec:((y:Int) * 2 ^ (63 - n))=((y * 2 ^ (63 - n):Nat):Int):=by rw [Int.natCast_mul,Int.natCast_pow];rfl
 refine ⟨63 - n,by omega,by rw [ec];omega,by rw [ec];omega,?_⟩
 have HL:=zH (fun w=>Len64_any (y:Int) w (by omega) h1)
 rw [Int.toNat_natCast,hn] at HL
 have hnn:n+1≤64:=by omega
 clear k1 k2 e1 e2 h2 h3 ec hn
 go_in
 go_wp2_with (go_at_call 117;refine (HL.out _).mono ?_;rintro e w' ⟨rfl,rfl⟩)
 go_ret
 exact ⟨congrArg Ending.returned (congrArg (Value.int IntKind.i64) (by omega)),rfl⟩
namespace Dv
theorem maskZ (x:Int) (h0:0≤x) (h1:x < 18446744073709551616):bits .and .u64 x 4294967295=x % 4294967296:=by
 obtain ⟨n,rfl⟩:=Int.eq_ofNat_of_zero_le h0
 rw [M64.maskN n (by omega)]
 omega
theorem orZ (x z:Int) (s:Nat) (h0:0≤x) (hz:0≤z) (h1:x * 2 ^ s < 18446744073709551616) (h2:z < 2 ^ s) (h3:z < 18446744073709551616):bits .or .u64 (x * 2 ^ s) z=x * 2 ^ s+z:=by
 obtain ⟨n,rfl⟩:=Int.eq_ofNat_of_zero_le h0
 obtain ⟨m,rfl⟩:=Int.eq_ofNat_of_zero_le hz
 have e:(n:Int) * 2 ^ s=((n * 2 ^ s:Nat):Int):=by rw [Int.natCast_mul,Int.natCast_pow];rfl
 have e2:((2:Int) ^ s)=((2 ^ s:Nat):Int):=by rw [Int.natCast_pow];rfl
 rw [e2] at h2
 rw [e] at h1 ⊢
 rw [bits_or_u64_nat _ _ (by omega) (by omega),← Nat.shiftLeft_eq,← Nat.shiftLeft_add_eq_or_of_lt (by omega),Int.natCast_add]
theorem pow_ab {s:Nat} (hs:s≤63):((2:Int) ^ s) * 2 ^ (64 - s)=18446744073709551616:=by
 rw [← Int.pow_add,show s+(64 - s)=64 by omega];rfl
theorem pow_pos (s:Nat):(0:Int) < 2 ^ s:=Int.pow_pos (by decide)
theorem quoZ (x z:Int) (h0:0≤x) (h1:x < 18446744073709551616) (hz:1≤z):IntKind.u64.wrap (x.tdiv z)=x / z:=by
 have h2:=Int.ediv_le_self z h0
 have h3:=Int.ediv_nonneg h0 (show 0≤z by omega)
 rw [Int.tdiv_eq_ediv_of_nonneg h0,IntKind.wrap_u64]
 omega
theorem subZ {b l:Int} (U a:Int) (h:Hyp a b U l):IntKind.u64.wrap (U - IntKind.u64.wrap (U / a * a))=U - U / a * a:=by
 have i:=Inv.start h
 have h1:=start_lt h
 have h2:=i.r0
 simp only [IntKind.wrap_u64]
 omega
theorem restZ (U l M:Int) (h0:0≤U * 4294967296+l - M) (h1:U * 4294967296+l - M < 18446744073709551616) :
 IntKind.u64.wrap (IntKind.u64.wrap (IntKind.u64.wrap (U * 4294967296)+l) - IntKind.u64.wrap M)=U * 4294967296+l - M:=by
 simp only [IntKind.wrap_u64]
 omega
end Dv
theorem div_pos (hi lo y:Int) (w:World) (h1:0 < hi) (h2:hi < y) (h3:0≤lo) (h4:lo < 18446744073709551616) (h5:y < 18446744073709551616) :
 Calls Tryz.prog 215 #[.int .u64 hi,.int .u64 lo,.int .u64 y] w fun e w'=>e=.returned (.tuple #[.int .u64 ((hi * 18446744073709551616+lo) / y),.int .u64 ((hi * 18446744073709551616+lo) % y)])∧∃ n,w' = w.drewN n:=by
 have hy:¬ y=0:=by omega
 have hh:¬ hi=0:=by omega
 obtain ⟨s,hs,k1,k2,HL⟩:=lead_any y w (by omega) (by omega)
 have hsI:(s:Int)≤63:=by omega
 have HL:=zH HL
 have cpos:=Dv.pow_pos s
 have dpos:=Dv.pow_pos (64 - s)
 have cd:=Dv.pow_ab hs
 have hic:0≤hi * 2 ^ s:=Int.mul_nonneg (by omega) (by omega)
 have hiy:hi * 2 ^ s≤(y - 1) * 2 ^ s:=Int.mul_le_mul_of_nonneg_right (by omega) (by omega)
 rw [Int.sub_mul,Int.one_mul] at hiy
 have lod0:0≤lo / 2 ^ (64 - s):=Int.ediv_nonneg h3 (by omega)
 have lod1:lo / 2 ^ (64 - s) < 2 ^ s:=(Int.ediv_lt_iff_lt_mul dpos).2 (by rw [cd];omega)
 have lod2:lo / 2 ^ (64 - s)≤lo:=Int.ediv_le_self _ h3
 obtain ⟨W1,W2⟩:=Dv.whole (hi:=hi) (lo:=lo) (y:=y) cpos cd dpos (by omega)
 have eY:=Dv.maskZ (y * 2 ^ s) (by omega) k2
 have eH:IntKind.u64.wrap (hi * 2 ^ s)=hi * 2 ^ s:=by rw [IntKind.wrap_u64];omega
 have eU:=Dv.orZ hi (lo / 2 ^ (64 - s)) s (by omega) lod0 (by omega) lod1 (by omega)
 have eL:IntKind.u64.wrap (lo * 2 ^ s)=lo * 2 ^ s % 18446744073709551616:=by rw [IntKind.wrap_u64]
 have eM:=Dv.maskZ (lo * 2 ^ s % 18446744073709551616) (Int.emod_nonneg _ (by decide)) (Int.emod_lt_of_pos _ (by decide))
 have yq:∃ Y,Y=y * 2 ^ s:=⟨_,rfl⟩
 obtain ⟨Y,hY⟩:=yq
 have uq:∃ U,U=hi * 2 ^ s+lo / 2 ^ (64 - s):=⟨_,rfl⟩
 obtain ⟨U,hU⟩:=uq
 have lq:∃ L,L=lo * 2 ^ s % 18446744073709551616:=⟨_,rfl⟩
 obtain ⟨L,hL⟩:=lq
 have hL0:0≤L:=by rw [hL];exact Int.emod_nonneg _ (by decide)
 have hL1:L < 18446744073709551616:=by rw [hL];exact Int.emod_lt_of_pos _ (by decide)
 have EY:=zH eY;have EH:=zH eH;have EU:=zH eU;have EL:=zH eL;have EM:=zH eM
 have HY:=zH hY;have HU:=zH hU;have HL2:=zH hL
 have W1:=zH W1;have W2:=zH W2
 have y1:9223372036854775808≤Y:=by rw [hY];exact k1
 have y2:Y < 18446744073709551616:=by rw [hY];exact k2
 have u1:0≤U:=by rw [hU];omega
 have u2:U < Y:=by rw [hU,hY];omega
 have hne:¬ y * 2 ^ s / 4294967296=0:=by omega
 clear eY eH eU eL eM hY hU hL cpos dpos cd hic hiy lod0 lod1 lod2
 go_in
 go_upto_block 0 with (go_at_call 217;refine (HL.out).mono ?_;rintro e w' ⟨rfl,rfl⟩)
 rw [EY.out,EH.out,EU.out,EL.out,EM.out,← HY.out,← HU.out,← HL2.out]
 have b0:0≤Y % 4294967296:=by omega
 have b1:Y % 4294967296 < 4294967296:=by omega
 have a0:2147483648≤Y / 4294967296:=by omega
 have a1:Y / 4294967296 < 4294967296:=by omega
 have l0:0≤L % 4294967296:=by omega
 have l1:L % 4294967296 < 4294967296:=by omega
 have l2:0≤L / 4294967296:=by omega
 have l3:L / 4294967296 < 4294967296:=by omega
 have hYY:Y=Y / 4294967296 * 4294967296+Y % 4294967296:=by omega
 have hLL:L=L / 4294967296 * 4294967296+L % 4294967296:=by omega
 have HYY:=zH hYY;have HLL:=zH hLL;clear hYY hLL
 generalize Y / 4294967296=a at *
 generalize Y % 4294967296=b at *
 generalize L / 4294967296=m at *
 generalize L % 4294967296=n at *
 have HH:Dv.Hyp a b U m:=⟨a0,a1,b0,b1,u1,by have:=HYY.out;omega,l2,l3⟩
 rw [Dv.quoZ U a u1 (by omega) (by omega),Dv.subZ U a HH]
 have I0:=zH (Dv.Inv.start HH)
 have s0:=I0.out.r0
 have s1:=Dv.start_lt HH
 have s2:0≤U / a:=Int.ediv_nonneg u1 (by omega)
 have s3:=I0.out.le
 generalize U / a=Q0 at *
 generalize U - Q0 * a=R0 at *
 have HQ:=zH HH
 clear HH
 go_cut [15,16] (fun q r wx=>wx=w'∧q=.int .u64 (Dv.Q a b U m))
 case first=>
  go_wp2_with (fail)
  go_loop [15,16] (fun q r=>∃ c d:Int,q=.int .u64 c∧r=.int .u64 d∧0≤c∧c≤4294967297∧0≤d∧d < 4294967296∧Hid (Dv.Inv a b U m c d)) (fun q _=>(intOf q).toNat)
  case atStart=>exact ⟨_,_,rfl,rfl,s2,s3,s0,s1,I0⟩
  case round=>
   obtain ⟨c,d,rfl,rfl,c0,c1,d0,d1,HI⟩:=hrel
   have HB:c < 4294967296→0≤c * b∧c * b≤18446744069414584320:=fun h=>Dv.mul_bd HQ.out c0 (by omega)
   have HB:=zH HB
   have exit2:c - 1≤4294967296:=by omega
   by_cases hc1:4294967296≤c
   ·have hI:=Dv.Inv.down HQ.out HI.out (.inl hc1)
    have hI2:=zH hI
    by_cases hd:4294967296≤d+a
    ·have hE:=zH (Dv.Inv.leave HQ.out hI exit2 hd)
     clear hI
     go_wp2
     go_meet
     case rel=>exact ⟨rfl,by rw [hE.out]⟩
    ·clear hI
     go_wp2
     go_round
     case rel=>exact ⟨_,_,rfl,rfl,by omega,by omega,by omega,by omega,hI2⟩
     case measure=>simp [intOf];omega
   ·obtain ⟨m0,m1⟩:=HB.out (by omega)
    by_cases hc2:4294967296 * d+m < c * b
    ·have hI:=Dv.Inv.down HQ.out HI.out (.inr hc2)
     have hI2:=zH hI
     have hcp:0 < c:=by
      rcases Int.lt_or_eq_of_le c0 with h|h
      ·exact h
      ·rw [← h] at hc2;simp at hc2;omega
     by_cases hd:4294967296≤d+a
     ·have hE:=zH (Dv.Inv.leave HQ.out hI exit2 hd)
      clear hI
      go_wp2
      go_meet
      case rel=>exact ⟨rfl,by rw [hE.out]⟩
     ·clear hI
      go_wp2
      go_round
      case rel=>exact ⟨_,_,rfl,rfl,by omega,by omega,by omega,by omega,hI2⟩
      case measure=>simp [intOf];omega
    ·have hE:=zH (Dv.Inv.stop HQ.out HI.out (by omega))
     go_wp2
     go_meet
     case rel=>exact ⟨rfl,by rw [hE.out]⟩
 case rest=>
  obtain ⟨wd,rfl⟩:∃ wd:World,wd=wc:=⟨_,rfl⟩
  obtain ⟨rfl,rfl⟩:=hcut
  have q0:=Dv.Hyp.nn HQ.out
  have q1:=Dv.Hyp.lt HQ.out
  obtain ⟨rb0,rb1⟩:=Dv.rest_bd HQ.out
  rw [← HYY.out] at rb0 rb1
  have eR:=Dv.restZ U m (Dv.Q a b U m * Y) rb0 (by omega)
  have ER:=zH eR
  clear eR
  go_upto_block 2 with (fail)
  rw [ER.out]
  have HK:Dv.Hyp a b (U * 4294967296+m - Dv.Q a b U m * Y) n:=⟨a0,a1,b0,b1,rb0,by have:=HYY.out;omega,l0,l1⟩
  obtain ⟨T1,T2⟩:=Dv.two HQ.out (by rw [← HYY.out];exact HK)
  rw [← HYY.out] at T1 T2
  have T1:=zH T1;have T2:=zH T2
  have hR:∃ R,R=U * 4294967296+m - Dv.Q a b U m * Y:=⟨_,rfl⟩
  obtain ⟨R,hR⟩:=hR
  rw [← hR] at HK rb0 rb1 ⊢
  have HR:=zH hR
  clear hR
  rw [Dv.quoZ R a rb0 (by omega) (by omega),Dv.subZ R a HK]
  have J0:=zH (Dv.Inv.start HK)
  have t0:=J0.out.r0
  have t1:=Dv.start_lt HK
  have t2:0≤R / a:=Int.ediv_nonneg rb0 (by omega)
  have t3:=J0.out.le
  generalize R / a=Q1 at *
  generalize R - Q1 * a=R1 at *
  have HK:=zH HK
  go_cut [16,18] (fun r q wx=>wx=wd∧q=.int .u64 (Dv.Q a b R n))
  case first=>
   go_wp2_with (fail)
   go_loop [16,18] (fun r q=>∃ c d:Int,q=.int .u64 c∧r=.int .u64 d∧0≤c∧c≤4294967297∧0≤d∧d < 4294967296∧Hid (Dv.Inv a b R n c d)) (fun _ q=>(intOf q).toNat)
   case atStart=>exact ⟨_,_,rfl,rfl,t2,t3,t0,t1,J0⟩
   case round=>
    obtain ⟨c,d,rfl,rfl,c0,c1,d0,d1,HI⟩:=hrel
    have HB:c < 4294967296→0≤c * b∧c * b≤18446744069414584320:=fun h=>Dv.mul_bd HK.out c0 (by omega)
    have HB:=zH HB
    have exit2:c - 1≤4294967296:=by omega
    by_cases hc1:4294967296≤c
    ·have hI:=Dv.Inv.down HK.out HI.out (.inl hc1)
     have hI2:=zH hI
     by_cases hd:4294967296≤d+a
     ·have hE:=zH (Dv.Inv.leave HK.out hI exit2 hd)
      clear hI
      go_wp2
      go_meet
      case rel=>exact ⟨rfl,by rw [hE.out]⟩
     ·clear hI
      go_wp2
      go_round
      case rel=>exact ⟨_,_,rfl,rfl,by omega,by omega,by omega,by omega,hI2⟩
      case measure=>simp [intOf];omega
    ·obtain ⟨m0,m1⟩:=HB.out (by omega)
     by_cases hc2:4294967296 * d+n < c * b
     ·have hI:=Dv.Inv.down HK.out HI.out (.inr hc2)
      have hI2:=zH hI
      have hcp:0 < c:=by
       rcases Int.lt_or_eq_of_le c0 with h|h
       ·exact h
       ·rw [← h] at hc2;simp at hc2;omega
      by_cases hd:4294967296≤d+a
      ·have hE:=zH (Dv.Inv.leave HK.out hI exit2 hd)
       clear hI
       go_wp2
       go_meet
       case rel=>exact ⟨rfl,by rw [hE.out]⟩
      ·clear hI
       go_wp2
       go_round
       case rel=>exact ⟨_,_,rfl,rfl,by omega,by omega,by omega,by omega,hI2⟩
       case measure=>simp [intOf];omega
     ·have hE:=zH (Dv.Inv.stop HK.out HI.out (by omega))
      go_wp2
      go_meet
      case rel=>exact ⟨rfl,by rw [hE.out]⟩
  case rest=>
   obtain ⟨we,rfl⟩:∃ we:World,we=wc:=⟨_,rfl⟩
   obtain ⟨rfl,rfl⟩:=hcut
   have p0:=Dv.Hyp.nn HK.out
   have p1:=Dv.Hyp.lt HK.out
   obtain ⟨rc0,rc1⟩:=Dv.rest_bd HK.out
   rw [← HYY.out] at rc0 rc1
   have e1:Dv.Q a b U m * 4294967296+Dv.Q a b R n=(hi * 18446744073709551616+lo) / y:=by
    rw [HR.out,T1.out,← HLL.out,HL2.out,HY.out,HU.out]
    exact W1.out
   have e2:IntKind.u64.wrap (IntKind.u64.wrap (IntKind.u64.wrap (R * 4294967296)+n) - IntKind.u64.wrap (Dv.Q a b R n * Y)) / 2 ^ s=(hi * 18446744073709551616+lo) % y:=by
    rw [Dv.restZ R n _ rc0 (by omega),HR.out,T2.out,← HLL.out,HL2.out,HY.out,HU.out]
    exact W2.out
   have E1:=zH e1;have E2:=zH e2;clear e1 e2
   go_wp2
   go_ret2
   exact ⟨by rw [E1.out,E2.out];rfl,0,rfl⟩
theorem div_zero (lo y:Int) (w:World) (h2:0 < y) (h3:0≤lo) (h4:lo < 18446744073709551616) (h5:y < 18446744073709551616) :
 Calls Tryz.prog 215 #[.int .u64 0,.int .u64 lo,.int .u64 y] w fun e w'=>e=.returned (.tuple #[.int .u64 (lo / y),.int .u64 (lo % y)])∧∃ n,w' = w.drewN n:=by
 have hy:¬ y=0:=by omega
 go_in
 go_wp2
 go_quiet (fail)
 go_wp2
 go_ret2
 exact ⟨rfl,_,rfl⟩
theorem div64_said:Div64Said:=by
 intro hi lo y w h1 h2 h3 h4 h5
 rcases Int.lt_or_eq_of_le h1 with h|h
 ·exact div_pos hi lo y w h h2 h3 h4 h5
 ·subst h
  rw [Int.zero_mul,Int.zero_add]
  exact div_zero lo y w h2 h3 h4 h5
end Go.Proofs.YteomcpplajeidaaGreat
