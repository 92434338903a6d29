/-
  Lemmas of this claim (JwO). Nothing is asked.
-/
import Derived.Test.YteomcpplajeidaaGreatJwN
import Derived.Test.YteomcpplajeidaaGreatJwI
import Derived.Test.YteomcpplajeidaaGreatJwG
import Derived.Laws.Rows
import Derived.Laws.CopyRow
import Derived.Laws.CopyOwn
set_option linter.unusedVariables false
set_option linter.unusedSimpArgs false
set_option maxRecDepth 100000
set_option maxHeartbeats 40000000
namespace Go.Proofs.YteomcpplajeidaaGreat
open Go.RowKit
theorem lowest_norm {a b:Int} (ha:0≤a) (hb:0 < b) (s:Bool) :
 (let g:Int:=Int.gcd a b
  let x:=fitZ (s && decide (0 < a / g)) (a / g)
  let y:=fitZ false (b / g)
  if x.2=true∧y.2=true then ((x.1,y.1),true) else ((0,1),false))=normS (sgn s a) b:=by
 obtain ⟨g,x,y,hg,hg0,hax,hby,hc,h1,h2⟩:=gcd_split a b hb
 have hy:0 < y:=pos_of_mul hg0 (by rw [← hby];exact hb)
 have hx:0≤x:=by
  rcases Int.lt_or_le x 0 with h|h
  ·exfalso
   have:=Int.mul_neg_of_pos_of_neg hg0 h
   omega
  ·exact h
 simp only [hg,h1,h2]
 have hn:normS (sgn s a) b=if sgn s x < -9223372036854775808∨9223372036854775807 < sgn s x∨9223372036854775807 < y then ((0,1),false) else ((sgn s x,y),true):=by
  refine normS_of hy hb (by rw [sgn_gcd];exact hc) ?_
  unfold sgn
  rw [hax,hby]
  cases s
  ·simp only [Bool.false_eq_true,if_false]
   rw [← Int.mul_assoc,Int.mul_comm x g]
  ·simp only [if_true]
   rw [Int.neg_mul,Int.neg_mul,← Int.mul_assoc,Int.mul_comm x g]
 rw [hn]
 have ey:fitZ false y=if 9223372036854775808≤y then (0,false) else (y,true):=by unfold fitZ;simp
 have ex0:fitZ false x=if 9223372036854775808≤x then (0,false) else (x,true):=by unfold fitZ;simp
 have ex1:fitZ true x=if x≤9223372036854775808 then (-x,true) else if 9223372036854775808≤x then (0,false) else (x,true):=by unfold fitZ;simp
 rw [ey]
 have key:∀ (p:Int) (f:Bool),(if f=true∧(if 9223372036854775808≤y then ((0:Int),false) else (y,true)).2=true then ((p,(if 9223372036854775808≤y then ((0:Int),false) else (y,true)).1),true) else ((0,1),false))=if f=true∧y < 9223372036854775808 then ((p,y),true) else ((0,1),false):=by
  intro p f
  by_cases k2:9223372036854775808≤y
  ·rw [if_pos k2,if_neg (by simp),if_neg (by omega)]
  ·rw [if_neg k2]
   by_cases hf:f=true
   ·rw [if_pos ⟨hf,rfl⟩,if_pos ⟨hf,by omega⟩]
   ·rw [if_neg (fun e=>hf e.1),if_neg (fun e=>hf e.1)]
 rw [key]
 cases s
 ·rw [Bool.false_and,ex0]
  unfold sgn
  simp only [Bool.false_eq_true,if_false]
  by_cases k1:9223372036854775808≤x
  ·rw [if_pos k1,if_neg (by simp),if_pos (by omega)]
  ·rw [if_neg k1]
   by_cases k2:y < 9223372036854775808
   ·rw [if_pos ⟨rfl,k2⟩,if_neg (by omega)]
   ·rw [if_neg (fun e=>k2 e.2),if_pos (by omega)]
 ·unfold sgn
  simp only [if_true]
  by_cases k0:0 < x
  ·rw [show (true && decide (0 < x))=true by simp [k0]]
   by_cases k1:x≤9223372036854775808
   ·rw [show fitZ true x=(-x,true) from ex1.trans (if_pos k1)]
    by_cases k2:y < 9223372036854775808
    ·rw [if_pos ⟨rfl,k2⟩,if_neg (by omega)]
    ·rw [if_neg (fun e=>k2 e.2),if_pos (by omega)]
   ·rw [show fitZ true x=(0,false) from ex1.trans ((if_neg k1).trans (if_pos (by omega))),if_neg (by simp),if_pos (by omega)]
  ·obtain rfl:x=0:=by omega
   rw [show (true && decide ((0:Int) < 0))=false by simp,show fitZ false 0=(0,true) from rfl]
   by_cases k2:y < 9223372036854775808
   ·rw [if_pos ⟨rfl,k2⟩,if_neg (by omega)]
    rfl
   ·rw [if_neg (fun e=>k2 e.2),if_pos (by omega)]
theorem blowest_any (s t:Bool) (l m:List Int) (w:World) (v u:Value) (h:BgR w v s l) (h':BgR w u t m) (hl:l.length≤50) (hm:m.length≤50) (hm0:0 < dv m) :
 Calls Tryz.prog 107 #[v,u] w fun e w'=>e=.returned (.tuple #[.agg #[iV (normS (sgn (s != t) (dv l)) (dv m)).1.1,iV (normS (sgn (s != t) (dv l)) (dv m)).1.2],.bool (normS (sgn (s != t) (dv l)) (dv m)).2])∧Ext w w':=by
 obtain ⟨⟨A,n0,ca⟩,rfl,hA⟩:=h
 obtain ⟨⟨B,n1,cb⟩,rfl,hB⟩:=h'
 have hN:=lowest_norm (dv_nonneg hA.dg) hm0 (s != t)
 simp only at hN
 have HN:=zH hN
 have HA:=zH hA;have HB:=zH hB;have HM0:=zH hm0
 clear hN hA hB hm0
 go_in
 go_upto_region 1 with (fail)
 obtain ⟨W1,hW1⟩:∃ W1,W1=((w.alloc (.cells #[.bool s,slV (A,n0,ca)] 150)).alloc (.cells #[.bool t,slV (B,n1,cb)] 150)).alloc (.cells #[iV 0,iV 0] 30):=⟨_,rfl⟩
 have hx1:Ext w W1:=by rw [hW1];exact Ext.alloc (Ext.alloc (Ext.alloc (Ext.refl _) _) _) _
 have hp2:W1.heap[w.heap.size]? = some (.cells #[.bool s,slV (A,n0,ca)] 150):=by rw [hW1,Below.heap_alloc _ _ _ (by simp;omega),Below.heap_alloc _ _ _ (by simp)];exact heap_alloc_new _ _
 have hp3:W1.heap[w.heap.size+1]? = some (.cells #[.bool t,slV (B,n1,cb)] 150):=by rw [hW1,Below.heap_alloc _ _ _ (by simp)];exact block_new (by simp)
 have hp4:W1.heap[w.heap.size+1+1]? = some (.cells #[iV 0,iV 0] 30):=by rw [hW1];exact block_new (by simp)
 rw [← hW1]
 obtain ⟨p2,hp2e⟩:∃ p2,p2=w.heap.size:=⟨_,rfl⟩
 obtain ⟨p3,hp3e⟩:∃ p3,p3=w.heap.size+1:=⟨_,rfl⟩
 obtain ⟨p4,hp4e⟩:∃ p4,p4=w.heap.size+1+1:=⟨_,rfl⟩
 rw [← hp4e] at hp4 ⊢
 rw [← hp3e] at hp3 ⊢
 rw [← hp2e] at hp2 ⊢
 have HX1:=zH hx1
 have HC:Hid (∀ W,Ext W1 W→W.cell? ⟨p2,0,none⟩=some (.bool s)∧W.cell? ⟨p2,1,none⟩=some (slV (A,n0,ca))∧p2 < W.heap.size∧W.cell? ⟨p3,0,none⟩=some (.bool t)∧W.cell? ⟨p3,1,none⟩=some (slV (B,n1,cb))∧p3 < W.heap.size∧W.heap[p4]? = some (.cells #[iV 0,iV 0] 30)):=zH fun W hW=>by
  have h2:=(hW.block _ (zL hp2)).trans hp2
  have h3:=(hW.block _ (zL hp3)).trans hp3
  have h4:=(hW.block _ (zL hp4)).trans hp4
  exact ⟨(zC h2).1 0,(zC h2).1 1,zL h2,(zC h3).1 0,(zC h3).1 1,zL h3,h4⟩
 have HP4:=zH (show w.heap.size≤p4 by omega)
 clear hW1 hx1 hp2 hp3 hp4 hp2e hp3e hp4e
 have hg0:0 < (Int.gcd (dv l) (dv m):Int):=by
  have:Int.gcd (dv l) (dv m)≠0:=fun e=>by have:=(Int.gcd_eq_zero_iff.1 e).2;have:=HM0.out;omega
  omega
 obtain ⟨l1,l2,l3,l4⟩:=trimL_spec l HA.out.dg
 obtain ⟨m1,m2,m3,m4⟩:=trimL_spec m HB.out.dg
 have HGC:=zH (fun W (hW:Ext w W)=>bcommon_any l m W _ _ (HA.out.ext hW) (HB.out.ext hW) hl hm)
 have HTL:=zH (fun W (hW:Ext w W)=>trim_any l W _ (HA.out.ext hW))
 have HTM:=zH (fun W (hW:Ext w W)=>trim_any m W _ (HB.out.ext hW))
 have HG0:=zH hg0
 have HLM:=zH (show dv (trimL l)=dv l∧dv (trimL m)=dv m∧(trimL l).length≤50∧(trimL m).length≤50 from ⟨l3,m3,by omega,by omega⟩)
 clear hg0 l1 l2 l3 l4 m1 m2 m3 m4
 generalize trimL l=tl at *
 generalize trimL m=tm at *
 obtain ⟨a0,a1,a2,b0,b1,b2,-⟩:=HC.out W1 (Ext.refl _)
 go_upto_region 2 with (go_at_call 154;(refine (HGC.out _ HX1.out).mono ?_);rintro e w2 ⟨xg,g,rfl,hx2,hdg,htg,hvg,hlg⟩)
 have HX2:=zH hx2;have HDG:=zH hdg
 have HOV:=zH (fun W xa (ts:List Int) (hts:ts.length≤50) (h1:DR W xa ts) (hW:Ext w2 W)=>bover_any ts g W xa xg h1 (HDG.out.ext hW) hts hlg htg (by rw [hvg];exact HG0.out))
 have HVG:=zH hvg
 clear a0 a1 a2 b0 b1 b2 hx2 hdg htg hvg hlg
 obtain ⟨a0,a1,a2,b0,b1,b2,-⟩:=HC.out w2 HX2.out
 go_upto_region 3 with (first
  |(go_at_call 85;(with_reducible refine (HTL.out _ (HX1.out.trans HX2.out)).mono ?_);rintro e w3 ⟨x3,rfl,hx3,hd3⟩;have HX3:=zH hx3;have HD3:=zH hd3;clear hx3 hd3)
  |(go_at_call 155;(with_reducible refine (HOV.out w3 x3 tl HLM.out.2.2.1 HD3.out HX3.out).mono ?_);rintro e w4 ⟨xq,xr,q,r,rfl,hx4,hdq,-,htq,-,hvq,-,hlq,-⟩))
 have HX4:=zH (HX2.out.trans (HX3.out.trans hx4));have HX24:=zH (HX3.out.trans hx4)
 have HDQ:=zH hdq
 have HQ:=zH (show Tr q∧dv q=dv l / dv g∧q.length≤50 from ⟨htq,by rw [hvq,HLM.out.1],by have:=HLM.out.2.2.1;omega⟩)
 clear a0 a1 a2 b0 b1 b2 hx4 hdq htq hvq hlq
 obtain ⟨a0,a1,a2,b0,b1,b2,-⟩:=HC.out w4 HX4.out
 go_upto_region 4 with (first
  |(go_at_call 85;(with_reducible refine (HTM.out _ (HX1.out.trans HX4.out)).mono ?_);rintro e w5 ⟨x5,rfl,hx5,hd5⟩;have HX5:=zH hx5;have HD5:=zH hd5;clear hx5 hd5)
  |(go_at_call 155;(with_reducible refine (HOV.out w5 x5 tm HLM.out.2.2.2 HD5.out (HX24.out.trans HX5.out)).mono ?_);rintro e w6 ⟨yq,yr,q2,r2,rfl,hx6,hdq2,-,htq2,-,hvq2,-,hlq2,-⟩))
 have HX6:=zH (HX4.out.trans (HX5.out.trans hx6))
 have HDQ6:=zH (HDQ.out.ext (HX5.out.trans hx6));have HDQ2:=zH hdq2
 have HQ2:=zH (show Tr q2∧dv q2=dv m / dv g∧q2.length≤50 from ⟨htq2,by rw [hvq2,HLM.out.2.1],by have:=HLM.out.2.2.2;omega⟩)
 clear a0 a1 a2 b0 b1 b2 hx6 hdq2 htq2 hvq2 hlq2 HDQ HX24 HOV HTL HTM HGC
 obtain ⟨a0,a1,a2,b0,b1,b2,-⟩:=HC.out w6 HX6.out
 obtain ⟨qa,qc,rfl⟩:=HDQ6.out.form
 obtain ⟨ya,yc,rfl⟩:=HDQ2.out.form
 obtain ⟨sn,hsn⟩:∃ sn,(s != t)=sn:=⟨_,rfl⟩
 rw [hsn] at HN
 have HPOS:Hid ((decide (0 < q.length))=decide (0 < dv q)):=zH (by
  rw [Bool.eq_iff_iff,decide_eq_true_eq,decide_eq_true_eq]
  have hnn:=dv_nonneg HDQ6.out.dg
  constructor
  ·intro h
   rcases Int.lt_or_le 0 (dv q) with h2|h2
   ·exact h2
   ·exfalso
    rw [dv_zero HDQ6.out.dg HQ.out.1 (by omega)] at h
    simp at h
  ·intro h
   rcases Nat.eq_zero_or_pos q.length with h2|h2
   ·rw [List.length_eq_zero_iff.1 h2] at h
    simp [dv] at h
   ·exact h2)
 have HF1:=zH (fun (b:Bool)=>fit_any b q w6 (.agg #[.bool b,.slice qa q.length qc]) ⟨(qa,q.length,qc),rfl,HDQ6.out⟩)
 have HF2:=zH (fun W (hW:Ext w6 W)=>fit_any false q2 W (.agg #[.bool false,.slice ya q2.length yc]) ⟨(ya,q2.length,yc),rfl,HDQ2.out.ext hW⟩)
 have HGE:Hid ((Int.gcd (dv l) (dv m):Int)=dv g):=zH HVG.out.symm
 rw [HGE.out,← HQ.out.2.1,← HQ2.out.2.1,← HPOS.out] at HN
 by_cases hst:s=t
 ·subst hst
  have hsf:sn=false:=by rw [← hsn];simp
  subst hsf
  have HSN:=zH hsn
  rw [Bool.false_and] at HN
  go_upto_region 5 with (go_at_call 156;(refine (HF1.out _).mono ?_);rintro e w7 ⟨rfl,hx7⟩)
  obtain ⟨⟨n1,o1⟩,hf1⟩:∃ f:Int×Bool,f=fitZ false (dv q):=⟨_,rfl⟩
  rw [← hf1]
  have HF1E:=zH hf1
  clear hf1
  have HX7:=zH hx7
  clear a0 a1 a2 b0 b1 b2 hx7
  obtain ⟨⟨n2,o2⟩,hf2⟩:∃ f:Int×Bool,f=fitZ false (dv q2):=⟨_,rfl⟩
  have HF2W:=zH (HF2.out w7 HX7.out)
  rw [← hf2] at HF2W HN
  rw [← HF1E.out] at HN
  clear hf2 HF1 HF2 HF1E
  simp only at HF2W HN ⊢
  have hx67:Ext w w7:=HX1.out.trans (HX6.out.trans HX7.out)
  have hp4:=HP4.out
  cases o1
  ·skip
   have HNF:=zH (HN.out.symm.trans (if_neg (by simp)))
   clear HN
   go_wp2_with (first
    |(go_at_call 156;(with_reducible refine HF2W.out.mono ?_);rintro e w8 ⟨rfl,hx8⟩)
    |(go_at_call 28;(with_reducible refine (refOf_any _ _).mono ?_);rintro e w9 ⟨rfl,hx9⟩;obtain ⟨hc9,hf9,hl9⟩:=zC (HC.out w9 (HX6.out.trans (HX7.out.trans (hx8.trans hx9)))).2.2.2.2.2.2))
   have hxx:=hx67.trans (hx8.trans hx9)
   exact bodyPost_ret (v:=rbv ((0,1),false)) (by simp [results,Tryz.results107,go_sem,hc9,hf9]) rfl ⟨by rw [HSN.out,HNF.out],xt⟩
  ·cases o2
   ·skip
    have HNF:=zH (HN.out.symm.trans (if_neg (by simp)))
    clear HN
    go_wp2_with (first
     |(go_at_call 156;(with_reducible refine HF2W.out.mono ?_);rintro e w8 ⟨rfl,hx8⟩)
     |(go_at_call 28;(with_reducible refine (refOf_any _ _).mono ?_);rintro e w9 ⟨rfl,hx9⟩;obtain ⟨hc9,hf9,hl9⟩:=zC (HC.out w9 (HX6.out.trans (HX7.out.trans (hx8.trans hx9)))).2.2.2.2.2.2))
    have hxx:=hx67.trans (hx8.trans hx9)
    exact bodyPost_ret (v:=rbv ((0,1),false)) (by simp [results,Tryz.results107,go_sem,hc9,hf9]) rfl ⟨by rw [HSN.out,HNF.out],xt⟩
   ·have HNF:=zH (HN.out.symm.trans (if_pos (by simp)))
    clear HN
    go_wp2_with (go_at_call 156;(refine HF2W.out.mono ?_);rintro e w8 ⟨rfl,hx8⟩;obtain ⟨hc9,hf9,hl9⟩:=zC (HC.out w8 (HX6.out.trans (HX7.out.trans hx8))).2.2.2.2.2.2)
    have hxx:=hx67.trans hx8
    exact bodyPost_ret (v:=rbv ((n1,n2),true)) (by simp [results,Tryz.results107,go_sem,hc9,hf9]) rfl ⟨by rw [HSN.out,HNF.out],xt⟩
 ·have hb:(s == t)=false:=by simpa using hst
  have hsf:sn=true:=by rw [← hsn];simp [bne,hb]
  subst hsf
  have HSN:=zH hsn
  rw [Bool.true_and] at HN
  go_upto_region 5 with (go_at_call 156;(refine (HF1.out _).mono ?_);rintro e w7 ⟨rfl,hx7⟩)
  obtain ⟨⟨n1,o1⟩,hf1⟩:∃ f:Int×Bool,f=fitZ (decide (0 < q.length)) (dv q):=⟨_,rfl⟩
  rw [← hf1]
  have HF1E:=zH hf1
  clear hf1
  have HX7:=zH hx7
  clear a0 a1 a2 b0 b1 b2 hx7
  obtain ⟨⟨n2,o2⟩,hf2⟩:∃ f:Int×Bool,f=fitZ false (dv q2):=⟨_,rfl⟩
  have HF2W:=zH (HF2.out w7 HX7.out)
  rw [← hf2] at HF2W HN
  rw [← HF1E.out] at HN
  clear hf2 HF1 HF2 HF1E
  simp only at HF2W HN ⊢
  have hx67:Ext w w7:=HX1.out.trans (HX6.out.trans HX7.out)
  have hp4:=HP4.out
  cases o1
  ·skip
   have HNF:=zH (HN.out.symm.trans (if_neg (by simp)))
   clear HN
   go_wp2_with (first
    |(go_at_call 156;(with_reducible refine HF2W.out.mono ?_);rintro e w8 ⟨rfl,hx8⟩)
    |(go_at_call 28;(with_reducible refine (refOf_any _ _).mono ?_);rintro e w9 ⟨rfl,hx9⟩;obtain ⟨hc9,hf9,hl9⟩:=zC (HC.out w9 (HX6.out.trans (HX7.out.trans (hx8.trans hx9)))).2.2.2.2.2.2))
   have hxx:=hx67.trans (hx8.trans hx9)
   exact bodyPost_ret (v:=rbv ((0,1),false)) (by simp [results,Tryz.results107,go_sem,hc9,hf9]) rfl ⟨by rw [HSN.out,HNF.out],xt⟩
  ·cases o2
   ·skip
    have HNF:=zH (HN.out.symm.trans (if_neg (by simp)))
    clear HN
    go_wp2_with (first
     |(go_at_call 156;(with_reducible refine HF2W.out.mono ?_);rintro e w8 ⟨rfl,hx8⟩)
     |(go_at_call 28;(with_reducible refine (refOf_any _ _).mono ?_);rintro e w9 ⟨rfl,hx9⟩;obtain ⟨hc9,hf9,hl9⟩:=zC (HC.out w9 (HX6.out.trans (HX7.out.trans (hx8.trans hx9)))).2.2.2.2.2.2))
    have hxx:=hx67.trans (hx8.trans hx9)
    exact bodyPost_ret (v:=rbv ((0,1),false)) (by simp [results,Tryz.results107,go_sem,hc9,hf9]) rfl ⟨by rw [HSN.out,HNF.out],xt⟩
   ·have HNF:=zH (HN.out.symm.trans (if_pos (by simp)))
    clear HN
    go_wp2_with (go_at_call 156;(refine HF2W.out.mono ?_);rintro e w8 ⟨rfl,hx8⟩;obtain ⟨hc9,hf9,hl9⟩:=zC (HC.out w8 (HX6.out.trans (HX7.out.trans hx8))).2.2.2.2.2.2)
    have hxx:=hx67.trans hx8
    exact bodyPost_ret (v:=rbv ((n1,n2),true)) (by simp [results,Tryz.results107,go_sem,hc9,hf9]) rfl ⟨by rw [HSN.out,HNF.out],xt⟩
theorem quick_p (n d:Int) (hn:-4000000000000000000≤n∧n≤4000000000000000000) (hd:1≤d∧d≤4000000000000000000) (w:World):Calls Tryz.prog 106 #[iV n,iV d] w fun e w'=>e=.returned (rv (quickZ n d))∧Ext w w':=by
 obtain ⟨n1,n2⟩:=hn
 obtain ⟨d1,d2⟩:=hd
 have hG:1≤Int.gcd n d:=by
  have:=Int.gcd_pos_of_ne_zero_right n (show d≠0 by omega);omega
 have hGd:(Int.gcd n d:Int)≤d:=Int.le_of_dvd (by omega) (Int.gcd_dvd_right _ _)
 have hM:max n (-n)=(n.natAbs:Int):=by rw [Int.max_def];split <;> omega
 have HG:=zH (show Nat.gcd n.natAbs d.natAbs=Int.gcd n d from rfl)
 have HQ:=zH (show quickZ n d=(n.tdiv (Int.gcd n d:Int),d.tdiv (Int.gcd n d:Int)) from rfl)
 generalize Int.gcd n d=G at *
 have HM:=zH hM
 clear hM
 go_in
 go_wp2
 rw [HM.out]
 go_loop [5,6] (fun x y=>∃ p q:Nat,p≤4000000000000000000∧q≤4000000000000000000∧x=iV p∧y=iV q∧Hid (Nat.gcd p q=G)) (fun _ y=>(intOf y).toNat)
 case atStart=>exact ⟨n.natAbs,d.natAbs,by omega,by omega,rfl,by rw [show d=(d.natAbs:Int) by omega];rfl,HG⟩
 case round=>
  obtain ⟨p,q,hp,hq,rfl,rfl,hg⟩:=hrel
  rcases Nat.eq_zero_or_pos q with h0|hlt
  ·subst h0
   have hpG:p=G:=by have:=hg.out;simpa using this
   subst hpG
   have hne:¬ p=0:=by omega
   have e1:IntKind.i64.wrap (n.tdiv (p:Int))=n.tdiv (p:Int):=by
    have h3:=Int.natAbs_tdiv_le_natAbs n (p:Int)
    rw [IntKind.wrap_i64];omega
   have e2:IntKind.i64.wrap (d.tdiv (p:Int))=d.tdiv (p:Int):=by
    have h3:=Int.natAbs_tdiv_le_natAbs d (p:Int)
    rw [IntKind.wrap_i64];omega
   have E1:=zH e1;have E2:=zH e2
   have E3:=zH (show d / (p:Int)=d.tdiv (p:Int) from (Int.tdiv_eq_ediv_of_nonneg (by omega)).symm)
   clear e1 e2
   go_wp2_with (fail)
   refine Rr.rg [(0,.y),(1,.y),(2,.y),(3,.y),(4,.y),(5,.y),(6,.y)] ?_
   iterate 7
    refine Rr.y1 ?_
   refine Rr.wr_nil ?_
   intro wy hy hh
   simp only [gg,gh,gi,gj,Nat.reduceAdd]
   obtain ⟨hcy,hfy⟩:=hy.cells
   clear hh
   go_wp2
   rw [E3.out]
   exact bodyPost_ret (v:=rv (n.tdiv (p:Int),d.tdiv (p:Int))) (by simp [results,Tryz.results106,go_sem,hcy]) rfl ⟨by rw [HQ.out],xt⟩
  ·have hne:¬ q=0:=by omega
   have hl:=Nat.mod_lt p hlt
   go_wp2
   go_round
   case rel=>exact ⟨q,p % q,hq,by omega,rfl,by simp,zH (by rw [← hg.out,gcd_step p q hlt])⟩
   case measure=>simp [intOf];omega
theorem quick_m (n0 d0:Int) (hn:-4000000000000000000≤n0∧n0≤4000000000000000000) (hd:-4000000000000000000≤d0∧d0≤-1) (w:World):Calls Tryz.prog 106 #[iV n0,iV d0] w fun e w'=>e=.returned (rv (quickZ (-n0) (-d0)))∧Ext w w':=by
 have kn:IntKind.i64.wrap (-n0) = -n0:=by rw [IntKind.wrap_i64];omega
 have kd:IntKind.i64.wrap (-d0) = -d0:=by rw [IntKind.wrap_i64];omega
 obtain ⟨n,hnn⟩:∃ n,n = -n0:=⟨_,rfl⟩
 obtain ⟨d,hdd⟩:∃ d,d = -d0:=⟨_,rfl⟩
 have hd0:d0 < 0:=by omega
 have n1:-4000000000000000000≤n:=by omega
 have n2:n≤4000000000000000000:=by omega
 have d1:1≤d:=by omega
 have d2:d≤4000000000000000000:=by omega
 rw [← hnn] at kn ⊢
 rw [← hdd] at kd ⊢
 have hnn':-n0=n:=hnn.symm
 have hdd':-d0=d:=hdd.symm
 clear hnn hdd hn hd
 have hG:1≤Int.gcd n d:=by
  have:=Int.gcd_pos_of_ne_zero_right n (show d≠0 by omega);omega
 have hGd:(Int.gcd n d:Int)≤d:=Int.le_of_dvd (by omega) (Int.gcd_dvd_right _ _)
 have hM:max n (-n)=(n.natAbs:Int):=by rw [Int.max_def];split <;> omega
 have HG:=zH (show Nat.gcd n.natAbs d.natAbs=Int.gcd n d from rfl)
 have HQ:=zH (show quickZ n d=(n.tdiv (Int.gcd n d:Int),d.tdiv (Int.gcd n d:Int)) from rfl)
 generalize Int.gcd n d=G at *
 have HM:=zH hM
 clear hM
 go_in
 go_wp2
 rw [HM.out]
 go_loop [5,6] (fun x y=>∃ p q:Nat,p≤4000000000000000000∧q≤4000000000000000000∧x=iV p∧y=iV q∧Hid (Nat.gcd p q=G)) (fun _ y=>(intOf y).toNat)
 case atStart=>exact ⟨n.natAbs,d.natAbs,by omega,by omega,rfl,by rw [show d=(d.natAbs:Int) by omega];rfl,HG⟩
 case round=>
  obtain ⟨p,q,hp,hq,rfl,rfl,hg⟩:=hrel
  rcases Nat.eq_zero_or_pos q with h0|hlt
  ·subst h0
   have hpG:p=G:=by have:=hg.out;simpa using this
   subst hpG
   have hne:¬ p=0:=by omega
   have e1:IntKind.i64.wrap (n.tdiv (p:Int))=n.tdiv (p:Int):=by
    have h3:=Int.natAbs_tdiv_le_natAbs n (p:Int)
    rw [IntKind.wrap_i64];omega
   have e2:IntKind.i64.wrap (d.tdiv (p:Int))=d.tdiv (p:Int):=by
    have h3:=Int.natAbs_tdiv_le_natAbs d (p:Int)
    rw [IntKind.wrap_i64];omega
   have E1:=zH e1;have E2:=zH e2
   have E3:=zH (show d / (p:Int)=d.tdiv (p:Int) from (Int.tdiv_eq_ediv_of_nonneg (by omega)).symm)
   clear e1 e2
   go_wp2_with (fail)
   refine Rr.rg [(0,.y),(1,.y),(2,.y),(3,.y),(4,.y),(5,.y),(6,.y)] ?_
   iterate 7
    refine Rr.y1 ?_
   refine Rr.wr_nil ?_
   intro wy hy hh
   simp only [gg,gh,gi,gj,Nat.reduceAdd]
   obtain ⟨hcy,hfy⟩:=hy.cells
   clear hh
   go_wp2
   rw [E3.out]
   exact bodyPost_ret (v:=rv (n.tdiv (p:Int),d.tdiv (p:Int))) (by simp [results,Tryz.results106,go_sem,hcy]) rfl ⟨by rw [HQ.out],xt⟩
  ·have hne:¬ q=0:=by omega
   have hl:=Nat.mod_lt p hlt
   go_wp2
   go_round
   case rel=>exact ⟨q,p % q,hq,by omega,rfl,by simp,zH (by rw [← hg.out,gcd_step p q hlt])⟩
   case measure=>simp [intOf];omega
theorem up_row {ρ:Operand→Value} {d:Option Tmp} {x:Operand} {ty:TypeId} {ps:String} {af:Array Edge} {gd:Option (Nat×Bool)} {w:World} {g:Nat} {T t:TypeId} {cs:Array Value} {fs:Array Field} {fr:Nat×Nat}
 (hx:ρ x=.pointer (some ⟨g,0,none⟩)) (hg:w.heap[g]? = some (.cells cs t fr))
 (hu:Tryz.prog.underlying T=some (.struct fs)) (hi:(Tryz.prog.info? T).map (·.size)=some cs.size) :
 Rg.up Tryz.prog w (.agg cs) ((execOp ρ { dst:=d,op:=.load T x,type:=ty,pos:=ps,after:=af,guard:=gd }).run Tryz.prog w):=by
 have h:=run_loadVar_row (P:=Tryz.prog) w g t T cs _ (.struct fs) hg hu rfl hi
 unfold execOp
 simp only [hx,Instr.loadAt,Instr.sureAddr,Sem.run_bind,Sem.run_pure,Result.andThen_ok,h]
 exact zU
theorem wpList_store_row {ops:Array Oper} {rest:List Oper} {o:Oper} {a:Act} {w:World} {Q:Exit→Act→World→Prop} (hgd:o.guard=none) (T:TypeId) (x y:Operand) (ho:o.op=.store T x y)
 (g:Nat) (hx:a.eval x=.pointer (some ⟨g,0,none⟩)) (cs:Array Value) (hy:a.eval y=.agg cs) (old:Array Value) (t:TypeId) (hg:w.heap[g]? = some (.cells old t (0,0))) (hl:old.size=cs.size)
 (hi:(Tryz.prog.info? T).map (·.size)=some cs.size) (h1:∀ v∈cs.toList,v.oneCell' = true)
 (h:wpList Tryz.prog ops Q rest (a.put o.dst undef) (w.setRow g cs)):wpList Tryz.prog ops Q (o :: rest) a w:=by
 refine wpList_plain hgd fun K hK=>?_
 have hr:=run_storeCells_at (P:=Tryz.prog) g 0 t cs.toList 0 old w hg (by simp;omega) h1
 have he:(old.toList.take (0+0) ++ cs.toList ++ old.toList.drop (0+0+cs.toList.length)).toArray=cs:=by
  rw [List.drop_eq_nil_of_le (by simp;omega)];simp
 rw [he] at hr
 unfold Oper.wp execOp
 have hs:(Go.sizeOf T).run Tryz.prog w=.ok cs.size w:=by
  cases hq:Tryz.prog.info? T with
  | none=>simp [hq] at hi
  | some i=>
   have hs:i.size=cs.size:=by simpa [hq] using hi
   simp [sizeOf,typeInfo,hq,hs]
 have hst:(storeVar T ⟨g,0,none⟩ (.agg cs)).run Tryz.prog w=.ok () (w.setRow g cs):=by
  unfold storeVar
  simp only [Value.cells,Sem.run_bind,hs,Result.andThen_ok,ne_eq,not_true_eq_false,if_false]
  exact hr
 simp only [ho,hx,hy,Instr.storeAt,Instr.sureAddr,Sem.run_bind,Sem.run_pure,Result.andThen_ok,hst]
 exact hK _ _ h
theorem quick_norm {n d:Int} (hd:0 < d) (hn:-4000000000000000000≤n∧n≤4000000000000000000) (hd2:d≤4000000000000000000):normS n d=(quickZ n d,true):=by
 obtain ⟨g,x,y,hg,hg0,hax,hby,hc,h1,h2⟩:=gcd_split n d hd
 have e1:n.tdiv g=x:=by rw [hax];exact Int.mul_tdiv_cancel_left _ (by omega)
 have e2:d.tdiv g=y:=by rw [hby];exact Int.mul_tdiv_cancel_left _ (by omega)
 have hq:quickZ n d=(x,y):=by unfold quickZ;rw [hg,e1,e2]
 have b1:x.natAbs≤n.natAbs:=by rw [← e1];exact Int.natAbs_tdiv_le_natAbs n g
 have b2:y.natAbs≤d.natAbs:=by rw [← e2];exact Int.natAbs_tdiv_le_natAbs d g
 have hy:0 < y:=pos_of_mul hg0 (by rw [← hby];exact hd)
 rw [hq,normS_of hy hd hc (by rw [hax,hby,← Int.mul_assoc,Int.mul_comm x g]),if_neg (by omega)]
def smB (n:Int):Bool:=decide (-1000000000 < n) && decide (n < 1000000000)
theorem smB_iff {n:Int}:smB n=true↔-1000000000 < n∧n < 1000000000:=by unfold smB;simp
theorem small_c (n:Int) (w:World):Calls Tryz.prog 105 #[iV n] w fun e w'=>e=.returned (.bool (smB n))∧w' = w:=by
 by_cases h1:-1000000000 < n
 ·by_cases h2:n < 1000000000
  ·have hs:smB n=true:=by unfold smB;simp [h1,h2]
   have HS:=zH hs
   clear hs
   go_in
   go_wp2
   go_ret
   exact ⟨by rw [HS.out];rfl,rfl⟩
  ·have hs:smB n=false:=by unfold smB;simp [h2]
   have HS:=zH hs
   clear hs
   go_in
   go_wp2
   go_ret
   exact ⟨by rw [HS.out];rfl,rfl⟩
 ·have hs:smB n=false:=by unfold smB;simp [h1]
  have HS:=zH hs
  clear hs
  go_in
  go_wp2
  go_ret
  exact ⟨by rw [HS.out];rfl,rfl⟩
theorem small_b (n:Int) (w:World):Calls Tryz.prog 105 #[iV n] w fun e w'=>e=.returned (.bool (smB n))∧Ext w w':=(small_c n w).mono fun _ _ ⟨he,hw⟩=>⟨he,by rw [hw];exact Ext.refl _⟩
theorem of_val {a:Int} (h1:-9223372036854775808≤a) (h2:a≤9223372036854775807):Dg (ofL a.natAbs)∧Tr (ofL a.natAbs)∧dv (ofL a.natAbs)=a.natAbs∧(ofL a.natAbs).length≤4∧sgn (decide (a < 0)) (dv (ofL a.natAbs))=a:=by
 obtain ⟨k1,k2,k3,k4⟩:=ofL_spec a.natAbs (by omega) (by omega)
 refine ⟨k1,k2,k3,k4,?_⟩
 rw [k3]
 unfold sgn
 by_cases h:a < 0
 ·rw [decide_eq_true h,if_pos rfl];omega
 ·rw [decide_eq_false h,if_neg (by simp)];omega
theorem normS_iff {n d:Int} (hd:0 < d) (h1:-9223372036854775808≤n) (h2:n≤9223372036854775807) (hd2:d≤9223372036854775807):(normS n d=((n,d),true))↔Int.gcd n d=1:=by
 constructor
 ·intro h
  exact ((rightB_iff n d).1 (normS_right hd h).1).2
 ·intro h
  rw [normS_of hd hd h rfl,if_neg (by omega)]
theorem hold0 {f:World→Prop} {fs:List (World→Prop)} {w:World} (h:Rr.Holds (f :: fs) w):f w:=h _ zM
theorem hold1 {f g:World→Prop} {fs:List (World→Prop)} {w:World} (h:Rr.Holds (g :: f :: fs) w):f w:=h _ (zN _ zM)
theorem rRight_any (n d:Int) (h1:-9223372036854775808≤n) (h2:n≤9223372036854775807) (h3:-9223372036854775808≤d) (h4:d≤9223372036854775807) (w:World) :
 Calls Tryz.prog 128 #[.agg #[iV n,iV d]] w fun e w'=>e=.returned (.bool (rightB n d))∧Ext w w':=by
 have hC:(w.alloc (.cells #[iV n,iV d] 30)).heap[w.heap.size]? = some (.cells #[iV n,iV d] 30):=block_new rfl
 obtain ⟨hc,hf,hlt⟩:=zC hC
 have c0:=hc 0
 have c1:=hc 1
 have hx1:Ext w (w.alloc (.cells #[iV n,iV d] 30)):=Ext.alloc (Ext.refl _) _
 have HC:=zH hC;have HX1:=zH hx1
 clear hC hc hf hx1
 by_cases hd:d < 1
 ·have HR:Hid (rightB n d=false):=zH (by unfold rightB;rw [decide_eq_false (by omega)];rfl)
  go_in
  go_wp2
  go_ret
  exact ⟨by rw [HR.out];rfl,HX1.out⟩
 ·have hd1:0 < d:=by omega
  have HR:=zH (rightB_iff n d)
  have HS1:=zH (fun W=>small_b n W)
  have HS2:=zH (fun W=>small_b d W)
  by_cases hs:smB n=true∧smB d=true
  ·have hsn:=smB_iff.1 hs.1
   have hsd:=smB_iff.1 hs.2
   have HQ:=zH (fun W=>quick_p n d (by omega) (by omega) W)
   have hN:=quick_norm (n:=n) hd1 (by omega) (by omega)
   have HB:Hid (rightB n d=((quickZ n d).1 == n && (quickZ n d).2 == d)):=zH (by
    rw [Bool.eq_iff_iff,HR.out]
    simp only [Bool.and_eq_true,beq_iff_eq]
    constructor
    ·rintro ⟨-,hg⟩
     have:=hN.symm.trans ((normS_iff hd1 h1 h2 h4).2 hg)
     injection this with this _
     rw [this]
     exact ⟨rfl,rfl⟩
    ·rintro ⟨e1,e2⟩
     refine ⟨hd1,(normS_iff hd1 h1 h2 h4).1 ?_⟩
     rw [hN]
     rcases hqq:quickZ n d with ⟨a,b⟩
     rw [hqq] at e1 e2
     simp only at e1 e2
     rw [e1,e2])
   rw [hs.1] at HS1
   rw [hs.2] at HS2
   clear hs hsn hsd hN
   generalize quickZ n d=qq at *
   obtain ⟨q1,q2⟩:=qq
   simp only at HB HQ
   go_in
   go_upto_region 4 with (first
    |(go_at_call_of 105 (iV n);(with_reducible refine (HS1.out _).mono ?_);rintro e w2 ⟨rfl,hx2⟩;obtain ⟨k0,k1,kl⟩:w2.cell? ⟨w.heap.size,0,none⟩=some (iV n)∧w2.cell? ⟨w.heap.size,1,none⟩=some (iV d)∧w.heap.size < w2.heap.size:=⟨(hx2.cells.1 _ _ hlt).trans c0,(hx2.cells.1 _ _ hlt).trans c1,Nat.lt_of_lt_of_le hlt hx2.size⟩)
    |(go_at_call_of 105 (iV d);(with_reducible refine (HS2.out _).mono ?_);rintro e w3 ⟨rfl,hx3⟩))
   have HX3:=zH (hx2.trans hx3)
   have h26:=(HX3.out.block _ hlt).trans HC.out
   obtain ⟨hc3,-,hl3⟩:=zC h26
   have d0:=hc3 0;have d1:=hc3 1
   simp only [List.getElem?_toArray,List.getElem?_cons_zero,List.getElem?_cons_succ] at d0 d1
   clear hx2 hx3 k0 k1 kl hc3
   refine Rr.rg ((List.range 7).map (fun i=>(i,.y))) ?_
   simp only [List.range,List.range.loop,List.map_cons,List.map_nil]
   iterate 4
    refine Rr.y1 ?_
   refine Rr.y3 (fun wz hw=>HQ.out wz) ?_
   refine Rr.y2 (h:=fun wz hw=>up_row (by rfl) ((hw.block _ (zL h26)).trans h26) Tryz.underlying30 (by kernel_rfl)) (k:=?_)
   refine Rr.yd ⟨.bool (q1 == n && q2 == d),fun wz hw _=>?_,?_⟩
   ·go_simp
    by_cases e1:q1=n
    ·by_cases e2:q2=d
     ·rw [if_pos e1,if_pos e2,show (q1 == n && q2 == d)=true by simp [e1,e2]]
      exact zU
     ·rw [if_pos e1,if_neg e2,show (q1 == n && q2 == d)=false by simp [e2]]
      exact zU
    ·rw [if_neg e1,show (q1 == n && q2 == d)=false by simp [e1]]
     exact zU
   simp only [zp]
   refine Rr.wr_nil ?_
   intro wy hy hh
   simp only [gg,gh,gi,gj,Nat.reduceAdd]
   clear hh
   generalize (q1 == n && q2 == d)=bv at *
   go_wp2
   go_ret
   exact ⟨by rw [HB.out];rfl,HX1.out.trans (HX3.out.trans hy)⟩
  ·have HB:Hid (rightB n d=((normS n d).2 && ((n == (normS n d).1.1) && (d == (normS n d).1.2)))):=zH (by
    rw [Bool.eq_iff_iff,HR.out]
    simp only [Bool.and_eq_true,beq_iff_eq]
    constructor
    ·rintro ⟨-,hg⟩
     rw [(normS_iff hd1 h1 h2 h4).2 hg]
     exact ⟨rfl,rfl,rfl⟩
    ·rintro ⟨e0,e1,e2⟩
     refine ⟨hd1,(normS_iff hd1 h1 h2 h4).1 ?_⟩
     generalize normS n d=r at *
     obtain ⟨⟨a,b⟩,c⟩:=r
     simp only at e0 e1 e2
     rw [e0,← e1,← e2])
   obtain ⟨-,-,n3,n4,n5⟩:=of_val h1 h2
   obtain ⟨-,-,m3,m4,m5⟩:=of_val (show -9223372036854775808≤d by omega) h4
   have hdn:decide (d < 0)=false:=decide_eq_false (by omega)
   have HLO:=zH (fun W v u (hv:BgR W v (decide (n < 0)) (ofL n.natAbs)) (hu:BgR W u (decide (d < 0)) (ofL d.natAbs))=>blowest_any _ _ _ _ W v u hv hu (by omega) (by omega) (by rw [m3];omega))
   have hsg:sgn (decide (n < 0) != decide (d < 0)) (dv (ofL n.natAbs))=n:=by rw [hdn];simpa using n5
   rw [hsg,m3,show normS n ((d.natAbs:Nat):Int)=normS n d by rw [show ((d.natAbs:Nat):Int)=d by omega]] at HLO
   clear n3 n4 n5 m3 m4 m5 hsg hdn
   generalize normS n d=r at *
   obtain ⟨⟨r1,r2⟩,r3⟩:=r
   simp only at HLO HB
   by_cases hs1:smB n=true
   ·have hs2:smB d=false:=by
     cases h:smB d
     ·rfl
     ·exact absurd ⟨hs1,h⟩ hs
    rw [hs1] at HS1
    rw [hs2] at HS2
    clear hs hs1 hs2
    go_in
    go_upto_region 5 with (first
     |(go_at_call_of 105 (iV n);(with_reducible refine (HS1.out _).mono ?_);rintro e w2 ⟨rfl,hx2⟩;obtain ⟨k0,k1,kl⟩:w2.cell? ⟨w.heap.size,0,none⟩=some (iV n)∧w2.cell? ⟨w.heap.size,1,none⟩=some (iV d)∧w.heap.size < w2.heap.size:=⟨(hx2.cells.1 _ _ hlt).trans c0,(hx2.cells.1 _ _ hlt).trans c1,Nat.lt_of_lt_of_le hlt hx2.size⟩)
     |(go_at_call_of 105 (iV d);(with_reducible refine (HS2.out _).mono ?_);rintro e w3 ⟨rfl,hx3⟩))
    have HX3:=zH (hx2.trans hx3)
    have h26:=(HX3.out.block _ hlt).trans HC.out
    obtain ⟨hc3,-,hl3⟩:=zC h26
    have d0:=hc3 0;have d1:=hc3 1
    simp only [List.getElem?_toArray,List.getElem?_cons_zero,List.getElem?_cons_succ] at d0 d1
    have HOF1:=zH (fun W=>bof_any n W h1 h2)
    have HOF2:=zH (fun W=>bof_any d W h3 h4)
    clear hc3
    refine Rr.wp_regionE [9] [(0,.y),(1,.y),(3,.y),(4,.y),(2,.z),(5,.z),(6,.y),(7,.y),(8,.y),(9,.y),(10,.m)] (fun _=>(.cells #[iV 0,iV 0] 30,Rg.ptr)) (fun c a d v w h=>by have h':_∧_:=h;exact ⟨(Rr.put_defers a d v).symm.trans h'.1,h'.2⟩) (by kernel_rfl) (by kernel_rfl) ?_
    iterate 4
     refine Rr.y1 ?_
    refine Rr.z3 (fun v w'=>BgR w' v (decide (n < 0)) (ofL n.natAbs)) (fun wz hw hh=>HOF1.out wz) (fun u=>?_)
    refine Rr.z3 (fun v w'=>BgR w' v (decide (d < 0)) (ofL d.natAbs)) (fun wz hw hh=>HOF2.out wz) (fun u=>?_)
    refine Rr.yd ⟨.tuple #[.agg #[iV r1,iV r2],.bool r3],fun wz hw hh=>?_,?_⟩
    ·go_simp
     apply Rg.up_enter
     (refine (HLO.out wz _ _ (hold1 hh) (hold0 hh)).mono ?_)
     rintro e w4 ⟨rfl,hb4⟩
     exact ⟨rfl,hb4⟩
    simp only [zp]
    iterate 3
     refine Rr.y1 ?_
    refine Rr.wr_m (by simp only [ga,gb,gc];rfl) (by rfl) (fun wz=>by go_simp) (fun pm hpm=>?_)
    simp only [zp]
    refine Rr.wr_nil ?_
    intro wy hy hh
    obtain ⟨-,hb1,hb2⟩:=hh _ zM
    simp only [gg,gh,gi,gj,Nat.reduceAdd]
    refine wpList_store_row (hgd:=rfl) 30 (.tmp 3) (.tmp 31) rfl pm (by rfl) #[iV r1,iV r2] (by rfl) #[iV 0,iV 0] 30 hb2 (by rfl) (by kernel_rfl) (by simp [Value.oneCell']) ?_
    have hbc:=setRow_heap wy pm _ #[iV r1,iV r2] 30 _ hb2
    have hxc:=below_setRow hy hb1 #[iV r1,iV r2]
    generalize wy.setRow pm #[iV r1,iV r2]=W9 at *
    have h27:=(Below.block hxc _ (zL h26)).trans h26
    obtain ⟨hc9,-,hl9⟩:=zC h27
    obtain ⟨hcm,-,hlm⟩:=zC hbc
    have t0:W9.cell? ⟨w.heap.size,0,none⟩=some (iV n):=hc9 0
    have t1:W9.cell? ⟨w.heap.size,1,none⟩=some (iV d):=hc9 1
    have t2:W9.cell? ⟨pm,0,none⟩=some (iV r1):=hcm 0
    have t3:W9.cell? ⟨pm,1,none⟩=some (iV r2):=hcm 1
    have HX9:=zH (HX1.out.trans (HX3.out.trans hxc))
    clear hh hb2 hy hbc hxc h27 hc9 hcm d0 d1 h26 hl3 HX3
    cases r3
    ·go_wp2
     go_ret
     exact ⟨by rw [HB.out];rfl,HX9.out⟩
    ·by_cases e1:n=r1
     ·by_cases e2:d=r2
      ·have HB2:Hid (rightB n d=true):=zH (by rw [HB.out];simp [e1,e2])
       go_wp2
       go_ret
       exact ⟨by rw [HB2.out];rfl,HX9.out⟩
      ·have HB2:Hid (rightB n d=false):=zH (by rw [HB.out];simp [e2])
       go_wp2
       go_ret
       exact ⟨by rw [HB2.out];rfl,HX9.out⟩
     ·have HB2:Hid (rightB n d=false):=zH (by rw [HB.out];simp [e1])
      go_wp2
      go_ret
      exact ⟨by rw [HB2.out];rfl,HX9.out⟩
   ·have hs1':smB n=false:=by simpa using hs1
    rw [hs1'] at HS1
    clear hs hs1 hs1'
    go_in
    go_upto_region 5 with (go_at_call_of 105 (iV n);(refine (HS1.out _).mono ?_);rintro e w2 ⟨rfl,hx2⟩)
    have HX3:=zH (hx2)
    have h26:=(HX3.out.block _ hlt).trans HC.out
    obtain ⟨hc3,-,hl3⟩:=zC h26
    have d0:=hc3 0;have d1:=hc3 1
    simp only [List.getElem?_toArray,List.getElem?_cons_zero,List.getElem?_cons_succ] at d0 d1
    have HOF1:=zH (fun W=>bof_any n W h1 h2)
    have HOF2:=zH (fun W=>bof_any d W h3 h4)
    clear hc3
    refine Rr.wp_regionE [9] [(0,.y),(1,.y),(3,.y),(4,.y),(2,.z),(5,.z),(6,.y),(7,.y),(8,.y),(9,.y),(10,.m)] (fun _=>(.cells #[iV 0,iV 0] 30,Rg.ptr)) (fun c a d v w h=>by have h':_∧_:=h;exact ⟨(Rr.put_defers a d v).symm.trans h'.1,h'.2⟩) (by kernel_rfl) (by kernel_rfl) ?_
    iterate 4
     refine Rr.y1 ?_
    refine Rr.z3 (fun v w'=>BgR w' v (decide (n < 0)) (ofL n.natAbs)) (fun wz hw hh=>HOF1.out wz) (fun u=>?_)
    refine Rr.z3 (fun v w'=>BgR w' v (decide (d < 0)) (ofL d.natAbs)) (fun wz hw hh=>HOF2.out wz) (fun u=>?_)
    refine Rr.yd ⟨.tuple #[.agg #[iV r1,iV r2],.bool r3],fun wz hw hh=>?_,?_⟩
    ·go_simp
     apply Rg.up_enter
     (refine (HLO.out wz _ _ (hold1 hh) (hold0 hh)).mono ?_)
     rintro e w4 ⟨rfl,hb4⟩
     exact ⟨rfl,hb4⟩
    simp only [zp]
    iterate 3
     refine Rr.y1 ?_
    refine Rr.wr_m (by simp only [ga,gb,gc];rfl) (by rfl) (fun wz=>by go_simp) (fun pm hpm=>?_)
    simp only [zp]
    refine Rr.wr_nil ?_
    intro wy hy hh
    obtain ⟨-,hb1,hb2⟩:=hh _ zM
    simp only [gg,gh,gi,gj,Nat.reduceAdd]
    refine wpList_store_row (hgd:=rfl) 30 (.tmp 3) (.tmp 31) rfl pm (by rfl) #[iV r1,iV r2] (by rfl) #[iV 0,iV 0] 30 hb2 (by rfl) (by kernel_rfl) (by simp [Value.oneCell']) ?_
    have hbc:=setRow_heap wy pm _ #[iV r1,iV r2] 30 _ hb2
    have hxc:=below_setRow hy hb1 #[iV r1,iV r2]
    generalize wy.setRow pm #[iV r1,iV r2]=W9 at *
    have h27:=(Below.block hxc _ (zL h26)).trans h26
    obtain ⟨hc9,-,hl9⟩:=zC h27
    obtain ⟨hcm,-,hlm⟩:=zC hbc
    have t0:W9.cell? ⟨w.heap.size,0,none⟩=some (iV n):=hc9 0
    have t1:W9.cell? ⟨w.heap.size,1,none⟩=some (iV d):=hc9 1
    have t2:W9.cell? ⟨pm,0,none⟩=some (iV r1):=hcm 0
    have t3:W9.cell? ⟨pm,1,none⟩=some (iV r2):=hcm 1
    have HX9:=zH (HX1.out.trans (HX3.out.trans hxc))
    clear hh hb2 hy hbc hxc h27 hc9 hcm d0 d1 h26 hl3 HX3
    cases r3
    ·go_wp2
     go_ret
     exact ⟨by rw [HB.out];rfl,HX9.out⟩
    ·by_cases e1:n=r1
     ·by_cases e2:d=r2
      ·have HB2:Hid (rightB n d=true):=zH (by rw [HB.out];simp [e1,e2])
       go_wp2
       go_ret
       exact ⟨by rw [HB2.out];rfl,HX9.out⟩
      ·have HB2:Hid (rightB n d=false):=zH (by rw [HB.out];simp [e2])
       go_wp2
       go_ret
       exact ⟨by rw [HB2.out];rfl,HX9.out⟩
     ·have HB2:Hid (rightB n d=false):=zH (by rw [HB.out];simp [e1])
      go_wp2
      go_ret
      exact ⟨by rw [HB2.out];rfl,HX9.out⟩
end Go.Proofs.YteomcpplajeidaaGreat
