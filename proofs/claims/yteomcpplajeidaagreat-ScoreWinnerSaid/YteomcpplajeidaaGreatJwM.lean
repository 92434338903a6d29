/-
  Lemmas of this claim (JwM). Nothing is asked.
-/
import Derived.Test.YteomcpplajeidaaGreatJwL
set_option linter.unusedVariables false
set_option linter.unusedSimpArgs false
set_option maxRecDepth 100000
set_option maxHeartbeats 40000000
namespace Go.Proofs.YteomcpplajeidaaGreat
open Go.RowKit
def timesL (l m:List Int):List Int:=trimL (mulL l m (List.replicate (l.length+m.length) 0))
theorem dv_zeros (n:Nat):dv (List.replicate n 0)=0:=by
 induction n with
 | zero=>rfl
 | succ n ih=>rw [List.replicate_succ,dv,ih];rfl
theorem timesL_spec (l m:List Int) (h:Dg l) (h':Dg m):Dg (timesL l m)∧Tr (timesL l m)∧dv (timesL l m)=dv l * dv m∧(timesL l m).length≤l.length+m.length:=by
 obtain ⟨q1,q2,q3⟩:=mulL_spec l m (List.replicate (l.length+m.length) 0) h h' (fun d hd=>by rw [List.eq_of_mem_replicate hd];omega) (by simp) (fun k hk _=>by simp)
 obtain ⟨r1,r2,r3,r4⟩:=trimL_spec _ q1
 refine ⟨r1,r2,?_,?_⟩
 ·unfold timesL;rw [r3,q2,dv_zeros];omega
 ·unfold timesL;rw [q3,List.length_replicate] at r4;exact r4
theorem by_any (l:List Int) (d:Int) (w:World) (v:Value) (h:DR w v l) (hl:l.length≤100) (hd:0≤d∧d < 65536) :
 Calls Tryz.prog 192 #[v,iV d] w fun e w'=>∃ x,e=.returned x∧Ext w w'∧DR w' x (timesL l [d]):=by
 obtain ⟨A,ca,rfl⟩:=h.form
 have HA:=zH h
 have hZ:BZ (w.alloc (.cells #[iV d] 3)) w.heap.size [d]:=block_new rfl
 have hx1:Ext w (w.alloc (.cells #[iV d] 3)):=xt
 have HD:=zH (show DR _ (.slice (some ⟨w.heap.size,0,none⟩) 1 1) [d] from hZ.dr (by simp) (Dg.cons hd Dg.nil))
 have HX:=zH hx1
 clear h hZ hx1
 go_in
 go_wp2_with (go_at_call 129;(refine (times_any l [d] _ _ _ (HA.out.ext HX.out) HD.out hl (by simp)).mono ?_);rintro e w8 ⟨x8,rfl,hx8,hd8⟩)
 go_ret
 exact ⟨_,rfl,HX.out.trans hx8,hd8⟩
def ofF:Nat→Int→List Int
 | 0,_=>[]
 | f+1,m=>if 0 < m then m % 65536 :: ofF f (m / 65536) else []
theorem ofF_spec:∀ (f:Nat) (m:Int),0≤m→m < 65536 ^ f→Dg (ofF f m)∧Tr (ofF f m)∧dv (ofF f m)=m∧(ofF f m).length≤f
 | 0,m,h0,h1=>⟨Dg.nil,.inl rfl,by simp at h1;simp [ofF,dv];omega,Nat.le_refl _⟩
 | f+1,m,h0,h1=>by
  rw [ofF]
  split
  ·rw [Int.pow_succ] at h1
   obtain ⟨q1,q2,q3,q4⟩:=ofF_spec f (m / 65536) (by omega) (by omega)
   refine ⟨Dg.cons (by omega) q1,?_,by rw [dv,q3];omega,by simp;omega⟩
   rcases q2 with h|⟨p,d,h,hn⟩
   ·rw [h] at q3 ⊢
    exact .inr ⟨[],m % 65536,rfl,by simp only [dv] at q3;omega⟩
   ·exact .inr ⟨m % 65536 :: p,d,by rw [h];rfl,hn⟩
  ·exact ⟨Dg.nil,.inl rfl,by simp only [dv];omega,by simp⟩
def ofL (m:Int):List Int:=ofF 4 m
theorem ofL_spec (m:Int) (h0:0≤m) (h1:m≤18446744073709551615):Dg (ofL m)∧Tr (ofL m)∧dv (ofL m)=m∧(ofL m).length≤4:=ofF_spec 4 m h0 (by omega)
theorem OZ.form {B:Nat} {w:World} {v:Value} {os:List Int} (h:OZ B w v os):∃ A cap,v=.slice A os.length cap:=by
 rcases h.2 with ⟨hv,h0⟩|⟨g,cap,cur,hv,-⟩
 ·exact ⟨none,0,by rw [hv,h0]⟩
 ·exact ⟨_,cap,hv⟩
theorem OZ.keep {B:Nat} {w w':World} {v:Value} {os:List Int} (ho:OZ B w v os) (h:∀ g,B≤g→w'.heap[g]? = w.heap[g]?):OZ B w' v os:=by
 refine ⟨ho.1,?_⟩
 rcases ho.2 with hn|⟨g,cap,cur,hv,hb,hg,rest⟩
 ·exact .inl hn
 ·exact .inr ⟨g,cap,cur,hv,hb,(h g hb).trans hg,rest⟩
def BgR (w:World) (v:Value) (s:Bool) (l:List Int):Prop:=∃ x:Sl,v=.agg #[.bool s,slV x]∧DR w (slV x) l
theorem BgR.ext {w w':World} {v:Value} {s:Bool} {l:List Int} (h:BgR w v s l) (e:Ext w w'):BgR w' v s l:=by
 obtain ⟨x,h1,h2⟩:=h;exact ⟨x,h1,h2.ext e⟩
def OfI (z:Int) (w:World) (p:Nat) (l m:Value) (wr:World):Prop:=
 ∃ (f:Nat) (y:Int) (os:List Int),m=.int .u64 y∧0≤y∧y≤18446744073709551615∧y < 65536 ^ f∧f≤4∧OZ (w.heap.size+1) wr l os∧os.length+f=4∧ofL (z.natAbs:Int)=os ++ ofF f y∧wr.heap[p]? = some (.cells #[.bool false,.slice none 0 0] 150)∧Ext w wr
theorem bof_any (z:Int) (w:World) (h1:-9223372036854775808≤z) (h2:z≤9223372036854775807) :
 Calls Tryz.prog 83 #[iV z] w fun e w'=>∃ v,e=.returned v∧Ext w w'∧BgR w' v (decide (z < 0)) (ofL z.natAbs):=by
 by_cases hneg:z < 0
 ·have hw1:IntKind.u64.wrap z=z+18446744073709551616:=by rw [IntKind.wrap_u64];omega
  have hw2:IntKind.u64.wrap (-(z+18446744073709551616)) = -z:=by rw [IntKind.wrap_u64];omega
  have HW:=zH (show Value.int .u64 (-z)=Value.int .u64 (z.natAbs:Int) by congr 1;omega)
  go_in
  go_wp2_with (fail)
  go_loopw [3,4] (fun l m wr=>OfI z w w.heap.size l m wr) (fun _ m _=>(intOf m).toNat)
  case atStart=>
   unfold OfI
   exact ⟨4,z.natAbs,[],by first|exact HW.out|rfl,by omega,by omega,by omega,by omega,OZ.nil _ _,rfl,rfl,block_new rfl,xt⟩
  case round=>
   unfold OfI at hrel
   obtain ⟨f,y,os,rfl,hy0,hy1,hyf,hf,hF,hl,hE,hp,hx⟩:=hrel
   have HF:=zH hF
   have HE:=zH hE
   have HP:=zH hp
   have HL:=zH hl
   clear hF hE hp hl
   by_cases hpos:0 < y
   ·obtain ⟨f,rfl⟩:∃ g,f=g+1:=by
     rcases f with _|g
     ·simp at hyf;omega
     ·exact ⟨g,rfl⟩
    have HYF:=zH (show y / 65536 < 65536 ^ f by rw [Int.pow_succ] at hyf;omega)
    have HS:=zH (show ofF (f+1) y=y % 65536 :: ofF f (y / 65536) by rw [ofF,if_pos hpos])
    clear hyf
    have k4:y.tmod 65536=y % 65536:=Int.tmod_eq_emod_of_nonneg (by omega)
    have k5:y.tdiv 65536=y / 65536:=Int.tdiv_eq_ediv_of_nonneg (by omega)
    have k6:=wz (y % 65536) (by omega)
    have k7:IntKind.u64.wrap (y % 65536)=y % 65536:=by rw [IntKind.wrap_u64];omega
    have k8:IntKind.u64.wrap (y / 65536)=y / 65536:=by rw [IntKind.wrap_u64];omega
    go_wp2_with (at_builtin;refine append_z rfl (.tmp 13) (.tmp 17) rfl (w.heap.size+1) _ os (by rfl) (HF.out.ext xt) wr.heap.size (y % 65536) (by rfl) (block_new (by simp)) (by have:=HL.out;omega) (by have:=zL HP.out;simp;omega) ?_;intro g7 cap7 w7 hF7 hb7)
    have HF7:=zH hF7
    clear hF7
    go_wp2
    go_roundw
    case rel=>
     unfold OfI
     exact ⟨f,y / 65536,os ++ [y % 65536],rfl,by omega,by omega,HYF.out,by omega,HF7.out,by have:=HL.out;simp;omega,by rw [HE.out,HS.out];simp,(hb7.block _ (by omega)).trans ((Below.heap_alloc _ _ _ (by exact zL HP.out)).trans HP.out),Below.trans (hx.trans (xt:Ext wr (wr.alloc (.cells #[iV (y % 65536)] 3)))) (hb7.mono (by omega))⟩
    case measure=>simp [intOf];omega
   ·have hy:y=0:=by omega
    subst hy
    have HD:=zH (show OZ (w.heap.size+1) wr _ (ofL z.natAbs) by
     have h1:=HE.out
     rw [show ofF f 0=[] by cases f <;> simp [ofF],List.append_nil] at h1
     rw [h1]
     exact HF.out)
    have HS4:=zH (ofL_spec z.natAbs (by omega) (by omega))
    obtain ⟨A3,c3,rfl⟩:=HD.out.form
    have HN:=zH (show (ofL z.natAbs).length=(ofL z.natAbs).length from rfl)
    revert HN
    generalize hn3:(ofL z.natAbs).length=n3 at *
    intro HN
    obtain ⟨hc,hf,hl⟩:=zC HP.out
    have f0:=hf 0
    have f1:=hf 1
    have c0:=hc 0
    have c1:=hc 1
    have hR:((wr.setCell ⟨w.heap.size,0,none⟩ (.bool true)).setCell ⟨w.heap.size,1,none⟩ (.slice A3 n3 c3)).heap[w.heap.size]? = some (.cells #[.bool true,.slice A3 n3 c3] 150):=heap_setCell_same _ _ 1 _ 150 _ (heap_setCell_same _ _ 0 _ 150 _ HP.out)
    have HR:=zH hR
    clear hc hf hR
    go_wp2
    refine bodyPost_ret (v:=.agg #[.bool true,.slice A3 n3 c3]) (results_cell_row Tryz.results83 _ _ w.heap.size 150 _ _ _ (by rfl) HR.out Tryz.underlying150 rfl (by kernel_rfl)) rfl ⟨_,rfl,Below.setCell (Below.setCell hx (by show _≤w.heap.size;omega) _) (by show _≤w.heap.size;omega) _,(A3,n3,c3),rfl,?_⟩
    exact OZ.dr (B:=w.heap.size+1) (OZ.keep HD.out (fun g hg=>(heap_setCell_other _ ⟨w.heap.size,1,none⟩ _ _ (by show g≠w.heap.size;omega)).trans (heap_setCell_other _ ⟨w.heap.size,0,none⟩ _ _ (by show g≠w.heap.size;omega)))) (by have:=HS4.out.2.2.2;omega) HS4.out.1
 ·have hw1:IntKind.u64.wrap z=z:=by rw [IntKind.wrap_u64];omega
  have HW:=zH (show Value.int .u64 z=Value.int .u64 (z.natAbs:Int) by congr 1;omega)
  go_in
  go_wp2_with (fail)
  go_loopw [3,4] (fun l m wr=>OfI z w w.heap.size l m wr) (fun _ m _=>(intOf m).toNat)
  case atStart=>
   unfold OfI
   exact ⟨4,z.natAbs,[],by first|exact HW.out|rfl,by omega,by omega,by omega,by omega,OZ.nil _ _,rfl,rfl,block_new rfl,xt⟩
  case round=>
   unfold OfI at hrel
   obtain ⟨f,y,os,rfl,hy0,hy1,hyf,hf,hF,hl,hE,hp,hx⟩:=hrel
   have HF:=zH hF
   have HE:=zH hE
   have HP:=zH hp
   have HL:=zH hl
   clear hF hE hp hl
   by_cases hpos:0 < y
   ·obtain ⟨f,rfl⟩:∃ g,f=g+1:=by
     rcases f with _|g
     ·simp at hyf;omega
     ·exact ⟨g,rfl⟩
    have HYF:=zH (show y / 65536 < 65536 ^ f by rw [Int.pow_succ] at hyf;omega)
    have HS:=zH (show ofF (f+1) y=y % 65536 :: ofF f (y / 65536) by rw [ofF,if_pos hpos])
    clear hyf
    have k4:y.tmod 65536=y % 65536:=Int.tmod_eq_emod_of_nonneg (by omega)
    have k5:y.tdiv 65536=y / 65536:=Int.tdiv_eq_ediv_of_nonneg (by omega)
    have k6:=wz (y % 65536) (by omega)
    have k7:IntKind.u64.wrap (y % 65536)=y % 65536:=by rw [IntKind.wrap_u64];omega
    have k8:IntKind.u64.wrap (y / 65536)=y / 65536:=by rw [IntKind.wrap_u64];omega
    go_wp2_with (at_builtin;refine append_z rfl (.tmp 13) (.tmp 17) rfl (w.heap.size+1) _ os (by rfl) (HF.out.ext xt) wr.heap.size (y % 65536) (by rfl) (block_new (by simp)) (by have:=HL.out;omega) (by have:=zL HP.out;simp;omega) ?_;intro g7 cap7 w7 hF7 hb7)
    have HF7:=zH hF7
    clear hF7
    go_wp2
    go_roundw
    case rel=>
     unfold OfI
     exact ⟨f,y / 65536,os ++ [y % 65536],rfl,by omega,by omega,HYF.out,by omega,HF7.out,by have:=HL.out;simp;omega,by rw [HE.out,HS.out];simp,(hb7.block _ (by omega)).trans ((Below.heap_alloc _ _ _ (by exact zL HP.out)).trans HP.out),Below.trans (hx.trans (xt:Ext wr (wr.alloc (.cells #[iV (y % 65536)] 3)))) (hb7.mono (by omega))⟩
    case measure=>simp [intOf];omega
   ·have hy:y=0:=by omega
    subst hy
    have HD:=zH (show OZ (w.heap.size+1) wr _ (ofL z.natAbs) by
     have h1:=HE.out
     rw [show ofF f 0=[] by cases f <;> simp [ofF],List.append_nil] at h1
     rw [h1]
     exact HF.out)
    have HS4:=zH (ofL_spec z.natAbs (by omega) (by omega))
    obtain ⟨A3,c3,rfl⟩:=HD.out.form
    have HN:=zH (show (ofL z.natAbs).length=(ofL z.natAbs).length from rfl)
    revert HN
    generalize hn3:(ofL z.natAbs).length=n3 at *
    intro HN
    obtain ⟨hc,hf,hl⟩:=zC HP.out
    have f0:=hf 0
    have f1:=hf 1
    have c0:=hc 0
    have c1:=hc 1
    have hR:((wr.setCell ⟨w.heap.size,0,none⟩ (.bool (decide (z < 0)))).setCell ⟨w.heap.size,1,none⟩ (.slice A3 n3 c3)).heap[w.heap.size]? = some (.cells #[.bool (decide (z < 0)),.slice A3 n3 c3] 150):=heap_setCell_same _ _ 1 _ 150 _ (heap_setCell_same _ _ 0 _ 150 _ HP.out)
    have HR:=zH hR
    clear hc hf hR
    go_wp2
    refine bodyPost_ret (v:=.agg #[.bool (decide (z < 0)),.slice A3 n3 c3]) (results_cell_row Tryz.results83 _ _ w.heap.size 150 _ _ _ (by rfl) HR.out Tryz.underlying150 rfl (by kernel_rfl)) rfl ⟨_,rfl,Below.setCell (Below.setCell hx (by show _≤w.heap.size;omega) _) (by show _≤w.heap.size;omega) _,(A3,n3,c3),rfl,?_⟩
    exact OZ.dr (B:=w.heap.size+1) (OZ.keep HD.out (fun g hg=>(heap_setCell_other _ ⟨w.heap.size,1,none⟩ _ _ (by show g≠w.heap.size;omega)).trans (heap_setCell_other _ ⟨w.heap.size,0,none⟩ _ _ (by show g≠w.heap.size;omega)))) (by have:=HS4.out.2.2.2;omega) HS4.out.1
def fitZ (s:Bool) (n:Int):Int×Bool:=if s=true∧n≤9223372036854775808 then (-n,true) else if 9223372036854775808≤n then (0,false) else (n,true)
theorem fit_any (s:Bool) (l:List Int) (w:World) (v:Value) (h:BgR w v s l) :
 Calls Tryz.prog 156 #[v] w fun e w'=>e=.returned (.tuple #[iV (fitZ s (dv l)).1,.bool (fitZ s (dv l)).2])∧Ext w w':=by
 obtain ⟨⟨A,n0,ca⟩,rfl,hA⟩:=h
 have HA:=zH hA
 obtain ⟨q1,q2,q3,q4⟩:=trimL_spec l hA.dg
 have HQ:=zH (show Dg (trimL l)∧Tr (trimL l) from ⟨q1,q2⟩)
 have HB:=zH (show 4 < (trimL l).length→18446744073709551616≤dv l by
  intro h4
  have h5:=q2.ge q1 (by intro e;rw [e] at h4;simp at h4)
  have h6:=pow_mono (a:=4) (b:=(trimL l).length - 1) (by omega)
  rw [q3] at h5
  omega)
 have HS:=zH (show (trimL l).length≤4→dv l < 18446744073709551616 by
  intro h4
  have h5:=dv_lt q1
  have h6:=pow_mono (a:=(trimL l).length) (b:=4) h4
  rw [q3] at h5
  omega)
 have HV:=zH q3
 have h100:(trimL l).length≤1000:=Nat.le_trans q4 hA.le
 clear q1 q2 q3 q4 hA
 have HTr:=zH (fun w v h=>trim_any l w v h)
 generalize trimL l=t at *
 generalize dv l=n at *
 have hC:(w.alloc (.cells #[.bool s,.slice A n0 ca] 150)).heap[w.heap.size]? = some (.cells #[.bool s,.slice A n0 ca] 150):=block_new rfl
 obtain ⟨hc,hf,hlt⟩:=zC hC
 have c0:=hc 0
 have c1:=hc 1
 have HX:=zH (xt:Ext w (w.alloc (.cells #[.bool s,.slice A n0 ca] 150)))
 go_in
 go_upto_region 2 with (go_at_call 85;(refine (HTr.out _ _ (HA.out.ext HX.out)).mono ?_);rintro e w1 ⟨x1,rfl,hx1,hd1⟩)
 have c0':=(hx1.cells.1 _ _ hlt).trans c0
 have hlt':=Nat.lt_of_lt_of_le hlt hx1.size
 have HD:=zH hd1
 have HXw:=zH (HX.out.trans hx1)
 obtain ⟨A1,k1,rfl⟩:=hd1.form
 have hp0:(#[Value.bool s,Value.slice A n0 ca][0]?:Option Value)=some (.bool s):=rfl
 rw [hp0] at c0'
 clear hc hf c0 c1 hC hd1 HTr HA HX hp0 hlt
 by_cases h4:4 < t.length
 ·have hE:=zH (show fitZ s n=(0,false) by
   have:=HB.out h4
   unfold fitZ;rw [if_neg (by omega),if_pos (by omega)])
  have k2:(4:Int) < (t.length:Int):=by omega
  go_wp2
  go_ret2
  exact ⟨by rw [hE.out];rfl,HXw.out⟩
 ·have k2:¬ (4:Int) < (t.length:Int):=by omega
  have hnb:=HS.out (by omega)
  generalize w.heap.size=pc at *
  go_wp2_with (fail)
  go_loopw [5,6] (fun m k wr=>∃ j:Nat,k=iV ((j:Int) - 1)∧j≤t.length∧m=.int .u64 (dv (t.drop j))∧wr=w1) (fun _ k _=>(intOf k+1).toNat)
  case atStart=>exact ⟨t.length,by go_num,Nat.le_refl _,by rw [List.drop_eq_nil_of_le (Nat.le_refl _)];rfl,rfl⟩
  case round=>
   obtain ⟨j,rfl,hj,rfl,rfl⟩:=hrel
   rcases j with _|j
   ·have hn0:dv (t.drop 0)=n:=HV.out
    have hnn:0≤n:=by rw [← hn0];exact dv_nonneg HQ.out.1
    rw [hn0]
    clear hn0
    cases s
    ·by_cases hbig:9223372036854775808≤n
     ·have hE:=zH (show fitZ false n=(0,false) by unfold fitZ;rw [if_neg (by simp),if_pos hbig])
      go_wp2
      go_ret2
      exact ⟨by rw [hE.out];rfl,HXw.out⟩
     ·have hE:=zH (show fitZ false n=(n,true) by unfold fitZ;rw [if_neg (by simp),if_neg hbig])
      have k6:=wz n (by omega)
      go_wp2
      go_ret2
      exact ⟨by rw [hE.out];rfl,HXw.out⟩
    ·by_cases hsm:n≤9223372036854775808
     ·have hE:=zH (show fitZ true n=(-n,true) by unfold fitZ;rw [if_pos ⟨rfl,hsm⟩])
      have k6:IntKind.i64.wrap (IntKind.u64.wrap (-n)) = -n:=by rw [IntKind.wrap_u64,IntKind.wrap_i64];omega
      go_wp2
      go_ret2
      exact ⟨by rw [hE.out];rfl,HXw.out⟩
     ·have hE:=zH (show fitZ true n=(0,false) by unfold fitZ;rw [if_neg (by omega),if_pos (by omega)])
      have k6:9223372036854775808≤n:=by omega
      go_wp2
      go_ret2
      exact ⟨by rw [hE.out];rfl,HXw.out⟩
   ·obtain ⟨b,off,rfl,-,hcs⟩:=HD.out.block j (by omega)
    have hc:=hcs j (by omega)
    have hb:=zB _ _ hc
    have hdd:=HQ.out.1.at j (by omega)
    have HE:=zH (show dv (t.drop j)=t[j]+65536 * dv (t.drop (j+1)) by rw [List.drop_eq_getElem_cons (show j < t.length by omega),dv])
    have h5:=dv_lt (HQ.out.1.drop j)
    have h6:=pow_mono (a:=(t.drop j).length) (b:=4) (by rw [List.length_drop];omega)
    have h7:=dv_nonneg (HQ.out.1.drop (j+1))
    have k3:((j+1:Nat):Int) - 1=(j:Int):=by omega
    rw [k3]
    have k4:(j:Int) < (t.length:Int):=by omega
    have k5:(0:Int)≤(j:Int):=by omega
    generalize hz:t[j]=z at *
    rw [HE.out] at h5
    generalize dv (t.drop (j+1))=D at *
    have k6:IntKind.u64.wrap (D * 65536)=D * 65536:=by rw [IntKind.wrap_u64];omega
    have k7:IntKind.u64.wrap z=z:=by rw [IntKind.wrap_u64];omega
    have k8:IntKind.u64.wrap (D * 65536+z)=D * 65536+z:=by rw [IntKind.wrap_u64];omega
    clear h5 h6 hcs hz k3
    go_wp2
    go_roundw
    case rel=>exact ⟨j,by go_num,by omega,by rw [HE.out];congr 1;omega,trivial⟩
    case measure=>simp [intOf]
theorem DR.set {w:World} {v:Value} {l:List Int} (h:DR w v l) {p:Nat} {a:Bool} {x:Option Addr} {y z:Nat} (hp:w.heap[p]? = some (.cells #[.bool a,.slice x y z] 150)) (i:Nat) (u:Value):DR (w.setCell ⟨p,i,none⟩ u) v l:=by
 obtain ⟨A,cap,h1,h2,h3,h5,h4⟩:=h
 refine ⟨A,cap,h1,h2,h3,h5,h4.imp id fun ⟨b,off,ha,hc⟩=>⟨b,off,ha,fun k hk=>?_⟩⟩
 have hk1:=hc k hk
 by_cases hb:b=p
 ·subst hb
  rw [(zC hp).1] at hk1
  exfalso
  match off+k,hk1 with
  | 0,h=>simp at h
  | 1,h=>simp at h
  | n+2,h=>simp at h
 ·rw [← hk1]
  unfold World.cell?
  simp only
  rw [heap_setCell_other w ⟨p,i,none⟩ b u hb]
theorem bmul_any (s t:Bool) (l m:List Int) (w:World) (v u:Value) (h:BgR w v s l) (h':BgR w u t m) (hl:l.length≤100) (hm:m.length≤100) :
 Calls Tryz.prog 82 #[v,u] w fun e w'=>∃ x,e=.returned x∧Ext w w'∧BgR w' x (s != t) (timesL l m):=by
 obtain ⟨⟨A,n0,ca⟩,rfl,hA⟩:=h
 obtain ⟨⟨B,n1,cb⟩,rfl,hB⟩:=h'
 have HA:=zH hA
 have HB:=zH hB
 clear hA hB
 show Calls Tryz.prog 82 #[.agg #[.bool s,.slice A n0 ca],.agg #[.bool t,.slice B n1 cb]] w _
 replace HA:Hid (DR w (.slice A n0 ca) l):=HA
 replace HB:Hid (DR w (.slice B n1 cb) m):=HB
 go_in
 go_upto_region 1 with (fail)
 have hW:Ext w (((w.alloc (.cells #[.bool s,.slice A n0 ca] 150)).alloc (.cells #[.bool t,.slice B n1 cb] 150)).alloc (.cells #[.bool false,.slice none 0 0] 150)):=xt
 have hC0:(((w.alloc (.cells #[.bool s,.slice A n0 ca] 150)).alloc (.cells #[.bool t,.slice B n1 cb] 150)).alloc (.cells #[.bool false,.slice none 0 0] 150)).heap[w.heap.size]? = some (.cells #[.bool s,.slice A n0 ca] 150):=by
  rw [Below.heap_alloc _ _ _ (by simp;omega),Below.heap_alloc _ _ _ (by simp)];exact block_new rfl
 have hC1:(((w.alloc (.cells #[.bool s,.slice A n0 ca] 150)).alloc (.cells #[.bool t,.slice B n1 cb] 150)).alloc (.cells #[.bool false,.slice none 0 0] 150)).heap[w.heap.size+1]? = some (.cells #[.bool t,.slice B n1 cb] 150):=by
  rw [Below.heap_alloc _ _ _ (by simp)];exact block_new (by simp)
 have hC2:(((w.alloc (.cells #[.bool s,.slice A n0 ca] 150)).alloc (.cells #[.bool t,.slice B n1 cb] 150)).alloc (.cells #[.bool false,.slice none 0 0] 150)).heap[w.heap.size+1+1]? = some (.cells #[.bool false,.slice none 0 0] 150):=block_new (by simp)
 generalize ((w.alloc (.cells #[.bool s,.slice A n0 ca] 150)).alloc (.cells #[.bool t,.slice B n1 cb] 150)).alloc (.cells #[.bool false,.slice none 0 0] 150)=W at *
 obtain ⟨p,hp⟩:∃ p,p=w.heap.size:=⟨_,rfl⟩
 rw [← hp] at hC0 hC1 hC2 ⊢
 have HP:=zH hp
 have HWx:=zH hW
 have HC2:=zH hC2
 obtain ⟨e0,-,el⟩:=zC hC0
 obtain ⟨e1,-,el1⟩:=zC hC1
 have c00:W.cell? ⟨p,0,none⟩=some (.bool s):=e0 0
 have c01:W.cell? ⟨p,1,none⟩=some (.slice A n0 ca):=e0 1
 have c10:W.cell? ⟨p+1,0,none⟩=some (.bool t):=e1 0
 have c11:W.cell? ⟨p+1,1,none⟩=some (.slice B n1 cb):=e1 1
 clear hp hW hC0 hC1 hC2 e0 e1
 refine Rr.rg [(0,.y),(1,.y),(2,.y),(3,.y),(4,.y),(5,.y),(6,.y),(7,.y),(8,.y),(9,.z)] ?_
 iterate 9
  refine Rr.y1 ?_
 refine Rr.zd (fun v w=>DR w v (timesL l m)) (fun v=>DR.keeps _ v) (fun wz hw hh=>?_) (fun u1=>?_)
 ·go_simp
  apply Rr.upR_enter
  (refine (times_any l m _ _ _ (HA.out.ext (HWx.out.trans hw)) (HB.out.ext (HWx.out.trans hw)) hl hm).mono ?_)
  rintro e w3 ⟨v3,rfl,hx3,hr3⟩
  exact ⟨v3,rfl,hx3,hr3⟩
 simp only [zp]
 refine Rr.wr_nil ?_
 intro wy hy hh
 have hu:=hh _ zM
 simp only [gg,gh,gi,gj,Nat.reduceAdd]
 have HU:=zH (show DR wy u1 (timesL l m) from hu)
 obtain ⟨A3,c3,rfl⟩:=HU.out.form
 have HPy:=zH ((hy.block _ (zL HC2.out)).trans HC2.out)
 obtain ⟨hcc,hf,hl2⟩:=zC HPy.out
 have c20:wy.cell? ⟨p+1+1,0,none⟩=some (.bool false):=hcc 0
 have c21:wy.cell? ⟨p+1+1,1,none⟩=some (.slice none 0 0):=hcc 1
 have f0:=hf 0
 have f1:=hf 1
 have HR1:=zH (show (wy.setCell ⟨p+1+1,0,none⟩ (.bool (!s == t))).heap[p+1+1]? = some (.cells #[.bool (!s == t),.slice none 0 0] 150) from heap_setCell_same wy _ 0 _ 150 _ HPy.out)
 have HR:=zH (show ((wy.setCell ⟨p+1+1,0,none⟩ (.bool (!s == t))).setCell ⟨p+1+1,1,none⟩ (.slice A3 (timesL l m).length c3)).heap[p+1+1]? = some (.cells #[.bool (!s == t),.slice A3 (timesL l m).length c3] 150) from heap_setCell_same _ _ 1 _ 150 _ HR1.out)
 have HU2:=zH ((HU.out.set HPy.out 0 (.bool (!s == t))).set HR1.out 1 (.slice A3 (timesL l m).length c3))
 clear hcc hf hu hh c00 c01 c10 c11
 go_wp2
 refine bodyPost_ret (v:=.agg #[.bool (!s == t),.slice A3 (timesL l m).length c3]) (results_cell_row Tryz.results82 _ _ (p+1+1) 150 _ _ _ (by rfl) HR.out Tryz.underlying150 rfl (by kernel_rfl)) rfl ⟨_,rfl,Below.setCell (Below.setCell (HWx.out.trans hy) (by have:=HP.out;show _≤p+1+1;omega) _) (by have:=HP.out;show _≤p+1+1;omega) _,(A3,(timesL l m).length,c3),rfl,HU2.out⟩
def bgSum (s t:Bool) (l m:List Int):Bool×List Int:=
 if s=t then (s,plusL 0 l m) else if dv m≤dv l then (s,trimL (minusL 0 l m)) else (t,trimL (minusL 0 m l))
theorem badd_any (s t:Bool) (l m:List Int) (w:World) (v u:Value) (h:BgR w v s l) (h':BgR w u t m) (hl:l.length≤100) (hm:m.length≤100) :
 Calls Tryz.prog 84 #[v,u] w fun e w'=>∃ x,e=.returned x∧Ext w w'∧BgR w' x (bgSum s t l m).1 (bgSum s t l m).2:=by
 obtain ⟨⟨A,n0,ca⟩,rfl,hA⟩:=h
 obtain ⟨⟨B,n1,cb⟩,rfl,hB⟩:=h'
 have HA:=zH hA
 have HB:=zH hB
 clear hA hB
 show Calls Tryz.prog 84 #[.agg #[.bool s,.slice A n0 ca],.agg #[.bool t,.slice B n1 cb]] w _
 replace HA:Hid (DR w (.slice A n0 ca) l):=HA
 replace HB:Hid (DR w (.slice B n1 cb) m):=HB
 go_in
 go_upto_region 1 with (fail)
 have hW:Ext w (((w.alloc (.cells #[.bool s,.slice A n0 ca] 150)).alloc (.cells #[.bool t,.slice B n1 cb] 150)).alloc (.cells #[.bool false,.slice none 0 0] 150)):=xt
 have hC0:(((w.alloc (.cells #[.bool s,.slice A n0 ca] 150)).alloc (.cells #[.bool t,.slice B n1 cb] 150)).alloc (.cells #[.bool false,.slice none 0 0] 150)).heap[w.heap.size]? = some (.cells #[.bool s,.slice A n0 ca] 150):=by
  rw [Below.heap_alloc _ _ _ (by simp;omega),Below.heap_alloc _ _ _ (by simp)];exact block_new rfl
 have hC1:(((w.alloc (.cells #[.bool s,.slice A n0 ca] 150)).alloc (.cells #[.bool t,.slice B n1 cb] 150)).alloc (.cells #[.bool false,.slice none 0 0] 150)).heap[w.heap.size+1]? = some (.cells #[.bool t,.slice B n1 cb] 150):=by
  rw [Below.heap_alloc _ _ _ (by simp)];exact block_new (by simp)
 have hC2:(((w.alloc (.cells #[.bool s,.slice A n0 ca] 150)).alloc (.cells #[.bool t,.slice B n1 cb] 150)).alloc (.cells #[.bool false,.slice none 0 0] 150)).heap[w.heap.size+1+1]? = some (.cells #[.bool false,.slice none 0 0] 150):=block_new (by simp)
 generalize ((w.alloc (.cells #[.bool s,.slice A n0 ca] 150)).alloc (.cells #[.bool t,.slice B n1 cb] 150)).alloc (.cells #[.bool false,.slice none 0 0] 150)=W at *
 obtain ⟨p,hp⟩:∃ p,p=w.heap.size:=⟨_,rfl⟩
 rw [← hp] at hC0 hC1 hC2 ⊢
 have HP:=zH hp
 have HWx:=zH hW
 have HC2:=zH hC2
 obtain ⟨e0,-,el⟩:=zC hC0
 obtain ⟨e1,-,el1⟩:=zC hC1
 have c00:W.cell? ⟨p,0,none⟩=some (.bool s):=e0 0
 have c01:W.cell? ⟨p,1,none⟩=some (.slice A n0 ca):=e0 1
 have c10:W.cell? ⟨p+1,0,none⟩=some (.bool t):=e1 0
 have c11:W.cell? ⟨p+1,1,none⟩=some (.slice B n1 cb):=e1 1
 clear hp hW hC0 hC1 hC2 e0 e1
 by_cases hst:s=t
 ·subst hst
  have HE:=zH (show bgSum s s l m=(s,plusL 0 l m) by unfold bgSum;rw [if_pos rfl])
  have hq:(s == s)=true:=by simp
  go_upto_region 2 with (fail)
  refine Rr.rg [(0,.y),(1,.y),(2,.y),(3,.y),(4,.y),(5,.y),(6,.z)] ?_
  iterate 6
   refine Rr.y1 ?_
  refine Rr.zd (fun v w=>DR w v (plusL 0 l m)) (fun v=>DR.keeps _ v) (fun wz hw hh=>?_) (fun u1=>?_)
  ·go_simp
   apply Rr.upR_enter
   (refine (plus_any l m _ _ _ (HA.out.ext (HWx.out.trans hw)) (HB.out.ext (HWx.out.trans hw)) hl hm).mono ?_)
   rintro e w3 ⟨v3,rfl,hx3,hr3⟩
   exact ⟨v3,rfl,hx3,hr3⟩
  simp only [zp]
  refine Rr.wr_nil ?_
  intro wy hy hh
  have hu:=hh _ zM
  simp only [gg,gh,gi,gj,Nat.reduceAdd]
  have HU:=zH (show DR wy u1 (plusL 0 l m) from hu)
  obtain ⟨A3,c3,rfl⟩:=HU.out.form
  have HPy:=zH ((hy.block _ (zL HC2.out)).trans HC2.out)
  obtain ⟨hcc,hf,hl2⟩:=zC HPy.out
  have c20:wy.cell? ⟨p+1+1,0,none⟩=some (.bool false):=hcc 0
  have c21:wy.cell? ⟨p+1+1,1,none⟩=some (.slice none 0 0):=hcc 1
  have f0:=hf 0
  have f1:=hf 1
  have HR1:=zH (show (wy.setCell ⟨p+1+1,0,none⟩ (.bool s)).heap[p+1+1]? = some (.cells #[.bool s,.slice none 0 0] 150) from heap_setCell_same wy _ 0 _ 150 _ HPy.out)
  have HR:=zH (show ((wy.setCell ⟨p+1+1,0,none⟩ (.bool s)).setCell ⟨p+1+1,1,none⟩ (.slice A3 (plusL 0 l m).length c3)).heap[p+1+1]? = some (.cells #[.bool s,.slice A3 (plusL 0 l m).length c3] 150) from heap_setCell_same _ _ 1 _ 150 _ HR1.out)
  have HU2:=zH ((HU.out.set HPy.out 0 (.bool s)).set HR1.out 1 (.slice A3 (plusL 0 l m).length c3))
  clear hcc hf hu hh c00 c01 c10 c11
  go_wp2
  refine bodyPost_ret (v:=.agg #[.bool s,.slice A3 (plusL 0 l m).length c3]) (results_cell_row Tryz.results84 _ _ (p+1+1) 150 _ _ _ (by rfl) HR.out Tryz.underlying150 rfl (by kernel_rfl)) rfl ⟨_,rfl,Below.setCell (Below.setCell (HWx.out.trans hy) (by have:=HP.out;show _≤p+1+1;omega) _) (by have:=HP.out;show _≤p+1+1;omega) _,?_⟩
  rw [HE.out]
  exact ⟨(A3,(plusL 0 l m).length,c3),rfl,HU2.out⟩
 ·have hq:(s == t)=false:=by simpa using hst
  obtain ⟨q1,q2,q3,q4⟩:=trimL_spec l HA.out.dg
  obtain ⟨r1,r2,r3,r4⟩:=trimL_spec m HB.out.dg
  have HQ:=zH (show Tr (trimL l)∧Tr (trimL m) from ⟨q2,r2⟩)
  obtain ⟨z,hz⟩:∃ z,z=cmpL (trimL l) (trimL m):=⟨_,rfl⟩
  have HZP:=zH (show dv m≤dv l→0≤z by
   intro h;rw [hz];unfold cmpL;rw [q3,r3,if_neg (by omega)];split <;> omega)
  have HZN:=zH (show dv l < dv m→¬ 0≤z by
   intro h;rw [hz];unfold cmpL;rw [q3,r3,if_pos h];omega)
  have HZ:=zH hz
  clear q1 q2 q3 q4 r1 r2 r3 r4 hz
  go_upto_region 3 with (fail)
  refine Rr.rg [(0,.y),(1,.y),(3,.y),(4,.y),(2,.z),(5,.z),(6,.y)] ?_
  iterate 4
   refine Rr.y1 ?_
  refine Rr.zd (fun v w=>DR w v (trimL l)) (fun v=>DR.keeps _ v) (fun wz hw hh=>?_) (fun u1=>?_)
  ·go_simp
   apply Rr.upR_enter
   (refine (trim_any l _ _ (HA.out.ext (HWx.out.trans hw))).mono ?_)
   rintro e w3 ⟨v3,rfl,hx3,hr3⟩
   exact ⟨v3,rfl,hx3,hr3⟩
  simp only [zp]
  refine Rr.zd (fun v w=>DR w v (trimL m)) (fun v=>DR.keeps _ v) (fun wz hw hh=>?_) (fun u2=>?_)
  ·go_simp
   apply Rr.upR_enter
   (refine (trim_any m _ _ (HB.out.ext (HWx.out.trans hw))).mono ?_)
   rintro e w3 ⟨v3,rfl,hx3,hr3⟩
   exact ⟨v3,rfl,hx3,hr3⟩
  simp only [zp]
  refine Rr.yd ⟨iV z,fun wz hw hh=>?_,?_⟩
  ·have h6:DR wz u2 (trimL m):=hh _ zM
   have h5:DR wz u1 (trimL l):=hh _ (zN _ zM)
   go_simp
   apply Rg.up_enter
   (refine (bcmp_any (trimL l) (trimL m) _ _ _ h5 h6 HQ.out.1 HQ.out.2).mono ?_)
   rintro e w3 ⟨rfl,hb3⟩
   exact ⟨by rw [HZ.out],hb3⟩
  simp only [zp]
  refine Rr.wr_nil ?_
  intro wy hy hh
  simp only [gg,gh,gi,gj,Nat.reduceAdd]
  clear hh
  replace c00:=(hy.cells.1 _ _ el).trans c00
  replace c01:=(hy.cells.1 _ _ el).trans c01
  replace c10:=(hy.cells.1 _ _ el1).trans c10
  replace c11:=(hy.cells.1 _ _ el1).trans c11
  replace HC2:=zH ((hy.block _ (zL HC2.out)).trans HC2.out)
  replace HWx:=zH (HWx.out.trans hy)
  replace el:=Nat.lt_of_lt_of_le el hy.size
  replace el1:=Nat.lt_of_lt_of_le el1 hy.size
  clear hy
  by_cases hle:dv m≤dv l
  ·have HE:=zH (show bgSum s t l m=(s,trimL (minusL 0 l m)) by unfold bgSum;rw [if_neg hst,if_pos hle])
   have hz3:0≤z:=HZP.out hle
   go_upto_region 4 with (fail)
   refine Rr.rg [(0,.y),(1,.y),(2,.y),(3,.y),(4,.y),(5,.y),(6,.z)] ?_
   iterate 6
    refine Rr.y1 ?_
   refine Rr.zd (fun v w=>DR w v (trimL (minusL 0 l m))) (fun v=>DR.keeps _ v) (fun wz hw hh=>?_) (fun u1=>?_)
   ·go_simp
    apply Rr.upR_enter
    (refine (minus_any l m _ _ _ (HA.out.ext (HWx.out.trans hw)) (HB.out.ext (HWx.out.trans hw)) hl hm hle).mono ?_)
    rintro e w3 ⟨v3,rfl,hx3,hr3⟩
    exact ⟨v3,rfl,hx3,hr3⟩
   simp only [zp]
   refine Rr.wr_nil ?_
   intro wy hy hh
   have hu:=hh _ zM
   simp only [gg,gh,gi,gj,Nat.reduceAdd]
   have HU:=zH (show DR wy u1 (trimL (minusL 0 l m)) from hu)
   obtain ⟨A3,c3,rfl⟩:=HU.out.form
   have HPy:=zH ((hy.block _ (zL HC2.out)).trans HC2.out)
   obtain ⟨hcc,hf,hl2⟩:=zC HPy.out
   have c20:wy.cell? ⟨p+1+1,0,none⟩=some (.bool false):=hcc 0
   have c21:wy.cell? ⟨p+1+1,1,none⟩=some (.slice none 0 0):=hcc 1
   have f0:=hf 0
   have f1:=hf 1
   have HR1:=zH (show (wy.setCell ⟨p+1+1,0,none⟩ (.bool s)).heap[p+1+1]? = some (.cells #[.bool s,.slice none 0 0] 150) from heap_setCell_same wy _ 0 _ 150 _ HPy.out)
   have HR:=zH (show ((wy.setCell ⟨p+1+1,0,none⟩ (.bool s)).setCell ⟨p+1+1,1,none⟩ (.slice A3 (trimL (minusL 0 l m)).length c3)).heap[p+1+1]? = some (.cells #[.bool s,.slice A3 (trimL (minusL 0 l m)).length c3] 150) from heap_setCell_same _ _ 1 _ 150 _ HR1.out)
   have HU2:=zH ((HU.out.set HPy.out 0 (.bool s)).set HR1.out 1 (.slice A3 (trimL (minusL 0 l m)).length c3))
   clear hcc hf hu hh c00 c01 c10 c11
   go_wp2
   refine bodyPost_ret (v:=.agg #[.bool s,.slice A3 (trimL (minusL 0 l m)).length c3]) (results_cell_row Tryz.results84 _ _ (p+1+1) 150 _ _ _ (by rfl) HR.out Tryz.underlying150 rfl (by kernel_rfl)) rfl ⟨_,rfl,Below.setCell (Below.setCell (HWx.out.trans hy) (by have:=HP.out;show _≤p+1+1;omega) _) (by have:=HP.out;show _≤p+1+1;omega) _,?_⟩
   rw [HE.out]
   exact ⟨(A3,(trimL (minusL 0 l m)).length,c3),rfl,HU2.out⟩
  ·have HE:=zH (show bgSum s t l m=(t,trimL (minusL 0 m l)) by unfold bgSum;rw [if_neg hst,if_neg hle])
   have hz3:¬ 0≤z:=HZN.out (by omega)
   go_upto_region 5 with (fail)
   refine Rr.rg [(0,.y),(1,.y),(2,.y),(3,.y),(4,.y),(5,.y),(6,.z)] ?_
   iterate 6
    refine Rr.y1 ?_
   refine Rr.zd (fun v w=>DR w v (trimL (minusL 0 m l))) (fun v=>DR.keeps _ v) (fun wz hw hh=>?_) (fun u1=>?_)
   ·go_simp
    apply Rr.upR_enter
    (refine (minus_any m l _ _ _ (HB.out.ext (HWx.out.trans hw)) (HA.out.ext (HWx.out.trans hw)) hm hl (by omega)).mono ?_)
    rintro e w3 ⟨v3,rfl,hx3,hr3⟩
    exact ⟨v3,rfl,hx3,hr3⟩
   simp only [zp]
   refine Rr.wr_nil ?_
   intro wy hy hh
   have hu:=hh _ zM
   simp only [gg,gh,gi,gj,Nat.reduceAdd]
   have HU:=zH (show DR wy u1 (trimL (minusL 0 m l)) from hu)
   obtain ⟨A3,c3,rfl⟩:=HU.out.form
   have HPy:=zH ((hy.block _ (zL HC2.out)).trans HC2.out)
   obtain ⟨hcc,hf,hl2⟩:=zC HPy.out
   have c20:wy.cell? ⟨p+1+1,0,none⟩=some (.bool false):=hcc 0
   have c21:wy.cell? ⟨p+1+1,1,none⟩=some (.slice none 0 0):=hcc 1
   have f0:=hf 0
   have f1:=hf 1
   have HR1:=zH (show (wy.setCell ⟨p+1+1,0,none⟩ (.bool t)).heap[p+1+1]? = some (.cells #[.bool t,.slice none 0 0] 150) from heap_setCell_same wy _ 0 _ 150 _ HPy.out)
   have HR:=zH (show ((wy.setCell ⟨p+1+1,0,none⟩ (.bool t)).setCell ⟨p+1+1,1,none⟩ (.slice A3 (trimL (minusL 0 m l)).length c3)).heap[p+1+1]? = some (.cells #[.bool t,.slice A3 (trimL (minusL 0 m l)).length c3] 150) from heap_setCell_same _ _ 1 _ 150 _ HR1.out)
   have HU2:=zH ((HU.out.set HPy.out 0 (.bool t)).set HR1.out 1 (.slice A3 (trimL (minusL 0 m l)).length c3))
   clear hcc hf hu hh c00 c01 c10 c11
   go_wp2
   refine bodyPost_ret (v:=.agg #[.bool t,.slice A3 (trimL (minusL 0 m l)).length c3]) (results_cell_row Tryz.results84 _ _ (p+1+1) 150 _ _ _ (by rfl) HR.out Tryz.underlying150 rfl (by kernel_rfl)) rfl ⟨_,rfl,Below.setCell (Below.setCell (HWx.out.trans hy) (by have:=HP.out;show _≤p+1+1;omega) _) (by have:=HP.out;show _≤p+1+1;omega) _,?_⟩
   rw [HE.out]
   exact ⟨(A3,(trimL (minusL 0 m l)).length,c3),rfl,HU2.out⟩
theorem dv_cons (d:Int) (l:List Int):dv (d :: l)=d+65536 * dv l:=rfl
theorem dv_drop (l:List Int) (i:Nat) (h:i < l.length):dv (l.drop i)=l[i]+65536 * dv (l.drop (i+1)):=by rw [List.drop_eq_getElem_cons h,dv_cons]
theorem ov_step {M R X d Q A:Int} (hA:A=Q * M+R):X+65536 * A=(d+65536 * Q) * M+(X+65536 * R - d * M):=by
 subst hA
 rw [Int.add_mul,Int.mul_add,Int.mul_assoc]
 omega
theorem ov_bound {M R X:Int} (hX:X < 65536) (hR:R < M):X+65536 * R < 65536 * M:=by omega
theorem ov_end {M R l h:Int} (h1:h - l≤1) (h2:l < h) (h3:l * M≤R) (h4:R < h * M):0≤R - l * M∧R - l * M < M:=by
 obtain rfl:h=l+1:=by omega
 rw [Int.add_mul] at h4
 omega
theorem ov_final {A Q M R:Int} (h:A=Q * M+R) (h0:0≤R) (h1:R < M):Q=A / M∧R=A % M:=by
 have hM:0 < M:=by omega
 have e1:A / M=Q:=by
  subst h
  rw [Int.add_comm,Int.add_mul_ediv_right _ _ (by omega),Int.ediv_eq_zero_of_lt h0 h1]
  omega
 refine ⟨e1.symm,?_⟩
 have:=Int.emod_add_mul_ediv A M
 rw [e1,Int.mul_comm] at this
 omega
theorem DR.inj {w:World} {v:Value} {l m:List Int} (h:DR w v l) (h':DR w v m):l=m:=by
 obtain ⟨A,c,rfl⟩:=h.form
 obtain ⟨A',c',e⟩:=h'.form
 injection e with e1 e2 e3
 refine List.ext_getElem (by omega) fun k h1 h2=>?_
 obtain ⟨b,off,hb,-,hc⟩:=h.block k h1
 rw [show l.length=m.length by omega] at h
 have h'':DR w (.slice A m.length c) m:=by rw [← e2];exact h'
 obtain ⟨b',off',hb',-,hc'⟩:=h''.block k h2
 rw [hb] at hb'
 injection hb' with hb'
 injection hb' with e4 e5
 subst e4 e5
 have:=(hc k h1).symm.trans (hc' k h2)
 injection this with this
 injection this with _ this
open Classical in
noncomputable def dvOf (w:World) (v:Value):Nat:=if h:∃ l,DR w v l then (dv h.choose).toNat else 0
theorem dvOf_eq {w:World} {v:Value} {l:List Int} (h:DR w v l):dvOf w v=(dv l).toNat:=by
 have he:∃ l,DR w v l:=⟨l,h⟩
 unfold dvOf
 rw [dif_pos he,he.choose_spec.inj h]
end Go.Proofs.YteomcpplajeidaaGreat
