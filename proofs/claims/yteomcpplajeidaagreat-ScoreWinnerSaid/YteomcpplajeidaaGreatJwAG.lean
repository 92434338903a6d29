/-
  Lemmas of this claim (JwAG). Nothing is asked.
-/
import Derived.Test.YteomcpplajeidaaGreatJwAF
import Derived.Test.YteomcpplajeidaaGreatJwO
import Derived.Deep.MidRow
import Derived.Laws.CopyOwn
import Derived.Test.YteomcpplajeidaaGreatJwZ
import Derived.Deep.RegionHeld3
import Derived.Test.YteomcpplajeidaaGreatJwAA
import Derived.BigQuiet
import Derived.Deep.QuietTactic
set_option linter.unusedVariables false
set_option linter.unusedSimpArgs false
set_option maxRecDepth 100000
set_option maxHeartbeats 40000000
namespace Go.Proofs.YteomcpplajeidaaGreat
open Go.RowKit
theorem known6:amoS (snL 9) (wordL 0)=true∧amoS (snL 9) (wordL 1)=true∧amoS (snL 9) (wordL 3)=true∧amoS (snL 9) (wordL 4)=true∧amoS (snL 9) (wordL 6)=true∧amoS (snL 9) (wordL 7)=true:=⟨by kernel_rfl,by kernel_rfl,by kernel_rfl,by kernel_rfl,by kernel_rfl,by kernel_rfl⟩
abbrev needL:List ByteArray:=[⟨#[116,101,110,100,101,114]⟩,⟨#[108,111,116]⟩,⟨#[112,114,105,99,101]⟩,⟨#[102,111,114,109,117,108,97]⟩,⟨#[98,117,100,103,101,116]⟩,⟨#[116,105,109,101,115]⟩]
theorem need_known:∀ j (h:j < needL.length),amoS (snL 9) needL[j]=true:=by
 intro j h
 have h6:j < 6:=h
 have:j=0∨j=1∨j=2∨j=3∨j=4∨j=5:=by omega
 rcases this with rfl|rfl|rfl|rfl|rfl|rfl
 ·exact known6.1
 ·exact known6.2.1
 ·exact known6.2.2.1
 ·exact known6.2.2.2.1
 ·exact known6.2.2.2.2.1
 ·exact known6.2.2.2.2.2
theorem ten_rest (S:ByteArray) (r:TnR) (sv:Value) (j:Nat) (h:j < 20):(restOf S r sv)[j+1]? = (tenC r).toList[j]?:=by
 have h:j=0∨j=1∨j=2∨j=3∨j=4∨j=5∨j=6∨j=7∨j=8∨j=9∨j=10∨j=11∨j=12∨j=13∨j=14∨j=15∨j=16∨j=17∨j=18∨j=19:=by omega
 rcases h with rfl|rfl|rfl|rfl|rfl|rfl|rfl|rfl|rfl|rfl|rfl|rfl|rfl|rfl|rfl|rfl|rfl|rfl|rfl|rfl <;> rfl
theorem edL_lt:∀ i,i < 8→edL i≤155:=by decide
theorem ed_nine {i k:Nat} (h:i+1=9) (hk:k=edL i):k+1=157:=by
 have h8:i=8:=by omega
 subst h8
 rw [hk]
 rfl
abbrev zeroT:TnR:=⟨nilB,(none,0,0),(none,0,0),(none,0,0),0,0,nilB,0,0,nilB,(none,0,0),(none,0,0),0,(none,0,0),0,0,0,0,0,0⟩
theorem nx_zero (w:World):NXe w (w.alloc (.cells ((.slice none 0 0) :: iV 0 :: iV 0 :: iV 0 :: restOf litS zeroT (.slice none 0 0)).toArray 166)) w.heap.size 0:=
 ⟨.slice none 0 0,[],0,zeroT,.slice none 0 0,
  ⟨block_new rfl,⟨none,0,rfl,by decide,.inl rfl⟩,fun b n c e=>by injection e with e;cases e⟩,Ext.alloc (Ext.refl _) _,Nat.le_refl _,World.ownsRow_nil _ _ _ _,fun b e=>(by cases e),
  { nm_:=rfl,low_:=rfl,high_:=rfl,most_:=rfl,budget_:=rfl,t0_:=rfl,t1_:=rfl,t2_:=rfl,t3_:=rfl,t4_:=rfl,rs_:=rfl,ks_:=rfl,ls_:=World.ownsRow_nil _ _ _ _,la:=fun b e=>(by cases e),l0:=fun _=>rfl,cs_:=World.ownsRow_nil _ _ _ _,ca:=fun b e=>(by cases e),c0:=fun _=>rfl,ts_:=World.ownsRow_nil _ _ _ _,ta:=fun b e=>(by cases e),s0:=fun _=>rfl,fo:=Rd.leaf I2.zero }⟩
theorem TF.base {A:Nat→Prop} {B B':Nat} {w:World} {r:TnR} {d:TD} (h:TF A B w r d) (hB:B'≤B):TF A B' w r d:=
 { h with ls_:=row_base h.ls_ hB,cs_:=row_base h.cs_ hB,ts_:=row_base h.ts_ hB }
theorem parse_any (w:World):Calls Tryz.prog 54 #[.string litS] w fun e w'=>∃ r,e=.returned (.tuple #[.agg (tenC r),iV 0,iV 0])∧Ext w w'∧TF (fun b=>w.heap.size < b) w.heap.size w' r (dD 9):=by
 have HSZ:=zH litS_size
 have hs4:¬ (4000:Int) < (litS.size:Int):=by have:=HSZ.out;omega
 go_in
 go_upto_region 6 with (fail)
 have hD:(w.alloc (.cells (tenC zeroT) 39)).heap[w.heap.size]? = some (.cells (tenC zeroT) 39):=block_new rfl
 have hw0:Ext w (w.alloc (.cells (tenC zeroT) 39)):=Ext.alloc (Ext.refl _) _
 have hN0:=nx_zero (w.alloc (.cells (tenC zeroT) 39))
 have hsz0:(w.alloc (.cells (tenC zeroT) 39)).heap.size=w.heap.size+1:=World.size_alloc ..
 rw [hsz0] at hN0
 have HN0:=zH hN0
 clear hN0
 generalize hpe:w.heap.size+1=p at *
 obtain ⟨w0,hw⟩:∃ w0,w0=w.alloc (.cells (tenC zeroT) 39):=⟨_,rfl⟩
 rw [← hw] at hD hw0 hsz0
 have HW:=zH hw
 have HD:=zH hD
 have HW0:=zH hw0
 have HS0:=zH hsz0
 have HPE:=zH hpe
 clear hw hD hw0 hsz0 hpe
 go_loopw [6,7] (fun fv kv wr=>∃ i k:Nat,fv=iV (frL i)∧kv=iV k∧i≤9∧Hid (i=9→k=157)∧Hid (i < 9→frL i≤k∧k≤edL i)∧Hid (NXe w0 wr p i)) (fun _ kv _=>200 - (iof kv).toNat)
 case atStart=>exact ⟨0,0,rfl,rfl,by decide,zH (fun h=>absurd h (by decide)),zH (fun _=>by decide),zH (by rw [HW.out];exact HN0.out)⟩
 case round=>
  obtain ⟨i,k,rfl,rfl,hi,HK9,HK,HN⟩:=hrel
  obtain ⟨tv,l,kk,r,sv,hN⟩:=HN.out
  obtain ⟨c0,c1,c2,c3⟩:=hN.px.c
  have hpl:=zL hN.px.at_
  have HNN:=zH hN
  clear hN
  by_cases hi9:i < 9
  ·have hk:frL i≤k∧k≤edL i:=HK.out hi9
   have hnx:=line_next i hi9
   have hkb:k≤156:=by omega
   have hkl:(k:Int)≤(litS.size:Int):=by have:=HSZ.out;omega
   have HCA:=zH (nextL (w0:=w0) (p:=p) i hi9 wr HN.out)
   have hw1:=wz ((k:Int)+1) (by omega)
   by_cases hke:k=edL i
   ·rw [← hke] at HCA
    have HKE:=zH hke
    have HNX:=zH hnx
    clear hke hnx hk
    by_cases hi8:i < 8
    ·have hks:k < litS.size:=by have:=HSZ.out;have:=edL_lt i hi8;have:=HKE.out;omega
     have hby:((litS[k].toNat:Nat):Int)=10:=by rw [← byZ_at hks];exact (line_bytes i hi8 k hkb (HK.out hi9).1 (HK.out hi9).2).2 HKE.out
     have hkn:¬ (k:Int)=(litS.size:Int):=by omega
     have hkq:((k:Int) == (litS.size:Int))=false:=by simp [hkn]
     have hbq:(((litS[k].toNat:Nat):Int) == 10)=true:=by simp [hby]
     go_wp2_with (go_at_call 91;(refine HCA.out.mono ?_);rintro e w2 ⟨rfl,hn2⟩;have HN2:=zH hn2;clear hn2)
     exact ⟨⟨i+1,k+1,by rw [HNX.out.1,← HKE.out];rfl,by rfl,by omega,zH (fun h=>(ed_nine (by omega) HKE.out)),zH (fun h=>by have:=line_next (i+1) h;have:=HNX.out.1;have:=HKE.out;omega),HN2⟩,by simp [iof];omega⟩
    ·have hkn:(k:Int)=(litS.size:Int):=by
      have h8:i=8:=by omega
      subst h8
      have:=HKE.out
      have e8:edL 8=156:=rfl
      have:=HSZ.out
      omega
     have hkq:((k:Int) == (litS.size:Int))=true:=by rw [beq_iff_eq];exact hkn
     have HKN:=zH hkn
     clear hkn
     go_wp2_with (go_at_call 91;(refine HCA.out.mono ?_);rintro e w2 ⟨rfl,hn2⟩;have HN2:=zH hn2;clear hn2)
     exact ⟨⟨i+1,k+1,by rw [HNX.out.1,← HKE.out];rfl,by rfl,by omega,zH (fun h=>(ed_nine (by omega) HKE.out)),zH (fun h=>by have:=line_next (i+1) h;have:=HNX.out.1;have:=HKE.out;omega),HN2⟩,by simp [iof];omega⟩
   ·have hi8:i < 8:=by
     rcases Nat.lt_or_ge i 8 with h|h
     ·exact h
     ·have h8:i=8:=by omega
      subst h8
      have e8:edL 8=156:=rfl
      have f8:frL 8=156:=rfl
      omega
    have hks:k < litS.size:=by have:=HSZ.out;have:=edL_lt i hi8;omega
    have hby:¬ ((litS[k].toNat:Nat):Int)=10:=by rw [← byZ_at hks];exact fun h=>hke ((line_bytes i hi8 k hkb (HK.out hi9).1 (HK.out hi9).2).1 h)
    have hkn:¬ (k:Int)=(litS.size:Int):=by omega
    have hkq:((k:Int) == (litS.size:Int))=false:=by simp [hkn]
    have hbq:(((litS[k].toNat:Nat):Int) == 10)=false:=by simp [hby]
    have HKK:Hid (i < 9→frL i≤k+1∧k+1≤edL i):=zH (fun _=>by omega)
    clear hke hnx hk
    go_wp2_with (fail)
    exact ⟨⟨i,k+1,by rfl,by rfl,by omega,zH (fun h=>by omega),HKK,HN⟩,by simp [iof];omega⟩
  ·obtain rfl:i=9:=by omega
   obtain rfl:k=157:=HK9.out rfl
   have hkl:¬ (157:Int)≤(litS.size:Int):=by have:=HSZ.out;omega
   clear HN HK HK9
   go_upto_region 13 with (fail)
   have hxa:Ext wr (wr.alloc (.cells #[.string ⟨#[116,101,110,100,101,114]⟩,.string ⟨#[108,111,116]⟩,.string ⟨#[112,114,105,99,101]⟩,.string ⟨#[102,111,114,109,117,108,97]⟩,.string ⟨#[98,117,100,103,101,116]⟩,.string ⟨#[116,105,109,101,115]⟩] 9)):=Ext.alloc (Ext.refl _) _
   have hs1:SR strC 1 (wr.alloc (.cells #[.string ⟨#[116,101,110,100,101,114]⟩,.string ⟨#[108,111,116]⟩,.string ⟨#[112,114,105,99,101]⟩,.string ⟨#[102,111,114,109,117,108,97]⟩,.string ⟨#[98,117,100,103,101,116]⟩,.string ⟨#[116,105,109,101,115]⟩] 9)) (.slice (some ⟨wr.heap.size,0,none⟩) 6 6) needL:=sr_strs needL rfl (block_new rfl) (by decide)
   have HN1:=zH (HNN.out.ext hxa)
   have HS1:=zH hs1
   clear hxa hs1 c0 c1 c2 c3 hpl HNN
   generalize wr.alloc (.cells #[.string ⟨#[116,101,110,100,101,114]⟩,.string ⟨#[108,111,116]⟩,.string ⟨#[112,114,105,99,101]⟩,.string ⟨#[102,111,114,109,117,108,97]⟩,.string ⟨#[98,117,100,103,101,116]⟩,.string ⟨#[116,105,109,101,115]⟩] 9)=w1 at *
   obtain ⟨bn,hbn⟩:∃ bn,bn=wr.heap.size:=⟨_,rfl⟩
   rw [← hbn] at HS1 ⊢
   clear hbn
   have HSR:=zH (fun wz tv l k r sv (hz:NX w0 wz p tv l k litS r sv (snL 9) (dD 9))=>SR.of_row (cs:=strC) (fun _=>rfl) hz.seen (by decide))
   go_loopw [9,10] (fun kv _ wq=>∃ j:Nat,kv=iV j∧j≤6∧Hid (NX w0 wq p tv l kk litS r sv (snL 9) (dD 9)∧Ext w1 wq)) (fun kv _ _=>6 - (iof kv).toNat)
   case atStart=>exact ⟨0,rfl,by decide,zH ⟨HN1.out,Ext.refl _⟩⟩
   case round=>
    obtain ⟨j,rfl,hj,HQ⟩:=hrel
    obtain ⟨c0,c1,c2,c3⟩:=HQ.out.1.px.c
    have hpl:=zL HQ.out.1.px.at_
    by_cases hj6:j < 6
    ·have hj6i:(j:Int) < 6:=by omega
     obtain ⟨g,hg,-,hgl,hcell⟩:=str_at (HS1.out.ext HQ.out.2) j hj6
     injection hg with hg
     injection hg with hg
     subst hg
     have hkn:=need_known j hj6
     obtain ⟨x,hx⟩:∃ x,needL[j]=x:=⟨_,rfl⟩
     rw [hx] at hcell hkn
     have HC:=zH (seenW_any p sv (snL 9) x wr (HQ.out.1.px.r 21) (HSR.out _ _ _ _ _ _ HQ.out.1))
     rw [hkn] at HC
     clear hx hkn
     go_wp2_with (go_at_call 92;(refine HC.out.mono ?_);rintro e w3 ⟨rfl,hx3⟩;have HX3:=zH hx3;clear hx3)
     exact ⟨⟨j+1,by rfl,by omega,zH ⟨HQ.out.1.ext HX3.out,HQ.out.2.trans HX3.out⟩⟩,by simp [iof];omega⟩
    ·obtain rfl:j=6:=by omega
     go_upto_region 20 with (fail)
     have HT:=zH HQ.out.1.tf
     have hDD:wr.heap[w.heap.size]? = some (.cells (tenC zeroT) 39):=(HQ.out.1.low.block _ (by have:=HS0.out;have:=HPE.out;omega)).trans HD.out
     have hrange:wr.rangeAt p 5 (tenC r).toList:=fun j v hv=>by
      have:=HQ.out.1.px.r (j+1)
      rw [show j+1+4=5+j by omega] at this
      rw [this]
      have hj20:j < 20:=(List.getElem?_eq_some_iff.1 hv).1
      exact (ten_rest litS r sv j hj20).trans hv
     have HDD:=zH hDD
     have HRA:=zH hrange
     clear hDD hrange
     obtain ⟨row,hrow⟩:∃ row,row=(tenC r).toList:=⟨_,rfl⟩
     rw [← hrow] at HRA
     have hrs:row.length=20:=by rw [hrow];rfl
     have hone:∀ v∈row.toArray.toList,v.oneCell' = true:=by
      rw [hrow]
      intro v hv
      simp at hv
      rcases hv with rfl|rfl|rfl|rfl|rfl|rfl|rfl|rfl|rfl|rfl|rfl|rfl|rfl|rfl|rfl|rfl|rfl|rfl|rfl|rfl <;> rfl
     have HROW:=zH hrow
     clear hrow
     go_wp2_with (first
      |(refine wpList_load_mid rfl 39 (.tmp 93) rfl p 5 (by rfl) row _ HRA.out Tryz.underlying39 rfl (by rw [hrs];kernel_rfl) ?_)
      |(refine wpList_store_row rfl 39 (.tmp 2) (.tmp 94) rfl w.heap.size (by rfl) row.toArray (by rfl) _ 39 HDD.out (by simp [hrs]) (by rw [List.size_toArray,hrs];kernel_rfl) hone ?_))
     have hfin:=setRow_heap wr w.heap.size _ row.toArray _ _ HDD.out
     have hx6:Below w.heap.size w (wr.setRow w.heap.size row.toArray):=below_setRow (HW0.out.trans HQ.out.1.low) (Nat.le_refl _) _
     have ht6:TF (fun b=>w.heap.size < b) w.heap.size (wr.setRow w.heap.size row.toArray) r (dD 9):=(HT.out.move (A':=fun b=>w.heap.size < b) (fun b hb _=>setRow_other wr _ _ _ (by have:=hb.2.2;have:=HS0.out;have:=HPE.out;omega)) (fun b hb _=>by have:=hb.2.2;have:=HS0.out;have:=HPE.out;omega)).base (by have:=HS0.out;have:=HPE.out;omega)
     exact bodyPost_ret (v:=.tuple #[.agg row.toArray,iV 0,iV 0]) (results_cell3 Tryz.results54 _ _ w.heap.size 39 _ _ _ (iV 0) (iV 0) (by rfl) (by rfl) (by rfl) hfin Tryz.underlying39 (by rw [List.size_toArray,hrs];kernel_rfl)) rfl ⟨r,by rw [HROW.out],hx6,ht6⟩
theorem entry55 (b p c k:Int) (w:World):Calls Tryz.prog 55 #[iV b,iV p,iV c,iV k] w fun e w'=>
 ∃ q,e=.returned (.agg #[iV b,iV 1,iV k,iV p,.slice (some ⟨q,0,none⟩) 1 1])∧w.heap.size≤q∧w'.heap[q]? = some (.cells #[.string comfB,iV c] 80)∧Ext w w':=by
 go_in
 go_wp2
 exact bodyPost_ret (v:=.agg #[iV b,iV 1,iV k,iV p,.slice (some ⟨w.heap.size+1,0,none⟩) 1 1]) (by simp [results,Tryz.results55,go_sem]) rfl ⟨_,rfl,by omega,block_new (by simp),xt⟩
theorem parse_lit (w:World):Calls Tryz.prog 54 #[.string ⟨#[116,101,110,100,101,114,32,67,104,97,105,114,115,10,108,111,116,32,49,32,109,111,115,116,32,53,48,48,10,99,114,105,116,101,114,105,111,110,32,99,111,109,102,111,114,116,32,103,114,97,100,101,32,48,32,49,48,10,112,114,105,99,101,32,49,32,53,48,48,10,102,111,114,109,117,108,97,32,48,46,54,32,42,32,108,111,119,32,47,32,112,114,105,99,101,32,43,32,48,46,48,52,32,42,32,99,111,109,102,111,114,116,10,116,105,101,32,99,111,109,102,111,114,116,10,98,117,100,103,101,116,32,53,48,48,10,116,105,109,101,115,32,49,48,32,50,48,32,51,48,32,52,48,32,53,10]⟩] w fun e w'=>∃ r,e=.returned (.tuple #[.agg (tenC r),iV 0,iV 0])∧Ext w w'∧TF (fun b=>w.heap.size < b) w.heap.size w' r (dD 9):=parse_any w
theorem ten_one (r:TnR):∀ v∈(tenC r).toList,v.oneCell' = true:=by
 intro v hv
 simp at hv
 rcases hv with rfl|rfl|rfl|rfl|rfl|rfl|rfl|rfl|rfl|rfl|rfl|rfl|rfl|rfl|rfl|rfl|rfl|rfl|rfl|rfl <;> rfl
abbrev chE (q1 q2 q3:Nat):List ER:=[(⟨7,1,1,100,[(comfB,5)]⟩,some ⟨q1,0,none⟩,1,1),(⟨8,1,2,200,[(comfB,10)]⟩,some ⟨q2,0,none⟩,1,1),(⟨9,1,3,600,[(comfB,10)]⟩,some ⟨q3,0,none⟩,1,1)]
theorem op_store_row {o:Oper} {a:Act} {w:World} {K:Act→World→Prop} {Q:Exit→Act→World→Prop} (T:TypeId) (x y:Operand) (ho:o.op=.store T x y)
 (g:Nat) (hx:a.eval x=.pointer (some ⟨g,0,none⟩)) (cs:Array Value) (hy:a.eval y=.agg cs) (old:Array Value) (t:TypeId) (hg:w.heap[g]? = some (.cells old t (0,0))) (hl:old.size=cs.size)
 (hi:(Tryz.prog.info? T).map (·.size)=some cs.size) (h1:∀ v∈cs.toList,v.oneCell' = true)
 (h:K (a.put o.dst undef) (w.setRow g cs)):Oper.wp Tryz.prog o a w K Q:=by
 have hr:=run_storeCells_at (P:=Tryz.prog) g 0 t cs.toList 0 old w hg (by simp;omega) h1
 have he:(old.toList.take (0+0) ++ cs.toList ++ old.toList.drop (0+0+cs.toList.length)).toArray=cs:=by
  rw [List.drop_eq_nil_of_le (by simp;omega)];simp
 rw [he] at hr
 unfold Oper.wp execOp
 have hs:(Go.sizeOf T).run Tryz.prog w=.ok cs.size w:=by
  cases hq:Tryz.prog.info? T with
  | none=>simp [hq] at hi
  | some i=>
   have hs:i.size=cs.size:=by simpa [hq] using hi
   simp [sizeOf,typeInfo,hq,hs]
 have hst:(storeVar T ⟨g,0,none⟩ (.agg cs)).run Tryz.prog w=.ok () (w.setRow g cs):=by
  unfold storeVar
  simp only [Value.cells,Sem.run_bind,hs,Result.andThen_ok,ne_eq,not_true_eq_false,if_false]
  exact hr
 simp only [ho,hx,hy,Instr.storeAt,Instr.sureAddr,Sem.run_bind,Sem.run_pure,Result.andThen_ok,hst]
 exact h
theorem load_row_yields {ρ:Operand→Value} {d:Option Tmp} {x:Operand} {ty:TypeId} {ps:String} {af:Array Edge} {gd:Option (Nat×Bool)} {w:World} {g:Nat} {T t:TypeId} {cs:Array Value} {fs:Array Field} {fr:Nat×Nat}
 (hx:ρ x=.pointer (some ⟨g,0,none⟩)) (hg:w.heap[g]? = some (.cells cs t fr))
 (hu:Tryz.prog.underlying T=some (.struct fs)) (hi:(Tryz.prog.info? T).map (·.size)=some cs.size) :
 (execOp ρ { dst:=d,op:=.load T x,type:=ty,pos:=ps,after:=af,guard:=gd }).run Tryz.prog w=.ok (.value (.agg cs)) w:=by
 have h:=run_loadVar_row (P:=Tryz.prog) w g t T cs _ (.struct fs) hg hu rfl hi
 unfold execOp
 simp only [hx,Instr.loadAt,Instr.sureAddr,Sem.run_bind,Sem.run_pure,Result.andThen_ok,h]
theorem alloc_new (w:World) (o:Obj):(w.alloc o).heap[w.heap.size]? = some o:=heap_alloc_new w o
theorem alloc_old {w:World} (o:Obj) {i:Nat} (h:i < w.heap.size):(w.alloc o).heap[i]? = w.heap[i]?:=heap_alloc_old w o h
theorem results_cell1t {fn:Func} {p a:Tmp} {ty:TypeId} (h:fn.results=#[.cell p ty,.tmp a]) (tmps:Array Value) (w:World) (g:Nat) (t:TypeId) (cs:Array Value) (fr:Nat×Nat) (fs:Array Field) (va:Value)
 (hp:tmps.getD p undef=.pointer (some ⟨g,0,none⟩)) (ha:tmps.getD a undef=va) (hg:w.heap[g]? = some (.cells cs t fr))
 (hu:Tryz.prog.underlying ty=some (.struct fs)) (hi:(Tryz.prog.info? ty).map (·.size)=some cs.size) :
 (results fn tmps).run Tryz.prog w=.ok (.tuple #[.agg cs,va]) w:=by
 have hp':tmps[p]?.getD undef=.pointer (some ⟨g,0,none⟩):=by simpa using hp
 have ha':tmps[a]?.getD undef=va:=by simpa using ha
 simp [results,h,hp',ha',asAddr,run_loadVar_row w g t ty cs fr (.struct fs) hg hu rfl hi]
theorem KX.setRow' (p:Nat) (w:World) (cs:Array Value):KX p w (w.setRow p cs):=⟨rfl,rfl,rfl,by simp,fun k _ hk=>setRow_other w p k cs (fun e=>hk (by rw [e]))⟩
def ChP (w:World) (e:Ending) (w':World):Prop:=∃ r g q1 q2 q3,e=.returned (.tuple #[.agg (tenC r),.slice (some ⟨g,0,none⟩) 3 3])∧Ext w w'∧TF (fun b=>w.heap.size < b) w.heap.size w' r (dD 9) ∧
 w.heap.size≤g∧w'.heap[g]? = some (.cells ((chE q1 q2 q3).flatMap cellsEn).toArray 57)∧w.heap.size≤q1∧w'.heap[q1]? = some (.cells #[.string comfB,iV 5] 80)∧w.heap.size≤q2∧w'.heap[q2]? = some (.cells #[.string comfB,iV 10] 80)∧w.heap.size≤q3∧w'.heap[q3]? = some (.cells #[.string comfB,iV 10] 80)
theorem chairs_any (w:World):Calls Tryz.prog 27 #[] w (ChP w):=by
 have HE:=zH (fun b p c k wz=>entry55 b p c k wz)
 have hx0:Ext w (w.alloc (.cells (tenC zeroT) 39)):=Ext.alloc (Ext.refl _) _
 have hb0:(w.alloc (.cells (tenC zeroT) 39)).heap[w.heap.size]? = some (.cells (tenC zeroT) 39):=block_new rfl
 have HX0:=zH hx0;have HB0:=zH hb0
 clear hx0 hb0
 go_in
 go_upto_region 2 with (first
  |(go_at_call 54;(with_reducible refine (parse_lit _).mono ?_);rintro e w1 ⟨r,rfl,hx1,ht1⟩;have HX1:=zH (HX0.out.trans hx1);have HB1:=zH ((hx1.block _ (zL HB0.out)).trans HB0.out);have HT1:=zH ht1;clear hx1 ht1;obtain ⟨row,hrow⟩:∃ row,row=tenC r:=⟨_,rfl⟩;rw [← hrow];have hrs:row.size=20:=(by rw [hrow];rfl);have hone:∀ v∈row.toList,v.oneCell' = true:=(by rw [hrow];exact ten_one r);have HROW:=zH hrow;clear hrow)
  |(refine wpList_store_row rfl 39 (.tmp 2) (.tmp 8) rfl w1.heap.size (by rfl) row (by rfl) _ 39 (block_new rfl) (by rw [hrs];rfl) (by rw [hrs];kernel_rfl) hone ?_))
 have hb2:((w1.alloc (.cells (tenC zeroT) 39)).setRow w1.heap.size row).heap[w1.heap.size]? = some (.cells row 39):=setRow_heap _ _ _ row _ _ (block_new rfl)
 have hx2:Ext w1 ((w1.alloc (.cells (tenC zeroT) 39)).setRow w1.heap.size row):=below_setRow (Ext.alloc (Ext.refl _) _) (Nat.le_refl _) _
 have HB2:=zH hb2;have HX2:=zH (HX1.out.trans hx2);have HD2:=zH ((hx2.block _ (zL HB1.out)).trans HB1.out);have HT2:=zH (HT1.out.ext hx2)
 have hpd:w.heap.size < w1.heap.size:=zL HB1.out
 clear hb2 hx2 HB1 HX1 HT1
 obtain ⟨P2,hP2⟩:∃ x,x=w1.heap.size:=⟨_,rfl⟩
 rw [← hP2] at HB2 HX2 HD2 HT2 hpd ⊢
 clear hP2
 simp only [tenC,slV] at HB2 HX2 HD2 HT2
 go_upto_region 3 with (fail)
 generalize ((w1.alloc (.cells #[.string nilB,.slice none 0 0,.slice none 0 0,.slice none 0 0,iV 0,iV 0,.string nilB,iV 0,iV 0,.string nilB,.slice none 0 0,.slice none 0 0,iV 0,.slice none 0 0,iV 0,iV 0,iV 0,iV 0,iV 0,iV 0] 39)).setRow P2 row)=w2 at *
 have hi39:(Tryz.prog.info? 39).map (·.size)=some row.size:=(by rw [hrs];kernel_rfl)
 refine wp_region_held_drew (S:=fun w'=>w'.heap[P2]? = some (.cells row 39)) (by kernel_rfl) (by exact HB2.out) (fun hHeld=>?_)
 refine wpAnyH_take (i:=0) (oi:=_) (v:=.agg row) rfl (by kernel_rfl) (by kernel_rfl) (by kernel_rfl) (fun _ _ _ h=>h) (Or.inl ⟨by rfl,fun wz hz=>load_row_yields (by rfl) hz Tryz.underlying39 hi39⟩) hHeld ?_
 simp only [Act.put,gd,ge,gf]
 refine wpAnyH_take (i:=1) (oi:=_) (v:=.func (.func 55) #[] #[]) rfl (by kernel_rfl) (by kernel_rfl) (by kernel_rfl) (fun _ _ _ h=>h) (Or.inl ⟨by rfl,fun wz hz=>by go_simp⟩) hHeld ?_
 simp only [Act.put,gd,ge,gf]
 refine wpAnyH_take (i:=3) (oi:=_) (v:=.func (.func 55) #[] #[]) rfl (by kernel_rfl) (by kernel_rfl) (by kernel_rfl) (fun _ _ _ h=>h) (Or.inl ⟨by rfl,fun wz hz=>by go_simp⟩) hHeld ?_
 simp only [Act.put,gd,ge,gf]
 refine wpAnyH_take (i:=5) (oi:=_) (v:=.func (.func 55) #[] #[]) rfl (by kernel_rfl) (by kernel_rfl) (by kernel_rfl) (fun _ _ _ h=>h) (Or.inl ⟨by rfl,fun wz hz=>by go_simp⟩) hHeld ?_
 simp only [Act.put,gd,ge,gf]
 refine wpAnyH_ready (rs:=[2]) (by kernel_rfl) (by simp) (AllReadyH.cons (o:=_) rfl (fun K hK=>?_) AllReadyH.nil)
 go_simp
 (refine (HE.out 7 100 5 1 _).mono ?_)
 rintro e w3 ⟨q1,rfl,hq1,hb1,hx3⟩
 go_simp
 refine hK.out _ _ ((hx3.block _ (zL hHeld)).trans hHeld) (fun hHeld=>?_)
 clear hK K
 refine wpAnyH_ready (rs:=[4]) (by kernel_rfl) (by simp) (AllReadyH.cons (o:=_) rfl (fun K hK=>?_) AllReadyH.nil)
 go_simp
 (refine (HE.out 8 200 10 2 _).mono ?_)
 rintro e w4 ⟨q2,rfl,hq2,hb2,hx4⟩
 go_simp
 refine hK.out _ _ ((hx4.block _ (zL hHeld)).trans hHeld) (fun hHeld=>?_)
 clear hK K
 refine wpAnyH_ready (rs:=[6]) (by kernel_rfl) (by simp) (AllReadyH.cons (o:=_) rfl (fun K hK=>?_) AllReadyH.nil)
 go_simp
 (refine (HE.out 9 600 10 3 _).mono ?_)
 rintro e w5 ⟨q3,rfl,hq3,hb3,hx5⟩
 go_simp
 refine hK.out _ _ ((hx5.block _ (zL hHeld)).trans hHeld) (fun hHeld=>?_)
 clear hK K
 have hx25:Ext w2 w5:=(Ext.refl w2).drew.trans (hx3.trans (hx4.trans hx5))
 have hD5:w5.heap[w.heap.size]? = some (.cells (tenC zeroT) 39):=(hx25.block _ (zL HD2.out)).trans HD2.out
 have hl5:=zL hD5
 have hne:w.heap.size≠w5.heap.size:=Nat.ne_of_lt hl5
 have hx05:Ext w w5:=HX2.out.trans hx25
 have hTF5:TF (fun b=>w.heap.size < b) w.heap.size w5 r (dD 9):=((HT2.out.ext hx25).move (A':=fun b=>w.heap.size < b) (fun _ _ _=>rfl) (fun b hb _=>by have hb':(w.alloc (.cells (tenC zeroT) 39)).heap.size < b:=hb;simp at hb';omega)).base (by simp)
 obtain ⟨ob,hob⟩:∃ ob:Obj,ob=.cells ((chE q1 q2 q3).flatMap cellsEn).toArray 57:=⟨_,rfl⟩
 have HOB:=zH hob
 clear hob
 have fin:∀ w6,KX w.heap.size w5 w6→w6.heap[w5.heap.size]? = some ob→ChP w (.returned (.tuple #[.agg row,.slice (some ⟨w5.heap.size,0,none⟩) 3 3])) w6:=by
  intro w6 k hg6
  have hs2:w.heap.size < w2.heap.size:=zL HD2.out
  have hs3:w2.heap.size≤w3.heap.size:=hx3.size
  have hs4:=hx4.size
  have hq1':w2.heap.size≤q1:=hq1
  exact ⟨r,w5.heap.size,q1,q2,q3,by rw [HROW.out],Ext.of_kx hx05 k (Nat.le_refl _),hTF5.kx k (fun b hb=>Nat.ne_of_gt hb),Nat.le_of_lt hl5,by rw [hg6,HOB.out],by omega,
   k.at ((hx5.block _ (zL ((hx4.block _ (zL hb1)).trans hb1))).trans ((hx4.block _ (zL hb1)).trans hb1)) (by omega),by omega,k.at ((hx5.block _ (zL hb2)).trans hb2) (by omega),by omega,k.at hb3 (by omega)⟩
 refine wpAnyH_ready (rs:=[7,8]) (by kernel_rfl) (by simp) (AllReadyH.cons (o:=_) rfl (fun K hK=>?_) (AllReadyH.cons (o:=_) rfl (fun K hK=>?_) AllReadyH.nil))
 ·go_simp
  rw [show Obj.cells #[iV 7,iV 1,iV 1,iV 100,.slice (some ⟨q1,0,none⟩) 1 1,iV 8,iV 1,iV 2,iV 200,.slice (some ⟨q2,0,none⟩) 1 1,iV 9,iV 1,iV 3,iV 600,.slice (some ⟨q3,0,none⟩) 1 1] 57=ob from HOB.out.symm]
  refine hK.out _ _ ((alloc_old _ (zL hHeld)).trans hHeld) (fun hHeld=>?_)
  clear hK K
  refine wpAnyH_ready (rs:=[8]) (by kernel_rfl) (by simp) (AllReadyH.cons (o:=_) rfl (fun K hK=>?_) AllReadyH.nil)
  rw [if_pos (by rfl)]
  refine op_store_row 39 (.tmp 0) (.tmp 11) rfl w.heap.size (by rfl) row (by rfl) _ 39 ((alloc_old _ hl5).trans hD5) (by rw [hrs];rfl) hi39 hone ?_
  simp only [Act.put]
  refine hK.out _ _ ((setRow_other _ _ _ _ (by omega)).trans hHeld) (fun hHeld=>?_)
  clear hK K
  refine wpAnyH_take (i:=9) (oi:={ dst:=some 1,op:=.assign (.tmp 18),type:=_,pos:=_,after:=_,guard:=none }) (v:=.slice (some ⟨w5.heap.size,0,none⟩) 3 3) rfl (by kernel_rfl) (by kernel_rfl) (by kernel_rfl) (fun _ _ _ h=>h) (Or.inl ⟨by rfl,fun wz hz=>by go_simp⟩) hHeld ?_
  simp only [Act.put,gd,ge,gf]
  refine wpAnyH_done (by kernel_rfl) ?_ _
  go_wp2_with (fail)
  have hkx:KX w.heap.size w5 ((w5.alloc ob).setRow w.heap.size row):=(KX.of_ext (Ext.alloc (Ext.refl w5) ob)).trans (KX.setRow' _ _ _)
  exact bodyPost_ret (v:=.tuple #[.agg row,.slice (some ⟨w5.heap.size,0,none⟩) 3 3]) (results_cell1t Tryz.results27 _ _ w.heap.size 39 _ _ _ (.slice (some ⟨w5.heap.size,0,none⟩) 3 3) (by rfl) (by rfl) (setRow_heap _ _ _ row _ _ ((alloc_old _ hl5).trans hD5)) Tryz.underlying39 hi39) rfl (fin _ hkx ((setRow_other _ _ _ _ (Nat.ne_of_gt hl5)).trans (alloc_new w5 ob)))
 ·rw [if_pos (by rfl)]
  refine op_store_row 39 (.tmp 0) (.tmp 11) rfl w.heap.size (by rfl) row (by rfl) _ 39 hD5 (by rw [hrs];rfl) hi39 hone ?_
  simp only [Act.put]
  refine hK.out _ _ ((setRow_other _ _ _ _ (by omega)).trans hHeld) (fun hHeld=>?_)
  clear hK K
  refine wpAnyH_ready (rs:=[7]) (by kernel_rfl) (by simp) (AllReadyH.cons (o:=_) rfl (fun K hK=>?_) AllReadyH.nil)
  go_simp
  rw [show Obj.cells #[iV 7,iV 1,iV 1,iV 100,.slice (some ⟨q1,0,none⟩) 1 1,iV 8,iV 1,iV 2,iV 200,.slice (some ⟨q2,0,none⟩) 1 1,iV 9,iV 1,iV 3,iV 600,.slice (some ⟨q3,0,none⟩) 1 1] 57=ob from HOB.out.symm]
  have hsz6:(w5.setRow w.heap.size row).heap.size=w5.heap.size:=by simp
  refine hK.out _ _ ((alloc_old _ (zL hHeld)).trans hHeld) (fun hHeld=>?_)
  clear hK K
  refine wpAnyH_take (i:=9) (oi:={ dst:=some 1,op:=.assign (.tmp 18),type:=_,pos:=_,after:=_,guard:=none }) (v:=.slice (some ⟨w5.heap.size,0,none⟩) 3 3) rfl (by kernel_rfl) (by kernel_rfl) (by kernel_rfl) (fun _ _ _ h=>h) (Or.inl ⟨by rfl,fun wz hz=>by go_simp⟩) hHeld ?_
  simp only [Act.put,gd,ge,gf]
  refine wpAnyH_done (by kernel_rfl) ?_ _
  go_wp2_with (fail)
  have hkx:KX w.heap.size w5 ((w5.setRow w.heap.size row).alloc ob):=(KX.setRow' _ _ _).trans (KX.of_ext (Ext.alloc (Ext.refl _) ob))
  exact bodyPost_ret (v:=.tuple #[.agg row,.slice (some ⟨w5.heap.size,0,none⟩) 3 3]) (results_cell1t Tryz.results27 _ _ w.heap.size 39 _ _ _ (.slice (some ⟨w5.heap.size,0,none⟩) 3 3) (by rfl) (by rfl) ((alloc_old _ (by rw [hsz6];exact hl5)).trans (setRow_heap _ _ _ row _ _ hD5)) Tryz.underlying39 hi39) rfl (fin _ hkx (by rw [← hsz6];exact alloc_new _ ob))
def winF (rk:List Rk) (e:Int):Int×Int:=
 if e=0 then (match rk with
  | []=>(0,34)
  | x :: _=>if x.place=1 then (x.bid,0) else (0,34))
 else (0,e)
def SortsOk (r:TnR) (T:TP) (lot:Int) (xs:List ER):Prop:=
 errE T.ls lot (ownE lot xs)=0→∀ w0 recv,CmpAt w0 recv (cmpS T.cs T.ts) (goodF r T (lowF r T (ownE lot xs)) (ownE lot xs))→SortAt w0 recv (cmpS T.cs T.ts) (goodF r T (lowF r T (ownE lot xs)) (ownE lot xs))
theorem Winner_any (r:TnR) (T:TP) (lot:Int) (v:Value) (xs:List ER) (w:World) (h:TV w r T) (hv:XR w v xs) (hxl:xs.length≤100000) (hS:SortsOk r T lot xs) :
 Calls Tryz.prog 17 #[.agg (tenC r),iV lot,v] w fun e w'=>e=.returned (.tuple #[iV (winF (rankL r T lot xs) (errE T.ls lot (ownE lot xs))).1,iV (winF (rankL r T lot xs) (errE T.ls lot (ownE lot xs))).2])∧Ext w w':=by
 have hx1:Ext w (w.alloc (.cells (tenC r) 39)):=Ext.alloc (Ext.refl _) _
 have g3:(w.alloc (.cells (tenC r) 39)).heap[w.heap.size]? = some (.cells (tenC r) 39):=block_new rfl
 obtain ⟨row,hrow⟩:∃ row,row=(tenC r).toList:=⟨_,rfl⟩
 have hrs:row.length=20:=by rw [hrow];rfl
 have hrt:row.toArray=tenC r:=by rw [hrow]
 have HRK:=zH (fun wz (hw:Ext w wz)=>Rank_any r T lot v xs wz (h.ext hw) (hv.ext hw) hxl hS)
 rw [← hrt] at HRK
 have hrl:(rankL r T lot xs).length≤1000000:=by
  unfold rankL
  split
  ·rw [List.length_append,inF_len,sortF,isort_len]
   have h1:=List.length_filter_le (fun x:ER=>x.1.lot == lot) xs
   have h2:=List.length_filter_le (fun x:ER=>badF r T (lowF r T (ownE lot xs)) x.1 == 0) (ownE lot xs)
   have h3:=List.length_filter_le (fun x:ER=>!(badF r T (lowF r T (ownE lot xs)) x.1 == 0)) (ownE lot xs)
   have h4:(ownE lot xs).length≤xs.length:=h1
   unfold goodF outF
   rw [List.length_map,List.length_map]
   omega
  ·simp
 have HRL:=zH hrl
 generalize rankL r T lot xs=rk at *
 generalize errE T.ls lot (ownE lot xs)=er at *
 obtain ⟨W1,hW1⟩:∃ W1,W1=w.alloc (.cells (tenC r) 39):=⟨_,rfl⟩
 rw [← hW1] at hx1 g3
 obtain ⟨G3,hG3⟩:∃ x,x=w.heap.size:=⟨_,rfl⟩
 rw [← hG3] at g3
 have HRG:Hid (W1.rangeAt G3 0 row):=zH (range_of g3 0 row (fun j v hv=>by rw [hrow] at hv;simpa using hv))
 have HX1:=zH hx1
 have l3:=zL g3
 clear h hv hxl hS hrow hrt hx1 g3 hrl
 go_in
 go_upto_region 1 with (fail)
 rw [← hW1]
 rw [← hG3]
 clear hW1 hG3
 go_upto_region 2 with (first
  |(refine wpList_load_mid rfl 39 (.tmp 3) rfl G3 0 (by rfl) row _ HRG.out Tryz.underlying39 rfl (by rw [hrs];kernel_rfl) ?_)
  |(go_at_call 15;(with_reducible refine (HRK.out _ HX1.out).mono ?_);rintro e w2 ⟨v',rfl,hx2,ho2⟩;have HX2:=zH (HX1.out.trans hx2);have HO2:=zH ho2;clear hx2 ho2))
 obtain ⟨ob,oc,hof⟩:=row_form HO2.out
 subst hof
 by_cases he:er=0
 ·subst he
  cases rk with
  | nil=>
   go_wp2_with (fail)
   go_ret2
   exact ⟨rfl,HX2.out⟩
  | cons x l=>
   obtain ⟨g,cap,hf,-,hgl⟩:=HO2.out.form (by simp)
   injection hf with hf1 _ _
   subst hf1
   have hsr:=SR.of_row (cs:=Rk.cs) (fun y=>(one_rk y).1) HO2.out (by have:=HRL.out;omega)
   obtain ⟨b,hb,-,hc⟩:=hsr.block 0 (by simp)
   injection hb with hb
   injection hb with hb
   subst hb
   have c0:w2.cell? ⟨g,0,none⟩=some (iV x.bid):=hc 0 (by simp) 0 _ rfl
   have c3:w2.cell? ⟨g,3,none⟩=some (iV x.place):=hc 0 (by simp) 3 _ rfl
   have hlp:(0:Int) < ((x :: l).length:Int):=by simp <;> omega
   have hlz:(((x :: l).length:Int) == 0)=false:=by rw [beq_eq_false_iff_ne];simp <;> omega
   obtain ⟨x0,xp,x3,x4⟩:=x
   simp only at c0 c3
   have HWF:Hid (winF (⟨x0,xp,x3,x4⟩ :: l) 0=if x3=1 then (x0,0) else (0,34)):=zH rfl
   clear hc hsr HO2 HRK HRL
   generalize hnn:(Rk.mk x0 xp x3 x4 :: l).length=n at hlp hlz ⊢
   clear hnn
   by_cases hp:x3=1
   ·subst hp
    rw [if_pos rfl] at HWF
    go_wp2_with (fail)
    go_ret2
    exact ⟨by rw [HWF.out];rfl,HX2.out⟩
   ·have hpq:(x3 == 1)=false:=by rw [beq_eq_false_iff_ne];exact hp
    have hpn:(x3 != 1)=true:=by rw [bne,hpq];rfl
    rw [if_neg hp] at HWF
    go_wp2_with (fail)
    go_ret2
    exact ⟨by rw [HWF.out];rfl,HX2.out⟩
 ·have heb:(er == 0)=false:=by rw [beq_eq_false_iff_ne];exact he
  have HWF:Hid (winF rk er=(0,er)):=zH (if_neg he)
  go_wp2_with (fail)
  go_ret2
  exact ⟨by rw [HWF.out];rfl,HX2.out⟩
abbrev Rk.tup (x:Rk):Int×Int×Int×Int×Int:=(x.bid,x.p.1,x.p.2,x.place,x.out)
theorem Rk.tup_inj {x y:Rk} (h:x.tup=y.tup):x=y:=by
 obtain ⟨x0,⟨x1,x2⟩,x3,x4⟩:=x
 obtain ⟨y0,⟨y1,y2⟩,y3,y4⟩:=y
 simp only [Rk.tup,Prod.mk.injEq] at h
 obtain ⟨rfl,rfl,rfl,rfl,rfl⟩:=h
 rfl
def sameL (a b:List Rk):Bool:=decide (a.map Rk.tup=b.map Rk.tup)
theorem sameL_eq {a b:List Rk}:sameL a b=true↔a=b:=by
 unfold sameL
 rw [decide_eq_true_eq]
 constructor
 ·intro h
  induction a generalizing b with
  | nil=>cases b with
   | nil=>rfl
   | cons y l=>cases h
  | cons x l ih=>cases b with
   | nil=>cases h
   | cons y m=>
    rw [List.map_cons,List.map_cons] at h
    injection h with h1 h2
    rw [Rk.tup_inj h1,ih h2]
 ·rintro rfl;rfl
theorem sameL_no {a b:List Rk} (h:a≠b):sameL a b=false:=by
 cases hs:sameL a b with
 | false=>rfl
 | true=>exact absurd (sameL_eq.1 hs) h
theorem same19_any (va vb:Value) (a b:List Rk) (w:World) (ha:SR Rk.cs 5 w va a) (hb:SR Rk.cs 5 w vb b) :
 Calls Tryz.prog 19 #[va,vb] w fun e w'=>e=.returned (.bool (sameL a b))∧Ext w w':=by
 obtain ⟨ba,ca,rfl⟩:=ha.form
 obtain ⟨bb,cb,rfl⟩:=hb.form
 have hla:=ha.le;have hlb:=hb.le
 have HA:=zH ha;have HB:=zH hb
 clear ha hb
 go_in
 by_cases hl:a.length=b.length
 ·have hbq:((a.length:Int) != (b.length:Int))=false:=by simp [hl]
  have HL:=zH hl
  have hle:¬ (a.length:Int)≠(b.length:Int):=by simp [hl]
  obtain ⟨n,hn⟩:∃ n,n=a.length:=⟨_,rfl⟩
  obtain ⟨m,hm⟩:∃ m,m=b.length:=⟨_,rfl⟩
  rw [← hn] at hla HL hbq ⊢
  rw [← hm] at hlb HL hbq ⊢
  have HN:=zH hn;have HM:=zH hm
  clear hn hm hl hle
  go_upto_region 4 with (fail)
  go_loopw [5] (fun iv wr=>∃ k:Nat,iv=iV k∧k≤n∧Hid (a.take k=b.take k)∧Hid (Ext w wr)) (fun iv _=>n - (iof iv).toNat)
  case atStart=>exact ⟨0,rfl,Nat.zero_le _,zH rfl,zH (Ext.refl _)⟩
  case round=>
   obtain ⟨k,rfl,hk,HT,HX⟩:=hrel
   by_cases hkl:k < n
   ·have hka:k < a.length:=by have:=HN.out;omega
    have hkb:k < b.length:=by have:=HN.out;have:=HM.out;have:=HL.out;omega
    have hki:(k:Int) < (n:Int):=by omega
    have hkm:(k:Int) < (m:Int):=by have:=HL.out;omega
    obtain ⟨g,hg,hca⟩:=(HN.out ▸ HA.out).at HX.out k hka
    obtain ⟨g',hg',hcb⟩:=(HM.out ▸ HB.out).at HX.out k hkb
    subst hg hg'
    have HTA:Hid (a.take (k+1)=a.take k ++ [a[k]]):=zH (List.take_succ_eq_append_getElem hka)
    have HTB:Hid (b.take (k+1)=b.take k ++ [b[k]]):=zH (List.take_succ_eq_append_getElem hkb)
    have HNE:Hid (a[k]≠b[k]→a≠b):=zH (fun h e=>h (by subst e;rfl))
    have a0:=hca 0 _ rfl;have a1:=hca 1 _ rfl;have a2:=hca 2 _ rfl;have a3:=hca 3 _ rfl;have a4:=hca 4 _ rfl
    have b0:=hcb 0 _ rfl;have b1:=hcb 1 _ rfl;have b2:=hcb 2 _ rfl;have b3:=hcb 3 _ rfl;have b4:=hcb 4 _ rfl
    clear hca hcb
    generalize a[k]=x at *
    generalize b[k]=y at *
    obtain ⟨x0,⟨x1,x2⟩,x3,x4⟩:=x
    obtain ⟨y0,⟨y1,y2⟩,y3,y4⟩:=y
    simp only [Nat.add_zero] at a0 a1 a2 a3 a4 b0 b1 b2 b3 b4
    have la:=zB wr _ a1
    have lb:=zB wr _ b1
    by_cases h0:x0=y0
    ·by_cases h1:x1=y1
     ·by_cases h2:x2=y2
      ·by_cases h3:x3=y3
       ·by_cases h4:x4=y4
        ·subst h0 h1 h2 h3 h4
         go_upto_region 6 with (fail)
         go_quiet (fail)
         go_wp2_with (fail)
         exact ⟨⟨k+1,by rfl,by omega,zH (by rw [HTA.out,HTB.out,HT.out]),zH (HX.out.trans xt)⟩,by simp [iof];omega⟩
        ·subst h0 h1 h2 h3
         have hq:(x4 == y4)=false:=by rw [beq_eq_false_iff_ne];exact h4
         have HF:Hid (sameL a b=false):=zH (sameL_no (HNE.out (fun e=>by injection e with e0 e1 e2 e3;injection e1 with e1 e5;exact h4 (by assumption))))
         go_upto_region 6 with (fail)
         go_quiet (fail)
         go_wp2
         go_ret
         exact ⟨by rw [HF.out];rfl,HX.out.trans xt⟩
       ·subst h0 h1 h2
        have hq:(x3 == y3)=false:=by rw [beq_eq_false_iff_ne];exact h3
        have HF:Hid (sameL a b=false):=zH (sameL_no (HNE.out (fun e=>by injection e with e0 e1 e2 e3;injection e1 with e1 e5;exact h3 (by assumption))))
        go_upto_region 6 with (fail)
        go_quiet (fail)
        go_wp2
        go_ret
        exact ⟨by rw [HF.out];rfl,HX.out.trans xt⟩
      ·subst h0 h1
       have hq:(x2 == y2)=false:=by rw [beq_eq_false_iff_ne];exact h2
       have HF:Hid (sameL a b=false):=zH (sameL_no (HNE.out (fun e=>by injection e with e0 e1 e2 e3;injection e1 with e1 e5;exact h2 (by assumption))))
       go_upto_region 6 with (fail)
       go_quiet (fail)
       go_wp2
       go_ret
       exact ⟨by rw [HF.out];rfl,HX.out.trans xt⟩
     ·subst h0
      have hq:(x1 == y1)=false:=by rw [beq_eq_false_iff_ne];exact h1
      have HF:Hid (sameL a b=false):=zH (sameL_no (HNE.out (fun e=>by injection e with e0 e1 e2 e3;injection e1 with e1 e5;exact h1 (by assumption))))
      go_upto_region 6 with (fail)
      go_quiet (fail)
      go_wp2
      go_ret
      exact ⟨by rw [HF.out];rfl,HX.out.trans xt⟩
    ·have hq:(x0 == y0)=false:=by rw [beq_eq_false_iff_ne];exact h0
     have HF:Hid (sameL a b=false):=zH (sameL_no (HNE.out (fun e=>by injection e with e0 e1 e2 e3;injection e1 with e1 e5;exact h0 (by assumption))))
     go_upto_region 6 with (fail)
     go_quiet (fail)
     go_wp2
     go_ret
     exact ⟨by rw [HF.out];rfl,HX.out.trans xt⟩
   ·obtain rfl:k=n:=by omega
    have HF:Hid (sameL a b=true):=zH (sameL_eq.2 (by
     have h1:=HT.out
     rw [List.take_of_length_le (by have:=HN.out;omega),List.take_of_length_le (by have:=HN.out;have:=HM.out;have:=HL.out;omega)] at h1
     exact h1))
    go_wp2
    go_ret
    exact ⟨by rw [HF.out];rfl,HX.out⟩
 ·have HF:Hid (sameL a b=false):=zH (sameL_no (fun e=>hl (by rw [e])))
  have hli:¬ (a.length:Int)=(b.length:Int):=by omega
  go_wp2
  go_ret
  exact ⟨by rw [HF.out];rfl,xt⟩
end Go.Proofs.YteomcpplajeidaaGreat
