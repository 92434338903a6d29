/-
  Lemmas of this claim (JwW). Nothing is asked.
-/
import Derived.Test.YteomcpplajeidaaGreatJwR
import Derived.Test.YteomcpplajeidaaGreatJwO
import Derived.Deep.Upon
import Derived.ArgAppend
import Derived.Test.YteomcpplajeidaaGreatJwV
import Derived.Test.YteomcpplajeidaaGreatJwS
import Derived.BigQuiet
import Derived.Deep.QuietTactic
set_option linter.unusedVariables false
set_option linter.unusedSimpArgs false
set_option maxRecDepth 100000
set_option maxHeartbeats 40000000
namespace Go.Proofs.YteomcpplajeidaaGreat
open Go.RowKit
theorem VR.app {a b:Vals} (h:VR a) (h':VR b):VR (a ++ b):=fun x hx=>(List.mem_append.1 hx).elim (h x) (h' x)
theorem flatP_len (l:Vals):(l.flatMap cellsP).length=l.length * 2:=by
 induction l with
 | nil=>rfl
 | cons p l ih=>rw [List.flatMap_cons,List.length_append,ih,List.length_cons];show 2+_=_;omega
theorem append_vals_run (w:World) (ty:TypeId) (b n:Nat) (vs us:Vals) (x:Value) (hn:vs.length=n) (h:VRd All w vs (.slice (some ⟨b,0,none⟩) n n)) (h0:0 < n) (hu:VRd All w us x) (hl:vs.length+us.length≤1000000) :
 ∃ v' w',(Builtin.append_ #[55,55] ty #[.slice (some ⟨b,0,none⟩) n n,x]).run Tryz.prog w=.ok v' w'∧Ext w w'∧VRd All w' (vs ++ us) v':=by
 obtain ⟨i0,hi,hz0,hz1,hz2⟩:=info_parts (show (Tryz.prog.info? 80).map (fun i=>(i.zero,i.size,i.bytes))=some (some (.agg #[.string ⟨#[]⟩,iV 0]),2,24) by kernel_rfl)
 subst hn
 obtain ⟨_,_,e,-,hr,hc⟩:=h
 injection e with e1 _ _
 subst e1
 obtain ⟨b',o',e,-,hc⟩:=hc.resolve_left (by intro e;rw [e] at h0;exact Nat.lt_irrefl _ h0)
 injection e with e
 injection e with e eo _
 subst e
 subst eo
 obtain ⟨A,c,rfl,-,hru,hcu⟩:=hu
 by_cases hus:us=[]
 ·subst hus
  have hsrc:Src Tryz.prog i0.size 55 (.slice A 0 c) 0 [] w:=by
   cases A with
   | none=>exact Src.ofNil w Tryz.underlying55 c
   | some a=>exact Src.ofSlice w Tryz.underlying55 a 0 c _ (by simp) (by simp) (by simp)
  have hrun:=run_append_nothing (P:=Tryz.prog) w 55 55 ty 80 i0 Tryz.underlying55 hi (some ⟨b,0,none⟩) vs.length vs.length (Nat.le_refl _) (.slice A 0 c) hsrc
  refine ⟨_,_,hrun,Ext.refl _,?_⟩
  rw [List.append_nil]
  exact ⟨_,_,rfl,by omega,hr,.inr ⟨b,0,rfl,trivial,hc⟩⟩
 ·obtain ⟨d,od,rfl,-,hcu⟩:=hcu.resolve_left hus
  have hpos:0 < us.length:=List.length_pos_iff.2 hus
  have flat:∀ (l:Vals) (g o:Nat) (hg:∀ k (h:k < l.length),w.cell? ⟨g,o+k * 2,none⟩=some (.string l[k].1)∧w.cell? ⟨g,o+k * 2+1,none⟩=some (iV l[k].2)) (j:Nat) (u:Value),(l.flatMap cellsP)[j]? = some u→w.cell? ⟨g,o+j,none⟩=some u:=by
   intro l g o hg j u hj
   have hjl:j < l.length * 2:=by rw [← flatP_len];exact (List.getElem?_eq_some_iff.1 hj).1
   obtain ⟨q,hq,e⟩:∃ q,q < l.length∧(j=q * 2∨j=q * 2+1):=⟨j / 2,by omega,by omega⟩
   obtain ⟨f0,f1⟩:=flat2 l q hq
   obtain ⟨g0,g1⟩:=hg q hq
   rcases e with rfl|rfl
   ·rw [f0] at hj;rw [g0];exact hj
   ·rw [f1] at hj;rw [← Nat.add_assoc,g1];exact hj
  have hone:∀ u∈us.flatMap cellsP,u.oneCell' = true:=by
   intro u hu
   obtain ⟨p,-,hp⟩:=List.mem_flatMap.1 hu
   simp [cellsP] at hp
   rcases hp with rfl|rfl <;> rfl
  obtain ⟨v',w',hrun,ho,hg⟩:=run_append_arg_grows (P:=Tryz.prog) w 55 ty 80 i0 _ 2 24 Tryz.underlying55 hi hz0 hz1 hz2 rfl (by decide) ⟨b,0,none⟩ vs.length vs.length (vs.flatMap cellsP) (flatP_len vs)
   (fun j u hj=>by rw [Addr.add_lit];exact flat vs b 0 hc j u hj) ⟨d,od,none⟩ us.length c (us.flatMap cellsP) (flatP_len us) (fun j u hj=>by rw [Addr.add_lit];exact flat us d od hcu j u hj) (by omega) (by unfold maxLen;omega) (by omega)
  refine ⟨v',w',hrun,⟨hg.os,hg.tape,hg.output,hg.size,fun k hk=>hg.block k hk (by simp)⟩,?_⟩
  have ho':PR w.heap.size w' v' (vs ++ us):=by
   show w'.ownsRow w.heap.size 80 2 v' (vs ++ us).length ((vs ++ us).flatMap cellsP)
   rw [List.flatMap_append,List.length_append];exact ho
  exact ho'.vrd (hr.app hru) (by rw [List.length_append];exact hl)
def ptVals (p l:Int) (us:Vals):Vals:=(priceB,p) :: (lowB,l) :: us
theorem points_any (us:Vals) (t:Ex)   (p l:Int) (hpr:-9223372036854775808≤p∧p≤9223372036854775807) (hlr:-9223372036854775808≤l∧l≤9223372036854775807) (w:World) (c0 c1 c2 c3 c4 c5 f0 f1 f2 f3 f4 k1 k2 k3 k4 k5 k6 k7 k8 k9 e0 e1 e2 sl:Value)
 (hv:Rd All w t (.agg #[f0,f1,f2,f3,f4])) (hs:VRd All w us sl) (hu:us.length≤999998) :
 Calls Tryz.prog 23 #[.agg #[c0,c1,c2,c3,c4,c5,f0,f1,f2,f3,f4,k1,k2,k3,k4,k5,k6,k7,k8,k9],.agg #[e0,e1,e2,iV p,sl],iV l] w fun e w'=>e=.returned (rev (evalI (ptVals p l us) t))∧Ext w w':=by
 have HV:=zH hv;have HS:=zH hs
 have HEV:=zH (fun w' (hw:Ext w w') sl' (h':VRd All w' (ptVals p l us) sl')=>(eval_any All (ptVals p l us) t w' _ sl' (hv.ext hw) h'))
 have hvr:VR [(priceB,p),(lowB,l)]:=fun x hx=>by
  simp only [List.mem_cons,List.not_mem_nil,or_false] at hx
  rcases hx with rfl|rfl
  ·exact hpr
  ·exact hlr
 have HVR:=zH hvr
 clear hv hs hvr hpr hlr
 generalize evalI (ptVals p l us) t=r at *
 obtain ⟨⟨r1,r2⟩,rf⟩:=r
 obtain ⟨W1,hW1⟩:∃ W1,W1=(((w.alloc (.cells #[c0,c1,c2,c3,c4,c5,f0,f1,f2,f3,f4,k1,k2,k3,k4,k5,k6,k7,k8,k9] 39)).alloc (.cells #[e0,e1,e2,iV p,sl] 57)).alloc (.cells #[iV 0,iV 0] 30)):=⟨_,rfl⟩
 have hx1:Ext w W1:=by rw [hW1];exact Ext.alloc (Ext.alloc (Ext.alloc (Ext.refl _) _) _) _
 have hp2:W1.heap[w.heap.size]? = some (.cells #[c0,c1,c2,c3,c4,c5,f0,f1,f2,f3,f4,k1,k2,k3,k4,k5,k6,k7,k8,k9] 39):=by rw [hW1,Below.heap_alloc _ _ _ (by simp;omega),Below.heap_alloc _ _ _ (by simp)];exact heap_alloc_new _ _
 have hp3:W1.heap[w.heap.size+1]? = some (.cells #[e0,e1,e2,iV p,sl] 57):=by rw [hW1,Below.heap_alloc _ _ _ (by simp)];exact block_new (by simp)
 have hp4:W1.heap[w.heap.size+1+1]? = some (.cells #[iV 0,iV 0] 30):=by rw [hW1];exact block_new (by simp)
 go_in
 go_upto_region 1 with (fail)
 rw [← hW1]
 clear hW1
 obtain ⟨p2,hp2e⟩:∃ p2,p2=w.heap.size:=⟨_,rfl⟩
 obtain ⟨p3,hp3e⟩:∃ p3,p3=w.heap.size+1:=⟨_,rfl⟩
 obtain ⟨p4,hp4e⟩:∃ p4,p4=w.heap.size+1+1:=⟨_,rfl⟩
 rw [← hp4e] at hp4 ⊢
 rw [← hp3e] at hp3 ⊢
 rw [← hp2e] at hp2 ⊢
 have HX1:=zH hx1
 have HC:Hid (∀ W,Ext W1 W→(W.cell? ⟨p2,6,none⟩=some f0∧W.cell? ⟨p2,7,none⟩=some f1∧W.cell? ⟨p2,8,none⟩=some f2∧W.cell? ⟨p2,9,none⟩=some f3∧W.cell? ⟨p2,10,none⟩=some f4∧p2 < W.heap.size)∧(W.cell? ⟨p3,3,none⟩=some (iV p)∧W.cell? ⟨p3,4,none⟩=some sl∧p3 < W.heap.size)∧W.heap[p4]? = some (.cells #[iV 0,iV 0] 30)):=zH fun W hW=>by
  have h2:=(hW.block _ (zL hp2)).trans hp2
  have h3:=(hW.block _ (zL hp3)).trans hp3
  have h4:=(hW.block _ (zL hp4)).trans hp4
  exact ⟨⟨(zC h2).1 6,(zC h2).1 7,(zC h2).1 8,(zC h2).1 9,(zC h2).1 10,zL h2⟩,⟨(zC h3).1 3,(zC h3).1 4,zL h3⟩,h4⟩
 have HP4:=zH (show w.heap.size≤p4 by omega)
 clear hx1 hp2 hp3 hp4 hp2e hp3e hp4e
 obtain ⟨-,⟨a3,a4,al⟩,-⟩:=HC.out W1 (Ext.refl _)
 go_upto_region 2 with (fail)
 have hb8:(W1.alloc (.cells #[.string priceB,iV p,.string lowB,iV l] 80)).heap[W1.heap.size]? = some (.cells #[.string priceB,iV p,.string lowB,iV l] 80):=block_new rfl
 have HV8:=zH (vrd2 hb8 HVR.out)
 have HX2:=zH (Ext.alloc (Ext.refl W1) (.cells #[.string priceB,iV p,.string lowB,iV l] 80))
 clear hb8 a3 a4 al
 try change Code.wp _ _ _ _ (W1.alloc (.cells #[.string priceB,iV p,.string lowB,iV l] 80))
 generalize W1.alloc (.cells #[.string priceB,iV p,.string lowB,iV l] 80)=W2 at *
 generalize W1.heap.size=p8 at *
 obtain ⟨⟨a6,a7,a8,a9,a10,al⟩,⟨b3,b4,bl⟩,-⟩:=HC.out W2 HX2.out
 refine Rr.rE [8] [(0,.y),(1,.y),(2,.y),(3,.y),(4,.y),(5,.z),(6,.y),(7,.y),(8,.y)] ?_
 refine Rr.y1 ?_
 refine Rr.y2 (h:=fun wz hw=>up_load29 (by rfl) ((hw.cells.1 _ _ al).trans a6) ((hw.cells.1 _ _ al).trans a7) ((hw.cells.1 _ _ al).trans a8) ((hw.cells.1 _ _ al).trans a9) ((hw.cells.1 _ _ al).trans a10)) (k:=?_)
 iterate 3
  refine Rr.y1 ?_
 refine Rr.zd (fun v w'=>VRd All w' (ptVals p l us) v) (fun v w1 w2 h e=>VRd.ext e h) (fun wz hw hh=>?_) (fun u3=>?_)
 ·obtain ⟨v',w',hrun,hx,hr⟩:=append_vals_run wz 55 p8 2 [(priceB,p),(lowB,l)] us sl rfl (HV8.out.ext hw) (by decide) (HS.out.ext (HX1.out.trans (HX2.out.trans hw))) (by simp;omega)
  unfold execOp
  simp only [resolve,invoke,builtin,Sem.run_bind,Sem.run_pure,Result.andThen_ok,List.map_toArray,List.map_cons,List.map_nil]
  show Rr.upR _ _ _ _ (((Builtin.append_ #[55,55] 55 #[.slice (some ⟨p8,0,none⟩) 2 2,sl]).run Tryz.prog wz).andThen _)
  rw [hrun]
  exact ⟨hx,hr⟩
 simp only [zp]
 refine Rr.yd ⟨rev ((r1,r2),rf),fun wz hw hh=>?_,?_⟩
 ·go_simp
  apply Rg.up_enter
  (refine (HEV.out _ (HX1.out.trans (HX2.out.trans hw)) _ (hold0 hh)).mono ?_)
  rintro e w3 ⟨rfl,hb3⟩
  exact ⟨rfl,hb3⟩
 simp only [zp]
 iterate 2
  refine Rr.y1 ?_
 refine Rr.wr_nil ?_
 intro wy hy hh
 simp only [gg,gh,gi,gj,Nat.reduceAdd]
 have h40:=(HC.out wy (HX2.out.trans hy)).2.2
 refine wpList_store_row (hgd:=rfl) 30 (.tmp 6) (.tmp 22) rfl p4 (by rfl) #[iV r1,iV r2] (by rfl) #[iV 0,iV 0] 30 h40 (by rfl) (by kernel_rfl) (by simp [Value.oneCell']) ?_
 have hbc:=setRow_heap wy p4 _ #[iV r1,iV r2] 30 _ h40
 have hxc:Ext w (wy.setRow p4 #[iV r1,iV r2]):=below_setRow (HX1.out.trans (HX2.out.trans hy)) HP4.out #[iV r1,iV r2]
 generalize wy.setRow p4 #[iV r1,iV r2]=W9 at *
 obtain ⟨hc9,hf9,hl9⟩:=zC hbc
 clear hh h40 hbc hy a6 a7 a8 a9 a10 al b3 b4 bl
 go_wp2_with (fail)
 exact bodyPost_ret (v:=rev ((r1,r2),rf)) (by simp [results,Tryz.results23,go_sem,hc9,hf9]) rfl ⟨rfl,hxc⟩
structure En where
 bid:Int
 lot:Int
 rec_:Int
 price:Int
 vs:Vals
abbrev enC (e:En) (s:Sl):Array Value:=entC e.bid e.lot e.rec_ e.price s
theorem same127 (s nm:ByteArray) (g:Value) (q:Nat) (w:World) (h:w.cell? ⟨q,0,none⟩=some (.string nm)) :
 Calls Tryz.prog 127 #[.agg #[.string s,g],.pointer (some ⟨q,0,none⟩)] w fun e w'=>e=.returned (.bool (s.toList == nm.toList))∧Ext w w':=by
 have hpl:q < w.heap.size:=zB w _ h
 go_in
 go_wp2
 go_ret
 exact ⟨rfl,xt⟩
theorem enters127 (args:Array Value) (w:World):(callFunc 127 args).run Tryz.prog w=.ok (.enter 127 args) w:=by go_simp
theorem place127_any (S:Nat→Prop) (vs:Vals) (nm:ByteArray) (w:World) (sl:Value) (hs:VRd S w vs sl) (q:Nat) (hq:w.cell? ⟨q,0,none⟩=some (.string nm)) :
 Calls Tryz.prog 126 #[sl,.func (.func 127) #[] #[.pointer (some ⟨q,0,none⟩)]] w fun e w'=>e=.returned (iV (placeI vs nm))∧Ext w w':=by
 obtain ⟨base,cap,rfl,hn,-,hr⟩:=hs
 have hql:q < w.heap.size:=zB w _ hq
 rcases hr with rfl|⟨b,off,rfl,-,hc⟩
 ·exact index70_nil base cap _ w
 ·refine index70 b off vs.length cap hn 127 _ (fun k j=>if h:k < vs.length then (if j=0 then .string vs[k].1 else iV vs[k].2) else undef) _ w ?_ ?_ ?_ enters127
  ·intro k hk
   rw [(hc k hk).1]
   simp [hk]
  ·intro k hk
   rw [(hc k hk).2]
   simp [hk]
  ·intro k w' hk hx
   simp only [hk,dif_pos,if_true]
   exact same127 vs[k].1 nm _ q w' ((hx.cells.1 q 0 hql).trans hq)
def valV (vs:Vals) (nm:ByteArray):Value:=
 match look vs nm with
 | some n=>.tuple #[iV n,.bool true]
 | none=>.tuple #[iV 0,.bool false]
theorem value80_any (e0 e1 e2 e3:Value) (es:Sl) (vs:Vals) (nm:ByteArray) (w:World) (hv:VRd All w vs (slV es)) :
 Calls Tryz.prog 80 #[.agg #[e0,e1,e2,e3,slV es],.string nm] w fun e w'=>e=.returned (valV vs nm)∧Ext w w':=by
 have HV:=zH hv
 have HP:=zH (fun wz (hw:Ext w wz) q (hq:wz.cell? ⟨q,0,none⟩=some (.string nm))=>place127_any All vs nm wz (slV es) (hv.ext hw) q hq)
 obtain ⟨ea,el,ec⟩:=es
 have hlen:el=vs.length∧vs.length≤1000000:=by obtain ⟨_,_,hf,h2,-⟩:=hv;injection hf with _ h1 _;exact ⟨h1,h2⟩
 obtain ⟨rfl,hle⟩:=hlen
 clear hv
 have hb1:((w.alloc (.cells #[e0,e1,e2,e3,.slice ea vs.length ec] 57)).alloc (.cells #[.string nm] 9)).cell? ⟨w.heap.size+1,0,none⟩=some (.string nm):=by
  have:((w.alloc (.cells #[e0,e1,e2,e3,.slice ea vs.length ec] 57)).alloc (.cells #[.string nm] 9)).heap[w.heap.size+1]? = some (.cells #[.string nm] 9):=block_new (by simp)
  rw [cell_of_row _ _ _ _ _ _ this];rfl
 have HB1:=zH hb1
 clear hb1
 cases hl:look vs nm with
 | none=>
  have hpi:=place_none hl
  have HR:Hid (valV vs nm=.tuple #[iV 0,.bool false]):=zH (by unfold valV;rw [hl])
  rw [hpi] at HP
  clear hpi hl
  go_in
  go_upto_region 2 with (go_at_call 126;(refine (HP.out _ ?_ _ HB1.out).mono ?_);(exact xt);rintro e w1 ⟨rfl,hx1⟩)
  have hr:Ext w w1:=xt
  have hc4:w1.cell? ⟨w.heap.size,4,none⟩=some (.slice ea vs.length ec):=(hx1.cells.1 _ _ (by simp;omega)).trans (by go_simp)
  have hl4:w.heap.size < w1.heap.size:=Nat.lt_of_lt_of_le (by simp;omega) hx1.size
  go_wp2_with (fail)
  go_ret2
  exact ⟨by rw [HR.out];rfl,hr⟩
 | some n=>
  obtain ⟨k,hk,hpi,hn⟩:=place_some hl
  have HR:Hid (valV vs nm=.tuple #[iV n,.bool true]):=zH (by unfold valV;rw [hl])
  rw [hpi] at HP
  have HN:=zH hn
  clear hpi hl hn
  go_in
  go_upto_region 2 with (go_at_call 126;(refine (HP.out _ ?_ _ HB1.out).mono ?_);(exact xt);rintro e w1 ⟨rfl,hx1⟩)
  have hr:Ext w w1:=xt
  have hc4:w1.cell? ⟨w.heap.size,4,none⟩=some (.slice ea vs.length ec):=(hx1.cells.1 _ _ (by simp;omega)).trans (by go_simp)
  have hl4:w.heap.size < w1.heap.size:=Nat.lt_of_lt_of_le (by simp;omega) hx1.size
  obtain ⟨b,off,rfl,-,hs1⟩:=VRd.at HV.out hr k hk
  rw [HN.out] at hs1
  have hbl:=zB w1 _ hs1
  have hk1:¬ (k:Int) < 0:=by omega
  have hk2:(k:Int) < (vs.length:Int):=by omega
  go_wp2_with (fail)
  go_ret2
  exact ⟨by rw [HR.out];rfl,hr⟩
theorem same77 (c:Cr) (nm:ByteArray) (p:Nat) (w:World) (hc:w.cell? ⟨p,0,none⟩=some (.string nm)) :
 Calls Tryz.prog 77 #[.agg (cellsCr c).toArray,.pointer (some ⟨p,0,none⟩)] w fun e w'=>e=.returned (.bool (c.name.toList == nm.toList))∧Ext w w':=by
 have hb:=zB w _ hc
 have hn:¬ p=w.heap.size:=by have:p < w.heap.size:=hb;omega
 unfold cellsCr
 go_in
 go_wp2
 go_ret
 exact ⟨by simp,xt⟩
theorem place76_any (cs:List Cr) (nm:ByteArray) (x:Sl) (p:Nat) (w:World) (h:SR cellsCr 5 w (slV x) cs) (hc:w.cell? ⟨p,0,none⟩=some (.string nm)) :
 Calls Tryz.prog 76 #[slV x,.func (.func 77) #[] #[.pointer (some ⟨p,0,none⟩)]] w fun e w'=>e=.returned (iV (idxZ (crP cs nm) cs.length))∧Ext w w':=by
 obtain ⟨base,n,c⟩:=x
 have hb:=zB w _ hc
 rcases Nat.eq_zero_or_pos cs.length with h0|h0
 ·obtain ⟨_,_,hf⟩:=h.form
  injection hf with _ hn _
  rw [h0] at hn ⊢
  subst hn
  exact index86_nil base c _ w
 ·have hle:=h.le
  obtain ⟨b,rfl,rfl,hcs⟩:=h.block 0 h0
  let E:Nat→Nat→Value:=fun k j=>match cs[k]? with|some c=>((cellsCr c)[j]?).getD undef|none=>undef
  have hE:∀ k (hk:k < cs.length) j,j < 5→E k j=((cellsCr cs[k])[j]?).getD undef:=fun k hk j _=>by simp only [E,List.getElem?_eq_getElem hk]
  have hcell:∀ k (hk:k < cs.length) j,j < 5→w.cell? ⟨b,0+k * 5+j,none⟩=some (E k j):=fun k hk j hj=>by
   rw [Nat.zero_add]
   refine hcs k hk j _ ?_
   rw [hE k hk j hj]
   have:j < (cellsCr cs[k]).length:=hj
   rw [List.getElem?_eq_getElem this]
   rfl
  refine index86 b 0 cs.length c hle 77 _ E _ w (fun k hk=>hcell k hk 0 (by decide)) (fun k hk=>hcell k hk 1 (by decide)) (fun k hk=>hcell k hk 2 (by decide)) (fun k hk=>hcell k hk 3 (by decide)) (fun k hk=>hcell k hk 4 (by decide)) (fun k w' hk hx=>?_) (fun _ _=>by kernel_rfl)
  have:=same77 cs[k] nm p w' ((hx.cells.1 _ _ hb).trans hc)
  rw [hE k hk 0 (by decide),hE k hk 1 (by decide),hE k hk 2 (by decide),hE k hk 3 (by decide),hE k hk 4 (by decide)]
  simp only [crP,List.getElem?_eq_getElem hk]
  exact this
def crF (cs:List Cr) (nm:ByteArray):Option Cr:=cs.find? fun c=>c.name.toList == nm.toList
theorem cr_place (cs:List Cr) (nm:ByteArray):(crF cs nm=none∧idxZ (crP cs nm) cs.length = -1)∨∃ k,∃ h:k < cs.length,crF cs nm=some cs[k]∧idxZ (crP cs nm) cs.length=k:=
 idx_find (fun c:Cr=>c.name.toList == nm.toList) cs (crP cs nm) (fun k hk=>by simp [crP,hk])
def tieF (cs:List Cr) (nm:ByteArray) (a b:En):Int:=
 if (nm.toList == [112,114,105,99,101])=true then cmpZ b.price a.price
 else match crF cs nm with
  | none=>0
  | some c=>match look a.vs nm,look b.vs nm with
   | some n,some m=>(if c.less then -1 else 1) * cmpZ n m
   | _,_=>0
def TieV (cs:List Cr) (nm:ByteArray) (fv:Value) (w:World):Prop:=
 ((nm.toList == [112,114,105,99,101])=true∧fv=.func (.func 75) #[] #[]) ∨
 ((nm.toList == [112,114,105,99,101])=false∧crF cs nm=none∧fv=.func (.func 78) #[] #[]) ∨
 ((nm.toList == [112,114,105,99,101])=false∧∃ c p q,crF cs nm=some c∧fv=.func (.func 79) #[] #[.pointer (some ⟨p,0,none⟩),.pointer (some ⟨q,0,none⟩)]∧w.cell? ⟨p,0,none⟩=some (.string nm)∧w.cell? ⟨q,0,none⟩=some (iV (if c.less then -1 else 1)))
theorem TieV.ext {cs:List Cr} {nm:ByteArray} {fv:Value} {w w':World} (h:TieV cs nm fv w) (x:Ext w w'):TieV cs nm fv w':=by
 rcases h with h|h|⟨h,c,p,q,h1,h2,h3,h4⟩
 ·exact .inl h
 ·exact .inr (.inl h)
 ·exact .inr (.inr ⟨h,c,p,q,h1,h2,(x.cells.1 _ _ (zB w _ h3)).trans h3,(x.cells.1 _ _ (zB w _ h4)).trans h4⟩)
theorem tie_any (r:TnR) (cs:List Cr) (nm:ByteArray) (w:World) (h:SR cellsCr 5 w (slV r.cs) cs) :
 Calls Tryz.prog 45 #[.agg (tenC r),.string nm] w fun e w'=>∃ fv,e=.returned fv∧Ext w w'∧TieV cs nm fv w':=by
 obtain ⟨tnm,tls,⟨ca,cl,cc⟩,trs,low,high,fo,f1,f2,fn,tfa,tts,most,tks,budget,t0,t1,t2,t3,t4⟩:=r
 obtain rfl:cl=cs.length:=h.len
 have hle:=h.le
 have HC:=zH h
 obtain ⟨W1,hW1⟩:∃ W1,W1=(w.alloc (.cells (tenC ⟨tnm,tls,(ca,cs.length,cc),trs,low,high,fo,f1,f2,fn,tfa,tts,most,tks,budget,t0,t1,t2,t3,t4⟩) 39)).alloc (.cells #[.string nm] 9):=⟨_,rfl⟩
 have hx1:Ext w W1:=by rw [hW1];exact Ext.alloc (Ext.alloc (Ext.refl _) _) _
 have hp0:W1.heap[w.heap.size]? = some (.cells (tenC ⟨tnm,tls,(ca,cs.length,cc),trs,low,high,fo,f1,f2,fn,tfa,tts,most,tks,budget,t0,t1,t2,t3,t4⟩) 39):=by rw [hW1,Below.heap_alloc _ _ _ (by simp)];exact heap_alloc_new _ _
 have hp1:W1.heap[w.heap.size+1]? = some (.cells #[.string nm] 9):=by rw [hW1];exact block_new (by simp)
 have c2:W1.cell? ⟨w.heap.size,2,none⟩=some (.slice ca cs.length cc):=cell_of_row W1 w.heap.size 2 _ _ _ hp0
 have c0:W1.cell? ⟨w.heap.size+1,0,none⟩=some (.string nm):=cell_of_row W1 (w.heap.size+1) 0 _ _ _ hp1
 have HX1:=zH hx1
 have HB0:=zH hp0;have HB1:=zH hp1
 have hl0:=zL hp0;have hl1:=zL hp1
 have HPL:=zH (fun wz (hw:Ext w wz) q (hq:wz.cell? ⟨q,0,none⟩=some (.string nm))=>place76_any cs nm (ca,cs.length,cc) q wz (h.ext hw) hq)
 clear h hx1 hp0 hp1
 go_in
 go_upto_region 1 with (fail)
 rw [← hW1]
 clear hW1
 generalize w.heap.size+1=p1 at *
 generalize w.heap.size=p0 at *
 cases hnp:(nm.toList == [112,114,105,99,101]) with
 | true=>
  go_wp2
  go_ret
  exact ⟨_,rfl,HX1.out,.inl ⟨hnp,rfl⟩⟩
 | false=>
  have HNP:=zH hnp
  rcases cr_place cs nm with ⟨hf,hi⟩|⟨k,hk,hf,hi⟩
  ·rw [hi] at HPL
   have HF:=zH hf
   clear hf hi
   go_wp2_with (go_at_call 76;(refine (HPL.out _ HX1.out _ c0).mono ?_);rintro e w2 ⟨rfl,hx2⟩)
   go_ret
   exact ⟨_,rfl,HX1.out.trans hx2,.inr (.inl ⟨HNP.out,HF.out,rfl⟩)⟩
  ·rw [hi] at HPL
   have HF:=zH hf
   clear hf hi
   obtain ⟨bc,hbc,hcs⟩:=HC.out.at HX1.out k hk
   subst hbc
   have hc4:W1.cell? ⟨bc,k * 5+4,none⟩=some (.bool cs[k].less):=hcs 4 _ rfl
   have hbl:=zB W1 _ hc4
   have hk1:¬ (k:Int) < 0:=by omega
   have hk2:(k:Int) < (cs.length:Int):=by omega
   generalize cs[k]=c at *
   clear hcs
   cases hls:c.less with
   | true=>
    rw [hls] at hc4
    have HLS:=zH hls
    clear hls
    go_wp2_with (go_at_call 76;(refine (HPL.out _ HX1.out _ c0).mono ?_);rintro e w2 ⟨rfl,hx2⟩;have d4:=(hx2.cells.1 _ _ hbl).trans hc4;have d2:=(hx2.cells.1 _ _ hl0).trans c2;have dl:=Nat.lt_of_lt_of_le hbl hx2.size;have dl0:=Nat.lt_of_lt_of_le hl0 hx2.size;have HX2:=zH hx2;have HC0:=zH ((hx2.cells.1 _ _ hl1).trans c0);clear hx2)
    go_ret
    exact ⟨_,rfl,HX1.out.trans (HX2.out.trans (Ext.alloc (Ext.refl _) _)),.inr (.inr ⟨HNP.out,c,p1,_,HF.out,rfl,((Ext.alloc (Ext.refl _) _).cells.1 _ _ (zB w2 _ HC0.out)).trans HC0.out,by rw [HLS.out,cell_of_row _ _ _ _ _ _ (block_new rfl)];rfl⟩)⟩
   | false=>
    rw [hls] at hc4
    have HLS:=zH hls
    clear hls
    go_wp2_with (go_at_call 76;(refine (HPL.out _ HX1.out _ c0).mono ?_);rintro e w2 ⟨rfl,hx2⟩;have d4:=(hx2.cells.1 _ _ hbl).trans hc4;have d2:=(hx2.cells.1 _ _ hl0).trans c2;have dl:=Nat.lt_of_lt_of_le hbl hx2.size;have dl0:=Nat.lt_of_lt_of_le hl0 hx2.size;have HX2:=zH hx2;have HC0:=zH ((hx2.cells.1 _ _ hl1).trans c0);clear hx2)
    go_ret
    exact ⟨_,rfl,HX1.out.trans (HX2.out.trans (Ext.alloc (Ext.refl _) _)),.inr (.inr ⟨HNP.out,c,p1,_,HF.out,rfl,((Ext.alloc (Ext.refl _) _).cells.1 _ _ (zB w2 _ HC0.out)).trans HC0.out,by rw [HLS.out,cell_of_row _ _ _ _ _ _ (block_new rfl)];rfl⟩)⟩
theorem call75 (a b:En) (sa sb:Sl) (w:World):Calls Tryz.prog 75 #[.agg (enC a sa),.agg (enC b sb)] w fun e w'=>e=.returned (iV (cmpZ b.price a.price))∧Ext w w':=by
 have HC:=zH (fun wz=>Compare_i b.price a.price wz)
 obtain ⟨a0,a1,a2,a3,a4⟩:=a
 obtain ⟨b0,b1,b2,b3,b4⟩:=b
 simp only at HC ⊢
 generalize cmpZ b3 a3=z at *
 go_in
 go_wp2_with (go_at_call 72;(refine (HC.out _).mono ?_);rintro e w1 ⟨rfl,rfl⟩)
 go_ret
 exact ⟨rfl,xt⟩
theorem call78 (a b:En) (sa sb:Sl) (w:World):Calls Tryz.prog 78 #[.agg (enC a sa),.agg (enC b sb)] w fun e w'=>e=.returned (iV 0)∧Ext w w':=by
 obtain ⟨a0,a1,a2,a3,a4⟩:=a
 obtain ⟨b0,b1,b2,b3,b4⟩:=b
 go_in
 go_wp2
 go_ret
 exact ⟨rfl,xt⟩
def val2 (s:Int) (x y:Option Int):Int:=
 match x,y with
 | some n,some m=>s * cmpZ n m
 | _,_=>0
theorem call79 (a b:En) (sa sb:Sl) (nm:ByteArray) (s:Int) (hs:s = -1∨s=1) (p q:Nat) (w:World) (ha:VRd All w a.vs (slV sa)) (hb:VRd All w b.vs (slV sb)) (hp:w.cell? ⟨p,0,none⟩=some (.string nm)) (hq:w.cell? ⟨q,0,none⟩=some (iV s)) :
 Calls Tryz.prog 79 #[.agg (enC a sa),.agg (enC b sb),.pointer (some ⟨p,0,none⟩),.pointer (some ⟨q,0,none⟩)] w fun e w'=>e=.returned (iV (val2 s (look a.vs nm) (look b.vs nm)))∧Ext w w':=by
 obtain ⟨a0,a1,a2,a3,va⟩:=a
 obtain ⟨b0,b1,b2,b3,vb⟩:=b
 simp only at ha hb ⊢
 have HA:=zH (fun wz (hw:Ext w wz)=>value80_any (iV a0) (iV a1) (iV a2) (iV a3) sa va nm wz (ha.ext hw))
 have HB:=zH (fun wz (hw:Ext w wz)=>value80_any (iV b0) (iV b1) (iV b2) (iV b3) sb vb nm wz (hb.ext hw))
 have hpl:=zB w _ hp
 have hql:=zB w _ hq
 have HPC:=zH hp;have HQC:=zH hq
 obtain ⟨x,hx⟩:∃ x,x=look va nm:=⟨_,rfl⟩
 obtain ⟨y,hy⟩:∃ y,y=look vb nm:=⟨_,rfl⟩
 unfold valV at HA HB
 rw [← hx] at HA ⊢
 rw [← hy] at HB ⊢
 clear hx hy ha hb
 have hb1:((w.alloc (.cells (enC ⟨a0,a1,a2,a3,va⟩ sa) 57)).alloc (.cells (enC ⟨b0,b1,b2,b3,vb⟩ sb) 57)).heap[w.heap.size]? = some (.cells (enC ⟨a0,a1,a2,a3,va⟩ sa) 57):=by rw [Below.heap_alloc _ _ _ (by simp)];exact heap_alloc_new _ _
 have hb2:((w.alloc (.cells (enC ⟨a0,a1,a2,a3,va⟩ sa) 57)).alloc (.cells (enC ⟨b0,b1,b2,b3,vb⟩ sb) 57)).heap[w.heap.size+1]? = some (.cells (enC ⟨b0,b1,b2,b3,vb⟩ sb) 57):=block_new (by simp)
 have hx1:Ext w ((w.alloc (.cells (enC ⟨a0,a1,a2,a3,va⟩ sa) 57)).alloc (.cells (enC ⟨b0,b1,b2,b3,vb⟩ sb) 57)):=Ext.alloc (Ext.alloc (Ext.refl _) _) _
 go_in
 go_upto_region 1 with (fail)
 have HK:Hid (∀ W,Ext w W→W.cell? ⟨p,0,none⟩=some (.string nm)∧W.cell? ⟨q,0,none⟩=some (iV s)∧p < W.heap.size∧q < W.heap.size):=zH fun W hW=>⟨(hW.cells.1 _ _ hpl).trans HPC.out,(hW.cells.1 _ _ hql).trans HQC.out,Nat.lt_of_lt_of_le hpl hW.size,Nat.lt_of_lt_of_le hql hW.size⟩
 simp only [enC,entC] at hb1 hb2 hx1
 generalize (w.alloc (.cells #[iV a0,iV a1,iV a2,iV a3,slV sa] 57)).alloc (.cells #[iV b0,iV b1,iV b2,iV b3,slV sb] 57)=W1 at *
 generalize w.heap.size+1=r at *
 generalize w.heap.size=g at *
 have HE:Hid (∀ W,Ext W1 W→W.heap[g]? = some (.cells #[iV a0,iV a1,iV a2,iV a3,slV sa] 57)∧W.heap[r]? = some (.cells #[iV b0,iV b1,iV b2,iV b3,slV sb] 57)):=zH fun W hW=>⟨(hW.block _ (zL hb1)).trans hb1,(hW.block _ (zL hb2)).trans hb2⟩
 have HX:=zH hx1
 have HX0:=zH (Ext.refl W1)
 clear hb1 hb2 hx1 hpl hql hp hq
 obtain ⟨e0,e1,e2,e3,e4,-⟩:=cells_five (HE.out _ HX0.out).1;obtain ⟨f0,f1,f2,f3,f4,-⟩:=cells_five (HE.out _ HX0.out).2;obtain ⟨k0,k1,k2,k3⟩:=HK.out _ (HX.out.trans HX0.out);have l0:=zL (HE.out _ HX0.out).1;have l1:=zL (HE.out _ HX0.out).2
 cases x with
 | none=>
  cases y with
  | none=>
   go_wp2_with (first
  |(go_at_call 80;(with_reducible refine (HA.out _ (HX.out.trans HX0.out)).mono ?_);rintro e W2 ⟨rfl,hx2⟩;have HX0:=zH (HX0.out.trans hx2);clear hx2;obtain ⟨e0,e1,e2,e3,e4,-⟩:=cells_five (HE.out _ HX0.out).1;obtain ⟨f0,f1,f2,f3,f4,-⟩:=cells_five (HE.out _ HX0.out).2;obtain ⟨k0,k1,k2,k3⟩:=HK.out _ (HX.out.trans HX0.out);have l0:=zL (HE.out _ HX0.out).1;have l1:=zL (HE.out _ HX0.out).2)
  |(go_at_call 80;(with_reducible refine (HB.out _ (HX.out.trans HX0.out)).mono ?_);rintro e W2 ⟨rfl,hx2⟩;have HX0:=zH (HX0.out.trans hx2);clear hx2;obtain ⟨e0,e1,e2,e3,e4,-⟩:=cells_five (HE.out _ HX0.out).1;obtain ⟨f0,f1,f2,f3,f4,-⟩:=cells_five (HE.out _ HX0.out).2;obtain ⟨k0,k1,k2,k3⟩:=HK.out _ (HX.out.trans HX0.out);have l0:=zL (HE.out _ HX0.out).1;have l1:=zL (HE.out _ HX0.out).2))
   go_ret
   exact ⟨rfl,HX.out.trans HX0.out⟩
  | some m=>
   go_wp2_with (first
  |(go_at_call 80;(with_reducible refine (HA.out _ (HX.out.trans HX0.out)).mono ?_);rintro e W2 ⟨rfl,hx2⟩;have HX0:=zH (HX0.out.trans hx2);clear hx2;obtain ⟨e0,e1,e2,e3,e4,-⟩:=cells_five (HE.out _ HX0.out).1;obtain ⟨f0,f1,f2,f3,f4,-⟩:=cells_five (HE.out _ HX0.out).2;obtain ⟨k0,k1,k2,k3⟩:=HK.out _ (HX.out.trans HX0.out);have l0:=zL (HE.out _ HX0.out).1;have l1:=zL (HE.out _ HX0.out).2)
  |(go_at_call 80;(with_reducible refine (HB.out _ (HX.out.trans HX0.out)).mono ?_);rintro e W2 ⟨rfl,hx2⟩;have HX0:=zH (HX0.out.trans hx2);clear hx2;obtain ⟨e0,e1,e2,e3,e4,-⟩:=cells_five (HE.out _ HX0.out).1;obtain ⟨f0,f1,f2,f3,f4,-⟩:=cells_five (HE.out _ HX0.out).2;obtain ⟨k0,k1,k2,k3⟩:=HK.out _ (HX.out.trans HX0.out);have l0:=zL (HE.out _ HX0.out).1;have l1:=zL (HE.out _ HX0.out).2))
   go_ret
   exact ⟨rfl,HX.out.trans HX0.out⟩
 | some n=>
  cases y with
  | none=>
   go_wp2_with (first
  |(go_at_call 80;(with_reducible refine (HA.out _ (HX.out.trans HX0.out)).mono ?_);rintro e W2 ⟨rfl,hx2⟩;have HX0:=zH (HX0.out.trans hx2);clear hx2;obtain ⟨e0,e1,e2,e3,e4,-⟩:=cells_five (HE.out _ HX0.out).1;obtain ⟨f0,f1,f2,f3,f4,-⟩:=cells_five (HE.out _ HX0.out).2;obtain ⟨k0,k1,k2,k3⟩:=HK.out _ (HX.out.trans HX0.out);have l0:=zL (HE.out _ HX0.out).1;have l1:=zL (HE.out _ HX0.out).2)
  |(go_at_call 80;(with_reducible refine (HB.out _ (HX.out.trans HX0.out)).mono ?_);rintro e W2 ⟨rfl,hx2⟩;have HX0:=zH (HX0.out.trans hx2);clear hx2;obtain ⟨e0,e1,e2,e3,e4,-⟩:=cells_five (HE.out _ HX0.out).1;obtain ⟨f0,f1,f2,f3,f4,-⟩:=cells_five (HE.out _ HX0.out).2;obtain ⟨k0,k1,k2,k3⟩:=HK.out _ (HX.out.trans HX0.out);have l0:=zL (HE.out _ HX0.out).1;have l1:=zL (HE.out _ HX0.out).2))
   go_ret
   exact ⟨rfl,HX.out.trans HX0.out⟩
  | some m=>
   have HC:=zH (fun wz=>Compare_i n m wz)
   have HB3:=zH (cmpZ_bd n m)
   go_upto_region 4 with (first
    |(go_at_call 80;(with_reducible refine (HA.out _ (HX.out.trans HX0.out)).mono ?_);rintro e W2 ⟨rfl,hx2⟩;have HX0:=zH (HX0.out.trans hx2);clear hx2;obtain ⟨e0,e1,e2,e3,e4,-⟩:=cells_five (HE.out _ HX0.out).1;obtain ⟨f0,f1,f2,f3,f4,-⟩:=cells_five (HE.out _ HX0.out).2;obtain ⟨k0,k1,k2,k3⟩:=HK.out _ (HX.out.trans HX0.out);have l0:=zL (HE.out _ HX0.out).1;have l1:=zL (HE.out _ HX0.out).2)
    |(go_at_call 80;(with_reducible refine (HB.out _ (HX.out.trans HX0.out)).mono ?_);rintro e W2 ⟨rfl,hx2⟩;have HX0:=zH (HX0.out.trans hx2);clear hx2;obtain ⟨e0,e1,e2,e3,e4,-⟩:=cells_five (HE.out _ HX0.out).1;obtain ⟨f0,f1,f2,f3,f4,-⟩:=cells_five (HE.out _ HX0.out).2;obtain ⟨k0,k1,k2,k3⟩:=HK.out _ (HX.out.trans HX0.out);have l0:=zL (HE.out _ HX0.out).1;have l1:=zL (HE.out _ HX0.out).2))
   have hwm:IntKind.i64.wrap (s * cmpZ n m)=s * cmpZ n m:=by
    have:=HB3.out
    rw [IntKind.wrap_i64]
    rcases hs with rfl|rfl <;> omega
   have HV:Hid (val2 s (some n) (some m)=s * cmpZ n m):=zH rfl
   generalize cmpZ n m=z at *
   go_quiet (first|(go_at_call 72;(with_reducible refine Calls.quiet_of_same ((HC.out _).mono fun _ _ h=>⟨h.1,h.2.symm⟩))))
   go_wp2
   go_ret
   exact ⟨by rw [HV.out];rfl,HX.out.trans (HX0.out.trans xt)⟩
theorem tie_val (cs:List Cr) (nm:ByteArray) (a b:En):tieF cs nm a b=if (nm.toList == [112,114,105,99,101])=true then cmpZ b.price a.price else match crF cs nm with|none=>0|some c=>val2 (if c.less then -1 else 1) (look a.vs nm) (look b.vs nm):=by
 unfold tieF val2
 split
 ·rfl
 ·cases crF cs nm with
  | none=>rfl
  | some c=>cases look a.vs nm <;> cases look b.vs nm <;> rfl
end Go.Proofs.YteomcpplajeidaaGreat
