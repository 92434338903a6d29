/-
  Lemmas of this claim (JwAQ). Nothing is asked.
-/
import Derived.Test.YteomcpplajeidaaGreatJwZ
import Derived.Deep.RegionHeld
import Derived.Test.YteomcpplajeidaaGreatJwAE
set_option linter.unusedVariables false
set_option linter.unusedSimpArgs false
set_option maxRecDepth 100000
set_option maxHeartbeats 40000000
namespace Go.Proofs.YteomcpplajeidaaGreat
open Go.RowKit
section
variable {P:Program} {ops:Array Oper} {Q:Exit→Act→World→Prop} {md:Region.Mode}
def waitsB (md:Region.Mode) (ops:Array Oper):Nat→Nat→Nat→Bool
 | 0,_,_=>false
 | f+1,j,i=>match ops[j]? with
  | some o=>o.after.any fun e=>Region.binds md e && (e.on == i || waitsB md ops f e.on i)
  | none=>false
def Shutd (md:Region.Mode) (ops:Array Oper) (l:Array Bool):Prop:=∀ j o,ops[j]? = some o→l.getD j true=true→∀ e∈o.after,Region.binds md e=true→l.getD e.on false=true
def shutB (md:Region.Mode) (ops:Array Oper) (l:Array Bool):Bool:=decide (ops.size=l.size) && (List.range ops.size).all fun j=>!l.getD j true || (match ops[j]? with|some o=>o.after.all fun e=>!Region.binds md e || l.getD e.on false|none=>true)
theorem shut_of {l:Array Bool} (h:shutB md ops l=true):l.size=ops.size∧Shutd md ops l:=by
 unfold shutB at h
 rw [Bool.and_eq_true,decide_eq_true_eq] at h
 refine ⟨h.1.symm,fun j o hj hl e he hb=>?_⟩
 have hjs:j < ops.size:=(Array.getElem?_eq_some_iff.1 hj).1
 have h2:=List.all_eq_true.1 h.2 j (List.mem_range.2 hjs)
 rw [hl,hj] at h2
 simp only [Bool.not_true,Bool.false_or] at h2
 have h3:=Array.all_eq_true'.1 h2 e he
 rw [hb] at h3
 simpa using h3
theorem getD_both' {l:Array Bool} {k:Nat} (h:l.getD k false=true):l.getD k true=true:=by
 rcases Nat.lt_or_ge k l.size with e|e
 ·simpa [Array.getD,e] using h
 ·simp [Array.getD,Nat.not_lt.2 e] at h
theorem waits_done {l:Array Bool} (hs:Shutd md ops l):∀ (f j i:Nat),l.getD j true=true→waitsB md ops f j i=true→l.getD i true=true
 | 0,_,_,_,h=>by cases h
 | f+1,j,i,hl,h=>by
  unfold waitsB at h
  split at h
  ·rename_i o ho
   obtain ⟨e,he,hb⟩:=Array.any_eq_true'.1 h
   rw [Bool.and_eq_true,Bool.or_eq_true] at hb
   have h1:=getD_both' (hs j o ho hl e he hb.1)
   rcases hb.2 with h2|h2
   ·rw [← beq_iff_eq.1 h2];exact h1
   ·exact waits_done hs f _ i h1 h2
  ·cases h
theorem not_ready {l:Array Bool} (hs:Shutd md ops l) {f m i:Nat} (hw:waitsB md ops f m i=true) (hi:l.getD i true=false):m ∉ Region.ready md ops l:=fun hm=>by
 obtain ⟨-,o,ho,hall⟩:=mem_ready.1 hm
 cases f with
 | zero=>cases hw
 | succ f=>
  unfold waitsB at hw
  rw [ho] at hw
  obtain ⟨e,he,hb⟩:=Array.any_eq_true'.1 hw
  rw [Bool.and_eq_true,Bool.or_eq_true] at hb
  have h1:=getD_both' (hall e he hb.1)
  rcases hb.2 with h2|h2
  ·rw [beq_iff_eq.1 h2,hi] at h1;cases h1
  ·rw [waits_done hs f _ i h1 h2] at hi;cases hi
theorem shut_set {l:Array Bool} (hs:Shutd md ops l) {j:Nat} (hj:j∈Region.ready md ops l):Shutd md ops (l.setIfInBounds j true):=fun k o hk hl e he hb=>by
 have up:∀ n,l.getD n false=true→(l.setIfInBounds j true).getD n false=true:=fun n hn=>by
  rcases Nat.lt_or_ge n l.size with e1|e1
  ·by_cases hnj:j=n
   ·subst hnj
    simp [Array.getD,e1]
   ·have:l[n]=true:=by simpa [Array.getD,e1] using hn
    simp [Array.getD,e1,Array.getElem_setIfInBounds,hnj,this]
  ·simp [Array.getD,Nat.not_lt.2 e1] at hn
 by_cases hkj:j=k
 ·subst hkj
  obtain ⟨-,o',ho',hall⟩:=mem_ready.1 hj
  rw [hk] at ho'
  injection ho' with ho'
  subst ho'
  exact up _ (hall e he hb)
 ·exact up _ (hs k o hk (by rw [getD_set_ne true hkj] at hl;exact hl) e he hb)
def wpTill (P:Program) (md:Region.Mode) (ops:Array Oper) (Q:Exit→Act→World→Prop) (m:Nat) (T:World→Prop):Nat→Array Bool→Act→World→Prop
 | 0,listed,a,w=>Region.ready md ops listed=[]∧Q .normal a w
 | fuel+1,listed,a,w=>(Region.ready md ops listed=[]→Q .normal a w) ∧
  ∀ i∈Region.ready md ops listed,wpOp P ops Q i (fun a' w'=>(i=m∨T w')∧wpTill P md ops Q m T fuel (listed.setIfInBounds i true) a' w') a w
theorem wpTill.any {m:Nat} {T:World→Prop}:∀ (fuel:Nat) (listed:Array Bool) (a:Act) (w:World),wpTill P md ops Q m T fuel listed a w→wpAny P md ops Q fuel listed a w
 | 0,_,_,_,h=>h
 | fuel+1,_,_,_,h=>⟨h.1,fun i hi=>wpOp_mono (fun a' w' h'=>wpTill.any fuel _ a' w' h'.2) (h.2 i hi)⟩
theorem wpTill.more {m:Nat} {T T':World→Prop} (hT:∀ w,T' w→T w):∀ (fuel:Nat) (listed:Array Bool) (a:Act) (w:World),wpTill P md ops Q m T' fuel listed a w→wpTill P md ops Q m T fuel listed a w
 | 0,_,_,_,h=>h
 | fuel+1,_,_,_,h=>⟨h.1,fun i hi=>wpOp_mono (fun a' w' h'=>⟨h'.1.imp id (hT w'),wpTill.more hT fuel _ a' w' h'.2⟩) (h.2 i hi)⟩
theorem wpTill.first {m i f:Nat} {T:World→Prop} {oi:Oper} {v:Value} (hi:ops[i]? = some oi) (hsel:∀ (j:Nat) (o:Oper) cs b,ops[j]? = some o→o.op≠.select cs b)
 (hQ:∀ c a w,Q (.panic c) (a.put oi.dst v) w→Q (.panic c) a w) (hm:waitsB md ops f m i=true) (hmi:m≠i) :
 ∀ (fuel:Nat) (listed:Array Bool) (a:Act) (w:World),Shutd md ops listed →
  (∀ j oj,ops[j]? = some oj→j≠i→listed.getD j true=false→(∀ e∈oj.after,Region.binds md e=true→e.on≠i)→oi.apart ops oj=true) →
  i∈Region.ready md ops listed→YieldsIf P ops T oi v a→T w →
  wpTill P md ops Q m T fuel (listed.setIfInBounds i true) (a.put oi.dst v) w→wpTill P md ops Q m T (fuel+1) listed a w:=by
 intro fuel
 induction fuel with
 | zero=>
  intro listed a w hsh _ hr hy hS H
  refine ⟨fun h=>(by rw [h] at hr;cases hr),fun j hj=>?_⟩
  by_cases hji:j=i
  ·subst hji;exact hy.wpOp hi hS ⟨.inr hS,H⟩
  ·have:=ready_mono hj hji
   rw [H.1] at this
   cases this
 | succ fuel ih=>
  intro listed a w hsh hfree hr hy hS H
  refine ⟨fun h=>(by rw [h] at hr;cases hr),fun j hj=>?_⟩
  by_cases hji:j=i
  ·subst hji;exact hy.wpOp hi hS ⟨.inr hS,H⟩
  have hjm:j≠m:=fun e=>not_ready hsh hm (mem_ready.1 hr).1 (e ▸ hj)
  obtain ⟨hjun,oj,hoj,hall⟩:=mem_ready.1 hj
  have hnot:∀ e∈oj.after,Region.binds md e=true→e.on≠i:=fun e he hb heq=>by
   have h1:=getD_both' (hall e he hb)
   rw [heq,(mem_ready.1 hr).1] at h1
   cases h1
  have h2:=wpOp_putIf hoj (hfree j oj hoj hji hjun hnot) (fun cs b=>hsel i oi cs b hi) (fun cs b=>hsel j oj cs b hoj) hQ hy (H.2 j (ready_mono hj hji))
  have hfree':∀ k ok,ops[k]? = some ok→k≠i→(listed.setIfInBounds j true).getD k true=false→(∀ e∈ok.after,Region.binds md e=true→e.on≠i)→oi.apart ops ok=true:=fun k ok hk hki hun hno=>by
   refine hfree k ok hk hki ?_ hno
   by_cases hjk:j=k
   ·subst hjk;exact hjun
   ·rw [getD_set_ne true hjk] at hun;exact hun
  refine wpOp_mono (fun a' w' h3=>?_) h2
  have hT:=h3.2.1.resolve_left hjm
  refine ⟨.inr hT,ih (listed.setIfInBounds j true) a' w' (shut_set hsh hj) hfree' (ready_mono hr (Ne.symm hji)) h3.1 hT ?_⟩
  rw [Array.setIfInBounds_comm _ _ hji]
  exact h3.2.2
theorem wpTill.take {m i:Nat} {T:World→Prop} {oi:Oper} {v:Value} {fuel:Nat} {listed:Array Bool} {a:Act} {w:World} (hi:ops[i]? = some oi)
 (hs:(Region.noSelect ops && Region.free md ops listed i && (Region.ready md ops listed).contains i && waitsB md ops ops.size m i && decide (m≠i) && shutB md ops listed)=true)
 (hQ:∀ c a w,Q (.panic c) (a.put oi.dst v) w→Q (.panic c) a w) (hy:YieldsIf P ops T oi v a) (hS:T w)
 (h:wpTill P md ops Q m T fuel (listed.setIfInBounds i true) (a.put oi.dst v) w):wpTill P md ops Q m T (fuel+1) listed a w:=by
 simp only [Bool.and_eq_true,decide_eq_true_eq] at hs
 obtain ⟨⟨⟨⟨⟨h1,h2⟩,h3⟩,h4⟩,h5⟩,h6⟩:=hs
 exact wpTill.first hi (Region.noSelect_spec h1) hQ h4 h5 fuel listed a w (shut_of h6).2 (Region.free_spec hi h2) (by simpa using h3) hy hS h
def TillAll (P:Program) (md:Region.Mode) (ops:Array Oper) (Q:Exit→Act→World→Prop) (m:Nat) (T:World→Prop) (fuel:Nat) (listed:Array Bool) (a:Act) (w:World) (rs:List Nat):Prop:=
 ∀ i∈rs,wpOp P ops Q i (fun a' w'=>(i=m∨T w')∧wpTill P md ops Q m T fuel (listed.setIfInBounds i true) a' w') a w
theorem TillAll.nil {m:Nat} {T:World→Prop} {fuel:Nat} {listed:Array Bool} {a:Act} {w:World}:TillAll P md ops Q m T fuel listed a w []:=fun _ h=>by cases h
theorem TillAll.cons {m:Nat} {T:World→Prop} {fuel:Nat} {listed:Array Bool} {a:Act} {w:World} {i:Nat} {o:Oper} {rs:List Nat} (ho:ops[i]? = some o)
 (h:∀ K':Act→World→Prop,Shut (∀ a w,(i=m∨T w)→((i=m∨T w)→wpTill P md ops Q m T fuel (listed.setIfInBounds i true) a w)→K' a w)→if Region.wanted o (yielded ops a.tmps)=true then Oper.wp P o a w K' Q else K' (a.put o.dst undef) w)
 (hs:TillAll P md ops Q m T fuel listed a w rs):TillAll P md ops Q m T fuel listed a w (i :: rs):=fun j hj=>by
 rcases List.mem_cons.1 hj with rfl|hj
 ·exact wpOp_step ho (fun K' hK=>h K' (fun a w hS hW=>hK a w ⟨hS,hW hS⟩))
 ·exact hs j hj
theorem wpTill.ready {m:Nat} {T:World→Prop} {rs:List Nat} {fuel:Nat} {listed:Array Bool} {a:Act} {w:World} (hr:Region.ready md ops listed=rs) (hne:rs≠[])
 (h:TillAll P md ops Q m T fuel listed a w rs):wpTill P md ops Q m T (fuel+1) listed a w:=⟨fun h0=>absurd (hr ▸ h0) hne,hr ▸ h⟩
theorem wpTill.done {m:Nat} {T:World→Prop} {listed:Array Bool} {a:Act} {w:World} (hr:Region.ready md ops listed=[]) (h:Q .normal a w):∀ fuel,wpTill P md ops Q m T fuel listed a w
 | 0=>⟨hr,h⟩
 | _+1=>⟨fun _=>h,by rw [hr];simp⟩
theorem wpTill.start {id:Nat} {a:Act} {w:World} (m:Nat) (T:World→Prop) (hm:P.follows .mixedOrders=true) (hT:T w.drew)
 (h:T w.drew→wpTill P .any ops Q m T ops.size (Array.replicate ops.size false) a w.drew):(Code.region id ops true).wp P Q a w:=wp_region_any hm (wpTill.any _ _ _ _ (h hT))
end
theorem op_append {α:Type} {cs:α→List Value} {sz:Nat} (hl:∀ x,(cs x).length=sz∧∀ c∈cs x,c.oneCell' = true) (T E bytes:Nat) {z:Value} (hT:Tryz.prog.underlying T=some (.slice E))
 (hinfo:(Tryz.prog.info? E).map (fun i=>(i.zero,i.size,i.bytes))=some (some z,sz,bytes)) (hz:z.cells.size=sz) (h0:0 < sz) (hby:bytes≤100000)
 {o:Oper} {a:Act} {Q:Exit→Act→World→Prop} {K:Act→World→Prop} {w:World} (s x:Operand)
 (ho:o.op=.call { callee:=.builtin .append,args:=#[s,x],argTypes:=#[T,T] }) (B:Nat) (v:Value) (vs:List α) (hs:a.eval s=v) (hF:w.ownsRow B E sz v vs.length (vs.flatMap cs))
 (p:Nat) (u:α) (hx:a.eval x=.slice (some ⟨p,0,none⟩) 1 1) (hp:w.heap[p]? = some (.cells (cs u).toArray E)) (hn:vs.length < 1000000) (hB:B≤w.heap.size)
 (h:∀ g cap w',w'.ownsRow B E sz (.slice (some ⟨g,0,none⟩) (vs.length+1) cap) (vs ++ [u]).length ((vs ++ [u]).flatMap cs)→w.grownBy w' v.ownBlock→(v.ownBlock=some g∨g=w.heap.size)→K (a.put o.dst (.slice (some ⟨g,0,none⟩) (vs.length+1) cap)) w'):Oper.wp Tryz.prog o a w K Q:=by
 obtain ⟨i0,hi,hz0,hz1,hz2⟩:=info_parts hinfo
 have hby2:(vs.length+1) * bytes≤1000000 * 100000:=Nat.mul_le_mul (by omega) hby
 obtain ⟨g,cap',w',hr,h2,h3,h4,h5⟩:=run_append_lies (P:=Tryz.prog) w T o.type B E i0 _ sz bytes hT hi hz0 hz1 hz2 hz h0 v vs.length _ hF ⟨p,0,none⟩ 1 1 (cs u) (by rw [(hl u).1,Nat.one_mul])
  (by
    intro j c hc
    rw [addr_add,cell_of_row w p _ _ _ _ hp]
    simpa using hc) (hl u).2 (by decide) (by unfold maxLen;omega) (by omega) hB w.heap.size rfl
 unfold Oper.wp execOp
 simp only [ho,resolve,invoke,builtin,Sem.run_bind,Sem.run_pure,Result.andThen_ok,List.map_toArray,List.map_cons,List.map_nil,hs,hx,hr] at *
 refine h g cap' w' ?_ h3 h4
 rw [List.flatMap_append,List.length_append]
 simpa using h2
abbrev put6 (w:World) (D:Nat) (b0 b1 b2 b3 b4:Value):World:=((((w.setCell ⟨D,6,none⟩ b0).setCell ⟨D,7,none⟩ b1).setCell ⟨D,8,none⟩ b2).setCell ⟨D,9,none⟩ b3).setCell ⟨D,10,none⟩ b4
theorem put6_other (w:World) {D b:Nat} (h:b≠D) (b0 b1 b2 b3 b4:Value):(put6 w D b0 b1 b2 b3 b4).heap[b]? = w.heap[b]?:=by
 unfold put6
 rw [heap_setCell_other _ ⟨D,10,none⟩ _ _ h,heap_setCell_other _ ⟨D,9,none⟩ _ _ h,heap_setCell_other _ ⟨D,8,none⟩ _ _ h,heap_setCell_other _ ⟨D,7,none⟩ _ _ h,heap_setCell_other _ ⟨D,6,none⟩ _ _ h]
def AG (W:World) (D bn b:Nat):Prop:=W.heap.size < b∧b≠D∧b≠bn
def pmF (k:Nat):ByteArray:=opNm (if k=2 then 1 else 0)
theorem pm_at (k:Nat) (h:(k:Int) < 3) (w:World) (p:Nat) (hb:w.heap[p]? = some (.cells #[.string addB,.string addB,.string subB] 9)):w.cell? ⟨p,k,none⟩=some (.string (pmF k)):=by
 refine (cell_of_row w p k _ _ _ hb).trans ?_
 obtain rfl|rfl|rfl:k=0∨k=1∨k=2:=by omega
 ·rfl
 ·rfl
 ·rfl
section
variable {W w w':World} {D bn:Nat} {v:Value} {ns:List Int} {pos nl nc nr nt:Nat} {r:TnR} {T:TP}
theorem GT.setF (h:GT W D bn v ns w pos r T) (o o3:ByteArray) (a1 a2:Int) (sl:Sl) :
 GT W D bn v ns (put6 w D (.string o) (iV a1) (iV a2) (.string o3) (slV sl)) pos { r with fo:=o,f1:=a1,f2:=a2,fn:=o3,fa:=sl } T:=
 ((((h.set (r':={ r with fo:=o }) 6 _ rfl rfl rfl rfl rfl).set (r':={ r with fo:=o,f1:=a1 }) 7 _ rfl rfl rfl rfl rfl).set (r':={ r with fo:=o,f1:=a1,f2:=a2 }) 8 _ rfl rfl rfl rfl rfl).set (r':={ r with fo:=o,f1:=a1,f2:=a2,fn:=o3 }) 9 _ rfl rfl rfl rfl rfl).set 10 _ rfl rfl rfl rfl rfl
theorem GdN.setF (h:GdN r) (o o3:ByteArray) (a1 a2:Int) (sl:Sl):GdN { r with fo:=o,f1:=a1,f2:=a2,fn:=o3,fa:=sl }:=⟨h.nm,h.low,h.high,h.budget,h.most,h.t0,h.t1,h.t2,h.t3,h.t4⟩
theorem GS.setF (h:GS W D bn v ns w pos nl nc nr nt r T) (o o3:ByteArray) (a1 a2:Int) (sl:Sl) :
 GS W D bn v ns (put6 w D (.string o) (iV a1) (iV a2) (.string o3) (slV sl)) pos nl nc nr nt { r with fo:=o,f1:=a1,f2:=a2,fn:=o3,fa:=sl } T:=
 ⟨h.g.setF o o3 a1 a2 sl,h.l,h.n.setF o o3 a1 a2 sl,h.k,h.tz⟩
theorem Rd.put6 {S:Nat→Prop} {t:Ex} {u:Value} (h:Rd S w t u) (hS:∀ b,S b→b≠D) (b0 b1 b2 b3 b4:Value):Rd S (put6 w D b0 b1 b2 b3 b4) t u:=
 Rd.frame (fun b o hb _=>World.cell?_of_block (put6_other w (hS b hb) _ _ _ _ _)) (fun _ h=>h) t u h
theorem GZ.setF {lim lim':Nat} {f f':Ex} {kk:List Sl} (h:GZ W D bn lim v ns w pos nl nc nr nt r T f kk) (o o3:ByteArray) (a1 a2:Int) (sl:Sl) (hf:Rd (AF W D bn lim') w f' (.agg #[.string o,iV a1,iV a2,.string o3,slV sl])) :
 GZ W D bn lim' v ns (put6 w D (.string o) (iV a1) (iV a2) (.string o3) (slV sl)) pos nl nc nr nt { r with fo:=o,f1:=a1,f2:=a2,fn:=o3,fa:=sl } T f' kk:=
 ⟨h.g.setF o o3 a1 a2 sl,h.l,h.n.setF o o3 a1 a2 sl,hf.put6 (fun b hb=>hb.1.2.1) _ _ _ _ _,h.kb.move rfl fun b cs t hb ht=>(put6_other w (obj_ne hb h.g.at_ (by rcases ht with rfl|rfl <;> decide)) _ _ _ _ _).trans hb⟩
theorem GT.sr (h:GT W D bn v ns w pos r T) (hc:T.cs.length≤3):SR cellsCr 5 w (slV r.cs) T.cs∧∀ b n c,slV r.cs=.slice (some ⟨b,0,none⟩) n c→b≠bn:=
 ⟨SR.of_row (cs:=cellsCr) (fun x=>(one_cr x).1) h.cs_ (by omega),fun b n c e=>by
  obtain ⟨ds,hd⟩:=row_obj h.cs_ (b:=b) (by rw [e];rfl)
  exact obj_ne hd h.mx.at_ (by decide)⟩
theorem GT.rf (h:w.heap[D]? = some (.cells (tenC r) 39)):w.rangeAt D 6 [.string r.fo,iV r.f1,iV r.f2,.string r.fn,slV r.fa]:=
 range_of h 6 _ (fun j u hu=>by
  obtain _|_|_|_|_|j:=j
  ·exact hu
  ·exact hu
  ·exact hu
  ·exact hu
  ·exact hu
  ·simp at hu)
end
end Go.Proofs.YteomcpplajeidaaGreat
