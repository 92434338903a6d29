/-
  Lemmas of this claim (JwB). Nothing is asked.
-/
import Derived.Test.YteomcpplajeidaaGreatBase
import Derived.StillTail
set_option linter.unusedVariables false
set_option linter.unusedSimpArgs false
set_option maxRecDepth 100000
set_option maxHeartbeats 40000000
namespace Go.Proofs.YteomcpplajeidaaGreat.Rg
open Go.RowKit Go.Proofs.YteomcpplajeidaaGreat
section
variable {P:Program} {ops:Array Oper} {md:Region.Mode} {w0:World} {M:Nat→Option Obj} {n:Nat}
def up (P:Program) (w:World) (v:Value):Result Next→Prop
 | .ok (.value u) w'=>w' = w∧u=v
 | .ok .skip w'=>w' = w∧v=undef
 | .ok (.enter f args) w'=>w' = w∧Calls P f args w (fun e w''=>e=.returned v∧Ext w w'')
 | _=>False
theorem up_value {w:World} {v:Value}:up P w v (.ok (.value v) w):=⟨rfl,rfl⟩
theorem up_enter {w:World} {v:Value} {f:FuncId} {args:Array Value} (h:Calls P f args w (fun e w''=>e=.returned v∧Ext w w'')):up P w v (.ok (.enter f args) w):=⟨rfl,h⟩
def Y (P:Program) (ops:Array Oper) (w0:World) (o:Oper) (v:Value) (a:Act):Prop:=
 (Region.wanted o (yielded ops a.tmps)=true∧∀ w,Ext w0 w→up P w v ((execOp a.eval o).run P w))∨(Region.wanted o (yielded ops a.tmps)=false∧v=undef)
theorem Y.of_same {o:Oper} {v:Value} {a a':Act} (hy:Y P ops w0 o v a) (he:execOp a'.eval o=execOp a.eval o)
 (hw:Region.wanted o (yielded ops a'.tmps)=Region.wanted o (yielded ops a.tmps)):Y P ops w0 o v a':=by
 unfold Y at *
 rw [he,hw]
 exact hy
abbrev ptr (p:Nat):Value:=.pointer (some ⟨p,0,none⟩)
def Makes (P:Program) (o:Oper) (ob:Obj):Prop:=
 o.guard=none∧∀ (a:Act) (w:World),(execOp a.eval o).run P w=.ok (.value (ptr w.heap.size)) (w.alloc ob)
def stp (P:Program) (ops:Array Oper) (w0:World) (M:Nat→Option Obj) (i:Nat) (K:Act→List (Nat×Obj)→Prop) (a:Act) (bs:List (Nat×Obj)):Prop:=
 match ops[i]? with
 | none=>False
 | some o=>match M i with
  | some ob=>Makes P o ob∧∀ p,K (a.put o.dst (ptr p)) ((p,ob) :: bs)
  | none=>∃ v,Y P ops w0 o v a∧K (a.put o.dst v) bs
def WX (P:Program) (md:Region.Mode) (ops:Array Oper) (w0:World) (M:Nat→Option Obj) (n:Nat) (T:Array Bool→Act→List (Nat×Obj)→Prop):Nat→Array Bool→Act→List (Nat×Obj)→Prop
 | 0,listed,a,bs=>T listed a bs
 | f+1,listed,a,bs=>Region.ready md ops listed≠[]∧∀ i∈Region.ready md ops listed,i < n∧stp P ops w0 M i (WX P md ops w0 M n T f (listed.setIfInBounds i true)) a bs
def F (w0:World) (bs:List (Nat×Obj)) (w:World):Prop:=
 bs.Pairwise (fun x y=>x.1≠y.1)∧∀ b∈bs,w0.heap.size≤b.1∧w.heap[b.1]? = some b.2
theorem lt_of_heap {w:World} {p:Nat} {o:Obj} (h:w.heap[p]? = some o):p < w.heap.size:=by
 rcases Nat.lt_or_ge p w.heap.size with h' | h'
 ·exact h'
 ·rw [Array.getElem?_eq_none h'] at h;cases h
theorem F.ext {bs:List (Nat×Obj)} {w w':World} (h:F w0 bs w) (e:Ext w w'):F w0 bs w':=
 ⟨h.1,fun b hb=>⟨(h.2 b hb).1,(e.block _ (lt_of_heap (h.2 b hb).2)).trans (h.2 b hb).2⟩⟩
theorem F.make {bs:List (Nat×Obj)} {w:World} (h:F w0 bs w) (e:Ext w0 w) (ob:Obj):F w0 ((w.heap.size,ob) :: bs) (w.alloc ob):=by
 refine ⟨List.pairwise_cons.2 ⟨fun b hb=>Nat.ne_of_gt (lt_of_heap (h.2 b hb).2),h.1⟩,fun b hb=>?_⟩
 rcases List.mem_cons.1 hb with rfl|hb
 ·refine ⟨e.size,?_⟩
  show (w.heap.push ob)[w.heap.size]? = _
  simp
 ·exact ⟨(h.2 b hb).1,(Below.heap_alloc w ob b.1 (lt_of_heap (h.2 b hb).2)).trans (h.2 b hb).2⟩
theorem Y.wpOp {i:Nat} {o:Oper} {v:Value} {a:Act} {w:World} {K:Act→World→Prop} {Q:Exit→Act→World→Prop} (hi:ops[i]? = some o) (hy:Y P ops w0 o v a) (hw:Ext w0 w)
 (h:∀ w',Ext w w'→K (a.put o.dst v) w'):wpOp P ops Q i K a w:=by
 unfold Go.wpOp
 simp only [hi]
 rcases hy with ⟨hwt,hu⟩|⟨hwt,rfl⟩
 ·simp only [hwt,if_true]
  refine .inl ?_
  have:=hu w hw
  unfold Oper.wp
  generalize (execOp a.eval o).run P w=r at *
  cases r with
  | ok x w'=>
   cases x <;> simp only [up] at this <;> simp only [Oper.upon]
   case value u=>obtain ⟨rfl,rfl⟩:=this;exact h _ (Ext.refl _)
   case skip=>obtain ⟨rfl,rfl⟩:=this;exact h _ (Ext.refl _)
   case enter f args=>
    obtain ⟨rfl,hc⟩:=this
    exact hc.mono fun e w'' ⟨he,hb⟩=>by subst he;exact h _ hb
  | halt x w'=>simp only [up] at this
 ·simp only [hwt,Bool.false_eq_true,if_false]
  exact h _ (Ext.refl _)
theorem WX.sound {T:Array Bool→Act→List (Nat×Obj)→Prop} {Q:Exit→Act→World→Prop} {g:Nat}
 (hT:∀ listed a bs w,T listed a bs→Ext w0 w→F w0 bs w→wpAny P md ops Q g listed a w) :
 ∀ (f:Nat) (listed:Array Bool) (a:Act) (bs:List (Nat×Obj)) (w:World),WX P md ops w0 M n T f listed a bs→Ext w0 w→F w0 bs w→wpAny P md ops Q (f+g) listed a w
 | 0,listed,a,bs,w,h,e,hF=>by rw [Nat.zero_add];exact hT _ _ _ _ h e hF
 | f+1,listed,a,bs,w,h,e,hF=>by
  rw [show f+1+g=(f+g)+1 by omega]
  refine ⟨fun h0=>absurd h0 h.1,fun i hi=>?_⟩
  have hs:=(h.2 i hi).2
  unfold stp at hs
  split at hs
  ·exact hs.elim
  ·rename_i o ho
   split at hs
   ·rename_i ob hob
    obtain ⟨⟨hg,hm⟩,hp⟩:=hs
    have hwt:Region.wanted o (yielded ops a.tmps)=true:=by simp [Region.wanted,hg]
    unfold wpOp
    simp only [ho,hwt,if_true]
    refine .inl ?_
    unfold Oper.wp
    rw [hm]
    simp only [Oper.upon]
    exact WX.sound hT f _ _ _ _ (hp w.heap.size) (e.alloc ob) (hF.make e ob)
   ·obtain ⟨v,hy,hk⟩:=hs
    exact hy.wpOp ho e fun w' hw'=>WX.sound hT f _ _ _ _ hk (e.trans hw') (hF.ext hw')
theorem WX_first {T:Array Bool→Act→List (Nat×Obj)→Prop} {i:Nat} {oi:Oper} {v:Value} (hi:ops[i]? = some oi) (hM:M i=none)
 (hsel:∀ (j:Nat) (o:Oper) cs b,ops[j]? = some o→o.op≠.select cs b)
 (hs:Region.sinkB md ops n=true) (hc:Region.chainB md ops n=true) (hn:n < ops.size) (hin:i < n)
 (hdone:∀ listed a bs,T listed a bs→∀ j∈Region.ready md ops listed,n≤j) :
 ∀ (f:Nat) (listed:Array Bool) (a:Act) (bs:List (Nat×Obj)),HeadInv md ops n listed →
  (∀ j oj,ops[j]? = some oj→j≠i→listed.getD j true=false→(∀ e∈oj.after,Region.binds md e=true→e.on≠i)→oi.apart ops oj=true) →
  i∈Region.ready md ops listed→Y P ops w0 oi v a →
  WX P md ops w0 M n T f (listed.setIfInBounds i true) (a.put oi.dst v) bs→WX P md ops w0 M n T (f+1) listed a bs:=by
 have self:∀ (K:Act→List (Nat×Obj)→Prop) (a:Act) (bs:List (Nat×Obj)),Y P ops w0 oi v a→K (a.put oi.dst v) bs→stp P ops w0 M i K a bs:=by
  intro K a bs hy hk
  unfold stp
  simp only [hi,hM]
  exact ⟨v,hy,hk⟩
 intro f
 induction f with
 | zero=>
  intro listed a bs inv _ hr hy H
  have hun:=(mem_ready.1 hr).1
  refine ⟨fun h=>(by rw [h] at hr;cases hr),fun j hj=>?_⟩
  have hjn:j < n:=by
   rcases Nat.lt_or_ge j n with h|h
   ·exact h
   ·exact absurd hj (tail_waits hs hc hn inv _ i rfl hin hun j h)
  refine ⟨hjn,?_⟩
  by_cases hji:j=i
  ·subst hji;exact self _ _ _ hy H
  ·have:=hdone _ _ _ H j (ready_mono hj hji)
   omega
 | succ f ih=>
  intro listed a bs inv hfree hr hy H
  have hun:=(mem_ready.1 hr).1
  refine ⟨fun h=>(by rw [h] at hr;cases hr),fun j hj=>?_⟩
  have hjn:j < n:=by
   rcases Nat.lt_or_ge j n with h|h
   ·exact h
   ·exact absurd hj (tail_waits hs hc hn inv _ i rfl hin hun j h)
  refine ⟨hjn,?_⟩
  by_cases hji:j=i
  ·subst hji;exact self _ _ _ hy H
  ·have h1:=(H.2 j (ready_mono hj hji)).2
   obtain ⟨hjun,oj,hoj,hall⟩:=mem_ready.1 hj
   have hnot:∀ e∈oj.after,Region.binds md e=true→e.on≠i:=fun e he hb heq=>by
    have h1:=hall e he hb
    rw [heq,getD_both hun] at h1
    cases h1
   have hap:=hfree j oj hoj hji hjun hnot
   obtain ⟨k1,k2,k3⟩:=Oper.apart_spec hap
   have keep:∀ u,Y P ops w0 oi v (a.put oj.dst u):=fun u=>
    hy.of_same (execOp_put oi (fun cs b=>hsel i oi cs b hi) a oj.dst u k3) (wanted_put oi a oj.dst u k3)
   have hfree':∀ k ok,ops[k]? = some ok→k≠i→(listed.setIfInBounds j true).getD k true=false →
    (∀ e∈ok.after,Region.binds md e=true→e.on≠i)→oi.apart ops ok=true:=fun k ok hk hki hun hno=>by
    refine hfree k ok hk hki ?_ hno
    by_cases hjk:j=k
    ·subst hjk;exact hjun
    ·rw [getD_set_ne true hjk] at hun;exact hun
   have inv':=inv.set hj hjn
   have hr':=ready_mono hr (Ne.symm hji)
   have go:∀ (u:Value) (bs':List (Nat×Obj)),WX P md ops w0 M n T f ((listed.setIfInBounds i true).setIfInBounds j true) ((a.put oi.dst v).put oj.dst u) bs' →
    WX P md ops w0 M n T (f+1) (listed.setIfInBounds j true) (a.put oj.dst u) bs':=fun u bs' h=>by
    refine ih _ _ _ inv' hfree' hr' (keep u) ?_
    rw [Array.setIfInBounds_comm _ _ hji,← Act.put_comm a v u k2]
    exact h
   unfold stp at h1 ⊢
   simp only [hoj] at h1 ⊢
   split at h1
   ·exact ⟨h1.1,fun p=>go _ _ (h1.2 p)⟩
   ·obtain ⟨u,hyj,hk⟩:=h1
    exact ⟨u,hyj.of_same (execOp_put oj (fun cs b=>hsel j oj cs b hoj) a oi.dst v k1).symm (wanted_put oj a oi.dst v k1).symm,go _ _ hk⟩
def wk (P:Program) (ops:Array Oper) (w0:World) (fin:Act→Prop):List Oper→Act→Prop
 | [],a=>fin a
 | o :: rest,a=>∃ v,Y P ops w0 o v a∧wk P ops w0 fin rest (a.put o.dst v)
theorem wk_nil {fin:Act→Prop} {a:Act} (h:fin a):wk P ops w0 fin [] a:=h
theorem wk_step {fin:Act→Prop} {a:Act} {o:Oper} {rest:List Oper} (hw:Region.wanted o (yielded ops a.tmps)=true)
 (h:∃ v,(∀ w,Ext w0 w→up P w v ((execOp a.eval o).run P w))∧wk P ops w0 fin rest (a.put o.dst v)):wk P ops w0 fin (o :: rest) a:=⟨h.choose,.inl ⟨hw,h.choose_spec.1⟩,h.choose_spec.2⟩
def lexX (md:Region.Mode) (ops:Array Oper) (base:Nat→Array Bool→Bool):Nat→Nat→Array Bool→Bool
 | 0,k,listed=>base k listed
 | f+1,k,listed=>(Region.ready md ops listed).contains k && Region.free md ops listed k && lexX md ops base f (k+1) (listed.setIfInBounds k true)
def mkB (md:Region.Mode) (ops:Array Oper) (g:Nat):Nat→Nat→Array Bool→Bool
 | 0,k,listed=>Region.seqB md ops g k listed
 | 1,k,listed=>decide (Region.ready md ops listed=[k]) && Region.seqB md ops g (k+1) (listed.setIfInBounds k true)
 | 2,k,listed=>decide (Region.ready md ops listed=[k,k+1]) && decide (Region.ready md ops (listed.setIfInBounds k true)=[k+1]) && decide (Region.ready md ops (listed.setIfInBounds (k+1) true)=[k]) &&
  Region.seqB md ops g (k+2) ((listed.setIfInBounds k true).setIfInBounds (k+1) true)
 | _,_,_=>false
def allB (md:Region.Mode) (ops:Array Oper) (n1 n:Nat):Bool:=
 Region.noSelect ops && decide (n < ops.size) && decide (n1≤n) && Region.sinkB md ops n && Region.chainB md ops n && lexX md ops (mkB md ops (ops.size - n) (n - n1)) n1 0 (Array.replicate ops.size false)
theorem WX_lex {T:Array Bool→Act→List (Nat×Obj)→Prop} {fin:Act→Prop} {n1 m:Nat} {base:Nat→Array Bool→Bool} (hsel:Region.noSelect ops=true) (hs:Region.sinkB md ops n=true) (hc:Region.chainB md ops n=true) (hn:n < ops.size) (hn1:n1≤n)
 (hM:∀ i,i < n1→M i=none) (hdone:∀ listed a bs,T listed a bs→∀ j∈Region.ready md ops listed,n≤j)
 (hb:∀ listed a,HeadInv md ops n listed→base n1 listed=true→fin a→WX P md ops w0 M n T m listed a []) :
 ∀ (l:List Oper) (k:Nat) (listed:Array Bool) (a:Act),(∀ j,j < l.length→l[j]? = ops[k+j]?)→k+l.length=n1→HeadInv md ops n listed →
 lexX md ops base l.length k listed=true→wk P ops w0 fin l a→WX P md ops w0 M n T (l.length+m) listed a []
 | [],k,listed,a,_,hk,inv,hB,h=>by
  have:k=n1:=by simpa using hk
  subst this
  rw [List.length_nil,Nat.zero_add]
  exact hb listed a inv (by simpa [lexX] using hB) h
 | o :: l,k,listed,a,hl,hk,inv,hB,h=>by
  have h0:ops[k]? = some o:=by simpa using (hl 0 (by simp)).symm
  simp only [List.length_cons,lexX,Bool.and_eq_true] at hB
  obtain ⟨⟨hr,hf⟩,hB'⟩:=hB
  have hkn:k < n1:=by simp only [List.length_cons] at hk;omega
  have hr':k∈Region.ready md ops listed:=by simpa using hr
  obtain ⟨v,hy,hK⟩:=h
  rw [List.length_cons,show l.length+1+m=(l.length+m)+1 by omega]
  exact WX_first h0 (hM k hkn) (Region.noSelect_spec hsel) hs hc hn (by omega) hdone (l.length+m) listed a [] inv (Region.free_spec h0 hf) hr' hy
   (WX_lex hsel hs hc hn hn1 hM hdone hb l (k+1) _ _ (fun j hj=>by have:=hl (j+1) (by simp;omega);simpa [Nat.add_assoc,Nat.add_comm 1 j] using this) (by simp only [List.length_cons] at hk;omega) (inv.set hr' (by omega)) hB' hK)
def fin (P:Program) (ops:Array Oper) (w0:World) (M:Nat→Option Obj) (Q:Exit→Act→World→Prop) (n1 n:Nat) (tail:List Oper) (a:Act):Prop:=
 match n - n1 with
 | 0=>∀ w,Ext w0 w→wpList P ops Q tail a w
 | 1=>∃ o ob,ops[n1]? = some o∧M n1=some ob∧Makes P o ob∧∀ p w,Ext w0 w→w0.heap.size≤p→w.heap[p]? = some ob→wpList P ops Q tail (a.put o.dst (ptr p)) w
 | 2=>∃ o ob o' ob',ops[n1]? = some o∧M n1=some ob∧Makes P o ob∧ops[n1+1]? = some o'∧M (n1+1)=some ob'∧Makes P o' ob'∧(∀ d,o.dst=some d→o'.dst≠some d) ∧
  ∀ p q w,Ext w0 w→p≠q→w0.heap.size≤p→w0.heap.size≤q→w.heap[p]? = some ob→w.heap[q]? = some ob'→wpList P ops Q tail ((a.put o.dst (ptr p)).put o'.dst (ptr q)) w
 | _=>False
theorem fin0 {Q:Exit→Act→World→Prop} {n1:Nat} {tail:List Oper} {a:Act} (e:n - n1=0) (h:∀ w,Ext w0 w→wpList P ops Q tail a w):fin P ops w0 M Q n1 n tail a:=by
 unfold fin;rw [e];exact h
theorem fin2 {Q:Exit→Act→World→Prop} {n1:Nat} {tail:List Oper} {a:Act} {o o':Oper} {ob ob':Obj} (e:n - n1=2) (ho:ops[n1]? = some o) (hM:M n1=some ob) (hk:Makes P o ob)
 (ho':ops[n1+1]? = some o') (hM':M (n1+1)=some ob') (hk':Makes P o' ob') (hne:∀ d,o.dst=some d→o'.dst≠some d)
 (h:∀ p q w,Ext w0 w→p≠q→w0.heap.size≤p→w0.heap.size≤q→w.heap[p]? = some ob→w.heap[q]? = some ob'→wpList P ops Q tail ((a.put o.dst (ptr p)).put o'.dst (ptr q)) w):fin P ops w0 M Q n1 n tail a:=by
 unfold fin;rw [e];exact ⟨o,ob,o',ob',ho,hM,hk,ho',hM',hk',hne,h⟩
theorem cells_of {w:World} {p:Nat} {cs:Array Value} {t:TypeId} (h:w.heap[p]? = some (.cells cs t)):(∀ i,w.cell? ⟨p,i,none⟩=cs[i]?)∧(∀ i,w.frozen? ⟨p,i,none⟩=false)∧p < w.heap.size:=
 ⟨fun i=>by simp [World.cell?,h],fun i=>by simp [World.frozen?,h],lt_of_heap h⟩
theorem wp_region {id:Nat} {Q:Exit→Act→World→Prop} {a:Act} {w:World} {l:List Oper} (n1 n:Nat) (M:Nat→Option Obj) (hM:∀ i,i < n1→M i=none) (hm:P.follows .mixedOrders=true) (hB:allB .any l.toArray n1 n=true)
 (h:wk P l.toArray w (fin P l.toArray w M Q n1 n (l.drop n)) (l.take n1) a):(Code.region id l.toArray true).wp P Q a w:=by
 simp only [allB,Bool.and_eq_true,decide_eq_true_eq] at hB
 obtain ⟨⟨⟨⟨⟨hsel,hn⟩,hn1⟩,hs⟩,hc⟩,hlex⟩:=hB
 have hn':n < l.length:=by simpa using hn
 have htl:(l.take n1).length=n1:=by simp;omega
 have hdl:(l.drop n).length=l.toArray.size - n:=by simp
 have inv0:HeadInv .any l.toArray n (Array.replicate l.toArray.size false):=
  ⟨by simp,fun j oj _ hl=>(by rw [getD_replicate_false] at hl;cases hl),fun t _ ht=>getD_in (by simpa using ht) (getD_replicate_false _ _)⟩
 let T:Array Bool→Act→List (Nat×Obj)→Prop:=fun listed a bs=>Region.seqB .any l.toArray (l.toArray.size - n) n listed=true∧∀ w',Ext w w'→F w bs w'→wpList P l.toArray Q (l.drop n) a w'
 have hdone:∀ listed a bs,T listed a bs→∀ j∈Region.ready .any l.toArray listed,n≤j:=fun listed a bs hT=>seqB_ready hT.1
 have hb:∀ listed a,HeadInv .any l.toArray n listed→mkB .any l.toArray (l.toArray.size - n) (n - n1) n1 listed=true→fin P l.toArray w M Q n1 n (l.drop n) a→WX P .any l.toArray w M n T (n - n1) listed a []:=by
  intro listed a _ hB hf
  unfold fin at hf
  split at hf
  ·rename_i e
   rw [e] at hB ⊢
   have:n1=n:=by omega
   subst this
   exact ⟨hB,fun w' e1 _=>hf w' e1⟩
  ·rename_i e
   rw [e] at hB ⊢
   obtain ⟨o,ob,ho,hMo,hmk,hp⟩:=hf
   simp only [mkB,Bool.and_eq_true,decide_eq_true_eq] at hB
   have e1:n=n1+1:=by omega
   refine ⟨by rw [hB.1];simp,fun i hi=>?_⟩
   rw [hB.1] at hi
   have hi':i=n1:=by simpa using hi
   subst hi'
   refine ⟨by omega,?_⟩
   unfold stp
   simp only [ho,hMo]
   refine ⟨hmk,fun p=>?_⟩
   show T _ _ _
   refine ⟨by rw [e1];rw [e1] at hB;exact hB.2,fun w' hw hF=>?_⟩
   have:=hF.2 (p,ob) (by simp)
   exact hp p w' hw this.1 this.2
  ·rename_i e
   rw [e] at hB ⊢
   obtain ⟨o,ob,o',ob',ho,hMo,hmk,ho',hMo',hmk',hne,hp⟩:=hf
   simp only [mkB,Bool.and_eq_true,decide_eq_true_eq] at hB
   have e1:n=n1+2:=by omega
   obtain ⟨⟨⟨b1,b2⟩,b3⟩,b4⟩:=hB
   have fact:∀ p q w',Ext w w'→(F w [(q,ob'),(p,ob)] w'∨F w [(p,ob),(q,ob')] w')→wpList P l.toArray Q (l.drop n) ((a.put o.dst (ptr p)).put o'.dst (ptr q)) w':=by
    intro p q w' hw hF
    rcases hF with hF|hF
    ·have h1:=hF.2 (p,ob) (by simp);have h2:=hF.2 (q,ob') (by simp)
     have h3:=hF.1
     simp at h3
     exact hp p q w' hw (fun e=>h3 e.symm) h1.1 h2.1 h1.2 h2.2
    ·have h1:=hF.2 (p,ob) (by simp);have h2:=hF.2 (q,ob') (by simp)
     have h3:=hF.1
     simp at h3
     exact hp p q w' hw h3 h1.1 h2.1 h1.2 h2.2
   refine ⟨by rw [b1];simp,fun i hi=>?_⟩
   rw [b1] at hi
   have hi':i=n1∨i=n1+1:=by simpa using hi
   rcases hi' with rfl|rfl
   ·refine ⟨by omega,?_⟩
    unfold stp
    simp only [ho,hMo]
    refine ⟨hmk,fun p=>?_⟩
    refine ⟨by rw [b2];simp,fun j hj=>?_⟩
    rw [b2] at hj
    have hj':j=i+1:=by simpa using hj
    subst hj'
    refine ⟨by omega,?_⟩
    unfold stp
    simp only [ho',hMo']
    refine ⟨hmk',fun q=>?_⟩
    show T _ _ _
    exact ⟨by rw [e1];rw [e1] at b4;exact b4,fun w' hw hF=>fact p q w' hw (.inl hF)⟩
   ·refine ⟨by omega,?_⟩
    unfold stp
    simp only [ho',hMo']
    refine ⟨hmk',fun q=>?_⟩
    refine ⟨by rw [b3];simp,fun j hj=>?_⟩
    rw [b3] at hj
    have hj':j=n1:=by simpa using hj
    subst hj'
    refine ⟨by omega,?_⟩
    unfold stp
    simp only [ho,hMo]
    refine ⟨hmk,fun p=>?_⟩
    show T _ _ _
    rw [← Act.put_comm a (ptr p) (ptr q) hne,Array.setIfInBounds_comm _ _ (by omega)]
    exact ⟨by rw [e1];rw [e1] at b4;exact b4,fun w' hw hF=>fact p q w' hw (.inr hF)⟩
  ·exact hf.elim
 have H:=WX_lex (md:=.any) (M:=M) (T:=T) hsel hs hc hn hn1 hM hdone hb (l.take n1) 0 _ a (fun j hj=>by
  have hj':j < n1:=by rw [htl] at hj;exact hj
  simp [hj']) (by simpa using htl) inv0 (by rw [htl];exact hlex) h
 refine wp_region_any hm ?_
 have:=WX.sound (Q:=Q) (g:=l.toArray.size - n) (fun listed a' bs w' hT hw hF=>by
  have:=wpAny_of_seq (md:=.any) (Q':=Q) (l.drop n) n listed a' w' (fun j=>by simp [List.getElem?_drop]) (by rw [hdl];exact hT.1) (hT.2 w' hw hF)
  rwa [hdl] at this) _ _ _ _ { w with drawn:=w.drawn+1 } H (Ext.drew (Ext.refl w)) ⟨List.Pairwise.nil,fun b hb=>by cases hb⟩
 rw [htl,show n1+(n - n1)+(l.toArray.size - n)=l.toArray.size by omega] at this
 exact this
end
end Go.Proofs.YteomcpplajeidaaGreat.Rg
namespace Go.Proofs.YteomcpplajeidaaGreat
open Go.RowKit
theorem zL {w:World} {p:Nat} {o:Obj} (h:w.heap[p]? = some o):p < w.heap.size:=Rg.lt_of_heap h
theorem zC {w:World} {p:Nat} {cs:Array Value} {t:TypeId} (h:w.heap[p]? = some (.cells cs t)):(∀ i,w.cell? ⟨p,i,none⟩=cs[i]?)∧(∀ i,w.frozen? ⟨p,i,none⟩=false)∧p < w.heap.size:=Rg.cells_of h
abbrev zU:=@Rg.up_value
theorem zC2 {w:World} {p:Nat} {v0 v1:Value} {l:List Value} {t:TypeId} (h:w.heap[p]? = some (.cells (v0::v1::l).toArray t)):w.cell? ⟨p,0,none⟩=some v0∧w.cell? ⟨p,1,none⟩=some v1∧p < w.heap.size:=⟨(zC h).1 0,(zC h).1 1,(zC h).2.2⟩
theorem zC3 {w:World} {p:Nat} {v0 v1 v2:Value} {l:List Value} {t:TypeId} (h:w.heap[p]? = some (.cells (v0::v1::v2::l).toArray t)):w.cell? ⟨p,0,none⟩=some v0∧w.cell? ⟨p,1,none⟩=some v1∧w.cell? ⟨p,2,none⟩=some v2∧p < w.heap.size:=⟨(zC h).1 0,(zC h).1 1,(zC h).1 2,(zC h).2.2⟩
theorem zC4 {w:World} {p:Nat} {v0 v1 v2 v3:Value} {l:List Value} {t:TypeId} (h:w.heap[p]? = some (.cells (v0::v1::v2::v3::l).toArray t)):w.cell? ⟨p,0,none⟩=some v0∧w.cell? ⟨p,1,none⟩=some v1∧w.cell? ⟨p,2,none⟩=some v2∧w.cell? ⟨p,3,none⟩=some v3∧p < w.heap.size:=⟨(zC h).1 0,(zC h).1 1,(zC h).1 2,(zC h).1 3,(zC h).2.2⟩
theorem zC5 {w:World} {p:Nat} {v0 v1 v2 v3 v4:Value} {l:List Value} {t:TypeId} (h:w.heap[p]? = some (.cells (v0::v1::v2::v3::v4::l).toArray t)):w.cell? ⟨p,0,none⟩=some v0∧w.cell? ⟨p,1,none⟩=some v1∧w.cell? ⟨p,2,none⟩=some v2∧w.cell? ⟨p,3,none⟩=some v3∧w.cell? ⟨p,4,none⟩=some v4∧p < w.heap.size:=⟨(zC h).1 0,(zC h).1 1,(zC h).1 2,(zC h).1 3,(zC h).1 4,(zC h).2.2⟩
end Go.Proofs.YteomcpplajeidaaGreat

