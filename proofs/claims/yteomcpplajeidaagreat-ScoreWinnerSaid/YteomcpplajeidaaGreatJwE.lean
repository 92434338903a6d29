/-
  Lemmas of this claim (JwE). Nothing is asked.
-/
import Derived.Test.YteomcpplajeidaaGreatJwB
set_option linter.unusedVariables false
set_option linter.unusedSimpArgs false
set_option maxRecDepth 100000
set_option maxHeartbeats 40000000
namespace Go.Proofs.YteomcpplajeidaaGreat.Rs
open Go.RowKit Go.Proofs.YteomcpplajeidaaGreat Go.Proofs.YteomcpplajeidaaGreat.Rg
set_option linter.unusedSectionVars false
class Gw where
 R:World→World→Prop
 lim:Nat
 refl:∀ {a w},R a w→R w w
 trans:∀ {a b c},R a b→R b c→R a c
 ext:∀ {w w'},R w w→Ext w w'→R w w'
 size:∀ {a w},R a w→a.heap.size≤w.heap.size
 lim_le:∀ {a w},R a w→lim≤a.heap.size
 block:∀ {a w},R a w→∀ p,lim≤p→p < a.heap.size→w.heap[p]? = a.heap[p]?
 sub:Bool
theorem Gw.drew [Gw] {a w:World} (h:Gw.R a w):Gw.R a w.drew:=Gw.trans h (Gw.ext (Gw.refl h) (Ext.drew (Ext.refl w)))
theorem Gw.alloc [Gw] {a w:World} (h:Gw.R a w) (o:Obj):Gw.R a (w.alloc o):=Gw.trans h (Gw.ext (Gw.refl h) (Ext.alloc (Ext.refl w) o))
inductive Kd|y|z|m
deriving DecidableEq
abbrev Pnc:=List PanicEntry→World→Prop
abbrev Fs:=List (World→Prop)
def Holds (fs:Fs) (w:World):Prop:=∀ f∈fs,f w
abbrev Le (fs fs':Fs):Prop:=∀ f∈fs,f∈fs'
theorem Holds.le {fs fs':Fs} {w:World} (h:Holds fs' w) (l:Le fs fs'):Holds fs w:=fun f hf=>h f (l f hf)
theorem Holds.cons {f:World→Prop} {fs:Fs} {w:World} (h:f w) (hs:Holds fs w):Holds (f :: fs) w:=fun g hg=>by
 rcases List.mem_cons.1 hg with rfl|hg
 ·exact h
 ·exact hs g hg
theorem put_defers (a:Act) (d:Option Tmp) (v:Value):(a.put d v).defers=a.defers:=by cases d <;> rfl
section
variable [Gw] {P:Program} {ops:Array Oper} {md:Region.Mode} {w0:World} {kd:Nat→Kd} {M:Nat→Obj×(Nat→Value)} {n:Nat} {Pn:Pnc} {E:List Nat}
def Keeps (f:World→Prop):Prop:=∀ w w',f w→Gw.R w w'→f w'
def Blk (w0:World) (p:Nat) (ob:Obj):World→Prop:=fun w=>Gw.lim≤p∧w0.heap.size≤p∧w.heap[p]? = some ob
theorem Blk.keeps {p:Nat} {ob:Obj}:Keeps (Blk w0 p ob):=fun _ _ h e=>⟨h.1,h.2.1,(Gw.block e _ h.1 (lt_of_heap h.2.2)).trans h.2.2⟩
def subB (o:Oper):Bool:=Gw.sub && o.guard.isNone && match o.op with
 | .binOp bop _ _ _ _=>(match bop with | .sub=>true|_=>false)
 | _=>false
def Y (P:Program) (ops:Array Oper) (w0:World) (fs:Fs) (o:Oper) (v:Value) (a:Act):Prop:=
 (Region.wanted o (yielded ops a.tmps)=true∧(∀ w,Gw.R w0 w→Holds fs w→up P w v ((execOp a.eval o).run P w))∧(subB o=true→∀ w1,Gw.R w0 w1→Holds fs w1→∀ w,(execOp a.eval o).run P w=.ok (.value v) w))∨(Region.wanted o (yielded ops a.tmps)=false∧v=undef)
theorem Y.of_same {fs:Fs} {o:Oper} {v:Value} {a a':Act} (hy:Y P ops w0 fs o v a) (he:execOp a'.eval o=execOp a.eval o)
 (hw:Region.wanted o (yielded ops a'.tmps)=Region.wanted o (yielded ops a.tmps)):Y P ops w0 fs o v a':=by
 unfold Y at *
 rw [he,hw]
 exact hy
theorem Y.more {fs fs':Fs} {o:Oper} {v:Value} {a:Act} (hy:Y P ops w0 fs o v a) (l:Le fs fs'):Y P ops w0 fs' o v a:=
 hy.imp (fun ⟨h1,h2,h3⟩=>⟨h1,fun w e hf=>h2 w e (hf.le l),fun hs w e hf=>h3 hs w e (hf.le l)⟩) id
def upR (P:Program) (Pn:Pnc) (w:World) (R:Value→World→Prop):Result Next→Prop
 | .ok (.value v) w'=>Gw.R w w'∧R v w'
 | .ok (.enter f args) w'=>w' = w∧Calls P f args w (fun e w''=>Gw.R w w''∧((∃ v,e=.returned v∧R v w'')∨∃ c,e=.panicked c∧Pn c w''))
 | _=>False
theorem upR_value {w w':World} {R:Value→World→Prop} {v:Value} (h:Gw.R w w') (r:R v w'):upR P Pn w R (.ok (.value v) w'):=⟨h,r⟩
theorem upR_enter {w:World} {R:Value→World→Prop} {f:FuncId} {args:Array Value} (h:Calls P f args w (fun e w''=>∃ v,e=.returned v∧Gw.R w w''∧R v w'')):upR P Pn w R (.ok (.enter f args) w):=⟨rfl,h.mono fun _ _ ⟨v,he,hx,hr⟩=>⟨hx,.inl ⟨v,he,hr⟩⟩⟩
theorem upR_panic {w:World} {R:Value→World→Prop} {f:FuncId} {args:Array Value} (h:Calls P f args w (fun e w''=>∃ c,e=.panicked c∧Gw.R w w''∧Pn c w'')):upR P Pn w R (.ok (.enter f args) w):=⟨rfl,h.mono fun _ _ ⟨v,he,hx,hr⟩=>⟨hx,.inr ⟨v,he,hr⟩⟩⟩
def Z (P:Program) (Pn:Pnc) (ops:Array Oper) (w0:World) (fs:Fs) (o:Oper) (R:Value→World→Prop) (a:Act):Prop:=
 Region.wanted o (yielded ops a.tmps)=true∧(∀ v,Keeps (R v))∧∀ w,Gw.R w0 w→Holds fs w→upR P Pn w R ((execOp a.eval o).run P w)
theorem Z.of_same {fs:Fs} {o:Oper} {R:Value→World→Prop} {a a':Act} (hy:Z P Pn ops w0 fs o R a) (he:execOp a'.eval o=execOp a.eval o)
 (hw:Region.wanted o (yielded ops a'.tmps)=Region.wanted o (yielded ops a.tmps)):Z P Pn ops w0 fs o R a':=by
 unfold Z at *
 rw [he,hw]
 exact hy
theorem Z.more {fs fs':Fs} {o:Oper} {R:Value→World→Prop} {a:Act} (hy:Z P Pn ops w0 fs o R a) (l:Le fs fs'):Z P Pn ops w0 fs' o R a:=
 ⟨hy.1,hy.2.1,fun w e hf=>hy.2.2 w e (hf.le l)⟩
def Mk (P:Program) (ops:Array Oper) (o:Oper) (m:Obj×(Nat→Value)) (a:Act):Prop:=
 Region.wanted o (yielded ops a.tmps)=true∧∀ w,(execOp a.eval o).run P w=.ok (.value (m.2 w.heap.size)) (w.alloc m.1)
theorem Mk.of_same {o:Oper} {m:Obj×(Nat→Value)} {a a':Act} (hy:Mk P ops o m a) (he:execOp a'.eval o=execOp a.eval o)
 (hw:Region.wanted o (yielded ops a'.tmps)=Region.wanted o (yielded ops a.tmps)):Mk P ops o m a':=by
 unfold Mk at *
 rw [he,hw]
 exact hy
def stp (P:Program) (Pn:Pnc) (ops:Array Oper) (w0:World) (kd:Nat→Kd) (M:Nat→Obj×(Nat→Value)) (i:Nat) (K:Act→List Nat→Fs→Prop) (a:Act) (bs:List Nat) (fs:Fs):Prop:=
 match ops[i]? with
 | none=>False
 | some o=>match kd i with
  | .m=>Mk P ops o (M i) a∧∀ p,p ∉ bs→K (a.put o.dst ((M i).2 p)) (p :: bs) (Blk w0 p (M i).1 :: fs)
  | .z=>∃ R,Z P Pn ops w0 fs o R a∧∀ v,K (a.put o.dst v) bs (R v :: fs)
  | .y=>∃ v,Y P ops w0 fs o v a∧K (a.put o.dst v) bs fs
def rdy (md:Region.Mode) (ops:Array Oper) (n:Nat) (E:List Nat) (listed:Array Bool):List Nat:=(Region.ready md ops listed).filter fun j=>j != n || E.all fun i=>listed.getD i false
theorem mem_rdy {j:Nat} {listed:Array Bool}:j∈rdy md ops n E listed↔j∈Region.ready md ops listed∧(j=n→∀ i∈E,listed.getD i false=true):=by
 unfold rdy
 rw [List.mem_filter]
 refine and_congr_right fun _=>?_
 by_cases h:j=n
 ·simp [h]
 ·simp [h]
theorem rdy_mono {i j:Nat} {listed:Array Bool} (hj:j∈rdy md ops n E listed) (hne:j≠i):j∈rdy md ops n E (listed.setIfInBounds i true):=by
 rw [mem_rdy] at hj ⊢
 exact ⟨ready_mono hj.1 hne,fun h k hk=>getD_set_true (hj.2 h k hk)⟩
def sinkE (md:Region.Mode) (ops:Array Oper) (E:List Nat) (n:Nat):Bool:=
 (List.range n).all fun i=>E.contains i || (List.range (n+1)).any fun j=>decide (i < j) && Region.waitsFor md ops j i
theorem tailE {listed:Array Bool} (hs:sinkE md ops E n=true) (hc:Region.chainB md ops n=true) (hn:n < ops.size) (inv:HeadInv md ops n listed) :
 ∀ (d i:Nat),n - i=d→i < n→listed.getD i true=false→∀ t,n≤t→t ∉ rdy md ops n E listed:=by
 intro d
 induction d using Nat.strongRecOn with
 | _ d ih=>
  intro i hd hi hun t ht hr
  obtain ⟨hrr,hEr⟩:=mem_rdy.1 hr
  obtain ⟨_,ot,hot,hall⟩:=mem_ready.1 hrr
  have htlt:t < ops.size:=(Array.getElem?_eq_some_iff.1 hot).1
  by_cases htn:t=n
  ·subst htn
   have h1:=List.all_eq_true.1 hs i (List.mem_range.2 hi)
   rw [Bool.or_eq_true] at h1
   rcases h1 with h1|h1
   ·have:=hEr rfl i (by simpa using h1)
    rw [getD_both hun] at this;cases this
   ·obtain ⟨j,hj,hj2⟩:=List.any_eq_true.1 h1
    simp only [Bool.and_eq_true,decide_eq_true_eq] at hj2
    obtain ⟨oj,hoj,e,he,hb,hon⟩:=Region.waitsFor_spec hj2.2
    have hjle:j≤t:=by have:=List.mem_range.1 hj;omega
    by_cases hjt:j=t
    ·subst hjt
     have:oj=ot:=Option.some.inj (hoj.symm.trans hot)
     subst this
     have h2:=hall e he hb
     rw [hon,getD_both hun] at h2
     cases h2
    ·cases hl:listed.getD j false with
     | true=>
      have h2:=inv.closed j oj hoj hl e he hb
      rw [hon,getD_both hun] at h2
      cases h2
     | false=>
      have hjs:j < listed.size:=by rw [inv.size];omega
      exact ih (t - j) (by omega) j rfl (by omega) (getD_in hjs hl) t (Nat.le_refl _) hr
  ·have h1:=List.all_eq_true.1 hc t (List.mem_range.2 htlt)
   simp only [Bool.or_eq_true,decide_eq_true_eq] at h1
   rcases h1 with h1|h1
   ·omega
   ·obtain ⟨o',ho',e,he,hb,hon⟩:=Region.waitsFor_spec h1
    have:o' = ot:=Option.some.inj (ho'.symm.trans hot)
    subst this
    have h2:=hall e he hb
    rw [hon,getD_both (inv.tail (t - 1) (by omega) (by omega))] at h2
    cases h2
def fieldB (P:Program) (s:TypeId) (f:Nat):Bool:=match P.underlying s with
 | some (.struct fs)=>(match fs[f]? with|some fl=>(match P.info? fl.type with|some i=>i.size != 0|none=>false)|none=>false)
 | _=>false
def pureB (P:Program) (o:Oper):Bool:=o.guard.isNone && match o.op with | .extract _ _=>true | .move _=>true | .fieldAddr s _ f=>fieldB P s f|_=>false
theorem pure_run {o:Oper} (h:pureB P o=true) {ρ:Operand→Value} {w:World} {v:Value} (hu:up P w v ((execOp ρ o).run P w)):∀ w',(execOp ρ o).run P w' = .ok (.value v) w':=by
 intro w'
 obtain ⟨dst,op,ty,ps,af,gd⟩:=o
 unfold pureB at h
 rw [Bool.and_eq_true] at h
 obtain ⟨-,h⟩:=h
 cases op <;> simp only [Bool.false_eq_true] at h
 case fieldAddr s x f=>
  unfold fieldB at h
  generalize hx:ρ x=u at *
  split at h
  ·rename_i fs hs
   split at h
   ·rename_i fl hf
    split at h
    ·rename_i i hi
     have hz:i.size≠0:=by simpa using h
     cases u <;> simp [go_sem,up,hx,hs,hf,hi,hz,Instr.fieldAt,underlying,fieldPlace,sizeOf,typeInfo,Instr.sureAddr] at hu ⊢
     rename_i a
     cases a <;> simp [go_sem,hs,hf,hi,hz,Instr.fieldAt,underlying,fieldPlace,sizeOf,typeInfo,Instr.sureAddr] at hu ⊢
     exact hu
    ·cases h
   ·cases h
  ·cases h
 case move x=>simp [go_sem,up] at hu ⊢;exact hu
 case extract x k=>
  generalize hx:ρ x=u at *
  cases u <;> simp [go_sem,up,hx] at hu ⊢
  rename_i vs
  cases hk:vs[k]? with
  | none=>simp [go_sem,up,hk] at hu
  | some y=>simp [go_sem,up,hk] at hu ⊢;exact hu
theorem least_nat {p:Nat→Prop} (h:∃ i,p i):∃ i,p i∧∀ j,j < i→¬ p j:=by
 obtain ⟨i,hi⟩:=h
 induction i using Nat.strongRecOn with
 | _ i ih=>
  by_cases hj:∃ j,j < i∧p j
  ·obtain ⟨j,hj,hp⟩:=hj
   exact ih j hj hp
  ·exact ⟨i,hi,fun j hji hp=>hj ⟨j,hji,hp⟩⟩
def eagerB (P:Program) (md:Region.Mode) (ops:Array Oper) (kd:Nat→Kd) (E:List Nat) (n:Nat):Bool:=
 E.all fun i=>decide (i < n) && decide (kd i=.y) && Region.free md ops ((List.range ops.size).map fun j=>Region.waitsFor md ops n j || (E.contains j && decide (j < i))).toArray i && match ops[i]? with
  | some o=>(pureB P o || subB o) && o.after.all fun e=>!Region.binds md e || (Region.waitsFor md ops n e.on || (E.contains e.on && decide (e.on < i)))
  | none=>false
def WX (P:Program) (Pn:Pnc) (E:List Nat) (md:Region.Mode) (ops:Array Oper) (w0:World) (kd:Nat→Kd) (M:Nat→Obj×(Nat→Value)) (n:Nat) (T:Array Bool→Act→Fs→Prop):Nat→Array Bool→Act→List Nat→Fs→Prop
 | 0,listed,a,_,fs=>T listed a fs
 | f+1,listed,a,bs,fs=>rdy md ops n E listed≠[]∧∀ i∈rdy md ops n E listed,i < n∧stp P Pn ops w0 kd M i (WX P Pn E md ops w0 kd M n T f (listed.setIfInBounds i true)) a bs fs
theorem le_cons {fs fs':Fs} (l:Le fs fs') (f:World→Prop):Le (f :: fs) (f :: fs'):=fun g hg=>by
 rcases List.mem_cons.1 hg with rfl|hg
 ·exact zM
 ·exact zN _ (l g hg)
theorem le_swap {fs:Fs} (f g:World→Prop):Le (f :: g :: fs) (g :: f :: fs):=fun x hx=>by
 simp only [List.mem_cons] at hx ⊢
 rcases hx with h|h|h
 ·exact .inr (.inl h)
 ·exact .inl h
 ·exact .inr (.inr h)
theorem WX.mono {T:Array Bool→Act→Fs→Prop} (hT:∀ listed a fs fs',Le fs fs'→T listed a fs→T listed a fs') :
 ∀ (f:Nat) (listed:Array Bool) (a:Act) (bs bs':List Nat) (fs fs':Fs),(∀ b∈bs,b∈bs')→Le fs fs'→WX P Pn E md ops w0 kd M n T f listed a bs fs→WX P Pn E md ops w0 kd M n T f listed a bs' fs'
 | 0,_,_,_,_,_,_,_,l,h=>hT _ _ _ _ l h
 | f+1,listed,a,bs,bs',fs,fs',hb,l,h=>by
  refine ⟨h.1,fun i hi=>⟨(h.2 i hi).1,?_⟩⟩
  have h1:=(h.2 i hi).2
  unfold stp at h1 ⊢
  split at h1
  ·exact h1.elim
  ·split at h1
   ·refine ⟨h1.1,fun p hp=>WX.mono hT f _ _ _ _ _ _ (fun b hb'=>?_) (le_cons l _) (h1.2 p fun h=>hp (hb _ h))⟩
    rcases List.mem_cons.1 hb' with rfl|hb'
    ·exact zM
    ·exact zN _ (hb b hb')
   ·obtain ⟨R,hz,hk⟩:=h1
    exact ⟨R,hz.more l,fun v=>WX.mono hT f _ _ _ _ _ _ hb (le_cons l _) (hk v)⟩
   ·obtain ⟨v,hy,hk⟩:=h1
    exact ⟨v,hy.more l,WX.mono hT f _ _ _ _ _ _ hb l hk⟩
theorem Y.wpOp {fs:Fs} {i:Nat} {o:Oper} {v:Value} {a:Act} {w:World} {K:Act→World→Prop} {Q:Exit→Act→World→Prop} (hi:ops[i]? = some o) (hy:Y P ops w0 fs o v a) (hw:Gw.R w0 w) (hf:Holds fs w)
 (h:∀ w',Gw.R w w'→K (a.put o.dst v) w'):wpOp P ops Q i K a w:=by
 unfold Go.wpOp
 simp only [hi]
 rcases hy with ⟨hwt,hu,-⟩|⟨hwt,rfl⟩
 ·simp only [hwt,if_true]
  refine .inl ?_
  have:=hu w hw hf
  unfold Oper.wp
  generalize (execOp a.eval o).run P w=r at *
  cases r with
  | ok x w'=>
   cases x <;> simp only [up] at this <;> simp only [Oper.upon]
   case value u=>obtain ⟨rfl,rfl⟩:=this;exact h _ (Gw.refl hw)
   case skip=>obtain ⟨rfl,rfl⟩:=this;exact h _ (Gw.refl hw)
   case enter f args=>
    obtain ⟨rfl,hc⟩:=this
    exact hc.mono fun e w'' ⟨he,hb⟩=>by subst he;exact h _ (Gw.ext (Gw.refl hw) hb)
  | halt x w'=>simp only [up] at this
 ·simp only [hwt,Bool.false_eq_true,if_false]
  exact h _ (Gw.refl hw)
theorem Z.wpOp {fs:Fs} {i:Nat} {o:Oper} {R:Value→World→Prop} {a:Act} {w:World} {K:Act→World→Prop} {Q:Exit→Act→World→Prop} (hi:ops[i]? = some o) (hy:Z P Pn ops w0 fs o R a) (hw:Gw.R w0 w) (hf:Holds fs w)
 (hQ:∀ c w',Gw.R w0 w'→Pn c w'→Q (.panic c) a w')
 (h:∀ v w',Gw.R w w'→R v w'→K (a.put o.dst v) w'):wpOp P ops Q i K a w:=by
 unfold Go.wpOp
 obtain ⟨hwt,_,hu⟩:=hy
 simp only [hi,hwt,if_true]
 refine .inl ?_
 have:=hu w hw hf
 unfold Oper.wp
 generalize (execOp a.eval o).run P w=r at *
 cases r with
 | ok x w'=>
  cases x <;> simp only [upR] at this
  case value v=>
   simp only [Oper.upon]
   exact h _ _ this.1 this.2
  case enter f args=>
   simp only [Oper.upon]
   obtain ⟨rfl,hc⟩:=this
   refine hc.mono fun e w'' ⟨hb,hr⟩=>?_
   rcases hr with ⟨v,he,hr⟩|⟨c,he,hr⟩
   ·subst he;exact h _ _ hb hr
   ·subst he;exact hQ _ _ (Gw.trans hw hb) hr
 | halt x w'=>simp only [upR] at this
theorem WX.sound {T:Array Bool→Act→Fs→Prop} {Q:Exit→Act→World→Prop} {g:Nat} {ds:List Deferred}
 (hT:∀ listed a fs w,T listed a fs→Gw.R w0 w→Holds fs w→wpAny P md ops Q g listed a w) (hQ:∀ c a w',a.defers=ds→Gw.R w0 w'→Pn c w'→Q (.panic c) a w')
 (hsel:∀ (j:Nat) (o:Oper) cs b,ops[j]? = some o→o.op≠.select cs b) (hEB:eagerB P md ops kd E n=true) (hQp:E≠[]→∀ c a d v w,Q (.panic c) (a.put d v) w→Q (.panic c) a w) :
 ∀ (f:Nat) (listed:Array Bool) (a:Act) (bs:List Nat) (fs:Fs) (w:World),a.defers=ds→HeadInv md ops n listed→WX P Pn E md ops w0 kd M n T f listed a bs fs→Gw.R w0 w→(∀ b∈bs,b < w.heap.size)→Holds fs w→(∀ x∈fs,Keeps x)→wpAny P md ops Q (f+g) listed a w
 | 0,listed,a,bs,fs,w,_,_,h,e,_,hH,_=>by rw [Nat.zero_add];exact hT _ _ _ _ h e hH
 | f+1,listed,a,bs,fs,w,hd,inv,h,e,hB,hH,hK=>by
  rw [show f+1+g=(f+g)+1 by omega]
  have ext:∀ w',Gw.R w w'→Holds fs w':=fun w' hw' x hx=>hK x hx w w' (hH x hx) hw'
  have blw:∀ w',Gw.R w w'→∀ b∈bs,b < w'.heap.size:=fun w' hw' b hb=>Nat.lt_of_lt_of_le (hB b hb) (Gw.size hw')
  by_cases hE:∃ i∈E,n∈Region.ready md ops listed∧listed.getD i false=false
  ·obtain ⟨i,⟨hiE,hnr,hun⟩,hmin⟩:=least_nat hE
   have hb:=List.all_eq_true.1 hEB i hiE
   simp only [Bool.and_eq_true,decide_eq_true_eq] at hb
   obtain ⟨⟨⟨hin,hky⟩,hfree⟩,hb⟩:=hb
   split at hb
   ·rename_i o ho
    rw [Bool.and_eq_true] at hb
    obtain ⟨hpu,haf⟩:=hb
    obtain ⟨_,on,hon,hall⟩:=mem_ready.1 hnr
    have his:i < listed.size:=by rw [inv.size];exact (Array.getElem?_eq_some_iff.1 ho).1
    have hir:i∈Region.ready md ops listed:=mem_ready.2 ⟨getD_in his hun,o,ho,fun e he hbi=>by
     have h1:=Array.all_eq_true_iff_forall_mem.1 haf e he
     rw [hbi,Bool.not_true,Bool.false_or,Bool.or_eq_true] at h1
     rcases h1.symm with h1|h1
     ·rw [Bool.and_eq_true,decide_eq_true_eq] at h1
      cases hc:listed.getD e.on false with
      | true=>rfl
      | false=>exact absurd ⟨by simpa using h1.1,hnr,hc⟩ (hmin _ h1.2)
     obtain ⟨on',hon',e',he',hb',hee⟩:=Region.waitsFor_spec h1
     have:on' = on:=Option.some.inj (hon'.symm.trans hon)
     subst this
     rw [← hee]
     exact hall e' he' hb'⟩
    have hi:i∈rdy md ops n E listed:=mem_rdy.2 ⟨hir,fun h=>absurd h (by omega)⟩
    have hi0:=hir
    have hs:=(h.2 i hi).2
    unfold stp at hs
    simp only [ho,hky] at hs
    obtain ⟨v,hy,hk⟩:=hs
    have hyi:Yields P ops o v a:=hy.imp (fun ⟨h1,h2,h3⟩=>⟨h1,by
     rcases (Bool.or_eq_true _ _).mp hpu with hp|hp
     ·exact pure_run hp (h2 w e hH)
     ·exact h3 hp w e hH⟩) id
    refine wpAny_first ho hsel (fun c a w=>hQp (fun h=>by rw [h] at hiE;cases hiE) c a _ _ w) (f+g) listed a w (fun j oj hj hne hju hno=>Region.free_spec ho hfree j oj hj hne (by
     have hjs:=(Array.getElem?_eq_some_iff.1 hj).1
     cases hwj:Region.waitsFor md ops n j with
     | false=>
      have hEj:(E.contains j && decide (j < i))=false:=by
       cases hb:(E.contains j && decide (j < i)) with
       | false=>rfl
       | true=>
        rw [Bool.and_eq_true,decide_eq_true_eq] at hb
        exact absurd ⟨by simpa using hb.1,hnr,getD_both hju⟩ (hmin _ hb.2)
      have hEj':(E.contains j=true→¬ j < i):=fun h1 h2=>by rw [h1,decide_eq_true h2] at hEj;cases hEj
      simp only [Array.getD_eq_getD_getElem?,List.getElem?_toArray,List.getElem?_map,List.getElem?_range hjs,Option.map_some,Option.getD_some,hwj,hEj,Bool.or_self]
     | true=>
      obtain ⟨on',hon',e',he',hb',hee⟩:=Region.waitsFor_spec hwj
      have:on' = on:=Option.some.inj (hon'.symm.trans hon)
      subst this
      have:=hall e' he' hb'
      rw [hee,getD_both hju] at this
      cases this) hno) hir hyi ?_
    exact WX.sound hT hQ hsel hEB hQp f _ _ _ _ _ ((put_defers _ _ _).trans hd) (inv.set hi0 (h.2 i hi).1) hk e hB hH hK
   ·cases hb
  have hrd:∀ j,j∈Region.ready md ops listed→j∈rdy md ops n E listed:=fun j hj=>mem_rdy.2 ⟨hj,fun hjn i hiE=>by
   cases hc:listed.getD i false with
   | true=>rfl
   | false=>exact absurd ⟨i,hiE,hjn ▸ hj,hc⟩ hE⟩
  refine ⟨fun h0=>absurd (List.eq_nil_iff_forall_not_mem.2 fun j hj=>by rw [h0] at hrd;have:=(mem_rdy.1 hj).1;rw [h0] at this;cases this) h.1,fun i hi0=>?_⟩
  have hi:=hrd i hi0
  have hs:=(h.2 i hi).2
  unfold stp at hs
  split at hs
  ·exact hs.elim
  ·rename_i o ho
   split at hs
   ·obtain ⟨⟨hwt,hm⟩,hp⟩:=hs
    unfold wpOp
    simp only [ho,hwt,if_true]
    refine .inl ?_
    unfold Oper.wp
    rw [hm]
    simp only [Oper.upon]
    have e1:Gw.R w (w.alloc (M i).1):=Gw.alloc (Gw.refl e) _
    have hsz:(w.alloc (M i).1).heap.size=w.heap.size+1:=by show (w.heap.push _).size=_;simp
    refine WX.sound hT hQ hsel hEB hQp f _ _ _ _ _ ((put_defers _ _ _).trans hd) (inv.set hi0 (h.2 i hi).1) (hp w.heap.size fun h=>Nat.lt_irrefl _ (hB _ h)) (Gw.alloc e _) (fun b hb=>?_) (Holds.cons ⟨Nat.le_trans (Gw.lim_le e) (Gw.size e),Gw.size e,?_⟩ (ext _ e1)) fun x hx=>?_
    ·rcases List.mem_cons.1 hb with rfl|hb
     ·omega
     ·exact blw _ e1 b hb
    ·show (w.heap.push _)[w.heap.size]? = _
     simp
    ·rcases List.mem_cons.1 hx with rfl|hx
     ·exact Blk.keeps
     ·exact hK x hx
   ·obtain ⟨R,hz,hk⟩:=hs
    exact hz.wpOp ho e hH (fun c w'=>hQ c a w' hd) fun v w' hw' hr=>WX.sound hT hQ hsel hEB hQp f _ _ _ _ _ ((put_defers _ _ _).trans hd) (inv.set hi0 (h.2 i hi).1) (hk v) (Gw.trans e hw') (blw w' hw') (Holds.cons hr (ext w' hw'))
     (fun x hx=>(List.mem_cons.1 hx).elim (fun e=>e ▸ hz.2.1 v) (fun h=>hK x h))
   ·obtain ⟨v,hy,hk⟩:=hs
    exact hy.wpOp ho e hH fun w' hw'=>WX.sound hT hQ hsel hEB hQp f _ _ _ _ _ ((put_defers _ _ _).trans hd) (inv.set hi0 (h.2 i hi).1) hk (Gw.trans e hw') (blw w' hw') (ext w' hw') hK
def At (P:Program) (Pn:Pnc) (ops:Array Oper) (w0:World) (M:Nat→Obj×(Nat→Value)) (i:Nat) (oi:Oper) (k:Kd) (a:Act) (fs:Fs) (R:Value→World→Prop) (u:Value):Prop:=
 match k with
 | .m=>Mk P ops oi (M i) a
 | .z=>Z P Pn ops w0 fs oi R a
 | .y=>Y P ops w0 fs oi u a
def Goes (w0:World) (M:Nat→Obj×(Nat→Value)) (i:Nat) (oi:Oper) (k:Kd) (K:Act→List Nat→Fs→Prop) (a:Act) (bs:List Nat) (fs:Fs) (R:Value→World→Prop) (u:Value):Prop:=
 match k with
 | .m=>∀ p,p ∉ bs→K (a.put oi.dst ((M i).2 p)) (p :: bs) (Blk w0 p (M i).1 :: fs)
 | .z=>∀ v,K (a.put oi.dst v) bs (R v :: fs)
 | .y=>K (a.put oi.dst u) bs fs
theorem stp_of {i:Nat} {oi:Oper} {R:Value→World→Prop} {u:Value} (hi:ops[i]? = some oi) {K:Act→List Nat→Fs→Prop} {a:Act} {bs:List Nat} {fs:Fs} (h1:At P Pn ops w0 M i oi (kd i) a fs R u) (h2:Goes w0 M i oi (kd i) K a bs fs R u):stp P Pn ops w0 kd M i K a bs fs:=by
 unfold stp
 simp only [hi]
 unfold At Goes at *
 revert h1 h2
 cases kd i <;> intro h1 h2
 ·exact ⟨u,h1,h2⟩
 ·exact ⟨R,h1,h2⟩
 ·exact ⟨h1,h2⟩
theorem of_stp {i:Nat} {oi:Oper} (hi:ops[i]? = some oi) {K:Act→List Nat→Fs→Prop} {a:Act} {bs:List Nat} {fs:Fs} (h:stp P Pn ops w0 kd M i K a bs fs):∃ R u,At P Pn ops w0 M i oi (kd i) a fs R u∧Goes w0 M i oi (kd i) K a bs fs R u:=by
 unfold stp at h
 simp only [hi] at h
 unfold At Goes
 revert h
 cases kd i <;> intro h
 ·obtain ⟨v,h1,h2⟩:=h;exact ⟨fun _ _=>True,v,h1,h2⟩
 ·obtain ⟨R,h1,h2⟩:=h;exact ⟨R,undef,h1,h2⟩
 ·exact ⟨fun _ _=>True,undef,h⟩
theorem At.of_same {i:Nat} {oi:Oper} {k:Kd} {a a':Act} {fs:Fs} {R:Value→World→Prop} {u:Value} (h:At P Pn ops w0 M i oi k a fs R u) (he:execOp a'.eval oi=execOp a.eval oi)
 (hw:Region.wanted oi (yielded ops a'.tmps)=Region.wanted oi (yielded ops a.tmps)):At P Pn ops w0 M i oi k a' fs R u:=by
 unfold At at *
 cases k
 ·exact Y.of_same h he hw
 ·exact Z.of_same h he hw
 ·exact Mk.of_same h he hw
theorem At.more {i:Nat} {oi:Oper} {k:Kd} {a:Act} {fs fs':Fs} {R:Value→World→Prop} {u:Value} (h:At P Pn ops w0 M i oi k a fs R u) (l:Le fs fs'):At P Pn ops w0 M i oi k a fs' R u:=by
 unfold At at *
 cases k
 ·exact Y.more h l
 ·exact Z.more h l
 ·exact h
theorem fresh_nat:∀ bs:List Nat,∃ p,∀ b∈bs,b < p
 | []=>⟨0,fun _ h=>by cases h⟩
 | b :: bs=>by
  obtain ⟨p,hp⟩:=fresh_nat bs
  refine ⟨p+b+1,fun x hx=>?_⟩
  rcases List.mem_cons.1 hx with rfl|hx
  ·omega
  ·have:=hp x hx;omega
theorem Goes.some {i:Nat} {oi:Oper} {k:Kd} {K:Act→List Nat→Fs→Prop} {a:Act} {bs:List Nat} {fs:Fs} {R:Value→World→Prop} {u:Value} (h:Goes w0 M i oi k K a bs fs R u):∃ v bs' fs',K (a.put oi.dst v) bs' fs':=by
 unfold Goes at h
 cases k
 ·exact ⟨_,_,_,h⟩
 ·exact ⟨_,_,_,h undef⟩
 ·obtain ⟨p,hp⟩:=fresh_nat bs
  exact ⟨_,_,_,h p fun h=>Nat.lt_irrefl _ (hp p h)⟩
def Alone (md:Region.Mode) (ops:Array Oper) (kd:Nat→Kd) (n:Nat) (i:Nat) (listed:Array Bool):Prop:=
 ∀ listed',HeadInv md ops n listed'→(∀ k,listed.getD k true=true→listed'.getD k true=true)→listed'.getD i true=false→∀ j∈Region.ready md ops listed',j≠i→j < n→kd j=.m
theorem WX_first {T:Array Bool→Act→Fs→Prop} {i:Nat} {oi:Oper} (hi:ops[i]? = some oi) (hT:∀ listed a fs fs',Le fs fs'→T listed a fs→T listed a fs')
 (hsel:∀ (j:Nat) (o:Oper) cs b,ops[j]? = some o→o.op≠.select cs b)
 (hs:sinkE md ops E n=true) (hc:Region.chainB md ops n=true) (hn:n < ops.size) (hin:i < n)
 (hdone:∀ listed a fs,T listed a fs→∀ j∈rdy md ops n E listed,n≤j) (R:Value→World→Prop) (u:Value) :
 ∀ (f:Nat) (listed:Array Bool) (a:Act) (bs:List Nat) (fs:Fs),HeadInv md ops n listed →
  (∀ j oj,ops[j]? = some oj→j≠i→listed.getD j true=false→(∀ e∈oj.after,Region.binds md e=true→e.on≠i)→oi.apart ops oj=true) →
  (kd i=.y∨Alone md ops kd n i listed) →
  i∈rdy md ops n E listed→At P Pn ops w0 M i oi (kd i) a fs R u →
  Goes w0 M i oi (kd i) (WX P Pn E md ops w0 kd M n T f (listed.setIfInBounds i true)) a bs fs R u→WX P Pn E md ops w0 kd M n T (f+1) listed a bs fs:=by
 intro f
 induction f with
 | zero=>
  intro listed a bs fs inv _ _ hr hy H
  have hun:=(mem_ready.1 (mem_rdy.1 hr).1).1
  refine ⟨fun h=>(by rw [h] at hr;cases hr),fun j hj=>?_⟩
  have hjn:j < n:=by
   rcases Nat.lt_or_ge j n with h|h
   ·exact h
   ·exact absurd hj (tailE hs hc hn inv _ i rfl hin hun j h)
  refine ⟨hjn,?_⟩
  by_cases hji:j=i
  ·subst hji;exact stp_of hi hy H
  ·obtain ⟨_,_,_,h⟩:=H.some
   have:=hdone _ _ _ h j (rdy_mono hj hji)
   omega
 | succ f ih=>
  intro listed a bs fs inv hfree hal hr hy H
  have hun:=(mem_ready.1 (mem_rdy.1 hr).1).1
  refine ⟨fun h=>(by rw [h] at hr;cases hr),fun j hj=>?_⟩
  have hjn:j < n:=by
   rcases Nat.lt_or_ge j n with h|h
   ·exact h
   ·exact absurd hj (tailE hs hc hn inv _ i rfl hin hun j h)
  refine ⟨hjn,?_⟩
  by_cases hji:j=i
  ·subst hji;exact stp_of hi hy H
  ·obtain ⟨hjun,oj,hoj,hall⟩:=mem_ready.1 (mem_rdy.1 hj).1
   have hnot:∀ e∈oj.after,Region.binds md e=true→e.on≠i:=fun e he hb heq=>by
    have h1:=hall e he hb
    rw [heq,getD_both hun] at h1
    cases h1
   have hap:=hfree j oj hoj hji hjun hnot
   obtain ⟨k1,k2,k3⟩:=Oper.apart_spec hap
   have keep:∀ v,At P Pn ops w0 M i oi (kd i) (a.put oj.dst v) fs R u:=fun v=>
    hy.of_same (execOp_put oi (fun cs b=>hsel i oi cs b hi) a oj.dst v k3) (wanted_put oi a oj.dst v k3)
   have hfree':∀ k ok,ops[k]? = some ok→k≠i→(listed.setIfInBounds j true).getD k true=false →
    (∀ e∈ok.after,Region.binds md e=true→e.on≠i)→oi.apart ops ok=true:=fun k ok hk hki hun hno=>by
    refine hfree k ok hk hki ?_ hno
    by_cases hjk:j=k
    ·subst hjk;exact hjun
    ·rw [getD_set_ne true hjk] at hun;exact hun
   have hal':kd i=.y∨Alone md ops kd n i (listed.setIfInBounds j true):=hal.imp id fun h l' i' m' u'=>h l' i' (fun k hk=>m' k (by
    by_cases hjk:j=k
    ·subst hjk;rcases Nat.lt_or_ge j listed.size with h|h <;> simp [h]
    ·rw [getD_set_ne true hjk];exact hk)) u'
   have inv':=inv.set (mem_rdy.1 hj).1 hjn
   have hr':=rdy_mono hr (Ne.symm hji)
   have back:∀ (v v':Value),execOp (a.put oi.dst v).eval oj=execOp a.eval oj∧Region.wanted oj (yielded ops (a.put oi.dst v).tmps)=Region.wanted oj (yielded ops a.tmps):=
    fun v _=>⟨execOp_put oj (fun cs b=>hsel j oj cs b hoj) a oi.dst v k1,wanted_put oj a oi.dst v k1⟩
   have swap:∀ (v v':Value) (bs' bs'':List Nat) (fs' fs'':Fs),(∀ b∈bs',b∈bs'')→Le fs' fs''→WX P Pn E md ops w0 kd M n T f ((listed.setIfInBounds i true).setIfInBounds j true) ((a.put oi.dst v).put oj.dst v') bs' fs' →
    WX P Pn E md ops w0 kd M n T f ((listed.setIfInBounds j true).setIfInBounds i true) ((a.put oj.dst v').put oi.dst v) bs'' fs'':=fun v v' bs' bs'' fs' fs'' hb hl h=>by
    rw [Array.setIfInBounds_comm _ _ hji,← Act.put_comm a v v' k2]
    exact h.mono hT f _ _ _ _ _ _ hb hl
   rcases hal with hky|hal
   ·rw [hky] at H hy keep
    have h1:=of_stp hoj (H.2 j (rdy_mono hj hji)).2
    obtain ⟨Rj,uj,hAt,hGo⟩:=h1
    refine stp_of hoj (R:=Rj) (u:=uj) (hAt.of_same (back u u).1.symm (back u u).2.symm) ?_
    have run:∀ (v:Value) (bs':List Nat) (fs':Fs),Le fs fs'→WX P Pn E md ops w0 kd M n T f ((listed.setIfInBounds i true).setIfInBounds j true) ((a.put oi.dst u).put oj.dst v) bs' fs'→WX P Pn E md ops w0 kd M n T (f+1) (listed.setIfInBounds j true) (a.put oj.dst v) bs' fs':=by
     intro v bs' fs' hl h
     refine ih _ _ _ _ inv' hfree' hal' hr' (by rw [hky];exact (keep v).more hl) ?_
     rw [hky]
     exact swap u v bs' bs' fs' fs' (fun _ h=>h) (fun _ h=>h) h
    revert hGo
    unfold Goes
    cases kd j <;> intro hGo
    ·exact run _ _ _ (fun _ h=>h) hGo
    ·exact fun v=>run _ _ _ (fun _ h=>zN _ h) (hGo v)
    ·exact fun p hp=>run _ _ _ (fun _ h=>zN _ h) (hGo p hp)
   ·have hkm:kd j=.m:=hal listed inv (fun _ h=>h) hun j (mem_rdy.1 hj).1 hji hjn
    have from_i:∀ v bs' fs',WX P Pn E md ops w0 kd M n T (f+1) (listed.setIfInBounds i true) (a.put oi.dst v) bs' fs'→Mk P ops oj (M j) a∧∀ q,q ∉ bs'→WX P Pn E md ops w0 kd M n T f ((listed.setIfInBounds i true).setIfInBounds j true) ((a.put oi.dst v).put oj.dst ((M j).2 q)) (q :: bs') (Blk w0 q (M j).1 :: fs'):=by
     intro v bs' fs' h
     have h1:=(h.2 j (rdy_mono hj hji)).2
     unfold stp at h1
     simp only [hoj,hkm] at h1
     exact ⟨h1.1.of_same (back v v).1.symm (back v v).2.symm,h1.2⟩
    unfold stp
    simp only [hoj,hkm]
    obtain ⟨v0,b0,f0,h0⟩:=H.some
    refine ⟨(from_i v0 b0 f0 h0).1,fun q hq=>?_⟩
    refine ih _ _ _ _ inv' hfree' hal' hr' ((keep _).more (fun _ h=>zN _ h)) ?_
    revert H
    unfold Goes
    cases kd i <;> intro H
    ·exact swap _ _ _ _ _ _ (fun _ h=>h) (fun _ h=>h) ((from_i _ _ _ H).2 q hq)
    ·exact fun v=>swap _ _ _ _ _ _ (fun _ h=>h) (le_swap _ _) ((from_i _ _ _ (H v)).2 q hq)
    ·intro p hp
     refine swap _ _ _ _ _ _ (fun b hb=>?_) (le_swap _ _) ((from_i _ _ _ (H p fun h=>hp (zN _ h))).2 q fun h=>?_)
     ·simp only [List.mem_cons] at hb ⊢
      rcases hb with h|h|h
      ·exact .inr (.inl h)
      ·exact .inl h
      ·exact .inr (.inr h)
     ·rcases List.mem_cons.1 h with h|h
      ·exact hp (h ▸ zM)
      ·exact hq h
def wr (P:Program) (Pn:Pnc) (ops:Array Oper) (w0:World) (M:Nat→Obj×(Nat→Value)) (fin:Act→Fs→Prop):List (Nat×Kd)→Act→List Nat→Fs→Prop
 | [],a,_,fs=>fin a fs
 |(i,.y) :: rest,a,bs,fs=>∃ o,ops[i]? = some o∧∃ v,Y P ops w0 fs o v a∧wr P Pn ops w0 M fin rest (a.put o.dst v) bs fs
 |(i,.z) :: rest,a,bs,fs=>∃ o,ops[i]? = some o∧∃ R,Z P Pn ops w0 fs o R a∧∀ v,wr P Pn ops w0 M fin rest (a.put o.dst v) bs (R v :: fs)
 |(i,.m) :: rest,a,bs,fs=>∃ o,ops[i]? = some o∧Mk P ops o (M i) a∧∀ p,p ∉ bs→wr P Pn ops w0 M fin rest (a.put o.dst ((M i).2 p)) (p :: bs) (Blk w0 p (M i).1 :: fs)
section
variable {fin:Act→Fs→Prop} {a:Act} {bs:List Nat} {fs:Fs} {i:Nat} {o:Oper} {rest:List (Nat×Kd)}
theorem wr_nil (h:fin a fs):wr P Pn ops w0 M fin [] a bs fs:=h
theorem wr_y (ho:ops[i]? = some o) (hw:Region.wanted o (yielded ops a.tmps)=true)
 (h:∃ v,(∀ w,Gw.R w0 w→Holds fs w→up P w v ((execOp a.eval o).run P w))∧wr P Pn ops w0 M fin rest (a.put o.dst v) bs fs) (hs:subB o=false:=by rfl):wr P Pn ops w0 M fin ((i,.y) :: rest) a bs fs:=
 ⟨o,ho,h.choose,.inl ⟨hw,h.choose_spec.1,fun h'=>by rw [hs] at h';cases h'⟩,h.choose_spec.2⟩
theorem wr_sub (ho:ops[i]? = some o) (hw:Region.wanted o (yielded ops a.tmps)=true)
 (h:∃ v,(∀ w,(execOp a.eval o).run P w=.ok (.value v) w)∧wr P Pn ops w0 M fin rest (a.put o.dst v) bs fs):wr P Pn ops w0 M fin ((i,.y) :: rest) a bs fs:=
 ⟨o,ho,h.choose,.inl ⟨hw,fun w _ _=>by rw [h.choose_spec.1 w];exact up_value,fun _ _ _ _=>h.choose_spec.1⟩,h.choose_spec.2⟩
theorem wr_skip (ho:ops[i]? = some o) (hw:Region.wanted o (yielded ops a.tmps)=false)
 (h:wr P Pn ops w0 M fin rest (a.put o.dst undef) bs fs):wr P Pn ops w0 M fin ((i,.y) :: rest) a bs fs:=
 ⟨o,ho,undef,.inr ⟨hw,rfl⟩,h⟩
theorem wr_z (R:Value→World→Prop) (ho:ops[i]? = some o) (hw:Region.wanted o (yielded ops a.tmps)=true) (hk:∀ v,Keeps (R v))
 (h:∀ w,Gw.R w0 w→Holds fs w→upR P Pn w R ((execOp a.eval o).run P w)) (k:∀ v,wr P Pn ops w0 M fin rest (a.put o.dst v) bs (R v :: fs)):wr P Pn ops w0 M fin ((i,.z) :: rest) a bs fs:=
 ⟨o,ho,R,⟨hw,hk,h⟩,k⟩
theorem zd (R:Value→World→Prop) (hk:∀ v,Keeps (R v)) (h:∀ w,Gw.R w0 w→Holds fs w→upR P Pn w R ((execOp a.eval o).run P w)) (k:∀ v,wr P Pn ops w0 M fin rest (a.put o.dst v) bs (R v :: fs)) (ho:ops[i]? = some o:=by simp only [ga,gb,gc];rfl) (hw:Region.wanted o (yielded ops a.tmps)=true:=by rfl):wr P Pn ops w0 M fin ((i,.z) :: rest) a bs fs:=wr_z R ho hw hk h k
theorem yd (h:∃ v,(∀ w,Gw.R w0 w→Holds fs w→up P w v ((execOp a.eval o).run P w))∧wr P Pn ops w0 M fin rest (a.put o.dst v) bs fs) (ho:ops[i]? = some o:=by simp only [ga,gb,gc];rfl) (hw:Region.wanted o (yielded ops a.tmps)=true:=by rfl) (hs:subB o=false:=by rfl):wr P Pn ops w0 M fin ((i,.y) :: rest) a bs fs:=wr_y ho hw h hs
theorem wr_m (ho:ops[i]? = some o) (hw:Region.wanted o (yielded ops a.tmps)=true)
 (h:∀ w,(execOp a.eval o).run P w=.ok (.value ((M i).2 w.heap.size)) (w.alloc (M i).1)) (k:∀ p,p ∉ bs→wr P Pn ops w0 M fin rest (a.put o.dst ((M i).2 p)) (p :: bs) (Blk w0 p (M i).1 :: fs)):wr P Pn ops w0 M fin ((i,.m) :: rest) a bs fs:=
 ⟨o,ho,⟨hw,h⟩,k⟩
end
def aloneB (md:Region.Mode) (ops:Array Oper) (kd:Nat→Kd) (n:Nat) (listed:Array Bool) (i:Nat):Bool:=
 (List.range n).all fun j=>decide (kd j=.m) || (j == i) || listed.getD j true ||
   (match ops[j]? with|some o=>o.after.any fun e=>Region.binds md e && (e.on == i || (decide (e.on < j) && !listed.getD e.on true && !decide (kd e.on=.m)))|none=>true)
theorem alone_of {listed:Array Bool} {i:Nat} (h:aloneB md ops kd n listed i=true):Alone md ops kd n i listed:=by
 have key:∀ (j:Nat),j < n→j≠i→kd j≠.m→listed.getD j true=false→∀ listed',HeadInv md ops n listed'→listed'.getD i true=false →
  (∀ oj,ops[j]? = some oj→¬ ∀ e∈oj.after,Region.binds md e=true→listed'.getD e.on false=true):=by
  intro j
  induction j using Nat.strongRecOn with
  | _ j ih=>
   intro hjn hji hkj hun listed' inv hui oj hoj hall
   have h1:=List.all_eq_true.1 h j (List.mem_range.2 hjn)
   simp only [hoj,hun,Bool.or_eq_true,decide_eq_true_eq,beq_iff_eq,Bool.false_eq_true,or_false] at h1
   rcases h1 with (h1|h1)|h1
   ·exact hkj h1
   ·exact hji h1
   ·obtain ⟨e,he,hb⟩:=Array.any_eq_true'.1 h1
    simp only [Bool.and_eq_true,Bool.or_eq_true,beq_iff_eq,decide_eq_true_eq,Bool.not_eq_true',decide_eq_false_iff_not] at hb
    obtain ⟨hbi,hb⟩:=hb
    have hl:=hall e he hbi
    rcases hb with hb|⟨⟨hlt,hune⟩,hme⟩
    ·rw [hb,getD_both hui] at hl;cases hl
    ·by_cases hei:e.on=i
     ·rw [hei,getD_both hui] at hl;cases hl
     ·have hes:e.on < ops.size:=by
       have h2:=getD_both hune
       rcases Nat.lt_or_ge e.on ops.size with h|h
       ·exact h
       ·have:listed'.size≤e.on:=by rw [inv.size];exact h
        simp [Array.getElem?_eq_none this] at hl
      exact ih e.on hlt (by omega) hei hme hune listed' inv hui (ops[e.on]'hes) (by simp [hes]) (fun e' he' hb' => inv.closed e.on _ (by simp [hes]) hl e' he' hb')
 intro listed' inv mon hui j hj hji hjn
 obtain ⟨hjun,oj,hoj,hall⟩:=mem_ready.1 hj
 by_cases hkj:kd j=.m
 ·exact hkj
 ·refine absurd hall (key j hjn hji hkj ?_ listed' inv hui oj hoj)
  cases hc:listed.getD j true with
  | false=>rfl
  | true=>rw [mon j hc] at hjun;cases hjun
def kdOf (s:List (Nat×Kd)) (i:Nat):Kd:=match s.find? (fun x=>x.1 == i) with|some x=>x.2|none=>.y
def lexR (md:Region.Mode) (ops:Array Oper) (kd:Nat→Kd) (E:List Nat) (n:Nat):List (Nat×Kd)→Array Bool→Bool
 | [],listed=>Region.seqB md ops (ops.size - n) n listed
 |(i,k) :: rest,listed=>decide (i < n) && decide (kd i=k) && (rdy md ops n E listed).contains i && Region.free md ops listed i && (decide (k=.y) || aloneB md ops kd n listed i) && lexR md ops kd E n rest (listed.setIfInBounds i true)
theorem WX_lex {T:Array Bool→Act→Fs→Prop} {fin:Act→Fs→Prop} (hT:∀ listed a fs fs',Le fs fs'→T listed a fs→T listed a fs') (hsel:Region.noSelect ops=true) (hs:sinkE md ops E n=true) (hc:Region.chainB md ops n=true) (hn:n < ops.size)
 (hdone:∀ listed a fs,T listed a fs→∀ j∈rdy md ops n E listed,n≤j)
 (hb:∀ listed a fs,Region.seqB md ops (ops.size - n) n listed=true→fin a fs→T listed a fs) :
 ∀ (s:List (Nat×Kd)) (listed:Array Bool) (a:Act) (bs:List Nat) (fs:Fs),HeadInv md ops n listed →
 lexR md ops kd E n s listed=true→wr P Pn ops w0 M fin s a bs fs→WX P Pn E md ops w0 kd M n T s.length listed a bs fs
 | [],listed,a,bs,fs,inv,hB,h=>hb listed a fs (by simpa [lexR] using hB) h
 |(i,k) :: rest,listed,a,bs,fs,inv,hB,h=>by
  simp only [lexR,Bool.and_eq_true,decide_eq_true_eq,Bool.or_eq_true] at hB
  obtain ⟨⟨⟨⟨⟨hin,hk⟩,hr⟩,hf⟩,hal⟩,hB'⟩:=hB
  have hr':i∈rdy md ops n E listed:=by simpa using hr
  have next:=fun a bs fs h=>WX_lex hT hsel hs hc hn hdone hb rest (listed.setIfInBounds i true) a bs fs (inv.set (mem_rdy.1 hr').1 hin) hB' h
  have hal':kd i=.y∨Alone md ops kd n i listed:=hal.imp (fun h=>hk.trans h) alone_of
  rw [List.length_cons]
  cases k with
  | y=>
   obtain ⟨o,ho,v,hy,hK⟩:=h
   exact WX_first ho hT (Region.noSelect_spec hsel) hs hc hn hin hdone (fun _ _=>True) v _ listed a bs fs inv (Region.free_spec ho hf) hal' hr' (by rw [hk];exact hy) (by rw [hk];exact next _ _ _ hK)
  | z=>
   obtain ⟨o,ho,R,hy,hK⟩:=h
   exact WX_first ho hT (Region.noSelect_spec hsel) hs hc hn hin hdone R undef _ listed a bs fs inv (Region.free_spec ho hf) hal' hr' (by rw [hk];exact hy) (by rw [hk];exact fun v=>next _ _ _ (hK v))
  | m=>
   obtain ⟨o,ho,hy,hK⟩:=h
   exact WX_first ho hT (Region.noSelect_spec hsel) hs hc hn hin hdone (fun _ _=>True) undef _ listed a bs fs inv (Region.free_spec ho hf) hal' hr' (by rw [hk];exact hy) (by rw [hk];exact fun p hp=>next _ _ _ (hK p hp))
def allR (P:Program) (md:Region.Mode) (ops:Array Oper) (E:List Nat) (s:List (Nat×Kd)):Bool:=
 Region.noSelect ops && decide (s.length < ops.size) && sinkE md ops E s.length && Region.chainB md ops s.length && eagerB P md ops (kdOf s) E s.length && lexR md ops (kdOf s) E s.length s (Array.replicate ops.size false)
theorem wr_dead {fin:Act→Fs→Prop} (hfin:∀ a fs,(∃ f∈fs,∀ w,¬ f w)→fin a fs):∀ (s:List (Nat×Kd)) (a:Act) (bs:List Nat) (fs:Fs),(∃ f∈fs,∀ w,¬ f w) →
 (∀ x∈s,∃ o,ops[x.1]? = some o∧(x.2=.y∨(x.2=.m∧∀ a,Mk P ops o (M x.1) a)))→wr P Pn ops w0 M fin s a bs fs
 | [],a,_,fs,hd,_=>hfin a fs hd
 |(i,k) :: rest,a,bs,fs,hd,hx=>by
  obtain ⟨o,ho,hk⟩:=hx (i,k) zM
  have more:∀ f,∃ g∈f :: fs,∀ w,¬ g w:=fun f=>hd.imp fun g ⟨h1,h2⟩=>⟨zN _ h1,h2⟩
  have hx':=fun x h=>hx x (zN _ h)
  rcases hk with hk|⟨hk,hmk⟩ <;> simp only at hk <;> subst hk
  ·refine ⟨o,ho,undef,?_,wr_dead hfin rest _ _ _ hd hx'⟩
   unfold Y
   cases Region.wanted o (yielded ops a.tmps)
   ·exact .inr ⟨rfl,rfl⟩
   ·obtain ⟨f,hf,hno⟩:=hd
    exact .inl ⟨rfl,fun w _ hh=>absurd (hh f hf) (hno w),fun _ w _ hh=>absurd (hh f hf) (hno w)⟩
  ·exact ⟨o,ho,hmk a,fun p _=>wr_dead hfin rest _ _ _ (more _) hx'⟩
variable {id:Nat} {Q:Exit→Act→World→Prop} {a:Act} {w:World} {l:List Oper}
theorem wpAny_G (hgw:Gw.R w w) (E:List Nat) (s:List (Nat×Kd)) (M:Nat→Obj×(Nat→Value)) (Pn:Pnc) (hQ:∀ c a' w',a'.defers=a.defers→Gw.R w w'→Pn c w'→Q (.panic c) a' w')
 (hQp:E≠[]→∀ c a d v w,Q (.panic c) (a.put d v) w→Q (.panic c) a w) (hB:allR P .any l.toArray E s=true)
 (h:wr P Pn l.toArray w M (fun a fs=>∀ w',Gw.R w w'→Holds fs w'→wpList P l.toArray Q (l.drop s.length) a w') s a [] []):wpAny P .any l.toArray Q l.toArray.size (Array.replicate l.toArray.size false) a { w with drawn:=w.drawn+1 }:=by
 simp only [allR,Bool.and_eq_true,decide_eq_true_eq] at hB
 obtain ⟨⟨⟨⟨⟨hsel,hn⟩,hs⟩,hc⟩,heb⟩,hlex⟩:=hB
 have hn':s.length < l.length:=by simpa using hn
 have hdl:(l.drop s.length).length=l.toArray.size - s.length:=by simp
 have inv0:HeadInv .any l.toArray s.length (Array.replicate l.toArray.size false):=
  ⟨by simp,fun j oj _ hl=>(by rw [getD_replicate_false] at hl;cases hl),fun t _ ht=>getD_in (by simpa using ht) (getD_replicate_false _ _)⟩
 let T:Array Bool→Act→Fs→Prop:=fun listed a fs=>Region.seqB .any l.toArray (l.toArray.size - s.length) s.length listed=true∧∀ w',Gw.R w w'→Holds fs w'→wpList P l.toArray Q (l.drop s.length) a w'
 have H:=WX_lex (P:=P) (Pn:=Pn) (E:=E) (w0:=w) (M:=M) (md:=.any) (kd:=kdOf s) (T:=T) (fun _ _ _ _ l h=>⟨h.1,fun w' e hf=>h.2 w' e (hf.le l)⟩) hsel hs hc hn (fun listed a fs hT j hj=>seqB_ready hT.1 j (mem_rdy.1 hj).1) (fun listed a fs h1 h2=>⟨h1,h2⟩) s _ a [] [] inv0 hlex h
 have:=WX.sound (Q:=Q) (g:=l.toArray.size - s.length) (fun listed a' fs w' hT hw hF=>by
  have:=wpAny_of_seq (md:=.any) (Q':=Q) (l.drop s.length) s.length listed a' w' (fun j=>by simp [List.getElem?_drop]) (by rw [hdl];exact hT.1) (hT.2 w' hw hF)
  rwa [hdl] at this) hQ (Region.noSelect_spec hsel) heb hQp _ _ _ _ _ { w with drawn:=w.drawn+1 } rfl inv0 H (Gw.drew hgw) (fun b hb=>by cases hb) (fun b hb=>by cases hb) (fun b hb=>by cases hb)
 rw [show s.length+(l.toArray.size - s.length)=l.toArray.size by omega] at this
 exact this
theorem wp_regionG (hgw:Gw.R w w) (E:List Nat) (s:List (Nat×Kd)) (M:Nat→Obj×(Nat→Value)) (Pn:Pnc) (hQ:∀ c a' w',a'.defers=a.defers→Gw.R w w'→Pn c w'→Q (.panic c) a' w')
 (hQp:E≠[]→∀ c a d v w,Q (.panic c) (a.put d v) w→Q (.panic c) a w) (hm:P.follows .mixedOrders=true) (hB:allR P .any l.toArray E s=true)
 (h:wr P Pn l.toArray w M (fun a fs=>∀ w',Gw.R w w'→Holds fs w'→wpList P l.toArray Q (l.drop s.length) a w') s a [] []):(Code.region id l.toArray true).wp P Q a w:=
 wp_region_any hm (wpAny_G hgw E s M Pn hQ hQp hB h)
theorem wp_region (hgw:Gw.R w w) (s:List (Nat×Kd)) (M:Nat→Obj×(Nat→Value)) (hm:P.follows .mixedOrders=true) (hB:allR P .any l.toArray [] s=true)
 (h:wr P (fun _ _=>False) l.toArray w M (fun a fs=>∀ w',Gw.R w w'→Holds fs w'→wpList P l.toArray Q (l.drop s.length) a w') s a [] []):(Code.region id l.toArray true).wp P Q a w:=
 wp_regionG hgw [] s M _ (fun _ _ _ _ _ h=>h.elim) (fun h=>absurd rfl h) hm hB h
end
end Go.Proofs.YteomcpplajeidaaGreat.Rs

