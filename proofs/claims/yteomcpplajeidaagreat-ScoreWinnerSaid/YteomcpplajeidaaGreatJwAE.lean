/-
  Lemmas of this claim (JwAE). Nothing is asked.
-/
import Derived.Test.YteomcpplajeidaaGreatJwAD
import Derived.Test.YteomcpplajeidaaGreatJwR
import Derived.Laws.BytesArg
import Derived.Test.YteomcpplajeidaaGreatJwZ
set_option linter.unusedVariables false
set_option linter.unusedSimpArgs false
set_option maxRecDepth 100000
set_option maxHeartbeats 40000000
namespace Go.Proofs.YteomcpplajeidaaGreat
open Go.RowKit
abbrev speedB:ByteArray:=⟨#[115,112,101,101,100]⟩
abbrev weightB:ByteArray:=⟨#[119,101,105,103,104,116]⟩
def nmF (i:Nat):ByteArray:=if i=0 then speedB else if i=1 then comfB else weightB
theorem nmF_ok (i:Nat):NmOk (nmF i):=by
 unfold nmF
 split
 ·exact ⟨by decide +kernel,by decide +kernel,by decide +kernel,by decide +kernel⟩
 ·split
  ·exact ⟨by decide +kernel,by decide +kernel,by decide +kernel,by decide +kernel⟩
  ·exact ⟨by decide +kernel,by decide +kernel,by decide +kernel,by decide +kernel⟩
theorem nm_low:NmOk lowB:=⟨by decide +kernel,by decide +kernel,by decide +kernel,by decide +kernel⟩
theorem nm_price:NmOk priceB:=⟨by decide +kernel,by decide +kernel,by decide +kernel,by decide +kernel⟩
structure CrM (c:Cr):Prop where
 low:0≤c.low∧c.low≤1
 high:c.low≤c.high∧c.high≤4
 kind:c.kind=1∨c.kind=2
inductive SumE (cs:List Cr):Nat→Ex→Prop
 | one (t:Ex):OneE cs t→SumE cs 1 t
 | add (n i:Nat) (a t:Ex):SumE cs n a→OneE cs t→i=0∨i=1→SumE cs (n+1) (opE' (opNm i) a t)
abbrev loPr:Ex:=opE' quoB (nameE lowB) (nameE priceB)
def FoM (cs:List Cr) (f:Ex):Prop:=f=loPr∨∃ n,n≤4∧SumE cs n f
structure GdT (T:TP):Prop where
 ls:∀ j (h:j < T.ls.length),T.ls[j].1=(j:Int)+1∧0≤T.ls[j].2∧T.ls[j].2≤10
 ll:1≤T.ls.length∧T.ls.length≤3
 cs:∀ j (h:j < T.cs.length),T.cs[j].name=nmF j∧CrM T.cs[j]
 cl:T.cs.length≤3
 rs:∀ q∈T.rs,(∃ c∈T.cs,q.name=c.name)∧(q.rel=leB∨q.rel=geB)∧0≤q.value∧q.value≤3
 rl:T.rs.length≤3
 ts:∀ s∈T.ts,s=priceB∨∃ c∈T.cs,s=c.name
 tl:T.ts.length≤4
 f:FoM T.cs T.f
structure GdN (r:TnR):Prop where
 nm:r.nm=⟨#[116]⟩
 low:1≤r.low∧r.low≤3
 high:r.low < r.high∧r.high≤8
 budget:20≤r.budget∧r.budget≤219
 most:0≤r.most∧r.most≤2
 t0:0≤r.t0∧r.t0≤100
 t1:0≤r.t1∧r.t1≤100
 t2:0≤r.t2∧r.t2≤100
 t3:0≤r.t3∧r.t3≤100
 t4:0≤r.t4∧r.t4≤100
structure GdL (T:TP) (nl nc nr nt:Nat):Prop where
 ls:∀ j (h:j < T.ls.length),T.ls[j].1=(j:Int)+1∧0≤T.ls[j].2∧T.ls[j].2≤10
 ll:T.ls.length=nl
 cs:∀ j (h:j < T.cs.length),T.cs[j].name=nmF j∧CrM T.cs[j]
 cl:T.cs.length=nc
 rs:∀ q∈T.rs,(∃ c∈T.cs,q.name=c.name)∧(q.rel=leB∨q.rel=geB)∧0≤q.value∧q.value≤3
 rl:T.rs.length≤nr
 ts:∀ s∈T.ts,s=priceB∨∃ c∈T.cs,s=c.name
 tl:T.ts.length≤nt
section
variable {T:TP} {nl nc nr nt:Nat}
theorem GdL.pushL (h:GdL T nl nc nr nt) (q:Int×Int) (h1:q.1=(nl:Int)+1) (h2:0≤q.2∧q.2≤10):GdL { T with ls:=T.ls ++ [q] } (nl+1) nc nr nt where
 ls:=fun j hj=>by
  simp only [List.length_append,List.length_cons,List.length_nil] at hj
  rcases Nat.lt_or_ge j T.ls.length with e|e
  ·simp only [List.getElem_append_left e]
   exact h.ls j e
  ·obtain rfl:j=T.ls.length:=by omega
   simp only [List.getElem_concat_length]
   exact ⟨by rw [h1,h.ll],h2⟩
 ll:=by simp [h.ll]
 cs:=h.cs
 cl:=h.cl
 rs:=h.rs
 rl:=h.rl
 ts:=h.ts
 tl:=h.tl
theorem GdL.pushC (h:GdL T nl nc nr nt) (q:Cr) (h1:q.name=nmF nc) (h2:CrM q):GdL { T with cs:=T.cs ++ [q] } nl (nc+1) nr nt where
 ls:=h.ls
 ll:=h.ll
 cs:=fun j hj=>by
  simp only [List.length_append,List.length_cons,List.length_nil] at hj
  rcases Nat.lt_or_ge j T.cs.length with e|e
  ·simp only [List.getElem_append_left e]
   exact h.cs j e
  ·obtain rfl:j=T.cs.length:=by omega
   simp only [List.getElem_concat_length]
   exact ⟨by rw [h1,h.cl],h2⟩
 cl:=by simp [h.cl]
 rs:=fun x hx=>by
  obtain ⟨⟨c,hc,e⟩,h3⟩:=h.rs x hx
  exact ⟨⟨c,List.mem_append_left _ hc,e⟩,h3⟩
 rl:=h.rl
 ts:=fun x hx=>(h.ts x hx).imp id fun ⟨c,hc,e⟩=>⟨c,List.mem_append_left _ hc,e⟩
 tl:=h.tl
theorem GdL.pushR (h:GdL T nl nc nr nt) (q:Rq) (h1:∃ c∈T.cs,q.name=c.name) (h2:q.rel=leB∨q.rel=geB) (h3:0≤q.value∧q.value≤3):GdL { T with rs:=T.rs ++ [q] } nl nc (nr+1) nt where
 ls:=h.ls
 ll:=h.ll
 cs:=h.cs
 cl:=h.cl
 rs:=fun x hx=>by
  rcases List.mem_append.1 hx with hx|hx
  ·exact h.rs x hx
  ·rw [List.mem_singleton] at hx
   subst hx
   exact ⟨h1,h2,h3⟩
 rl:=by have:=h.rl;simp;omega
 ts:=h.ts
 tl:=h.tl
theorem GdL.pushT (h:GdL T nl nc nr nt) (s:ByteArray) (h1:s=priceB∨∃ c∈T.cs,s=c.name):GdL { T with ts:=T.ts ++ [s] } nl nc nr (nt+1) where
 ls:=h.ls
 ll:=h.ll
 cs:=h.cs
 cl:=h.cl
 rs:=h.rs
 rl:=h.rl
 ts:=fun x hx=>by
  rcases List.mem_append.1 hx with hx|hx
  ·exact h.ts x hx
  ·rw [List.mem_singleton] at hx
   subst hx
   exact h1
 tl:=by have:=h.tl;simp;omega
theorem GdL.nil (f:Ex):GdL ⟨[],[],[],[],f⟩ 0 0 0 0:=⟨fun j hj=>absurd hj (Nat.not_lt_zero j),rfl,fun j hj=>absurd hj (Nat.not_lt_zero j),rfl,fun q hq=>(by cases hq),Nat.le_refl _,fun s hs=>(by cases hs),Nat.le_refl _⟩
theorem GdL.up (h:GdL T nl nc nr nt) {nr' nt':Nat} (h1:nr≤nr') (h2:nt≤nt'):GdL T nl nc nr' nt':={ h with rl:=Nat.le_trans h.rl h1,tl:=Nat.le_trans h.tl h2 }
end
theorem WeE.ge {t:Ex} (h:WeE t):GE t∧t.parts=1∧t.depth=1:=by
 obtain ⟨n,d,rfl,h2,-,-⟩:=h.ex
 exact ⟨.num n d h2,by simp [Ex.parts,Ex.partsL],by simp [Ex.depth,Ex.depthL]⟩
theorem nm_ge (s:ByteArray) (h:NmOk s):GE (nameE s)∧(nameE s).parts=1∧(nameE s).depth=1:=⟨.name s h,by simp [Ex.parts,Ex.partsL],by simp [Ex.depth,Ex.depthL]⟩
theorem op_ge (i:Nat) (hi:i < 6) {a b:Ex} {m n p q:Nat} (ha:GE a∧a.parts≤m∧a.depth≤p) (hb:GE b∧b.parts≤n∧b.depth≤q):GE (opE' (opNm i) a b)∧(opE' (opNm i) a b).parts≤1+(m+n)∧(opE' (opNm i) a b).depth≤1+max p q:=by
 obtain ⟨h1,h2,h3⟩:=ha
 obtain ⟨k1,k2,k3⟩:=hb
 refine ⟨.op i hi a b h1 k1,?_,?_⟩
 ·simp only [Ex.parts,Ex.partsL];omega
 ·simp only [Ex.depth,Ex.depthL];omega
theorem ge_le {t:Ex} {m p:Nat} (h:GE t∧t.parts=m∧t.depth=p):GE t∧t.parts≤m∧t.depth≤p:=⟨h.1,Nat.le_of_eq h.2.1,Nat.le_of_eq h.2.2⟩
theorem ge_up {t:Ex} {m p m' p':Nat} (h:GE t∧t.parts≤m∧t.depth≤p) (hm:m≤m') (hp:p≤p'):GE t∧t.parts≤m'∧t.depth≤p':=⟨h.1,Nat.le_trans h.2.1 hm,Nat.le_trans h.2.2 hp⟩
theorem one_num:NuOk 1 1:=⟨by decide,by decide,.inl rfl,by decide +kernel⟩
theorem OneE.ge {cs:List Cr} {t:Ex} (hc:∀ c∈cs,NmOk c.name) (h:OneE cs t):GE t∧t.parts≤9∧t.depth≤5:=by
 have N:=fun s (hs:NmOk s)=>ge_le (nm_ge s hs)
 have O:GE (numE (1,1))∧(numE (1,1)).parts≤1∧(numE (1,1)).depth≤1:=⟨.num 1 1 one_num,by decide,by decide⟩
 cases h with
 | a w hw=>exact ge_up (op_ge 2 (by decide) (ge_le hw.ge) (op_ge 3 (by decide) (N _ nm_low) (N _ nm_price))) (by decide) (by decide)
 | b w hw=>exact ge_up (op_ge 3 (by decide) (op_ge 1 (by decide) O (op_ge 3 (by decide) (N _ nm_price) (op_ge 0 (by decide) (N _ nm_price) (N _ nm_low)))) (ge_le hw.ge)) (by decide) (by decide)
 | c w hw=>exact ge_up (ge_le hw.ge) (by decide) (by decide)
 | d w c hw h1=>exact ge_up (op_ge 2 (by decide) (ge_le hw.ge) (N _ (hc c h1))) (by decide) (by decide)
 | e w c i hw h1 hi=>exact ge_up (op_ge i (by omega) (N _ (hc c h1)) (ge_le hw.ge)) (by decide) (by decide)
 | f c d h1 h2=>exact ge_up (op_ge 2 (by decide) (N _ (hc c h1)) (N _ (hc d h2))) (by decide) (by decide)
 | g w c d hw h1 h2=>exact ge_up (op_ge 3 (by decide) (N _ (hc c h1)) (op_ge 0 (by decide) (ge_le hw.ge) (N _ (hc d h2)))) (by decide) (by decide)
theorem SumE.ge {cs:List Cr} (hc:∀ c∈cs,NmOk c.name) {n:Nat} {t:Ex} (h:SumE cs n t):1≤n∧GE t∧t.parts≤10 * n∧t.depth≤4+n:=by
 induction h with
 | one t h=>exact ⟨Nat.le_refl _,ge_up (h.ge hc) (by decide) (by decide)⟩
 | add n i a t ha h hi ih=>exact ⟨by omega,ge_up (op_ge i (by omega) ih.2 (h.ge hc)) (by omega) (by omega)⟩
theorem loPr_ge:GE loPr∧loPr.parts≤60∧loPr.depth≤12:=ge_up (op_ge 3 (by decide) (ge_le (nm_ge _ nm_low)) (ge_le (nm_ge _ nm_price))) (by decide) (by decide)
theorem FoM.ge {cs:List Cr} (hc:∀ c∈cs,NmOk c.name) {f:Ex} (h:FoM cs f):GE f∧f.parts≤60∧f.depth≤12:=by
 rcases h with rfl|⟨n,hn,h⟩
 ·exact loPr_ge
 ·exact ge_up (h.ge hc).2 (by omega) (by omega)
theorem GdT.names {T:TP} (h:GdT T):∀ c∈T.cs,NmOk c.name∧CrM c:=fun c hc=>by
 obtain ⟨j,hj,rfl⟩:=List.getElem_of_mem hc
 obtain ⟨h1,h2⟩:=h.cs j hj
 exact ⟨h1 ▸ nmF_ok j,h2⟩
structure GS (W:World) (D bn:Nat) (v:Value) (ns:List Int) (w:World) (pos nl nc nr nt:Nat) (r:TnR) (T:TP):Prop where
 g:GT W D bn v ns w pos r T
 l:GdL T nl nc nr nt
 n:GdN r
 k:r.ks=(none,0,0)
 tz:nt=0→r.ts=(none,0,0)
section
variable {W w w':World} {D bn:Nat} {v:Value} {ns:List Int} {pos pos' nl nc nr nt:Nat} {r:TnR} {T:TP}
theorem GS.kx (h:GS W D bn v ns w pos nl nc nr nt r T) (hm:MX W w' bn v ns pos') (k:KX bn w w'):GS W D bn v ns w' pos' nl nc nr nt r T:=⟨h.g.kx hm k,h.l,h.n,h.k,h.tz⟩
theorem GS.ext (h:GS W D bn v ns w pos nl nc nr nt r T) (x:Ext w w'):GS W D bn v ns w' pos nl nc nr nt r T:=⟨h.g.ext x,h.l,h.n,h.k,h.tz⟩
theorem GS.up (h:GS W D bn v ns w pos nl nc nr nt r T) {nr' nt':Nat} (h1:nr≤nr') (h2:nt≤nt'):GS W D bn v ns w pos nl nc nr' nt' r T:=⟨h.g,h.l.up h1 h2,h.n,h.k,fun e=>h.tz (by omega)⟩
theorem GS.pushL (h:GS W D bn v ns w pos nl nc nr nt r T) {x:Sl} {q:Int×Int} (hg:w.grownBy w' (slV r.ls).ownBlock) (hr:w'.ownsRow W.heap.size 72 2 (slV x) (T.ls ++ [q]).length ((T.ls ++ [q]).flatMap cellsLot)) (h1:q.1=(nl:Int)+1) (h2:0≤q.2∧q.2≤10) :
 GS W D bn v ns (w'.setCell ⟨D,1,none⟩ (slV x)) pos (nl+1) nc nr nt { r with ls:=x } { T with ls:=T.ls ++ [q] }:=
 ⟨h.g.pushL hg hr,h.l.pushL q h1 h2,⟨h.n.nm,h.n.low,h.n.high,h.n.budget,h.n.most,h.n.t0,h.n.t1,h.n.t2,h.n.t3,h.n.t4⟩,h.k,h.tz⟩
theorem GS.pushC (h:GS W D bn v ns w pos nl nc nr nt r T) {x:Sl} {q:Cr} (hg:w.grownBy w' (slV r.cs).ownBlock) (hr:w'.ownsRow W.heap.size 78 5 (slV x) (T.cs ++ [q]).length ((T.cs ++ [q]).flatMap cellsCr)) (h1:q.name=nmF nc) (h2:CrM q) :
 GS W D bn v ns (w'.setCell ⟨D,2,none⟩ (slV x)) pos nl (nc+1) nr nt { r with cs:=x } { T with cs:=T.cs ++ [q] }:=
 ⟨h.g.pushC hg hr,h.l.pushC q h1 h2,⟨h.n.nm,h.n.low,h.n.high,h.n.budget,h.n.most,h.n.t0,h.n.t1,h.n.t2,h.n.t3,h.n.t4⟩,h.k,h.tz⟩
theorem GS.pushR (h:GS W D bn v ns w pos nl nc nr nt r T) {x:Sl} {q:Rq} (hg:w.grownBy w' (slV r.rs).ownBlock) (hr:w'.ownsRow W.heap.size 88 3 (slV x) (T.rs ++ [q]).length ((T.rs ++ [q]).flatMap cellsRq)) (h1:∃ c∈T.cs,q.name=c.name) (h2:q.rel=leB∨q.rel=geB) (h3:0≤q.value∧q.value≤3) :
 GS W D bn v ns (w'.setCell ⟨D,3,none⟩ (slV x)) pos nl nc (nr+1) nt { r with rs:=x } { T with rs:=T.rs ++ [q] }:=
 ⟨h.g.pushR hg hr,h.l.pushR q h1 h2 h3,⟨h.n.nm,h.n.low,h.n.high,h.n.budget,h.n.most,h.n.t0,h.n.t1,h.n.t2,h.n.t3,h.n.t4⟩,h.k,h.tz⟩
theorem GS.pushT (h:GS W D bn v ns w pos nl nc nr nt r T) {x:Sl} {q:ByteArray} (hg:w.grownBy w' (slV r.ts).ownBlock) (hr:w'.ownsRow W.heap.size 9 1 (slV x) (T.ts ++ [q]).length ((T.ts ++ [q]).flatMap strC)) (h1:q=priceB∨∃ c∈T.cs,q=c.name) :
 GS W D bn v ns (w'.setCell ⟨D,11,none⟩ (slV x)) pos nl nc nr (nt+1) { r with ts:=x } { T with ts:=T.ts ++ [q] }:=
 ⟨h.g.pushT hg hr,h.l.pushT q h1,⟨h.n.nm,h.n.low,h.n.high,h.n.budget,h.n.most,h.n.t0,h.n.t1,h.n.t2,h.n.t3,h.n.t4⟩,h.k,fun e=>absurd e (Nat.succ_ne_zero _)⟩
end
def AF (W:World) (D bn lim b:Nat):Prop:=(W.heap.size < b∧b≠D∧b≠bn)∧b < lim
abbrev foV (r:TnR):Value:=.agg #[.string r.fo,iV r.f1,iV r.f2,.string r.fn,slV r.fa]
abbrev nmC:Array Value:=#[.string speedB,.string comfB,.string weightB]
theorem Rd.put {S:Nat→Prop} {w:World} {t:Ex} {v:Value} (h:Rd S w t v) {D j:Nat} {x:Value} (hS:∀ b,S b→b≠D):Rd S (w.setCell ⟨D,j,none⟩ x) t v:=
 Rd.frame (fun b o hb _=>World.cell?_of_block (heap_setCell_other _ ⟨D,j,none⟩ _ _ (hS b hb))) (fun _ h=>h) t v h
theorem Rd.grown {S:Nat→Prop} {w w':World} {o:Option Nat} {t:Ex} {v:Value} (h:Rd S w t v) (hg:w.grownBy w' o) (hS:∀ b,o=some b→¬ S b):Rd S w' t v:=
 Rd.frame (fun b _ hb hl=>World.cell?_of_block (hg.block b hl (fun e=>hS b e.symm hb))) (fun _ h=>h) t v h
structure TS (W:World) (D bn lim pn:Nat) (w:World) (r:TnR) (f:Ex):Prop where
 fo:Rd (AF W D bn lim) w f (foV r)
 nm:w.heap[pn]? = some (.cells nmC 9)
 pl:pn < lim
 own:∀ b,(slV r.ts).ownBlock=some b→lim≤b
section
variable {W w w':World} {D bn lim pn:Nat} {v:Value} {ns:List Int} {pos pos' nl nc nr nt:Nat} {r r':TnR} {T:TP} {f:Ex}
theorem TS.kx (h:TS W D bn lim pn w r f) (hm:MX W w bn v ns pos) (k:KX bn w w'):TS W D bn lim pn w' r f:=
 ⟨h.fo.kx k (fun b hb=>hb.1.2.2),k.at h.nm (obj_ne h.nm hm.at_ (by decide)),h.pl,h.own⟩
theorem TS.pushT (h:TS W D bn lim pn w r f) (hD:w.heap[D]? = some (.cells (tenC r) 39)) (hg:w.grownBy w' (slV r.ts).ownBlock) {g n c:Nat} (hl:lim≤w.heap.size) (hat:(slV r.ts).ownBlock=some g∨g=w.heap.size) :
 TS W D bn lim pn (w'.setCell ⟨D,11,none⟩ (.slice (some ⟨g,0,none⟩) n c)) { r with ts:=(some ⟨g,0,none⟩,n,c) } f:=
 ⟨(h.fo.grown hg (fun b e hb=>Nat.lt_irrefl _ (Nat.lt_of_lt_of_le hb.2 (h.own b e)))).put (fun b hb=>hb.1.2.1),
  (heap_setCell_other _ ⟨D,11,none⟩ _ _ (obj_ne h.nm hD (by decide))).trans ((hg.block pn (zL h.nm) (fun e=>Nat.lt_irrefl _ (Nat.lt_of_lt_of_le h.pl (h.own pn e.symm)))).trans h.nm),h.pl,fun b e=>by
   injection e with e
   subst e
   rcases hat with e|rfl
   ·exact h.own _ e
   ·exact hl⟩
def KB (w:World) (r:TnR) (kk:List Sl):Prop:=
 (r.ks=(none,0,0)∧kk=[])∨∃ q1 q2,r.ks=(some ⟨q2,0,none⟩,1,1)∧w.heap[q1]? = some (.cells #[iV 1,iV 2] 3)∧w.heap[q2]? = some (.cells #[.slice (some ⟨q1,0,none⟩) 2 2] 22)∧kk=[(some ⟨q1,0,none⟩,2,2)]
theorem KB.move {kk:List Sl} (h:KB w r kk) (hr:r'.ks=r.ks) (hw:∀ (b:Nat) (cs:Array Value) (t:TypeId),w.heap[b]? = some (.cells cs t)→t=3∨t=22→w'.heap[b]? = some (.cells cs t)):KB w' r' kk:=
 h.imp (fun ⟨h1,h2⟩=>⟨hr.trans h1,h2⟩) fun ⟨q1,q2,h1,h2,h3,h4⟩=>⟨q1,q2,hr.trans h1,hw _ _ _ h2 (.inl rfl),hw _ _ _ h3 (.inr rfl),h4⟩
structure GZ (W:World) (D bn lim:Nat) (v:Value) (ns:List Int) (w:World) (pos nl nc nr nt:Nat) (r:TnR) (T:TP) (f:Ex) (kk:List Sl):Prop where
 g:GT W D bn v ns w pos r T
 l:GdL T nl nc nr nt
 n:GdN r
 fo:Rd (AF W D bn lim) w f (foV r)
 kb:KB w r kk
theorem GZ.kx {kk:List Sl} (h:GZ W D bn lim v ns w pos nl nc nr nt r T f kk) (hm:MX W w' bn v ns pos') (k:KX bn w w'):GZ W D bn lim v ns w' pos' nl nc nr nt r T f kk:=
 ⟨h.g.kx hm k,h.l,h.n,h.fo.kx k (fun b hb=>hb.1.2.2),h.kb.move rfl fun b cs t hb ht=>k.at hb (obj_ne hb h.g.mx.at_ (by rcases ht with rfl|rfl <;> decide))⟩
theorem GZ.ext {kk:List Sl} (h:GZ W D bn lim v ns w pos nl nc nr nt r T f kk) (x:Ext w w'):GZ W D bn lim v ns w' pos nl nc nr nt r T f kk:=h.kx (h.g.mx.ext x) (KX.of_ext x)
theorem GZ.set {kk:List Sl} (h:GZ W D bn lim v ns w pos nl nc nr nt r T f kk) (j:Nat) (x:Value) (he:tenC r' = (tenC r).setIfInBounds j x) (h1:r'.ls=r.ls) (h2:r'.cs=r.cs) (h3:r'.rs=r.rs) (h4:r'.ts=r.ts) (hf:foV r' = foV r) (hk:r'.ks=r.ks) (hn:GdN r') :
 GZ W D bn lim v ns (w.setCell ⟨D,j,none⟩ x) pos nl nc nr nt r' T f kk:=
 ⟨h.g.set j x he h1 h2 h3 h4,h.l,hn,hf ▸ h.fo.put (fun b hb=>hb.1.2.1),h.kb.move hk fun b cs t hb ht=>(heap_setCell_other _ ⟨D,j,none⟩ _ _ (obj_ne hb h.g.at_ (by rcases ht with rfl|rfl <;> decide))).trans hb⟩
theorem GdL.gd (h:GdL T nl nc nr nt) (h1:1≤nl) (h2:nl≤3) (h3:nc≤3) (h4:nr≤3) (h5:nt≤4) (hf:FoM T.cs f):GdT { T with f:=f } where
 ls:=h.ls
 ll:=⟨by have:=h.ll;simp only;omega,by have:=h.ll;simp only;omega⟩
 cs:=h.cs
 cl:=by have:=h.cl;simp only;omega
 rs:=h.rs
 rl:=Nat.le_trans h.rl h4
 ts:=h.ts
 tl:=Nat.le_trans h.tl h5
 f:=hf
end
theorem sound_num (n d:Int) (h:NuOk n d) (w:World) (v:Value) (hv:Rd All w (numE (n,d)) v):Calls Tryz.prog 147 #[v] w fun e w'=>e=.returned (.bool true)∧Ext w w':=by
 obtain ⟨base,cap,rfl⟩:=leaf_shape hv
 have HF:=zH (fun wz (hz:Ext w wz)=>fits_num n d h wz _ (hv.ext hz))
 clear hv h
 go_in
 go_upto_region 3 with (go_at_call 186;(refine (HF.out _ xt).mono ?_);rintro e w1 ⟨rfl,hb⟩;obtain ⟨hc,hf⟩:=hb.cells;have hz:=hb.size;simp at hz;have HX1:=zH (show Ext w w1 from xt);clear hb)
 go_loopw [3,4] (fun bv iv wr=>bv=.bool true∧iv=iV 0∧w1=wr) (fun _ _ _=>0)
 case atStart=>exact ⟨rfl,rfl,rfl⟩
 case round=>
  obtain ⟨rfl,rfl,rfl⟩:=hrel
  go_wp2
  go_ret
  exact ⟨rfl,HX1.out⟩
theorem sound_name (s:ByteArray) (h:NmOk s) (w:World) (v:Value) (hv:Rd All w (nameE s) v):Calls Tryz.prog 147 #[v] w fun e w'=>e=.returned (.bool true)∧Ext w w':=by
 obtain ⟨base,cap,rfl⟩:=leaf_shape hv
 have HF:=zH (fun wz (hz:Ext w wz)=>fits_name s h wz _ (hv.ext hz))
 clear hv h
 go_in
 go_upto_region 3 with (go_at_call 186;(refine (HF.out _ xt).mono ?_);rintro e w1 ⟨rfl,hb⟩;obtain ⟨hc,hf⟩:=hb.cells;have hz:=hb.size;simp at hz;have HX1:=zH (show Ext w w1 from xt);clear hb)
 go_loopw [3,4] (fun bv iv wr=>bv=.bool true∧iv=iV 0∧w1=wr) (fun _ _ _=>0)
 case atStart=>exact ⟨rfl,rfl,rfl⟩
 case round=>
  obtain ⟨rfl,rfl,rfl⟩:=hrel
  go_wp2
  go_ret
  exact ⟨rfl,HX1.out⟩
theorem sound_op (i:Nat) (hi:i < 6) (a b:Ex) (ha:∀ w v,Rd All w a v→Calls Tryz.prog 147 #[v] w fun e w'=>e=.returned (.bool true)∧Ext w w') (hb:∀ w v,Rd All w b v→Calls Tryz.prog 147 #[v] w fun e w'=>e=.returned (.bool true)∧Ext w w') (w:World) (v:Value) (hv:Rd All w (opE' (opNm i) a b) v):Calls Tryz.prog 147 #[v] w fun e w'=>e=.returned (.bool true)∧Ext w w':=by
 obtain ⟨bl,cap,oa,a1,a2,na,ba,la,ca,ob,b1,b2,nb,bb,lb,cb,rfl,ho⟩:=op_shape hv
 have HF:=zH (fun wz (hz:Ext w wz)=>fits_op i hi a b wz _ (hv.ext hz))
 have HO:=zH ho
 have HA:=zH (fun wz (hz:Ext w wz)=>ha wz _ (ho.ext hz).ra)
 have HB:=zH (fun wz (hz:Ext w wz)=>hb wz _ (ho.ext hz).rb)
 generalize opNm i=s at *
 clear hv ho ha hb hi
 obtain ⟨W,hW⟩:∃ W,W=(w.alloc (.cells #[.string s,iV 0,iV 0,.string nilB,.slice (some ⟨bl,0,none⟩) 2 cap] 33)):=⟨_,rfl⟩
 have hxW:Ext w W:=by rw [hW];exact Ext.alloc (Ext.refl _) _
 have hw1:W.heap[w.heap.size]? = some (.cells #[.string s,iV 0,iV 0,.string nilB,.slice (some ⟨bl,0,none⟩) 2 cap] 33):=by rw [hW];exact block_new rfl
 have HXW:=zH hxW;have HW1:=zH hw1
 go_in
 go_upto_region 1 with (fail)
 rw [← hW]
 clear hW hxW hw1
 obtain ⟨p,hp⟩:∃ p,p=w.heap.size:=⟨_,rfl⟩
 rw [← hp] at HW1 ⊢
 clear hp
 obtain ⟨e0,e1,e2,e3,e4,hlp⟩:=zC5 HW1.out
 go_upto_region 3 with (go_at_call 186;(refine (HF.out _ HXW.out).mono ?_);rintro e w1 ⟨rfl,hx⟩;have HX1:=zH hx;clear hx)
 go_loopw [3,4] (fun bv iv wr=>bv=.bool true∧∃ k:Nat,k≤2∧iv=iV k∧Hid (Ext W wr)) (fun _ iv _=>2 - (iof iv).toNat)
 case atStart=>exact ⟨rfl,0,by decide,rfl,HX1⟩
 case round=>
  obtain ⟨rfl,k,hk,rfl,HX⟩:=hrel
  have HXr:=zH (HXW.out.trans HX.out)
  have x4:=(HX.out.cells.1 _ _ hlp).trans e4
  have lp:=Nat.lt_of_lt_of_le hlp HX.out.size
  obtain ⟨-,-,lb',k0,k1,k2,k3,k4,k5,k6,k7,k8,k9⟩:=HO.out.ext HXr.out
  clear e0 e1 e2 e3 e4
  rcases (show k=0∨k=1∨k=2 by omega) with rfl|rfl|rfl
  ·go_wp2_with (go_at_call 147;(refine (HA.out _ HXr.out).mono ?_);rintro e w3 ⟨rfl,hx3⟩;have HX3:=zH (HX.out.trans hx3);clear hx3)
   go_roundw
   case rel=>exact ⟨rfl,1,by decide,rfl,HX3⟩
   case measure=>decide
  ·go_wp2_with (go_at_call 147;(refine (HB.out _ HXr.out).mono ?_);rintro e w3 ⟨rfl,hx3⟩;have HX3:=zH (HX.out.trans hx3);clear hx3)
   go_roundw
   case rel=>exact ⟨rfl,2,by decide,rfl,HX3⟩
   case measure=>decide
  ·go_wp2
   go_ret
   exact ⟨rfl,HXr.out⟩
theorem sound_any {t:Ex} (h:GE t):∀ (w:World) (v:Value),Rd All w t v→Calls Tryz.prog 147 #[v] w fun e w'=>e=.returned (.bool true)∧Ext w w':=by
 induction h with
 | num n d h=>exact sound_num n d h
 | name s h=>exact sound_name s h
 | op i hi a b _ _ iha ihb=>exact sound_op i hi a b iha ihb
theorem rightF_any {t:Ex} (h:GE t) (hp:t.parts≤60) (hd:t.depth≤12) (w:World) (v:Value) (hv:Rd All w t v):Calls Tryz.prog 94 #[v] w fun e w'=>e=.returned (.bool true)∧Ext w w':=by
 have HS:=zH (fun wz (hz:Ext w wz)=>sound_any h wz _ (hv.ext hz))
 have HP:=zH (fun wz (hz:Ext w wz)=>pparts_any t.depth t (Nat.le_refl _) (by omega) wz _ (hv.ext hz))
 have HD:=zH (fun wz (hz:Ext w wz)=>pdepth_any t.depth t (Nat.le_refl _) (by omega) wz _ (hv.ext hz))
 obtain ⟨op,n1,n2,nm,base,len,cap,rfl⟩:=hv.form
 clear hv h
 have hpi:(t.parts:Int)≤60:=by omega
 have hdi:(t.depth:Int)≤12:=by omega
 generalize t.parts=np at *
 generalize t.depth=nd at *
 obtain ⟨W,hW⟩:∃ W,W=(w.alloc (.cells #[.string op,iV n1,iV n2,.string nm,.slice base len cap] 33)):=⟨_,rfl⟩
 have hxW:Ext w W:=by rw [hW];exact Ext.alloc (Ext.refl _) _
 have hw1:W.heap[w.heap.size]? = some (.cells #[.string op,iV n1,iV n2,.string nm,.slice base len cap] 33):=by rw [hW];exact block_new rfl
 have HXW:=zH hxW;have HW1:=zH hw1
 have HC:Hid (∀ wz,Ext W wz→wz.heap[w.heap.size]? = some (.cells #[.string op,iV n1,iV n2,.string nm,.slice base len cap] 33)):=zH (fun wz hz=>(hz.block _ (zL hw1)).trans hw1)
 go_in
 go_upto_region 1 with (fail)
 rw [← hW]
 clear hW hxW hw1
 obtain ⟨p,hpe⟩:∃ p,p=w.heap.size:=⟨_,rfl⟩
 rw [← hpe] at HW1 HC ⊢
 clear hpe
 obtain ⟨e0,e1,e2,e3,e4,hlp⟩:=zC5 (HC.out W (Ext.refl _))
 go_upto_region 2 with (go_at_call 147;(refine (HS.out _ HXW.out).mono ?_);rintro e w1 ⟨rfl,hx⟩;have HX1:=zH hx;clear hx)
 clear e0 e1 e2 e3 e4 hlp
 obtain ⟨e0,e1,e2,e3,e4,hlp⟩:=zC5 (HC.out w1 HX1.out)
 go_wp2_with (first
  |(go_at_call 148;(with_reducible refine (HP.out _ (HXW.out.trans HX1.out)).mono ?_);rintro e w2 ⟨rfl,hx⟩;have HX2:=zH (HX1.out.trans hx);clear hx e0 e1 e2 e3 e4 hlp
    obtain ⟨e0,e1,e2,e3,e4,hlp⟩:=zC5 (HC.out w2 HX2.out)
    skip)
  |(go_at_call 149;(with_reducible refine (HD.out _ (HXW.out.trans HX2.out)).mono ?_);rintro e w3 ⟨rfl,hx⟩;have HX3:=zH (HX2.out.trans hx);clear hx))
 go_ret
 exact ⟨rfl,HXW.out.trans HX3.out⟩
def StB (m:Nat) (w:World) (e:Ending) (w':World):Prop:=∃ s:ByteArray,e=.returned (.string s)∧s.size≤m∧Ext w w'
theorem StB.up {m m':Nat} {w w':World} {e:Ending} (h:StB m w e w') (hm:m≤m'):StB m' w e w':=by
 obtain ⟨s,h1,h2,h3⟩:=h
 exact ⟨s,h1,Nat.le_trans h2 hm,h3⟩
theorem conv_one (w:World) (z:Int) (hz:0≤z∧z≤255) (b:Nat) (h:w.cell? ⟨b,0,none⟩=some (.int .u8 z)) :
 (convert 252 9 (.slice (some ⟨b,0,none⟩) 1 1)).run Tryz.prog w=.ok (.string ⟨#[UInt8.ofNat z.toNat]⟩) w:=by
 have:=run_convert_bytes_arg (P:=Tryz.prog) w 252 5 Tryz.underlying252 Tryz.underlying5 b 0 1 1 [z] rfl (fun i hi=>by
  obtain rfl:i=0:=by omega
  exact h) 9 Tryz.underlying9
 rw [this]
 rfl
theorem sz_app (s t:ByteArray):(s ++ t).size=s.size+t.size:=by simp
theorem dec_one (n:Int) (h:0≤n∧n < 10) (w:World):Calls Tryz.prog 207 #[iV n] w (StB 1 w):=by
 obtain ⟨h0,h1⟩:=h
 have hneg:¬ n < 0:=by omega
 have hw1:=wz (48+n) (by omega)
 have hw2:IntKind.u8.wrap (48+n)=48+n:=by simp [IntKind.wrap,IntKind.signed,IntKind.bits];omega
 have hcv:=conv_one (w.alloc (.cells #[.int .u8 (48+n)] 5)) (48+n) (by omega) w.heap.size (by rw [cell_of_row _ _ _ _ _ _ (heap_alloc_new w _)];rfl)
 go_in
 go_wp2
 go_ret
 exact ⟨_,rfl,by simp [ByteArray.size],xt⟩
theorem dec_any:∀ (k:Nat) (_:k≤30) (n:Int) (_:0≤n∧n < (10 ^ (k+1):Nat)) (_:n≤9223372036854775807) (w:World),Calls Tryz.prog 207 #[iV n] w (StB (k+1) w)
 | 0,_,n,h,_,w=>dec_one n (by simpa using h) w
 | k+1,hk,n,h,hm,w=>by
  obtain ⟨h0,h1⟩:=h
  by_cases h10:n < 10
  ·exact (dec_one n ⟨h0,h10⟩ w).mono fun _ _ h=>h.up (by omega)
  ·have hneg:¬ n < 0:=by omega
   have hq:n.tdiv 10=n / 10:=Int.tdiv_eq_ediv_of_nonneg h0
   have hr:n.tmod 10=n % 10:=Int.tmod_eq_emod_of_nonneg h0
   have hlt:n / 10 < (10 ^ (k+1):Nat):=by
    rw [Nat.pow_succ] at h1
    omega
   have HQ:=zH (dec_any k (by omega) (n / 10) ⟨by omega,hlt⟩ (by omega))
   have HR:=zH (dec_one (n % 10) (by omega))
   have hw1:=wz (n / 10) (by omega)
   have hw2:=wz (n % 10) (by omega)
   clear hlt h1
   go_in
   go_upto_region 5 with (fail)
   go_wp2_with (go_at_call 207;first
    |((with_reducible refine (HQ.out w).mono ?_);rintro e w1 ⟨s1,rfl,hs1,hx⟩;have HX1:=zH hx;clear hx)
    |((with_reducible refine (HR.out w1).mono ?_);rintro e w2 ⟨s2,rfl,hs2,hx⟩;have HX2:=zH (HX1.out.trans hx);clear hx;have hss:s1.size+s2.size≤9223372036854775807:=by omega))
   go_ret
   exact ⟨_,rfl,by rw [sz_app];omega,HX2.out⟩
theorem dec_nat (n:Int) (h:0≤n∧n≤1000000000) (w:World):Calls Tryz.prog 207 #[iV n] w (StB 10 w):=
 dec_any 9 (by decide) n ⟨h.1,by have:=h.2;rw [show ((10 ^ (9+1):Nat):Int)=10000000000 by decide];omega⟩ (by omega) w
theorem right_one (n:Int):rightB n 1=true:=(rightB_iff _ _).2 ⟨by decide,by simp⟩
theorem text_nat (n:Int) (h:0≤n∧n≤1000000000) (w:World):Calls Tryz.prog 187 #[.agg #[iV n,iV 1]] w (StB 10 w):=by
 have HR:=zH (fun wz=>rRight_any n 1 (by omega) (by omega) (by decide) (by decide) wz)
 rw [right_one] at HR
 have HD:=zH (fun wz=>dec_nat n h wz)
 clear h
 go_in
 go_wp2_with (first
  |(go_at_call 128;(with_reducible refine (HR.out _).mono ?_);rintro e w1 ⟨rfl,hb⟩;obtain ⟨hc,hf⟩:=hb.cells;have hz:=hb.size;simp at hz)
  |(go_at_call 207;(with_reducible refine (HD.out _).mono ?_);rintro e w2 ⟨s1,rfl,hs1,hx⟩))
 go_ret
 exact ⟨_,rfl,hs1,xt⟩
theorem numb_any (n:Int) (h:0≤n∧n≤1000000000) (w:World):Calls Tryz.prog 151 #[iV n] w (StB 10 w):=by
 have HD:=zH (fun wz=>text_nat n h wz)
 clear h
 go_in
 go_wp2_with (go_at_call 187;(refine (HD.out _).mono ?_);rintro e w2 ⟨s1,rfl,hs1,hx⟩)
 go_ret
 exact ⟨_,rfl,hs1,xt⟩
def dgL (d r:Int):Nat:=if r=0 then 0 else if 10 * r % d=0 then 1 else 2
theorem dgL_step (d r:Int) (hd:d=1∨d=2∨d=4∨d=5∨d=10) (hr:0≤r∧r < d) (h0:r≠0) (h:100 * r % d=0):dgL d (10 * r % d)+1=dgL d r∧100 * (10 * r % d) % d=0:=by
 have hc:r=1∨r=2∨r=3∨r=4∨r=5∨r=6∨r=7∨r=8∨r=9:=by omega
 rcases hd with rfl|rfl|rfl|rfl|rfl <;> rcases hc with rfl|rfl|rfl|rfl|rfl|rfl|rfl|rfl|rfl <;> first|(exfalso;omega)|decide
theorem decF_any (n d:Int) (h:NuOk n d) (w:World):Calls Tryz.prog 188 #[.agg #[iV n,iV d]] w (StB 40 w):=by
 have hn0:=h.n0
 have hn1:=h.n1
 have hd0:0 < d∧d≤10:=by have:=h.dd;omega
 have hdd:=h.dd
 have hq:n.tdiv d=n / d:=Int.tdiv_eq_ediv_of_nonneg hn0
 have hr:n.tmod d=n % d:=Int.tmod_eq_emod_of_nonneg hn0
 have hq1:0≤n / d∧n / d≤1000:=⟨Int.ediv_nonneg hn0 (by omega),by have:=Int.ediv_le_self d hn0;omega⟩
 have hr1:0≤n % d∧n % d < d:=⟨Int.emod_nonneg _ (by omega),Int.emod_lt_of_pos _ hd0.1⟩
 have HQ:=zH (fun wz=>numb_any (n / d) (by omega) wz)
 have HD:=zH (fun (r:Int) (hr:0≤r∧r < d) wz=>numb_any (10 * r / d) (by
  refine ⟨Int.ediv_nonneg (by omega) (by omega),?_⟩
  have:=Int.ediv_le_self d (show 0≤10 * r by omega)
  omega) wz)
 have hwq:=wz (n / d) (by omega)
 have hwr:=wz (n % d) (by omega)
 have hdz:¬ d=0:=by omega
 generalize n / d=q at *
 have HR0:=zH (show ((100:Int) * (n % d)) % d=0 by
  rcases hdd with rfl|rfl|rfl|rfl|rfl <;> omega)
 have HDD:=zH hdd
 generalize n % d=r at *
 have hdi:d≤9223372036854775807:=by omega
 clear h hn1 hq1 hdd
 have hb:=heap_alloc_new w (.cells #[iV n,iV d] 30)
 have HXW:=zH (Ext.alloc (Ext.refl w) (.cells #[iV n,iV d] 30))
 obtain ⟨W,hW⟩:∃ W,W=w.alloc (.cells #[iV n,iV d] 30):=⟨_,rfl⟩
 obtain ⟨p,hp⟩:∃ p,p=w.heap.size:=⟨_,rfl⟩
 rw [← hW,← hp] at hb
 rw [← hW] at HXW
 have HB:=zH hb
 obtain ⟨c0,c1,lp⟩:=zC2 hb
 clear hb
 go_in
 go_upto_region 1 with (fail)
 rw [← hW]
 rw [← hp]
 clear hW hp
 go_upto_region 3 with (go_at_call 151;(refine (HQ.out _).mono ?_);rintro e w1 ⟨s1,rfl,hs1,hx⟩;have HX1:=zH hx;have a0:=(hx.cells.1 _ _ lp).trans c0;have a1:=(hx.cells.1 _ _ lp).trans c1;have lp1:=Nat.lt_of_lt_of_le lp hx.size;clear hx)
 have HB1:=zH ((HX1.out.block _ (zL HB.out)).trans HB.out)
 clear c0 c1 a0 a1 lp lp1
 have hdg0:dgL d r≤2:=by unfold dgL;split;omega;split <;> omega
 go_upto_if 17 with (fail)
 go_cut [3] (fun sv wx=>∃ s:ByteArray,sv=.string s∧s.size≤12∧w1=wx)
 case first=>
  by_cases h0:0 < r
  ·have hss:s1.size+1≤9223372036854775807:=by omega
   go_wp2
   go_meet
   case rel=>exact ⟨_,rfl,by rw [sz_app];have:(⟨#[46]⟩:ByteArray).size=1:=rfl;omega,rfl⟩
  ·go_wp2
   go_meet
   case rel=>exact ⟨_,rfl,by omega,rfl⟩
 case rest=>
  obtain ⟨s2,rfl,hs2,rfl⟩:=hcut
  have hwd:∀ r:Int,0≤r∧r < d→(10 * r).tdiv d=10 * r / d∧(10 * r).tmod d=10 * r % d∧IntKind.i64.wrap (10 * r)=10 * r∧IntKind.i64.wrap (10 * r / d)=10 * r / d∧IntKind.i64.wrap (10 * r % d)=10 * r % d∧0≤10 * r % d∧10 * r % d < d:=fun r hr=>by
   have e1:0≤10 * r:=by omega
   have e2:=Int.ediv_le_self d e1
   have e3:0≤10 * r / d:=Int.ediv_nonneg e1 (by omega)
   have e4:=Int.emod_nonneg (10 * r) hdz
   have e5:=Int.emod_lt_of_pos (10 * r) hd0.1
   exact ⟨Int.tdiv_eq_ediv_of_nonneg e1,Int.tmod_eq_emod_of_nonneg e1,by rw [IntKind.wrap_i64];omega,by rw [IntKind.wrap_i64];omega,by rw [IntKind.wrap_i64];omega,e4,e5⟩
  have HWD:=zH hwd
  have HD0:=zH hd0
  have HDG0:=zH hdg0
  clear hwd hd0 hdg0 hq hr hwq hwr hn0
  obtain ⟨D,hD⟩:∃ D,D=dgL d r:=⟨_,rfl⟩
  rw [← hD] at HDG0
  have HDE:=zH hD
  clear hD
  go_upto_region 5 with (fail)
  go_loopw [3,4] (fun sv rv wr=>∃ (s:ByteArray) (r:Int),sv=.string s∧rv=iV r∧Hid (0≤r∧r < d)∧Hid (100 * r % d=0)∧s.size+10 * dgL d r≤40∧Hid (Ext w1 wr)) (fun _ rv _=>dgL d (iof rv))
  case atStart=>exact ⟨s2,r,rfl,rfl,zH hr1,HR0,by rw [← HDE.out];have:=HDG0.out;omega,zH (Ext.refl _)⟩
  case round=>
   rename_i ra
   clear HDE HDG0
   obtain ⟨s,r,rfl,rfl,HR,HH,hsz,HX⟩:=hrel
   obtain ⟨c0,c1,lp⟩:=zC2 ((HX.out.block _ (zL HB1.out)).trans HB1.out)
   by_cases h0:0 < r
   ·obtain ⟨k1,k2,k3,k4,k5,k6,k7⟩:=HWD.out r HR.out
    have HS:=zH (dgL_step d r HDD.out HR.out (by omega) HH.out)
    have HDr:=zH (fun wz=>HD.out r HR.out wz)
    have HK:=zH (And.intro k6 k7)
    have hsl:s.size≤40:=by omega
    generalize 10 * r / d=q1 at *
    generalize 10 * r % d=r1 at *
    clear k6 k7
    go_upto_region 7 with (go_at_call 151;(refine (HDr.out _).mono ?_);rintro e w5 ⟨s5,rfl,hs5,hx⟩;have HX5:=zH (HX.out.trans hx);have a0:=(hx.cells.1 _ _ lp).trans c0;have a1:=(hx.cells.1 _ _ lp).trans c1;have lp1:=Nat.lt_of_lt_of_le lp hx.size;have hss:s.size+s5.size≤9223372036854775807:=(by omega);clear hx)
    go_wp2_with (fail)
    exact ⟨⟨_,r1,by rfl,by rfl,HK,zH HS.out.2,by rw [sz_app];have:=HS.out.1;omega,HX5⟩,by show dgL d r1 < dgL d r;have:=HS.out.1;omega⟩
   ·obtain rfl:r=0:=by have:=HR.out;omega
    go_wp2
    go_ret
    exact ⟨_,rfl,by omega,HXW.out.trans (HX1.out.trans HX.out)⟩
structure TOk (r:TnR) (cs:List Cr):Prop where
 low:OkI r.low
 high:OkI r.high
 cr:∀ c∈cs,OkI c.low∧OkI c.high
 len:cs.length≤100000
def BdP (w:World) (e:Ending) (w':World):Prop:=∃ lo hi b,e=.returned (.tuple #[iV lo,iV hi,.bool b])∧OkI lo∧OkI hi∧Ext w w'
theorem bounds_any (r:TnR) (cs:List Cr) (s:ByteArray) (w:World) (h:SR cellsCr 5 w (slV r.cs) cs) (hk:TOk r cs) :
 Calls Tryz.prog 59 #[.agg (tenC r),.string s] w (BdP w):=by
 have hx1:Ext w (w.alloc (.cells (tenC r) 39)):=Ext.alloc (Ext.refl _) _
 have g3:(w.alloc (.cells (tenC r) 39)).heap[w.heap.size]? = some (.cells (tenC r) 39):=block_new rfl
 obtain ⟨W1,hW1⟩:∃ W1,W1=w.alloc (.cells (tenC r) 39):=⟨_,rfl⟩
 rw [← hW1] at hx1 g3
 obtain ⟨p,hp⟩:∃ x,x=w.heap.size:=⟨_,rfl⟩
 rw [← hp] at g3
 obtain ⟨hcc,-,hlp⟩:=zC g3
 have HX1:=zH hx1;have HS:=zH h;have HK:=zH hk
 have hlen:cs.length≤100000:=hk.len
 clear g3 hx1 h hk
 go_in
 go_upto_region 1 with (fail)
 rw [← hW1]
 rw [← hp]
 clear hW1 hp
 have c2:=zk hcc 2
 have c4:=zk hcc 4
 have c5:=zk hcc 5
 clear hcc
 by_cases h1:(s.toList == [112,114,105,99,101])=true
 ·go_upto_region 2 with (fail)
  go_quiet (fail)
  go_wp2_with (fail)
  exact bodyPost_ret (v:=.tuple #[iV r.low,iV r.high,.bool true]) (by simp [results,Tryz.results59,go_sem]) rfl ⟨_,_,_,rfl,HK.out.low,HK.out.high,HX1.out.trans xt⟩
 ·have h1':(s.toList == [112,114,105,99,101])=false:=by simpa using h1
  by_cases h2:(s.toList == [108,111,119])=true
  ·go_upto_region 2 with (fail)
   go_quiet (fail)
   go_wp2_with (fail)
   exact bodyPost_ret (v:=.tuple #[iV r.low,iV r.high,.bool true]) (by simp [results,Tryz.results59,go_sem]) rfl ⟨_,_,_,rfl,HK.out.low,HK.out.high,HX1.out.trans xt⟩
  ·have h2':(s.toList == [108,111,119])=false:=by simpa using h2
   clear h1 h2
   go_upto_region 4 with (fail)
   obtain ⟨⟨ca,cl,cc⟩,hcs⟩:∃ x:Sl,x=r.cs:=⟨_,rfl⟩
   rw [← hcs] at HS c2
   clear hcs
   obtain rfl:cl=cs.length:=by
    obtain ⟨base,cap,h1,-⟩:=HS.out
    injection h1
   change W1.cell? _=some (.slice ca cs.length cc) at c2
   go_loopw [7] (fun iv wr=>∃ i:Nat,iv=iV i∧i≤cs.length∧Hid (Ext W1 wr)) (fun iv _=>cs.length - (iof iv).toNat)
   case atStart=>exact ⟨0,rfl,Nat.zero_le _,zH (Ext.refl _)⟩
   case round=>
    obtain ⟨i,rfl,hi,HX⟩:=hrel
    have x2:=(HX.out.cells.1 _ _ hlp).trans c2
    have lp:=Nat.lt_of_lt_of_le hlp HX.out.size
    clear c2 c4 c5
    by_cases hil:i < cs.length
    ·obtain ⟨bb,rfl,hcs⟩:=HS.out.at (HX1.out.trans HX.out) i hil
     have e0:=hcs 0 _ rfl;have e1:=hcs 1 _ rfl;have e2:=hcs 2 _ rfl;have e3:=hcs 3 _ rfl
     have HC:=zH (HK.out.cr cs[i] (List.getElem_mem hil))
     clear hcs
     generalize cs[i]=c at *
     obtain ⟨n0,k0,l0,g0,b0⟩:=c
     simp only [Nat.add_zero] at e0 e1 e2 e3 HC
     have hbl:=zB wr _ e1
     have hili:(i:Int) < (cs.length:Int):=by omega
     by_cases hn:(n0.toList == s.toList)=true
     ·go_upto_region 7 with (fail)
      go_quiet (fail)
      go_wp2_with (fail)
      exact bodyPost_ret (v:=.tuple #[iV l0,iV g0,.bool true]) (by simp [results,Tryz.results59,go_sem]) rfl ⟨l0,g0,true,rfl,HC.out.1,HC.out.2,(HX1.out.trans HX.out).trans xt⟩
     ·have hn':(n0.toList == s.toList)=false:=by simpa using hn
      clear hn
      go_wp2_with (fail)
      exact ⟨⟨i+1,by rfl,by omega,HX⟩,by simp [iof];omega⟩
    ·obtain rfl:i=cs.length:=by omega
     go_wp2_with (fail)
     exact bodyPost_ret (v:=.tuple #[iV 0,iV 0,.bool false]) (by simp [results,Tryz.results59,go_sem]) rfl ⟨_,_,_,rfl,⟨by decide,by decide⟩,⟨by decide,by decide⟩,HX1.out.trans HX.out⟩
end Go.Proofs.YteomcpplajeidaaGreat
