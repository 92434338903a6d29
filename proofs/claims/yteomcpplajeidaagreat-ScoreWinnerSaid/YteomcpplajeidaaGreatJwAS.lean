/-
  Lemmas of this claim (JwAS). Nothing is asked.
-/
import Derived.Test.YteomcpplajeidaaGreatJwAE
import Derived.Test.YteomcpplajeidaaGreatJwAA
import Derived.Test.YteomcpplajeidaaGreatJwJ
set_option linter.unusedVariables false
set_option linter.unusedSimpArgs false
set_option maxRecDepth 100000
set_option maxHeartbeats 40000000
namespace Go.Proofs.YteomcpplajeidaaGreat
open Go.RowKit
theorem mod34_eq (n m:Int) (hm:0 < m) (h:m≤1000000):IntKind.i64.wrap (n.tmod m+m)=n.tmod m+m:=by
 have b:=tmod_bd n hm
 rw [IntKind.wrap_i64]
 omega
theorem mod34_any (n m:Int) (hm:1≤m∧m≤1000000) (hn:OkI n) (w:World) :
 Calls Tryz.prog 34 #[iV n,iV m] w fun e w'=>∃ k:Nat,e=.returned (iV (k:Int))∧(k:Int) < m∧Ext w w':=by
 obtain ⟨h1,h2⟩:=hn
 have hm0:¬ m=0:=by omega
 have b:=tmod_bd n (show 0 < m by omega)
 have HW:=mod34_eq n m (by omega) hm.2
 have hb:=modZ_bd (n.tmod m+m) (show 0 < m by omega)
 go_in
 go_wp2
 go_ret
 exact ⟨((n.tmod m+m) % m).toNat,by rw [Int.toNat_of_nonneg hb.1];rfl,by rw [Int.toNat_of_nonneg hb.1];exact hb.2,Ext.refl _⟩
def Ty80 (w:World) (b:Nat):Prop:=∃ cs:Array Value,w.heap[b]? = some (Obj.cells cs 80)
abbrev VT (w:World) (vs:Vals) (sl:Value):Prop:=VRd (Ty80 w) w vs sl
theorem VT.keep {w w':World} {vs:Vals} {sl:Value} (h:VT w vs sl) (k:∀ (b:Nat) (cs:Array Value),w.heap[b]? = some (Obj.cells cs 80)→w'.heap[b]? = some (Obj.cells cs 80)):VT w' vs sl:=
 VRd.frame (fun b o ⟨cs,hc⟩ _=>World.cell?_of_block ((k b cs hc).trans hc.symm)) (fun b ⟨cs,hc⟩=>⟨cs,k b cs hc⟩) h
theorem VT.grow {w w':World} {vs:Vals} {sl:Value} (h:VT w vs sl) (x:Ext w w'):VT w' vs sl:=h.keep fun b cs hc=>(x.block b (zL hc)).trans hc
theorem VT.all {w:World} {vs:Vals} {sl:Value} (h:VT w vs sl):VRd All w vs sl:=VRd.frame (fun _ _ _ _=>rfl) (fun _ _=>trivial) h
structure EO (W w:World) (ov:Value) (xs:List ER):Prop where
 row:w.ownsRow W.heap.size 57 5 ov xs.length (xs.flatMap cellsEn)
 ok:∀ x∈xs,OkE x.1∧VT w x.1.vs (slV x.2)
 len:xs.length≤12
 at_:∀ i (h:i < xs.length),xs[i].1.bid=(i:Int)+1∧∃ c:Int,0≤c∧c≤2∧xs[i].1.rec_=1+c * 20+i
theorem EO.ext {W w w':World} {ov:Value} {xs:List ER} (h:EO W w ov xs) (x:Ext w w'):EO W w' ov xs:=
 ⟨row_ext h.row x,fun y hy=>⟨(h.ok y hy).1,(h.ok y hy).2.grow x⟩,h.len,h.at_⟩
theorem EO.nil (W w:World):EO W w (.slice none 0 0) []:=⟨World.ownsRow_nil _ _ _ _,fun x hx=>(by cases hx),Nat.zero_le _,fun i h=>absurd h (Nat.not_lt_zero i)⟩
theorem EO.push {W w w':World} {ov ov':Value} {xs:List ER} {x:ER} (h:EO W w ov xs) (hl:xs.length < 12) (hg:w.grownBy w' ov.ownBlock) (hr:w'.ownsRow W.heap.size 57 5 ov' (xs ++ [x]).length ((xs ++ [x]).flatMap cellsEn))
 (ho:OkE x.1) (hv:VT w x.1.vs (slV x.2)) (hb:x.1.bid=(xs.length:Int)+1) (hc:∃ c:Int,0≤c∧c≤2∧x.1.rec_=1+c * 20+xs.length):EO W w' ov' (xs ++ [x]):=by
 have kp:∀ (b:Nat) (cs:Array Value),w.heap[b]? = some (Obj.cells cs 80)→w'.heap[b]? = some (Obj.cells cs 80):=fun b cs hb=>row_stays h.row hg hb (by decide)
 refine ⟨hr,fun y hy=>?_,by simp;omega,fun i hi=>?_⟩
 ·rcases List.mem_append.1 hy with hy|hy
  ·exact ⟨(h.ok y hy).1,(h.ok y hy).2.keep kp⟩
  ·rw [List.mem_singleton] at hy
   subst hy
   exact ⟨ho,hv.keep kp⟩
 ·simp only [List.length_append,List.length_cons,List.length_nil] at hi
  rcases Nat.lt_or_ge i xs.length with e|e
  ·simp only [List.getElem_append_left e]
   exact h.at_ i e
  ·obtain rfl:i=xs.length:=by omega
   simp only [List.getElem_concat_length]
   exact ⟨hb,hc⟩
theorem EO.xr {W w:World} {ov:Value} {xs:List ER} (h:EO W w ov xs):XR w ov xs:=
 ⟨SR.of_row (cs:=cellsEn) (fun x=>(one_en x).1) h.row (by have:=h.len;omega),fun x hx=>⟨(h.ok x hx).1,(h.ok x hx).2.all⟩⟩
structure EX (wr w:World) (X:Nat) (b l c p:Int) (sl:Sl) (vs:Vals):Prop where
 low:Ext wr w
 at_:w.heap[X]? = some (.cells (entC b l c p sl) 57)
 ge:wr.heap.size≤X
 row:w.ownsRow wr.heap.size 80 2 (slV sl) vs.length (vs.flatMap cellsP)
 vr:VR vs
section
variable {wr w w':World} {X:Nat} {b l c p:Int} {sl:Sl} {vs:Vals}
theorem EX.ext (h:EX wr w X b l c p sl vs) (x:Ext w w'):EX wr w' X b l c p sl vs:=⟨h.low.trans x,(x.block _ (zL h.at_)).trans h.at_,h.ge,row_ext h.row x,h.vr⟩
theorem EX.set (h:EX wr w X b l c p sl vs) (j:Nat) (u:Value) {b' l' c' p':Int} (he:entC b' l' c' p' sl=(entC b l c p sl).setIfInBounds j u):EX wr (w.setCell ⟨X,j,none⟩ u) X b' l' c' p' sl vs:=
 ⟨Ext.setCell h.low h.ge _,he ▸ heap_put u h.at_,h.ge,row_put h.row h.at_ (by decide),h.vr⟩
theorem EX.push (h:EX wr w X b l c p sl vs) {x:Sl} {q:ByteArray×Int} (hg:w.grownBy w' (slV sl).ownBlock) (hr:w'.ownsRow wr.heap.size 80 2 (slV x) (vs ++ [q]).length ((vs ++ [q]).flatMap cellsP)) (hq:OkI q.2) :
 EX wr (w'.setCell ⟨X,4,none⟩ (slV x)) X b l c p x (vs ++ [q]):=by
 have hX:=row_stays h.row hg h.at_ (by decide)
 refine ⟨Ext.setCell (ext_grown h.low hg (fun b e=>(h.row.lt b e).1)) h.ge _,heap_put (slV x) hX,h.ge,row_put hr hX (by decide),fun y hy=>?_⟩
 rcases List.mem_append.1 hy with hy|hy
 ·exact h.vr y hy
 ·rw [List.mem_singleton.1 hy]
  exact hq
theorem EX.vt (h:EX wr w X b l c p sl vs) (hl:vs.length≤1000000):VT w vs (slV sl):=by
 by_cases h0:vs=[]
 ·subst h0
  rcases h.row.2 with ⟨hn,-⟩|⟨g,cap,cur,hv,-⟩
  ·exact ⟨none,0,hn,by simp,h.vr,.inl rfl⟩
  ·exact ⟨_,cap,hv,by simp,h.vr,.inl rfl⟩
 ·obtain ⟨g,cap,hf,-,hlt⟩:=h.row.form (List.length_pos_iff.2 h0)
  obtain ⟨cs,hcs⟩:=row_obj h.row (b:=g) (by rw [hf];rfl)
  refine ⟨_,cap,hf,hl,h.vr,.inr ⟨g,0,rfl,⟨cs,hcs⟩,fun k hk=>?_⟩⟩
  have:=flat2 vs k hk
  have hr:=h.row
  rw [hf] at hr
  rw [Nat.zero_add,hr.cellAt (k * 2) (by omega),hr.cellAt (k * 2+1) (by omega)]
  exact this
end
structure EY (wr w:World) (X:Nat) (b l c p:Int) (sl:Sl) (vs:Vals):Prop where
 low:Ext wr w
 at_:w.heap[X]? = some (.cells (entC b l c p sl) 57)
 vt:VT w vs (slV sl)
 vl:vs.length≤100
 ok:OkI l∧OkI p
theorem EX.start {wr wy:World} {X:Nat} {old:Array Value} (hy:Ext wr wy) (hX:wr.heap.size≤X) (hb:wy.heap[X]? = some (Obj.cells old 57)) (b l c p:Int):EX wr (wy.setRow X (entC b l c p (none,0,0))) X b l c p (none,0,0) []:=
 ⟨below_setRow hy hX _,setRow_heap _ _ _ _ _ _ hb,hX,World.ownsRow_nil _ _ _ _,fun x hx=>(by cases hx)⟩
theorem row_setc {w:World} {B E sz n c g o:Nat} {u:Value} {xs:List Value} (h:w.ownsRow B E sz (.slice (some ⟨g,0,none⟩) n c) n xs):(w.setCell ⟨g,o,none⟩ u).ownsRow B E sz (.slice (some ⟨g,0,none⟩) n c) n (xs.set o u):=by
 rcases h.2 with ⟨h1,-⟩|⟨g',cap,cur,e,hb,hg,h1,h2,h3,h4⟩
 ·cases h1
 ·injection e with e1 _ e3
  injection e1 with e1
  injection e1 with e1
  subst e1 e3
  refine ⟨by rw [List.length_set];exact h.1,.inr ⟨g,c,cur.setIfInBounds o u,rfl,hb,heap_put u hg,h1,h2,by rw [Array.size_setIfInBounds];exact h3,?_⟩⟩
  rw [← h4,Array.toList_setIfInBounds,List.take_set]
theorem flat_setc (u:Int):∀ (xs:Vals) (k:Nat) (hk:k < xs.length),(xs.flatMap cellsP).set (k * 2+1) (iV u)=(xs.set k (xs[k].1,u)).flatMap cellsP
 | x :: xs,0,_=>rfl
 | x :: xs,k+1,hk=>by
  rw [List.set_cons_succ,List.flatMap_cons,List.flatMap_cons,List.getElem_cons_succ,← flat_setc u xs k (by simpa using hk),List.set_append_right _ _ (by show 2≤_;omega)]
  congr 2
  show (k+1) * 2+1 - 2=k * 2+1
  omega
section
variable {wr w w':World} {X:Nat} {b l c p:Int} {sl:Sl} {vs:Vals}
theorem EX.put (h:EX wr w X b l c p sl vs) {g cap:Nat} (hs:slV sl=.slice (some ⟨g,0,none⟩) vs.length cap) (k:Nat) (hk:k < vs.length) (z:Int) (hz:OkI z):EX wr (w.setCell ⟨g,k * 2+1,none⟩ (iV z)) X b l c p sl (vs.set k (vs[k].1,z)):=by
 have hr:=h.row
 obtain ⟨ds,hd⟩:=row_obj hr (b:=g) (by rw [hs];rfl)
 have hge:=(hr.lt g (by rw [hs];rfl)).1
 refine ⟨Ext.setCell h.low hge _,(heap_setCell_other _ ⟨g,k * 2+1,none⟩ _ _ (obj_ne h.at_ hd (by decide))).trans h.at_,h.ge,?_,fun y hy=>?_⟩
 ·rw [hs] at hr ⊢
  rw [List.length_set,← flat_setc z vs k hk]
  exact row_setc hr
 ·rcases List.mem_or_eq_of_mem_set hy with hy|rfl
  ·exact h.vr y hy
  ·exact hz
theorem EX.ey (h:EX wr w X b l c p sl vs) (hl:vs.length≤100) (ho:OkI l∧OkI p):EY wr w X b l c p sl vs:=⟨h.low,h.at_,h.vt (by omega),hl,ho⟩
theorem EX.cell (h:EX wr w X b l c p sl vs) {g cap:Nat} (hs:slV sl=.slice (some ⟨g,0,none⟩) vs.length cap) (k:Nat) (hk:k < vs.length):w.cell? ⟨g,k * 2,none⟩=some (.string vs[k].1)∧w.cell? ⟨g,k * 2+1,none⟩=some (iV vs[k].2)∧w.frozen? ⟨g,k * 2+1,none⟩=false∧g < w.heap.size:=by
 have hr:=h.row
 obtain ⟨ds,hd⟩:=row_obj hr (b:=g) (by rw [hs];rfl)
 have h2:=flat2 vs k hk
 rw [hs] at hr
 exact ⟨(hr.cellAt (k * 2) (by omega)).trans h2.1,(hr.cellAt (k * 2+1) (by omega)).trans h2.2,put_frozen hd,zL hd⟩
theorem EX.tail (h:EX wr w X b l c p sl vs) {g cap:Nat} (hs:slV sl=.slice (some ⟨g,0,none⟩) vs.length cap) (hl:vs.length≤100) (x':Sl) (hx:x' = (some ⟨g,2,none⟩,vs.length - 1,cap - 1)∨(vs.length=1∧x'.2.1=0)) (ho:OkI l∧OkI p) :
 EY wr (w.setCell ⟨X,4,none⟩ (slV x')) X b l c p x' (vs.drop 1):=by
 have hr:=h.row
 obtain ⟨ds,hd⟩:=row_obj hr (b:=g) (by rw [hs];rfl)
 have hgx:g≠X:=obj_ne hd h.at_ (by decide)
 have hvr:VR (vs.drop 1):=fun y hy=>h.vr y (List.mem_of_mem_drop hy)
 refine ⟨Ext.setCell h.low h.ge _,heap_put (slV x') h.at_,?_,by rw [List.length_drop];omega,ho⟩
 rcases hx with rfl|⟨h1,h2⟩
 ·refine ⟨_,_,by rw [List.length_drop],by rw [List.length_drop];omega,hvr,?_⟩
  by_cases h0:vs.drop 1=[]
  ·exact .inl h0
  ·refine .inr ⟨g,2,rfl,⟨ds,(heap_setCell_other _ ⟨X,4,none⟩ _ _ hgx).trans hd⟩,fun k hk=>?_⟩
   rw [List.length_drop] at hk
   have h2:=flat2 vs (1+k) (by omega)
   rw [hs] at hr
   have c0:=hr.cellAt ((1+k) * 2) (by omega)
   have c1:=hr.cellAt ((1+k) * 2+1) (by omega)
   have hcell:∀ o,(w.setCell ⟨X,4,none⟩ (slV (some ⟨g,2,none⟩,vs.length - 1,cap - 1))).cell? ⟨g,o,none⟩=w.cell? ⟨g,o,none⟩:=fun o=>World.cell?_of_block (heap_setCell_other _ ⟨X,4,none⟩ _ _ hgx)
   rw [hcell,hcell,show 2+k * 2=(1+k) * 2 by omega,c0,c1,h2.1,h2.2]
   simp [List.getElem_drop,Nat.add_comm]
 ·obtain ⟨xa,xn,xc⟩:=x'
  simp only at h2
  subst h2
  have h0:vs.drop 1=[]:=List.drop_eq_nil_of_le (by omega)
  rw [h0]
  exact ⟨xa,xc,rfl,Nat.zero_le _,fun y hy=>(by cases hy),.inl rfl⟩
end
end Go.Proofs.YteomcpplajeidaaGreat
