/-
  Lemmas of this claim (JwJ). Nothing is asked.
-/
import Derived.Test.YteomcpplajeidaaGreatJwI
import Derived.Test.YteomcpplajeidaaGreatJwE
import Derived.Test.YteomcpplajeidaaGreatJwF
import Derived.Deep.AppendLies
import Derived.BigQuiet
import Derived.Deep.QuietTactic
set_option linter.unusedVariables false
set_option linter.unusedSimpArgs false
set_option maxRecDepth 100000
set_option maxHeartbeats 40000000
namespace Go.Proofs.YteomcpplajeidaaGreat
open Go.RowKit
def cellsP (p:ByteArray×Int):List Value:=[.string p.1,iV p.2]
theorem flat2:∀ (us:Vals) (i:Nat) (h:i < us.length),(us.flatMap cellsP)[i * 2]? = some (.string us[i].1)∧(us.flatMap cellsP)[i * 2+1]? = some (iV us[i].2)
 | u :: us,0,h=>⟨rfl,rfl⟩
 | u :: us,i+1,h=>by
  have:=flat2 us i (by simpa using h)
  rw [List.flatMap_cons,List.getElem?_append_right (by simp [cellsP];omega),List.getElem?_append_right (by simp [cellsP];omega)]
  simp only [cellsP,List.length_cons,List.length_nil,List.getElem_cons_succ]
  rw [show (i+1) * 2 - (0+1+1)=i * 2 by omega,show (i+1) * 2+1 - (0+1+1)=i * 2+1 by omega]
  exact this
abbrev PR (B:Nat) (w:World) (v:Value) (vs:Vals):Prop:=w.ownsRow B 80 2 v vs.length (vs.flatMap cellsP)
theorem PR.vrd {B:Nat} {w:World} {v:Value} {vs:Vals} (ho:PR B w v vs) (hr:VR vs) (hn:vs.length≤1000000):VRd All w vs v:=by
 by_cases h0:vs=[]
 ·subst h0
  rcases ho.2 with ⟨hn,-⟩|⟨g,cap,cur,hv,-⟩
  ·exact ⟨none,0,hn,by simp,hr,.inl rfl⟩
  ·exact ⟨_,cap,hv,by simp,hr,.inl rfl⟩
 ·have hp:0 < vs.length:=List.length_pos_iff.2 h0
  obtain ⟨g,cap,rfl,-,hlt⟩:=ho.form hp
  refine ⟨_,cap,rfl,hn,hr,.inr ⟨g,0,rfl,trivial,fun k hk=>?_⟩⟩
  rw [Nat.zero_add]
  have:=flat2 vs k hk
  rw [ho.cellAt (k * 2) (by omega),ho.cellAt (k * 2+1) (by omega)]
  exact this
theorem info51:(Tryz.prog.info? 80).map (fun i=>(i.zero,i.size,i.bytes))=some (some (.agg #[.string ⟨#[]⟩,iV 0]),2,24):=by kernel_rfl
def lkv:Vals→ByteArray→Int×Nat
 | [],_=>(0,0)
 | x :: l,nm=>if x.1.toList == nm.toList then (x.2,(lkv l nm).2+1) else lkv l nm
def cmb (n:Int) (m:Nat) (r:Int×Nat):Int×Nat:=if m=0 then r else (n,m+r.2)
theorem lkv_le (vs:Vals) (nm:ByteArray):(lkv vs nm).2≤vs.length:=by
 induction vs with
 | nil=>exact Nat.le_refl _
 | cons x l ih=>rw [lkv];split <;> simp only [List.length_cons] <;> omega
theorem lkv_drop (vs:Vals) (nm:ByteArray) (k:Nat) (h:k < vs.length):lkv (vs.drop k) nm=if vs[k].1.toList == nm.toList then (vs[k].2,(lkv (vs.drop (k+1)) nm).2+1) else lkv (vs.drop (k+1)) nm:=by
 rw [List.drop_eq_getElem_cons h,lkv]
theorem cmb_yes0 {n:Int} {r:Int×Nat} {m:Nat} (hm:m=0) (v:Int):cmb n m (v,r.2+1)=cmb v (m+1) r:=by
 subst hm;unfold cmb;rw [if_pos rfl,if_neg (by omega)];congr 1;omega
theorem cmb_yes {n:Int} {r:Int×Nat} {m:Nat} (hm:¬ m=0) (v:Int):cmb n m (v,r.2+1)=cmb n (m+1) r:=by
 unfold cmb;rw [if_neg hm,if_neg (by omega)];congr 1;omega
theorem lookup_any (vs:Vals) (nm:ByteArray) (w:World) (sl:Value) (hs:VRd All w vs sl) :
 Calls Tryz.prog 50 #[sl,.string nm] w fun e w'=>e=.returned (.tuple #[iV (lkv vs nm).1,iV (lkv vs nm).2])∧Ext w w':=by
 obtain ⟨base,cap,rfl,hlen,hr,hc⟩:=hs
 have HC:=zH hc
 clear hr hc
 have HL:=zH (lkv_le vs nm)
 go_in
 go_wp2
 go_loopw [4,5,10] (fun n m i wr=>∃ (k c:Nat) (z:Int),k≤vs.length∧c≤k∧i=iV k∧n=iV z∧m=iV c∧Hid (lkv vs nm=cmb z c (lkv (vs.drop k) nm))∧Hid (c=0→z=0)∧Ext w wr) (fun _ _ i _=>vs.length - (intOf i).toNat)
 case atStart=>exact ⟨0,0,0,Nat.zero_le _,Nat.zero_le _,by go_num,by go_num,by go_num,zH (by unfold cmb;rw [if_pos rfl];rfl),zH (fun _=>rfl),Ext.refl _⟩
 case round=>
  obtain ⟨k,c,z,hk,hck,rfl,rfl,rfl,hi,hz,hx⟩:=hrel
  rcases Nat.lt_or_ge k vs.length with hlt|hge
  ·obtain ⟨b,off,rfl,-,hcs⟩:=HC.out.resolve_left (by intro e;rw [e] at hlt;simp at hlt)
   have h0:=(hcs k hlt).1
   have h1:=(hcs k hlt).2
   have hb:=zB w _ h0
   have h0':=(hx.cells.1 b _ hb).trans h0
   have h1':=(hx.cells.1 b _ hb).trans h1
   have HD:=zH (hi.out.trans (congrArg (cmb z c) (lkv_drop vs nm k hlt)))
   generalize vs[k]=u at *
   obtain ⟨un,uz⟩:=u
   clear hcs h0 h1 HL
   cases hq:(un.toList == nm.toList)
   ·have HE:=zH (show lkv vs nm=cmb z c (lkv (vs.drop (k+1)) nm) by rw [HD.out,hq];rfl)
    go_wp2
    go_roundw
    case rel=>exact ⟨k+1,c,z,by omega,by omega,by go_num,rfl,rfl,HE,hz,xt⟩
    case measure=>simp [intOf];omega
   ·rcases Nat.eq_zero_or_pos c with h0c|h0c
    ·have HE:=zH (show lkv vs nm=cmb uz (c+1) (lkv (vs.drop (k+1)) nm) by rw [HD.out,hq];exact cmb_yes0 h0c uz)
     have hd:((c:Int) == 0)=true:=by simp [h0c]
     go_wp2
     go_roundw
     case rel=>exact ⟨k+1,c+1,uz,by omega,by omega,by go_num,rfl,by go_num,HE,zH (fun h=>by omega),xt⟩
     case measure=>simp [intOf];omega
    ·have HE:=zH (show lkv vs nm=cmb z (c+1) (lkv (vs.drop (k+1)) nm) by rw [HD.out,hq];exact cmb_yes (by omega) uz)
     have hd:((c:Int) == 0)=false:=by simp;omega
     go_wp2
     go_roundw
     case rel=>exact ⟨k+1,c+1,z,by omega,by omega,by go_num,rfl,by go_num,HE,zH (fun h=>by omega),xt⟩
     case measure=>simp [intOf];omega
  ·have HE:=zH (show lkv vs nm=(z,c) by
    rw [hi.out,List.drop_eq_nil_of_le (by omega),lkv];unfold cmb
    by_cases h:c=0
    ·rw [if_pos h,h,hz.out h]
    ·rw [if_neg h];rfl)
   have hkl:¬ (k:Int) < (vs.length:Int):=by omega
   go_wp2
   go_ret2
   exact ⟨by rw [HE.out];rfl,hx⟩
end Go.Proofs.YteomcpplajeidaaGreat
namespace Go.Proofs.YteomcpplajeidaaGreat.Rq
open Go.RowKit Go.Proofs.YteomcpplajeidaaGreat Go.Proofs.YteomcpplajeidaaGreat.Rs
open Go.Proofs.YteomcpplajeidaaGreat.Rg (lt_of_heap)
def mv (p:List Nat) (o:Oper):Oper:={ o with after:=o.after.map (fun e=>{ e with on:=p.idxOf e.on }),guard:=o.guard.map (fun g=>(p.idxOf g.1,g.2)) }
def perm (p:List Nat) (ops:Array Oper):Array Oper:=(p.map fun i=>mv p (ops.getD i default)).toArray
def permB (p:List Nat) (n:Nat):Bool:=decide (p.length=n) && p.all (fun i=>decide (i < n)) && decide p.Nodup && (List.range n).all (fun i=>p.contains i)
structure Perm (p:List Nat) (n:Nat):Prop where
 len:p.length=n
 lt:∀ i∈p,i < n
 nodup:p.Nodup
 all:∀ i,i < n→i∈p
theorem permB_spec {p:List Nat} {n:Nat} (h:permB p n=true):Perm p n:=by
 simp only [permB,Bool.and_eq_true,decide_eq_true_eq,List.all_eq_true,List.mem_range,List.contains_iff_mem] at h
 exact ⟨h.1.1.1,h.1.1.2,h.1.2,h.2⟩
set_option linter.unusedSectionVars false
section
variable {p:List Nat} {n:Nat}
theorem Perm.idx_lt (h:Perm p n) {i:Nat} (hi:i < n):p.idxOf i < n:=by
 rw [← h.len];exact List.idxOf_lt_length_of_mem (h.all i hi)
theorem Perm.idx_ge (h:Perm p n) {i:Nat} (hi:n≤i):p.idxOf i=n:=by
 rw [← h.len];exact List.idxOf_eq_length (fun hm=>by have:=h.lt i hm;omega)
theorem Perm.get_idx (h:Perm p n) {i:Nat} (hi:i < n):p[p.idxOf i]? = some i:=by
 have h1:p.idxOf i < p.length:=by rw [h.len];exact h.idx_lt hi
 rw [List.getElem?_eq_getElem h1,List.getElem_idxOf h1]
theorem Perm.inj (h:Perm p n) {i j:Nat} (hi:i < n) (hj:j < n) (e:p.idxOf i=p.idxOf j):i=j:=by
 have h1:=h.get_idx hi
 rw [e,h.get_idx hj] at h1
 exact (Option.some.inj h1).symm
theorem Perm.idx_get (h:Perm p n) {j:Nat} (hj:j < n):∃ i,i < n∧p[j]? = some i∧p.idxOf i=j:=by
 have hj':j < p.length:=by rw [h.len];exact hj
 have hlt:=h.lt p[j] (List.getElem_mem hj')
 refine ⟨p[j],hlt,List.getElem?_eq_getElem hj',?_⟩
 have h1:=h.get_idx hlt
 have h2:p.idxOf p[j] < p.length:=by rw [h.len];exact h.idx_lt hlt
 rw [List.getElem?_eq_getElem h2] at h1
 exact (List.getElem_inj h.nodup).1 (Option.some.inj h1)
end
theorem mv_exec (p:List Nat) (o:Oper) (ρ:Operand→Value):execOp ρ (mv p o)=execOp ρ o:=rfl
section
variable {p:List Nat} {n:Nat} {ops:Array Oper} {md:Region.Mode} {P:Program} {Q:Exit→Act→World→Prop}
theorem get_perm (h:Perm p ops.size) {i:Nat} (hi:i < ops.size):(perm p ops)[p.idxOf i]? = (ops[i]?).map (mv p):=by
 unfold perm
 rw [List.getElem?_toArray,List.getElem?_map,h.get_idx hi,Option.map_some,Array.getElem?_eq_getElem hi,Option.map_some]
 simp [Array.getD,hi]
theorem size_perm (h:Perm p ops.size):(perm p ops).size=ops.size:=by
 unfold perm;simp [h.len]
theorem yielded_perm (h:Perm p ops.size) (t:Array Value) (j:Nat):yielded (perm p ops) t (p.idxOf j)=yielded ops t j:=by
 unfold yielded
 rcases Nat.lt_or_ge j ops.size with hj|hj
 ·rw [get_perm h hj]
  cases ops[j]? <;> rfl
 ·rw [h.idx_ge hj,Array.getElem?_eq_none (by rw [size_perm h];exact Nat.le_refl _),Array.getElem?_eq_none hj]
theorem wanted_perm (h:Perm p ops.size) (t:Array Value) (o:Oper):Region.wanted (mv p o) (yielded (perm p ops) t)=Region.wanted o (yielded ops t):=by
 unfold Region.wanted mv
 cases o.guard with
 | none=>rfl
 | some g=>simp only [Option.map_some];rw [yielded_perm h]
def Rl (p:List Nat) (n:Nat) (l l':Array Bool):Prop:=l.size=n∧l'.size=n∧∀ i,i < n→l'[p.idxOf i]? = l[i]?
theorem Rl.getD {l l':Array Bool} (h:Perm p n) (r:Rl p n l l') (i:Nat) (b:Bool):l'.getD (p.idxOf i) b=l.getD i b:=by
 obtain ⟨h1,h2,h3⟩:=r
 rw [Array.getD_eq_getD_getElem?,Array.getD_eq_getD_getElem?]
 rcases Nat.lt_or_ge i n with hi|hi
 ·rw [h3 i hi]
 ·rw [h.idx_ge hi,Array.getElem?_eq_none (by omega),Array.getElem?_eq_none (by omega)]
theorem Rl.set {l l':Array Bool} (h:Perm p n) (r:Rl p n l l') {i:Nat} (hi:i < n):Rl p n (l.setIfInBounds i true) (l'.setIfInBounds (p.idxOf i) true):=by
 obtain ⟨h1,h2,h3⟩:=r
 refine ⟨by simpa using h1,by simpa using h2,fun k hk=>?_⟩
 rw [Array.getElem?_setIfInBounds,Array.getElem?_setIfInBounds]
 by_cases e:i=k
 ·subst e
  have:=h.idx_lt hi
  simp [h1,h2,hi,this]
 ·have:p.idxOf i≠p.idxOf k:=fun e'=>e (h.inj hi hk e')
  rw [if_neg this,if_neg e,h3 k hk]
theorem ready_perm (h:Perm p ops.size) {l l':Array Bool} (r:Rl p ops.size l l') {i:Nat} (hi:i < ops.size):p.idxOf i∈Region.ready md (perm p ops) l'↔i∈Region.ready md ops l:=by
 rw [mem_ready,mem_ready,r.getD h,get_perm h hi]
 refine and_congr_right fun _=>?_
 cases ho:ops[i]? with
 | none=>simp
 | some o=>
  simp only [Option.map_some,Option.some.injEq,exists_eq_left']
  constructor
  ·intro h1 e he hb
   have:=h1 { e with on:=p.idxOf e.on } (by simp only [mv];exact Array.mem_map.2 ⟨e,he,rfl⟩) hb
   rwa [r.getD h] at this
  ·intro h1 e he hb
   simp only [mv] at he
   obtain ⟨e',he',rfl⟩:=Array.mem_map.1 he
   rw [r.getD h]
   exact h1 e' he' hb
theorem ready_lt {l:Array Bool} {i:Nat} (h:i∈Region.ready md ops l):i < ops.size:=by
 obtain ⟨_,o,ho,_⟩:=mem_ready.1 h
 exact (Array.getElem?_eq_some_iff.1 ho).1
theorem wpOp_perm (h:Perm p ops.size) {i:Nat} (hi:i < ops.size) {K:Act→World→Prop} {a:Act} {w:World} (hh:wpOp P (perm p ops) Q (p.idxOf i) K a w):wpOp P ops Q i K a w:=by
 unfold wpOp at *
 rw [get_perm h hi] at hh
 cases ho:ops[i]? with
 | none=>rw [ho] at hh;exact hh
 | some o=>
  rw [ho] at hh
  simp only [Option.map_some] at hh ⊢
  rw [wanted_perm h] at hh
  exact hh
theorem wpAny_perm (h:Perm p ops.size):∀ (f:Nat) (l l':Array Bool) (a:Act) (w:World),Rl p ops.size l l'→wpAny P md (perm p ops) Q f l' a w→wpAny P md ops Q f l a w
 | 0,l,l',a,w,r,hh=>by
  refine ⟨?_,hh.2⟩
  refine List.eq_nil_iff_forall_not_mem.2 fun i hi=>?_
  have:=(ready_perm h r (ready_lt hi)).2 hi
  rw [hh.1] at this
  cases this
 | f+1,l,l',a,w,r,hh=>by
  refine ⟨fun h0=>hh.1 (List.eq_nil_iff_forall_not_mem.2 fun j hj=>?_),fun i hi=>?_⟩
  ·have hjl:=ready_lt hj
   rw [size_perm h] at hjl
   obtain ⟨i,hi,_,rfl⟩:=h.idx_get hjl
   have:=(ready_perm h r hi).1 hj
   rw [h0] at this
   cases this
  ·have hil:=ready_lt hi
   refine wpOp_perm h hil (wpOp_mono (fun a w hk=>?_) (hh.2 _ ((ready_perm h r hil).2 hi)))
   exact wpAny_perm h f _ _ a w (r.set h hil) hk
theorem wpList_perm (h:Perm p ops.size):∀ (l:List Oper) (a:Act) (w:World),wpList P ops Q l a w→wpList P (perm p ops) Q (l.map (mv p)) a w
 | [],_,_,hh=>hh
 | o :: rest,a,w,hh=>by
  rw [List.map_cons]
  unfold wpList at hh ⊢
  rw [wanted_perm h]
  by_cases hw:Region.wanted o (yielded ops a.tmps)=true
  ·rw [if_pos hw] at hh ⊢
   exact hh.imp (Oper.wp_mono (fun a w hk=>wpList_perm h rest a w hk)) id
  ·rw [if_neg hw] at hh ⊢
   exact wpList_perm h rest _ w hh
end
section
variable [Gw] {P:Program} {ops:Array Oper} {w0:World} {Pn:Pnc} {p:List Nat} {M:Nat→Obj×(Nat→Value)}
theorem Y_perm (h:Perm p ops.size) {fs:Fs} {o:Oper} {v:Value} {a:Act} (hy:Y P ops w0 fs o v a):Y P (perm p ops) w0 fs (mv p o) v a:=by
 have hsb:Rs.subB (mv p o)=Rs.subB o:=by
  unfold Rs.subB mv
  cases o.guard <;> rfl
 unfold Y at *
 rw [mv_exec,wanted_perm h,hsb]
 exact hy
theorem Z_perm (h:Perm p ops.size) {fs:Fs} {o:Oper} {R:Value→World→Prop} {a:Act} (hy:Z P Pn ops w0 fs o R a):Z P Pn (perm p ops) w0 fs (mv p o) R a:=by
 unfold Z at *
 rw [mv_exec,wanted_perm h]
 exact hy
theorem Mk_perm (h:Perm p ops.size) {o:Oper} {m:Obj×(Nat→Value)} {a:Act} (hy:Mk P ops o m a):Mk P (perm p ops) (mv p o) m a:=by
 unfold Mk at *
 rw [mv_exec,wanted_perm h]
 exact hy
def re (p:List Nat) (s:List (Nat×Kd)):List (Nat×Kd):=s.map fun x=>(p.idxOf x.1,x.2)
theorem wr_perm (h:Perm p ops.size) {fin fin':Act→Fs→Prop} (hf:∀ a fs,fin a fs→fin' a fs):∀ (s:List (Nat×Kd)) (a:Act) (bs:List Nat) (fs:Fs),
 wr P Pn ops w0 M fin s a bs fs→wr P Pn (perm p ops) w0 (fun j=>M (p.getD j 0)) fin' (re p s) a bs fs
 | [],a,bs,fs,hh=>hf a fs hh
 |(i,k) :: rest,a,bs,fs,hh=>by
  have key:∀ o,ops[i]? = some o→(perm p ops)[p.idxOf i]? = some (mv p o)∧p.getD (p.idxOf i) 0=i:=fun o ho=>by
   have hi:=(Array.getElem?_eq_some_iff.1 ho).1
   exact ⟨by rw [get_perm h hi,ho];rfl,by rw [List.getD_eq_getElem?_getD,h.get_idx hi];rfl⟩
  unfold re
  rw [List.map_cons]
  cases k with
  | y=>
   obtain ⟨o,ho,v,hy,hk⟩:=hh
   exact ⟨mv p o,(key o ho).1,v,Y_perm h hy,wr_perm h hf rest _ _ _ hk⟩
  | z=>
   obtain ⟨o,ho,R,hy,hk⟩:=hh
   exact ⟨mv p o,(key o ho).1,R,Z_perm h hy,fun v=>wr_perm h hf rest _ _ _ (hk v)⟩
  | m=>
   obtain ⟨o,ho,hy,hk⟩:=hh
   refine ⟨mv p o,(key o ho).1,?_,fun q hq=>?_⟩
   ·simp only [(key o ho).2];exact Mk_perm h hy
   ·simp only [(key o ho).2];exact wr_perm h hf rest _ _ _ (hk q hq)
def allT (P:Program) (s:List (Nat×Kd)) (tl:List Nat) (E:List Nat) (l:List Oper):Bool:=
 permB (s.map (·.1) ++ tl) l.length && allR P .any (perm (s.map (·.1) ++ tl) l.toArray) (E.map fun i=>(s.map (·.1) ++ tl).idxOf i) (re (s.map (·.1) ++ tl) s)
theorem wp_regionG {id:Nat} {Q:Exit→Act→World→Prop} {a:Act} {w:World} {l:List Oper} (hgw:Gw.R w w) (E:List Nat) (s:List (Nat×Kd)) (tl:List Nat) (M:Nat→Obj×(Nat→Value)) (Pn:Pnc) (hQ:∀ c a' w',a'.defers=a.defers→Gw.R w w'→Pn c w'→Q (.panic c) a' w')
 (hQp:E≠[]→∀ c a d v w,Q (.panic c) (a.put d v) w→Q (.panic c) a w) (hm:P.follows .mixedOrders=true) (hB:allT P s tl E l=true)
 (h:wr P Pn l.toArray w M (fun a fs=>∀ w',Gw.R w w'→Holds fs w'→wpList P l.toArray Q (tl.filterMap (l[·]?)) a w') s a [] []):(Code.region id l.toArray true).wp P Q a w:=by
 unfold allT at hB
 rw [Bool.and_eq_true] at hB
 obtain ⟨hp,hB⟩:=hB
 generalize hpe:s.map (·.1) ++ tl=p at *
 have hP:Perm p l.toArray.size:=by simpa using permB_spec hp
 have htl:∀ i∈tl,i < l.length:=fun i hi=>by simpa using hP.lt i (by rw [← hpe];exact List.mem_append_right _ hi)
 have hdrop:(perm p l.toArray).toList.drop (re p s).length=(tl.filterMap (l[·]?)).map (mv p):=by
  unfold perm re
  rw [List.length_map]
  show (p.map _).drop s.length=_
  rw [← List.map_drop,show p.drop s.length=tl by rw [← hpe,List.drop_append_of_le_length (by simp),List.drop_eq_nil_of_le (by simp),List.nil_append]]
  clear hpe hB hp hP h
  induction tl with
  | nil=>rfl
  | cons i t ih=>
   have hi:=htl i zM
   rw [List.map_cons,ih (fun j hj=>htl j (zN _ hj)),List.filterMap_cons,List.getElem?_eq_getElem hi]
   simp [Array.getD,hi]
 refine wp_region_any hm ?_
 refine wpAny_perm hP _ (Array.replicate l.toArray.size false) (Array.replicate l.toArray.size false) a _ ⟨by simp,by simp,fun i hi=>by rw [Array.getElem?_replicate,Array.getElem?_replicate,if_pos hi,if_pos (hP.idx_lt hi)]⟩ ?_
 have key:=wpAny_G (l:=(perm p l.toArray).toList) (w:=w) (a:=a) (Q:=Q) (P:=P) hgw (E.map fun i=>p.idxOf i) (re p s) (fun j=>M (p.getD j 0)) Pn hQ (fun hne=>hQp (fun h0=>hne (by rw [h0];rfl))) (by simpa using hB) (by
  rw [hdrop]
  exact wr_perm hP (fun a fs hf w' e hh=>wpList_perm hP _ a w' (hf w' e hh)) s a [] [] h)
 have hs:=size_perm hP
 simpa [hs] using key
theorem wp_regionTE {id:Nat} {Q:Exit→Act→World→Prop} {a:Act} {w:World} {l:List Oper} (hgw:Gw.R w w) (E:List Nat) (s:List (Nat×Kd)) (tl:List Nat) (M:Nat→Obj×(Nat→Value)) (hQp:∀ c a d v w,Q (.panic c) (a.put d v) w→Q (.panic c) a w) (hm:P.follows .mixedOrders=true) (hB:allT P s tl E l=true)
 (h:wr P (fun _ _=>False) l.toArray w M (fun a fs=>∀ w',Gw.R w w'→Holds fs w'→wpList P l.toArray Q (tl.filterMap (l[·]?)) a w') s a [] []):(Code.region id l.toArray true).wp P Q a w:=
 wp_regionG hgw E s tl M _ (fun _ _ _ _ _ h=>h.elim) (fun _=>hQp) hm hB h
end
end Go.Proofs.YteomcpplajeidaaGreat.Rq

namespace Go.Proofs.YteomcpplajeidaaGreat.Rp
open Go.RowKit Go.Proofs.YteomcpplajeidaaGreat
abbrev Kd:=Rs.Kd
abbrev Holds:=Rs.Holds
theorem wp_regionTU {P:Program} (sb:Bool) {id:Nat} {Q:Exit→Act→World→Prop} {a:Act} {w:World} {l:List Oper} (E:List Nat) (s:List (Nat×Kd)) (tl:List Nat) (M:Nat→Obj×(Nat→Value)) (hQp:∀ c a d v w,Q (.panic c) (a.put d v) w→Q (.panic c) a w) (hm:P.follows .mixedOrders=true) (hB:@Rq.allT (Rr.gE sb) P s tl E l=true)
 (h:Rr.wr sb P (fun _ _=>False) l.toArray w M (fun a fs=>∀ w',Ext w w'→Holds fs w'→wpList P l.toArray Q (tl.filterMap (l[·]?)) a w') s a [] []):(Code.region id l.toArray true).wp P Q a w:=
 @Rq.wp_regionTE (Rr.gE sb) _ _ _ _ _ _ (Ext.refl _) E s tl M hQp hm hB h
abbrev wp_regionTE {P:Program}:=@wp_regionTU P false
theorem rT {P:Program} {id:Nat} {Q:Exit→Act→World→Prop} {a:Act} {w:World} {l:List Oper} (E:List Nat) (s:List (Nat×Kd)) (tl:List Nat) 
 (h:Rr.wr false P (fun _ _=>False) l.toArray w Rr.noM (fun a fs=>∀ w',Ext w w'→Holds fs w'→wpList P l.toArray Q (tl.filterMap (l[·]?)) a w') s a [] []) (hQp:∀ c a d v w,Q (.panic c) (a.put d v) w→Q (.panic c) a w:=by intro c a d v w h;have h':_∧_:=h;exact ⟨(Rs.put_defers a d v).symm.trans h'.1,h'.2⟩) (hm:P.follows .mixedOrders=true:=by kernel_rfl) (hB:@Rq.allT (Rr.gE false) P s tl E l=true:=by kernel_rfl):(Code.region id l.toArray true).wp P Q a w:=
 wp_regionTU false E s tl Rr.noM hQp hm hB h
end Go.Proofs.YteomcpplajeidaaGreat.Rp

namespace Go.Proofs.YteomcpplajeidaaGreat
open Go.RowKit
def SR {α:Type} (cs:α→List Value) (sz:Nat) (w:World) (v:Value) (xs:List α):Prop:=
 ∃ base cap,v=.slice base xs.length cap∧xs.length≤1000000∧(xs=[]∨∃ b,base=some ⟨b,0,none⟩∧∀ k (h:k < xs.length) j u,(cs xs[k])[j]? = some u→w.cell? ⟨b,k * sz+j,none⟩=some u)
theorem SR.ext {α:Type} {cs:α→List Value} {sz:Nat} {w w':World} {v:Value} {xs:List α} (h:SR cs sz w v xs) (e:Ext w w'):SR cs sz w' v xs:=by
 obtain ⟨base,cap,h1,h2,h3⟩:=h
 exact ⟨base,cap,h1,h2,h3.imp id fun ⟨b,hb,hc⟩=>⟨b,hb,fun k hk j u hu=>(e.cells.1 _ _ (zB w _ (hc k hk j u hu))).trans (hc k hk j u hu)⟩⟩
theorem SR.form {α:Type} {cs:α→List Value} {sz:Nat} {w:World} {v:Value} {xs:List α} (h:SR cs sz w v xs):∃ base cap,v=.slice base xs.length cap:=by
 obtain ⟨base,cap,h1,-⟩:=h
 exact ⟨base,cap,h1⟩
theorem SR.le {α:Type} {cs:α→List Value} {sz:Nat} {w:World} {v:Value} {xs:List α} (h:SR cs sz w v xs):xs.length≤1000000:=by
 obtain ⟨base,cap,h1,h2,-⟩:=h
 exact h2
theorem SR.block {α:Type} {cs:α→List Value} {sz:Nat} {w:World} {base:Option Addr} {n c:Nat} {xs:List α} (h:SR cs sz w (.slice base n c) xs) (k:Nat) (hk:k < xs.length) :
 ∃ b,base=some ⟨b,0,none⟩∧n=xs.length∧∀ k (h:k < xs.length) j u,(cs xs[k])[j]? = some u→w.cell? ⟨b,k * sz+j,none⟩=some u:=by
 obtain ⟨base',cap,h1,h2,h3⟩:=h
 injection h1 with e1 e2 e3
 subst e1 e2
 obtain ⟨b,hb,hc⟩:=h3.resolve_left (by intro e;rw [e] at hk;simp at hk)
 exact ⟨b,hb,rfl,hc⟩
theorem flat_get {α:Type} {cs:α→List Value} {sz:Nat}:∀ (us:List α) (_:∀ x∈us,(cs x).length=sz) (k:Nat) (h:k < us.length) (j:Nat) (u:Value),(cs us[k])[j]? = some u→(us.flatMap cs)[k * sz+j]? = some u
 | x :: us,hl,0,h,j,u,hu=>by
  have hj:j < (cs x).length:=(List.getElem?_eq_some_iff.1 hu).1
  rw [List.flatMap_cons,List.getElem?_append_left (by omega),Nat.zero_mul,Nat.zero_add]
  exact hu
 | x :: us,hl,k+1,h,j,u,hu=>by
  have h1:=hl x zM
  have h2:(k+1) * sz=k * sz+sz:=Nat.succ_mul k sz
  rw [List.flatMap_cons,List.getElem?_append_right (by omega),show (k+1) * sz+j - (cs x).length=k * sz+j by omega]
  exact flat_get us (fun y hy=>hl y (zN _ hy)) k (by simpa using h) j u hu
theorem SR.of_row {α:Type} {cs:α→List Value} {sz:Nat} (hl:∀ x,(cs x).length=sz) {B E:Nat} {w:World} {v:Value} {xs:List α} (h:w.ownsRow B E sz v xs.length (xs.flatMap cs)) (hn:xs.length≤1000000):SR cs sz w v xs:=by
 by_cases h0:xs=[]
 ·subst h0
  rcases h.2 with ⟨hn,-⟩|⟨g,cap,cur,hv,-⟩
  ·exact ⟨none,0,hn,by simp,.inl rfl⟩
  ·exact ⟨_,cap,hv,by simp,.inl rfl⟩
 ·have hp:0 < xs.length:=List.length_pos_iff.2 h0
  obtain ⟨g,cap,rfl,-,hlt⟩:=h.form hp
  refine ⟨_,cap,rfl,hn,.inr ⟨g,rfl,fun k hk j u hu=>?_⟩⟩
  have h1:=flat_get xs (fun x _=>hl x) k hk j u hu
  rw [h.cellAt (k * sz+j) (by rw [← h.1];exact (List.getElem?_eq_some_iff.1 h1).1)]
  exact h1
theorem row_ext {B E sz n:Nat} {w w':World} {v:Value} {xs:List Value} (ho:w.ownsRow B E sz v n xs) (e:Ext w w'):w'.ownsRow B E sz v n xs:=by
 refine ⟨ho.1,?_⟩
 rcases ho.2 with hn|⟨g,cap,cur,hv,hb,hg,rest⟩
 ·exact .inl hn
 ·exact .inr ⟨g,cap,cur,hv,hb,(e.block g (zL hg)).trans hg,rest⟩
theorem append_one {α:Type} {cs:α→List Value} {sz:Nat} (hl:∀ x,(cs x).length=sz∧∀ c∈cs x,c.oneCell' = true) (T E bytes:Nat) {z:Value} (hT:Tryz.prog.underlying T=some (.slice E))
 (hinfo:(Tryz.prog.info? E).map (fun i=>(i.zero,i.size,i.bytes))=some (some z,sz,bytes)) (hz:z.cells.size=sz) (h0:0 < sz) (hby:bytes≤100000)
 {ops:Array Oper} {rest:List Oper} {o:Oper} {a:Act} {Q:Exit→Act→World→Prop} {w:World} (hgd:o.guard=none) (s x:Operand)
 (ho:o.op=.call { callee:=.builtin .append,args:=#[s,x],argTypes:=#[T,T] }) (B:Nat) (v:Value) (vs:List α) (hs:a.eval s=v) (hF:w.ownsRow B E sz v vs.length (vs.flatMap cs))
 (p:Nat) (u:α) (hx:a.eval x=.slice (some ⟨p,0,none⟩) 1 1) (hp:w.heap[p]? = some (.cells (cs u).toArray E)) (hn:vs.length < 1000000) (hB:B≤w.heap.size)
 (h:∀ g cap w',w'.ownsRow B E sz (.slice (some ⟨g,0,none⟩) (vs.length+1) cap) (vs ++ [u]).length ((vs ++ [u]).flatMap cs)→Below B w w'→wpList Tryz.prog ops Q rest (a.put o.dst (.slice (some ⟨g,0,none⟩) (vs.length+1) cap)) w'):wpList Tryz.prog ops Q (o :: rest) a w:=by
 obtain ⟨i0,hi,hz0,hz1,hz2⟩:=info_parts hinfo
 refine wpList_append_lies w hgd s x T ho B E i0 _ sz bytes hT hi hz0 hz1 hz2 hz h0 v vs.length _ hs hF ⟨p,0,none⟩ 1 1 (cs u) hx (by rw [(hl u).1,Nat.one_mul]) ?_ (hl u).2 (by decide) (by unfold maxLen;omega) ?_ hB w.heap.size rfl ?_
 ·intro j c hc
  rw [addr_add,cell_of_row w p _ _ _ _ hp]
  simpa using hc
 ·have:(vs.length+1) * bytes≤1000000 * 100000:=Nat.mul_le_mul (by omega) hby
  omega
 ·intro g cap w' hw hg hat hlt
  refine h g cap w' ?_ ⟨hg.os,hg.tape,hg.output,hg.size,fun k hk=>hg.block k (by omega) ?_⟩
  ·rw [List.flatMap_append,List.length_append]
   simpa using hw
  ·intro e
   have:=(hF.lt k e.symm).1
   omega
structure Cr where
 name:ByteArray
 kind:Int
 low:Int
 high:Int
 less:Bool
structure Rq where
 name:ByteArray
 rel:ByteArray
 value:Int
def cellsLot (p:Int×Int):List Value:=[iV p.1,iV p.2]
def cellsCr (c:Cr):List Value:=[.string c.name,iV c.kind,iV c.low,iV c.high,.bool c.less]
def cellsRq (r:Rq):List Value:=[.string r.name,.string r.rel,iV r.value]
abbrev Sl:=Option Addr×Nat×Nat
abbrev slV (x:Sl):Value:=.slice x.1 x.2.1 x.2.2
structure TnR where
 nm:ByteArray
 ls:Sl
 cs:Sl
 rs:Sl
 low:Int
 high:Int
 fo:ByteArray
 f1:Int
 f2:Int
 fn:ByteArray
 fa:Sl
 ts:Sl
 most:Int
 ks:Sl
 budget:Int
 t0:Int
 t1:Int
 t2:Int
 t3:Int
 t4:Int
abbrev tenC (r:TnR):Array Value:=#[.string r.nm,slV r.ls,slV r.cs,slV r.rs,iV r.low,iV r.high,.string r.fo,iV r.f1,iV r.f2,.string r.fn,slV r.fa,slV r.ts,iV r.most,slV r.ks,iV r.budget,iV r.t0,iV r.t1,iV r.t2,iV r.t3,iV r.t4]
abbrev entC (bidder lot receipt price:Int) (vs:Sl):Array Value:=#[iV bidder,iV lot,iV receipt,iV price,slV vs]
abbrev leB:ByteArray:=⟨#[60,61]⟩
abbrev geB:ByteArray:=⟨#[62,61]⟩
def okC (vs:Vals) (c:Cr):Bool:=decide ((lkv vs c.name).2=1) && decide (c.low≤(lkv vs c.name).1) && decide ((lkv vs c.name).1≤c.high)
def knownC (cs:List Cr) (nm:ByteArray):Bool:=cs.any fun c=>c.name.toList == nm.toList
def reqE (vs:Vals) (r:Rq):Int:=
 if (lkv vs r.name).2=0 then 13
 else if (r.rel.toList == [60,61])=false∧(r.rel.toList == [62,61])=false then 1
 else if ((r.rel.toList == [60,61])=true∧r.value < (lkv vs r.name).1)∨((r.rel.toList == [62,61])=true∧(lkv vs r.name).1 < r.value) then 37 else 0
def reqsE (vs:Vals):List Rq→Int
 | []=>0
 | r :: l=>if reqE vs r=0 then reqsE vs l else reqE vs r
def restE (cs:List Cr) (rs:List Rq) (vs:Vals):Int:=
 if cs.all (okC vs)=false then 16 else if vs.all (fun v=>knownC cs v.1)=false then 13 else reqsE vs rs
def lotAt (ls:List (Int×Int)) (lot:Int):Option (Int×Int):=ls.find? fun l=>l.1 == lot
def admitI (ls:List (Int×Int)) (cs:List Cr) (rs:List Rq) (low high lot price:Int) (vs:Vals):Int:=
 match lotAt ls lot with
 | none=>34
 | some l=>if price < low∨high < price∨l.2 < price then 16 else restE cs rs vs
theorem all_drop {α:Type} (xs:List α) (p:α→Bool) (k:Nat) (h:k < xs.length):(xs.drop k).all p=(p xs[k] && (xs.drop (k+1)).all p):=by
 rw [List.drop_eq_getElem_cons h,List.all_cons]
theorem reqs_drop (vs:Vals) (rs:List Rq) (k:Nat) (h:k < rs.length):reqsE vs (rs.drop k)=if reqE vs rs[k]=0 then reqsE vs (rs.drop (k+1)) else reqE vs rs[k]:=by
 rw [List.drop_eq_getElem_cons h,reqsE]
theorem idx_find {α:Type} (q:α→Bool) (xs:List α) (p:Nat→Bool) (hp:∀ k (h:k < xs.length),p k=q xs[k]) :
 (xs.find? q=none∧idxZ p xs.length = -1)∨∃ k,∃ h:k < xs.length,xs.find? q=some xs[k]∧idxZ p xs.length=k:=by
 have key:∀ d k,d=xs.length - k→k≤xs.length→((xs.drop k).find? q=none∧idxFrom p xs.length d = -1)∨∃ j,∃ h:j < xs.length,(xs.drop k).find? q=some xs[j]∧idxFrom p xs.length d=j:=by
  intro d
  induction d with
  | zero=>intro k hd hk;exact .inl ⟨by rw [List.drop_eq_nil_of_le (by omega)];rfl,rfl⟩
  | succ d ih=>
   intro k hd hk
   have hlt:k < xs.length:=by omega
   rw [List.drop_eq_getElem_cons hlt,List.find?_cons,idxFrom,show xs.length - (d+1)=k by omega,hp k hlt]
   cases hq:q xs[k]
   ·simp only [Bool.false_eq_true,if_false]
    exact ih (k+1) (by omega) (by omega)
   ·exact .inr ⟨k,hlt,by simp,by simp⟩
 have:=key xs.length 0 (by omega) (by omega)
 simpa [idxZ] using this
theorem info83:(Tryz.prog.info? 72).map (fun i=>(i.zero,i.size,i.bytes))=some (some (.agg #[iV 0,iV 0]),2,16):=by kernel_rfl
theorem info85:(Tryz.prog.info? 78).map (fun i=>(i.zero,i.size,i.bytes))=some (some (.agg #[.string ⟨#[]⟩,iV 0,iV 0,iV 0,.bool false]),5,48):=by kernel_rfl
theorem info108:(Tryz.prog.info? 88).map (fun i=>(i.zero,i.size,i.bytes))=some (some (.agg #[.string ⟨#[]⟩,.string ⟨#[]⟩,iV 0]),3,40):=by kernel_rfl
theorem one_lot (x:Int×Int):(cellsLot x).length=2∧∀ c∈cellsLot x,c.oneCell' = true:=⟨rfl,by intro c hc;simp [cellsLot] at hc;rcases hc with rfl|rfl <;> rfl⟩
theorem one_cr (x:Cr):(cellsCr x).length=5∧∀ c∈cellsCr x,c.oneCell' = true:=⟨rfl,by intro c hc;simp [cellsCr] at hc;rcases hc with rfl|rfl|rfl|rfl|rfl <;> rfl⟩
theorem one_rq (x:Rq):(cellsRq x).length=3∧∀ c∈cellsRq x,c.oneCell' = true:=⟨rfl,by intro c hc;simp [cellsRq] at hc;rcases hc with rfl|rfl|rfl <;> rfl⟩
theorem one_val (x:ByteArray×Int):(cellsP x).length=2∧∀ c∈cellsP x,c.oneCell' = true:=⟨rfl,by intro c hc;simp [cellsP] at hc;rcases hc with rfl|rfl <;> rfl⟩
def worS (s:ByteArray):Bool:=namS s && !(s.toList == [112,114,105,99,101]) && !(s.toList == [108,111,119]) && !(s.toList == [109,105,110]) && !(s.toList == [109,97,120])
theorem IsWord_any (s:ByteArray) (hs:s.size≤1000000) (w:World):Calls Tryz.prog 150 #[.string s] w fun e w'=>e=.returned (.bool (worS s))∧w=w':=by
 have HN:=zH (IsName_any s hs w)
 unfold worS
 cases h0:namS s with
 | false=>
  rw [h0] at HN
  clear h0
  go_in
  go_wp2_with (go_at_call 93;(refine HN.out.mono ?_);rintro e w1 ⟨rfl,rfl⟩)
  go_ret
  exact ⟨rfl,rfl⟩
 | true=>
  rw [h0] at HN
  clear h0
  cases h1:(s.toList == [112,114,105,99,101])
  ·cases h2:(s.toList == [108,111,119])
   ·cases h3:(s.toList == [109,105,110])
    ·cases h4:(s.toList == [109,97,120])
     ·skip
      go_in
      go_wp2_with (go_at_call 93;(refine HN.out.mono ?_);rintro e w1 ⟨rfl,rfl⟩)
      go_ret
      exact ⟨by simp,rfl⟩
     ·skip
      go_in
      go_wp2_with (go_at_call 93;(refine HN.out.mono ?_);rintro e w1 ⟨rfl,rfl⟩)
      go_ret
      exact ⟨by simp,rfl⟩
    ·skip
     go_in
     go_wp2_with (go_at_call 93;(refine HN.out.mono ?_);rintro e w1 ⟨rfl,rfl⟩)
     go_ret
     exact ⟨by simp,rfl⟩
   ·skip
    go_in
    go_wp2_with (go_at_call 93;(refine HN.out.mono ?_);rintro e w1 ⟨rfl,rfl⟩)
    go_ret
    exact ⟨by simp,rfl⟩
  ·skip
   go_in
   go_wp2_with (go_at_call 93;(refine HN.out.mono ?_);rintro e w1 ⟨rfl,rfl⟩)
   go_ret
   exact ⟨by simp,rfl⟩
def tokC (t:ByteArray×Int):List Value:=[.string t.1,iV t.2]
theorem tok_at {w:World} {base:Option Addr} {n c:Nat} {l:List (ByteArray×Int)} (h:SR tokC 2 w (.slice base n c) l) (k:Nat) (hk:k < l.length) :
 ∃ g,base=some ⟨g,0,none⟩∧n=l.length∧g < w.heap.size∧w.cell? ⟨g,k * 2,none⟩=some (.string l[k].1)∧w.cell? ⟨g,k * 2+1,none⟩=some (iV l[k].2):=by
 obtain ⟨b,hb,hn,hc⟩:=h.block k hk
 have h0:=hc k hk 0 _ rfl
 have h1:=hc k hk 1 _ rfl
 exact ⟨b,hb,hn,zB w _ h0,h0,h1⟩
theorem text_any (p:Nat) (tv:Value) (l:List (ByteArray×Int)) (k:Nat) (w:World) (h0:w.cell? ⟨p,0,none⟩=some tv) (h1:w.cell? ⟨p,1,none⟩=some (iV k)) (hl:SR tokC 2 w tv l) (hk:k < l.length) :
 Calls Tryz.prog 140 #[.pointer (some ⟨p,0,none⟩)] w fun e w'=>e=.returned (.string l[k].1)∧Ext w w':=by
 obtain ⟨base,cap,rfl⟩:=hl.form
 have hll:=hl.le
 obtain ⟨g,rfl,-,hg,d0,-⟩:=tok_at hl k hk
 have hp:=zB w _ h0
 generalize l[k].1=s at *
 clear hl
 go_in
 go_upto_region 1 with (fail)
 go_quiet (fail)
 go_wp2
 go_ret
 exact ⟨rfl,xt⟩
def strC (s:ByteArray):List Value:=[.string s]
def amoS (l:List ByteArray) (s:ByteArray):Bool:=l.any fun x=>x.toList == s.toList
theorem str_at {w:World} {base:Option Addr} {n c:Nat} {l:List ByteArray} (h:SR strC 1 w (.slice base n c) l) (k:Nat) (hk:k < l.length) :
 ∃ g,base=some ⟨g,0,none⟩∧n=l.length∧g < w.heap.size∧w.cell? ⟨g,k,none⟩=some (.string l[k]):=by
 obtain ⟨b,hb,hn,hc⟩:=h.block k hk
 have h0:=hc k hk 0 _ rfl
 rw [Nat.mul_one,Nat.add_zero] at h0
 exact ⟨b,hb,hn,zB w _ h0,h0⟩
theorem among_any (v:Value) (l:List ByteArray) (s:ByteArray) (w:World) (hl:SR strC 1 w v l):Calls Tryz.prog 141 #[v,.string s] w fun e w'=>e=.returned (.bool (amoS l s))∧Ext w w':=by
 obtain ⟨base,cap,rfl⟩:=hl.form
 have hll:=hl.le
 have HL:=zH hl
 have HA:Hid (amoS l s=l.any fun x=>x.toList == s.toList):=zH rfl
 clear hl
 go_in
 go_upto_region 2 with (fail)
 go_loopw [5] (fun kv wr=>∃ k:Nat,kv=iV k∧k≤l.length∧Hid ((l.take k).any (fun x=>x.toList == s.toList)=false)∧Hid (Ext w wr)) (fun kv _=>l.length - (iof kv).toNat)
 case atStart=>exact ⟨0,rfl,Nat.zero_le _,zH rfl,zH (Ext.refl _)⟩
 case round=>
  rename World=>wo
  obtain ⟨k,rfl,hk,HD,HX⟩:=hrel
  by_cases hkl:k < l.length
  ·obtain ⟨g,rfl,-,hg,d0⟩:=str_at (HL.out.ext HX.out) k hkl
   have HTK:Hid (l.take (k+1)=l.take k ++ [l[k]]):=zH (List.take_succ_eq_append_getElem hkl)
   have HIN:Hid (l[k]∈l):=zH (List.getElem_mem hkl)
   generalize l[k]=x at *
   cases he:(x.toList == s.toList) with
   | true=>
    have HR:Hid (amoS l s=true):=zH (by rw [HA.out];exact List.any_eq_true.2 ⟨x,HIN.out,he⟩)
    go_wp2
    go_ret
    exact ⟨by rw [HR.out];rfl,HX.out.trans xt⟩
   | false=>
    have HN:Hid ((l.take (k+1)).any (fun x=>x.toList == s.toList)=false):=zH (by rw [HTK.out,List.any_append,HD.out];simp [he])
    go_wp2_with (fail)
    exact ⟨⟨k+1,by simp,by omega,HN,zH (HX.out.trans xt)⟩,by simp [iof];omega⟩
  ·obtain rfl:k=l.length:=by omega
   have HR:Hid (amoS l s=false):=zH (by rw [HA.out,← HD.out,List.take_length])
   go_wp2
   go_ret
   exact ⟨by rw [HR.out];rfl,HX.out⟩
theorem seenW_any (p:Nat) (v:Value) (l:List ByteArray) (s:ByteArray) (w:World) (hp:w.cell? ⟨p,25,none⟩=some v) (hl:SR strC 1 w v l):Calls Tryz.prog 92 #[.pointer (some ⟨p,0,none⟩),.string s] w fun e w'=>e=.returned (.bool (amoS l s))∧Ext w w':=by
 obtain ⟨base,cap,rfl⟩:=hl.form
 have hll:=hl.le
 have HL:=zH hl
 have HP:=zH hp
 have HPL:=zH (zB w _ hp)
 have HA:Hid (amoS l s=l.any fun x=>x.toList == s.toList):=zH rfl
 clear hl hp
 go_in
 go_upto_region 2 with (fail)
 go_loopw [5] (fun kv wr=>∃ k:Nat,kv=iV k∧k≤l.length∧Hid ((l.take k).any (fun x=>x.toList == s.toList)=false)∧Hid (Ext w wr)) (fun kv _=>l.length - (iof kv).toNat)
 case atStart=>exact ⟨0,rfl,Nat.zero_le _,zH rfl,zH (Ext.refl _)⟩
 case round=>
  rename World=>wo
  obtain ⟨k,rfl,hk,HD,HX⟩:=hrel
  have p0:=(HX.out.cells.1 _ _ HPL.out).trans HP.out
  have pl:=Nat.lt_of_lt_of_le HPL.out HX.out.size
  by_cases hkl:k < l.length
  ·obtain ⟨g,hga,-,hg,d0⟩:=str_at (HL.out.ext HX.out) k hkl
   rw [hga] at p0
   clear hga
   have HTK:Hid (l.take (k+1)=l.take k ++ [l[k]]):=zH (List.take_succ_eq_append_getElem hkl)
   have HIN:Hid (l[k]∈l):=zH (List.getElem_mem hkl)
   generalize l[k]=x at *
   cases he:(x.toList == s.toList) with
   | true=>
    have HR:Hid (amoS l s=true):=zH (by rw [HA.out];exact List.any_eq_true.2 ⟨x,HIN.out,he⟩)
    go_wp2
    go_ret
    exact ⟨by rw [HR.out];rfl,HX.out.trans xt⟩
   | false=>
    have HN:Hid ((l.take (k+1)).any (fun x=>x.toList == s.toList)=false):=zH (by rw [HTK.out,List.any_append,HD.out];simp [he])
    go_wp2_with (fail)
    exact ⟨⟨k+1,by simp,by omega,HN,zH (HX.out.trans xt)⟩,by simp [iof];omega⟩
  ·obtain rfl:k=l.length:=by omega
   have HR:Hid (amoS l s=false):=zH (by rw [HA.out,← HD.out,List.take_length])
   go_wp2
   go_ret
   exact ⟨by rw [HR.out];rfl,HX.out⟩
end Go.Proofs.YteomcpplajeidaaGreat
