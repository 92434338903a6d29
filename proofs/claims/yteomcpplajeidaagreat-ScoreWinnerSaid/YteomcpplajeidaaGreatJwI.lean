/-
  Lemmas of this claim (JwI). Nothing is asked.
-/
import Derived.Test.YteomcpplajeidaaGreatJwH
import Derived.Defers
import Derived.Recover
import Derived.Laws.Pointers
import Derived.Laws.OwnMore
import Derived.Deep.AppendLies
import Derived.Deep.Onto
import Derived.Outline
set_option linter.unusedVariables false
set_option linter.unusedSimpArgs false
set_option maxRecDepth 100000
set_option maxHeartbeats 40000000
namespace Go.Proofs.YteomcpplajeidaaGreat
open Go.RowKit
theorem valueE_I2 {S:Nat→Prop} {vs:Vals} (hvs:VR vs):∀ (d:Nat) (t:Ex) (_:t.depth≤d) {w:World} {v:Value} (_:Rd S w t v) {x:Int×Int},valueE vs t=.ok x→I2 x
 | 0,.mk op n nm ts,hd,_,_,_,_,_=>by rw [Ex.depth] at hd;omega
 | d+1,.mk op n nm ts,hd,w,v,hv,x,hx=>by
  unfold Rd at hv
  obtain ⟨base,cap,hv,hn,-,hr⟩:=hv
  rw [valueE] at hx
  split at hx
  ·injection hx with hx;rw [← hx];exact hn
  ·split at hx
   ·cases hl:look vs nm with
    | none=>rw [hl] at hx;cases hx
    | some k=>
     rw [hl] at hx
     injection hx with hx
     have:=look_range hvs hl
     rw [← hx]
     exact ⟨this.1,this.2,by show (-9223372036854775808:Int)≤1;decide,by show (1:Int)≤9223372036854775807;decide⟩
   ·match ts,hd,hr with
    | [],_,_=>simp [valueL] at hx
    | [_],_,_=>simp [valueL] at hx
    | _ :: _ :: _ :: _,_,_=>simp [valueL] at hx
    | [ta,tb],hd,hr=>
     rw [Ex.depth,Ex.depthL,Ex.depthL,Ex.depthL] at hd
     rcases hr with hr|⟨b,-,-,hl⟩
     ·cases hr
     obtain ⟨c,-,hra⟩:=hl.get 0 (by simp)
     obtain ⟨e,-,hrb⟩:=hl.get 1 (by simp)
     simp only [List.getElem_cons_zero,List.getElem_cons_succ] at hra hrb
     simp only [valueL] at hx
     cases ha:valueE vs ta with
     | error f=>rw [ha] at hx;cases hx
     | ok y=>
      cases hb:valueE vs tb with
      | error f=>rw [ha,hb] at hx;cases hx
      | ok z=>
       rw [ha,hb] at hx
       have ia:=valueE_I2 hvs d ta (by omega) hra ha
       have ib:=valueE_I2 hvs d tb (by omega) hrb hb
       have:=applyI_I2 (opIx op).toNat y z ia ib
       simp only [appE] at hx
       split at hx
       ·injection hx with hx;rw [← hx];exact this
       ·cases hx
theorem value_any (S:Nat→Prop) (vs:Vals):∀ (d:Nat) (t:Ex) (_:t.depth≤d) (_:formedB t=true) (w:World) (v sl:Value) (_:Rd S w t v) (_:VRd S w vs sl),
 Calls Tryz.prog 90 #[v,sl] w fun e w'=>e=endE (valueE vs t)∧Ext w w'
 | 0,.mk op n nm ts,hd,_,_,_,_,_,_=>by rw [Ex.depth] at hd;omega
 | d+1,.mk op n nm ts,hd,hf,w,v,sl,hv,hs=>by
  rw [formedB] at hf
  rw [valueE]
  cases h0:(op.toList == [110,117,109])
  ·rw [h0] at hf
   cases h:(op.toList == [110,97,109,101])
   ·rw [h] at hf
    simp only [Bool.false_eq_true,if_false] at hf ⊢
    simp only [Bool.and_eq_true,Bool.not_eq_true',beq_eq_false_iff_ne,ne_eq,beq_iff_eq] at hf
    obtain ⟨hi,h2,-,-,hl⟩:=hf
    match ts,h2,hl,hd,hv with
    | [ta,tb],_,hl,hd,hv=>
     rw [Ex.depth,Ex.depthL,Ex.depthL,Ex.depthL] at hd
     simp only [formedL,Bool.and_eq_true,Bool.and_true] at hl
     have ia:=fun w v sl hv hs=>value_any S vs d ta (by omega) hl.1 w v sl hv hs
     have ib:=fun w v sl hv hs=>value_any S vs d tb (by omega) hl.2 w v sl hv hs
     simp only [valueL]
     cases ha:valueE vs ta with
     | error f=>exact value_op1 S op n nm ta tb h0 h hi vs w v sl hv hs _ _ ia ib f ha
     | ok y=>
      cases hb:valueE vs tb with
      | error f=>exact value_op2 S op n nm ta tb h0 h hi vs w v sl hv hs _ _ ia ib y f ha hb
      | ok z=>
       have hvs:VR vs:=by obtain ⟨_,_,_,_,h,_⟩:=hs;exact h
       have hra:∃ w v,Rd S w ta v:=by
        unfold Rd at hv
        obtain ⟨base,cap,hv,hn,-,hr⟩:=hv
        rcases hr with hr|⟨b,-,-,hl⟩
        ·cases hr
        obtain ⟨c,-,hra⟩:=hl.get 0 (by simp)
        exact ⟨_,_,hra⟩
       have hrb:∃ w v,Rd S w tb v:=by
        unfold Rd at hv
        obtain ⟨base,cap,hv,hn,-,hr⟩:=hv
        rcases hr with hr|⟨b,-,-,hl⟩
        ·cases hr
        obtain ⟨c,-,hrb⟩:=hl.get 1 (by simp)
        exact ⟨_,_,hrb⟩
       obtain ⟨wa,va,hra⟩:=hra
       obtain ⟨wb,vb,hrb⟩:=hrb
       have hb6:=opIx_bd op
       exact value_op3 S op n nm ta tb h0 h hi vs w v sl hv hs _ _ ia ib y z ha hb (applyI (opIx op).toNat y z)
        (fun w=>apply_any div64_said _ (by omega) y z (valueE_I2 hvs d ta (by omega) hra ha) (valueE_I2 hvs d tb (by omega) hrb hb) w) _ (zH rfl)
   ·simp only [Bool.false_eq_true,if_false,if_true]
    exact value_name S op n nm ts h0 h vs w v sl hv hs
  ·simp only [if_true]
   exact (value_num S op n nm ts h0 w v sl hv)
theorem catch_idle (p q:Nat) (w:World) :
 CallsD Tryz.prog 89 #[.pointer (some ⟨p,0,none⟩),.pointer (some ⟨q,0,none⟩)] .returning w fun e u' w'=>e=.returned (.tuple #[])∧u' = .returning∧w' = w:=by
 refine callsD_of_wpS Tryz.func89 rfl fun c₀ cs hu=>?_
 apply wpS_seq
 apply wpS_region
 simp [wpOpsS,go_sem,recoverD,hu,Tryz.ntmps89,Exit.thenS]
 refine wpS_of_wp ?_
 go_wp2
 cases c₀
 simp_all [bodyPostS,results,Tryz.results89]
theorem frame14 (a b v:Value):(#[a,b] ++ (Array.replicate 12 undef).setIfInBounds 3 v:Array Value)=#[a,b,undef,undef,undef,v,undef,undef,undef,undef,undef,undef,undef,undef]:=rfl
theorem assert91 (f:Int) (w:World):(Instr.typeAssert (.iface 159 (.agg #[iV f])) 20 159 true).run Tryz.prog w=.ok (.tuple #[.agg #[iV f],.bool true]) w:=by kernel_rfl
theorem catch_panic (B p q:Nat) (f a b c:Int) (older:List PanicEntry) (w:World) (h0:w.cell? ⟨p,0,none⟩=some (iV a)) (h1:w.cell? ⟨p,1,none⟩=some (iV b)) (h2:w.cell? ⟨q,0,none⟩=some (iV c))
 (f0:w.frozen? ⟨p,0,none⟩=false) (f1:w.frozen? ⟨p,1,none⟩=false) (f2:w.frozen? ⟨q,0,none⟩=false) (hpq:¬ p=q) (hp:B≤p) (hq:B≤q) (hB:B≤w.heap.size) :
  CallsD Tryz.prog 89 #[.pointer (some ⟨p,0,none⟩),.pointer (some ⟨q,0,none⟩)] (.panicking ({ v:=.iface 159 (.agg #[iV f]),recovered:=false } :: older)) w fun e u' w'=>e=.returned (.tuple #[])∧u' = .panicking ({ v:=.iface 159 (.agg #[iV f]),recovered:=true } :: older) ∧
   w'.cell? ⟨p,0,none⟩=some (iV 0)∧w'.cell? ⟨p,1,none⟩=some (iV 0)∧w'.cell? ⟨q,0,none⟩=some (iV f)∧Below B w w':=by
 refine callsD_of_wpS Tryz.func89 rfl fun c₀ cs hu=>?_
 apply wpS_seq
 apply wpS_region
 simp [wpOpsS,go_sem,recoverD,hu,Tryz.ntmps89,Exit.thenS]
 refine wpS_of_wp ?_
 rw [frame14]
 have hta:=assert91 f
 have np:¬ p=w.heap.size:=by have:=zB w _ h0;simp at this;omega
 have nq:¬ q=w.heap.size:=by have:=zB w _ h2;simp at this;omega
 have np':¬ w.heap.size=p:=by omega
 have nq':¬ w.heap.size=q:=by omega
 go_wp2
 have e0:Below B w (w.alloc (Obj.cells #[iV f] 159)):=(Below.refl _ _).alloc hB _
 have hc:=(Ext.alloc (Ext.refl w) (Obj.cells #[iV f] 159)).cells
 have pl:p < w.heap.size:=zB w _ h0
 have ql:q < w.heap.size:=zB w _ h2
 have k0:=(hc.1 _ _ pl).trans h0
 have k1:=(hc.1 _ _ pl).trans h1
 have k2:=(hc.1 _ _ ql).trans h2
 have m0:=(hc.2 _ _ pl).trans f0
 have m1:=(hc.2 _ _ pl).trans f1
 have m2:=(hc.2 _ _ ql).trans f2
 have k3:(w.alloc (Obj.cells #[iV f] 159)).cell? ⟨w.heap.size,0,none⟩=some (iV f):=by simp [go_sem]
 clear hc pl ql hB h0 h1 h2 f0 f1 f2
 generalize w.alloc (Obj.cells #[iV f] 159)=W at *
 generalize w.heap.size=r at *
 have qp:¬ q=p:=fun e=>hpq e.symm
 go_region
 cases c₀
 simp only at hu
 subst hu
 refine ⟨rfl,_,rfl,_,results_none rfl _ _ _,rfl,rfl,?_,?_,?_,(((e0.setCell (p:=⟨p,0,none⟩) hp _).setCell (p:=⟨p,1,none⟩) hp _).setCell (p:=⟨q,0,none⟩) hq _).drew⟩
 ·go_simp
 ·go_simp
 ·go_simp
def evalI (vs:Vals) (t:Ex):(Int×Int)×Int:=
 if wrongI t=0 then (match valueE vs t with | .ok x=>(x,0) | .error f=>((0,0),f)) else ((0,0),wrongI t)
theorem eval_wrong (S:Nat→Prop) (vs:Vals) (t:Ex) (h:¬ wrongI t=0) (w:World) (v sl:Value) (hv:Rd S w t v) :
 Calls Tryz.prog 53 #[v,sl] w fun e w'=>e=.returned (rev ((0,0),wrongI t))∧Ext w w':=by
 have HW:=zH (fun w' (hw:Ext w w')=>wrong_any S t w' v (Rd.ext hw hv))
 have hsh:∃ op n1 n2 nm base len cap,v=.agg #[.string op,iV n1,iV n2,.string nm,.slice base len cap]:=by
  obtain ⟨op,n,nm,ts⟩:=t
  unfold Rd at hv
  obtain ⟨base,cap,hv,-⟩:=hv
  exact ⟨_,_,_,_,_,_,_,hv⟩
 obtain ⟨op,n1,n2,nm,base,len,cap,rfl⟩:=hsh
 clear hv
 generalize wrongI t=k at *
 go_enter_defers Tryz.func53,Tryz.ntmps53
 go_wp2_with (go_at_call 88;(refine (HW.out _ xt).mono ?_);rintro e w1 ⟨rfl,hb⟩;obtain ⟨hc,hf⟩:=hb.cells;have hz:=hb.size;simp at hz;have z1:w.heap.size < w1.heap.size:=(by omega);have z2:w.heap.size+1 < w1.heap.size:=(by omega);have z3:w.heap.size+1+1 < w1.heap.size:=(by omega))
 have g1:w1.cell? ⟨w.heap.size+1,0,none⟩=some (iV 0):=by go_simp
 have g2:w1.cell? ⟨w.heap.size+1,1,none⟩=some (iV 0):=by go_simp
 have g3:w1.cell? ⟨w.heap.size+1+1,0,none⟩=some (iV 0):=by go_simp
 exact ⟨rev ((0,0),k),by simp [results,Tryz.results53,go_sem,g1,g2,g3],rfl,xt⟩
theorem eval_ok (S:Nat→Prop) (vs:Vals) (t:Ex) (h:wrongI t=0) (w:World) (v sl:Value) (hv:Rd S w t v) (hs:VRd S w vs sl) (x:Int×Int) (hx:valueE vs t=.ok x) :
 Calls Tryz.prog 53 #[v,sl] w fun e w'=>e=.returned (rev (x,0))∧Ext w w':=by
 have HW:=zH (fun w' (hw:Ext w w')=>wrong_any S t w' v (Rd.ext hw hv))
 have hd:t.depth≤12∧formedB t=true:=by
  unfold wrongI at h
  split at h
  ·rename_i h1
   split at h
   ·rename_i h2;exact ⟨h1.2,h2⟩
   ·cases h
  ·cases h
 have HV:=zH (fun w' (hw:Ext w w')=>value_any S vs 12 t hd.1 hd.2 w' v sl (Rd.ext hw hv) (hs.ext hw))
 have hsh:∃ op n1 n2 nm base len cap,v=.agg #[.string op,iV n1,iV n2,.string nm,.slice base len cap]:=by
  obtain ⟨op,n,nm,ts⟩:=t
  unfold Rd at hv
  obtain ⟨base,cap,hv,-⟩:=hv
  exact ⟨_,_,_,_,_,_,_,hv⟩
 obtain ⟨op,n1,n2,nm,base,len,cap,rfl⟩:=hsh
 clear hv hd hs
 rw [h] at HW
 rw [hx] at HV
 obtain ⟨x1,x2⟩:=x
 simp only [endE] at HV
 clear h hx
 have hmf:∀ (fn:Fn) (first cap:Array Value) (w:World),(Instr.makeFunc fn first cap).run Tryz.prog w=.ok (.func fn first cap) w:=fun _ _ _ _=>rfl
 go_enter_defers Tryz.func53,Tryz.ntmps53
 go_wp2_with (first
  |(go_at_call 88;(with_reducible refine (HW.out _ xt).mono ?_);rintro e w1 ⟨rfl,hb⟩;obtain ⟨hc,hf⟩:=hb.cells;have hz:=hb.size;simp at hz;have z1:w.heap.size < w1.heap.size:=(by omega);have z2:w.heap.size+1 < w1.heap.size:=(by omega);have z3:w.heap.size+1+1 < w1.heap.size:=(by omega))
  |(go_at_call 90;(with_reducible refine (HV.out _ xt).mono ?_);rintro e w2 ⟨rfl,hb2⟩;obtain ⟨hc2,hf2⟩:=hb2.cells;have hz2:=hb2.size))
 have g1:w2.cell? ⟨w.heap.size+1,0,none⟩=some (iV 0):=by go_simp
 have g2:w2.cell? ⟨w.heap.size+1,1,none⟩=some (iV 0):=by go_simp
 have g3:w2.cell? ⟨w.heap.size+1+1,0,none⟩=some (iV 0):=by go_simp
 refine leaves_cons (f:=89) (args:=#[.pointer (some ⟨w.heap.size+1,0,none⟩),.pointer (some ⟨w.heap.size+1+1,0,none⟩)]) (by simp) (by simp [go_sem]) ?_
 refine (catch_idle _ _ _).mono ?_
 rintro e u' w'' ⟨rfl,rfl,rfl⟩
 exact ⟨rev ((x1,x2),0),by simp [results,Tryz.results53,go_sem,g1,g2,g3],rfl,xt⟩
theorem eval_err (S:Nat→Prop) (vs:Vals) (t:Ex) (h:wrongI t=0) (w:World) (v sl:Value) (hv:Rd S w t v) (hs:VRd S w vs sl) (f:Int) (hx:valueE vs t=.error f) :
 Calls Tryz.prog 53 #[v,sl] w fun e w'=>e=.returned (rev ((0,0),f))∧Ext w w':=by
 have HW:=zH (fun w' (hw:Ext w w')=>wrong_any S t w' v (Rd.ext hw hv))
 have hd:t.depth≤12∧formedB t=true:=by
  unfold wrongI at h
  split at h
  ·rename_i h1
   split at h
   ·rename_i h2;exact ⟨h1.2,h2⟩
   ·cases h
  ·cases h
 have HV:=zH (fun w' (hw:Ext w w')=>value_any S vs 12 t hd.1 hd.2 w' v sl (Rd.ext hw hv) (hs.ext hw))
 have hsh:∃ op n1 n2 nm base len cap,v=.agg #[.string op,iV n1,iV n2,.string nm,.slice base len cap]:=by
  obtain ⟨op,n,nm,ts⟩:=t
  unfold Rd at hv
  obtain ⟨base,cap,hv,-⟩:=hv
  exact ⟨_,_,_,_,_,_,_,hv⟩
 obtain ⟨op,n1,n2,nm,base,len,cap,rfl⟩:=hsh
 clear hv hd hs
 rw [h] at HW
 rw [hx] at HV
 simp only [endE] at HV
 clear h hx
 have hmf:∀ (fn:Fn) (first cap:Array Value) (w:World),(Instr.makeFunc fn first cap).run Tryz.prog w=.ok (.func fn first cap) w:=fun _ _ _ _=>rfl
 go_enter_defers Tryz.func53,Tryz.ntmps53
 go_wp2_with (first
  |(go_at_call 88;(with_reducible refine (HW.out _ xt).mono ?_);rintro e w1 ⟨rfl,hb⟩;obtain ⟨hc,hf⟩:=hb.cells;have hz:=hb.size;simp at hz;have z1:w.heap.size < w1.heap.size:=(by omega);have z2:w.heap.size+1 < w1.heap.size:=(by omega);have z3:w.heap.size+1+1 < w1.heap.size:=(by omega))
  |(go_at_call 90;(with_reducible refine (HV.out _ xt).mono ?_);rintro e w2 ⟨rfl,hb2⟩;obtain ⟨hc2,hf2⟩:=hb2.cells;have hz2:=hb2.size))
 have g1:w2.cell? ⟨w.heap.size+1,0,none⟩=some (iV 0):=by go_simp
 have g2:w2.cell? ⟨w.heap.size+1,1,none⟩=some (iV 0):=by go_simp
 have g3:w2.cell? ⟨w.heap.size+1+1,0,none⟩=some (iV 0):=by go_simp
 have p1:w2.frozen? ⟨w.heap.size+1,0,none⟩=false:=by go_simp
 have p2:w2.frozen? ⟨w.heap.size+1,1,none⟩=false:=by go_simp
 have p3:w2.frozen? ⟨w.heap.size+1+1,0,none⟩=false:=by go_simp
 have hx2:Ext w w2:=xt
 refine leaves_cons (f:=89) (args:=#[.pointer (some ⟨w.heap.size+1,0,none⟩),.pointer (some ⟨w.heap.size+1+1,0,none⟩)]) (by simp) (by simp [go_sem]) ?_
 refine (catch_panic w.heap.size (w.heap.size+1) (w.heap.size+1+1) f _ _ _ [] _ g1 g2 g3 p1 p2 p3 (by omega) (by omega) (by omega) hx2.size).mono ?_
 rintro e u' w'' ⟨rfl,rfl,c1,c2,c3,hbb⟩
 exact ⟨rev ((0,0),f),by simp [results,Tryz.results53,go_sem,c1,c2,c3],rfl,Below.trans hx2 hbb⟩
theorem eval_any (S:Nat→Prop) (vs:Vals) (t:Ex) (w:World) (v sl:Value) (hv:Rd S w t v) (hs:VRd S w vs sl) :
 Calls Tryz.prog 53 #[v,sl] w fun e w'=>e=.returned (rev (evalI vs t))∧Ext w w':=by
 unfold evalI
 by_cases h:wrongI t=0
 ·rw [if_pos h]
  cases hx:valueE vs t with
  | ok x=>exact eval_ok S vs t h w v sl hv hs x hx
  | error f=>exact eval_err S vs t h w v sl hv hs f hx
 ·rw [if_neg h]
  exact eval_wrong S vs t h w v sl hv
abbrev numB:ByteArray:=⟨#[110,117,109]⟩
abbrev nameB:ByteArray:=⟨#[110,97,109,101]⟩
abbrev nilB:ByteArray:=⟨#[]⟩
abbrev leaf (op:ByteArray) (n:Int×Int) (nm:ByteArray):Ex:=.mk op n nm []
abbrev numE (n:Int×Int):Ex:=leaf numB n nilB
abbrev nameE (nm:ByteArray):Ex:=leaf nameB (0,0) nm
theorem I2.zero:I2 (0,0):=⟨by decide,by decide,by decide,by decide⟩
theorem I2.int {n:Int} (h1:-9223372036854775808≤n) (h2:n≤9223372036854775807):I2 (n,1):=⟨h1,h2,by show (-9223372036854775808:Int)≤1;decide,by show (1:Int)≤9223372036854775807;decide⟩
theorem block_new {w:World} {o:Obj} {n:Nat} (h:w.heap.size=n):(w.alloc o).heap[n]? = some o:=by
 rw [← h];exact heap_alloc_new w o
def at5 (a0 a1 a2 a3 a4:Value):Nat→Value
 | 0=>a0|1=>a1|2=>a2|3=>a3|_=>a4
theorem cells10 {w:World} {p:Nat} {a0 a1 a2 a3 a4 b0 b1 b2 b3 b4:Value} {t:TypeId} (h:w.heap[p]? = some (.cells #[a0,a1,a2,a3,a4,b0,b1,b2,b3,b4] t)) :
 cellsE w p 0 (at5 a0 a1 a2 a3 a4)∧cellsE w p 1 (at5 b0 b1 b2 b3 b4):=by
 constructor
 ·intro j hj
  rw [cell_of_row w p _ _ _ _ h]
  match j,hj with
  | 0,_=>rfl
  | 1,_=>rfl
  | 2,_=>rfl
  | 3,_=>rfl
  | 4,_=>rfl
 ·intro j hj
  rw [cell_of_row w p _ _ _ _ h]
  match j,hj with
  | 0,_=>rfl
  | 1,_=>rfl
  | 2,_=>rfl
  | 3,_=>rfl
  | 4,_=>rfl
open Go.RowKit
theorem wrong_zero {t:Ex} (h:wrongI t=0):t.parts≤60∧t.depth≤12∧formedB t=true:=by
 unfold wrongI at h
 split at h
 ·rename_i h1
  split at h
  ·rename_i h2;exact ⟨h1.1,h1.2,h2⟩
  ·cases h
 ·cases h
theorem Rd.form {S:Nat→Prop} {w:World} {t:Ex} {v:Value} (h:Rd S w t v):∃ op n1 n2 nm base len cap,v=.agg #[.string op,iV n1,iV n2,.string nm,.slice base len cap]:=by
 obtain ⟨op,n,nm,ts⟩:=t
 unfold Rd at h
 obtain ⟨base,cap,hv,-⟩:=h
 exact ⟨_,_,_,_,_,_,_,hv⟩
open Go.RowKit
theorem Ex.depth_get:∀ (ts:List Ex) (k:Nat) (h:k < ts.length),ts[k].depth≤Ex.depthL ts
 | t :: ts,0,_=>by rw [Ex.depthL];exact Nat.le_max_left _ _
 | t :: ts,k+1,h=>by
  rw [Ex.depthL]
  exact Nat.le_trans (Ex.depth_get ts k (by simpa using h)) (Nat.le_max_right _ _)
open Go.RowKit
abbrev priceB:ByteArray:=⟨#[112,114,105,99,101]⟩
abbrev lowB:ByteArray:=⟨#[108,111,119]⟩
abbrev mulB:ByteArray:=⟨#[42]⟩
abbrev quoB:ByteArray:=⟨#[47]⟩
abbrev subB:ByteArray:=⟨#[45]⟩
abbrev addB:ByteArray:=⟨#[43]⟩
abbrev opE' (s:ByteArray) (a b:Ex):Ex:=.mk s (0,0) nilB [a,b]
open Go.RowKit
abbrev All:Nat→Prop:=fun _=>True
theorem vrd2 {w:World} {N:Nat} {a b:ByteArray} {n m:Int} (h:w.heap[N]? = some (.cells #[.string a,iV n,.string b,iV m] 80)) (hr:VR [(a,n),(b,m)]):VRd All w [(a,n),(b,m)] (.slice (some ⟨N,0,none⟩) 2 2):=by
 refine ⟨_,_,rfl,by simp,hr,.inr ⟨_,0,rfl,trivial,?_⟩⟩
 intro k hk
 rw [Nat.zero_add]
 rw [cell_of_row w _ _ _ _ _ h,cell_of_row w _ _ _ _ _ h]
 match k,hk with
 | 0,_=>exact ⟨rfl,rfl⟩
 | 1,_=>exact ⟨rfl,rfl⟩
end Go.Proofs.YteomcpplajeidaaGreat
namespace Go.Proofs.YteomcpplajeidaaGreat
open Go.RowKit
mutual
theorem Rd.alive {S:Nat→Prop} {w:World}:∀ (t:Ex) (v:Value),Rd S w t v→Rd (fun b=>S b∧b < w.heap.size) w t v
 | .mk op n nm args,v,r=>by
  unfold Rd at r ⊢
  obtain ⟨base,cap,hv,hn,hn2,hr⟩:=r
  refine ⟨base,cap,hv,hn,hn2,?_⟩
  rcases hr with rfl|⟨b,hb,hs,hl⟩
  ·exact .inl rfl
  ·match args,hl with
   | [],_=>exact .inl rfl
   | t :: ts,hl=>
    refine .inr ⟨b,hb,⟨hs,?_⟩,RdL.alive (t :: ts) b 0 hl⟩
    unfold RdL at hl
    obtain ⟨⟨c,hc,-⟩,-⟩:=hl
    exact zB w _ (hc 0 (by decide))
theorem RdL.alive {S:Nat→Prop} {w:World}:∀ (ts:List Ex) (b k:Nat),RdL S w b k ts→RdL (fun b=>S b∧b < w.heap.size) w b k ts
 | [],_,_,_=>by unfold RdL;trivial
 | t :: ts,b,k,r=>by
  unfold RdL at r ⊢
  obtain ⟨⟨c,hc,hr⟩,hl⟩:=r
  exact ⟨⟨c,hc,Rd.alive t _ hr⟩,RdL.alive ts b (k+1) hl⟩
end
theorem addr_add (g j:Nat):(⟨g,0,none⟩:Addr).add j=⟨g,j,none⟩:=by
 unfold Addr.add
 split
 ·rename_i h;rw [h]
 ·simp
end Go.Proofs.YteomcpplajeidaaGreat

namespace Go.Proofs.YteomcpplajeidaaGreat
open Go.RowKit
abbrev modZ (n m:Int):Int:=n % m
theorem tmod_bd (n:Int) {m:Int} (hm:0 < m):-m < n.tmod m∧n.tmod m < m:=by
 have h1:=Int.tmod_lt_of_pos n hm
 have h2:=Int.tmod_lt_of_pos (-n) hm
 rw [Int.neg_tmod] at h2
 exact ⟨by omega,h1⟩
theorem modZ_eq (n m:Int):(n.tmod m+m) % m=n % m:=by
 rw [Int.add_emod_right]
 conv=>rhs;rw [← Int.tmod_add_mul_tdiv n m]
 rw [Int.add_mul_emod_self_left]
theorem modZ_bd (n:Int) {m:Int} (hm:0 < m):0≤modZ n m∧modZ n m < m:=
 ⟨Int.emod_nonneg _ (by omega),Int.emod_lt_of_pos _ hm⟩
theorem Mod_any (n m:Int) (hm:0 < m) (hm2:m≤1000000) (h1:-9223372036854775808≤n) (h2:n≤9223372036854775807) (w:World) :
 Calls Tryz.prog 35 #[iV n,iV m] w fun e w'=>e=.returned (iV (modZ n m))∧w=w':=by
 have hm0:¬ m=0:=by omega
 have b:=tmod_bd n hm
 have HE:=zH (modZ_eq n m)
 go_in
 go_wp2
 go_ret
 exact ⟨by rw [HE.out];rfl,rfl⟩
theorem small_any' (n:Int) (h:-1000000000 < n∧n < 1000000000) (w:World):Calls Tryz.prog 105 #[iV n] w fun e w'=>e=.returned (.bool true)∧w=w':=by
 obtain ⟨h1,h2⟩:=h
 go_in
 go_wp2
 go_ret
 exact ⟨rfl,rfl⟩
def quickZ (n d:Int):Int×Int:=(n.tdiv (Int.gcd n d:Int),d.tdiv (Int.gcd n d:Int))
theorem quick_any (n d:Int) (hn:-1000000≤n∧n≤1000000) (hd:1≤d∧d≤1000000) (w:World):Calls Tryz.prog 106 #[iV n,iV d] w fun e w'=>e=.returned (rv (quickZ n d))∧Ext w w':=by
 obtain ⟨n1,n2⟩:=hn
 obtain ⟨d1,d2⟩:=hd
 have hG:1≤Int.gcd n d:=by
  have:=Int.gcd_pos_of_ne_zero_right n (show d≠0 by omega);omega
 have hGd:(Int.gcd n d:Int)≤d:=Int.le_of_dvd (by omega) (Int.gcd_dvd_right _ _)
 have hM:max n (-n)=(n.natAbs:Int):=by rw [Int.max_def];split <;> omega
 have HG:=zH (show Nat.gcd n.natAbs d.natAbs=Int.gcd n d from rfl)
 have HQ:=zH (show quickZ n d=(n.tdiv (Int.gcd n d:Int),d.tdiv (Int.gcd n d:Int)) from rfl)
 generalize Int.gcd n d=G at *
 have HM:=zH hM
 clear hM
 go_in
 go_wp2
 rw [HM.out]
 go_loop [5,6] (fun x y=>∃ p q:Nat,p≤1000000∧q≤1000000∧x=iV p∧y=iV q∧Hid (Nat.gcd p q=G)) (fun _ y=>(intOf y).toNat)
 case atStart=>exact ⟨n.natAbs,d.natAbs,by omega,by omega,rfl,by rw [show d=(d.natAbs:Int) by omega];rfl,HG⟩
 case round=>
  obtain ⟨p,q,hp,hq,rfl,rfl,hg⟩:=hrel
  rcases Nat.eq_zero_or_pos q with h0|hlt
  ·subst h0
   have hpG:p=G:=by have:=hg.out;simpa using this
   subst hpG
   have hne:¬ p=0:=by omega
   have e1:IntKind.i64.wrap (n.tdiv (p:Int))=n.tdiv (p:Int):=by
    have h3:=Int.natAbs_tdiv_le_natAbs n (p:Int)
    rw [IntKind.wrap_i64];omega
   have e2:IntKind.i64.wrap (d.tdiv (p:Int))=d.tdiv (p:Int):=by
    have h3:=Int.natAbs_tdiv_le_natAbs d (p:Int)
    rw [IntKind.wrap_i64];omega
   have E1:=zH e1;have E2:=zH e2
   have E3:=zH (show d / (p:Int)=d.tdiv (p:Int) from (Int.tdiv_eq_ediv_of_nonneg (by omega)).symm)
   clear e1 e2
   go_wp2_with (fail)
   refine Rr.rg [(0,.y),(1,.y),(2,.y),(3,.y),(4,.y),(5,.y),(6,.y)] ?_
   iterate 7
    refine Rr.y1 ?_
   refine Rr.wr_nil ?_
   intro wy hy hh
   simp only [gg,gh,gi,gj,Nat.reduceAdd]
   obtain ⟨hcy,hfy⟩:=hy.cells
   clear hh
   go_wp2
   rw [E3.out]
   exact bodyPost_ret (v:=rv (n.tdiv (p:Int),d.tdiv (p:Int))) (by simp [results,Tryz.results106,go_sem,hcy]) rfl ⟨by rw [HQ.out],xt⟩
  ·have hne:¬ q=0:=by omega
   have hl:=Nat.mod_lt p hlt
   go_wp2
   go_round
   case rel=>exact ⟨q,p % q,hq,by omega,rfl,by simp,zH (by rw [← hg.out,gcd_step p q hlt])⟩
   case measure=>simp [intOf];omega
theorem Make_any (n d:Int) (hn:-1000000≤n∧n≤1000000) (hd:1≤d∧d≤1000000) (w:World):Calls Tryz.prog 60 #[iV n,iV d] w fun e w'=>e=.returned (.tuple #[rv (quickZ n d),.bool true])∧Ext w w':=by
 have hN:-1000000000 < n∧n < 1000000000:=⟨by omega,by omega⟩
 have hD:-1000000000 < d∧d < 1000000000:=⟨by omega,by omega⟩
 have hd0:¬ d=0:=by omega
 have HQ:=zH (quick_any n d hn hd)
 generalize quickZ n d=q at *
 obtain ⟨q1,q2⟩:=q
 go_in
 go_wp2_with (first
  |(go_at_call 105;(with_reducible refine (small_any' _ (by assumption) _).mono ?_);rintro e w1 ⟨rfl,rfl⟩)
  |(go_at_call 106;(with_reducible refine (HQ.out _).mono ?_);rintro e w1 ⟨rfl,hb⟩;obtain ⟨hc,hf⟩:=hb.cells;have hz:=hb.size;simp at hz;have z1:w.heap.size < w1.heap.size:=(by omega)))
 exact bodyPost_ret (v:=rbv ((q1,q2),true)) (by simp [results,Tryz.results60,go_sem,hc]) rfl ⟨rfl,xt⟩
def IRd (w:World) (v:Value) (ls:List Int):Prop:=
 ∃ A cap,v=.slice A ls.length cap∧ls.length≤9223372036854775807∧(∀ z∈ls,-9223372036854775808≤z∧z≤9223372036854775807) ∧
  (ls=[]∨∃ b off,A=some ⟨b,off,none⟩∧∀ k (h:k < ls.length),w.cell? ⟨b,off+k,none⟩=some (iV ls[k]))
theorem IRd.ext {w w':World} {v:Value} {ls:List Int} (h:IRd w v ls) (e:Ext w w'):IRd w' v ls:=by
 obtain ⟨A,cap,h1,h2,h3,h4⟩:=h
 exact ⟨A,cap,h1,h2,h3,h4.imp id fun ⟨b,off,ha,hc⟩=>⟨b,off,ha,fun k hk=>(e.cells.1 _ _ (zB w _ (hc k hk))).trans (hc k hk)⟩⟩
def iof:Value→Int
 | .int _ n=>n
 | _=>0
def letB (c:Int):Bool:=(decide (97≤c) && decide (c≤122)) || (decide (65≤c) && decide (c≤90))
def digB (c:Int):Bool:=decide (48≤c) && decide (c≤57)
def folB (c:Int):Bool:=letB c || digB c || decide (c=95)
theorem letter_any (c:Int) (w:World):Calls Tryz.prog 146 #[.int .u8 c] w fun e w'=>e=.returned (.bool (letB c))∧w=w':=by
 unfold letB
 by_cases h1:(97:Int)≤c
 ·by_cases h2:c≤122
  ·go_in
   go_wp2
   go_ret
   exact ⟨by first|(simp;done)|(simp;omega)|(simp;intros;omega)|(simp;constructor <;> intros <;> omega),rfl⟩
  ·have h3:(65:Int)≤c:=by omega
   have h4:¬ c≤90:=by omega
   go_in
   go_wp2
   go_ret
   exact ⟨by first|(simp;done)|(simp;omega)|(simp;intros;omega)|(simp;constructor <;> intros <;> omega),rfl⟩
 ·by_cases h3:(65:Int)≤c
  ·by_cases h4:c≤90
   ·go_in
    go_wp2
    go_ret
    exact ⟨by first|(simp;done)|(simp;omega)|(simp;intros;omega)|(simp;constructor <;> intros <;> omega),rfl⟩
   ·go_in
    go_wp2
    go_ret
    exact ⟨by first|(simp;done)|(simp;omega)|(simp;intros;omega)|(simp;constructor <;> intros <;> omega),rfl⟩
  ·go_in
   go_wp2
   go_ret
   exact ⟨by first|(simp;done)|(simp;omega)|(simp;intros;omega)|(simp;constructor <;> intros <;> omega),rfl⟩
theorem digit_any (c:Int) (w:World):Calls Tryz.prog 185 #[.int .u8 c] w fun e w'=>e=.returned (.bool (digB c))∧w=w':=by
 unfold digB
 by_cases h1:(48:Int)≤c
 ·by_cases h2:c≤57
  ·go_in
   go_wp2
   go_ret
   exact ⟨by first|(simp;done)|(simp;omega)|(simp;intros;omega)|(simp;constructor <;> intros <;> omega),rfl⟩
  ·go_in
   go_wp2
   go_ret
   exact ⟨by first|(simp;done)|(simp;omega)|(simp;intros;omega)|(simp;constructor <;> intros <;> omega),rfl⟩
 ·go_in
  go_wp2
  go_ret
  exact ⟨by first|(simp;done)|(simp;omega)|(simp;intros;omega)|(simp;constructor <;> intros <;> omega),rfl⟩
theorem follows_any (c:Int) (w:World):Calls Tryz.prog 145 #[.int .u8 c] w fun e w'=>e=.returned (.bool (folB c))∧w=w':=by
 have H1:=zH (letter_any c w);have H2:=zH (digit_any c w)
 unfold folB
 generalize letB c=a at *
 generalize digB c=b at *
 have hb:(c == 95)=decide (c=95):=by by_cases h:c=95 <;> simp [h]
 generalize decide (c=95)=d at *
 cases a <;> cases b
 all_goals
  go_in
  go_wp2_with (first
   |(go_at_call 146;(with_reducible refine H1.out.mono ?_);rintro e w1 ⟨rfl,rfl⟩)
   |(go_at_call 185;(with_reducible refine H2.out.mono ?_);rintro e w1 ⟨rfl,rfl⟩))
  go_ret
  exact ⟨by simp,rfl⟩
def byZ (s:ByteArray) (k:Nat):Int:=if h:k < s.size then (s[k].toNat:Int) else 0
theorem byZ_at {s:ByteArray} {k:Nat} (h:k < s.size):byZ s k=(s[k].toNat:Int):=dif_pos h
def allU (p:Int→Bool) (s:ByteArray) (n:Nat):Bool:=(List.range n).all fun k=>p (byZ s k)
theorem allU_succ (p:Int→Bool) (s:ByteArray) (n:Nat):allU p s (n+1)=(allU p s n && p (byZ s n)):=by
 unfold allU
 rw [List.range_succ,List.all_append]
 simp
theorem allU_no {p:Int→Bool} {s:ByteArray} {n k:Nat} (hk:k < n) (h:p (byZ s k)=false):allU p s n=false:=by
 unfold allU
 rw [List.all_eq_false]
 exact ⟨k,List.mem_range.2 hk,by rw [h];decide⟩
def numS (s:ByteArray):Bool:=allU digB s s.size && (decide (0 < s.size) && (!decide (byZ s 0=48) || decide (s.size=1)))
theorem isNumber_any (s:ByteArray) (hs:s.size≤1000000) (w:World):Calls Tryz.prog 203 #[.string s] w fun e w'=>e=.returned (.bool (numS s))∧w=w':=by
 have HN:Hid (numS s=(allU digB s s.size && (decide (0 < s.size) && (!decide (byZ s 0=48) || decide (s.size=1))))):=zH rfl
 go_in
 go_upto_region 2 with (fail)
 go_loopw [3] (fun kv wr=>∃ k:Nat,kv=iV k∧k≤s.size∧Hid (allU digB s k=true)∧wr=w) (fun kv _=>s.size - (iof kv).toNat)
 case atStart=>exact ⟨0,rfl,Nat.zero_le _,zH rfl,rfl⟩
 case round=>
  obtain ⟨k,rfl,hk,HD,rfl⟩:=hrel
  by_cases hkl:k < s.size
  ·have hcall:=digit_any (s[k].toNat:Nat) wr
   have hby:=byZ_at hkl
   rw [← hby] at hcall
   have HBY:=zH hby.symm
   clear hby
   cases hd:digB (byZ s k) with
   | false=>
    rw [hd,HBY.out.symm] at hcall
    have HC:=zH hcall
    have HF:Hid (numS s=false):=zH (by rw [HN.out,allU_no hkl hd];rfl)
    clear hd hcall
    go_wp2_with (first|(go_at_call 185;(with_reducible refine HC.out.mono ?_);rintro e w1 ⟨rfl,rfl⟩))
    go_ret
    exact ⟨by rw [HF.out];rfl,rfl⟩
   | true=>
    rw [hd,HBY.out.symm] at hcall
    have HC:=zH hcall
    have HT:Hid (allU digB s (k+1)=true):=zH (by rw [allU_succ,HD.out,hd];rfl)
    clear hd hcall
    go_wp2_with (first|(go_at_call 185;(with_reducible refine HC.out.mono ?_);rintro e w1 ⟨rfl,rfl⟩))
    exact ⟨⟨k+1,by simp,by omega,HT,trivial⟩,by simp [iof];omega⟩
  ·obtain rfl:k=s.size:=by omega
   by_cases h0:0 < s.size
   ·have h0i:(0:Int) < (s.size:Int):=by omega
    have HB0:=zH (byZ_at h0)
    by_cases h1:((s[0].toNat:Nat):Int)=48
    ·by_cases h2:s.size=1
     ·have h2i:(s.size:Int)=1:=by omega
      have HR:Hid (numS s=true):=zH (by rw [HN.out,HD.out,HB0.out,h1,decide_eq_true h0,decide_eq_true h2];rfl)
      go_wp2
      go_ret
      exact ⟨by rw [HR.out];simp [h1,h2i],rfl⟩
     ·have h2i:¬ (s.size:Int)=1:=by omega
      have HR:Hid (numS s=false):=zH (by rw [HN.out,HD.out,HB0.out,h1,decide_eq_true h0,decide_eq_false h2];rfl)
      go_wp2
      go_ret
      exact ⟨by rw [HR.out];simp [h1,h2i],rfl⟩
    ·have HR:Hid (numS s=true):=zH (by rw [HN.out,HD.out,HB0.out,decide_eq_true h0,decide_eq_false h1];rfl)
     go_wp2
     go_ret
     exact ⟨by rw [HR.out];simp [h1],rfl⟩
   ·have h0i:¬ (0:Int) < (s.size:Int):=by omega
    have HR:Hid (numS s=false):=zH (by rw [HN.out,HD.out,decide_eq_false h0];rfl)
    go_wp2
    go_ret
    exact ⟨by rw [HR.out];rfl,rfl⟩
def valU (s:ByteArray):Nat→Int
 | 0=>0
 | k+1=>min (10 * valU s k+(byZ s k - 48)) 1000000001
theorem digB_bd {c:Int} (h:digB c=true):48≤c∧c≤57:=by
 unfold digB at h
 simpa using h
theorem allU_at {p:Int→Bool} {s:ByteArray} {n k:Nat} (h:allU p s n=true) (hk:k < n):p (byZ s k)=true:=by
 unfold allU at h
 exact List.all_eq_true.1 h k (List.mem_range.2 hk)
theorem valU_bd {s:ByteArray}:∀ k,allU digB s k=true→0≤valU s k∧valU s k≤1000000001
 | 0,_=>by unfold valU;omega
 | k+1,h=>by
  rw [allU_succ,Bool.and_eq_true] at h
  have h1:=valU_bd k h.1
  have h2:=digB_bd h.2
  unfold valU
  omega
theorem wrap_u8 {x:Int} (h0:0≤x) (h1:x≤255):IntKind.u8.wrap x=x:=by
 simp [IntKind.wrap,IntKind.signed,IntKind.bits]
 omega
theorem digits_any (s:ByteArray) (hs:s.size≤1000000) (hd:allU digB s s.size=true) (w:World):Calls Tryz.prog 204 #[.string s] w fun e w'=>e=.returned (iV (valU s s.size))∧w=w':=by
 have HD:=zH (fun k (hk:k < s.size)=>digB_bd (allU_at hd hk))
 have HV:=zH (fun k (hk:k≤s.size)=>valU_bd (s:=s) k (List.all_eq_true.2 fun x hx=>allU_at hd (by have:=List.mem_range.1 hx;omega)))
 clear hd
 go_in
 go_upto_region 3 with (fail)
 go_loopw [3,4] (fun vv kv wr=>∃ k:Nat,kv=iV k∧k≤s.size∧vv=iV (valU s k)∧wr=w) (fun _ kv _=>s.size - (iof kv).toNat)
 case atStart=>exact ⟨0,rfl,Nat.zero_le _,rfl,rfl⟩
 case round=>
  obtain ⟨k,rfl,hk,rfl,rfl⟩:=hrel
  by_cases hkl:k < s.size
  ·obtain ⟨b1,b2⟩:=HD.out k hkl
   obtain ⟨v1,v2⟩:=HV.out k hk
   have HS:Hid (valU s (k+1)=min (10 * valU s k+(byZ s k - 48)) 1000000001):=zH rfl
   rw [byZ_at hkl] at b1 b2 HS
   have c1:IntKind.u8.wrap ((s[k].toNat:Int) - 48)=(s[k].toNat:Int) - 48:=wrap_u8 (by omega) (by omega)
   have c2:=wz ((s[k].toNat:Int) - 48) (by omega)
   have c3:=wz (10 * valU s k) (by omega)
   have c4:IntKind.i64.wrap (10 * valU s k+((s[k].toNat:Int) - 48))=10 * valU s k+((s[k].toNat:Int) - 48):=by rw [IntKind.wrap_i64];omega
   generalize valU s k=v at *
   go_wp2_with (fail)
   exact ⟨⟨k+1,by simp,by omega,by rw [HS.out];try (first|rfl|(simp;done)|(simp;omega)),trivial⟩,by simp [iof];omega⟩
  ·obtain rfl:k=s.size:=by omega
   go_wp2
   go_ret
   exact ⟨rfl,rfl⟩
def namS (s:ByteArray):Bool:=decide (1≤s.size) && decide (s.size≤30) && (allU folB s s.size && letB (byZ s 0))
theorem IsName_any (s:ByteArray) (hs:s.size≤1000000) (w:World):Calls Tryz.prog 93 #[.string s] w fun e w'=>e=.returned (.bool (namS s))∧w=w':=by
 have HN:Hid (namS s=(decide (1≤s.size) && decide (s.size≤30) && (allU folB s s.size && letB (byZ s 0)))):=zH rfl
 by_cases h1:s.size < 1
 ·have h1i:(s.size:Int) < 1:=by omega
  have HR:Hid (namS s=false):=zH (by rw [HN.out,decide_eq_false (show ¬ 1≤s.size by omega)];rfl)
  go_in
  go_wp2
  go_ret
  exact ⟨by rw [HR.out];rfl,rfl⟩
 ·have h1i:¬ (s.size:Int) < 1:=by omega
  by_cases h2:30 < s.size
  ·have h2i:(30:Int) < (s.size:Int):=by omega
   have HR:Hid (namS s=false):=zH (by rw [HN.out,decide_eq_false (show ¬ s.size≤30 by omega),Bool.and_false];rfl)
   go_in
   go_wp2
   go_ret
   exact ⟨by rw [HR.out];rfl,rfl⟩
  ·have h2i:¬ (30:Int) < (s.size:Int):=by omega
   rw [decide_eq_true (show 1≤s.size by omega),decide_eq_true (show s.size≤30 by omega),Bool.true_and,Bool.true_and] at HN
   go_in
   go_upto_region 4 with (fail)
   go_loopw [3] (fun kv wr=>∃ k:Nat,kv=iV k∧k≤s.size∧Hid (allU folB s k=true∧(0 < k→letB (byZ s 0)=true))∧wr=w) (fun kv _=>s.size - (iof kv).toNat)
   case atStart=>exact ⟨0,rfl,Nat.zero_le _,zH ⟨rfl,fun h=>absurd h (Nat.lt_irrefl _)⟩,rfl⟩
   case round=>
    obtain ⟨k,rfl,hk,HD,rfl⟩:=hrel
    by_cases hkl:k < s.size
    ·have hf:=follows_any (s[k].toNat:Nat) wr
     have hl:=letter_any (s[k].toNat:Nat) wr
     have hby:=byZ_at hkl
     have HF:=zH hf;have HL:=zH hl
     rw [← hby] at hf hl
     have HBF:Hid (folB (s[k].toNat:Nat)=folB (byZ s k)):=zH (by rw [hby])
     have HBL:Hid (letB (s[k].toNat:Nat)=letB (byZ s k)):=zH (by rw [hby])
     clear hf hl hby
     rw [HBF.out] at HF
     rw [HBL.out] at HL
     cases hfd:folB (byZ s k) with
     | false=>
      have HR:Hid (namS s=false):=zH (by rw [HN.out,allU_no hkl hfd];rfl)
      rw [hfd] at HF
      clear hfd
      go_wp2_with (first
       |(go_at_call 145;(with_reducible refine HF.out.mono ?_);rintro e w1 ⟨rfl,rfl⟩)
       |(go_at_call 146;(with_reducible refine HL.out.mono ?_);rintro e w1 ⟨rfl,rfl⟩))
      go_ret
      exact ⟨by rw [HR.out];rfl,rfl⟩
     | true=>
      have HT:Hid (allU folB s (k+1)=true):=zH (by rw [allU_succ,HD.out.1,hfd];rfl)
      rw [hfd] at HF
      clear hfd
      by_cases hk0:k=0
      ·subst hk0
       cases hld:letB (byZ s 0) with
       | false=>
        have HR:Hid (namS s=false):=zH (by rw [HN.out,hld,Bool.and_false])
        rw [hld] at HL
        clear hld
        go_wp2_with (first
         |(go_at_call 145;(with_reducible refine HF.out.mono ?_);rintro e w1 ⟨rfl,rfl⟩)
         |(go_at_call 146;(with_reducible refine HL.out.mono ?_);rintro e w1 ⟨rfl,rfl⟩))
        go_ret
        exact ⟨by rw [HR.out];rfl,rfl⟩
       | true=>
        have HLD:Hid (letB (byZ s 0)=true):=zH hld
        rw [hld] at HL
        clear hld
        go_wp2_with (first
         |(go_at_call 145;(with_reducible refine HF.out.mono ?_);rintro e w1 ⟨rfl,rfl⟩)
         |(go_at_call 146;(with_reducible refine HL.out.mono ?_);rintro e w1 ⟨rfl,rfl⟩))
        exact ⟨⟨1,by simp,by omega,zH ⟨HT.out,fun _=>by first|trivial|exact HLD.out⟩,trivial⟩,by simp [iof];omega⟩
      ·have hki:¬ (k:Int)=0:=by omega
       have HP:Hid (0 < k):=zH (by omega)
       clear hk0
       generalize letB (byZ s k)=lb at *
       go_wp2_with (first
        |(go_at_call 145;(with_reducible refine HF.out.mono ?_);rintro e w1 ⟨rfl,rfl⟩)
        |(go_at_call 146;(with_reducible refine HL.out.mono ?_);rintro e w1 ⟨rfl,rfl⟩))
       exact ⟨⟨k+1,by simp,by omega,zH ⟨HT.out,fun _=>HD.out.2 HP.out⟩,trivial⟩,by simp [iof];omega⟩
    ·obtain rfl:k=s.size:=by omega
     have HR:Hid (namS s=true):=zH (by rw [HN.out,HD.out.1,HD.out.2 (by omega)];rfl)
     go_wp2
     go_ret
     exact ⟨by rw [HR.out];rfl,rfl⟩
end Go.Proofs.YteomcpplajeidaaGreat
