/-
  Lemmas of this claim (JwG). Nothing is asked.
-/
import Derived.Test.YteomcpplajeidaaGreatJwF
set_option linter.unusedVariables false
set_option linter.unusedSimpArgs false
set_option maxRecDepth 100000
set_option maxHeartbeats 40000000
namespace Go.Proofs.YteomcpplajeidaaGreat
open Go.RowKit
mutual
def formedB:Ex→Bool
 | .mk op n nm ts=>
  if op.toList == [110,117,109] then ts.length == 0 && (nm.toList == [] && rightB n.1 n.2)
  else if op.toList == [110,97,109,101] then ts.length == 0 && (!(nm.toList == []) && (n.1 == 0 && n.2 == 0))
  else !(opIx op == -1) && (ts.length == 2 && (nm.toList == [] && ((n.1 == 0 && n.2 == 0) && formedL ts)))
def formedL:List Ex→Bool
 | []=>true
 | t :: ts=>formedB t && formedL ts
end
theorem formed_num (S:Nat→Prop) (op:ByteArray) (n:Int×Int) (nm:ByteArray) (ts:List Ex) (h:(op.toList == [110,117,109])=true) (w:World) (v:Value) (hv:Rd S w (.mk op n nm ts) v) :
 Calls Tryz.prog 134 #[v] w fun e w'=>e=.returned (.bool (ts.length == 0 && (nm.toList == [] && rightB n.1 n.2)))∧Ext w w':=by
 unfold Rd at hv
 obtain ⟨base,cap,rfl,hn,-,-⟩:=hv
 have HR:=zH (fun w=>Right_any n.1 n.2 hn.n1 hn.n2 hn.d2 w)
 clear hn
 cases h1:(ts.length == 0)
 ·have g1:¬ ts.length=0:=by simpa using h1
  clear h1
  go_in
  go_wp2
  go_ret
  exact ⟨by simp,xt⟩
 ·have g1:ts.length=0:=by simpa using h1
  rw [g1]
  clear h1
  cases h2:(nm.toList == [])
  ·go_in
   go_wp2
   go_ret
   exact ⟨by simp,xt⟩
  ·go_in
   go_wp2_with (go_at_call 120;(refine (HR.out _).mono ?_);rintro e w1 ⟨rfl,hb⟩)
   go_ret
   exact ⟨by simp,xt⟩
theorem formed_name (S:Nat→Prop) (op:ByteArray) (n:Int×Int) (nm:ByteArray) (ts:List Ex) (h0:(op.toList == [110,117,109])=false) (h:(op.toList == [110,97,109,101])=true) (w:World) (v:Value) (hv:Rd S w (.mk op n nm ts) v) :
 Calls Tryz.prog 134 #[v] w fun e w'=>e=.returned (.bool (ts.length == 0 && (!(nm.toList == []) && (n.1 == 0 && n.2 == 0))))∧Ext w w':=by
 unfold Rd at hv
 obtain ⟨base,cap,rfl,-,-,-⟩:=hv
 cases h1:(ts.length == 0)
 ·have g1:¬ ts.length=0:=by simpa using h1
  clear h1
  go_in
  go_wp2
  go_ret
  exact ⟨by simp,xt⟩
 ·have g1:ts.length=0:=by simpa using h1
  rw [g1]
  clear h1
  cases h2:(nm.toList == [])
  ·go_in
   go_wp2
   all_goals go_ret
   all_goals exact ⟨by simp [*],xt⟩
  ·go_in
   go_wp2
   go_ret
   exact ⟨by simp,xt⟩
theorem formed_none (S:Nat→Prop) (op:ByteArray) (n:Int×Int) (nm:ByteArray) (ts:List Ex) (h0:(op.toList == [110,117,109])=false) (h:(op.toList == [110,97,109,101])=false) (hi:opIx op = -1) (w:World) (v:Value) (hv:Rd S w (.mk op n nm ts) v) :
 Calls Tryz.prog 134 #[v] w fun e w'=>e=.returned (.bool false)∧Ext w w':=by
 unfold Rd at hv
 obtain ⟨base,cap,rfl,-,-,-⟩:=hv
 have HF:=zH (find_any op)
 rw [hi] at HF
 simp only [findV,if_true] at HF
 go_in
 go_wp2_with (go_at_call 137;(refine (HF.out _).mono ?_);rintro e w1 ⟨rfl,hb⟩;obtain ⟨hc,hf⟩:=hb.cells)
 go_ret
 exact ⟨rfl,xt⟩
theorem find_some (op:ByteArray) (hi:¬ opIx op = -1) (w:World):Calls Tryz.prog 137 #[.string op] w fun e w'=>e=.returned (.tuple #[.agg #[.string (opNm (opIx op).toNat),.func (.func (opFn (opIx op).toNat)) #[] #[]],.bool true])∧Ext w w':=by
 have h:=find_any op w
 rw [findV,if_neg hi] at h
 exact h
theorem formed_op1 (S:Nat→Prop) (op:ByteArray) (n:Int×Int) (nm:ByteArray) (ts:List Ex) (h0:(op.toList == [110,117,109])=false) (h:(op.toList == [110,97,109,101])=false) (hi:¬ opIx op = -1)
 (h1:¬ ts.length=2∨(ts.length=2∧(nm.toList == [])=false)∨(ts.length=2∧(nm.toList == [])=true∧(n.1 == 0 && n.2 == 0)=false)) (w:World) (v:Value) (hv:Rd S w (.mk op n nm ts) v) :
 Calls Tryz.prog 134 #[v] w fun e w'=>e=.returned (.bool false)∧Ext w w':=by
 unfold Rd at hv
 obtain ⟨base,cap,rfl,-,-,-⟩:=hv
 have HF:=zH (find_some op hi)
 clear hi
 generalize ts.length=m at *
 rcases h1 with h1|⟨rfl,h2⟩|⟨rfl,h2,h3⟩
 ·have h1':¬ (m:Int)=2:=by omega
  go_in
  go_wp2_with (go_at_call 137;(refine (HF.out _).mono ?_);rintro e w1 ⟨rfl,hb⟩;obtain ⟨hc,hf⟩:=hb.cells;have hz:=hb.size;simp at hz;have z1:w.heap.size < w1.heap.size:=(by omega))
  go_ret
  exact ⟨rfl,xt⟩
 ·go_in
  go_wp2_with (go_at_call 137;(refine (HF.out _).mono ?_);rintro e w1 ⟨rfl,hb⟩;obtain ⟨hc,hf⟩:=hb.cells;have hz:=hb.size;simp at hz;have z1:w.heap.size < w1.heap.size:=(by omega))
  go_ret
  exact ⟨rfl,xt⟩
 ·go_in
  go_wp2_with (go_at_call 137;(refine (HF.out _).mono ?_);rintro e w1 ⟨rfl,hb⟩;obtain ⟨hc,hf⟩:=hb.cells;have hz:=hb.size;simp at hz;have z1:w.heap.size < w1.heap.size:=(by omega))
  all_goals first|(go_ret;exact ⟨rfl,xt⟩)|(exfalso;simp_all)
theorem formed_op2 (S:Nat→Prop) (op:ByteArray) (nm:ByteArray) (ta tb:Ex) (h0:(op.toList == [110,117,109])=false) (h:(op.toList == [110,97,109,101])=false) (hi:¬ opIx op = -1)
 (h2:(nm.toList == [])=true) (w:World) (v:Value) (hv:Rd S w (.mk op (0,0) nm [ta,tb]) v)
 (ia:∀ (w:World) (v:Value),Rd S w ta v→Calls Tryz.prog 134 #[v] w fun e w'=>e=.returned (.bool (formedB ta))∧Ext w w')
 (ib:∀ (w:World) (v:Value),Rd S w tb v→Calls Tryz.prog 134 #[v] w fun e w'=>e=.returned (.bool (formedB tb))∧Ext w w') :
 Calls Tryz.prog 134 #[v] w fun e w'=>e=.returned (.bool (formedB ta && formedB tb))∧Ext w w':=by
 unfold Rd at hv
 obtain ⟨base,cap,rfl,-,-,hr⟩:=hv
 rcases hr with hr|⟨b,rfl,hs,hl⟩
 ·cases hr
 obtain ⟨c,hc,hra⟩:=hl.get 0 (by simp)
 obtain ⟨d,hd,hrb⟩:=hl.get 1 (by simp)
 obtain ⟨oa,a1,a2,na,ba,la,ca,c0,c1,c2,c3,c4,ea⟩:=hra.shape
 obtain ⟨ob,b1,b2,nb,bb,lb,cb,d0,d1,d2,d3,d4,eb⟩:=hrb.shape
 simp only [List.getElem_cons_zero,List.getElem_cons_succ] at hra hrb
 rw [ea] at hra
 rw [eb] at hrb
 have hbl:b < w.heap.size:=zB w _ (hc 0 (by decide))
 have k0:=(hc 0 (by decide)).trans (congrArg some c0)
 have k1:=(hc 1 (by decide)).trans (congrArg some c1)
 have k2:=(hc 2 (by decide)).trans (congrArg some c2)
 have k3:=(hc 3 (by decide)).trans (congrArg some c3)
 have k4:=(hc 4 (by decide)).trans (congrArg some c4)
 have k5:=(hd 0 (by decide)).trans (congrArg some d0)
 have k6:=(hd 1 (by decide)).trans (congrArg some d1)
 have k7:=(hd 2 (by decide)).trans (congrArg some d2)
 have k8:=(hd 3 (by decide)).trans (congrArg some d3)
 have k9:=(hd 4 (by decide)).trans (congrArg some d4)
 simp only [Nat.zero_add,Nat.zero_mul,Nat.add_zero,Nat.one_mul,Nat.reduceAdd] at k0 k1 k2 k3 k4 k5 k6 k7 k8 k9
 have IA:=zH (fun w' hw=>ia w' _ (Rd.ext hw hra))
 have IB:=zH (fun w' hw=>ib w' _ (Rd.ext hw hrb))
 have HF:=zH (find_some op hi)
 clear hi hc hd c0 c1 c2 c3 c4 d0 d1 d2 d3 d4 ea eb hra hrb hl ia ib
 have g1:b < w.heap.size+1:=by omega
 cases hx:formedB ta
 ·rw [hx] at IA
  clear hx
  go_in
  go_wp2_with (first
   |(go_at_call 137;(with_reducible refine (HF.out _).mono ?_);rintro e w1 ⟨rfl,hb⟩;obtain ⟨hc,hf⟩:=hb.cells;have hz:=hb.size;simp at hz;have z1:w.heap.size < w1.heap.size:=(by omega);have z2:b < w1.heap.size:=(by omega))
   |(go_at_call 134;(with_reducible refine (IA.out _ xt).mono ?_);rintro e w2 ⟨rfl,hb2⟩))
  go_ret
  exact ⟨rfl,xt⟩
 ·rw [hx] at IA
  clear hx
  go_in
  go_wp2_with (first
   |(go_at_call 137;(with_reducible refine (HF.out _).mono ?_);rintro e w1 ⟨rfl,hb⟩;obtain ⟨hc,hf⟩:=hb.cells;have hz:=hb.size;simp at hz;have z1:w.heap.size < w1.heap.size:=(by omega);have z2:b < w1.heap.size:=(by omega))
   |(go_at_call 134;(with_reducible refine (IA.out _ xt).mono ?_);rintro e w2 ⟨rfl,hb2⟩;obtain ⟨hc2,hf2⟩:=hb2.cells;have z3:w.heap.size < w1.heap.size+1:=(by omega);have z4:b < w1.heap.size+1:=(by omega))
   |(go_at_call 134;(with_reducible refine (IB.out _ xt).mono ?_);rintro e w3 ⟨rfl,hb3⟩))
  go_ret
  exact ⟨by simp,xt⟩
theorem formed_any (S:Nat→Prop):∀ (d:Nat) (t:Ex) (_:t.depth≤d) (w:World) (v:Value) (_:Rd S w t v),
 Calls Tryz.prog 134 #[v] w fun e w'=>e=.returned (.bool (formedB t))∧Ext w w'
 | 0,.mk op n nm ts,hd,w,v,hv=>by rw [Ex.depth] at hd;omega
 | d+1,.mk op n nm ts,hd,w,v,hv=>by
  rw [formedB]
  cases h0:(op.toList == [110,117,109])
  ·cases h:(op.toList == [110,97,109,101])
   ·simp only [Bool.false_eq_true,if_false]
    by_cases hi:opIx op = -1
    ·rw [hi]
     exact formed_none S op n nm ts h0 h hi w v hv
    ·rw [show (opIx op == -1)=false by simpa using hi]
     by_cases h2:ts.length=2
     ·cases h3:(nm.toList == [])
      ·rw [show (!false && (ts.length == 2 && (false && ((n.1 == 0 && n.2 == 0) && formedL ts))))=false by simp]
       exact formed_op1 S op n nm ts h0 h hi (.inr (.inl ⟨h2,h3⟩)) w v hv
      ·cases h4:(n.1 == 0 && n.2 == 0)
       ·rw [show (!false && (ts.length == 2 && (true && (false && formedL ts))))=false by simp]
        exact formed_op1 S op n nm ts h0 h hi (.inr (.inr ⟨h2,h3,h4⟩)) w v hv
       ·match ts,h2,hv,hd with
        | [ta,tb],_,hv,hd=>
         have hn:n=(0,0):=by
          obtain ⟨n1,n2⟩:=n
          simp at h4
          rw [h4.1,h4.2]
         subst hn
         rw [Ex.depth,Ex.depthL,Ex.depthL,Ex.depthL] at hd
         rw [show (!false && ([ta,tb].length == 2 && (true && (true && formedL [ta,tb]))))=(formedB ta && formedB tb) by simp [formedL]]
         exact formed_op2 S op nm ta tb h0 h hi h3 w v hv (fun w v hv=>formed_any S d ta (by omega) w v hv) (fun w v hv=>formed_any S d tb (by omega) w v hv)
     ·rw [show (!false && (ts.length == 2 && (nm.toList == [] && ((n.1 == 0 && n.2 == 0) && formedL ts))))=false by simp [h2]]
      exact formed_op1 S op n nm ts h0 h hi (.inl h2) w v hv
   ·simp only [Bool.false_eq_true,if_false,if_true]
    exact formed_name S op n nm ts h0 h w v hv
  ·simp only [if_true]
   exact formed_num S op n nm ts h0 w v hv
def wrongI (t:Ex):Int:=if t.parts≤60∧t.depth≤12 then (if formedB t then 0 else 1) else 2
theorem wrong_any (S:Nat→Prop) (t:Ex) (w:World) (v:Value) (hv:Rd S w t v) :
 Calls Tryz.prog 88 #[v] w fun e w'=>e=.returned (iV (wrongI t))∧Ext w w':=by
 have HS:=zH (show ∀ w',Ext w w'→Calls Tryz.prog 133 #[v,iV 60,iV 12] w' fun e w''=>e=.returned (smallV (smallO t 60 12))∧Ext w' w'' from fun w' hw=>small_any S 12 60 (by decide) (by decide) t w' v (Rd.ext hw hv))
 have hF:t.depth≤12→∀ (w':World),Ext w w'→Calls Tryz.prog 134 #[v] w' fun e w''=>e=.returned (.bool (formedB t))∧Ext w' w'':=fun h w' hw=>formed_any S 12 t h w' v (Rd.ext hw hv)
 have hsh:∃ op n1 n2 nm base len cap,v=.agg #[.string op,iV n1,iV n2,.string nm,.slice base len cap]:=by
  obtain ⟨op,n,nm,ts⟩:=t
  unfold Rd at hv
  obtain ⟨base,cap,hv,-⟩:=hv
  exact ⟨_,_,_,_,_,_,_,hv⟩
 obtain ⟨op,n1,n2,nm,base,len,cap,rfl⟩:=hsh
 clear hv
 unfold wrongI
 rw [smallO_eq] at HS
 by_cases h:t.parts≤60∧t.depth≤12
 ·rw [if_pos h]
  rw [if_pos h] at HS
  have HF:=zH (hF h.2)
  clear hF h
  cases hx:formedB t
  ·rw [hx] at HF
   clear hx
   go_in
   go_wp2_with (first
    |(go_at_call 133;(with_reducible refine (HS.out _ xt).mono ?_);rintro e w1 ⟨rfl,hb⟩;obtain ⟨hc,hf⟩:=hb.cells;simp only [smallV])
    |(go_at_call 134;(with_reducible refine (HF.out _ xt).mono ?_);rintro e w2 ⟨rfl,hb2⟩))
   go_ret
   exact ⟨rfl,xt⟩
  ·rw [hx] at HF
   clear hx
   go_in
   go_wp2_with (first
    |(go_at_call 133;(with_reducible refine (HS.out _ xt).mono ?_);rintro e w1 ⟨rfl,hb⟩;obtain ⟨hc,hf⟩:=hb.cells;simp only [smallV])
    |(go_at_call 134;(with_reducible refine (HF.out _ xt).mono ?_);rintro e w2 ⟨rfl,hb2⟩))
   go_ret
   exact ⟨rfl,xt⟩
 ·rw [if_neg h]
  rw [if_neg h] at HS
  clear hF h
  go_in
  go_wp2_with (go_at_call 133;(refine (HS.out _ xt).mono ?_);rintro e w1 ⟨rfl,hb⟩;obtain ⟨hc,hf⟩:=hb.cells;simp only [smallV])
  go_ret
  exact ⟨rfl,xt⟩
end Go.Proofs.YteomcpplajeidaaGreat

namespace Go.Proofs.YteomcpplajeidaaGreat
open Go.RowKit
theorem ratS_I2 (neg:Bool) (n d:Int) (h1:0≤n) (h2:0≤d):I2 (ratS neg n d).1:=by
 unfold ratS
 split
 ·exact ⟨by decide,by decide,by decide,by decide⟩
 ·rename_i h
  cases neg <;> simp only [Bool.false_eq_true,if_false,if_true,and_true,and_false,or_false,false_or,not_or] at h ⊢
  ·exact ⟨by show -9223372036854775808≤n;omega,by show n≤9223372036854775807;omega,by show -9223372036854775808≤d;omega,by show d≤9223372036854775807;omega⟩
  ·exact ⟨by show -9223372036854775808≤-n;omega,by show -n≤9223372036854775807;omega,by show -9223372036854775808≤d;omega,by show d≤9223372036854775807;omega⟩
theorem div_nn {a b:Int} (h:0≤a) (h2:0≤b):0≤a / b:=Int.ediv_nonneg h h2
theorem gcd_nn (a b:Int):(0:Int)≤(Int.gcd a b:Int):=Int.natCast_nonneg _
theorem sumS_I2 (xn:Bool) (n1 d1:Int) (yn:Bool) (n2 d2:Int) (h:SumOk n1 d1 n2 d2):I2 (sumS xn n1 d1 yn n2 d2).1:=by
 unfold sumS
 simp only
 split
 ·exact ⟨by decide,by decide,by decide,by decide⟩
 ·obtain ⟨⟨a0,_⟩,⟨b0,_⟩,⟨c0,_⟩,⟨e0,_⟩⟩:=h
  have ha:=Int.mul_nonneg a0 (div_nn (a:=d2) (by omega) (gcd_nn d1 d2))
  have hb:=Int.mul_nonneg b0 (div_nn (a:=d1) (by omega) (gcd_nn d1 d2))
  have ht:0≤(sumTop xn n1 d1 yn n2 d2).2:=by
   unfold sumTop
   simp only
   split
   ·show (0:Int)≤_+_;omega
   ·split
    ·show (0:Int)≤_ - _;omega
    ·show (0:Int)≤_ - _;omega
  exact ratS_I2 _ _ _ (div_nn ht (gcd_nn _ _)) (Int.mul_nonneg (div_nn (by omega) (gcd_nn _ _)) (div_nn (by omega) (gcd_nn _ _)))
theorem timesS_I2 (xn:Bool) (n1 d1:Int) (yn:Bool) (n2 d2:Int) (h1:0≤n1) (h2:0≤d1) (h3:0≤n2) (h4:0≤d2):I2 (timesS xn n1 d1 yn n2 d2).1:=by
 unfold timesS
 split
 ·exact ⟨by decide,by decide,by decide,by decide⟩
 ·exact ratS_I2 _ _ _ (Int.mul_nonneg (div_nn h1 (gcd_nn _ _)) (div_nn h3 (gcd_nn _ _))) (Int.mul_nonneg (div_nn h2 (gcd_nn _ _)) (div_nn h4 (gcd_nn _ _)))
theorem doI_I2 (i:Nat) (a b:Int×Int) (ha:I2 a) (hb:I2 b):I2 (doI i a b).1:=by
 have z:I2 ((0:Int),(1:Int)):=⟨by decide,by decide,by decide,by decide⟩
 have sz:∀ n:Int,0≤sizeZ n:=fun n=>by unfold sizeZ;split <;> omega
 match i with
 | 0=>
  show I2 (addI a b).1
  unfold addI
  split
  ·exact sumS_I2 _ _ _ _ _ _ (sumOk_of ha hb (by assumption))
  ·exact z
 | 1=>
  show I2 (subI a b).1
  unfold subI
  split
  ·exact sumS_I2 _ _ _ _ _ _ (sumOk_of ha hb (by assumption))
  ·exact z
 | 2=>
  show I2 (mulI a b).1
  unfold mulI
  split
  ·exact timesS_I2 _ _ _ _ _ _ (sz _) (sz _) (sz _) (sz _)
  ·exact z
 | 3=>
  show I2 (quoI a b).1
  unfold quoI
  split
  ·split
   ·exact z
   ·exact timesS_I2 _ _ _ _ _ _ (sz _) (sz _) (sz _) (sz _)
  ·exact z
 | 4=>
  show I2 (minI a b).1
  unfold minI
  simp only
  split <;> assumption
 | _+5=>
  show I2 (maxI a b).1
  unfold maxI
  simp only
  split <;> assumption
theorem applyI_I2 (i:Nat) (a b:Int×Int) (ha:I2 a) (hb:I2 b):I2 (applyI i a b).1:=by
 have z:I2 ((0:Int),(0:Int)):=⟨by decide,by decide,by decide,by decide⟩
 unfold applyI
 split
 ·exact z
 ·split
  ·exact doI_I2 i a b ha hb
  ·exact z
abbrev Vals:=List (ByteArray×Int)
def look:Vals→ByteArray→Option Int
 | [],_=>none
 | x :: l,nm=>if x.1.toList == nm.toList then some x.2 else look l nm
def appE (p:(Int×Int)×Int):Except Int (Int×Int):=if p.2=0 then .ok p.1 else .error p.2
mutual
def valueE (vs:Vals):Ex→Except Int (Int×Int)
 | .mk op n nm ts=>
  if op.toList == [110,117,109] then .ok n
  else if op.toList == [110,97,109,101] then (match look vs nm with|some k=>.ok (k,1)|none=>.error 13)
  else match valueL vs ts with
   | [a,b]=>match a with
    | .error f=>.error f
    | .ok x=>match b with
     | .error f=>.error f
     | .ok y=>appE (applyI (opIx op).toNat x y)
   | _=>.error 0
def valueL (vs:Vals):List Ex→List (Except Int (Int×Int))
 | []=>[]
 | t :: ts=>valueE vs t :: valueL vs ts
end
def VR (vs:Vals):Prop:=∀ x∈vs,-9223372036854775808≤x.2∧x.2≤9223372036854775807
theorem look_range {vs:Vals} (h:VR vs) {nm:ByteArray} {k:Int} (hk:look vs nm=some k):-9223372036854775808≤k∧k≤9223372036854775807:=by
 induction vs with
 | nil=>cases hk
 | cons x l ih=>
  rw [look] at hk
  split at hk
  ·injection hk with hk
   rw [← hk]
   exact h x zM
  ·exact ih (fun y hy=>h y (zN _ hy)) hk
def VRd (S:Nat→Prop) (w:World) (vs:Vals) (sl:Value):Prop:=
 ∃ base cap,sl=.slice base vs.length cap∧vs.length≤1000000∧VR vs∧(vs=[]∨∃ b off,base=some ⟨b,off,none⟩∧S b∧∀ k (h:k < vs.length),w.cell? ⟨b,off+k * 2,none⟩=some (.string vs[k].1)∧w.cell? ⟨b,off+k * 2+1,none⟩=some (iV vs[k].2))
theorem VRd.frame {S S':Nat→Prop} {w w':World} (h:∀ b o,S b→b < w.heap.size→w'.cell? ⟨b,o,none⟩=w.cell? ⟨b,o,none⟩) (hS:∀ b,S b→S' b) {vs:Vals} {sl:Value} (r:VRd S w vs sl):VRd S' w' vs sl:=by
 obtain ⟨base,cap,h1,h2,h3,h4⟩:=r
 refine ⟨base,cap,h1,h2,h3,h4.imp id fun ⟨b,off,hb,hs,hc⟩=>⟨b,off,hb,hS b hs,fun k hk=>?_⟩⟩
 have hbl:=zB w _ (hc k hk).1
 exact ⟨(h b _ hs hbl).trans (hc k hk).1,(h b _ hs hbl).trans (hc k hk).2⟩
theorem VRd.ext {S:Nat→Prop} {w w':World} (e:Ext w w') {vs:Vals} {sl:Value} (r:VRd S w vs sl):VRd S w' vs sl:=r.frame (fun b o _ hb=>e.cells.1 b o hb) (fun _ h=>h)
theorem idx_look (vs:Vals) (nm:ByteArray):∀ f,f≤vs.length →
 (idxFrom (fun k=>if h:k < vs.length then vs[k].1.toList == nm.toList else false) vs.length f = -1∧look (vs.drop (vs.length - f)) nm=none) ∨
 ∃ k,∃ h:k < vs.length,idxFrom (fun k=>if h:k < vs.length then vs[k].1.toList == nm.toList else false) vs.length f=(k:Int)∧look (vs.drop (vs.length - f)) nm=some vs[k].2
 | 0,_=>.inl ⟨rfl,by rw [Nat.sub_zero,List.drop_length];rfl⟩
 | f+1,hf=>by
  have hlt:vs.length - (f+1) < vs.length:=Nat.sub_lt (by omega) (by omega)
  have hst:vs.length - (f+1)+1=vs.length - f:=by omega
  have hf':f≤vs.length:=by omega
  rw [idxFrom,List.drop_eq_getElem_cons hlt,look,dif_pos hlt]
  split
  ·exact .inr ⟨_,hlt,rfl,rfl⟩
  ·rw [hst]
   exact idx_look vs nm f hf'
end Go.Proofs.YteomcpplajeidaaGreat

namespace Go.Proofs.YteomcpplajeidaaGreat
open Go.RowKit
theorem same71 (s nm:ByteArray) (g:Value) (q:Nat) (w:World) (h:w.cell? ⟨q,3,none⟩=some (.string nm)) :
 Calls Tryz.prog 135 #[.agg #[.string s,g],.pointer (some ⟨q,0,none⟩)] w fun e w'=>e=.returned (.bool (s.toList == nm.toList))∧Ext w w':=by
 have hpl:q < w.heap.size:=zB w _ h
 go_in
 go_wp2
 go_ret
 exact ⟨rfl,xt⟩
theorem enters71 (args:Array Value) (w:World):(callFunc 135 args).run Tryz.prog w=.ok (.enter 135 args) w:=by go_simp
def placeI (vs:Vals) (nm:ByteArray):Int:=idxZ (fun k=>if h:k < vs.length then vs[k].1.toList == nm.toList else false) vs.length
theorem place_any (S:Nat→Prop) (vs:Vals) (nm:ByteArray) (w:World) (sl:Value) (hs:VRd S w vs sl) (q:Nat) (hq:w.cell? ⟨q,3,none⟩=some (.string nm)) :
 Calls Tryz.prog 126 #[sl,.func (.func 135) #[] #[.pointer (some ⟨q,0,none⟩)]] w fun e w'=>e=.returned (iV (placeI vs nm))∧Ext w w':=by
 obtain ⟨base,cap,rfl,hn,-,hr⟩:=hs
 have hql:q < w.heap.size:=zB w _ hq
 rcases hr with rfl|⟨b,off,rfl,-,hc⟩
 ·exact index70_nil base cap _ w
 ·refine index70 b off vs.length cap hn 135 _ (fun k j=>if h:k < vs.length then (if j=0 then .string vs[k].1 else iV vs[k].2) else undef) _ w ?_ ?_ ?_ enters71
  ·intro k hk
   rw [(hc k hk).1]
   simp [hk]
  ·intro k hk
   rw [(hc k hk).2]
   simp [hk]
  ·intro k w' hk hx
   simp only [hk,dif_pos,if_true]
   exact same71 vs[k].1 nm _ q w' ((hx.cells.1 q 3 hql).trans hq)
theorem place_none {vs:Vals} {nm:ByteArray} (h:look vs nm=none):placeI vs nm = -1:=by
 rcases idx_look vs nm vs.length (Nat.le_refl _) with ⟨h1,_⟩|⟨k,hk,_,h2⟩
 ·exact h1
 ·rw [Nat.sub_self,List.drop_zero,h] at h2;cases h2
theorem place_some {vs:Vals} {nm:ByteArray} {n:Int} (h:look vs nm=some n):∃ k,∃ hk:k < vs.length,placeI vs nm=(k:Int)∧vs[k].2=n:=by
 rcases idx_look vs nm vs.length (Nat.le_refl _) with ⟨_,h2⟩|⟨k,hk,h1,h2⟩
 ·rw [Nat.sub_self,List.drop_zero,h] at h2;cases h2
 ·rw [Nat.sub_self,List.drop_zero,h] at h2
  injection h2 with h2
  exact ⟨k,hk,h1,h2.symm⟩
def endE:Except Int (Int×Int)→Ending
 | .ok x=>.returned (rv x)
 | .error f=>.panicked [{ v:=.iface 159 (.agg #[iV f]),recovered:=false }]
theorem value_num (S:Nat→Prop) (op:ByteArray) (n:Int×Int) (nm:ByteArray) (ts:List Ex) (h:(op.toList == [110,117,109])=true) (w:World) (v sl:Value) (hv:Rd S w (.mk op n nm ts) v) :
 Calls Tryz.prog 90 #[v,sl] w fun e w'=>e=.returned (rv n)∧Ext w w':=by
 unfold Rd at hv
 obtain ⟨base,cap,rfl,-,-,-⟩:=hv
 go_in
 go_wp2
 exact bodyPost_ret (v:=rv n) (by simp [results,Tryz.results90,go_sem]) rfl ⟨rfl,xt⟩
theorem value_name (S:Nat→Prop) (op:ByteArray) (n:Int×Int) (nm:ByteArray) (ts:List Ex) (h0:(op.toList == [110,117,109])=false) (h:(op.toList == [110,97,109,101])=true) (vs:Vals) (w:World) (v sl:Value) (hv:Rd S w (.mk op n nm ts) v) (hs:VRd S w vs sl) :
 Calls Tryz.prog 90 #[v,sl] w fun e w'=>e=endE (match look vs nm with|some k=>.ok (k,1)|none=>.error 13)∧Ext w w':=by
 unfold Rd at hv
 obtain ⟨base,cap,rfl,-,-,-⟩:=hv
 have hmf:∀ (fn:Fn) (first cap:Array Value) (w:World),(Instr.makeFunc fn first cap).run Tryz.prog w=.ok (.func fn first cap) w:=fun _ _ _ _=>rfl
 have HP:=zH (fun w' (hw:Ext w w')=>place_any S vs nm w' sl (hs.ext hw))
 cases hl:look vs nm with
 | none=>
  rw [place_none hl] at HP
  simp only [endE]
  clear hl
  go_in
  go_wp2_with (go_at_call 126;(refine (HP.out _ xt _ ?_).mono ?_);(simp [go_sem]);rintro e w1 ⟨rfl,hb⟩;obtain ⟨hc,hf⟩:=hb.cells)
  exact ⟨rfl,rfl,xt⟩
 | some z=>
  obtain ⟨k,hk,hp,hz⟩:=place_some hl
  obtain ⟨base',cap',rfl,hn,-,hr⟩:=hs
  rcases hr with rfl|⟨b,off,rfl,-,hc⟩
  ·cases hk
  have hck:=(hc k hk).2
  rw [hz] at hck
  have hbl:b < w.heap.size:=zB w _ hck
  have hkk:k < 1000001:=by omega
  rw [hp] at HP
  have HO:=zH (fun w=>Of_any z w)
  simp only [endE]
  clear hl hc hp hz
  go_in
  go_wp2_with (first
   |(go_at_call 126;(with_reducible refine (HP.out _ xt _ ?_).mono ?_);(simp [go_sem]);rintro e w1 ⟨rfl,hb⟩;obtain ⟨hc,hf⟩:=hb.cells;have hz:=hb.size;simp at hz;have z1:w.heap.size < w1.heap.size:=(by omega);have z2:w.heap.size+1 < w1.heap.size:=(by omega);have z3:b < w.heap.size+1:=(by omega);have z4:b < w.heap.size+1+1:=(by omega))
   |(go_at_call 136;(with_reducible refine (HO.out _).mono ?_);rintro e w2 ⟨rfl,hb2⟩;obtain ⟨hc2,hf2⟩:=hb2.cells))
  exact bodyPost_ret (v:=rv (z,1)) (by simp [results,Tryz.results90,go_sem,hc,hc2,z1,z2]) rfl ⟨rfl,xt⟩
theorem value_op1 (S:Nat→Prop) (op:ByteArray) (n:Int×Int) (nm:ByteArray) (ta tb:Ex) (h0:(op.toList == [110,117,109])=false) (h:(op.toList == [110,97,109,101])=false) (hi:¬ opIx op = -1)
 (vs:Vals) (w:World) (v sl:Value) (hv:Rd S w (.mk op n nm [ta,tb]) v) (hs:VRd S w vs sl) (ra rb:Except Int (Int×Int))
 (ia:∀ (w:World) (v sl:Value),Rd S w ta v→VRd S w vs sl→Calls Tryz.prog 90 #[v,sl] w fun e w'=>e=endE ra∧Ext w w')
 (ib:∀ (w:World) (v sl:Value),Rd S w tb v→VRd S w vs sl→Calls Tryz.prog 90 #[v,sl] w fun e w'=>e=endE rb∧Ext w w') (f:Int) (hra:ra=.error f) :
 Calls Tryz.prog 90 #[v,sl] w fun e w'=>e=endE (.error f)∧Ext w w':=by
 subst hra
 unfold Rd at hv
 obtain ⟨base,cap,rfl,-,-,hr⟩:=hv
 rcases hr with hr|⟨b,rfl,-,hl⟩
 ·cases hr
 obtain ⟨c,hc,hra⟩:=hl.get 0 (by simp)
 obtain ⟨d,hd,hrb⟩:=hl.get 1 (by simp)
 obtain ⟨oa,a1,a2,na,ba,la,ca,c0,c1,c2,c3,c4,ea⟩:=hra.shape
 obtain ⟨ob,b1,b2,nb,bb,lb,cb,d0,d1,d2,d3,d4,eb⟩:=hrb.shape
 simp only [List.getElem_cons_zero,List.getElem_cons_succ] at hra hrb
 rw [ea] at hra
 rw [eb] at hrb
 have hbl:b < w.heap.size:=zB w _ (hc 0 (by decide))
 have k0:=(hc 0 (by decide)).trans (congrArg some c0)
 have k1:=(hc 1 (by decide)).trans (congrArg some c1)
 have k2:=(hc 2 (by decide)).trans (congrArg some c2)
 have k3:=(hc 3 (by decide)).trans (congrArg some c3)
 have k4:=(hc 4 (by decide)).trans (congrArg some c4)
 have k5:=(hd 0 (by decide)).trans (congrArg some d0)
 have k6:=(hd 1 (by decide)).trans (congrArg some d1)
 have k7:=(hd 2 (by decide)).trans (congrArg some d2)
 have k8:=(hd 3 (by decide)).trans (congrArg some d3)
 have k9:=(hd 4 (by decide)).trans (congrArg some d4)
 simp only [Nat.zero_add,Nat.zero_mul,Nat.add_zero,Nat.one_mul,Nat.reduceAdd] at k0 k1 k2 k3 k4 k5 k6 k7 k8 k9
 have IA:=zH (fun w' (hw:Ext w w')=>ia w' _ sl (Rd.ext hw hra) (hs.ext hw))
 have IB:=zH (fun w' (hw:Ext w w')=>ib w' _ sl (Rd.ext hw hrb) (hs.ext hw))
 have HF:=zH (find_some op hi)
 clear hc hd c0 c1 c2 c3 c4 d0 d1 d2 d3 d4 ea eb hra hrb hl ia ib hs
 have g1:b < w.heap.size+1:=by omega
 have g2:b < w.heap.size+1+1:=by omega
 simp only [endE] at IA ⊢
 go_in
 go_wp2_with (first
  |(go_at_call 137;(with_reducible refine (HF.out _).mono ?_);rintro e w1 ⟨rfl,hb⟩;obtain ⟨hc,hf⟩:=hb.cells;have hz:=hb.size;simp at hz;have z1:w.heap.size < w1.heap.size:=(by omega);have z2:b < w1.heap.size:=(by omega))
  |(go_at_call 90;(with_reducible refine (IA.out _ xt).mono ?_);rintro e w2 ⟨rfl,hb2⟩))
 exact ⟨rfl,rfl,xt⟩
theorem value_op2 (S:Nat→Prop) (op:ByteArray) (n:Int×Int) (nm:ByteArray) (ta tb:Ex) (h0:(op.toList == [110,117,109])=false) (h:(op.toList == [110,97,109,101])=false) (hi:¬ opIx op = -1)
 (vs:Vals) (w:World) (v sl:Value) (hv:Rd S w (.mk op n nm [ta,tb]) v) (hs:VRd S w vs sl) (ra rb:Except Int (Int×Int))
 (ia:∀ (w:World) (v sl:Value),Rd S w ta v→VRd S w vs sl→Calls Tryz.prog 90 #[v,sl] w fun e w'=>e=endE ra∧Ext w w')
 (ib:∀ (w:World) (v sl:Value),Rd S w tb v→VRd S w vs sl→Calls Tryz.prog 90 #[v,sl] w fun e w'=>e=endE rb∧Ext w w') (x:Int×Int) (f:Int) (hra:ra=.ok x) (hrb:rb=.error f) :
 Calls Tryz.prog 90 #[v,sl] w fun e w'=>e=endE (.error f)∧Ext w w':=by
 subst hra hrb
 unfold Rd at hv
 obtain ⟨base,cap,rfl,-,-,hr⟩:=hv
 rcases hr with hr|⟨b,rfl,-,hl⟩
 ·cases hr
 obtain ⟨c,hc,hra⟩:=hl.get 0 (by simp)
 obtain ⟨d,hd,hrb⟩:=hl.get 1 (by simp)
 obtain ⟨oa,a1,a2,na,ba,la,ca,c0,c1,c2,c3,c4,ea⟩:=hra.shape
 obtain ⟨ob,b1,b2,nb,bb,lb,cb,d0,d1,d2,d3,d4,eb⟩:=hrb.shape
 simp only [List.getElem_cons_zero,List.getElem_cons_succ] at hra hrb
 rw [ea] at hra
 rw [eb] at hrb
 have hbl:b < w.heap.size:=zB w _ (hc 0 (by decide))
 have k0:=(hc 0 (by decide)).trans (congrArg some c0)
 have k1:=(hc 1 (by decide)).trans (congrArg some c1)
 have k2:=(hc 2 (by decide)).trans (congrArg some c2)
 have k3:=(hc 3 (by decide)).trans (congrArg some c3)
 have k4:=(hc 4 (by decide)).trans (congrArg some c4)
 have k5:=(hd 0 (by decide)).trans (congrArg some d0)
 have k6:=(hd 1 (by decide)).trans (congrArg some d1)
 have k7:=(hd 2 (by decide)).trans (congrArg some d2)
 have k8:=(hd 3 (by decide)).trans (congrArg some d3)
 have k9:=(hd 4 (by decide)).trans (congrArg some d4)
 simp only [Nat.zero_add,Nat.zero_mul,Nat.add_zero,Nat.one_mul,Nat.reduceAdd] at k0 k1 k2 k3 k4 k5 k6 k7 k8 k9
 have IA:=zH (fun w' (hw:Ext w w')=>ia w' _ sl (Rd.ext hw hra) (hs.ext hw))
 have IB:=zH (fun w' (hw:Ext w w')=>ib w' _ sl (Rd.ext hw hrb) (hs.ext hw))
 have HF:=zH (find_some op hi)
 clear hc hd c0 c1 c2 c3 c4 d0 d1 d2 d3 d4 ea eb hra hrb hl ia ib hs
 have g1:b < w.heap.size+1:=by omega
 have g2:b < w.heap.size+1+1:=by omega
 simp only [endE] at IA IB ⊢
 obtain ⟨x1,x2⟩:=x
 go_in
 go_wp2_with (first
  |(go_at_call 137;(with_reducible refine (HF.out _).mono ?_);rintro e w1 ⟨rfl,hb⟩;obtain ⟨hc,hf⟩:=hb.cells;have hz:=hb.size;simp at hz;have z1:w.heap.size < w1.heap.size:=(by omega);have z2:b < w1.heap.size:=(by omega))
  |(go_at_call 90;(with_reducible refine (IA.out _ xt).mono ?_);rintro e w2 ⟨rfl,hb2⟩;obtain ⟨hc2,hf2⟩:=hb2.cells;have hz2:=hb2.size;simp at hz2;have z3:w.heap.size < w1.heap.size+1:=(by omega);have z4:b < w1.heap.size+1:=(by omega);have z5:w.heap.size < w2.heap.size:=(by omega);have z6:b < w2.heap.size:=(by omega);have z7:w1.heap.size < w2.heap.size:=(by omega);have z8:w.heap.size < w2.heap.size+1:=(by omega);have z9:b < w2.heap.size+1:=(by omega);have z10:w1.heap.size < w2.heap.size+1:=(by omega)))
 refine Rr.wp_regionG [11] [(0,.y),(1,.y),(2,.y),(3,.y),(4,.y),(5,.y),(6,.y),(7,.z),(8,.y),(9,.y),(10,.y),(11,.y),(12,.m)] (fun _=>(.cells #[iV 0,iV 0] 30,Rg.ptr)) (fun c _=>c=[{ v:=.iface 159 (.agg #[iV f]),recovered:=false }]) ?_ (fun _ c a d v w h=>by have h':_∧_:=h;exact ⟨(Rr.put_defers a d v).symm.trans h'.1,h'.2⟩) (by kernel_rfl) (by kernel_rfl) ?_
 ·rintro c a' w' hd hx rfl
  exact ⟨hd,rfl,xt⟩
 repeat
  (refine Rr.wr_y (by rfl) (by rfl) ?_
   apply Exists.intro
   refine ⟨fun wz hw _=>?_,?_⟩
   ·obtain ⟨hcz,hfz⟩:=hw.cells
    go_simp
    exact zU
   simp only [Act.put,gd,ge,gf])
 refine Rr.wr_z (fun _ _=>False) (by rfl) (by rfl) (fun _ _ _ h _=>h) ?_ ?_
 ·intro wz hw _
  obtain ⟨hcz,hfz⟩:=hw.cells
  go_simp
  apply Rr.upR_panic
  (refine (IB.out _ xt).mono ?_)
  rintro e w3 ⟨rfl,hb3⟩
  exact ⟨_,rfl,hb3,rfl⟩
 ·intro u
  refine Rr.wr_dead (fun a fs hd w' _ hh=>?_) _ _ _ _ ⟨_,zM,fun _ h=>h⟩ ?_
  ·obtain ⟨g,hg,hno⟩:=hd
   exact absurd (hh g hg) (hno _)
  ·intro x hx
   simp only [List.mem_cons,List.not_mem_nil,or_false] at hx
   rcases hx with rfl|rfl|rfl|rfl|rfl
   ·exact ⟨_,rfl,.inl rfl⟩
   ·exact ⟨_,rfl,.inl rfl⟩
   ·exact ⟨_,rfl,.inl rfl⟩
   ·exact ⟨_,rfl,.inl rfl⟩
   ·exact ⟨_,rfl,.inr ⟨rfl,fun a=>⟨rfl,fun w=>by go_simp⟩⟩⟩
section
variable {ρ:Operand→Value} {d:Option Tmp} {x:Operand} {ty:TypeId} {ps:String} {af:Array Edge} {gd:Option (Nat×Bool)} {w:World} {b o:Nat}
theorem up_load29 {c0 c1 c2 c3 c4:Value} (hx:ρ x=.pointer (some ⟨b,o,none⟩)) (h0:w.cell? ⟨b,o,none⟩=some c0) (h1:w.cell? ⟨b,o+1,none⟩=some c1) (h2:w.cell? ⟨b,o+2,none⟩=some c2) (h3:w.cell? ⟨b,o+3,none⟩=some c3) (h4:w.cell? ⟨b,o+4,none⟩=some c4) :
 Rg.up Tryz.prog w (.agg #[c0,c1,c2,c3,c4]) ((execOp ρ { dst:=d,op:=.load 33 x,type:=ty,pos:=ps,after:=af,guard:=gd }).run Tryz.prog w):=by
 simp only [execOp,hx]
 go_simp
 exact zU
theorem up_load26 {c0 c1:Value} (hx:ρ x=.pointer (some ⟨b,o,none⟩)) (h0:w.cell? ⟨b,o,none⟩=some c0) (h1:w.cell? ⟨b,o+1,none⟩=some c1) :
 Rg.up Tryz.prog w (.agg #[c0,c1]) ((execOp ρ { dst:=d,op:=.load 30 x,type:=ty,pos:=ps,after:=af,guard:=gd }).run Tryz.prog w):=by
 simp only [execOp,hx]
 go_simp
 exact zU
theorem up_load117 {c0 c1:Value} (hx:ρ x=.pointer (some ⟨b,o,none⟩)) (h0:w.cell? ⟨b,o,none⟩=some c0) (h1:w.cell? ⟨b,o+1,none⟩=some c1) :
 Rg.up Tryz.prog w (.agg #[c0,c1]) ((execOp ρ { dst:=d,op:=.load 202 x,type:=ty,pos:=ps,after:=af,guard:=gd }).run Tryz.prog w):=by
 simp only [execOp,hx]
 go_simp
 exact zU
end
end Go.Proofs.YteomcpplajeidaaGreat
