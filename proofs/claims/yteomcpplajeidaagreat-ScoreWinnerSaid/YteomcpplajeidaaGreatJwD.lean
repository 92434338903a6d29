/-
  Lemmas of this claim (JwD). Nothing is asked.
-/
import Derived.Test.YteomcpplajeidaaGreatJwC
import Derived.Test.YteomcpplajeidaaGreatJwB
import Derived.Laws.EntriesVeiled
set_option linter.unusedVariables false
set_option linter.unusedSimpArgs false
set_option maxRecDepth 100000
set_option maxHeartbeats 40000000
namespace Go.Proofs.YteomcpplajeidaaGreat
open Go.RowKit
theorem mk143 (d:Option Tmp) (t:TypeId) (p:String) (af:Array Edge):Rg.Makes Tryz.prog { dst:=d,op:=.alloc 140,type:=t,pos:=p,after:=af,guard:=none } (.cells #[.bool false,.int .u64 0,.int .u64 0] 140):=
 ⟨rfl,fun a w=>by go_simp⟩
def cmpI (a b:Int×Int):Int:=
 if (rightB a.1 a.2 && rightB b.1 b.2)=true then
  (if decide (a.1 < 0)=decide (b.1 < 0) then (if a.1 < 0 then -cmpZ (sizeZ a.1 * sizeZ b.2) (sizeZ b.1 * sizeZ a.2) else cmpZ (sizeZ a.1 * sizeZ b.2) (sizeZ b.1 * sizeZ a.2))
  else cmpZ a.1 b.1)
 else 0
theorem cmpZ_bd (a b:Int):-1≤cmpZ a b∧cmpZ a b≤1:=by unfold cmpZ;split <;> (try split) <;> omega
theorem Cmp_no (a1 a2 b1 b2:Int) (ha:I2 (a1,a2)) (hb:I2 (b1,b2)) (hr:(rightB a1 a2 && rightB b1 b2)=false) (w:World) :
 Calls Tryz.prog 44 #[.agg #[iV a1,iV a2],.agg #[iV b1,iV b2]] w fun e w'=>e=.returned (iV 0)∧Ext w w':=by
 have Hr:=zH hr;clear hr
 obtain ⟨h1,h2,h3,h4⟩:=ha
 obtain ⟨h5,h6,h7,h8⟩:=hb
 go_in
 go_wp2_with (go_at_call 70;refine (both_any a1 a2 b1 b2 h1 h2 h4 h5 h6 h8 _).mono ?_;rintro e w1 ⟨rfl,hb⟩;rw [Hr.out])
 go_ret
 exact ⟨rfl,xt⟩
theorem Cmp_yes (a1 a2 b1 b2:Int) (ha:I2 (a1,a2)) (hb:I2 (b1,b2)) (hr:(rightB a1 a2 && rightB b1 b2)=true) (hS:SumOk (sizeZ a1) (sizeZ a2) (sizeZ b1) (sizeZ b2)) (k:Int)
 (hk:(¬ decide (a1 < 0)=decide (b1 < 0)∧k=cmpZ a1 b1)∨(decide (a1 < 0)=decide (b1 < 0)∧k=cmpZ (sizeZ a1 * sizeZ b2) (sizeZ b1 * sizeZ a2)∧decide (a1 < 0)=false)∨(decide (a1 < 0)=decide (b1 < 0)∧k = -cmpZ (sizeZ a1 * sizeZ b2) (sizeZ b1 * sizeZ a2)∧decide (a1 < 0)=true)) (w:World) :
 Calls Tryz.prog 44 #[.agg #[iV a1,iV a2],.agg #[iV b1,iV b2]] w fun e w'=>e=.returned (iV k)∧Ext w w':=by
 have Hr:=zH hr;clear hr
 obtain ⟨h1,h2,h3,h4⟩:=ha
 obtain ⟨h5,h6,h7,h8⟩:=hb
 obtain ⟨⟨s1,s2⟩,⟨s3,s4⟩,⟨s5,s6⟩,⟨s7,s8⟩⟩:=hS
 have HO1:=zH (of_any a1 a2 h1 h2 h3 h4);have HO2:=zH (of_any b1 b2 h5 h6 h7 h8)
 have l1:=mul_le_of s1 s2 (show 0≤sizeZ b2 by omega) s8
 have l2:=mul_le_of s3 s4 (show 0≤sizeZ a2 by omega) s6
 have w1:Wide (sizeZ a1 * sizeZ b2):=⟨l1.1,by omega⟩
 have w2:Wide (sizeZ b1 * sizeZ a2):=⟨l2.1,by omega⟩
 have HP:=zH (product_w (sizeZ a1) (sizeZ b2) s1 (by omega) (by omega) (by omega))
 have HQ:=zH (product_w (sizeZ b1) (sizeZ a2) s3 (by omega) (by omega) (by omega))
 have HC:=zH (compare_any _ _ w1 w2)
 have HK:=zH hk;clear hk
 have cb:=cmpZ_bd (sizeZ a1 * sizeZ b2) (sizeZ b1 * sizeZ a2)
 clear l1 l2 w1 w2
 generalize hx:decide (a1 < 0)=x at *
 generalize hy:decide (b1 < 0)=y at *
 have Hx:=zH hx;have Hy:=zH hy;clear hx hy
 go_in
 go_wp2_with (go_at_call 70;refine (both_any a1 a2 b1 b2 h1 h2 h4 h5 h6 h8 _).mono ?_;rintro e w1 ⟨rfl,hb⟩;rw [Hr.out];obtain ⟨hc,hf⟩:=hb.cells;have hz:=hb.size;simp at hz;have z1:w.heap.size+1 < w1.heap.size:=(by omega);have z2:w.heap.size < w1.heap.size:=(by omega))
 refine Rg.wp_region 4 6 (fun i=>if i=4 then some (.cells #[.bool false,.int .u64 0,.int .u64 0] 140) else if i=5 then some (.cells #[.bool false,.int .u64 0,.int .u64 0] 140) else none) (fun i hi=>by rw [if_neg (by omega)];rw [if_neg (by omega)]) (by kernel_rfl) (by kernel_rfl) ?_
 simp only [List.take_succ_cons,List.take_zero,List.drop_succ_cons,List.drop_zero]
 repeat
  (refine Rg.wk_step (by rfl) ?_
   apply Exists.intro
   refine ⟨fun wz hw=>?_,?_⟩
   ·obtain ⟨hc,hf⟩:=hw.cells
    go_simp
    first
     | exact zU
     |(apply Rg.up_enter;(with_reducible refine (HO1.out _).mono ?_);rintro e w1 ⟨rfl,hb1⟩;exact ⟨rfl,hb1⟩)
     |(apply Rg.up_enter;(with_reducible refine (HO2.out _).mono ?_);rintro e w1 ⟨rfl,hb1⟩;exact ⟨rfl,hb1⟩)
   simp only [zp])
 refine Rg.wk_nil (Rg.fin2 rfl rfl rfl (mk143 _ _ _ _) rfl rfl (mk143 _ _ _ _) (by simp) ?_)
 intro p q wx hx hpq hp hq ep eq
 obtain ⟨cp,fp,lp⟩:=zC ep
 obtain ⟨cq,fq,lq⟩:=zC eq
 obtain ⟨hcx,hfx⟩:=hx.cells
 have hqp:¬ q=p:=fun e=>hpq e.symm
 simp only [Act.put,List.setIfInBounds_toArray]
 have v1:¬ p=w.heap.size:=by omega
 have v2:¬ p=w.heap.size+1:=by omega
 have v3:¬ q=w.heap.size:=by omega
 have v4:¬ q=w.heap.size+1:=by omega
 rcases HK.out with ⟨hxy,rfl⟩|⟨rfl,rfl,rfl⟩|⟨rfl,rfl,rfl⟩
 ·have hxy':(x == y)=false:=by simpa using hxy
  clear hxy HK
  go_wp2_with (go_at_call 72;refine (Compare_i _ _ _).mono ?_;rintro e w' ⟨rfl,rfl⟩)
  go_ret
  exact ⟨rfl,xt⟩
 ·clear HK
  go_wp2_with (fail)
  refine Rg.wp_region 11 11 (fun _=>none) (fun _ _=>rfl) (by kernel_rfl) (by kernel_rfl) ?_
  simp only [List.take_succ_cons,List.take_zero,List.drop_succ_cons,List.drop_zero]
  repeat
   (refine Rg.wk_step (by rfl) ?_
    apply Exists.intro
    refine ⟨fun wz hw=>?_,?_⟩
    ·obtain ⟨hc,hf⟩:=hw.cells
     go_simp
     first
      | exact zU
      |(apply Rg.up_enter;(with_reducible refine (HP.out _).mono ?_);rintro e w1 ⟨rfl,hb1⟩;exact ⟨rfl,hb1⟩)
      |(apply Rg.up_enter;(with_reducible refine (HQ.out _).mono ?_);rintro e w1 ⟨rfl,hb1⟩;exact ⟨rfl,hb1⟩)
      |(apply Rg.up_enter;(with_reducible refine (HC.out _).mono ?_);rintro e w1 ⟨rfl,hb1⟩;exact ⟨rfl,hb1⟩)
    simp only [zp])
  refine Rg.wk_nil (Rg.fin0 rfl ?_)
  intro wy hy
  obtain ⟨hcy,hfy⟩:=hy.cells
  go_wp2
  go_ret
  exact ⟨rfl,xt⟩
 ·clear HK
  go_wp2_with (fail)
  refine Rg.wp_region 11 11 (fun _=>none) (fun _ _=>rfl) (by kernel_rfl) (by kernel_rfl) ?_
  simp only [List.take_succ_cons,List.take_zero,List.drop_succ_cons,List.drop_zero]
  repeat
   (refine Rg.wk_step (by rfl) ?_
    apply Exists.intro
    refine ⟨fun wz hw=>?_,?_⟩
    ·obtain ⟨hc,hf⟩:=hw.cells
     go_simp
     first
      | exact zU
      |(apply Rg.up_enter;(with_reducible refine (HP.out _).mono ?_);rintro e w1 ⟨rfl,hb1⟩;exact ⟨rfl,hb1⟩)
      |(apply Rg.up_enter;(with_reducible refine (HQ.out _).mono ?_);rintro e w1 ⟨rfl,hb1⟩;exact ⟨rfl,hb1⟩)
      |(apply Rg.up_enter;(with_reducible refine (HC.out _).mono ?_);rintro e w1 ⟨rfl,hb1⟩;exact ⟨rfl,hb1⟩)
    simp only [zp])
  refine Rg.wk_nil (Rg.fin0 rfl ?_)
  intro wy hy
  obtain ⟨hcy,hfy⟩:=hy.cells
  go_wp2
  go_ret
  exact ⟨rfl,xt⟩
theorem Cmp_any (a b:Int×Int) (ha:I2 a) (hb:I2 b) (w:World) :
 Calls Tryz.prog 44 #[rv a,rv b] w fun e w'=>e=.returned (iV (cmpI a b))∧Ext w w':=by
 cases hr:(rightB a.1 a.2 && rightB b.1 b.2)
 ·rw [show cmpI a b=0 from if_neg (by simp [hr])]
  exact Cmp_no a.1 a.2 b.1 b.2 ha hb hr w
 ·refine Cmp_yes a.1 a.2 b.1 b.2 ha hb hr (sumOk_of ha hb hr) (cmpI a b) ?_ w
  rw [show cmpI a b=_ from if_pos hr]
  by_cases hxy:decide (a.1 < 0)=decide (b.1 < 0)
  ·rw [if_pos hxy]
   by_cases h0:a.1 < 0
   ·rw [if_pos h0];exact .inr (.inr ⟨hxy,rfl,by simpa using h0⟩)
   ·rw [if_neg h0];exact .inr (.inl ⟨hxy,rfl,by simpa using h0⟩)
  ·rw [if_neg hxy];exact .inl ⟨hxy,rfl⟩
def idxFrom (p:Nat→Bool) (n:Nat):Nat→Int
 | 0=>-1
 | f+1=>if p (n - (f+1)) then ((n - (f+1):Nat):Int) else idxFrom p n f
def idxZ (p:Nat→Bool) (n:Nat):Int:=idxFrom p n n
theorem idxFrom_step {p:Nat→Bool} {n k:Nat} (hk:k < n):idxFrom p n (n - k)=if p k then (k:Int) else idxFrom p n (n - (k+1)):=by
 rw [show n - k=(n - (k+1))+1 by omega,idxFrom,show n - (n - (k+1)+1)=k by omega]
theorem index96 (b o n c:Nat) (hn:n≤1000000) (f:FuncId) (cap:Array Value) (e:Nat→Nat→Value) (p:Nat→Bool) (w:World)
 (hc0:∀ k,k < n→w.cell? ⟨b,o+k * 2,none⟩=some (e k 0)) (hc1:∀ k,k < n→w.cell? ⟨b,o+k * 2+1,none⟩=some (e k 1))
 (hF:∀ k w',k < n→Ext w w'→Calls Tryz.prog f (#[.agg #[e k 0,e k 1]] ++ cap) w' fun e w''=>e=.returned (.bool (p k))∧Ext w' w'')
 (hE:∀ args w,(callFunc f args).run Tryz.prog w=.ok (.enter f args) w) :
 Calls Tryz.prog 175 #[.slice (some ⟨b,o,none⟩) n c,.func (.func f) #[] cap] w fun e w'=>e=.returned (iV (idxZ p n))∧Ext w w':=by
 have HF:=zH hF
 have HC0:=zH hc0;have HC1:=zH hc1
 clear hF
 clear hc0 hc1
 go_in
 go_wp2
 go_loopw [8] (fun i wr=>∃ k:Nat,k≤n∧i=iV k∧idxZ p n=idxFrom p n (n - k)∧Ext w wr) (fun i _=>n - (intOf i).toNat)
 case atStart=>exact ⟨0,Nat.zero_le _,rfl,rfl,Ext.refl _⟩
 case round=>
  obtain ⟨k,hk,rfl,hi,hx⟩:=hrel
  have Hi:=zH hi;clear hi
  rcases Nat.lt_or_ge k n with hlt|hge
  ·have hbl:b < w.heap.size:=zB w _ (HC0.out k hlt)
   have h0:=(hx.cells.1 b (o+k * 2) hbl).trans (HC0.out k hlt)
   have h1:=(hx.cells.1 b (o+k * 2+1) hbl).trans (HC1.out k hlt)
   have HFk:=zH (HF.out k wr hlt hx)
   have Hx:=zH hx
   clear hx
   cases hp:p k
   ·rw [hp] at HFk
    have Hp:=zH hp;clear hp
    go_wp2_with (refine HFk.out.mono ?_;rintro e' w1 ⟨rfl,hb⟩)
    go_roundw
    case rel=>exact ⟨k+1,by omega,by go_num,by rw [Hi.out,idxFrom_step hlt,Hp.out];rfl,Hx.out.trans hb⟩
    case measure=>simp [intOf];omega
   ·rw [hp] at HFk
    have Hp:=zH hp;clear hp
    go_wp2_with (refine HFk.out.mono ?_;rintro e' w1 ⟨rfl,hb⟩)
    go_ret
    exact ⟨by rw [Hi.out,idxFrom_step hlt,Hp.out];rfl,Hx.out.trans hb⟩
  ·have hkn:k=n:=by omega
   subst hkn
   go_wp2
   go_ret
   exact ⟨by rw [Hi.out,Nat.sub_self];rfl,hx⟩
theorem index70 (b o n c:Nat) (hn:n≤1000000) (f:FuncId) (cap:Array Value) (e:Nat→Nat→Value) (p:Nat→Bool) (w:World)
 (hc0:∀ k,k < n→w.cell? ⟨b,o+k * 2,none⟩=some (e k 0)) (hc1:∀ k,k < n→w.cell? ⟨b,o+k * 2+1,none⟩=some (e k 1))
 (hF:∀ k w',k < n→Ext w w'→Calls Tryz.prog f (#[.agg #[e k 0,e k 1]] ++ cap) w' fun e w''=>e=.returned (.bool (p k))∧Ext w' w'')
 (hE:∀ args w,(callFunc f args).run Tryz.prog w=.ok (.enter f args) w) :
 Calls Tryz.prog 126 #[.slice (some ⟨b,o,none⟩) n c,.func (.func f) #[] cap] w fun e w'=>e=.returned (iV (idxZ p n))∧Ext w w':=by
 have HF:=zH hF
 have HC0:=zH hc0;have HC1:=zH hc1
 clear hF
 clear hc0 hc1
 go_in
 go_wp2
 go_loopw [8] (fun i wr=>∃ k:Nat,k≤n∧i=iV k∧idxZ p n=idxFrom p n (n - k)∧Ext w wr) (fun i _=>n - (intOf i).toNat)
 case atStart=>exact ⟨0,Nat.zero_le _,rfl,rfl,Ext.refl _⟩
 case round=>
  obtain ⟨k,hk,rfl,hi,hx⟩:=hrel
  have Hi:=zH hi;clear hi
  rcases Nat.lt_or_ge k n with hlt|hge
  ·have hbl:b < w.heap.size:=zB w _ (HC0.out k hlt)
   have h0:=(hx.cells.1 b (o+k * 2) hbl).trans (HC0.out k hlt)
   have h1:=(hx.cells.1 b (o+k * 2+1) hbl).trans (HC1.out k hlt)
   have HFk:=zH (HF.out k wr hlt hx)
   have Hx:=zH hx
   clear hx
   cases hp:p k
   ·rw [hp] at HFk
    have Hp:=zH hp;clear hp
    go_wp2_with (refine HFk.out.mono ?_;rintro e' w1 ⟨rfl,hb⟩)
    go_roundw
    case rel=>exact ⟨k+1,by omega,by go_num,by rw [Hi.out,idxFrom_step hlt,Hp.out];rfl,Hx.out.trans hb⟩
    case measure=>simp [intOf];omega
   ·rw [hp] at HFk
    have Hp:=zH hp;clear hp
    go_wp2_with (refine HFk.out.mono ?_;rintro e' w1 ⟨rfl,hb⟩)
    go_ret
    exact ⟨by rw [Hi.out,idxFrom_step hlt,Hp.out];rfl,Hx.out.trans hb⟩
  ·have hkn:k=n:=by omega
   subst hkn
   go_wp2
   go_ret
   exact ⟨by rw [Hi.out,Nat.sub_self];rfl,hx⟩
theorem index70_nil (A:Option Addr) (c:Nat) (f:Value) (w:World) :
 Calls Tryz.prog 126 #[.slice A 0 c,f] w fun e w'=>e=.returned (iV (-1))∧Ext w w':=by
 go_in
 go_wp2
 refine wp_loop_rounds 1 ?_
 repeat any_goals (rw [rounds_succ];go_wp2)
 go_ret
 exact ⟨rfl,Ext.refl _⟩
theorem index59 (b o n c:Nat) (hn:n≤1000000) (f:FuncId) (cap:Array Value) (e:Nat→Nat→Value) (p:Nat→Bool) (w:World)
 (hc0:∀ k,k < n→w.cell? ⟨b,o+k * 2,none⟩=some (e k 0)) (hc1:∀ k,k < n→w.cell? ⟨b,o+k * 2+1,none⟩=some (e k 1))
 (hF:∀ k w',k < n→Ext w w'→Calls Tryz.prog f (#[.agg #[e k 0,e k 1]] ++ cap) w' fun e w''=>e=.returned (.bool (p k))∧Ext w' w'')
 (hE:∀ args w,(callFunc f args).run Tryz.prog w=.ok (.enter f args) w) :
 Calls Tryz.prog 48 #[.slice (some ⟨b,o,none⟩) n c,.func (.func f) #[] cap] w fun e w'=>e=.returned (iV (idxZ p n))∧Ext w w':=by
 have HF:=zH hF
 have HC0:=zH hc0;have HC1:=zH hc1
 clear hF
 clear hc0 hc1
 go_in
 go_wp2
 go_loopw [8] (fun i wr=>∃ k:Nat,k≤n∧i=iV k∧idxZ p n=idxFrom p n (n - k)∧Ext w wr) (fun i _=>n - (intOf i).toNat)
 case atStart=>exact ⟨0,Nat.zero_le _,rfl,rfl,Ext.refl _⟩
 case round=>
  obtain ⟨k,hk,rfl,hi,hx⟩:=hrel
  have Hi:=zH hi;clear hi
  rcases Nat.lt_or_ge k n with hlt|hge
  ·have hbl:b < w.heap.size:=zB w _ (HC0.out k hlt)
   have h0:=(hx.cells.1 b (o+k * 2) hbl).trans (HC0.out k hlt)
   have h1:=(hx.cells.1 b (o+k * 2+1) hbl).trans (HC1.out k hlt)
   have HFk:=zH (HF.out k wr hlt hx)
   have Hx:=zH hx
   clear hx
   cases hp:p k
   ·rw [hp] at HFk
    have Hp:=zH hp;clear hp
    go_wp2_with (refine HFk.out.mono ?_;rintro e' w1 ⟨rfl,hb⟩)
    go_roundw
    case rel=>exact ⟨k+1,by omega,by go_num,by rw [Hi.out,idxFrom_step hlt,Hp.out];rfl,Hx.out.trans hb⟩
    case measure=>simp [intOf];omega
   ·rw [hp] at HFk
    have Hp:=zH hp;clear hp
    go_wp2_with (refine HFk.out.mono ?_;rintro e' w1 ⟨rfl,hb⟩)
    go_ret
    exact ⟨by rw [Hi.out,idxFrom_step hlt,Hp.out];rfl,Hx.out.trans hb⟩
  ·have hkn:k=n:=by omega
   subst hkn
   go_wp2
   go_ret
   exact ⟨by rw [Hi.out,Nat.sub_self];rfl,hx⟩
theorem index59_nil (A:Option Addr) (c:Nat) (f:Value) (w:World) :
 Calls Tryz.prog 48 #[.slice A 0 c,f] w fun e w'=>e=.returned (iV (-1))∧Ext w w':=by
 go_in
 go_wp2
 refine wp_loop_rounds 1 ?_
 repeat any_goals (rw [rounds_succ];go_wp2)
 go_ret
 exact ⟨rfl,Ext.refl _⟩
theorem index86 (b o n c:Nat) (hn:n≤1000000) (f:FuncId) (cap:Array Value) (e:Nat→Nat→Value) (p:Nat→Bool) (w:World)
 (hc0:∀ k,k < n→w.cell? ⟨b,o+k * 5,none⟩=some (e k 0)) (hc1:∀ k,k < n→w.cell? ⟨b,o+k * 5+1,none⟩=some (e k 1)) (hc2:∀ k,k < n→w.cell? ⟨b,o+k * 5+2,none⟩=some (e k 2)) (hc3:∀ k,k < n→w.cell? ⟨b,o+k * 5+3,none⟩=some (e k 3)) (hc4:∀ k,k < n→w.cell? ⟨b,o+k * 5+4,none⟩=some (e k 4))
 (hF:∀ k w',k < n→Ext w w'→Calls Tryz.prog f (#[.agg #[e k 0,e k 1,e k 2,e k 3,e k 4]] ++ cap) w' fun e w''=>e=.returned (.bool (p k))∧Ext w' w'')
 (hE:∀ args w,(callFunc f args).run Tryz.prog w=.ok (.enter f args) w) :
 Calls Tryz.prog 76 #[.slice (some ⟨b,o,none⟩) n c,.func (.func f) #[] cap] w fun e w'=>e=.returned (iV (idxZ p n))∧Ext w w':=by
 have HF:=zH hF
 have HC0:=zH hc0;have HC1:=zH hc1;have HC2:=zH hc2;have HC3:=zH hc3;have HC4:=zH hc4
 clear hF
 clear hc0 hc1 hc2 hc3 hc4
 go_in
 go_wp2
 go_loopw [8] (fun i wr=>∃ k:Nat,k≤n∧i=iV k∧idxZ p n=idxFrom p n (n - k)∧Ext w wr) (fun i _=>n - (intOf i).toNat)
 case atStart=>exact ⟨0,Nat.zero_le _,rfl,rfl,Ext.refl _⟩
 case round=>
  obtain ⟨k,hk,rfl,hi,hx⟩:=hrel
  have Hi:=zH hi;clear hi
  rcases Nat.lt_or_ge k n with hlt|hge
  ·have hbl:b < w.heap.size:=zB w _ (HC0.out k hlt)
   have h0:=(hx.cells.1 b (o+k * 5) hbl).trans (HC0.out k hlt)
   have h1:=(hx.cells.1 b (o+k * 5+1) hbl).trans (HC1.out k hlt)
   have h2:=(hx.cells.1 b (o+k * 5+2) hbl).trans (HC2.out k hlt)
   have h3:=(hx.cells.1 b (o+k * 5+3) hbl).trans (HC3.out k hlt)
   have h4:=(hx.cells.1 b (o+k * 5+4) hbl).trans (HC4.out k hlt)
   have HFk:=zH (HF.out k wr hlt hx)
   have Hx:=zH hx
   clear hx
   cases hp:p k
   ·rw [hp] at HFk
    have Hp:=zH hp;clear hp
    go_wp2_with (refine HFk.out.mono ?_;rintro e' w1 ⟨rfl,hb⟩)
    go_roundw
    case rel=>exact ⟨k+1,by omega,by go_num,by rw [Hi.out,idxFrom_step hlt,Hp.out];rfl,Hx.out.trans hb⟩
    case measure=>simp [intOf];omega
   ·rw [hp] at HFk
    have Hp:=zH hp;clear hp
    go_wp2_with (refine HFk.out.mono ?_;rintro e' w1 ⟨rfl,hb⟩)
    go_ret
    exact ⟨by rw [Hi.out,idxFrom_step hlt,Hp.out];rfl,Hx.out.trans hb⟩
  ·have hkn:k=n:=by omega
   subst hkn
   go_wp2
   go_ret
   exact ⟨by rw [Hi.out,Nat.sub_self];rfl,hx⟩
theorem index86_nil (A:Option Addr) (c:Nat) (f:Value) (w:World) :
 Calls Tryz.prog 76 #[.slice A 0 c,f] w fun e w'=>e=.returned (iV (-1))∧Ext w w':=by
 go_in
 go_wp2
 refine wp_loop_rounds 1 ?_
 repeat any_goals (rw [rounds_succ];go_wp2)
 go_ret
 exact ⟨rfl,Ext.refl _⟩
theorem same97 (s nm:ByteArray) (g:Value) (q:Nat) (w:World) (h:w.cell? ⟨q,0,none⟩=some (.string nm)) :
 Calls Tryz.prog 176 #[.agg #[.string s,g],.pointer (some ⟨q,0,none⟩)] w fun e w'=>e=.returned (.bool (s.toList == nm.toList))∧Ext w w':=by
 have hpl:q < w.heap.size:=zB w _ h
 go_in
 go_wp2
 go_ret
 exact ⟨rfl,xt⟩
def opNm:Nat→ByteArray
 | 0=>⟨#[43]⟩|1=>⟨#[45]⟩|2=>⟨#[42]⟩|3=>⟨#[47]⟩|4=>⟨#[109,105,110]⟩|_=>⟨#[109,97,120]⟩
def opFn:Nat→FuncId
 | 0=>168|1=>169|2=>170|3=>171|4=>172|_=>174
def opE (k j:Nat):Value:=if j=0 then .string (opNm k) else .func (.func (opFn k)) #[] #[]
def opIx (nm:ByteArray):Int:=idxZ (fun k=>(opNm k).toList == nm.toList) 6
theorem idxFrom_bd (p:Nat→Bool) (n:Nat):∀ f,f≤n→-1≤idxFrom p n f∧idxFrom p n f < n
 | 0,_=>⟨by simp [idxFrom],by simp [idxFrom];omega⟩
 | f+1,h=>by
  have ih:=idxFrom_bd p n f (by omega)
  unfold idxFrom
  split
  ·omega
  ·exact ih
theorem opIx_bd (nm:ByteArray):-1≤opIx nm∧opIx nm < 6:=by
 have h:=idxFrom_bd (fun k=>(opNm k).toList == nm.toList) 6 6 (Nat.le_refl _)
 unfold opIx idxZ;omega
theorem enters97 (args:Array Value) (w:World):(callFunc 176 args).run Tryz.prog w=.ok (.enter 176 args) w:=by go_simp
def findV (i:Int):Value:=if i = -1 then .tuple #[.agg #[.string ⟨#[]⟩,.nilFunc],.bool false] else .tuple #[.agg #[.string (opNm i.toNat),.func (.func (opFn i.toNat)) #[] #[]],.bool true]
def opCells:Array Value:=#[.string ⟨#[43]⟩,.func (.func 168) #[] #[],.string ⟨#[45]⟩,.func (.func 169) #[] #[],.string ⟨#[42]⟩,.func (.func 170) #[] #[],.string ⟨#[47]⟩,.func (.func 171) #[] #[],.string ⟨#[109,105,110]⟩,.func (.func 172) #[] #[],.string ⟨#[109,97,120]⟩,.func (.func 174) #[] #[]]
theorem opCells_at (k j:Nat) (hk:k < 6) (hj:j < 2):opCells[0+k * 2+j]? = some (opE k j):=by
 have h:k=0∨k=1∨k=2∨k=3∨k=4∨k=5:=by omega
 have h2:j=0∨j=1:=by omega
 rcases h with rfl|rfl|rfl|rfl|rfl|rfl <;> rcases h2 with rfl|rfl <;> rfl
theorem find_index (nm:ByteArray) (w:World) (b q:Nat) (hb:∀ j,w.cell? ⟨b,j,none⟩=opCells[j]?) (hq:w.cell? ⟨q,0,none⟩=some (.string nm)) :
 Calls Tryz.prog 175 #[.slice (some ⟨b,0,none⟩) 6 6,.func (.func 176) #[] #[.pointer (some ⟨q,0,none⟩)]] w fun e w'=>e=.returned (iV (opIx nm))∧Ext w w':=by
 have hql:q < w.heap.size:=zB w _ hq
 refine index96 b 0 6 6 (by decide) 176 _ opE (fun k=>(opNm k).toList == nm.toList) w (fun k hk=>(hb _).trans (opCells_at k 0 hk (by decide))) (fun k hk=>(hb _).trans (opCells_at k 1 hk (by decide))) ?_ enters97
 intro k w' hk hx
 exact same97 (opNm k) nm _ q w' ((hx.cells.1 q 0 hql).trans hq)
theorem find_walk (nm:ByteArray) (i:Int) (hi:opIx nm=i) (h:i = -1∨i=0∨i=1∨i=2∨i=3∨i=4∨i=5) (w:World) :
 Calls Tryz.prog 137 #[.string nm] w fun e w'=>e=.returned (findV i)∧Ext w w':=by
 have Hi:=zH hi;clear hi
 have hmf:∀ (fn:Fn) (first cap:Array Value) (w:World),(Instr.makeFunc fn first cap).run Tryz.prog w=.ok (.func fn first cap) w:=fun _ _ _ _=>rfl
 have HF:=zH (fun w=>find_index nm w)
 have z0:∀ j:Nat,#[Value.string nm][j]? = #[Value.string nm][j]?:=fun _=>rfl
 clear z0
 rcases h with rfl|rfl|rfl|rfl|rfl|rfl|rfl
 ·go_in
  go_wp2_with (go_at_call 175;(refine (HF.out _ _ _ ?_ ?_).mono ?_);(intro j;simp [go_sem,opCells]);(simp [go_sem]);rintro e w1 ⟨rfl,hb⟩;rw [Hi.out];obtain ⟨hc,hf⟩:=hb.cells)
  exact bodyPost_ret (v:=findV (-1)) (by simp [results,Tryz.results137,go_sem,hc,findV]) rfl ⟨rfl,xt⟩
 ·go_in
  go_wp2_with (go_at_call 175;(refine (HF.out _ _ _ ?_ ?_).mono ?_);(intro j;simp [go_sem,opCells]);(simp [go_sem]);rintro e w1 ⟨rfl,hb⟩;rw [Hi.out];obtain ⟨hc,hf⟩:=hb.cells)
  exact bodyPost_ret (v:=findV (0)) (by simp [results,Tryz.results137,go_sem,hc,findV,opNm,opFn]) rfl ⟨rfl,xt⟩
 ·go_in
  go_wp2_with (go_at_call 175;(refine (HF.out _ _ _ ?_ ?_).mono ?_);(intro j;simp [go_sem,opCells]);(simp [go_sem]);rintro e w1 ⟨rfl,hb⟩;rw [Hi.out];obtain ⟨hc,hf⟩:=hb.cells)
  exact bodyPost_ret (v:=findV (1)) (by simp [results,Tryz.results137,go_sem,hc,findV,opNm,opFn]) rfl ⟨rfl,xt⟩
 ·go_in
  go_wp2_with (go_at_call 175;(refine (HF.out _ _ _ ?_ ?_).mono ?_);(intro j;simp [go_sem,opCells]);(simp [go_sem]);rintro e w1 ⟨rfl,hb⟩;rw [Hi.out];obtain ⟨hc,hf⟩:=hb.cells)
  exact bodyPost_ret (v:=findV (2)) (by simp [results,Tryz.results137,go_sem,hc,findV,opNm,opFn]) rfl ⟨rfl,xt⟩
 ·go_in
  go_wp2_with (go_at_call 175;(refine (HF.out _ _ _ ?_ ?_).mono ?_);(intro j;simp [go_sem,opCells]);(simp [go_sem]);rintro e w1 ⟨rfl,hb⟩;rw [Hi.out];obtain ⟨hc,hf⟩:=hb.cells)
  exact bodyPost_ret (v:=findV (3)) (by simp [results,Tryz.results137,go_sem,hc,findV,opNm,opFn]) rfl ⟨rfl,xt⟩
 ·go_in
  go_wp2_with (go_at_call 175;(refine (HF.out _ _ _ ?_ ?_).mono ?_);(intro j;simp [go_sem,opCells]);(simp [go_sem]);rintro e w1 ⟨rfl,hb⟩;rw [Hi.out];obtain ⟨hc,hf⟩:=hb.cells)
  exact bodyPost_ret (v:=findV (4)) (by simp [results,Tryz.results137,go_sem,hc,findV,opNm,opFn]) rfl ⟨rfl,xt⟩
 ·go_in
  go_wp2_with (go_at_call 175;(refine (HF.out _ _ _ ?_ ?_).mono ?_);(intro j;simp [go_sem,opCells]);(simp [go_sem]);rintro e w1 ⟨rfl,hb⟩;rw [Hi.out];obtain ⟨hc,hf⟩:=hb.cells)
  exact bodyPost_ret (v:=findV (5)) (by simp [results,Tryz.results137,go_sem,hc,findV,opNm,opFn]) rfl ⟨rfl,xt⟩
theorem find_any (nm:ByteArray) (w:World):Calls Tryz.prog 137 #[.string nm] w fun e w'=>e=.returned (findV (opIx nm))∧Ext w w':=
 find_walk nm _ rfl (by have:=opIx_bd nm;omega) w
end Go.Proofs.YteomcpplajeidaaGreat
