/-
  Lemmas of this claim (JwA). Nothing is asked.
-/
import Derived.Test.YteomcpplajeidaaGreatBase
set_option linter.unusedVariables false
set_option linter.unusedSimpArgs false
set_option maxRecDepth 100000
set_option maxHeartbeats 40000000
namespace Go.Proofs.YteomcpplajeidaaGreat
open Go.RowKit
theorem ret_int {k:IntKind} {a b:Int} (h:a=b):Ending.returned (.int k a)=.returned (.int k b):=by rw [h]
def sizeZ (n:Int):Int:=if n < 0 then -n else n
theorem size_any (n:Int) (h1:-9223372036854775808≤n) (h2:n≤9223372036854775807) (w:World) :
 Calls Tryz.prog 121 #[iV n] w fun e w'=>e=.returned (.int .u64 (sizeZ n))∧w=w':=by
 go_in
 go_wp2
 ·go_ret
  refine ⟨?_,rfl⟩
  rw [show sizeZ n = -n from if_pos (by assumption)]
  simp [IntKind.wrap_u64];omega
 ·go_ret
  refine ⟨?_,rfl⟩
  have h':¬ n < 0:=Int.not_lt.2 (by assumption)
  simp [sizeZ,h']
theorem gcd_step (a b:Nat) (h:0 < b):Nat.gcd b (a % b)=Nat.gcd a b:=by
 rw [Nat.gcd_comm a b,Nat.gcd_rec b a,Nat.gcd_comm]
theorem gcd_any (a b:Nat) (h1:a < 18446744073709551616) (h2:b < 18446744073709551616) (w:World) :
 Calls Tryz.prog 166 #[.int .u64 a,.int .u64 b] w fun e w'=>e=.returned (.int .u64 (Nat.gcd a b))∧∃ n,w' = w.drewN n:=by
 go_in
 go_wp2
 go_loopw [0,1] (fun x y wr=>∃ p q:Nat,p < 18446744073709551616∧q < 18446744073709551616∧x=.int .u64 p∧y=.int .u64 q∧Nat.gcd p q=Nat.gcd a b∧∃ n,wr=w.drewN n) (fun _ y _=>(intOf y).toNat)
 case atStart=>exact ⟨a,b,h1,h2,rfl,rfl,rfl,0,rfl⟩
 case round=>
  obtain ⟨p,q,hp,hq,rfl,rfl,hg,n,rfl⟩:=hrel
  have Hg:=zH hg;clear hg
  rcases Nat.eq_zero_or_pos q with h0|hlt
  ·subst h0
   go_wp2
   go_ret
   refine ⟨?_,n,rfl⟩
   have:=Hg.out
   simp at this
   simp [this]
  ·have hne:¬ q=0:=by omega
   go_wp2
   go_quiet (fail)
   go_wp2
   go_roundw
   case rel=>exact ⟨q,p % q,hq,by have:=Nat.mod_lt p hlt;omega,rfl,by simp,by rw [← Hg.out,gcd_step p q hlt],n+nq,by simp⟩
   case measure=>simp [intOf];have:=Nat.mod_lt p hlt;omega
theorem gcd_z (a b:Int) (h1:0≤a) (h2:0≤b) (h3:a < 18446744073709551616) (h4:b < 18446744073709551616) (w:World) :
 Calls Tryz.prog 166 #[.int .u64 a,.int .u64 b] w fun e w'=>e=.returned (.int .u64 (Int.gcd a b))∧∃ n,w' = w.drewN n:=by
 obtain ⟨a,rfl⟩:=Int.eq_ofNat_of_zero_le h1
 obtain ⟨b,rfl⟩:=Int.eq_ofNat_of_zero_le h2
 exact gcd_any a b (by omega) (by omega) w
theorem sizeZ_natAbs (n:Int):sizeZ n=n.natAbs:=by unfold sizeZ;split <;> omega
theorem Right_no (n d:Int) (hd:d≤0) (w:World) :
 Calls Tryz.prog 120 #[.agg #[iV n,iV d]] w fun e w'=>e=.returned (.bool false)∧Ext w w':=by
 have hd':decide ((0:Int) < d)=false:=decide_eq_false (by omega)
 go_in
 go_wp2
 go_quiet (fail)
 go_wp2
 go_ret
 exact ⟨rfl,((Ext.refl _).alloc _).drewN _⟩
theorem Right_yes (n d:Int) (h1:-9223372036854775808≤n) (h2:n≤9223372036854775807) (hd:0 < d) (hd2:d≤9223372036854775807) (w:World) :
 Calls Tryz.prog 120 #[.agg #[iV n,iV d]] w fun e w'=>e=.returned (.bool (((sizeZ n).gcd d:Int) == 1))∧Ext w w':=by
 have hs1:0≤sizeZ n:=by rw [sizeZ_natAbs];omega
 have hs2:sizeZ n < 18446744073709551616:=by rw [sizeZ_natAbs];omega
 go_in
 go_wp2
 go_quiet (first|(go_at_call 121;refine Calls.quiet_of_same ((size_any n h1 h2 _).mono fun _ _ h=>⟨h.1,h.2.symm⟩))|(go_at_call 166;refine Calls.quiet_of (gcd_z _ _ hs1 (by omega) hs2 (by omega) _)))
 go_wp2
 go_ret
 exact ⟨rfl,((Ext.refl _).alloc _).drewN _⟩
def rightB (n d:Int):Bool:=decide (0 < d) && ((sizeZ n).gcd d:Int) == 1
theorem Right_any (n d:Int) (h1:-9223372036854775808≤n) (h2:n≤9223372036854775807) (hd2:d≤9223372036854775807) (w:World) :
 Calls Tryz.prog 120 #[.agg #[iV n,iV d]] w fun e w'=>e=.returned (.bool (rightB n d))∧Ext w w':=by
 by_cases hd:0 < d
 ·refine (Right_yes n d h1 h2 hd hd2 w).mono fun _ _ h=>⟨?_,h.2⟩
  rw [h.1];simp [rightB,hd]
 ·refine (Right_no n d (by omega) w).mono fun _ _ h=>⟨?_,h.2⟩
  rw [h.1];simp [rightB,hd]
theorem of_any (n d:Int) (h1:-9223372036854775808≤n) (h2:n≤9223372036854775807) (h3:-9223372036854775808≤d) (h4:d≤9223372036854775807) (w:World) :
 Calls Tryz.prog 71 #[.agg #[iV n,iV d]] w fun e w'=>e=.returned (.agg #[.bool (decide (n < 0)),.int .u64 (sizeZ n),.int .u64 (sizeZ d)])∧Ext w w':=by
 go_in
 go_wp2
 go_region_held3 (fun w'=>w'.cell? ⟨w.heap.size,0,none⟩=some (iV n)∧w'.cell? ⟨w.heap.size,1,none⟩=some (iV d)) (simp [*,World.cell?_alloc_some])
  (first|(go_at_call 121;refine (size_any _ (by omega) (by omega) _).mono ?_;rintro e w' ⟨rfl,rfl⟩))
 go_wp2
 exact bodyPost_ret (v:=.agg #[.bool (decide (n < 0)),.int .u64 (sizeZ n),.int .u64 (sizeZ d)]) (by simp [results,Tryz.results71,go_sem]) rfl ⟨rfl,(((Ext.refl _).alloc _).alloc _).drew⟩
theorem zero_any (w:World):Calls Tryz.prog 200 #[] w fun e w'=>e=.returned (.agg #[iV 0,iV 1])∧Ext w w':=by
 go_in
 go_wp2
 exact bodyPost_ret (v:=.agg #[iV 0,iV 1]) (by simp [results,Tryz.results200,go_sem]) rfl ⟨rfl,((Ext.refl _).alloc _)⟩
theorem Of_any (n:Int) (w:World):Calls Tryz.prog 136 #[iV n] w fun e w'=>e=.returned (.agg #[iV n,iV 1])∧Ext w w':=by
 go_in
 go_wp2
 exact bodyPost_ret (v:=.agg #[iV n,iV 1]) (by simp [results,Tryz.results136,go_sem]) rfl ⟨rfl,((Ext.refl _).alloc _)⟩
theorem refOf_any (n:Int) (w:World):Calls Tryz.prog 28 #[iV n] w fun e w'=>e=.returned (.agg #[iV n,iV 1])∧Ext w w':=by
 go_in
 go_wp2
 exact bodyPost_ret (v:=.agg #[iV n,iV 1]) (by simp [results,Tryz.results28,go_sem]) rfl ⟨rfl,((Ext.refl _).alloc _)⟩
theorem both_any (n d m c:Int) (h1:-9223372036854775808≤n) (h2:n≤9223372036854775807) (h4:d≤9223372036854775807) (h5:-9223372036854775808≤m) (h6:m≤9223372036854775807) (h8:c≤9223372036854775807) (w:World) :
 Calls Tryz.prog 70 #[.agg #[iV n,iV d],.agg #[iV m,iV c]] w fun e w'=>e=.returned (.bool (rightB n d && rightB m c))∧Ext w w':=by
 cases hr:rightB n d
 ·have Hr:=zH hr;clear hr
  go_in
  go_wp2_with (go_at_call 120;refine (Right_any n d h1 h2 h4 _).mono ?_;rintro e w1 ⟨rfl,hb⟩;rw [Hr.out])
  go_ret
  exact ⟨rfl,Ext.trans (((Ext.refl _).alloc _).alloc _) hb⟩
 ·have Hr:=zH hr;clear hr
  go_in
  go_wp2_with (first
   |(go_at_call 120;(with_reducible refine (Right_any n d h1 h2 h4 _).mono ?_);rintro e w1 ⟨rfl,hb⟩;rw [Hr.out];obtain ⟨hc,hf⟩:=hb.cells)
   |(go_at_call 120;refine (Right_any m c h5 h6 h8 _).mono ?_;rintro e w2 ⟨rfl,hb2⟩))
  go_ret
  exact ⟨by simp,Ext.trans (Ext.trans (((Ext.refl _).alloc _).alloc _) hb) hb2⟩
theorem isNaN_i (n:Int) (w:World):Calls Tryz.prog 122 #[iV n] w fun e w'=>e=.returned (.bool false)∧w=w':=by
 go_in
 go_wp2
 go_ret
 exact ⟨by simp,rfl⟩
theorem isNaN_u (n:Int) (w:World):Calls Tryz.prog 167 #[.int .u64 n] w fun e w'=>e=.returned (.bool false)∧w=w':=by
 go_in
 go_wp2
 go_ret
 exact ⟨by simp,rfl⟩
def cmpZ (a b:Int):Int:=if a < b then -1 else if b < a then 1 else 0
theorem Compare_i (a b:Int) (w:World):Calls Tryz.prog 72 #[iV a,iV b] w fun e w'=>e=.returned (iV (cmpZ a b))∧w=w':=by
 go_in
 go_wp2_with (go_at_call 122;refine (isNaN_i _ _).mono ?_;rintro e w' ⟨rfl,rfl⟩)
 all_goals go_ret
 all_goals refine ⟨?_,rfl⟩
 all_goals (refine ret_int ?_;unfold cmpZ;(repeat' split) <;> omega)
theorem Compare_u (a b:Int) (w:World):Calls Tryz.prog 124 #[.int .u64 a,.int .u64 b] w fun e w'=>e=.returned (iV (cmpZ a b))∧w=w':=by
 go_in
 go_wp2_with (go_at_call 167;refine (isNaN_u _ _).mono ?_;rintro e w' ⟨rfl,rfl⟩)
 all_goals go_ret
 all_goals refine ⟨?_,rfl⟩
 all_goals (refine ret_int ?_;unfold cmpZ;(repeat' split) <;> omega)
namespace M64
theorem maskN (a:Nat) (ha:a < 18446744073709551616):bits .and .u64 (a:Int) 4294967295=((a % 4294967296:Nat):Int):=by
 have h:=bits_and_u64_nat a 4294967295 ha (by omega)
 have e:a &&& 4294967295=a % 4294967296:=Nat.and_two_pow_sub_one_eq_mod a 32
 rw [e] at h
 exact h
theorem divN (a:Nat):(a:Int) / 4294967296=((a / 4294967296:Nat):Int):=by omega
theorem mulN (a b:Nat):(a:Int) * (b:Int)=((a * b:Nat):Int):=(Int.natCast_mul a b).symm
theorem addN (a b:Nat):(a:Int)+(b:Int)=((a+b:Nat):Int):=(Int.natCast_add a b).symm
theorem wrapN (a:Nat) (ha:a < 18446744073709551616):IntKind.u64.wrap (a:Int)=(a:Int):=by rw [IntKind.wrap_u64];omega
theorem wrapM (a:Nat):IntKind.u64.wrap (a:Int)=((a % 18446744073709551616:Nat):Int):=by rw [IntKind.wrap_u64];omega
end M64
theorem Mul64_nat (x y:Nat) (hx:x < 18446744073709551616) (hy:y < 18446744073709551616) (w:World) :
 Calls Tryz.prog 125 #[.int .u64 x,.int .u64 y] w fun e w'=>e=.returned (.tuple #[.int .u64 ((x * y / 18446744073709551616:Nat):Int),.int .u64 ((x * y % 18446744073709551616:Nat):Int)])∧w=w':=by
 obtain ⟨bd,bt,bw,hhi⟩:=Lib.mul64_hi x y hx hy
 have ba:=Lib.half_mul_le (a:=x / 4294967296) (b:=y / 4294967296) (by omega) (by omega)
 have bb:=Lib.half_mul_le (a:=x / 4294967296) (b:=y % 4294967296) (by omega) (by omega)
 have bc:=Lib.half_mul_le (a:=x % 4294967296) (b:=y / 4294967296) (by omega) (by omega)
 have ba':x / 4294967296 * (y / 4294967296) < 18446744073709551616:=by omega
 have bb':x / 4294967296 * (y % 4294967296) < 18446744073709551616:=by omega
 have bc':x % 4294967296 * (y / 4294967296) < 18446744073709551616:=by omega
 have bh1:x / 4294967296 * (y / 4294967296)+(x / 4294967296 * (y % 4294967296)+x % 4294967296 * (y % 4294967296) / 4294967296) / 4294967296 < 18446744073709551616:=by omega
 have bh:x / 4294967296 * (y / 4294967296)+(x / 4294967296 * (y % 4294967296)+x % 4294967296 * (y % 4294967296) / 4294967296) / 4294967296+((x / 4294967296 * (y % 4294967296)+x % 4294967296 * (y % 4294967296) / 4294967296) % 4294967296+x % 4294967296 * (y / 4294967296)) / 4294967296 < 18446744073709551616:=by omega
 go_in
 go_wp2
 simp only [M64.maskN x hx,M64.maskN y hy,M64.divN,M64.mulN,M64.addN,M64.wrapN _ bd,M64.wrapN _ bb',M64.wrapN _ bt,M64.maskN _ bt,M64.wrapN _ bc',M64.wrapN _ bw,M64.wrapN _ ba',M64.wrapN _ bh1,M64.wrapN _ bh,M64.wrapM (x * y)]
 rw [hhi]
 go_ret2
 exact ⟨rfl,rfl⟩
theorem Mul64_any (a b:Int) (h1:0≤a) (h2:a < 18446744073709551616) (h3:0≤b) (h4:b < 18446744073709551616) (w:World) :
 Calls Tryz.prog 125 #[.int .u64 a,.int .u64 b] w fun e w'=>e=.returned (.tuple #[.int .u64 (a * b / 18446744073709551616),.int .u64 (a * b % 18446744073709551616)])∧w=w':=by
 obtain ⟨x,rfl⟩:=Int.eq_ofNat_of_zero_le h1
 obtain ⟨y,rfl⟩:=Int.eq_ofNat_of_zero_le h3
 refine (Mul64_nat x y (by omega) (by omega) w).mono fun _ _ h=>⟨?_,h.2⟩
 rw [h.1,← Int.natCast_mul]
 rfl
theorem product_any (a b:Int) (h1:0≤a) (h2:a < 18446744073709551616) (h3:0≤b) (h4:b < 18446744073709551616) (w:World) :
 Calls Tryz.prog 74 #[.int .u64 a,.int .u64 b] w fun e w'=>e=.returned (.agg #[.int .u64 (a * b / 18446744073709551616),.int .u64 (a * b % 18446744073709551616)])∧Ext w w':=by
 go_in
 go_wp2_with (go_at_call 125;refine (Mul64_any a b h1 h2 h3 h4 _).mono ?_;rintro e w1 ⟨rfl,rfl⟩)
 exact bodyPost_ret (v:=.agg #[.int .u64 (a * b / 18446744073709551616),.int .u64 (a * b % 18446744073709551616)]) (by simp [results,Tryz.results74,go_sem]) rfl ⟨rfl,((Ext.refl _).alloc _)⟩
theorem add64 (x y c:Int) (hx:0≤x) (hy:0≤y) (hc0:0≤c) (hc:c≤1) (w:World):(callFunc 213 #[.int .u64 x,.int .u64 y,.int .u64 c]).run Tryz.prog w =
 .ok (.value (.tuple #[.int .u64 ((x+y+c) % 18446744073709551616),.int .u64 ((x+y+c) / 18446744073709551616)])) w:=by
 obtain ⟨x,rfl⟩:=Int.eq_ofNat_of_zero_le hx
 obtain ⟨y,rfl⟩:=Int.eq_ofNat_of_zero_le hy
 obtain ⟨c,rfl⟩:=Int.eq_ofNat_of_zero_le hc0
 rw [run_callFunc_extern Tryz.func213 (by kernel_rfl) (by kernel_rfl) (by kernel_rfl) (e:=add64Entry) (by kernel_rfl),run_add64 x y c (by omega) (by omega) (by omega) (by omega)]
 simp only [Result.andThen]
def bor (x y:Int):Int:=if x < y then 1 else 0
theorem bor_cases (x y:Int):(bor x y=1∧x < y)∨(bor x y=0∧y≤x):=by unfold bor;split <;> omega
theorem sub64 (x y b:Int) (hx:0≤x) (hy:0≤y) (hy':y < 18446744073709551616) (hb0:0≤b) (hb:b≤1) (w:World):(callFunc 214 #[.int .u64 x,.int .u64 y,.int .u64 b]).run Tryz.prog w =
 .ok (.value (.tuple #[.int .u64 ((x - y - b) % 18446744073709551616),.int .u64 (bor x (y+b))])) w:=by
 obtain ⟨x,rfl⟩:=Int.eq_ofNat_of_zero_le hx
 obtain ⟨y,rfl⟩:=Int.eq_ofNat_of_zero_le hy
 obtain ⟨b,rfl⟩:=Int.eq_ofNat_of_zero_le hb0
 have e1:(((x+18446744073709551616 - y - b) % 18446744073709551616:Nat):Int)=((x:Int) - y - b) % 18446744073709551616:=by omega
 have e2:((if x < y+b then 1 else 0:Nat):Int)=bor x (y+b):=by unfold bor;split <;> split <;> omega
 rw [← e1,← e2]
 rw [run_callFunc_extern Tryz.func214 (by kernel_rfl) (by kernel_rfl) (by kernel_rfl) (e:=sub64Entry) (by kernel_rfl),run_sub64 x y b (by omega)]
 rfl
theorem add64_0 (x y:Int) (hx:0≤x) (hy:0≤y) (w:World):(callFunc 213 #[.int .u64 x,.int .u64 y,.int .u64 0]).run Tryz.prog w =
 .ok (.value (.tuple #[.int .u64 ((x+y) % 18446744073709551616),.int .u64 ((x+y) / 18446744073709551616)])) w:=by
 simpa using add64 x y 0 hx hy (Int.le_refl 0) (by decide) w
theorem sub64_0 (x y:Int) (hx:0≤x) (hy:0≤y) (hy':y < 18446744073709551616) (w:World):(callFunc 214 #[.int .u64 x,.int .u64 y,.int .u64 0]).run Tryz.prog w =
 .ok (.value (.tuple #[.int .u64 ((x - y) % 18446744073709551616),.int .u64 (bor x y)])) w:=by
 simpa using sub64 x y 0 hx hy hy' (Int.le_refl 0) (by decide) w
def hiW (n:Int):Int:=n / 18446744073709551616
def loW (n:Int):Int:=n % 18446744073709551616
def Word (x:Int):Prop:=0≤x∧x < 18446744073709551616
def Wide (x:Int):Prop:=0≤x∧x < 340282366920938463463374607431768211456
theorem hiW_word {n:Int} (h:Wide n):Word (hiW n):=by unfold Wide at h;unfold hiW Word;omega
theorem loW_word (n:Int):Word (loW n):=by unfold loW Word;omega
theorem wide_eq (n:Int):n=hiW n * 18446744073709551616+loW n:=by unfold hiW loW;omega
theorem wadd_any (a b:Int) (h1:Wide a) (h2:Wide b) (h3:Wide (a+b)) (w:World) :
 Calls Tryz.prog 208 #[.agg #[.int .u64 (hiW a),.int .u64 (loW a)],.agg #[.int .u64 (hiW b),.int .u64 (loW b)]] w fun e w'=>e=.returned (.agg #[.int .u64 (hiW (a+b)),.int .u64 (loW (a+b))])∧Ext w w':=by
 obtain ⟨a1,a2⟩:=hiW_word h1;obtain ⟨b1,b2⟩:=loW_word a;obtain ⟨c1,c2⟩:=hiW_word h2;obtain ⟨d1,d2⟩:=loW_word b
 have k0:0≤(loW a+loW b) / 18446744073709551616:=by omega
 have k1:(loW a+loW b) / 18446744073709551616≤1:=by omega
 have E1:=zH (show loW (a+b)=(loW a+loW b) % 18446744073709551616 by have:=wide_eq a;have:=wide_eq b;simp only [loW];omega)
 have E2:=zH (show hiW (a+b)=(hiW a+hiW b+(loW a+loW b) / 18446744073709551616) % 18446744073709551616 by
  unfold Wide at h3;simp only [loW,hiW];omega)
 clear h1 h2 h3
 go_in
 go_wp2_with (first|simp only [add64_0 (loW a) (loW b) b1 d1]|simp only [add64 (hiW a) (hiW b) _ a1 c1 k0 k1])
 refine bodyPost_ret (v:=.agg #[.int .u64 ((hiW a+hiW b+(loW a+loW b) / 18446744073709551616) % 18446744073709551616),.int .u64 ((loW a+loW b) % 18446744073709551616)]) (by simp [results,Tryz.results208,go_sem]) rfl ⟨?_,(((Ext.refl _).alloc _).alloc _).alloc _⟩
 rw [E1.out,E2.out]
theorem wsub_any (a b:Int) (h1:Wide a) (h2:Wide b) (h3:b≤a) (w:World) :
 Calls Tryz.prog 209 #[.agg #[.int .u64 (hiW a),.int .u64 (loW a)],.agg #[.int .u64 (hiW b),.int .u64 (loW b)]] w fun e w'=>e=.returned (.agg #[.int .u64 (hiW (a - b)),.int .u64 (loW (a - b))])∧Ext w w':=by
 obtain ⟨a1,a2⟩:=hiW_word h1;obtain ⟨b1,b2⟩:=loW_word a;obtain ⟨c1,c2⟩:=hiW_word h2;obtain ⟨d1,d2⟩:=loW_word b
 have k0:0≤bor (loW a) (loW b):=by unfold bor;split <;> decide
 have k1:bor (loW a) (loW b)≤1:=by unfold bor;split <;> decide
 have E1:=zH (show loW (a - b)=(loW a - loW b) % 18446744073709551616 by have:=wide_eq a;have:=wide_eq b;simp only [loW];omega)
 have E2:=zH (show hiW (a - b)=(hiW a - hiW b - bor (loW a) (loW b)) % 18446744073709551616 by
  have hbc:=bor_cases (loW a) (loW b)
  unfold Wide at h1 h2;simp only [loW,hiW] at *;omega)
 clear h1 h2 h3
 go_in
 go_wp2_with (first|simp only [sub64_0 (loW a) (loW b) b1 d1 d2]|simp only [sub64 (hiW a) (hiW b) _ a1 c1 c2 k0 k1])
 refine bodyPost_ret (v:=.agg #[.int .u64 ((hiW a - hiW b - bor (loW a) (loW b)) % 18446744073709551616),.int .u64 ((loW a - loW b) % 18446744073709551616)]) (by simp [results,Tryz.results209,go_sem]) rfl ⟨?_,(((Ext.refl _).alloc _).alloc _).alloc _⟩
 rw [E1.out,E2.out]
theorem product_w (a b:Int) (h1:0≤a) (h2:a < 18446744073709551616) (h3:0≤b) (h4:b < 18446744073709551616) (w:World) :
 Calls Tryz.prog 74 #[.int .u64 a,.int .u64 b] w fun e w'=>e=.returned (.agg #[.int .u64 (hiW (a * b)),.int .u64 (loW (a * b))])∧Ext w w':=product_any a b h1 h2 h3 h4 w
def ratS (neg:Bool) (n d:Int):(Int×Int)×Bool:=
 if 9223372036854775808 < n∨(n=9223372036854775808∧neg=false)∨9223372036854775807 < d then ((0,1),false) else ((if neg then -n else n,d),true)
abbrev rv (p:Int×Int):Value:=.agg #[iV p.1,iV p.2]
abbrev rbv (p:(Int×Int)×Bool):Value:=.tuple #[rv p.1,.bool p.2]
theorem rat_no (neg:Bool) (nh nl dh dl:Int) (h1:0≤nh) (h2:0≤dh)
 (h:0 < nh∨(nh=0∧0 < dh)∨(nh=0∧dh=0∧9223372036854775807 < dl)∨(nh=0∧dh=0∧dl≤9223372036854775807∧9223372036854775808 < nl)∨(nh=0∧dh=0∧dl≤9223372036854775807∧nl=9223372036854775808∧neg=false)) (w:World) :
 Calls Tryz.prog 211 #[.bool neg,.agg #[.int .u64 nh,.int .u64 nl],.agg #[.int .u64 dh,.int .u64 dl]] w fun e w'=>e=.returned (rbv ((0,1),false))∧Ext w w':=by
 rcases h with h|⟨rfl,h⟩|⟨rfl,rfl,h⟩|⟨rfl,rfl,h',h⟩|⟨rfl,rfl,h',rfl,rfl⟩
 all_goals
  go_in
  go_wp2_with (go_at_call 200;refine (zero_any _).mono ?_;rintro e w1 ⟨rfl,hb⟩;obtain ⟨hc,hf⟩:=hb.cells)
  exact bodyPost_ret (v:=rbv ((0,1),false)) (by simp [results,Tryz.results211,go_sem,hc]) rfl ⟨rfl,xt⟩
theorem neg_min:wrap64 (-wrap64 9223372036854775808) = -9223372036854775808:=by simp [wrap64]
theorem rat_yes (neg:Bool) (nl dl:Int) (h1:0≤nl) (h2:0≤dl) (h:dl≤9223372036854775807) (h':nl < 9223372036854775808∨(nl=9223372036854775808∧neg=true)) (w:World) :
 Calls Tryz.prog 211 #[.bool neg,.agg #[.int .u64 0,.int .u64 nl],.agg #[.int .u64 0,.int .u64 dl]] w fun e w'=>e=.returned (rbv ((if neg then -nl else nl,dl),true))∧Ext w w':=by
 rcases h' with h' | ⟨rfl,rfl⟩
 ·cases neg
  ·go_in
   go_wp2
   exact bodyPost_ret (v:=rbv ((nl,dl),true)) (by simp [results,Tryz.results211,go_sem]) rfl ⟨rfl,xt⟩
  ·go_in
   go_wp2
   exact bodyPost_ret (v:=rbv ((-nl,dl),true)) (by simp [results,Tryz.results211,go_sem]) rfl ⟨rfl,xt⟩
 ·go_in
  go_wp2
  exact bodyPost_ret (v:=rbv ((-9223372036854775808,dl),true)) (by simp [results,Tryz.results211,go_sem,neg_min]) rfl ⟨rfl,xt⟩
theorem rat_any (neg:Bool) (n d:Int) (h1:Wide n) (h2:Wide d) (w:World) :
 Calls Tryz.prog 211 #[.bool neg,.agg #[.int .u64 (hiW n),.int .u64 (loW n)],.agg #[.int .u64 (hiW d),.int .u64 (loW d)]] w fun e w'=>e=.returned (rbv (ratS neg n d))∧Ext w w':=by
 have a1:=hiW_word h1;have a2:=loW_word n;have a3:=hiW_word h2;have a4:=loW_word d
 have e1:=wide_eq n;have e2:=wide_eq d
 unfold Word at *
 unfold ratS
 by_cases h:9223372036854775808 < n∨(n=9223372036854775808∧neg=false)∨9223372036854775807 < d
 ·rw [if_pos h]
  refine rat_no neg _ _ _ _ a1.1 a3.1 ?_ w
  by_cases hn:0 < hiW n
  ·exact .inl hn
  by_cases hd:0 < hiW d
  ·exact .inr (.inl ⟨by omega,hd⟩)
  by_cases hl:9223372036854775807 < loW d
  ·exact .inr (.inr (.inl ⟨by omega,by omega,hl⟩))
  rcases h with h|⟨h,h0⟩|h
  ·exact .inr (.inr (.inr (.inl ⟨by omega,by omega,by omega,by omega⟩)))
  ·exact .inr (.inr (.inr (.inr ⟨by omega,by omega,by omega,by omega,h0⟩)))
  ·omega
 ·rw [if_neg h]
  have f1:hiW n=0:=by omega
  have f2:hiW d=0:=by omega
  have f3:loW n=n:=by omega
  have f4:loW d=d:=by omega
  rw [f1,f2,f3,f4]
  refine rat_yes neg n d (by omega) (by omega) (by omega) ?_ w
  by_cases hn:n=9223372036854775808
  ·right
   refine ⟨hn,?_⟩
   cases neg
   ·exact absurd (.inr (.inl ⟨hn,rfl⟩)) h
   ·rfl
  ·left;omega
def orZ (a b:Int):Int:=if a=0 then b else a
theorem Or_any (a b:Int) (w:World) (p:Nat) (h0:w.cell? ⟨p,0,none⟩=some (iV a)) (h1:w.cell? ⟨p,1,none⟩=some (iV b)) :
 Calls Tryz.prog 123 #[.slice (some ⟨p,0,none⟩) 2 2] w fun e w'=>e=.returned (iV (orZ a b))∧w=w':=by
 by_cases ha:a=0
 ·subst ha
  rw [show orZ 0 b=b from if_pos rfl]
  by_cases hb:b=0
  ·subst hb
   go_in
   go_wp2
   refine wp_loop_rounds 3 ?_
   repeat any_goals (rw [rounds_succ];go_wp2)
   go_ret
   exact ⟨rfl,rfl⟩
  ·go_in
   go_wp2
   refine wp_loop_rounds 3 ?_
   repeat any_goals (rw [rounds_succ];go_wp2)
   go_ret
   exact ⟨rfl,rfl⟩
 ·rw [show orZ a b=a from if_neg ha]
  go_in
  go_wp2
  refine wp_loop_rounds 3 ?_
  repeat any_goals (rw [rounds_succ];go_wp2)
  go_ret
  exact ⟨rfl,rfl⟩
theorem compare_raw (ah al bh bl:Int) (w:World) :
 Calls Tryz.prog 73 #[.agg #[.int .u64 ah,.int .u64 al],.agg #[.int .u64 bh,.int .u64 bl]] w fun e w'=>e=.returned (iV (orZ (cmpZ ah bh) (cmpZ al bl)))∧Ext w w':=by
 go_in
 go_wp2
 go_region_held3 (fun w'=>w'.cell? ⟨w.heap.size,0,none⟩=some (.int .u64 ah)∧w'.cell? ⟨w.heap.size,1,none⟩=some (.int .u64 al)∧w'.cell? ⟨w.heap.size+1,0,none⟩=some (.int .u64 bh)∧w'.cell? ⟨w.heap.size+1,1,none⟩=some (.int .u64 bl)) (simp [*,World.cell?_alloc_some])
  (first|(go_at_call 124;refine (Compare_u _ _ _).mono ?_;rintro e w' ⟨rfl,rfl⟩)|(go_at_call 123;refine (Or_any (cmpZ ah bh) (cmpZ al bl) _ _ ?_ ?_).mono ?_;(simp [go_sem]);(simp [go_sem]);rintro e w' ⟨rfl,rfl⟩))
 go_wp2
 go_ret
 exact ⟨rfl,xt⟩
theorem compare_any (a b:Int) (h1:Wide a) (h2:Wide b) (w:World) :
 Calls Tryz.prog 73 #[.agg #[.int .u64 (hiW a),.int .u64 (loW a)],.agg #[.int .u64 (hiW b),.int .u64 (loW b)]] w fun e w'=>e=.returned (iV (cmpZ a b))∧Ext w w':=by
 refine (compare_raw _ _ _ _ w).mono fun _ _ h=>⟨?_,h.2⟩
 rw [h.1]
 refine ret_int ?_
 have a1:=hiW_word h1;have a2:=loW_word a;have a3:=hiW_word h2;have a4:=loW_word b
 have e1:=wide_eq a;have e2:=wide_eq b
 unfold Word at *
 unfold orZ cmpZ
 (repeat' split) <;> omega
def Div64Said:Prop:=∀ (hi lo y:Int) (w:World),0≤hi→hi < y→0≤lo→lo < 18446744073709551616→y < 18446744073709551616 →
 Calls Tryz.prog 215 #[.int .u64 hi,.int .u64 lo,.int .u64 y] w fun e w'=>e=.returned (.tuple #[.int .u64 ((hi * 18446744073709551616+lo) / y),.int .u64 ((hi * 18446744073709551616+lo) % y)])∧∃ n,w' = w.drewN n
theorem over_math (n b:Int) (h1:Wide n) (h3:0 < b) :
 hiW n / b=hiW (n / b)∧(hiW n % b * 18446744073709551616+loW n) / b=loW (n / b)∧(hiW n % b * 18446744073709551616+loW n) % b=n % b:=by
 have e:=wide_eq n
 have l:=loW_word n
 obtain ⟨l1,l2⟩:=l
 obtain ⟨a1,a2⟩:=hiW_word h1
 generalize hiW n=H at *
 generalize loW n=L at *
 subst e
 have d1:=Int.emod_add_mul_ediv H b
 have r1:=Int.emod_nonneg H (show b≠0 by omega)
 have r2:=Int.emod_lt_of_pos H h3
 generalize H / b=Q at *
 generalize H % b=R at *
 have e1:H * 18446744073709551616+L=(R * 18446744073709551616+L)+b * (Q * 18446744073709551616):=by
  rw [← d1,Int.add_mul,Int.mul_assoc];omega
 have e2:(H * 18446744073709551616+L) / b=(R * 18446744073709551616+L) / b+Q * 18446744073709551616:=by
  rw [e1,Int.add_mul_ediv_left _ _ (by omega)]
 have e3:(H * 18446744073709551616+L) % b=(R * 18446744073709551616+L) % b:=by
  rw [e1,Int.add_mul_emod_self_left]
 have f1:0≤(R * 18446744073709551616+L) / b:=Int.ediv_nonneg (by omega) (by omega)
 have f2:(R * 18446744073709551616+L) / b < 18446744073709551616:=by
  rw [Int.ediv_lt_iff_lt_mul h3]
  have:(R+1) * 18446744073709551616≤b * 18446744073709551616:=Int.mul_le_mul_of_nonneg_right (by omega) (by omega)
  omega
 rw [e2,e3]
 unfold hiW loW
 refine ⟨by omega,by omega,rfl⟩
theorem over_any (hD:Div64Said) (n b:Int) (h1:Wide n) (h2:Word b) (h3:0 < b) (w:World) :
 Calls Tryz.prog 210 #[.agg #[.int .u64 (hiW n),.int .u64 (loW n)],.int .u64 b] w fun e w'=>e=.returned (.tuple #[.agg #[.int .u64 (hiW (n / b)),.int .u64 (loW (n / b))],.int .u64 (n % b)])∧Ext w w':=by
 have hne:¬ b=0:=by omega
 obtain ⟨a1,a2⟩:=hiW_word h1;obtain ⟨a3,a4⟩:=loW_word n
 obtain ⟨k1,k2,k3⟩:=over_math n b h1 h3
 have K1:=zH k1;have K2:=zH k2;have K3:=zH k3;clear k1 k2 k3
 have b1:=Int.emod_nonneg (hiW n) hne
 have b2:=Int.emod_lt_of_pos (hiW n) h3
 obtain ⟨c1,c2⟩:=h2
 have HD:=zH (hD (hiW n % b) (loW n) b);clear hD
 go_in
 go_wp2
 go_quiet (fail)
 go_wp2_with (go_at_call 215;refine (HD.out _ b1 b2 a3 a4 c2).mono ?_;rintro e w' ⟨rfl,nn,rfl⟩;rw [K2.out,K3.out])
 exact bodyPost_ret (v:=.tuple #[.agg #[.int .u64 (hiW (n / b)),.int .u64 (loW (n / b))],.int .u64 (n % b)]) (by simp [results,Tryz.results210,go_sem,K1.out]) rfl ⟨rfl,xt⟩
end Go.Proofs.YteomcpplajeidaaGreat
