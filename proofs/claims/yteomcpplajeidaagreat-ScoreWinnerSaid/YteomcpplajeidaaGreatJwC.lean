/-
  Lemmas of this claim (JwC). Nothing is asked.
-/
import Derived.Test.YteomcpplajeidaaGreatJwA
import Derived.Test.YteomcpplajeidaaGreatJwB
import Derived.Deep.CutBlock
set_option linter.unusedVariables false
set_option linter.unusedSimpArgs false
set_option maxRecDepth 100000
set_option maxHeartbeats 40000000
namespace Go.Proofs.YteomcpplajeidaaGreat
open Go.RowKit
def sumTop (xn:Bool) (n1 d1:Int) (yn:Bool) (n2 d2:Int):Bool×Int:=
 let g:Int:=Int.gcd d1 d2
 let a:=n1 * (d2 / g)
 let b:=n2 * (d1 / g)
 if xn=yn then (xn,a+b) else if b≤a then (xn,a - b) else (yn,b - a)
def sumS (xn:Bool) (n1 d1:Int) (yn:Bool) (n2 d2:Int):(Int×Int)×Bool:=
 let g:Int:=Int.gcd d1 d2
 let t:=sumTop xn n1 d1 yn n2 d2
 if t.2=0 then ((0,1),true)
 else
  let h:Int:=Int.gcd g (t.2 % g)
  ratS t.1 (t.2 / h) (d1 / g * (d2 / h))
structure SumOk (n1 d1 n2 d2:Int):Prop where
 n1:0≤n1∧n1≤9223372036854775808
 n2:0≤n2∧n2≤9223372036854775808
 d1:1≤d1∧d1≤9223372036854775807
 d2:1≤d2∧d2≤9223372036854775807
theorem mul_le_of {a b A B:Int} (h0:0≤a) (h1:a≤A) (h2:0≤b) (h3:b≤B):0≤a * b∧a * b≤A * B:=
 ⟨Int.mul_nonneg h0 h2,Int.le_trans (Int.mul_le_mul_of_nonneg_right h1 h2) (Int.mul_le_mul_of_nonneg_left h3 (by omega))⟩
theorem div_le_of {a g:Int} (h0:0≤a) (h1:1≤g):0≤a / g∧a / g≤a:=
 ⟨Int.ediv_nonneg h0 (by omega),Int.ediv_le_self _ h0⟩
theorem mk148 (d:Option Tmp) (t:TypeId) (p:String) (af:Array Edge):Rg.Makes Tryz.prog { dst:=d,op:=.alloc 144,type:=t,pos:=p,after:=af,guard:=none } (.cells #[.int .u64 0,.int .u64 0] 144):=
 ⟨rfl,fun a w=>by go_simp⟩
theorem eql148 (a b c d:Int) (w:World):(binOp .eql 144 (.agg #[.int .u64 a,.int .u64 b]) (.agg #[.int .u64 c,.int .u64 d])).run Tryz.prog w=.ok (.bool (a == c && b == d)) w:=by
 by_cases h1:a=c <;> by_cases h2:b=d <;> simp [go_sem,h1,h2]
theorem one_le_gcd {a:Int} (b:Int) (h:1≤a):(1:Int)≤Int.gcd a b:=by
 have:=Int.gcd_pos_of_ne_zero_left b (show a≠0 by omega);omega
theorem gcd_le_l {a:Int} (b:Int) (h:1≤a):(Int.gcd a b:Int)≤a:=Int.le_of_dvd (by omega) (Int.gcd_dvd_left _ _)
theorem quo_u64 {a g:Int} (h0:0≤a) (h1:1≤g) (h2:a < 18446744073709551616):IntKind.u64.wrap (a.tdiv g)=a / g:=by
 have:=div_le_of h0 h1
 rw [Int.tdiv_eq_ediv_of_nonneg h0,IntKind.wrap_u64]
 omega
theorem sum_walk (hD:Div64Said) (xn:Bool) (n1 d1:Int) (yn:Bool) (n2 d2:Int) (h:SumOk n1 d1 n2 d2) (w:World) :
 Calls Tryz.prog 196 #[.agg #[.bool xn,.int .u64 n1,.int .u64 d1],.agg #[.bool yn,.int .u64 n2,.int .u64 d2]] w fun e w'=>e=.returned (rbv (sumS xn n1 d1 yn n2 d2))∧Ext w w':=by
 obtain ⟨⟨a1,a2⟩,⟨b1,b2⟩,⟨c1,c2⟩,⟨e1,e2⟩⟩:=h
 have hg1:(1:Int)≤Int.gcd d1 d2:=one_le_gcd d2 c1
 have hgd:(Int.gcd d1 d2:Int)≤d1:=gcd_le_l d2 c1
 have hS:sumS xn n1 d1 yn n2 d2=sumS xn n1 d1 yn n2 d2:=rfl
 conv at hS=>rhs;unfold sumS sumTop
 have HS:=zH hS;clear hS
 have hgE:∃ g:Int,g=Int.gcd d1 d2:=⟨_,rfl⟩
 obtain ⟨g,hg⟩:=hgE
 rw [← hg] at hg1 hgd
 have hd1:=div_le_of (a:=d1) (g:=g) (by omega) hg1
 have hd2:=div_le_of (a:=d2) (g:=g) (by omega) hg1
 have pa:=mul_le_of a1 a2 hd2.1 (show d2 / g≤9223372036854775807 by omega)
 have pb:=mul_le_of b1 b2 hd1.1 (show d1 / g≤9223372036854775807 by omega)
 have HA:∃ A,A=n1 * (d2 / g):=⟨_,rfl⟩
 have HB:∃ B,B=n2 * (d1 / g):=⟨_,rfl⟩
 obtain ⟨A,hA⟩:=HA
 obtain ⟨B,hB⟩:=HB
 rw [← hA] at pa
 rw [← hB] at pb
 have hgne:¬ g=0:=by omega
 have Hg:=zH hg;have HA:=zH hA;have HB:=zH hB;clear hg hA hB
 go_in
 go_wp2_with (go_at_call 166;refine (gcd_z d1 d2 (by omega) (by omega) (by omega) (by omega) _).mono ?_;rintro e w' ⟨rfl,nn,rfl⟩;rw [← Hg.out])
 go_cut [7,8] (fun s7 s8 wx=>∃ p q:Nat,s7=.pointer (some ⟨p,0,none⟩)∧s8=.pointer (some ⟨q,0,none⟩)∧p < wx.heap.size∧q < wx.heap.size∧wx.cell? ⟨p,0,none⟩=some (.int .u64 (hiW A))∧wx.cell? ⟨p,1,none⟩=some (.int .u64 (loW A))∧wx.cell? ⟨q,0,none⟩=some (.int .u64 (hiW B))∧wx.cell? ⟨q,1,none⟩=some (.int .u64 (loW B)) ∧
  Ext (((w.alloc (.cells #[.bool xn,.int .u64 n1,.int .u64 d1] 140)).alloc (.cells #[.bool yn,.int .u64 n2,.int .u64 d2] 140)).alloc (.cells #[iV 0,iV 0] 30)) wx)
 case first=>
  generalize hW:((w.alloc (.cells #[.bool xn,.int .u64 n1,.int .u64 d1] 140)).alloc (.cells #[.bool yn,.int .u64 n2,.int .u64 d2] 140)).alloc (.cells #[iV 0,iV 0] 30)=W
  have hs:W.heap.size=w.heap.size+3:=by rw [← hW];simp
  have k0:W.cell? ⟨w.heap.size,1,none⟩=some (.int .u64 n1):=by rw [← hW];simp [go_sem]
  have k1:W.cell? ⟨w.heap.size,2,none⟩=some (.int .u64 d1):=by rw [← hW];simp [go_sem]
  have k2:W.cell? ⟨w.heap.size+1,1,none⟩=some (.int .u64 n2):=by rw [← hW];simp [go_sem]
  have k3:W.cell? ⟨w.heap.size+1,2,none⟩=some (.int .u64 d2):=by rw [← hW];simp [go_sem]
  have q1:=quo_u64 (a:=d2) (g:=g) (by omega) hg1 (by omega)
  have q2:=quo_u64 (a:=d1) (g:=g) (by omega) hg1 (by omega)
  refine Rg.wp_region 14 16 (fun i=>if i=14∨i=15 then some (.cells #[.int .u64 0,.int .u64 0] 144) else none) (fun i hi=>if_neg (by omega)) (by kernel_rfl) (by kernel_rfl) ?_
  simp only [List.take_succ_cons,List.take_zero,List.drop_succ_cons,List.drop_zero]
  repeat
   (refine Rg.wk_step (by rfl) ?_
    apply Exists.intro
    refine ⟨fun wz hw=>?_,?_⟩
    ·obtain ⟨hc,hf⟩:=hw.cells
     go_simp
     first
      | exact zU
      |(apply Rg.up_enter;(with_reducible refine (product_w n1 (d2 / g) a1 (by omega) hd2.1 (by omega) _).mono ?_);rintro e w1 ⟨rfl,hb1⟩;rw [← HA.out];exact ⟨rfl,hb1⟩)
      |(apply Rg.up_enter;(with_reducible refine (product_w n2 (d1 / g) b1 (by omega) hd1.1 (by omega) _).mono ?_);rintro e w1 ⟨rfl,hb1⟩;rw [← HB.out];exact ⟨rfl,hb1⟩)
    simp only [zp])
  refine Rg.wk_nil ?_
  refine Rg.fin2 rfl rfl rfl (mk148 _ _ _ _) rfl rfl (mk148 _ _ _ _) (by simp) ?_
  intro p q wx hx hpq hp hq ep eq
  obtain ⟨cp,fp,lp⟩:=zC ep
  obtain ⟨cq,fq,lq⟩:=zC eq
  have hqp:¬ q=p:=fun e=>hpq e.symm
  simp only [Act.put,List.setIfInBounds_toArray]
  go_wp2
  go_meet
  case rel=>
   subst hW
   refine ⟨p,q,rfl,rfl,by simpa using lp,by simpa using lq,by go_simp,by go_simp,by go_simp,by go_simp,?_⟩
   simp at hp hq
   have hx':=Ext.trans (Ext.drewN (Ext.refl _) nn) hx
   exact (((hx'.setCell (by simp;omega) _).setCell (by simp;omega) _).setCell (by simp;omega) _).setCell (by simp;omega) _
 case rest=>
  obtain ⟨wd,rfl⟩:∃ wd:World,wd=wc:=⟨_,rfl⟩
  obtain ⟨p,q,rfl,rfl,lp,lq,cp0,cp1,cq0,cq1,hx⟩:=hcut
  obtain ⟨hc,hf⟩:=hx.cells
  have hz:=hx.size
  simp at hz
  have z0:w.heap.size < wd.heap.size:=by omega
  have z1:w.heap.size+1 < wd.heap.size:=by omega
  have m0:wd.cell? ⟨w.heap.size,0,none⟩=some (.bool xn):=by rw [hc _ _ (by simp <;> omega)];simp [go_sem]
  have m1:wd.cell? ⟨w.heap.size,2,none⟩=some (.int .u64 d1):=by rw [hc _ _ (by simp <;> omega)];simp [go_sem]
  have m2:wd.cell? ⟨w.heap.size+1,0,none⟩=some (.bool yn):=by rw [hc _ _ (by simp <;> omega)];simp [go_sem]
  have m3:wd.cell? ⟨w.heap.size+1,2,none⟩=some (.int .u64 d2):=by rw [hc _ _ (by simp <;> omega)];simp [go_sem]
  have z2:w.heap.size+1+1 < wd.heap.size:=by omega
  have m5:wd.cell? ⟨w.heap.size+1+1,0,none⟩=some (iV 0):=by rw [hc _ _ (by simp)];simp [go_sem]
  have m6:wd.cell? ⟨w.heap.size+1+1,1,none⟩=some (iV 0):=by rw [hc _ _ (by simp)];simp [go_sem]
  have m7:wd.frozen? ⟨w.heap.size+1+1,0,none⟩=false:=by rw [hf _ _ (by simp)];simp [go_sem]
  have m8:wd.frozen? ⟨w.heap.size+1+1,1,none⟩=false:=by rw [hf _ _ (by simp)];simp [go_sem]
  clear hf hc
  have wA:Wide A:=⟨pa.1,by omega⟩
  have wB:Wide B:=⟨pb.1,by omega⟩
  have wAB:Wide (A+B):=⟨by omega,by omega⟩
  go_upto_block 0 with (fail)
  go_cut [10] (fun s10 wx=>s10=.bool (sumTop xn n1 d1 yn n2 d2).1∧wx.cell? ⟨wd.heap.size,0,none⟩=some (.int .u64 (hiW (sumTop xn n1 d1 yn n2 d2).2))∧wx.cell? ⟨wd.heap.size,1,none⟩=some (.int .u64 (loW (sumTop xn n1 d1 yn n2 d2).2))∧wd.heap.size < wx.heap.size ∧
   wx.frozen? ⟨wd.heap.size,0,none⟩=false∧wx.frozen? ⟨wd.heap.size,1,none⟩=false∧Ext wd wx)
  case first=>
   by_cases hxy:xn=yn
   ·subst hxy
    have E:sumTop xn n1 d1 xn n2 d2=(xn,A+B):=by unfold sumTop;simp [← Hg.out,HA.out,HB.out]
    have HE:=zH E
    clear E
    go_wp2_with (go_at_call 208;refine (wadd_any A B wA wB wAB _).mono ?_;rintro e w1 ⟨rfl,hb1⟩;obtain ⟨hc1,hf1⟩:=hb1.cells;have hz1:=hb1.size;(try simp at hz1))
    go_meet
    case rel=>exact ⟨by rw [HE.out],by rw [HE.out];go_simp,by rw [HE.out];go_simp,by (try simp);omega,by go_simp,by go_simp,xt⟩
   ·by_cases hBA:B≤A
    ·have E:sumTop xn n1 d1 yn n2 d2=(xn,A - B):=by unfold sumTop;simp [hxy,← Hg.out,← HA.out,← HB.out,hBA]
     have HE:=zH E
     clear E
     have hcm:(decide (0≤cmpZ A B))=true:=by unfold cmpZ;split <;> (try split) <;> simp <;> omega
     have hxy':(xn == yn)=false:=by simpa using hxy
     go_wp2_with (first
      |(go_at_call 73;refine (compare_any A B wA wB _).mono ?_;rintro e w1 ⟨rfl,hb1⟩;obtain ⟨hc1,hf1⟩:=hb1.cells;have hz1:=hb1.size;(try simp at hz1);have y0:wd.heap.size < w1.heap.size:=(by omega);have y1:p < w1.heap.size:=(by omega);have y2:q < w1.heap.size:=(by omega))
      |(go_at_call 209;refine (wsub_any A B wA wB hBA _).mono ?_;rintro e w2 ⟨rfl,hb2⟩;obtain ⟨hc2,hf2⟩:=hb2.cells;have hz2:=hb2.size;(try simp at hz2)))
     go_meet
     case rel=>exact ⟨by rw [HE.out],by rw [HE.out];go_simp,by rw [HE.out];go_simp,by (try simp);omega,by go_simp,by go_simp,xt⟩
    ·have E:sumTop xn n1 d1 yn n2 d2=(yn,B - A):=by unfold sumTop;simp [hxy,← Hg.out,← HA.out,← HB.out,hBA]
     have HE:=zH E
     clear E
     have hAB:A≤B:=by omega
     have hcm:(decide (0≤cmpZ A B))=false:=by unfold cmpZ;split <;> (try split) <;> simp <;> omega
     have hxy':(xn == yn)=false:=by simpa using hxy
     go_wp2_with (first
      |(go_at_call 73;refine (compare_any A B wA wB _).mono ?_;rintro e w1 ⟨rfl,hb1⟩;obtain ⟨hc1,hf1⟩:=hb1.cells;have hz1:=hb1.size;(try simp at hz1)))
     have n0:w1.cell? ⟨p,0,none⟩=some (.int .u64 (hiW A)):=by rw [hc1 _ _ (by simp;omega)];go_simp
     have n1:w1.cell? ⟨p,1,none⟩=some (.int .u64 (loW A)):=by rw [hc1 _ _ (by simp;omega)];go_simp
     have n2:w1.cell? ⟨q,0,none⟩=some (.int .u64 (hiW B)):=by rw [hc1 _ _ (by simp;omega)];go_simp
     have n3:w1.cell? ⟨q,1,none⟩=some (.int .u64 (loW B)):=by rw [hc1 _ _ (by simp;omega)];go_simp
     have n4:w1.cell? ⟨w.heap.size+1,0,none⟩=some (.bool yn):=by rw [hc1 _ _ (by simp;omega)];go_simp
     have n5:w1.cell? ⟨wd.heap.size,0,none⟩=some (.int .u64 0):=by rw [hc1 _ _ (by simp)];go_simp
     have n6:w1.cell? ⟨wd.heap.size,1,none⟩=some (.int .u64 0):=by rw [hc1 _ _ (by simp)];go_simp
     have f5:w1.frozen? ⟨wd.heap.size,0,none⟩=false:=by rw [hf1 _ _ (by simp)];go_simp
     have f6:w1.frozen? ⟨wd.heap.size,1,none⟩=false:=by rw [hf1 _ _ (by simp)];go_simp
     have y0:wd.heap.size < w1.heap.size:=by omega
     have y1:p < w1.heap.size:=by omega
     have y2:q < w1.heap.size:=by omega
     have y3:w.heap.size+1 < w1.heap.size:=by omega
     have x1:wd.heap.size≠p:=by omega
     have x2:wd.heap.size≠q:=by omega
     have x3:wd.heap.size≠w.heap.size+1:=by omega
     have nx:w.heap.size+1≠wd.heap.size:=by omega
     have nx':¬ wd.heap.size=w.heap.size+1:=by omega
     go_region_held3 (fun w'=>w'.cell? ⟨p,0,none⟩=some (.int .u64 (hiW A))∧w'.cell? ⟨p,1,none⟩=some (.int .u64 (loW A))∧w'.cell? ⟨q,0,none⟩=some (.int .u64 (hiW B))∧w'.cell? ⟨q,1,none⟩=some (.int .u64 (loW B))∧w'.cell? ⟨w.heap.size+1,0,none⟩=some (.bool yn)) (first|exact hS2|(simp [*,World.cell?_alloc_some,World.cell?_setCell_far];done))
      (first
        |(go_at_call 209;refine (wsub_any B A wB wA hAB _).mono ?_;rintro e w2 ⟨rfl,hb2⟩;obtain ⟨hc2,hf2⟩:=hb2.cells;have hz2:=hb2.size;have hS2:=And.intro ((hc2 p 0 y1).trans n0) (And.intro ((hc2 p 1 y1).trans n1) (And.intro ((hc2 q 0 y2).trans n2) (And.intro ((hc2 q 1 y2).trans n3) ((hc2 (w.heap.size+1) 0 y3).trans n4))));have g5:=(hc2 wd.heap.size 0 y0).trans n5;have g6:=(hc2 wd.heap.size 1 y0).trans n6;have g0:=(hc2 p 0 y1).trans n0;have g1:=(hc2 p 1 y1).trans n1;have g2:=(hc2 q 0 y2).trans n2;have g3:=(hc2 q 1 y2).trans n3;have g4:=(hc2 (w.heap.size+1) 0 y3).trans n4;have g7:=(hf2 wd.heap.size 0 y0).trans f5;have g8:=(hf2 wd.heap.size 1 y0).trans f6))
     go_wp2
     go_meet
     case rel=>exact ⟨by rw [HE.out],by rw [HE.out];go_simp,by rw [HE.out];go_simp,by (try simp);(try simp at hz2);omega,by go_simp,by go_simp,xt⟩
  case rest=>
   obtain ⟨rfl,r0,r1,r2,r3,r4,hx2⟩:=hcut
   obtain ⟨hc2,hf2⟩:=hx2.cells
   have k0:=(hc2 w.heap.size 2 z0).trans m1
   have k1:=(hc2 (w.heap.size+1) 2 z1).trans m3
   have wT:Wide (sumTop xn n1 d1 yn n2 d2).2:=by
    unfold sumTop;simp only [← Hg.out,← HA.out,← HB.out]
    unfold Wide at *
    (repeat' split) <;> simp <;> omega
   have HS2:Hid (sumS xn n1 d1 yn n2 d2=if (sumTop xn n1 d1 yn n2 d2).2=0 then ((0,1),true) else
    ratS (sumTop xn n1 d1 yn n2 d2).1 ((sumTop xn n1 d1 yn n2 d2).2 / (Int.gcd g ((sumTop xn n1 d1 yn n2 d2).2 % g):Int)) (d1 / g * (d2 / (Int.gcd g ((sumTop xn n1 d1 yn n2 d2).2 % g):Int)))):=by
    unfold sumS;rw [← Hg.out];rfl
   generalize sumTop xn n1 d1 yn n2 d2=T at *
   obtain ⟨tn,t⟩:=T
   simp only at r0 r1 wT HS2 ⊢
   have v0:=hx2.size
   have v1:w.heap.size+1+1 < wc.heap.size:=by omega
   have v2:w.heap.size+1 < wc.heap.size:=by omega
   have v3:w.heap.size < wc.heap.size:=by omega
   by_cases ht:t=0
   ·subst ht
    rw [show hiW 0=0 by decide] at r0
    rw [show loW 0=0 by decide] at r1
    go_wp2_with (go_at_call 200;refine (zero_any _).mono ?_;rintro e w1 ⟨rfl,hb1⟩;obtain ⟨hc1,hf1⟩:=hb1.cells)
    exact bodyPost_ret (v:=rbv ((0,1),true)) (by simp [results,Tryz.results196,go_sem,hc1,hc2,m5,m6,v1,z2]) rfl ⟨by rw [HS2.out];simp,xt⟩
   ·have hne:(hiW t == 0 && loW t == 0)=false:=by
     have:=wide_eq t
     cases h1:(hiW t == 0 && loW t == 0)
     ·rfl
     ·simp at h1;omega
    have heq:∀ w,(binOp .eql 144 (.agg #[.int .u64 (hiW t),.int .u64 (loW t)]) (.agg #[.int .u64 0,.int .u64 0])).run Tryz.prog w=.ok (.bool false) w:=fun w=>by rw [eql148,hne]
    clear hne
    have ho:=over_any hD t g wT ⟨by omega,by omega⟩ (by omega)
    have hr1:=Int.emod_nonneg t (show g≠0 by omega)
    have hr2:=Int.emod_lt_of_pos t (show 0 < g by omega)
    have hh1:(1:Int)≤Int.gcd g (t % g):=one_le_gcd _ hg1
    have hh2:(Int.gcd g (t % g):Int)≤g:=gcd_le_l _ hg1
    obtain ⟨h,hh⟩:∃ h:Int,h=Int.gcd g (t % g):=⟨_,rfl⟩
    rw [← hh] at hh1 hh2
    have ho2:=over_any hD t h wT ⟨by omega,by omega⟩ (by omega)
    have HH:=zH hh;have HO:=zH ho;have HO2:=zH ho2
    clear hh ho ho2
    go_wp2_with (first
     |(go_at_call 210;(with_reducible refine (HO.out _).mono ?_);rintro e w1 ⟨rfl,hb1⟩;obtain ⟨hc1,hf1⟩:=hb1.cells;have u0:=hb1.size;have u1:wd.heap.size < w1.heap.size:=(by omega);have u11:w.heap.size+1+1 < w1.heap.size:=(by omega);have u12:w.heap.size+1 < w1.heap.size:=(by omega);have u13:w.heap.size < w1.heap.size:=(by omega))
     |(go_at_call 166;refine (gcd_z g (t % g) (by omega) hr1 (by omega) (by omega) _).mono ?_;rintro e w' ⟨rfl,nn,rfl⟩;rw [← HH.out])
     |(go_at_call 210;(with_reducible refine (HO2.out _).mono ?_);rintro e w2 ⟨rfl,hb2⟩;obtain ⟨hc3,hf3⟩:=hb2.cells;have u3:=hb2.size;simp at u3;have u31:wd.heap.size < w2.heap.size:=(by omega);have u32:w.heap.size+1+1 < w2.heap.size:=(by omega);have u33:w.heap.size+1 < w2.heap.size:=(by omega);have u34:w.heap.size < w2.heap.size:=(by omega)))
    have g0:w2.cell? ⟨wd.heap.size,0,none⟩=some (.int .u64 (hiW t)):=by rw [hc3 _ _ (by simp;omega)];go_simp
    have g1:w2.cell? ⟨wd.heap.size,1,none⟩=some (.int .u64 (loW t)):=by rw [hc3 _ _ (by simp;omega)];go_simp
    have g2:w2.cell? ⟨w.heap.size,2,none⟩=some (.int .u64 d1):=by rw [hc3 _ _ (by simp;omega)];go_simp
    have g3:w2.cell? ⟨w.heap.size+1,2,none⟩=some (.int .u64 d2):=by rw [hc3 _ _ (by simp;omega)];go_simp
    have g4:w2.cell? ⟨w.heap.size+1+1,0,none⟩=some (iV 0):=by rw [hc3 _ _ (by simp;omega)];go_simp
    have g5:w2.cell? ⟨w.heap.size+1+1,1,none⟩=some (iV 0):=by rw [hc3 _ _ (by simp;omega)];go_simp
    have g6:w2.frozen? ⟨w.heap.size+1+1,0,none⟩=false:=by rw [hf3 _ _ (by simp;omega)];go_simp
    have g7:w2.frozen? ⟨w.heap.size+1+1,1,none⟩=false:=by rw [hf3 _ _ (by simp;omega)];go_simp
    clear hc3 hf3 hc1 hf1 hc2 hf2
    have q1:=quo_u64 (a:=d1) (g:=g) (by omega) hg1 (by omega)
    have q2:=quo_u64 (a:=d2) (g:=h) (by omega) hh1 (by omega)
    have l1:=div_le_of (a:=d2) (g:=h) (by omega) hh1
    have l2:=div_le_of (a:=t) (g:=h) wT.1 hh1
    have wTh:Wide (t / h):=⟨l2.1,by have:=wT.2;omega⟩
    have l3:=mul_le_of hd1.1 (show d1 / g≤9223372036854775807 by omega) l1.1 (show d2 / h≤9223372036854775807 by omega)
    have wD:Wide (d1 / g * (d2 / h)):=⟨l3.1,by omega⟩
    have x1:¬ wd.heap.size=w.heap.size:=by omega
    have x2:¬ wd.heap.size=w.heap.size+1:=by omega
    have x3:¬ wd.heap.size=w.heap.size+1+1:=by omega
    have hhne:¬ h=0:=by omega
    have HP:=zH (product_w (d1 / g) (d2 / h) hd1.1 (by omega) l1.1 (by omega))
    have HR:=zH (rat_any tn (t / h) (d1 / g * (d2 / h)) wTh wD)
    clear wT wTh wD l3
    refine Rg.wp_region 14 14 (fun _=>none) (fun _ _=>rfl) (by kernel_rfl) (by kernel_rfl) ?_
    simp only [List.take_succ_cons,List.take_zero,List.drop_succ_cons,List.drop_zero]
    repeat
     (refine Rg.wk_step (by rfl) ?_
      apply Exists.intro
      refine ⟨fun wz hw=>?_,?_⟩
      ·obtain ⟨hc,hf⟩:=hw.cells
       go_simp
       first
        | exact zU
        |(apply Rg.up_enter;(with_reducible refine (HP.out _).mono ?_);rintro e w1 ⟨rfl,hb1⟩;exact ⟨rfl,hb1⟩)
        |(apply Rg.up_enter;(with_reducible refine (HR.out _).mono ?_);rintro e w1 ⟨rfl,hb1⟩;exact ⟨rfl,hb1⟩)
      simp only [zp])
    refine Rg.wk_nil (Rg.fin0 rfl ?_)
    intro wx hx
    obtain ⟨hc,hf⟩:=hx.cells
    have y1:w.heap.size+1+1 < wx.heap.size:=by have:=hx.size;simp at this;omega
    go_wp2
    exact bodyPost_ret (v:=rbv (ratS tn (t / h) (d1 / g * (d2 / h)))) (by simp [results,Tryz.results196,go_sem,hc,g4,g5,u32]) rfl ⟨by rw [HS2.out,if_neg ht,HH.out],xt⟩
def timesS (xn:Bool) (n1 d1:Int) (yn:Bool) (n2 d2:Int):(Int×Int)×Bool:=
 if n1=0∨n2=0 then ((0,1),true)
 else ratS (!(xn == yn)) (n1 / (Int.gcd n1 d2:Int) * (n2 / (Int.gcd n2 d1:Int))) (d1 / (Int.gcd n2 d1:Int) * (d2 / (Int.gcd n1 d2:Int)))
theorem times_zero (xn:Bool) (n1 d1:Int) (yn:Bool) (n2 d2:Int) (h:n1=0∨(¬ n1=0∧n2=0)) (w:World) :
 Calls Tryz.prog 198 #[.agg #[.bool xn,.int .u64 n1,.int .u64 d1],.agg #[.bool yn,.int .u64 n2,.int .u64 d2]] w fun e w'=>e=.returned (rbv ((0,1),true))∧Ext w w':=by
 rcases h with rfl|⟨h,rfl⟩
 all_goals
  go_in
  go_wp2_with (go_at_call 200;refine (zero_any _).mono ?_;rintro e w1 ⟨rfl,hb⟩;obtain ⟨hc,hf⟩:=hb.cells)
  exact bodyPost_ret (v:=rbv ((0,1),true)) (by simp [results,Tryz.results198,go_sem,hc]) rfl ⟨rfl,xt⟩
structure TimesOk (n1 d1 n2 d2:Int):Prop where
 n1:0≤n1∧n1≤9223372036854775808
 n2:0≤n2∧n2≤9223372036854775808
 d1:1≤d1∧d1≤9223372036854775808
 d2:1≤d2∧d2≤9223372036854775808
theorem times_walk (xn:Bool) (n1 d1:Int) (yn:Bool) (n2 d2:Int) (h:TimesOk n1 d1 n2 d2) (w:World) :
 Calls Tryz.prog 198 #[.agg #[.bool xn,.int .u64 n1,.int .u64 d1],.agg #[.bool yn,.int .u64 n2,.int .u64 d2]] w fun e w'=>e=.returned (rbv (timesS xn n1 d1 yn n2 d2))∧Ext w w':=by
 obtain ⟨⟨a1,a2⟩,⟨b1,b2⟩,⟨c1,c2⟩,⟨e1,e2⟩⟩:=h
 by_cases h0:n1=0
 ·rw [show timesS xn n1 d1 yn n2 d2=((0,1),true) from if_pos (.inl h0)]
  exact times_zero xn n1 d1 yn n2 d2 (.inl h0) w
 by_cases h00:n2=0
 ·rw [show timesS xn n1 d1 yn n2 d2=((0,1),true) from if_pos (.inr h00)]
  exact times_zero xn n1 d1 yn n2 d2 (.inr ⟨h0,h00⟩) w
 have HS:=zH (show timesS xn n1 d1 yn n2 d2=_ from if_neg (fun h=>h.elim h0 h00))
 have hg1:(1:Int)≤Int.gcd n1 d2:=one_le_gcd d2 (by omega)
 have hh1:(1:Int)≤Int.gcd n2 d1:=one_le_gcd d1 (by omega)
 obtain ⟨g,hg⟩:∃ g:Int,g=Int.gcd n1 d2:=⟨_,rfl⟩
 obtain ⟨h,hh⟩:∃ h:Int,h=Int.gcd n2 d1:=⟨_,rfl⟩
 rw [← hg] at hg1
 rw [← hh] at hh1
 have p1:=div_le_of (a:=n1) (g:=g) a1 hg1
 have p2:=div_le_of (a:=n2) (g:=h) b1 hh1
 have p3:=div_le_of (a:=d1) (g:=h) (by omega) hh1
 have p4:=div_le_of (a:=d2) (g:=g) (by omega) hg1
 have q1:=quo_u64 (a:=n1) (g:=g) a1 hg1 (by omega)
 have q2:=quo_u64 (a:=n2) (g:=h) b1 hh1 (by omega)
 have q3:=quo_u64 (a:=d1) (g:=h) (by omega) hh1 (by omega)
 have q4:=quo_u64 (a:=d2) (g:=g) (by omega) hg1 (by omega)
 have l1:=mul_le_of p1.1 (show n1 / g≤9223372036854775808 by omega) p2.1 (show n2 / h≤9223372036854775808 by omega)
 have l2:=mul_le_of p3.1 (show d1 / h≤9223372036854775808 by omega) p4.1 (show d2 / g≤9223372036854775808 by omega)
 have w1:Wide (n1 / g * (n2 / h)):=⟨l1.1,by omega⟩
 have w2:Wide (d1 / h * (d2 / g)):=⟨l2.1,by omega⟩
 have HP:=zH (product_w (n1 / g) (n2 / h) p1.1 (by omega) p2.1 (by omega))
 have HQ:=zH (product_w (d1 / h) (d2 / g) p3.1 (by omega) p4.1 (by omega))
 have HR:=zH (rat_any (!(xn == yn)) (n1 / g * (n2 / h)) (d1 / h * (d2 / g)) w1 w2)
 have Hg:=zH hg;have Hh:=zH hh
 have hgne:¬ g=0:=by omega
 have hhne:¬ h=0:=by omega
 have HG1:=zH (fun w=>(gcd_z n1 d2 a1 (by omega) (by omega) (by omega) w).mono fun _ _ hx=>(⟨hx.1.trans (by rw [hg]),hx.2⟩:_=Ending.returned (.int .u64 g)∧_))
 have HG2:=zH (fun w=>(gcd_z n2 d1 b1 (by omega) (by omega) (by omega) w).mono fun _ _ hx=>(⟨hx.1.trans (by rw [hh]),hx.2⟩:_=Ending.returned (.int .u64 h)∧_))
 have hb1:(n1 == 0)=false:=by simpa using h0
 have hb2:(n2 == 0)=false:=by simpa using h00
 clear hg hh l1 l2 w1 w2 h0 h00
 go_in
 go_wp2
 go_quiet (first|(with_reducible exact Calls.quiet_of (HG1.out _))|(with_reducible exact Calls.quiet_of (HG2.out _)))
 go_wp2
 refine Rg.wp_region 26 26 (fun _=>none) (fun _ _=>rfl) (by kernel_rfl) (by kernel_rfl) ?_
 simp only [List.take_succ_cons,List.take_zero,List.drop_succ_cons,List.drop_zero]
 repeat
  (refine Rg.wk_step (by rfl) ?_
   apply Exists.intro
   refine ⟨fun wz hw=>?_,?_⟩
   ·obtain ⟨hc,hf⟩:=hw.cells
    go_simp
    first
     | exact zU
     |(apply Rg.up_enter;(with_reducible refine (HP.out _).mono ?_);rintro e w1 ⟨rfl,hb1⟩;exact ⟨rfl,hb1⟩)
     |(apply Rg.up_enter;(with_reducible refine (HQ.out _).mono ?_);rintro e w1 ⟨rfl,hb1⟩;exact ⟨rfl,hb1⟩)
     |(apply Rg.up_enter;(with_reducible refine (HR.out _).mono ?_);rintro e w1 ⟨rfl,hb1⟩;exact ⟨rfl,hb1⟩)
   simp only [zp])
 refine Rg.wk_nil (Rg.fin0 rfl ?_)
 intro wx hx
 obtain ⟨hc,hf⟩:=hx.cells
 have y1:w.heap.size+1+1 < wx.heap.size:=by have:=hx.size;simp at this;omega
 go_wp2
 exact bodyPost_ret (v:=rbv (ratS (!(xn == yn)) (n1 / g * (n2 / h)) (d1 / h * (d2 / g)))) (by simp [results,Tryz.results198,go_sem,hc]) rfl ⟨by rw [HS.out,Hg.out,Hh.out],xt⟩
def RunOk (f:FuncId) (cap:Array Value) (x y:Value) (v:Value) (w:World):Prop:=
 ∀ w',Ext w w'→Calls Tryz.prog f (#[x,y] ++ cap) w' fun e w''=>e=.returned v∧Ext w' w''
abbrev fv (neg:Bool) (n d:Int):Value:=.agg #[.bool neg,.int .u64 n,.int .u64 d]
theorem checked_no (n d m c:Int) (h1:-9223372036854775808≤n) (h2:n≤9223372036854775807) (h4:d≤9223372036854775807) (h5:-9223372036854775808≤m) (h6:m≤9223372036854775807) (h8:c≤9223372036854775807) (f:FuncId) (cap:Array Value)
 (hr:(rightB n d && rightB m c)=false) (w:World) :
 Calls Tryz.prog 195 #[.agg #[iV n,iV d],.agg #[iV m,iV c],.func (.func f) #[] cap] w fun e w'=>e=.returned (rbv ((0,1),false))∧Ext w w':=by
 have Hr:=zH hr;clear hr
 go_in
 go_wp2_with (first
  |(go_at_call 70;refine (both_any n d m c h1 h2 h4 h5 h6 h8 _).mono ?_;rintro e w1 ⟨rfl,hb⟩;rw [Hr.out];obtain ⟨hc,hf⟩:=hb.cells;have hz:=hb.size;simp at hz;have z0:w.heap.size+1+1 < w1.heap.size:=(by omega))
  |(go_at_call 200;refine (zero_any _).mono ?_;rintro e w2 ⟨rfl,hb2⟩;obtain ⟨hc2,hf2⟩:=hb2.cells))
 exact bodyPost_ret (v:=rbv ((0,1),false)) (by simp [results,Tryz.results195,go_sem,hc,hc2,z0]) rfl ⟨rfl,xt⟩
theorem checked_yes (n d m c:Int) (h1:-9223372036854775808≤n) (h2:n≤9223372036854775807) (h3:-9223372036854775808≤d) (h4:d≤9223372036854775807) (h5:-9223372036854775808≤m) (h6:m≤9223372036854775807) (h7:-9223372036854775808≤c) (h8:c≤9223372036854775807) (f:FuncId) (cap:Array Value)
 (hr:(rightB n d && rightB m c)=true) (w:World) (p:(Int×Int)×Bool) (hF:RunOk f cap (fv (decide (n < 0)) (sizeZ n) (sizeZ d)) (fv (decide (m < 0)) (sizeZ m) (sizeZ c)) (rbv p) w) (hE:∀ args w,(callFunc f args).run Tryz.prog w=.ok (.enter f args) w) :
 Calls Tryz.prog 195 #[.agg #[iV n,iV d],.agg #[iV m,iV c],.func (.func f) #[] cap] w fun e w'=>e=.returned (rbv p)∧Ext w w':=by
 have Hr:=zH hr;clear hr
 unfold RunOk at hF
 have HF:=zH hF;clear hF
 have HO1:=zH (of_any n d h1 h2 h3 h4);have HO2:=zH (of_any m c h5 h6 h7 h8)
 go_in
 go_wp2_with (go_at_call 70;refine (both_any n d m c h1 h2 h4 h5 h6 h8 _).mono ?_;rintro e w1 ⟨rfl,hb⟩;rw [Hr.out];obtain ⟨hc,hf⟩:=hb.cells;have hz:=hb.size;simp at hz;have z0:w.heap.size+1+1 < w1.heap.size:=(by omega);have z1:w.heap.size+1 < w1.heap.size:=(by omega);have z2:w.heap.size < w1.heap.size:=(by omega))
 have hww:Ext w w1:=Ext.trans ((((Ext.refl _).alloc _).alloc _).alloc _) hb
 refine Rg.wp_region 8 8 (fun _=>none) (fun _ _=>rfl) (by kernel_rfl) (by kernel_rfl) ?_
 simp only [List.take_succ_cons,List.take_zero,List.drop_succ_cons,List.drop_zero]
 repeat
  (refine Rg.wk_step (by rfl) ?_
   apply Exists.intro
   refine ⟨fun wz hw=>?_,?_⟩
   ·obtain ⟨hc,hf⟩:=hw.cells
    go_simp
    first
     | exact zU
     |(apply Rg.up_enter;(with_reducible refine (HO1.out _).mono ?_);rintro e w1 ⟨rfl,hb1⟩;exact ⟨rfl,hb1⟩)
     |(apply Rg.up_enter;(with_reducible refine (HO2.out _).mono ?_);rintro e w1 ⟨rfl,hb1⟩;exact ⟨rfl,hb1⟩)
     |(apply Rg.up_enter;(with_reducible refine (HF.out _ (hww.trans hw)).mono ?_);rintro e w1 ⟨rfl,hb1⟩;exact ⟨rfl,hb1⟩)
   simp only [zp])
 refine Rg.wk_nil (Rg.fin0 rfl ?_)
 intro wx hx
 obtain ⟨hc2,hf2⟩:=hx.cells
 have y1:w.heap.size+1+1 < wx.heap.size:=by have:=hx.size;omega
 go_wp2
 exact bodyPost_ret (v:=rbv p) (by simp [results,Tryz.results195,go_sem,hc,hc2,z0]) rfl ⟨rfl,xt⟩
theorem enters103 (args:Array Value) (w:World):(callFunc 196 args).run Tryz.prog w=.ok (.enter 196 args) w:=by go_simp
theorem enters104 (args:Array Value) (w:World):(callFunc 197 args).run Tryz.prog w=.ok (.enter 197 args) w:=by go_simp
theorem enters105 (args:Array Value) (w:World):(callFunc 198 args).run Tryz.prog w=.ok (.enter 198 args) w:=by go_simp
theorem enters106 (args:Array Value) (w:World):(callFunc 199 args).run Tryz.prog w=.ok (.enter 199 args) w:=by go_simp
structure I2 (a:Int×Int):Prop where
 n1:-9223372036854775808≤a.1
 n2:a.1≤9223372036854775807
 d1:-9223372036854775808≤a.2
 d2:a.2≤9223372036854775807
def addI (a b:Int×Int):(Int×Int)×Bool:=
 if (rightB a.1 a.2 && rightB b.1 b.2)=true then sumS (decide (a.1 < 0)) (sizeZ a.1) (sizeZ a.2) (decide (b.1 < 0)) (sizeZ b.1) (sizeZ b.2) else ((0,1),false)
def subI (a b:Int×Int):(Int×Int)×Bool:=
 if (rightB a.1 a.2 && rightB b.1 b.2)=true then sumS (decide (a.1 < 0)) (sizeZ a.1) (sizeZ a.2) (!decide (b.1 < 0)) (sizeZ b.1) (sizeZ b.2) else ((0,1),false)
def mulI (a b:Int×Int):(Int×Int)×Bool:=
 if (rightB a.1 a.2 && rightB b.1 b.2)=true then timesS (decide (a.1 < 0)) (sizeZ a.1) (sizeZ a.2) (decide (b.1 < 0)) (sizeZ b.1) (sizeZ b.2) else ((0,1),false)
def quoI (a b:Int×Int):(Int×Int)×Bool:=
 if (rightB a.1 a.2 && rightB b.1 b.2)=true then (if b.1=0 then ((0,1),false) else timesS (decide (a.1 < 0)) (sizeZ a.1) (sizeZ a.2) (decide (b.1 < 0)) (sizeZ b.2) (sizeZ b.1)) else ((0,1),false)
theorem right_pos {n d:Int} (h:rightB n d=true):1≤d:=by
 unfold rightB at h;simp at h;omega
theorem sizeZ_pos {d:Int} (h:1≤d):sizeZ d=d:=by unfold sizeZ;split <;> omega
theorem sizeZ_le {n:Int} (h1:-9223372036854775808≤n) (h2:n≤9223372036854775807):0≤sizeZ n∧sizeZ n≤9223372036854775808:=by unfold sizeZ;split <;> omega
theorem sumOk_of {a b:Int×Int} (ha:I2 a) (hb:I2 b) (hr:(rightB a.1 a.2 && rightB b.1 b.2)=true):SumOk (sizeZ a.1) (sizeZ a.2) (sizeZ b.1) (sizeZ b.2):=by
 simp only [Bool.and_eq_true] at hr
 have h1:=right_pos hr.1;have h2:=right_pos hr.2
 rw [sizeZ_pos h1,sizeZ_pos h2]
 exact ⟨sizeZ_le ha.n1 ha.n2,sizeZ_le hb.n1 hb.n2,⟨h1,ha.d2⟩,⟨h2,hb.d2⟩⟩
theorem SumOk.times {n1 d1 n2 d2:Int} (h:SumOk n1 d1 n2 d2):TimesOk n1 d1 n2 d2:=⟨h.n1,h.n2,⟨h.d1.1,by have:=h.d1.2;omega⟩,⟨h.d2.1,by have:=h.d2.2;omega⟩⟩
theorem sub1_walk (hD:Div64Said) (xn:Bool) (n1 d1:Int) (yn:Bool) (n2 d2:Int) (h:SumOk n1 d1 n2 d2) (w:World) :
 Calls Tryz.prog 197 #[fv xn n1 d1,fv yn n2 d2] w fun e w'=>e=.returned (rbv (sumS xn n1 d1 (!yn) n2 d2))∧Ext w w':=by
 have HS:=zH (sum_walk hD xn n1 d1 (!yn) n2 d2 h)
 go_in
 go_wp2_with (go_at_call 196;(refine (HS.out _).mono ?_);rintro e w1 ⟨rfl,hb⟩;obtain ⟨hc,hf⟩:=hb.cells)
 exact bodyPost_ret (v:=rbv (sumS xn n1 d1 (!yn) n2 d2)) (by simp [results,Tryz.results197,go_sem,hc]) rfl ⟨rfl,xt⟩
theorem quo1_zero (x y:Value) (w:World) (p:Nat) (hp:w.cell? ⟨p,0,none⟩=some (iV 0)) (xn:Bool) (n1 d1:Int) (yn:Bool) (n2 d2:Int) (hx:x=fv xn n1 d1) (hy:y=fv yn n2 d2) :
 Calls Tryz.prog 199 #[x,y,.pointer (some ⟨p,0,none⟩)] w fun e w'=>e=.returned (rbv ((0,1),false))∧Ext w w':=by
 subst hx hy
 have hpl:p < w.heap.size:=zB w _ hp
 have hpl1:p < w.heap.size+1:=by omega
 have hpl2:p < w.heap.size+1+1:=by omega
 go_in
 go_wp2_with (go_at_call 200;refine (zero_any _).mono ?_;rintro e w1 ⟨rfl,hb⟩;obtain ⟨hc,hf⟩:=hb.cells)
 exact bodyPost_ret (v:=rbv ((0,1),false)) (by simp [results,Tryz.results199,go_sem,hc]) rfl ⟨rfl,xt⟩
theorem quo1_walk (w:World) (p:Nat) (b:Int) (hp:w.cell? ⟨p,0,none⟩=some (iV b)) (hb0:¬ b=0) (xn:Bool) (n1 d1:Int) (yn:Bool) (n2 d2:Int) (h:TimesOk n1 d1 d2 n2) :
 Calls Tryz.prog 199 #[fv xn n1 d1,fv yn n2 d2,.pointer (some ⟨p,0,none⟩)] w fun e w'=>e=.returned (rbv (timesS xn n1 d1 yn d2 n2))∧Ext w w':=by
 have HT:=zH (times_walk xn n1 d1 yn d2 n2 h)
 have hpl:p < w.heap.size:=zB w _ hp
 have hpl1:p < w.heap.size+1:=by omega
 have hpl2:p < w.heap.size+1+1:=by omega
 go_in
 go_wp2_with (go_at_call 198;(refine (HT.out _).mono ?_);rintro e w1 ⟨rfl,hb⟩;obtain ⟨hc,hf⟩:=hb.cells)
 exact bodyPost_ret (v:=rbv (timesS xn n1 d1 yn d2 n2)) (by simp [results,Tryz.results199,go_sem,hc]) rfl ⟨rfl,xt⟩
theorem checked_any (a b:Int×Int) (ha:I2 a) (hb:I2 b) (f:FuncId) (cap:Array Value) (w:World) (p:(Int×Int)×Bool)
 (hF:(rightB a.1 a.2 && rightB b.1 b.2)=true→RunOk f cap (fv (decide (a.1 < 0)) (sizeZ a.1) (sizeZ a.2)) (fv (decide (b.1 < 0)) (sizeZ b.1) (sizeZ b.2)) (rbv p) w)
 (hN:(rightB a.1 a.2 && rightB b.1 b.2)=false→p=((0,1),false)) (hE:∀ args w,(callFunc f args).run Tryz.prog w=.ok (.enter f args) w) :
 Calls Tryz.prog 195 #[rv a,rv b,.func (.func f) #[] cap] w fun e w'=>e=.returned (rbv p)∧Ext w w':=by
 cases hr:(rightB a.1 a.2 && rightB b.1 b.2)
 ·rw [hN hr]
  exact checked_no a.1 a.2 b.1 b.2 ha.n1 ha.n2 ha.d2 hb.n1 hb.n2 hb.d2 f cap hr w
 ·exact checked_yes a.1 a.2 b.1 b.2 ha.n1 ha.n2 ha.d1 ha.d2 hb.n1 hb.n2 hb.d1 hb.d2 f cap hr w p (hF hr) hE
theorem Add_any (hD:Div64Said) (a b:Int×Int) (ha:I2 a) (hb:I2 b) (w:World) :
 Calls Tryz.prog 168 #[rv a,rv b] w fun e w'=>e=.returned (rbv (addI a b))∧Ext w w':=by
 have HC:=zH (fun w=>checked_any a b ha hb 196 #[] w (addI a b) (fun hr w' _=>by rw [show addI a b=_ from if_pos hr];exact sum_walk hD _ _ _ _ _ _ (sumOk_of ha hb hr) w') (fun hr=>if_neg (by simp [hr])) enters103)
 obtain ⟨a1,a2⟩:=a;obtain ⟨b1,b2⟩:=b
 go_in
 go_wp2_with (go_at_call 195;(refine (HC.out _).mono ?_);rintro e w1 ⟨rfl,hb⟩;obtain ⟨hc,hf⟩:=hb.cells)
 exact bodyPost_ret (v:=rbv (addI (a1,a2) (b1,b2))) (by simp [results,Tryz.results168,go_sem,hc]) rfl ⟨rfl,xt⟩
theorem Sub_any (hD:Div64Said) (a b:Int×Int) (ha:I2 a) (hb:I2 b) (w:World) :
 Calls Tryz.prog 169 #[rv a,rv b] w fun e w'=>e=.returned (rbv (subI a b))∧Ext w w':=by
 have HC:=zH (fun w=>checked_any a b ha hb 197 #[] w (subI a b) (fun hr w' _=>by rw [show subI a b=_ from if_pos hr];exact sub1_walk hD _ _ _ _ _ _ (sumOk_of ha hb hr) w') (fun hr=>if_neg (by simp [hr])) enters104)
 obtain ⟨a1,a2⟩:=a;obtain ⟨b1,b2⟩:=b
 go_in
 go_wp2_with (go_at_call 195;(refine (HC.out _).mono ?_);rintro e w1 ⟨rfl,hb⟩;obtain ⟨hc,hf⟩:=hb.cells)
 exact bodyPost_ret (v:=rbv (subI (a1,a2) (b1,b2))) (by simp [results,Tryz.results169,go_sem,hc]) rfl ⟨rfl,xt⟩
theorem Mul_any (a b:Int×Int) (ha:I2 a) (hb:I2 b) (w:World) :
 Calls Tryz.prog 170 #[rv a,rv b] w fun e w'=>e=.returned (rbv (mulI a b))∧Ext w w':=by
 have HC:=zH (fun w=>checked_any a b ha hb 198 #[] w (mulI a b) (fun hr w' _=>by rw [show mulI a b=_ from if_pos hr];exact times_walk _ _ _ _ _ _ (sumOk_of ha hb hr).times w') (fun hr=>if_neg (by simp [hr])) enters105)
 obtain ⟨a1,a2⟩:=a;obtain ⟨b1,b2⟩:=b
 go_in
 go_wp2_with (go_at_call 195;(refine (HC.out _).mono ?_);rintro e w1 ⟨rfl,hb⟩;obtain ⟨hc,hf⟩:=hb.cells)
 exact bodyPost_ret (v:=rbv (mulI (a1,a2) (b1,b2))) (by simp [results,Tryz.results170,go_sem,hc]) rfl ⟨rfl,xt⟩
theorem quo_run (a b:Int×Int) (ha:I2 a) (hb:I2 b) (hr:(rightB a.1 a.2 && rightB b.1 b.2)=true) (w:World) (p:Nat) (hp:w.cell? ⟨p,0,none⟩=some (iV b.1)) :
 RunOk 199 #[.pointer (some ⟨p,0,none⟩)] (fv (decide (a.1 < 0)) (sizeZ a.1) (sizeZ a.2)) (fv (decide (b.1 < 0)) (sizeZ b.1) (sizeZ b.2)) (rbv (quoI a b)) w:=by
 intro w' hw
 have hpl:p < w.heap.size:=zB w _ hp
 have hpl1:p < w.heap.size+1:=by omega
 have hpl2:p < w.heap.size+1+1:=by omega
 have hp':w'.cell? ⟨p,0,none⟩=some (iV b.1):=(hw.cells.1 p 0 hpl).trans hp
 rw [show quoI a b=_ from if_pos hr]
 by_cases h0:b.1=0
 ·rw [if_pos h0]
  rw [h0] at hp'
  exact quo1_zero _ _ w' p hp' _ _ _ _ _ _ rfl rfl
 ·rw [if_neg h0]
  have h:=sumOk_of ha hb hr
  have hz:1≤sizeZ b.1:=by unfold sizeZ;split <;> omega
  exact quo1_walk w' p b.1 hp' h0 _ _ _ _ _ _ ⟨h.n1,⟨by have:=h.d2.1;omega,by have:=h.d2.2;omega⟩,⟨h.d1.1,by have:=h.d1.2;omega⟩,⟨hz,h.n2.2⟩⟩
theorem Quo_any (a b:Int×Int) (ha:I2 a) (hb:I2 b) (w:World) :
 Calls Tryz.prog 171 #[rv a,rv b] w fun e w'=>e=.returned (rbv (quoI a b))∧Ext w w':=by
 have HC:=zH (fun w p (hp:w.cell? ⟨p,0,none⟩=some (iV b.1))=>checked_any a b ha hb 199 #[.pointer (some ⟨p,0,none⟩)] w (quoI a b) (fun hr=>quo_run a b ha hb hr w p hp) (fun hr=>if_neg (by simp [hr])) enters106)
 obtain ⟨a1,a2⟩:=a;obtain ⟨b1,b2⟩:=b
 have hmf:∀ (fn:Fn) (first cap:Array Value) (w:World),(Instr.makeFunc fn first cap).run Tryz.prog w=.ok (.func fn first cap) w:=fun _ _ _ _=>rfl
 go_in
 go_wp2_with (go_at_call 195;(refine (HC.out _ _ ?_).mono ?_);(go_simp);rintro e w1 ⟨rfl,hb⟩;obtain ⟨hc,hf⟩:=hb.cells)
 exact bodyPost_ret (v:=rbv (quoI (a1,a2) (b1,b2))) (by simp [results,Tryz.results171,go_sem,hc]) rfl ⟨rfl,xt⟩
end Go.Proofs.YteomcpplajeidaaGreat
