/-
  Lemmas of this claim (JwAK). Nothing is asked.
-/
import Derived.Test.YteomcpplajeidaaGreatJwAE
set_option linter.unusedVariables false
set_option linter.unusedSimpArgs false
set_option maxRecDepth 100000
set_option maxHeartbeats 40000000
namespace Go.Proofs.YteomcpplajeidaaGreat
open Go.RowKit
def dgtB (n:Int):ByteArray:=⟨#[UInt8.ofNat (48+n).toNat]⟩
def decB:Nat→Int→ByteArray
 | 0,n=>dgtB n
 | k+1,n=>if n < 10 then dgtB n else decB k (n / 10) ++ dgtB (n % 10)
theorem dgtB_sz (n:Int):(dgtB n).size=1:=rfl
theorem decB_sz:∀ (k:Nat) (n:Int),(decB k n).size≤k+1
 | 0,n=>Nat.le_refl _
 | k+1,n=>by
  rw [decB]
  split
  ·rw [dgtB_sz];omega
  ·rw [sz_app,dgtB_sz]
   have:=decB_sz k (n / 10)
   omega
def numTx (n:Int):ByteArray:=decB 9 n
theorem numTx_sz (n:Int):(numTx n).size≤10:=decB_sz 9 n
theorem dig_known (n:Int) (h:0≤n∧n < 10) (w:World):Calls Tryz.prog 207 #[iV n] w fun e w'=>e=.returned (.string (dgtB n))∧Ext w w':=by
 obtain ⟨h0,h1⟩:=h
 have hneg:¬ n < 0:=by omega
 have hw1:=wz (48+n) (by omega)
 have hw2:IntKind.u8.wrap (48+n)=48+n:=by simp [IntKind.wrap,IntKind.signed,IntKind.bits];omega
 have hcv:=conv_one (w.alloc (.cells #[.int .u8 (48+n)] 5)) (48+n) (by omega) w.heap.size (by rw [cell_of_row _ _ _ _ _ _ (heap_alloc_new w _)];rfl)
 go_in
 go_wp2
 go_ret
 exact ⟨rfl,xt⟩
theorem dec_known:∀ (k:Nat) (_:k≤30) (n:Int) (_:0≤n∧n < (10 ^ (k+1):Nat)) (_:n≤9223372036854775807) (w:World),Calls Tryz.prog 207 #[iV n] w fun e w'=>e=.returned (.string (decB k n))∧Ext w w'
 | 0,_,n,h,_,w=>dig_known n (by simpa using h) w
 | k+1,hk,n,h,hm,w=>by
  obtain ⟨h0,h1⟩:=h
  by_cases h10:n < 10
  ·rw [decB,if_pos h10]
   exact dig_known n ⟨h0,h10⟩ w
  ·rw [decB,if_neg h10]
   have hneg:¬ n < 0:=by omega
   have hq:n.tdiv 10=n / 10:=Int.tdiv_eq_ediv_of_nonneg h0
   have hr:n.tmod 10=n % 10:=Int.tmod_eq_emod_of_nonneg h0
   have hlt:n / 10 < (10 ^ (k+1):Nat):=by
    rw [Nat.pow_succ] at h1
    omega
   have HQ:=zH (dec_known k (by omega) (n / 10) ⟨by omega,hlt⟩ (by omega))
   have HR:=zH (dig_known (n % 10) (by omega))
   have hw1:=wz (n / 10) (by omega)
   have hw2:=wz (n % 10) (by omega)
   have hs1:=decB_sz k (n / 10)
   have hs2:=dgtB_sz (n % 10)
   generalize decB k (n / 10)=s1 at *
   generalize dgtB (n % 10)=s2 at *
   have hss:s1.size+s2.size≤9223372036854775807:=by omega
   clear hlt h1 hs2
   go_in
   go_upto_region 5 with (fail)
   go_wp2_with (go_at_call 207;first
    |((with_reducible refine (HQ.out w).mono ?_);rintro e w1 ⟨rfl,hx⟩;have HX1:=zH hx;clear hx)
    |((with_reducible refine (HR.out w1).mono ?_);rintro e w2 ⟨rfl,hx⟩;have HX2:=zH (HX1.out.trans hx);clear hx))
   go_ret
   exact ⟨rfl,HX2.out⟩
theorem numb_known (n:Int) (h:0≤n∧n≤1000000000) (w:World):Calls Tryz.prog 151 #[iV n] w fun e w'=>e=.returned (.string (numTx n))∧Ext w w':=by
 have HR:=zH (fun wz=>rRight_any n 1 (by omega) (by omega) (by decide) (by decide) wz)
 rw [right_one] at HR
 have HD:=zH (fun wz=>dec_known 9 (by decide) n ⟨h.1,by have:=h.2;rw [show ((10 ^ (9+1):Nat):Int)=10000000000 by decide];omega⟩ (by omega) wz)
 have HT:Hid (∀ wz,Calls Tryz.prog 187 #[.agg #[iV n,iV 1]] wz fun e w'=>e=.returned (.string (numTx n))∧Ext wz w'):=zH (fun w=>by
  clear h
  go_in
  go_wp2_with (first
   |(go_at_call 128;(with_reducible refine (HR.out _).mono ?_);rintro e w1 ⟨rfl,hb⟩;obtain ⟨hc,hf⟩:=hb.cells;have hz:=hb.size;simp at hz)
   |(go_at_call 207;(with_reducible refine (HD.out _).mono ?_);rintro e w2 ⟨rfl,hx⟩))
  go_ret
  exact ⟨rfl,xt⟩)
 clear h HR HD
 go_in
 go_wp2_with (go_at_call 187;(refine (HT.out _).mono ?_);rintro e w2 ⟨rfl,hx⟩)
 go_ret
 exact ⟨rfl,xt⟩
end Go.Proofs.YteomcpplajeidaaGreat
