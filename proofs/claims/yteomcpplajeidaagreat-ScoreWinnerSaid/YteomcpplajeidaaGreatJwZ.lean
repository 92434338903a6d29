/-
  Lemmas of this claim (JwZ). Nothing is asked.
-/
import Derived.Test.YteomcpplajeidaaGreatJwY
import Derived.Test.YteomcpplajeidaaGreatJwS
import Derived.Test.YteomcpplajeidaaGreatJwJ
import Derived.Test.YteomcpplajeidaaGreatJwH
import Derived.Test.YteomcpplajeidaaGreatJwR
import Derived.Deep.Upon
import Derived.Deep.AppendLies
import Derived.ArgAppend
set_option linter.unusedVariables false
set_option linter.unusedSimpArgs false
set_option maxRecDepth 100000
set_option maxHeartbeats 40000000
namespace Go.Proofs.YteomcpplajeidaaGreat
open Go.RowKit
theorem up_mid {ρ:Operand→Value} {d:Option Tmp} {x:Operand} {ty:TypeId} {ps:String} {af:Array Edge} {gd:Option (Nat×Bool)} {w:World} {b o:Nat} {cs:List Value} {fs:Array Field}
 (hx:ρ x=.pointer (some ⟨b,o,none⟩)) (hc:w.rangeAt b o cs) (hu:Tryz.prog.underlying ty=some (.struct fs)) (hi:(Tryz.prog.info? ty).map (·.size)=some cs.length) :
 Rg.up Tryz.prog w (.agg cs.toArray) ((execOp ρ { dst:=d,op:=.load ty x,type:=ty,pos:=ps,after:=af,guard:=gd }).run Tryz.prog w):=by
 have h:=run_loadAt_mid (P:=Tryz.prog) w b o ty cs (.struct fs) hc hu rfl hi
 unfold execOp
 simp only [hx,Sem.run_bind,h,Result.andThen_ok]
 exact zU
theorem Ext.of_kxo {w w1 w':World} {p:Nat} (h:Ext w w1) (k:KX p w1 w') (hp:w.heap.size≤p):Ext w w':=
 ⟨k.os.trans h.os,k.tape.trans h.tape,k.output.trans h.output,Nat.le_trans h.size k.size,fun i hi=>(k.block i (Nat.lt_of_lt_of_le hi h.size) (fun e=>by injection e with e;omega)).trans (h.block i hi)⟩
structure SO (w0 w1 w:World) (g n c:Nat) (zs:List Sc):Prop where
 low:Ext w0 w
 own:w.ownsRow w0.heap.size 100 7 (.slice (some ⟨g,0,none⟩) n c) n (zs.flatMap Sc.cs)
 kx:KX g w1 w
theorem SO.ext {w0 w1 w w':World} {g n c:Nat} {zs:List Sc} (h:SO w0 w1 w g n c zs) (x:Ext w w'):SO w0 w1 w' g n c zs:=⟨h.low.trans x,row_ext h.own x,h.kx.ext x⟩
theorem SO.put {w0 w1 w w':World} {g n c:Nat} {zs zs':List Sc} (h:SO w0 w1 w g n c zs) (x:KX g w w') (ho:w'.ownsRow w0.heap.size 100 7 (.slice (some ⟨g,0,none⟩) n c) n (zs'.flatMap Sc.cs)):SO w0 w1 w' g n c zs':=⟨Ext.of_kxo h.low x (h.own.lt g rfl).1,ho,h.kx.trans x⟩
theorem SO.range {w0 w1 w:World} {g n c:Nat} {zs:List Sc} (h:SO w0 w1 w g n c zs) (hn:zs.length=n) (hl:n≤1000000) (k:Nat) (hk:k < zs.length):w.rangeAt g (k * 7) zs[k].cs:=fun j v hv=>by
 obtain ⟨b,e,hc⟩:=row_at (SR.of_row (cs:=Sc.cs) sc_len (v:=.slice (some ⟨g,0,none⟩) n c) (by rw [hn];exact h.own) (by omega)) k hk
 injection e with e
 injection e with e
 subst e
 exact hc j v hv
theorem SO.lt {w0 w1 w:World} {g n c:Nat} {zs:List Sc} (h:SO w0 w1 w g n c zs):g < w.heap.size:=(h.own.lt g rfl).2
def CmpAt (w0:World) (recv:Value) (cmp:Sc→Sc→Int) (zs0:List Sc):Prop:=
 ∀ x∈zs0,∀ y∈zs0,∀ wz,Ext w0 wz→Calls Tryz.prog 40 #[recv,.agg x.cs.toArray,.agg y.cs.toArray] wz fun e w'=>e=.returned (iV (cmp x y))∧Ext wz w'
abbrev ltC (cmp:Sc→Sc→Int) (x y:Sc):Bool:=decide (cmp x y < 0)
theorem insertion_any (w0:World) (recv:Value) (cmp:Sc→Sc→Int) (g n c:Nat) (zs0:List Sc) (hC:CmpAt w0 recv cmp zs0) (hn0:zs0.length=n) (hnl:n≤1000000) (w:World) (h:SO w0 w w g n c zs0) :
 Calls Tryz.prog 108 #[.slice (some ⟨g,0,none⟩) n c,iV 0,iV n,.func (.func 40) #[recv] #[]] w fun e w'=>e=.returned (.tuple #[])∧SO w0 w w' g n c (isort (ltC cmp) zs0):=by
 have HC:=zH hC
 have H0:=zH h
 have HN:=zH hn0
 have hg0:=h.lt
 clear hC h
 go_in
 go_upto_region 1 with (fail)
 go_loopw [8] (fun iv wr=>∃ i:Nat,iv=iV i∧1≤i∧i≤n+1∧Hid (SO w0 w wr g n c (isort (ltC cmp) (zs0.take i) ++ zs0.drop i))) (fun iv _=>n+1 - (iof iv).toNat)
 case atStart=>exact ⟨1,rfl,Nat.le_refl _,by omega,zH (by
  have:isort (ltC cmp) (zs0.take 1) ++ zs0.drop 1=zs0:=by
   cases hz:zs0 with
   | nil=>rfl
   | cons x l=>rfl
  rw [this];exact H0.out)⟩
 case round=>
  rename World=>wo
  obtain ⟨i,rfl,hi1,hin,HS⟩:=hrel
  by_cases hil:i < n
  ·have hili:(i:Int) < (n:Int):=by omega
   have hizs:i < zs0.length:=by have:=HN.out;omega
   have HT:=zH (isort_take (ltC cmp) zs0 i hizs)
   have HDR:Hid (zs0.drop i=zs0[i] :: zs0.drop (i+1)):=zH (List.drop_eq_getElem_cons hizs)
   have HM:Hid (zs0[i]∈zs0):=zH (List.getElem_mem hizs)
   generalize zs0[i]=x at *
   have HAM:Hid (∀ y∈isort (ltC cmp) (zs0.take i),y∈zs0):=zH (fun y hy=>List.mem_of_mem_take ((isort_perm _ _).mem_iff.1 hy))
   have HAL:Hid ((isort (ltC cmp) (zs0.take i)).length=i):=zH (by rw [isort_len,List.length_take];omega)
   rw [HDR.out] at HS
   generalize isort (ltC cmp) (zs0.take i)=acc at *
   have HRL:Hid ((zs0.drop (i+1)).length=n - (i+1)):=zH (by rw [List.length_drop];have:=HN.out;omega)
   obtain ⟨R,hR⟩:∃ R,R=zs0.drop (i+1):=⟨_,rfl⟩
   rw [← hR] at HS HRL
   have HRR:=zH hR
   clear hR
   go_upto_region 4 with (fail)
   go_loopw [9] (fun jv wr=>∃ (j:Nat) (A B:List Sc),jv=iV j∧j≤i∧Hid (A.length=j∧A.length+B.length=i)∧Hid (insR (ltC cmp) x acc=insR (ltC cmp) x A ++ B)∧Hid (∀ y∈A,y∈zs0)∧Hid (SO w0 w wr g n c (A ++ x :: B ++ R))) (fun jv _=>(iof jv).toNat)
   case atStart=>exact ⟨i,acc,[],rfl,Nat.le_refl _,zH ⟨HAL.out,by rw [HAL.out];rfl⟩,zH (by simp),HAM,zH (by simpa using HS.out)⟩
   case round=>
    obtain ⟨j,A,B,rfl,hj,HL,HI,HA,HS⟩:=hrel
    by_cases hj0:0 < j
    ·obtain ⟨k,rfl⟩:∃ k,j=k+1:=⟨j - 1,by omega⟩
     obtain ⟨A',y,rfl⟩:∃ A' y,A=A' ++ [y]:=by
      rcases List.eq_nil_or_concat A with h|⟨A',y,h⟩
      ·have:=HL.out.1;rw [h] at this;cases this
      ·exact ⟨A',y,by simpa using h⟩
     have hkl:A'.length=k∧k+1+B.length=i:=by have:=HL.out;simp at this;omega
     have hlen:(A' ++ [y] ++ x :: B ++ R).length=n:=by have:=HRL.out;simp;omega
     have hry:wr.rangeAt g (k * 7) y.cs:=by
      have:=HS.out.range hlen hnl k (by omega)
      rw [show (A' ++ [y] ++ x :: B ++ R)[k]'(by omega) = y by simp [← hkl.1]] at this
      exact this
     have hrx:wr.rangeAt g ((k+1) * 7) x.cs:=by
      have:=HS.out.range hlen hnl (k+1) (by omega)
      rw [show (A' ++ [y] ++ x :: B ++ R)[k + 1]'(by omega) = x by
       have e:A' ++ [y] ++ x :: B ++ R=(A' ++ [y]) ++ x :: (B ++ R):=by simp
       simp only [e]
       rw [List.getElem_append_right (by simp;omega)]
       simp [← hkl.1]] at this
      exact this
     have HRY:=zH hry;have HRX:=zH hrx;have HKL:=zH hkl;have HLN:=zH hlen
     have HCA:=zH (HC.out x HM.out y (HA.out y (by simp)))
     have hwl:=HS.out.lt
     have HSO:=HS
     clear hry hrx hkl hlen HS
     have hkn:(k:Int)+1 < (n:Int):=by have:=HKL.out;omega
     have hkn2:(k:Int) < (n:Int):=by omega
     have hk0:(0:Int)≤(k:Int):=by omega
     have hk1:(0:Int)≤(k:Int)+1:=by omega
     have hwk:=wz (k:Int) (by omega)
     go_upto_region 4 with (fail)
     refine Rr.rg ((List.range 16).map (fun i=>(i,.y))) ?_
     simp only [List.range,List.range.loop,List.map_cons,List.map_nil]
     iterate 8
      refine Rr.y1 ?_
     refine Rr.y2 (h:=fun wz hw=>up_mid (by rfl) (fun j v hv=>(hw.cells.1 _ _ hwl).trans (HRX.out j v hv)) Tryz.underlying100 (by rfl)) (k:=?_)
     iterate 4
      refine Rr.y1 ?_
     refine Rr.y2 (h:=fun wz hw=>up_mid (by rfl) (fun j v hv=>(hw.cells.1 _ _ hwl).trans (HRY.out j v hv)) Tryz.underlying100 (by rfl)) (k:=?_)
     (refine Rr.yd ⟨iV (cmp x y),fun wz hw hh=>?_,?_⟩
      ·go_simp
       apply Rg.up_enter
       (refine (HCA.out wz (HSO.out.low.trans hw)).mono ?_)
       rintro e w3 ⟨rfl,hb3⟩
       exact ⟨rfl,hb3⟩
      simp only [zp])
     refine Rr.y1 ?_
     refine Rr.wr_nil ?_
     intro wy hy hh
     simp only [gg,gh,gi,gj,Nat.reduceAdd]
     clear hh
     have HSY:=zH (HSO.out.ext hy)
     have hwy:=HSY.out.lt
     have hry2:∀ wz,Ext wy wz→wz.rangeAt g (k * 7) y.cs:=fun wz hz j v hv=>((hy.trans hz).cells.1 _ _ hwl).trans (HRY.out j v hv)
     have hrx2:∀ wz,Ext wy wz→wz.rangeAt g ((k+1) * 7) x.cs:=fun wz hz j v hv=>((hy.trans hz).cells.1 _ _ hwl).trans (HRX.out j v hv)
     have HRY2:=zH hry2;have HRX2:=zH hrx2
     clear hry2 hrx2 hy hwl HRY HRX HSO HCA
     have HI2:=zH (insR_snoc (ltC cmp) x y A')
     have HLT:Hid (ltC cmp x y=decide (cmp x y < 0)):=zH rfl
     generalize ltC cmp x y=lt at *
     generalize cmp x y=z at *
     by_cases hz:z < 0
     ·have HI3:Hid (insR (ltC cmp) x acc=insR (ltC cmp) x A' ++ (y :: B)):=zH (by rw [HI.out,HI2.out,HLT.out,decide_eq_true hz];simp)
      go_upto_region 6 with (fail)
      refine Rp.wp_regionTU true [2,3,4] [(0,.y),(1,.y),(2,.y),(3,.y),(4,.y),(5,.y),(6,.y),(7,.y),(8,.y),(9,.y),(10,.y),(11,.y),(12,.y),(13,.y),(14,.y)] [15,16,17] (fun _=>(.cells #[] 33,Rg.ptr)) (fun c a d v w h=>by have h':_∧_:=h;exact ⟨(Rr.put_defers a d v).symm.trans h'.1,h'.2⟩) (by kernel_rfl) (by kernel_rfl) ?_
      iterate 4
       refine Rr.y1 ?_
      (refine Rr.wr_sub (by simp only [ga,gb,gc];rfl) (by rfl) ?_
       apply Exists.intro
       refine ⟨fun wz=>?_,?_⟩
       ·go_simp
        (with_reducible rfl)
       simp only [zp])
      iterate 2
       refine Rr.y1 ?_
      (refine Rr.wr_sub (by simp only [ga,gb,gc];rfl) (by rfl) ?_
       apply Exists.intro
       refine ⟨fun wz=>?_,?_⟩
       ·go_simp
        (with_reducible rfl)
       simp only [zp])
      refine Rr.y1 ?_
      refine Rr.y2 (h:=fun wz hw=>up_mid (by rfl) (HRY2.out wz hw) Tryz.underlying100 (by rfl)) (k:=?_)
      iterate 3
       refine Rr.y1 ?_
      refine Rr.y2 (h:=fun wz hw=>up_mid (by rfl) (HRX2.out wz hw) Tryz.underlying100 (by rfl)) (k:=?_)
      refine Rr.y1 ?_
      refine Rr.wr_nil ?_
      intro wq hq hh
      clear hh
      simp only [List.filterMap_cons,List.filterMap_nil,List.getElem?_cons_succ,List.getElem?_cons_zero]
      have HSQ:=zH (HSY.out.ext hq)
      clear hq hwy
      refine store_elem (cs:=Sc.cs) sc_len sc_one (by kernel_rfl) rfl (.tmp 51) (.tmp 46) rfl g (k+1) n c w0.heap.size _ y (by rfl) (by rfl) HSQ.out.own HLN.out (by omega) ?_
      intro wa hra hga
      have HSA:=zH (HSQ.out.put hga hra)
      clear hra hga
      refine wpList_plain rfl fun K hK=>?_
      unfold Oper.wp execOp
      go_simp
      refine hK _ _ ?_
      refine store_elem (cs:=Sc.cs) sc_len sc_one (by kernel_rfl) rfl (.tmp 52) (.tmp 50) rfl g k n c w0.heap.size _ x (by rfl) (by rfl) HSA.out.own (by rw [List.length_set];exact HLN.out) (by omega) ?_
      intro wb hrb hgb
      have HSB:=zH (HSA.out.put hgb hrb)
      clear hrb hgb
      have HEQ:Hid (((A' ++ [y] ++ x :: B ++ R).set (k+1) y).set k x=A' ++ x :: (y :: B) ++ R):=zH (by
       rw [← HKL.out.1]
       simp [List.set_append])
      rw [HEQ.out] at HSB
      go_wp2_with (fail)
      exact ⟨⟨k,A',y :: B,by rfl,by omega,zH ⟨HKL.out.1,by have:=HKL.out;simp;omega⟩,HI3,zH (fun u hu=>HA.out u (by simp [hu])),HSB⟩,by simp [iof]⟩
     ·have HI3:Hid (insR (ltC cmp) x acc ++ R=A' ++ [y] ++ x :: B ++ R):=zH (by rw [HI.out,HI2.out,HLT.out,decide_eq_false hz];simp)
      go_wp2_with (fail)
      exact ⟨⟨i+1,by rfl,by omega,by omega,zH (by rw [HT.out,← HRR.out,HI3.out];exact HSY.out)⟩,by simp [iof];omega⟩
    ·obtain rfl:j=0:=by omega
     obtain rfl:A=[]:=List.length_eq_zero_iff.1 HL.out.1
     have HI3:Hid (insR (ltC cmp) x acc ++ R=[] ++ x :: B ++ R):=zH (by rw [HI.out,insR_nil];simp)
     go_upto_region 4 with (fail)
     go_quiet (fail)
     go_wp2_with (fail)
     exact ⟨⟨i+1,by rfl,by omega,by omega,zH (by rw [HT.out,← HRR.out,HI3.out];exact HS.out.ext xt)⟩,by simp [iof];omega⟩
  ·have hili:¬ (i:Int) < (n:Int):=by omega
   have HF:Hid (isort (ltC cmp) (zs0.take i) ++ zs0.drop i=isort (ltC cmp) zs0):=zH (by
    have:=HN.out
    rw [List.take_of_length_le (by omega),List.drop_eq_nil_of_le (by omega),List.append_nil])
   rw [HF.out] at HS
   go_wp2_with (fail)
   go_end0
   exact ⟨rfl,HS.out⟩
theorem len66_any (x:Int) (h0:0≤x) (h1:x≤1000000) (w:World):Calls Tryz.prog 66 #[.int .u64 x] w fun e w'=>e=.returned (iV (Lib.bitLen x.toNat))∧w=w':=by
 have HL:=zH (fun wz=>(Len64_any x wz h0 (by omega)).mono fun _ _ h=>(show _∧wz=_ from ⟨h.1,h.2.symm⟩))
 go_in
 go_wp2_with (go_at_call 117;(refine (HL.out _).mono ?_);rintro e w1 ⟨rfl,rfl⟩)
 go_ret
 exact ⟨rfl,rfl⟩
theorem sort_small (w0:World) (recv:Value) (cmp:Sc→Sc→Int) (g n c:Nat) (zs0:List Sc) (hC:CmpAt w0 recv cmp zs0) (hn0:zs0.length=n) (hnl:n≤12) (w:World) (h:SO w0 w w g n c zs0) :
 Calls Tryz.prog 39 #[.slice (some ⟨g,0,none⟩) n c,.func (.func 40) #[recv] #[]] w fun e w'=>e=.returned (.tuple #[])∧SO w0 w w' g n c (isort (ltC cmp) zs0):=by
 have HI:=zH (insertion_any w0 recv cmp g n c zs0 hC hn0 (by omega) w h)
 have hl12:(n:Int)≤12:=by omega
 have hP:∀ lim:Int,Calls Tryz.prog 65 #[.slice (some ⟨g,0,none⟩) n c,iV 0,iV n,iV lim,.func (.func 40) #[recv] #[]] w fun e w'=>e=.returned (.tuple #[])∧SO w0 w w' g n c (isort (ltC cmp) zs0):=by
  intro lim
  clear hC h
  go_in
  go_upto_region 2 with (fail)
  go_loopw [1,2] (fun av bv wr=>av=iV 0∧bv=iV n∧w=wr) (fun _ _ _=>0)
  case atStart=>exact ⟨rfl,rfl,rfl⟩
  case round=>
   obtain ⟨rfl,rfl,rfl⟩:=hrel
   go_wp2_with (go_at_call 108;(refine HI.out.mono ?_);rintro e w1 ⟨rfl,hs⟩)
   exact bodyPost_ret (v:=.tuple #[]) (by simp [results,Tryz.results65,go_sem]) rfl ⟨rfl,hs⟩
 have HP:=zH hP
 have HL:=zH (fun wz=>len66_any (n:Int) (by omega) (by omega) wz)
 clear hC h hP
 have hwn:IntKind.u64.wrap (n:Int)=(n:Int):=by simp [IntKind.wrap,IntKind.signed,IntKind.bits];omega
 go_in
 go_wp2_with (first
  |(go_at_call 66;(with_reducible refine (HL.out _).mono ?_);rintro e w1 ⟨rfl,rfl⟩)
  |(go_at_call 65;(with_reducible refine (HP.out _).mono ?_);rintro e w1 ⟨rfl,hs⟩))
 go_end0
 exact ⟨rfl,hs⟩
theorem sort_nil (A:Option Addr) (c:Nat) (f:Value) (w:World):Calls Tryz.prog 39 #[.slice A 0 c,f] w fun e w'=>e=.returned (.tuple #[])∧Ext w w':=by
 have hI:Calls Tryz.prog 108 #[.slice A 0 c,iV 0,iV 0,f] w fun e w'=>e=.returned (.tuple #[])∧w=w':=by
  go_in
  go_upto_region 1 with (fail)
  go_loopw [8] (fun av wr=>av=iV 1∧w=wr) (fun _ _=>0)
  case atStart=>exact ⟨rfl,rfl⟩
  case round=>
   obtain ⟨rfl,rfl⟩:=hrel
   go_wp2_with (fail)
   go_end0
   exact ⟨rfl,rfl⟩
 have HI:=zH hI
 have hP:∀ lim:Int,Calls Tryz.prog 65 #[.slice A 0 c,iV 0,iV 0,iV lim,f] w fun e w'=>e=.returned (.tuple #[])∧w=w':=by
  intro lim
  go_in
  go_upto_region 2 with (fail)
  go_loopw [1,2] (fun av bv wr=>av=iV 0∧bv=iV 0∧w=wr) (fun _ _ _=>0)
  case atStart=>exact ⟨rfl,rfl,rfl⟩
  case round=>
   obtain ⟨rfl,rfl,rfl⟩:=hrel
   go_wp2_with (go_at_call 108;(refine HI.out.mono ?_);rintro e w1 ⟨rfl,rfl⟩)
   exact bodyPost_ret (v:=.tuple #[]) (by simp [results,Tryz.results65,go_sem]) rfl ⟨rfl,rfl⟩
 have HP:=zH hP
 have HL:=zH (fun wz=>len66_any 0 (by omega) (by omega) wz)
 clear hI hP
 go_in
 go_wp2_with (first
  |(go_at_call 66;(with_reducible refine (HL.out _).mono ?_);rintro e w1 ⟨rfl,rfl⟩)
  |(go_at_call 65;(with_reducible refine (HP.out _).mono ?_);rintro e w1 ⟨rfl,rfl⟩))
 go_end0
 exact ⟨rfl,Ext.refl _⟩
structure TP where
 ls:List (Int×Int)
 cs:List Cr
 rs:List Rq
 ts:List ByteArray
 f:Ex
structure TV (w:World) (r:TnR) (T:TP):Prop where
 h1:SR cellsLot 2 w (slV r.ls) T.ls
 h2:SR cellsCr 5 w (slV r.cs) T.cs
 h3:SR cellsRq 3 w (slV r.rs) T.rs
 h4:SR strC 1 w (slV r.ts) T.ts
 h5:Rd All w T.f (.agg #[.string r.fo,iV r.f1,iV r.f2,.string r.fn,slV r.fa])
 hp:T.f.parts≤100000
theorem TV.ext {w w':World} {r:TnR} {T:TP} (h:TV w r T) (x:Ext w w'):TV w' r T:=⟨h.h1.ext x,h.h2.ext x,h.h3.ext x,h.h4.ext x,h.h5.ext x,h.hp⟩
structure OkE (e:En):Prop where
 bid:OkI e.bid
 lot:OkI e.lot
 rec_:OkI e.rec_
 price:OkI e.price
 vl:e.vs.length≤999998
structure XR (w:World) (v:Value) (xs:List ER):Prop where
 sr:SR cellsEn 5 w v xs
 ok:∀ x∈xs,OkE x.1∧VRd All w x.1.vs (slV x.2)
theorem XR.ext {w w':World} {v:Value} {xs:List ER} (h:XR w v xs) (x:Ext w w'):XR w' v xs:=⟨h.sr.ext x,fun y hy=>⟨(h.ok y hy).1,VRd.ext x (h.ok y hy).2⟩⟩
section
variable (r:TnR) (T:TP)
def admF (x:En):Int:=admitI T.ls T.cs T.rs r.low r.high x.lot x.price x.vs
def lowStep (q:Int×Bool) (x:ER):Int×Bool:=if admF r T x.1=0∧(q.2=false∨x.1.price < q.1) then (x.1.price,true) else q
def lowF (own:List ER):Int:=(own.foldl (lowStep r T) (0,false)).1
def ptsF (lw:Int) (x:En):(Int×Int)×Int:=evalI (ptVals x.price lw x.vs) T.f
def badF (lw:Int) (x:En):Int:=if admF r T x=0 then (ptsF T lw x).2 else admF r T x
def goodF (lw:Int) (own:List ER):List Sc:=(own.filter fun x=>badF r T lw x.1 == 0).map fun x=>⟨x.1,x.2,(ptsF T lw x.1).1⟩
def outF (lw:Int) (own:List ER):List Rk:=(own.filter fun x=>!(badF r T lw x.1 == 0)).map fun x=>⟨x.1.bid,(0,0),0,badF r T lw x.1⟩
def inF:Nat→List Sc→List Rk
 | _,[]=>[]
 | k,x :: l=>⟨x.e.bid,x.p,(k:Int)+1,0⟩ :: inF (k+1) l
def sortF (lw:Int) (own:List ER):List Sc:=isort (ltS T.cs T.ts) (goodF r T lw own)
def rankL (lot:Int) (xs:List ER):List Rk:=
 if errE T.ls lot (ownE lot xs)=0 then inF 0 (sortF r T (lowF r T (ownE lot xs)) (ownE lot xs)) ++ outF r T (lowF r T (ownE lot xs)) (ownE lot xs) else []
end
theorem inF_snoc:∀ (k:Nat) (l:List Sc) (x:Sc),inF k (l ++ [x])=inF k l ++ [⟨x.e.bid,x.p,((k+l.length:Nat):Int)+1,0⟩]
 | k,[],x=>rfl
 | k,y :: l,x=>by
  rw [List.cons_append,inF,inF,inF_snoc (k+1) l x,List.length_cons,List.cons_append,show k+1+l.length=k+(l.length+1) by omega]
theorem inF_len:∀ (k:Nat) (l:List Sc),(inF k l).length=l.length
 | _,[]=>rfl
 | k,x :: l=>by rw [inF,List.length_cons,List.length_cons,inF_len (k+1) l]
theorem ltC_cmpS (cs:List Cr) (ts:List ByteArray):ltC (cmpS cs ts)=ltS cs ts:=by
 funext x y
 exact cmpS_neg cs ts x y
theorem pts_I2 {w:World} {r:TnR} {T:TP} (h:TV w r T) {x:En} {lw:Int} (hx:OkE x) (hl:OkI lw) {sl:Value} (hv:VRd All w x.vs sl) (h0:(ptsF T lw x).2=0):I2 (ptsF T lw x).1:=by
 obtain ⟨p,e,hp⟩:∃ p e,ptsF T lw x=(p,e):=⟨_,_,rfl⟩
 rw [hp] at h0 ⊢
 simp only at h0
 subst h0
 have hf:formedB T.f=true:=by
  have hp':=hp
  unfold ptsF evalI at hp'
  split at hp'
  ·rename_i hw
   exact (wrong_zero hw).2.2
  ·rename_i hw
   injection hp' with _ h1
   exact absurd h1 hw
 obtain ⟨base,cap,-,-,hr,-⟩:=hv
 refine evalI_I2 (vs:=ptVals x.price lw x.vs) ?_ h.h5 hf hp
 intro y hy
 unfold ptVals at hy
 rcases List.mem_cons.1 hy with rfl|hy
 ·exact hx.price
 ·rcases List.mem_cons.1 hy with rfl|hy
  ·exact hl
  ·exact hr y hy
theorem flat_len {α:Type} {cs:α→List Value} {sz:Nat} (hc1:∀ u,(cs u).length=sz):∀ us:List α,(us.flatMap cs).length=us.length * sz
 | []=>by simp
 | u :: us=>by rw [List.flatMap_cons,List.length_append,flat_len hc1 us,hc1 u,List.length_cons,Nat.add_mul,Nat.one_mul,Nat.add_comm]
theorem append_rows {α:Type} {cs:α→List Value} {sz:Nat} (T E bytes:Nat) {z:Value} (hT:Tryz.prog.underlying T=some (.slice E))
 (hinfo:(Tryz.prog.info? E).map (fun i=>(i.zero,i.size,i.bytes))=some (some z,sz,bytes)) (hz:z.cells.size=sz) (h0:0 < sz) (hby:bytes≤100000)
 {ops:Array Oper} {rest:List Oper} {o:Oper} {a:Act} {Q:Exit→Act→World→Prop} {w:World} (hgd:o.guard=none) (s x:Operand)
 (ho:o.op=.call { callee:=.builtin .append,args:=#[s,x],argTypes:=#[T,T] }) (B:Nat) (v:Value) (vs:List α) (hs:a.eval s=v) (hF:w.ownsRow B E sz v vs.length (vs.flatMap cs))
 (hc1:∀ u,(cs u).length=sz∧∀ c∈cs u,c.oneCell' = true)
 (A:Option Addr) (c:Nat) (us:List α) (hx:a.eval x=.slice A us.length c) (hu:us=[]∨∃ b off,A=some ⟨b,off,none⟩∧∀ j u,(us.flatMap cs)[j]? = some u→w.cell? ⟨b,off+j,none⟩=some u)
 (hn:vs.length+us.length≤1000000) (hB:B≤w.heap.size)
 (h:∀ v' w',w'.ownsRow B E sz v' (vs ++ us).length ((vs ++ us).flatMap cs)→w.grownBy w' v.ownBlock→wpList Tryz.prog ops Q rest (a.put o.dst v') w'):wpList Tryz.prog ops Q (o :: rest) a w:=by
 obtain ⟨i0,hi,hz0,hz1,hz2⟩:=info_parts hinfo
 refine wpList_plain hgd fun K hK=>?_
 by_cases h0':us=[]
 ·subst h0'
  obtain ⟨base,cap,hv,hle⟩:∃ base cap,v=.slice base vs.length cap∧vs.length≤cap:=by
   rcases hF.2 with ⟨hn,h0⟩|⟨g,cap',cur,hv,hb,hg,h1,h2,h3,h4⟩
   ·exact ⟨none,0,by rw [hn,h0],by omega⟩
   ·exact ⟨_,cap',hv,h1⟩
  have hsrc:Src Tryz.prog i0.size T (.slice A 0 c) 0 [] w:=by
   rw [hz1]
   cases A with
   | none=>exact Src.ofNil w hT c
   | some a=>exact Src.ofSlice w hT a 0 c _ (by simp) (by simp) (by simp)
  have hr:=run_append_nothing (P:=Tryz.prog) w T T o.type E i0 hT hi base vs.length cap hle (.slice A 0 c) hsrc
  rw [← hv] at hr
  unfold Oper.wp execOp
  simp only [List.length_nil] at hx
  simp only [ho,resolve,invoke,builtin,Sem.run_bind,Sem.run_pure,Result.andThen_ok,List.map_toArray,List.map_cons,List.map_nil,hs,hx,hr]
  exact hK _ _ (h v w (by simpa using hF) ⟨rfl,rfl,rfl,Nat.le_refl _,fun _ _ _=>rfl⟩)
 ·obtain ⟨b,off,rfl,hcell⟩:=hu.resolve_left h0'
  have hpos:0 < us.length:=List.length_pos_iff.2 h0'
  have hby2:(vs.length+us.length) * bytes≤1000000 * 100000:=Nat.mul_le_mul (by omega) hby
  obtain ⟨g,cap',w',hr,h2,h3,h4,h5⟩:=run_append_lies (P:=Tryz.prog) w T o.type B E i0 _ sz bytes hT hi hz0 hz1 hz2 hz h0 v vs.length _ hF ⟨b,off,none⟩ us.length c (us.flatMap cs) (flat_len (fun u=>(hc1 u).1) us)
   (by
     intro j u hu
     rw [Go.WideShapes.add_plain]
     exact hcell j u hu) (by intro u hu;obtain ⟨z,-,hz⟩:=List.mem_flatMap.1 hu;exact (hc1 z).2 u hz) hpos (by unfold maxLen;omega) (by omega) hB w.heap.size rfl
  unfold Oper.wp execOp
  simp only [ho,resolve,invoke,builtin,Sem.run_bind,Sem.run_pure,Result.andThen_ok,List.map_toArray,List.map_cons,List.map_nil,hs,hx,hr] at *
  refine hK _ w' (h _ w' ?_ h3)
  rw [List.flatMap_append,List.length_append]
  exact h2
theorem own_src {B E sz n:Nat} {w:World} {A:Option Addr} {c:Nat} {xs:List Value} (h:w.ownsRow B E sz (.slice A n c) n xs):n=0∨∃ b off,A=some ⟨b,off,none⟩∧∀ j u,xs[j]? = some u→w.cell? ⟨b,off+j,none⟩=some u:=by
 have h':=h
 rcases h.2 with ⟨hn,h0⟩|⟨g,cap,cur,hv,hb,hg,h1,h2,h3,h4⟩
 ·exact .inl h0
 ·injection hv with e1 e2 e3
  subst e1
  refine .inr ⟨g,0,rfl,fun j u hj=>?_⟩
  have hl:j < n * sz:=h.1 ▸ (List.getElem?_eq_some_iff.1 hj).1
  rw [Nat.zero_add,World.ownsRow.cellAt h' j hl,hj]
end Go.Proofs.YteomcpplajeidaaGreat
