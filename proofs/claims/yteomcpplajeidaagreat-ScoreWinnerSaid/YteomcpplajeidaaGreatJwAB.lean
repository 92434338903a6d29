/-
  Lemmas of this claim (JwAB). Nothing is asked.
-/
import Derived.Test.YteomcpplajeidaaGreatJwK
import Derived.Test.YteomcpplajeidaaGreatJwAA
import Derived.Test.YteomcpplajeidaaGreatJwJ
set_option linter.unusedVariables false
set_option linter.unusedSimpArgs false
set_option maxRecDepth 100000
set_option maxHeartbeats 40000000
namespace Go.Proofs.YteomcpplajeidaaGreat
open Go.RowKit
theorem wdn_at (k:Nat) (h:(k:Int) < 4) (w:World) (blk:Nat) (hb:w.heap[blk]? = some (.cells #[iV 1,iV 2,iV 10,iV 4] 3)):w.cell? ⟨blk,k,none⟩=some (iV (wdn k)):=by
 have key:w.cell? ⟨blk,k,none⟩=#[Value.int .i64 1,iV 2,iV 10,iV 4][k]?:=by
  have:=cell_of_row w blk k _ _ _ hb
  simpa using this
 obtain rfl|rfl|rfl|rfl:k=0∨k=1∨k=2∨k=3:=by omega
 all_goals exact key
structure WeE (t:Ex):Prop where
 ex:∃ n d:Int,t=numE (n,d)∧NuOk n d∧1≤n∧n≤9
inductive OneE (cs:List Cr):Ex→Prop
 | a (w:Ex):WeE w→OneE cs (opE' mulB w (opE' quoB (nameE lowB) (nameE priceB)))
 | b (w:Ex):WeE w→OneE cs (opE' quoB (opE' subB (numE (1,1)) (opE' quoB (nameE priceB) (opE' addB (nameE priceB) (nameE lowB)))) w)
 | c (w:Ex):WeE w→OneE cs w
 | d (w:Ex) (c:Cr):WeE w→c∈cs→OneE cs (opE' mulB w (nameE c.name))
 | e (w:Ex) (c:Cr) (i:Nat):WeE w→c∈cs→i=4∨i=5→OneE cs (opE' (opNm i) (nameE c.name) w)
 | f (c d:Cr):c∈cs→d∈cs→OneE cs (opE' mulB (nameE c.name) (nameE d.name))
 | g (w:Ex) (c d:Cr):WeE w→c∈cs→d∈cs→OneE cs (opE' quoB (nameE c.name) (opE' addB w (nameE d.name)))
theorem wei_we (k j:Nat) (hk:(k:Int) < 9) (hj:(j:Int) < 4):WeE (numE (quickZ (1+(k:Int)) (wdn j))):=by
 have key:∀ k:Fin 9,∀ j:Fin 4,1≤(quickZ (1+((k:Nat):Int)) (wdn j)).1∧(quickZ (1+((k:Nat):Int)) (wdn j)).1≤9:=by decide +kernel
 obtain ⟨h1,h2⟩:=key ⟨k,by omega⟩ ⟨j,by omega⟩
 exact ⟨_,_,rfl,wei_ok k j (by omega) (by omega),h1,h2⟩
theorem MX.put {W w:World} {bn:Nat} {v:Value} {ns:List Int} {pos:Nat} (h:MX W w bn v ns pos) {q:Nat} (hq:W.heap.size≤q) (hne:bn≠q) (j:Nat) (x:Value):MX W (w.setCell ⟨q,j,none⟩ x) bn v ns pos:=
 ⟨Ext.setCell h.low hq _,(heap_setCell_other _ ⟨q,j,none⟩ _ _ hne).trans h.at_,h.ge,h.ird,h.le⟩
theorem MX.put5 {W w:World} {bn:Nat} {v:Value} {ns:List Int} {pos:Nat} (h:MX W w bn v ns pos) {q:Nat} (hq:W.heap.size≤q) (hne:bn≠q) (b0 b1 b2 b3 b4:Value):MX W (put5 w q b0 b1 b2 b3 b4) bn v ns pos:=
 ((((h.put hq hne _ _).put hq hne _ _).put hq hne _ _).put hq hne _ _).put hq hne _ _
def SB (n p b:Nat):Prop:=n≤b∧b≠p
@[instance_reducible] def gwM (W:World) (bn:Nat) (v:Value) (ns:List Int) (lim:Nat):Rs.Gw where
 R w w':=KX bn w w'∧(lim≤w.heap.size∧bn < lim)∧(∃ pos,MX W w bn v ns pos)∧(∃ pos,MX W w' bn v ns pos)
 lim:=lim
 sub:=false
 refl h:=⟨KX.of_ext (Ext.refl _),⟨Nat.le_trans h.2.1.1 h.1.size,h.2.1.2⟩,h.2.2.2,h.2.2.2⟩
 trans h k:=⟨h.1.trans k.1,h.2.1,h.2.2.1,k.2.2.2⟩
 ext h x:=⟨KX.of_ext x,h.2.1,h.2.2.1,h.2.2.1.imp fun _ hp=>hp.ext x⟩
 size h:=h.1.size
 lim_le h:=h.2.1.1
 block h p hp hl:=h.1.block p hl fun e=>by
  injection e with e
  have:=h.2.1.2
  omega
theorem mkone_any {W w:World} {bn:Nat} {v:Value} {ns:List Int} {pos:Nat} (h:MX W w bn v ns pos) (r:TnR) (cs:List Cr) (hcs:SR cellsCr 5 w (slV r.cs) cs) (hne:∀ b n c,slV r.cs=.slice (some ⟨b,0,none⟩) n c→b≠bn) (hn:cs.length≤3) :
 Calls Tryz.prog 30 #[.pointer (some ⟨bn,0,none⟩),.agg (tenC r)] w fun e w'=>∃ v1 t pos',e=.returned v1∧OneE cs t∧MX W w' bn v ns pos'∧KX bn w w'∧Rd (fun b=>w.heap.size≤b) w' t v1:=by
 have HM0:=zH h;have HS:=zH hcs;have HNE:=zH hne
 have hbw:bn < w.heap.size:=zL h.at_
 obtain ⟨⟨ca,cn,cc⟩,hrc⟩:∃ x:Sl,x=r.cs:=⟨_,rfl⟩
 rw [← hrc] at HS HNE
 obtain rfl:cn=cs.length:=by
  obtain ⟨_,_,h1,-⟩:=HS.out
  injection h1
 obtain ⟨W1,hW1⟩:∃ W1,W1=(w.alloc (.cells (tenC r) 39)).alloc (.cells zero5 33):=⟨_,rfl⟩
 have hx1:Ext w W1:=by rw [hW1];exact Ext.alloc (Ext.alloc (Ext.refl _) _) _
 have hT:W1.heap[w.heap.size]? = some (.cells (tenC r) 39):=by rw [hW1,Below.heap_alloc _ _ _ (by simp)];exact heap_alloc_new _ _
 have hR:W1.heap[w.heap.size+1]? = some (.cells zero5 33):=by rw [hW1];exact block_new (by simp)
 obtain ⟨pT,hpT⟩:∃ x,x=w.heap.size:=⟨_,rfl⟩
 obtain ⟨pR,hpR⟩:∃ x,x=w.heap.size+1:=⟨_,rfl⟩
 have hTR:bn < pT∧pT < pR∧w.heap.size≤pT:=by omega
 rw [← hpT] at hT
 rw [← hpR] at hR
 have HT:=zH hT;have HR:=zH hR;have HX1:=zH hx1;have HTR:=zH hTR;have HRC:=zH hrc
 have HM1:=zH (h.ext hx1)
 clear hT hR hx1 hTR h hcs hne hrc hbw
 go_in
 go_upto_region 1 with (fail)
 rw [← hW1]
 rw [← hpR]
 rw [← hpT]
 clear hW1 hpR hpT
 go_upto_region 2 with (first
  |(go_at_call 29;first
     |((with_reducible refine (nx_any HM1.out 9 (by decide)).mono ?_);rintro e w2 ⟨k1,pos1,rfl,hk1,hm,hkx⟩;have HM2:=zH (hm.ext (Ext.alloc (Ext.refl w2) (.cells #[iV 1,iV 2,iV 10,iV 4] 3)));have HK2:=zH hkx;have hwk:IntKind.i64.wrap (1+(k1:Int))=1+(k1:Int):=(by rw [IntKind.wrap_i64];omega);clear hm hkx)
     |((with_reducible refine (nx_any HM2.out 4 (by decide)).mono ?_);rintro e w3 ⟨k2,pos2,rfl,hk2,hm,hkx⟩;have HM3:=zH hm;have HK3:=zH hkx
       have hblk:=(hkx.at (heap_alloc_new w2 (.cells #[iV 1,iV 2,iV 10,iV 4] 3)) (show w2.heap.size≠bn by have:=HK2.out.size;have:=zL HM1.out.at_;omega))
       have hck:=wdn_at k2 hk2 w3 w2.heap.size hblk
       have hlk:=zL hblk
       clear hm hkx))
  |(go_at_call 36;(with_reducible refine (mknum_any (1+(k1:Int)) (wdn k2) ⟨by omega,by omega⟩ (by unfold wdn;split;decide;split;decide;split <;> decide) _).mono ?_);rintro e w4 ⟨rfl,hx⟩;have HX4:=zH hx;clear hx hck hlk hblk))
 have HWE:=zH (wei_we k1 k2 hk1 hk2)
 generalize quickZ (1+(k1:Int)) (wdn k2)=qq at *
 obtain ⟨g1,g2⟩:=qq
 have hx5:=Ext.alloc (Ext.refl w4) (.cells #[.string numB,iV g1,iV g2,.string nilB,.slice none 0 0] 33)
 have h5:=heap_alloc_new w4 (.cells #[.string numB,iV g1,iV g2,.string nilB,.slice none 0 0] 33)
 have HK5:Hid (KX bn w (w4.alloc (.cells #[.string numB,iV g1,iV g2,.string nilB,.slice none 0 0] 33))):=zH (((((KX.of_ext HX1.out).trans HK2.out).ext (Ext.alloc (Ext.refl _) _)).trans HK3.out).ext (HX4.out.trans hx5))
 have HKK:Hid (KX bn W1 (w4.alloc (.cells #[.string numB,iV g1,iV g2,.string nilB,.slice none 0 0] 33))):=zH (((HK2.out.ext (Ext.alloc (Ext.refl _) _)).trans HK3.out).ext (HX4.out.trans hx5))
 have HM5:=zH (HM3.out.ext (HX4.out.trans hx5))
 obtain ⟨p5,hp5⟩:∃ x,x=w4.heap.size:=⟨_,rfl⟩
 have h5lt:w.heap.size≤p5∧pR < p5:=by
  have e1:=HX1.out.size;have e2:=HK2.out.size;have e3:=HK3.out.size;have e4:=HX4.out.size;have e5:=zL HR.out
  simp only [World.size_alloc] at e3
  omega
 rw [← hp5] at h5 ⊢
 clear hp5 hx5 HX4 HK2 HK3 HM1 HM2 HM3 hwk hk1 hk2
 generalize w4.alloc (.cells #[.string numB,iV g1,iV g2,.string nilB,.slice none 0 0] 33)=V at *
 have HTV:=zH (HKK.out.at HT.out (by have:=HTR.out;omega))
 have HRV:=zH (HKK.out.at HR.out (by have:=HTR.out;omega))
 have HSV:=zH (HS.out.kx HK5.out HNE.out)
 have H5V:=zH h5;have H5L:=zH h5lt
 clear h5 h5lt HKK HT HR HX1
 go_upto_region 3 with (go_at_call 29;(refine (nx_any HM5.out 8 (by decide)).mono ?_);rintro e w6 ⟨k3,pos3,rfl,hk3,hm,hkx⟩;have HM6:=zH hm;have HKX6:=zH hkx;clear hm hkx)
 have HK6:=zH (HK5.out.trans HKX6.out)
 have HT6:=zH (HKX6.out.at HTV.out (by have:=HTR.out;omega))
 have HR6:=zH (HKX6.out.at HRV.out (by have:=HTR.out;omega))
 have HS6:=zH (HSV.out.kx HKX6.out HNE.out)
 have H56:=zH (HKX6.out.at H5V.out (by have:=H5L.out;have:=HTR.out;omega))
 clear HTV HRV HSV H5V HK5 HKX6 HM5 HS
 have c2:w6.cell? ⟨pT,2,none⟩=some (.slice ca cs.length cc):=(cell_of_row w6 pT 2 _ _ _ HT6.out).trans (by show some (slV r.cs)=_;rw [← HRC.out])
 have lT:=zL HT6.out
 have HCL:=zH hn
 have HSZ:=zH (show ∀ wz,Ext w6 wz→∀ b,wz.heap.size≤b→SB w.heap.size pR b from fun wz hx b hb=>by
  have e1:=HK6.out.size;have e2:=hx.size;have e3:=zL HR6.out
  exact ⟨by omega,by omega⟩)
 have HWR:=zH (show ∀ wz,Rd (SB w.heap.size pR) wz (numE (g1,g2)) (lfA numB (g1,g2) nilB) from fun wz=>Rd.leaf (by obtain ⟨n,d,h1,h2,h3⟩:=HWE.out.ex;injection h1 with _ h4;cases h4;exact ⟨by have:=h2.n0;show _≤g1;omega,by have:=h2.n1;show g1≤_;omega,by show _≤g2;rcases h2.dd with e|e|e|e|e <;> omega,by show g2≤_;rcases h2.dd with e|e|e|e|e <;> omega⟩))
 have HNR:=zH (show ∀ (wz:World) (nm:ByteArray),Rd (SB w.heap.size pR) wz (nameE nm) (lfA nameB (0,0) nm) from fun wz nm=>Rd.leaf I2.zero)
 have HN11:=zH (show ∀ wz,Calls Tryz.prog 36 #[iV 1,iV 1] wz fun e w'=>e=.returned (lfA numB (1,1) nilB)∧Ext wz w' from fun wz=>by
  have h:=mknum_any 1 1 (by omega) (by omega) wz
  rw [show quickZ 1 1=(1,1) from by decide +kernel] at h
  exact h)
 by_cases h0:(cs.length:Int)=0
 ·go_upto_if 27 with (fail)
  go_cut [6] (fun sv wx=>∃ kk:Nat,sv=iV (kk:Int)∧kk≤2∧w6=wx)
  case first=>
   have hm3:(k3:Int).tmod 3=((k3 % 3:Nat):Int):=(Int.tmod_eq_emod_of_nonneg (by omega)).trans (by omega)
   by_cases h2:2 < (k3:Int)
   ·go_wp2
    go_meet
    case rel=>exact ⟨k3 % 3,by rfl,by omega,rfl⟩
   ·go_wp2
    go_meet
    case rel=>exact ⟨k3,by rfl,by omega,rfl⟩
  case rest=>
   obtain ⟨kk,rfl,hkk,rfl⟩:=hcut
   obtain rfl|rfl|rfl:kk=0∨kk=1∨kk=2:=by omega
   ·go_upto_region 6 with (fail)
    refine Rr.rg [(0,.y),(1,.y),(2,.y),(3,.z),(4,.z)] ?_
    refine Rr.y2 (h:=fun wz hw=>up_row (by rfl) ((hw.block _ (zL H56.out)).trans H56.out) Tryz.underlying33 (by kernel_rfl)) (k:=?_)
    iterate 2
     refine Rr.y3 (fun wz hw=>mkname_any _ _) ?_
    refine Rr.zd (fun v w'=>Rd (SB w.heap.size pR) w' (opE' quoB (nameE lowB) (nameE priceB)) v) (fun v w1 w2 h e=>h.ext e) (fun wz hw hh=>?_) (fun u3=>?_)
    ·have h3:=hw
     go_simp
     apply Rr.upR_enter
     refine (mkop_any (SB w.heap.size pR) _ _ _ _ _ _ (HNR.out wz lowB) (HNR.out wz priceB) (HSZ.out wz hw)).mono ?_
     rintro e w3 ⟨v3,rfl,hx3,hr3⟩
     exact ⟨v3,rfl,hx3,hr3⟩
    simp only [zp]
    refine Rr.zd (fun v w'=>Rd (SB w.heap.size pR) w' (opE' mulB (numE ⟨g1,g2⟩) (opE' quoB (nameE lowB) (nameE priceB))) v) (fun v w1 w2 h e=>h.ext e) (fun wz hw hh=>?_) (fun u4=>?_)
    ·have h3:Rd _ wz (opE' quoB (nameE lowB) (nameE priceB)) u3:=hh _ zM
     go_simp
     apply Rr.upR_enter
     refine (mkop_any (SB w.heap.size pR) _ _ _ _ _ _ (HWR.out wz) (h3) (HSZ.out wz hw)).mono ?_
     rintro e w3 ⟨v3,rfl,hx3,hr3⟩
     exact ⟨v3,rfl,hx3,hr3⟩
    simp only [zp]
    refine Rr.wr_nil ?_
    intro wy hy hh
    have HU:=zH (show Rd (SB w.heap.size pR) wy (opE' mulB (numE (g1,g2)) (opE' quoB (nameE lowB) (nameE priceB))) u4 from hh _ zM)
    simp only [gg,gh,gi,gj,Nat.reduceAdd]
    clear hh
    obtain ⟨o0,z1,z2,o3,b4,l4,c4,rfl⟩:=HU.out.form
    have HRY:=zH ((hy.block _ (zL HR6.out)).trans HR6.out)
    obtain ⟨hcc,hff,lg⟩:=zC HRY.out
    have k0:=zk hcc 0
    have k1:=zk hcc 1
    have k2:=zk hcc 2
    have k3:=zk hcc 3
    have k4:=zk hcc 4
    have f0:=hff 0;have f1:=hff 1;have f2:=hff 2;have f3:=hff 3;have f4:=hff 4
    have HY:=zH hy
    clear hcc hff hy c2 lT
    go_wp2_with (fail)
    exact bodyPost_ret (v:=.agg #[.string o0,iV z1,iV z2,.string o3,.slice b4 l4 c4]) (results_cell_row Tryz.results30 _ _ pR 33 _ _ _ (by rfl) (put5_at HRY.out _ _ _ _ _) Tryz.underlying33 rfl (by kernel_rfl)) rfl ⟨_,_,pos3,rfl,.a _ HWE.out,(HM6.out.ext HY.out).put5 (by have:=HTR.out;have:=HM6.out.ge;omega) (by have:=HTR.out;omega) _ _ _ _ _,put5_kx (HK6.out.ext HY.out) (by have:=HTR.out;omega) _ _ _ _ _,put5_rd HU.out (fun b hb=>hb.2) (fun b hb=>hb.1)⟩
   ·go_upto_region 8 with (fail)
    refine Rr.rg [(0,.y),(1,.y),(2,.y),(3,.y),(7,.y),(4,.z),(5,.z),(6,.z),(8,.z)] ?_
    refine Rr.y3 (fun wz hw=>HN11.out _) ?_
    iterate 3
     refine Rr.y3 (fun wz hw=>mkname_any _ _) ?_
    refine Rr.y2 (h:=fun wz hw=>up_row (by rfl) ((hw.block _ (zL H56.out)).trans H56.out) Tryz.underlying33 (by kernel_rfl)) (k:=?_)
    refine Rr.zd (fun v w'=>Rd (SB w.heap.size pR) w' (opE' addB (nameE priceB) (nameE lowB)) v) (fun v w1 w2 h e=>h.ext e) (fun wz hw hh=>?_) (fun u4=>?_)
    ·have h3:=hw
     go_simp
     apply Rr.upR_enter
     refine (mkop_any (SB w.heap.size pR) _ _ _ _ _ _ (HNR.out wz priceB) (HNR.out wz lowB) (HSZ.out wz hw)).mono ?_
     rintro e w3 ⟨v3,rfl,hx3,hr3⟩
     exact ⟨v3,rfl,hx3,hr3⟩
    simp only [zp]
    refine Rr.zd (fun v w'=>Rd (SB w.heap.size pR) w' (opE' quoB (nameE priceB) (opE' addB (nameE priceB) (nameE lowB))) v) (fun v w1 w2 h e=>h.ext e) (fun wz hw hh=>?_) (fun u5=>?_)
    ·have h3:Rd _ wz (opE' addB (nameE priceB) (nameE lowB)) u4:=hh _ zM
     go_simp
     apply Rr.upR_enter
     refine (mkop_any (SB w.heap.size pR) _ _ _ _ _ _ (HNR.out wz priceB) (h3) (HSZ.out wz hw)).mono ?_
     rintro e w3 ⟨v3,rfl,hx3,hr3⟩
     exact ⟨v3,rfl,hx3,hr3⟩
    simp only [zp]
    refine Rr.zd (fun v w'=>Rd (SB w.heap.size pR) w' (opE' subB (numE (1,1)) (opE' quoB (nameE priceB) (opE' addB (nameE priceB) (nameE lowB)))) v) (fun v w1 w2 h e=>h.ext e) (fun wz hw hh=>?_) (fun u6=>?_)
    ·have h3:Rd _ wz (opE' quoB (nameE priceB) (opE' addB (nameE priceB) (nameE lowB))) u5:=hh _ zM
     go_simp
     apply Rr.upR_enter
     refine (mkop_any (SB w.heap.size pR) _ _ _ _ _ _ (Rd.leaf (n1:=1) (n2:=1) (I2.int (n:=1) (by omega) (by omega))) (h3) (HSZ.out wz hw)).mono ?_
     rintro e w3 ⟨v3,rfl,hx3,hr3⟩
     exact ⟨v3,rfl,hx3,hr3⟩
    simp only [zp]
    refine Rr.zd (fun v w'=>Rd (SB w.heap.size pR) w' (opE' quoB (opE' subB (numE (1,1)) (opE' quoB (nameE priceB) (opE' addB (nameE priceB) (nameE lowB)))) (numE (g1,g2))) v) (fun v w1 w2 h e=>h.ext e) (fun wz hw hh=>?_) (fun u7=>?_)
    ·have h3:Rd _ wz (opE' subB (numE (1,1)) (opE' quoB (nameE priceB) (opE' addB (nameE priceB) (nameE lowB)))) u6:=hh _ zM
     go_simp
     apply Rr.upR_enter
     refine (mkop_any (SB w.heap.size pR) _ _ _ _ _ _ (h3) (HWR.out wz) (HSZ.out wz hw)).mono ?_
     rintro e w3 ⟨v3,rfl,hx3,hr3⟩
     exact ⟨v3,rfl,hx3,hr3⟩
    simp only [zp]
    refine Rr.wr_nil ?_
    intro wy hy hh
    have HU:=zH (show Rd (SB w.heap.size pR) wy (opE' quoB (opE' subB (numE (1,1)) (opE' quoB (nameE priceB) (opE' addB (nameE priceB) (nameE lowB)))) (numE (g1,g2))) u7 from hh _ zM)
    simp only [gg,gh,gi,gj,Nat.reduceAdd]
    clear hh
    obtain ⟨o0,z1,z2,o3,b4,l4,c4,rfl⟩:=HU.out.form
    have HRY:=zH ((hy.block _ (zL HR6.out)).trans HR6.out)
    obtain ⟨hcc,hff,lg⟩:=zC HRY.out
    have k0:=zk hcc 0
    have k1:=zk hcc 1
    have k2:=zk hcc 2
    have k3:=zk hcc 3
    have k4:=zk hcc 4
    have f0:=hff 0;have f1:=hff 1;have f2:=hff 2;have f3:=hff 3;have f4:=hff 4
    have HY:=zH hy
    clear hcc hff hy c2 lT
    go_wp2_with (fail)
    exact bodyPost_ret (v:=.agg #[.string o0,iV z1,iV z2,.string o3,.slice b4 l4 c4]) (results_cell_row Tryz.results30 _ _ pR 33 _ _ _ (by rfl) (put5_at HRY.out _ _ _ _ _) Tryz.underlying33 rfl (by kernel_rfl)) rfl ⟨_,_,pos3,rfl,.b _ HWE.out,(HM6.out.ext HY.out).put5 (by have:=HTR.out;have:=HM6.out.ge;omega) (by have:=HTR.out;omega) _ _ _ _ _,put5_kx (HK6.out.ext HY.out) (by have:=HTR.out;omega) _ _ _ _ _,put5_rd HU.out (fun b hb=>hb.2) (fun b hb=>hb.1)⟩
   ·go_upto_region 10 with (fail)
    have hy:Ext w6 w6:=Ext.refl _
    obtain ⟨wy,hwy⟩:∃ wy,wy=w6:=⟨_,rfl⟩
    obtain ⟨hcd,-,ld⟩:=zC H56.out
    have d0:=zk hcd 0
    have d1:=zk hcd 1
    have d2:=zk hcd 2
    have d3:=zk hcd 3
    have d4:=zk hcd 4
    have HU:=zH (HWR.out w6)
    obtain ⟨hcc,hff,lg⟩:=zC HR6.out
    have k0:=zk hcc 0
    have k1:=zk hcc 1
    have k2:=zk hcc 2
    have k3:=zk hcc 3
    have k4:=zk hcc 4
    have f0:=hff 0;have f1:=hff 1;have f2:=hff 2;have f3:=hff 3;have f4:=hff 4
    clear hcc hff hcd c2 lT hy hwy
    go_wp2_with (fail)
    exact bodyPost_ret (v:=.agg #[.string numB,iV g1,iV g2,.string nilB,.slice none 0 0]) (results_cell_row Tryz.results30 _ _ pR 33 _ _ _ (by rfl) (put5_at HR6.out _ _ _ _ _) Tryz.underlying33 rfl (by kernel_rfl)) rfl ⟨_,_,pos3,rfl,.c _ HWE.out,HM6.out.put5 (by have:=HTR.out;have:=HM6.out.ge;omega) (by have:=HTR.out;omega) _ _ _ _ _,put5_kx HK6.out (by have:=HTR.out;omega) _ _ _ _ _,put5_rd HU.out (fun b hb=>hb.2) (fun b hb=>hb.1)⟩
 ·have h0b:((cs.length:Int) == 0)=false:=by simpa using h0
  by_cases h2:k3≤2
  ·go_upto_if 27 with (fail)
   go_step
   obtain rfl|rfl|rfl:k3=0∨k3=1∨k3=2:=by omega
   ·go_upto_region 6 with (fail)
    refine Rr.rg [(0,.y),(1,.y),(2,.y),(3,.z),(4,.z)] ?_
    refine Rr.y2 (h:=fun wz hw=>up_row (by rfl) ((hw.block _ (zL H56.out)).trans H56.out) Tryz.underlying33 (by kernel_rfl)) (k:=?_)
    iterate 2
     refine Rr.y3 (fun wz hw=>mkname_any _ _) ?_
    refine Rr.zd (fun v w'=>Rd (SB w.heap.size pR) w' (opE' quoB (nameE lowB) (nameE priceB)) v) (fun v w1 w2 h e=>h.ext e) (fun wz hw hh=>?_) (fun u3=>?_)
    ·have h3:=hw
     go_simp
     apply Rr.upR_enter
     refine (mkop_any (SB w.heap.size pR) _ _ _ _ _ _ (HNR.out wz lowB) (HNR.out wz priceB) (HSZ.out wz hw)).mono ?_
     rintro e w3 ⟨v3,rfl,hx3,hr3⟩
     exact ⟨v3,rfl,hx3,hr3⟩
    simp only [zp]
    refine Rr.zd (fun v w'=>Rd (SB w.heap.size pR) w' (opE' mulB (numE ⟨g1,g2⟩) (opE' quoB (nameE lowB) (nameE priceB))) v) (fun v w1 w2 h e=>h.ext e) (fun wz hw hh=>?_) (fun u4=>?_)
    ·have h3:Rd _ wz (opE' quoB (nameE lowB) (nameE priceB)) u3:=hh _ zM
     go_simp
     apply Rr.upR_enter
     refine (mkop_any (SB w.heap.size pR) _ _ _ _ _ _ (HWR.out wz) (h3) (HSZ.out wz hw)).mono ?_
     rintro e w3 ⟨v3,rfl,hx3,hr3⟩
     exact ⟨v3,rfl,hx3,hr3⟩
    simp only [zp]
    refine Rr.wr_nil ?_
    intro wy hy hh
    have HU:=zH (show Rd (SB w.heap.size pR) wy (opE' mulB (numE (g1,g2)) (opE' quoB (nameE lowB) (nameE priceB))) u4 from hh _ zM)
    simp only [gg,gh,gi,gj,Nat.reduceAdd]
    clear hh
    obtain ⟨o0,z1,z2,o3,b4,l4,c4,rfl⟩:=HU.out.form
    have HRY:=zH ((hy.block _ (zL HR6.out)).trans HR6.out)
    obtain ⟨hcc,hff,lg⟩:=zC HRY.out
    have k0:=zk hcc 0
    have k1:=zk hcc 1
    have k2:=zk hcc 2
    have k3:=zk hcc 3
    have k4:=zk hcc 4
    have f0:=hff 0;have f1:=hff 1;have f2:=hff 2;have f3:=hff 3;have f4:=hff 4
    have HY:=zH hy
    clear hcc hff hy c2 lT
    go_wp2_with (fail)
    exact bodyPost_ret (v:=.agg #[.string o0,iV z1,iV z2,.string o3,.slice b4 l4 c4]) (results_cell_row Tryz.results30 _ _ pR 33 _ _ _ (by rfl) (put5_at HRY.out _ _ _ _ _) Tryz.underlying33 rfl (by kernel_rfl)) rfl ⟨_,_,pos3,rfl,.a _ HWE.out,(HM6.out.ext HY.out).put5 (by have:=HTR.out;have:=HM6.out.ge;omega) (by have:=HTR.out;omega) _ _ _ _ _,put5_kx (HK6.out.ext HY.out) (by have:=HTR.out;omega) _ _ _ _ _,put5_rd HU.out (fun b hb=>hb.2) (fun b hb=>hb.1)⟩
   ·go_upto_region 8 with (fail)
    refine Rr.rg [(0,.y),(1,.y),(2,.y),(3,.y),(7,.y),(4,.z),(5,.z),(6,.z),(8,.z)] ?_
    refine Rr.y3 (fun wz hw=>HN11.out _) ?_
    iterate 3
     refine Rr.y3 (fun wz hw=>mkname_any _ _) ?_
    refine Rr.y2 (h:=fun wz hw=>up_row (by rfl) ((hw.block _ (zL H56.out)).trans H56.out) Tryz.underlying33 (by kernel_rfl)) (k:=?_)
    refine Rr.zd (fun v w'=>Rd (SB w.heap.size pR) w' (opE' addB (nameE priceB) (nameE lowB)) v) (fun v w1 w2 h e=>h.ext e) (fun wz hw hh=>?_) (fun u4=>?_)
    ·have h3:=hw
     go_simp
     apply Rr.upR_enter
     refine (mkop_any (SB w.heap.size pR) _ _ _ _ _ _ (HNR.out wz priceB) (HNR.out wz lowB) (HSZ.out wz hw)).mono ?_
     rintro e w3 ⟨v3,rfl,hx3,hr3⟩
     exact ⟨v3,rfl,hx3,hr3⟩
    simp only [zp]
    refine Rr.zd (fun v w'=>Rd (SB w.heap.size pR) w' (opE' quoB (nameE priceB) (opE' addB (nameE priceB) (nameE lowB))) v) (fun v w1 w2 h e=>h.ext e) (fun wz hw hh=>?_) (fun u5=>?_)
    ·have h3:Rd _ wz (opE' addB (nameE priceB) (nameE lowB)) u4:=hh _ zM
     go_simp
     apply Rr.upR_enter
     refine (mkop_any (SB w.heap.size pR) _ _ _ _ _ _ (HNR.out wz priceB) (h3) (HSZ.out wz hw)).mono ?_
     rintro e w3 ⟨v3,rfl,hx3,hr3⟩
     exact ⟨v3,rfl,hx3,hr3⟩
    simp only [zp]
    refine Rr.zd (fun v w'=>Rd (SB w.heap.size pR) w' (opE' subB (numE (1,1)) (opE' quoB (nameE priceB) (opE' addB (nameE priceB) (nameE lowB)))) v) (fun v w1 w2 h e=>h.ext e) (fun wz hw hh=>?_) (fun u6=>?_)
    ·have h3:Rd _ wz (opE' quoB (nameE priceB) (opE' addB (nameE priceB) (nameE lowB))) u5:=hh _ zM
     go_simp
     apply Rr.upR_enter
     refine (mkop_any (SB w.heap.size pR) _ _ _ _ _ _ (Rd.leaf (n1:=1) (n2:=1) (I2.int (n:=1) (by omega) (by omega))) (h3) (HSZ.out wz hw)).mono ?_
     rintro e w3 ⟨v3,rfl,hx3,hr3⟩
     exact ⟨v3,rfl,hx3,hr3⟩
    simp only [zp]
    refine Rr.zd (fun v w'=>Rd (SB w.heap.size pR) w' (opE' quoB (opE' subB (numE (1,1)) (opE' quoB (nameE priceB) (opE' addB (nameE priceB) (nameE lowB)))) (numE (g1,g2))) v) (fun v w1 w2 h e=>h.ext e) (fun wz hw hh=>?_) (fun u7=>?_)
    ·have h3:Rd _ wz (opE' subB (numE (1,1)) (opE' quoB (nameE priceB) (opE' addB (nameE priceB) (nameE lowB)))) u6:=hh _ zM
     go_simp
     apply Rr.upR_enter
     refine (mkop_any (SB w.heap.size pR) _ _ _ _ _ _ (h3) (HWR.out wz) (HSZ.out wz hw)).mono ?_
     rintro e w3 ⟨v3,rfl,hx3,hr3⟩
     exact ⟨v3,rfl,hx3,hr3⟩
    simp only [zp]
    refine Rr.wr_nil ?_
    intro wy hy hh
    have HU:=zH (show Rd (SB w.heap.size pR) wy (opE' quoB (opE' subB (numE (1,1)) (opE' quoB (nameE priceB) (opE' addB (nameE priceB) (nameE lowB)))) (numE (g1,g2))) u7 from hh _ zM)
    simp only [gg,gh,gi,gj,Nat.reduceAdd]
    clear hh
    obtain ⟨o0,z1,z2,o3,b4,l4,c4,rfl⟩:=HU.out.form
    have HRY:=zH ((hy.block _ (zL HR6.out)).trans HR6.out)
    obtain ⟨hcc,hff,lg⟩:=zC HRY.out
    have k0:=zk hcc 0
    have k1:=zk hcc 1
    have k2:=zk hcc 2
    have k3:=zk hcc 3
    have k4:=zk hcc 4
    have f0:=hff 0;have f1:=hff 1;have f2:=hff 2;have f3:=hff 3;have f4:=hff 4
    have HY:=zH hy
    clear hcc hff hy c2 lT
    go_wp2_with (fail)
    exact bodyPost_ret (v:=.agg #[.string o0,iV z1,iV z2,.string o3,.slice b4 l4 c4]) (results_cell_row Tryz.results30 _ _ pR 33 _ _ _ (by rfl) (put5_at HRY.out _ _ _ _ _) Tryz.underlying33 rfl (by kernel_rfl)) rfl ⟨_,_,pos3,rfl,.b _ HWE.out,(HM6.out.ext HY.out).put5 (by have:=HTR.out;have:=HM6.out.ge;omega) (by have:=HTR.out;omega) _ _ _ _ _,put5_kx (HK6.out.ext HY.out) (by have:=HTR.out;omega) _ _ _ _ _,put5_rd HU.out (fun b hb=>hb.2) (fun b hb=>hb.1)⟩
   ·go_upto_region 10 with (fail)
    have hy:Ext w6 w6:=Ext.refl _
    obtain ⟨wy,hwy⟩:∃ wy,wy=w6:=⟨_,rfl⟩
    obtain ⟨hcd,-,ld⟩:=zC H56.out
    have d0:=zk hcd 0
    have d1:=zk hcd 1
    have d2:=zk hcd 2
    have d3:=zk hcd 3
    have d4:=zk hcd 4
    have HU:=zH (HWR.out w6)
    obtain ⟨hcc,hff,lg⟩:=zC HR6.out
    have k0:=zk hcc 0
    have k1:=zk hcc 1
    have k2:=zk hcc 2
    have k3:=zk hcc 3
    have k4:=zk hcc 4
    have f0:=hff 0;have f1:=hff 1;have f2:=hff 2;have f3:=hff 3;have f4:=hff 4
    clear hcc hff hcd c2 lT hy hwy
    go_wp2_with (fail)
    exact bodyPost_ret (v:=.agg #[.string numB,iV g1,iV g2,.string nilB,.slice none 0 0]) (results_cell_row Tryz.results30 _ _ pR 33 _ _ _ (by rfl) (put5_at HR6.out _ _ _ _ _) Tryz.underlying33 rfl (by kernel_rfl)) rfl ⟨_,_,pos3,rfl,.c _ HWE.out,HM6.out.put5 (by have:=HTR.out;have:=HM6.out.ge;omega) (by have:=HTR.out;omega) _ _ _ _ _,put5_kx HK6.out (by have:=HTR.out;omega) _ _ _ _ _,put5_rd HU.out (fun b hb=>hb.2) (fun b hb=>hb.1)⟩
  ·have hk33:(3:Int)≤(k3:Int):=by omega
   have lbn:True:=trivial
   obtain ⟨pc,rfl,-,hcs⟩:=HS6.out.block 0 (by omega)
   clear hcs
   have HKr:=zH (KX.of_ext (bn:=bn) (Ext.refl w6))
   clear lbn
   go_upto_region 11 with (fail)
   have lbn:bn < (w6).heap.size:=by have:=HTR.out;have:=HK6.out.size;have:=HKr.out.size;have:=zL HR6.out;omega
   letI G:Rs.Gw:=gwM W bn v ns (w6).heap.size
   have hG:Rs.Gw.R w6 w6:=⟨KX.of_ext (Ext.refl _),⟨Nat.le_refl _,lbn⟩,⟨_,HM6.out⟩,⟨_,HM6.out⟩⟩
   refine Rs.wp_region hG [(0,.y),(1,.y),(2,.y),(3,.y),(4,.y),(5,.y),(6,.z),(7,.y),(8,.y),(9,.y),(10,.y),(11,.m)] (fun _=>(.cells zero5 33,fun p=>.pointer (some ⟨p,0,none⟩))) (by kernel_rfl) (by kernel_rfl) ?_
   (refine Rs.yd ?_
    apply Exists.intro
    refine ⟨fun wz hw hh=>?_,?_⟩
    ·go_simp
     (with_reducible exact zU)
    simp only [zp])
   (refine Rs.yd ⟨.slice (some ⟨pc,0,none⟩) cs.length cc,fun wz hw hh=>?_,?_⟩
    ·have hbt:=(HKr.out.trans hw.1).at HT6.out (by have:=HTR.out;omega)
     have cz:wz.cell? ⟨pT,2,none⟩=some (.slice (some ⟨pc,0,none⟩) cs.length cc):=(cell_of_row wz pT 2 _ _ _ hbt).trans (by show some (slV r.cs)=_;rw [← HRC.out])
     have lz:=zL hbt
     go_simp
     exact zU
    simp only [zp])
   iterate 2
    (refine Rs.yd ?_
     apply Exists.intro
     refine ⟨fun wz hw hh=>?_,?_⟩
     ·go_simp
      (with_reducible exact zU)
     simp only [zp])
   (refine Rs.yd ⟨.slice (some ⟨pc,0,none⟩) cs.length cc,fun wz hw hh=>?_,?_⟩
    ·have hbt:=(HKr.out.trans hw.1).at HT6.out (by have:=HTR.out;omega)
     have cz:wz.cell? ⟨pT,2,none⟩=some (.slice (some ⟨pc,0,none⟩) cs.length cc):=(cell_of_row wz pT 2 _ _ _ hbt).trans (by show some (slV r.cs)=_;rw [← HRC.out])
     have lz:=zL hbt
     go_simp
     exact zU
    simp only [zp])
   (refine Rs.yd ?_
    apply Exists.intro
    refine ⟨fun wz hw hh=>?_,?_⟩
    ·go_simp
     (with_reducible exact zU)
    simp only [zp])
   (refine Rs.zd (fun v _=>∃ k:Nat,v=iV (k:Int)∧k < cs.length) (fun v w1 w2 h e=>h) (fun wz hw hh=>?_) (fun u6=>?_)
    ·go_simp
     apply Rs.upR_enter
     obtain ⟨p,hp⟩:=hw.2.2.2
     refine (nx_any hp cs.length ⟨by omega,by have:=HCL.out;omega⟩).mono ?_
     rintro e wq ⟨k,p',rfl,hk,hn,hg⟩
     exact ⟨_,rfl,⟨hg,⟨Nat.le_trans hw.2.1.1 hw.1.size,hw.2.1.2⟩,⟨p,hp⟩,⟨p',hn⟩⟩,k,rfl,by omega⟩
    simp only [zp])
   (refine Rs.yd ⟨.pointer (some ⟨pc,(iof u6).toNat * 5,none⟩),fun wz hw hh=>?_,?_⟩
    ·obtain ⟨k,hk,hkl⟩:=hh _ zM
     subst hk
     have hkl':(k:Int) < (cs.length:Int):=by omega
     go_simp
     exact zU
    simp only [zp])
   (refine Rs.yd ?_
    apply Exists.intro
    refine ⟨fun wz hw hh=>?_,?_⟩
    ·go_simp
     (with_reducible exact zU)
    simp only [zp])
   (refine Rs.yd ⟨.string ((cs[(iof u6).toNat]?.map Cr.name).getD nilB),fun wz hw hh=>?_,?_⟩
    ·obtain ⟨k,hk,hkl⟩:=hh _ zM
     subst hk
     obtain ⟨pc',hpc',-,hcz⟩:=(HS6.out.kx (HKr.out.trans hw.1) HNE.out).block 0 (by omega)
     injection hpc' with hpc'
     injection hpc' with hpc'
     subst hpc'
     have hz:wz.cell? ⟨pc,(iof (Value.int .i64 (k:Int))).toNat * 5,none⟩=some (.string ((cs[(iof (Value.int .i64 (k:Int))).toNat]?.map Cr.name).getD nilB)):=by
      show wz.cell? ⟨pc,k * 5,none⟩=some (.string ((cs[k]?.map Cr.name).getD nilB))
      have:=hcz k hkl 0 _ rfl
      rw [List.getElem?_eq_getElem hkl]
      exact this
     have lz:=zB wz _ hz
     go_simp
     exact zU
    simp only [zp])
   (refine Rs.yd ⟨lfA nameB (0,0) ((cs[(iof u6).toNat]?.map Cr.name).getD nilB),fun wz hw hh=>?_,?_⟩
    ·go_simp
     apply Rg.up_enter
     refine (mkname_any _ _).mono ?_
     rintro e w3 ⟨rfl,hb3⟩
     exact ⟨rfl,hb3⟩
    simp only [zp])
   (refine Rs.wr_m (by simp only [ga,gb,gc];rfl) (by rfl) (fun wz=>by go_simp) (fun p7 hpn=>?_)
    simp only [zp])
   refine Rs.wr_nil ?_
   intro wy hy hh
   obtain ⟨hge,-,hbl⟩:=hh _ zM
   obtain ⟨qp7,hq1,hq1l⟩:=hh _ (zN _ zM)
   subst hq1
   simp only [gg,gh,gi,gj,Nat.reduceAdd]
   clear hh
   obtain ⟨n7,hnn7⟩:∃ x,x=((cs[(iof (Value.int .i64 (qp7:Int))).toNat]?.map Cr.name).getD nilB):=⟨_,rfl⟩
   rw [← hnn7]
   have HN7:=zH (show ∃ c,c∈cs∧n7=c.name from ⟨cs[qp7],List.getElem_mem hq1l,by
    rw [hnn7]
    show (cs[qp7]?.map Cr.name).getD nilB=_
    rw [List.getElem?_eq_getElem hq1l]
    rfl⟩)
   obtain ⟨hcc,hff,lg⟩:=zC hbl
   have k0:=zk hcc 0
   have k1:=zk hcc 1
   have k2:=zk hcc 2
   have k3':wy.cell? ⟨p7,3,none⟩=some (.string nilB):=hcc 3
   have k4:=zk hcc 4
   have f0:=hff 0;have f1:=hff 1;have f2:=hff 2;have f3:=hff 3;have f4:=hff 4
   have hy1:KX bn w6 wy:=hy.1
   have hy2:∃ pos,MX W wy bn v ns pos:=hy.2.2.2
   have HYX:=zH hy1
   have HYM:=zH hy2
   have HBL:=zH hbl
   clear hcc hff hy hy1 hy2 hbl hnn7
   have HPB:=zH (put5_at HBL.out (.string nameB) (iV 0) (iV 0) (.string n7) (.slice none 0 0))
   have hge':(w6).heap.size≤p7:=hge
   have HK7:=zH (HKr.out.trans (put5_kx (b0:=.string nameB) (b1:=iV 0) (b2:=iV 0) (b3:=.string n7) (b4:=.slice none 0 0) HYX.out hge'))
   have HKS7:=zH (put5_kx (b0:=.string nameB) (b1:=iV 0) (b2:=iV 0) (b3:=.string n7) (b4:=.slice none 0 0) HYX.out hge')
   have HLT:=zH (show w6.heap.size≤p7 from by have:=HKr.out.size;omega)
   go_upto_region 12 with (fail)
   change Code.wp _ _ _ _ (put5 wy p7 (.string nameB) (iV 0) (iV 0) (.string n7) (.slice none 0 0))
   obtain ⟨pop7,hpo⟩:=HYM.out
   have HMA:=zH (hpo.put5 (q:=p7) (by have:=HLT.out;have:=HM6.out.low.size;omega) (by have:=HLT.out;have:=HTR.out;have:=zL HR6.out;omega) (.string nameB) (iV 0) (iV 0) (.string n7) (.slice none 0 0))
   have HL7:=HLT
   clear hpo HYM k0 k1 k2 k3' k4 f0 f1 f2 f3 f4 lg hge' hge hq1l
   generalize put5 wy p7 (.string nameB) (iV 0) (iV 0) (.string n7) (.slice none 0 0)=wa at *
   clear hG HLT HYX HBL lbn
   go_upto_region 12 with (fail)
   have lbn:bn < (wa).heap.size:=by have:=HTR.out;have:=HK6.out.size;have:=HK7.out.size;have:=zL HR6.out;omega
   letI G:Rs.Gw:=gwM W bn v ns (wa).heap.size
   have hG:Rs.Gw.R wa wa:=⟨KX.of_ext (Ext.refl _),⟨Nat.le_refl _,lbn⟩,⟨_,HMA.out⟩,⟨_,HMA.out⟩⟩
   refine Rs.wp_region hG [(0,.y),(1,.y),(2,.y),(3,.y),(4,.y),(5,.y),(6,.z),(7,.y),(8,.y),(9,.y),(10,.y),(11,.m)] (fun _=>(.cells zero5 33,fun p=>.pointer (some ⟨p,0,none⟩))) (by kernel_rfl) (by kernel_rfl) ?_
   (refine Rs.yd ?_
    apply Exists.intro
    refine ⟨fun wz hw hh=>?_,?_⟩
    ·go_simp
     (with_reducible exact zU)
    simp only [zp])
   (refine Rs.yd ⟨.slice (some ⟨pc,0,none⟩) cs.length cc,fun wz hw hh=>?_,?_⟩
    ·have hbt:=(HK7.out.trans hw.1).at HT6.out (by have:=HTR.out;omega)
     have cz:wz.cell? ⟨pT,2,none⟩=some (.slice (some ⟨pc,0,none⟩) cs.length cc):=(cell_of_row wz pT 2 _ _ _ hbt).trans (by show some (slV r.cs)=_;rw [← HRC.out])
     have lz:=zL hbt
     go_simp
     exact zU
    simp only [zp])
   iterate 2
    (refine Rs.yd ?_
     apply Exists.intro
     refine ⟨fun wz hw hh=>?_,?_⟩
     ·go_simp
      (with_reducible exact zU)
     simp only [zp])
   (refine Rs.yd ⟨.slice (some ⟨pc,0,none⟩) cs.length cc,fun wz hw hh=>?_,?_⟩
    ·have hbt:=(HK7.out.trans hw.1).at HT6.out (by have:=HTR.out;omega)
     have cz:wz.cell? ⟨pT,2,none⟩=some (.slice (some ⟨pc,0,none⟩) cs.length cc):=(cell_of_row wz pT 2 _ _ _ hbt).trans (by show some (slV r.cs)=_;rw [← HRC.out])
     have lz:=zL hbt
     go_simp
     exact zU
    simp only [zp])
   (refine Rs.yd ?_
    apply Exists.intro
    refine ⟨fun wz hw hh=>?_,?_⟩
    ·go_simp
     (with_reducible exact zU)
    simp only [zp])
   (refine Rs.zd (fun v _=>∃ k:Nat,v=iV (k:Int)∧k < cs.length) (fun v w1 w2 h e=>h) (fun wz hw hh=>?_) (fun u6=>?_)
    ·go_simp
     apply Rs.upR_enter
     obtain ⟨p,hp⟩:=hw.2.2.2
     refine (nx_any hp cs.length ⟨by omega,by have:=HCL.out;omega⟩).mono ?_
     rintro e wq ⟨k,p',rfl,hk,hn,hg⟩
     exact ⟨_,rfl,⟨hg,⟨Nat.le_trans hw.2.1.1 hw.1.size,hw.2.1.2⟩,⟨p,hp⟩,⟨p',hn⟩⟩,k,rfl,by omega⟩
    simp only [zp])
   (refine Rs.yd ⟨.pointer (some ⟨pc,(iof u6).toNat * 5,none⟩),fun wz hw hh=>?_,?_⟩
    ·obtain ⟨k,hk,hkl⟩:=hh _ zM
     subst hk
     have hkl':(k:Int) < (cs.length:Int):=by omega
     go_simp
     exact zU
    simp only [zp])
   (refine Rs.yd ?_
    apply Exists.intro
    refine ⟨fun wz hw hh=>?_,?_⟩
    ·go_simp
     (with_reducible exact zU)
    simp only [zp])
   (refine Rs.yd ⟨.string ((cs[(iof u6).toNat]?.map Cr.name).getD nilB),fun wz hw hh=>?_,?_⟩
    ·obtain ⟨k,hk,hkl⟩:=hh _ zM
     subst hk
     obtain ⟨pc',hpc',-,hcz⟩:=(HS6.out.kx (HK7.out.trans hw.1) HNE.out).block 0 (by omega)
     injection hpc' with hpc'
     injection hpc' with hpc'
     subst hpc'
     have hz:wz.cell? ⟨pc,(iof (Value.int .i64 (k:Int))).toNat * 5,none⟩=some (.string ((cs[(iof (Value.int .i64 (k:Int))).toNat]?.map Cr.name).getD nilB)):=by
      show wz.cell? ⟨pc,k * 5,none⟩=some (.string ((cs[k]?.map Cr.name).getD nilB))
      have:=hcz k hkl 0 _ rfl
      rw [List.getElem?_eq_getElem hkl]
      exact this
     have lz:=zB wz _ hz
     go_simp
     exact zU
    simp only [zp])
   (refine Rs.yd ⟨lfA nameB (0,0) ((cs[(iof u6).toNat]?.map Cr.name).getD nilB),fun wz hw hh=>?_,?_⟩
    ·go_simp
     apply Rg.up_enter
     refine (mkname_any _ _).mono ?_
     rintro e w3 ⟨rfl,hb3⟩
     exact ⟨rfl,hb3⟩
    simp only [zp])
   (refine Rs.wr_m (by simp only [ga,gb,gc];rfl) (by rfl) (fun wz=>by go_simp) (fun p8 hpn=>?_)
    simp only [zp])
   refine Rs.wr_nil ?_
   intro wy hy hh
   obtain ⟨hge,-,hbl⟩:=hh _ zM
   obtain ⟨qp8,hq1,hq1l⟩:=hh _ (zN _ zM)
   subst hq1
   simp only [gg,gh,gi,gj,Nat.reduceAdd]
   clear hh
   obtain ⟨n8,hnn8⟩:∃ x,x=((cs[(iof (Value.int .i64 (qp8:Int))).toNat]?.map Cr.name).getD nilB):=⟨_,rfl⟩
   rw [← hnn8]
   have HN8:=zH (show ∃ c,c∈cs∧n8=c.name from ⟨cs[qp8],List.getElem_mem hq1l,by
    rw [hnn8]
    show (cs[qp8]?.map Cr.name).getD nilB=_
    rw [List.getElem?_eq_getElem hq1l]
    rfl⟩)
   obtain ⟨hcc,hff,lg⟩:=zC hbl
   have k0:=zk hcc 0
   have k1:=zk hcc 1
   have k2:=zk hcc 2
   have k3':wy.cell? ⟨p8,3,none⟩=some (.string nilB):=hcc 3
   have k4:=zk hcc 4
   have f0:=hff 0;have f1:=hff 1;have f2:=hff 2;have f3:=hff 3;have f4:=hff 4
   have hy1:KX bn wa wy:=hy.1
   have hy2:∃ pos,MX W wy bn v ns pos:=hy.2.2.2
   have HYY:=zH hy1
   have HYM:=zH hy2
   have HBM:=zH hbl
   clear hcc hff hy hy1 hy2 hbl hnn8
   have HPC:=zH (put5_at HBM.out (.string nameB) (iV 0) (iV 0) (.string n8) (.slice none 0 0))
   have hge':(wa).heap.size≤p8:=hge
   have HK8:=zH (HK7.out.trans (put5_kx (b0:=.string nameB) (b1:=iV 0) (b2:=iV 0) (b3:=.string n8) (b4:=.slice none 0 0) HYY.out hge'))
   have HKS8:=zH (put5_kx (b0:=.string nameB) (b1:=iV 0) (b2:=iV 0) (b3:=.string n8) (b4:=.slice none 0 0) HYY.out hge')
   have HLT:=zH (show w6.heap.size≤p8 from by have:=HK7.out.size;omega)
   go_upto_region 13 with (fail)
   change Code.wp _ _ _ _ (put5 wy p8 (.string nameB) (iV 0) (iV 0) (.string n8) (.slice none 0 0))
   obtain ⟨pop8,hpo⟩:=HYM.out
   have HMB:=zH (hpo.put5 (q:=p8) (by have:=HLT.out;have:=HM6.out.low.size;omega) (by have:=HLT.out;have:=HTR.out;have:=zL HR6.out;omega) (.string nameB) (iV 0) (iV 0) (.string n8) (.slice none 0 0))
   have HL8:=HLT
   clear hpo HYM k0 k1 k2 k3' k4 f0 f1 f2 f3 f4 lg hge' hge hq1l
   generalize put5 wy p8 (.string nameB) (iV 0) (iV 0) (.string n8) (.slice none 0 0)=wb at *
   clear hG HLT HYY HBM lbn
   have H7N:=zH (show p7≠bn by have:=HL7.out;have:=HTR.out;have:=zL HR6.out;omega)
   have HPD:=zH (HKS8.out.at HPB.out (by have:=HL7.out;have:=HTR.out;have:=zL HR6.out;omega))
   have HRB:=zH (HK8.out.at HR6.out (by have:=HTR.out;omega))
   have H5B:=zH (HK8.out.at H56.out (by have:=H5L.out;have:=HTR.out;omega))
   have HKB:=zH (HK6.out.trans HK8.out)
   have HSB:=zH (show ∀ wz,Ext wb wz→∀ b,wz.heap.size≤b→SB w.heap.size pR b from fun wz hx b hb=>by
    have e1:=HKB.out.size;have e2:=hx.size;have e3:=zL HRB.out
    exact ⟨by omega,by omega⟩)
   obtain ⟨c7,hc7,rfl⟩:=HN7.out
   obtain ⟨c8,hc8,rfl⟩:=HN8.out
   clear HKS7 HKS8 HPB HK7 HMA HK8 HKr HM6 HK6 HN7 HN8 HSZ HR6 H56 HT6 HS6 c2 lT
   obtain rfl|rfl|rfl|rfl|rfl:k3=3∨k3=4∨k3=5∨k3=6∨k3=7:=by omega
   ·go_upto_region 16 with (fail)
    obtain ⟨hcd,-,l5⟩:=zC H5B.out
    have d0:=zk hcd 0
    have d1:=zk hcd 1
    have d2:=zk hcd 2
    have d3:=zk hcd 3
    have d4:=zk hcd 4
    clear hcd
    obtain ⟨hcd,-,l7⟩:=zC HPD.out
    have e0:=zk hcd 0
    have e1:=zk hcd 1
    have e2:=zk hcd 2
    have e3:=zk hcd 3
    have e4:=zk hcd 4
    clear hcd
    go_wp2_with
     (go_at_call 31
      refine (mkop_any (SB w.heap.size pR) _ _ _ _ _ _ (HWR.out wb) (HNR.out wb c7.name) (HSB.out wb (Ext.refl _))).mono ?_
      rintro e wy ⟨v9,rfl,hy,hr9⟩
      have HU:=zH hr9
      clear hr9
      obtain ⟨o0,z1,z2,o3,b4,l4,c4,rfl⟩:=HU.out.form
      have HRY:=zH ((hy.block _ (zL HRB.out)).trans HRB.out)
      obtain ⟨hcc,hff,lg⟩:=zC HRY.out
      have k0:=zk hcc 0
      have k1:=zk hcc 1
      have k2:=zk hcc 2
      have k3':wy.cell? ⟨pR,3,none⟩=some (.string nilB):=hcc 3
      have k4:=zk hcc 4
      have f0:=hff 0;have f1:=hff 1;have f2:=hff 2;have f3:=hff 3;have f4:=hff 4
      have HY:=zH hy
      clear hcc hff hy
      skip)
    exact bodyPost_ret (v:=.agg #[.string o0,iV z1,iV z2,.string o3,.slice b4 l4 c4]) (results_cell_row Tryz.results30 _ _ pR 33 _ _ _ (by rfl) (put5_at HRY.out _ _ _ _ _) Tryz.underlying33 rfl (by kernel_rfl)) rfl ⟨_,_,pop8,rfl,.d _ c7 HWE.out hc7,(HMB.out.ext HY.out).put5 (by have:=HTR.out;have:=HMB.out.ge;omega) (by have:=HTR.out;omega) _ _ _ _ _,put5_kx (HKB.out.ext HY.out) (by have:=HTR.out;omega) _ _ _ _ _,put5_rd HU.out (fun b hb=>hb.2) (fun b hb=>hb.1)⟩
   ·go_upto_region 16 with (fail)
    obtain ⟨hcd,-,l5⟩:=zC H5B.out
    have d0:=zk hcd 0
    have d1:=zk hcd 1
    have d2:=zk hcd 2
    have d3:=zk hcd 3
    have d4:=zk hcd 4
    clear hcd
    obtain ⟨hcd,-,l7⟩:=zC HPD.out
    have e0:=zk hcd 0
    have e1:=zk hcd 1
    have e2:=zk hcd 2
    have e3:=zk hcd 3
    have e4:=zk hcd 4
    clear hcd
    go_wp2_with
     (go_at_call 31
      refine (mkop_any (SB w.heap.size pR) _ _ _ _ _ _ (HWR.out wb) (HNR.out wb c7.name) (HSB.out wb (Ext.refl _))).mono ?_
      rintro e wy ⟨v9,rfl,hy,hr9⟩
      have HU:=zH hr9
      clear hr9
      obtain ⟨o0,z1,z2,o3,b4,l4,c4,rfl⟩:=HU.out.form
      have HRY:=zH ((hy.block _ (zL HRB.out)).trans HRB.out)
      obtain ⟨hcc,hff,lg⟩:=zC HRY.out
      have k0:=zk hcc 0
      have k1:=zk hcc 1
      have k2:=zk hcc 2
      have k3':wy.cell? ⟨pR,3,none⟩=some (.string nilB):=hcc 3
      have k4:=zk hcc 4
      have f0:=hff 0;have f1:=hff 1;have f2:=hff 2;have f3:=hff 3;have f4:=hff 4
      have HY:=zH hy
      clear hcc hff hy
      skip)
    exact bodyPost_ret (v:=.agg #[.string o0,iV z1,iV z2,.string o3,.slice b4 l4 c4]) (results_cell_row Tryz.results30 _ _ pR 33 _ _ _ (by rfl) (put5_at HRY.out _ _ _ _ _) Tryz.underlying33 rfl (by kernel_rfl)) rfl ⟨_,_,pop8,rfl,.d _ c7 HWE.out hc7,(HMB.out.ext HY.out).put5 (by have:=HTR.out;have:=HMB.out.ge;omega) (by have:=HTR.out;omega) _ _ _ _ _,put5_kx (HKB.out.ext HY.out) (by have:=HTR.out;omega) _ _ _ _ _,put5_rd HU.out (fun b hb=>hb.2) (fun b hb=>hb.1)⟩
   ·go_upto_region 18 with (fail)
    have hbw:=zL HM0.out.at_
    have lbn:bn < wb.heap.size:=by have:=HTR.out;have:=zL HRB.out;omega
    letI G:Rs.Gw:=gwM W bn v ns wb.heap.size
    have hG:Rs.Gw.R wb wb:=⟨KX.of_ext (Ext.refl _),⟨Nat.le_refl _,lbn⟩,⟨_,HMB.out⟩,⟨_,HMB.out⟩⟩
    have h7n:p7≠bn:=H7N.out
    have h5n:p5≠bn:=by have:=H5L.out;omega
    refine Rs.wp_region hG [(1,.y),(5,.y),(6,.y),(2,.z),(0,.m),(3,.y),(4,.y),(7,.z)] (fun _=>(.cells #[.string ⟨#[109,105,110]⟩,.string ⟨#[109,97,120]⟩] 9,fun p=>.slice (some ⟨p,0,none⟩) 2 2)) (by kernel_rfl) (by kernel_rfl) ?_
    (refine Rs.yd ?_
     apply Exists.intro
     refine ⟨fun wz hw hh=>?_,?_⟩
     ·go_simp
      (with_reducible exact zU)
     simp only [zp])
    (refine Rs.yd ⟨lfA nameB (0,0) c7.name,fun wz hw hh=>?_,?_⟩
     ·exact up_row (by rfl) (hw.1.at HPD.out h7n) Tryz.underlying33 (by kernel_rfl)
     simp only [zp])
    (refine Rs.yd ⟨lfA numB (g1,g2) nilB,fun wz hw hh=>?_,?_⟩
     ·exact up_row (by rfl) (hw.1.at H5B.out h5n) Tryz.underlying33 (by kernel_rfl)
     simp only [zp])
    (refine Rs.zd (fun v _=>∃ k:Nat,v=iV (k:Int)∧k < 2) (fun v w1 w2 h e=>h) (fun wz hw hh=>?_) (fun u2=>?_)
     ·go_simp
      apply Rs.upR_enter
      obtain ⟨p,hp⟩:=hw.2.2.2
      refine (nx_any hp 2 (by decide)).mono ?_
      rintro e wq ⟨k,p',rfl,hk,hn,hg⟩
      exact ⟨_,rfl,⟨hg,⟨Nat.le_trans hw.2.1.1 hw.1.size,hw.2.1.2⟩,⟨p,hp⟩,⟨p',hn⟩⟩,k,rfl,by omega⟩
     simp only [zp])
    (refine Rs.wr_m (by simp only [ga,gb,gc];rfl) (by rfl) (fun wz=>by go_simp) (fun pS hpn=>?_)
     simp only [zp])
    (refine Rs.yd ⟨.pointer (some ⟨pS,(iof u2).toNat,none⟩),fun wz hw hh=>?_,?_⟩
     ·obtain ⟨k,hk,hkl⟩:=hh _ (zN _ zM)
      subst hk
      have hkl':(k:Int) < 2:=by omega
      go_simp
      exact zU
     simp only [zp])
    (refine Rs.yd ⟨.string (opNm (4+(iof u2).toNat)),fun wz hw hh=>?_,?_⟩
     ·obtain ⟨k,hk,hkl⟩:=hh _ (zN _ zM)
      obtain ⟨-,-,hbl⟩:=hh _ zM
      subst hk
      have hz:wz.cell? ⟨pS,(iof (Value.int .i64 (k:Int))).toNat,none⟩=some (.string (opNm (4+(iof (Value.int .i64 (k:Int))).toNat))):=by
       show wz.cell? ⟨pS,k,none⟩=some (.string (opNm (4+k)))
       refine (cell_of_row wz pS k _ _ _ hbl).trans ?_
       obtain rfl|rfl:k=0∨k=1:=by omega
       ·rfl
       ·rfl
      have lz:=zB wz _ hz
      go_simp
      exact zU
     simp only [zp])
    (refine Rs.zd (fun v w'=>Rd (SB w.heap.size pR) w' (opE' (opNm (4+(iof u2).toNat)) (nameE c7.name) (numE (g1,g2))) v) (fun v w1 w2 h e=>Rd.kx h e.1 (fun b hb=>by have:=hb.1;omega)) (fun wz hw hh=>?_) (fun u7=>?_)
     ·go_simp
      apply Rs.upR_enter
      refine (mkop_any (SB w.heap.size pR) _ _ _ _ _ _ (HNR.out wz c7.name) (HWR.out wz) (fun b hb=>by
       have e1:=HKB.out.size;have e2:=hw.1.size;have e3:=zL HRB.out
       exact ⟨by omega,by omega⟩)).mono ?_
      rintro e w3 ⟨v3,rfl,hx3,hr3⟩
      exact ⟨v3,rfl,⟨KX.of_ext hx3,⟨Nat.le_trans hw.2.1.1 hw.1.size,hw.2.1.2⟩,hw.2.2.2,hw.2.2.2.imp fun _ hp=>hp.ext hx3⟩,hr3⟩
     simp only [zp])
    refine Rs.wr_nil ?_
    intro wy hy hh
    obtain ⟨k,hk,hkl⟩:=hh _ (zN _ (zN _ zM))
    have hu:Rd (SB w.heap.size pR) wy (opE' (opNm (4+(iof u2).toNat)) (nameE c7.name) (numE (g1,g2))) u7:=hh _ zM
    subst hk
    have HU:=zH (show Rd (SB w.heap.size pR) wy (opE' (opNm (4+k)) (nameE c7.name) (numE (g1,g2))) u7 from hu)
    have hy1:KX bn wb wy:=hy.1
    have hy2:∃ pos,MX W wy bn v ns pos:=hy.2.2.2
    simp only [gg,gh,gi,gj,Nat.reduceAdd]
    clear hh hu hy
    obtain ⟨o0,z1,z2,o3,b4,l4,c4,rfl⟩:=HU.out.form
    have HRY:=zH (hy1.at HRB.out (by have:=HTR.out;omega))
    obtain ⟨hcc,hff,lg⟩:=zC HRY.out
    have k0:=zk hcc 0
    have k1:=zk hcc 1
    have k2:=zk hcc 2
    have k3':wy.cell? ⟨pR,3,none⟩=some (.string nilB):=hcc 3
    have k4:=zk hcc 4
    have f0:=hff 0;have f1:=hff 1;have f2:=hff 2;have f3:=hff 3;have f4:=hff 4
    have HY1:=zH hy1
    have HY2:=zH hy2
    clear hcc hff hy1 hy2
    go_wp2_with (fail)
    obtain ⟨pz,hpz⟩:=HY2.out
    exact bodyPost_ret (v:=.agg #[.string o0,iV z1,iV z2,.string o3,.slice b4 l4 c4]) (results_cell_row Tryz.results30 _ _ pR 33 _ _ _ (by rfl) (put5_at HRY.out _ _ _ _ _) Tryz.underlying33 rfl (by kernel_rfl)) rfl ⟨_,_,pz,rfl,.e _ c7 (4+k) HWE.out hc7 (by omega),hpz.put5 (by have:=HTR.out;have:=HMB.out.ge;omega) (by have:=HTR.out;omega) _ _ _ _ _,put5_kx (HKB.out.trans HY1.out) (by have:=HTR.out;omega) _ _ _ _ _,put5_rd HU.out (fun b hb=>hb.2) (fun b hb=>hb.1)⟩
   ·go_upto_region 20 with (fail)
    obtain ⟨hcd,-,l5⟩:=zC HPC.out
    have d0:=zk hcd 0
    have d1:=zk hcd 1
    have d2:=zk hcd 2
    have d3:=zk hcd 3
    have d4:=zk hcd 4
    clear hcd
    obtain ⟨hcd,-,l7⟩:=zC HPD.out
    have e0:=zk hcd 0
    have e1:=zk hcd 1
    have e2:=zk hcd 2
    have e3:=zk hcd 3
    have e4:=zk hcd 4
    clear hcd
    go_wp2_with
     (go_at_call 31
      refine (mkop_any (SB w.heap.size pR) _ _ _ _ _ _ (HNR.out wb c7.name) (HNR.out wb c8.name) (HSB.out wb (Ext.refl _))).mono ?_
      rintro e wy ⟨v9,rfl,hy,hr9⟩
      have HU:=zH hr9
      clear hr9
      obtain ⟨o0,z1,z2,o3,b4,l4,c4,rfl⟩:=HU.out.form
      have HRY:=zH ((hy.block _ (zL HRB.out)).trans HRB.out)
      obtain ⟨hcc,hff,lg⟩:=zC HRY.out
      have k0:=zk hcc 0
      have k1:=zk hcc 1
      have k2:=zk hcc 2
      have k3':wy.cell? ⟨pR,3,none⟩=some (.string nilB):=hcc 3
      have k4:=zk hcc 4
      have f0:=hff 0;have f1:=hff 1;have f2:=hff 2;have f3:=hff 3;have f4:=hff 4
      have HY:=zH hy
      clear hcc hff hy
      skip)
    exact bodyPost_ret (v:=.agg #[.string o0,iV z1,iV z2,.string o3,.slice b4 l4 c4]) (results_cell_row Tryz.results30 _ _ pR 33 _ _ _ (by rfl) (put5_at HRY.out _ _ _ _ _) Tryz.underlying33 rfl (by kernel_rfl)) rfl ⟨_,_,pop8,rfl,.f c7 c8 hc7 hc8,(HMB.out.ext HY.out).put5 (by have:=HTR.out;have:=HMB.out.ge;omega) (by have:=HTR.out;omega) _ _ _ _ _,put5_kx (HKB.out.ext HY.out) (by have:=HTR.out;omega) _ _ _ _ _,put5_rd HU.out (fun b hb=>hb.2) (fun b hb=>hb.1)⟩
   ·go_upto_region 21 with (fail)
    refine Rr.rg [(0,.y),(1,.y),(2,.y),(3,.z),(4,.z)] ?_
    refine Rr.y2 (h:=fun wz hw=>up_row (by rfl) ((hw.block _ (zL HPD.out)).trans HPD.out) Tryz.underlying33 (by kernel_rfl)) (k:=?_)
    refine Rr.y2 (h:=fun wz hw=>up_row (by rfl) ((hw.block _ (zL H5B.out)).trans H5B.out) Tryz.underlying33 (by kernel_rfl)) (k:=?_)
    refine Rr.y2 (h:=fun wz hw=>up_row (by rfl) ((hw.block _ (zL HPC.out)).trans HPC.out) Tryz.underlying33 (by kernel_rfl)) (k:=?_)
    refine Rr.zd (fun v w'=>Rd (SB w.heap.size pR) w' (opE' addB (numE (g1,g2)) (nameE c8.name)) v) (fun v w1 w2 h e=>h.ext e) (fun wz hw hh=>?_) (fun u3=>?_)
    ·have h3:=hw
     go_simp
     apply Rr.upR_enter
     refine (mkop_any (SB w.heap.size pR) _ _ _ _ _ _ (HWR.out wz) (HNR.out wz c8.name) (HSB.out wz hw)).mono ?_
     rintro e w3 ⟨v3,rfl,hx3,hr3⟩
     exact ⟨v3,rfl,hx3,hr3⟩
    simp only [zp]
    refine Rr.zd (fun v w'=>Rd (SB w.heap.size pR) w' (opE' quoB (nameE c7.name) (opE' addB (numE (g1,g2)) (nameE c8.name))) v) (fun v w1 w2 h e=>h.ext e) (fun wz hw hh=>?_) (fun u4=>?_)
    ·have h3:Rd _ wz (opE' addB (numE (g1,g2)) (nameE c8.name)) u3:=hh _ zM
     go_simp
     apply Rr.upR_enter
     refine (mkop_any (SB w.heap.size pR) _ _ _ _ _ _ (HNR.out wz c7.name) (h3) (HSB.out wz hw)).mono ?_
     rintro e w3 ⟨v3,rfl,hx3,hr3⟩
     exact ⟨v3,rfl,hx3,hr3⟩
    simp only [zp]
    refine Rr.wr_nil ?_
    intro wy hy hh
    have HU:=zH (show Rd (SB w.heap.size pR) wy (opE' quoB (nameE c7.name) (opE' addB (numE (g1,g2)) (nameE c8.name))) u4 from hh _ zM)
    simp only [gg,gh,gi,gj,Nat.reduceAdd]
    clear hh
    obtain ⟨o0,z1,z2,o3,b4,l4,c4,rfl⟩:=HU.out.form
    have HRY:=zH ((hy.block _ (zL HRB.out)).trans HRB.out)
    obtain ⟨hcc,hff,lg⟩:=zC HRY.out
    have k0:=zk hcc 0
    have k1:=zk hcc 1
    have k2:=zk hcc 2
    have k3':wy.cell? ⟨pR,3,none⟩=some (.string nilB):=hcc 3
    have k4:=zk hcc 4
    have f0:=hff 0;have f1:=hff 1;have f2:=hff 2;have f3:=hff 3;have f4:=hff 4
    have HY:=zH hy
    clear hcc hff hy
    go_wp2_with (fail)
    exact bodyPost_ret (v:=.agg #[.string o0,iV z1,iV z2,.string o3,.slice b4 l4 c4]) (results_cell_row Tryz.results30 _ _ pR 33 _ _ _ (by rfl) (put5_at HRY.out _ _ _ _ _) Tryz.underlying33 rfl (by kernel_rfl)) rfl ⟨_,_,pop8,rfl,.g _ c7 c8 HWE.out hc7 hc8,(HMB.out.ext HY.out).put5 (by have:=HTR.out;have:=HMB.out.ge;omega) (by have:=HTR.out;omega) _ _ _ _ _,put5_kx (HKB.out.ext HY.out) (by have:=HTR.out;omega) _ _ _ _ _,put5_rd HU.out (fun b hb=>hb.2) (fun b hb=>hb.1)⟩
end Go.Proofs.YteomcpplajeidaaGreat
