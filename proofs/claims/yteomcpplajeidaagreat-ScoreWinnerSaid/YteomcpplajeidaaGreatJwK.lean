/-
  Lemmas of this claim (JwK). Nothing is asked.
-/
import Derived.Test.YteomcpplajeidaaGreatJwJ
import Derived.Test.YteomcpplajeidaaGreatJwI
import Derived.Test.YteomcpplajeidaaGreatBase
set_option linter.unusedVariables false
set_option linter.unusedSimpArgs false
set_option maxRecDepth 100000
set_option maxHeartbeats 40000000
namespace Go.Proofs.YteomcpplajeidaaGreat
open Go.RowKit
def KX (bn:Nat) (w w':World):Prop:=w.grownBy w' (some bn)
theorem KX.of_ext {bn:Nat} {w w':World} (h:Ext w w'):KX bn w w':=⟨h.os,h.tape,h.output,h.size,fun k hk _=>h.block k hk⟩
theorem KX.trans {bn:Nat} {w w' w'':World} (h:KX bn w w') (k:KX bn w' w''):KX bn w w'':=
 ⟨k.os.trans h.os,k.tape.trans h.tape,k.output.trans h.output,Nat.le_trans h.size k.size,fun i hi hn=>(k.block i (Nat.lt_of_lt_of_le hi h.size) hn).trans (h.block i hi hn)⟩
theorem KX.ext {bn:Nat} {w w' w'':World} (h:KX bn w w') (k:Ext w' w''):KX bn w w'':=h.trans (KX.of_ext k)
theorem heap_put {w:World} {g o:Nat} {cs:Array Value} {t:TypeId} (v:Value) (hg:w.heap[g]? = some (.cells cs t)):(w.setCell ⟨g,o,none⟩ v).heap[g]? = some (.cells (cs.setIfInBounds o v) t):=by
 have hlt:=(Array.getElem?_eq_some_iff.1 hg).1
 simp [World.setCell,Array.getElem?_modify,hg]
theorem KX.set {bn j:Nat} {w w':World} (h:KX bn w w') (v:Value):KX bn w (w'.setCell ⟨bn,j,none⟩ v):=
 ⟨h.os,h.tape,h.output,by rw [World.size_setCell];exact h.size,fun k hk hne=>(RowKit.Below.heap_setCell _ _ _ _ (fun e=>hne (by rw [e]))).trans (h.block k hk hne)⟩
theorem SR.kx {α:Type} {cs:α→List Value} {sz p:Nat} {w w':World} {v:Value} {xs:List α} (h:SR cs sz w v xs) (k:KX p w w') (hne:∀ b n c,v=.slice (some ⟨b,0,none⟩) n c→b≠p):SR cs sz w' v xs:=by
 obtain ⟨base,cap,rfl,h2,h3⟩:=h
 refine ⟨base,cap,rfl,h2,h3.imp id fun ⟨b,hb,hc⟩=>⟨b,hb,fun i hi j u hu=>?_⟩⟩
 have h4:=hc i hi j u hu
 have h5:=zB w _ h4
 have h6:=k.block b h5 (fun e=>hne b _ _ (by rw [hb]) (by injection e with e))
 rw [← h4]
 unfold World.cell?
 rw [h6]
structure PX (T:TypeId) (w:World) (p:Nat) (tv:Value) (l:List (ByteArray×Int)) (k:Nat) (rest:List Value):Prop where
 at_:w.heap[p]? = some (.cells (tv :: iV k :: iV 0 :: iV 0 :: rest).toArray T)
 tok:SR tokC 2 w tv l
 ne:∀ b n c,tv=.slice (some ⟨b,0,none⟩) n c→b≠p
section
variable {T:TypeId} {w w':World} {p k:Nat} {tv:Value} {l:List (ByteArray×Int)} {rest:List Value}
theorem PX.ext (h:PX T w p tv l k rest) (x:Ext w w'):PX T w' p tv l k rest:=⟨(x.block _ (zL h.at_)).trans h.at_,h.tok.ext x,h.ne⟩
theorem PX.c (h:PX T w p tv l k rest):w.cell? ⟨p,0,none⟩=some tv∧w.cell? ⟨p,1,none⟩=some (iV k)∧w.cell? ⟨p,2,none⟩=some (iV 0)∧w.cell? ⟨p,3,none⟩=some (iV 0):=
 ⟨cell_of_row w p 0 _ _ _ h.at_,cell_of_row w p 1 _ _ _ h.at_,cell_of_row w p 2 _ _ _ h.at_,cell_of_row w p 3 _ _ _ h.at_⟩
theorem PX.step (h:PX T w p tv l k rest) (j:Nat):PX T (w.setCell ⟨p,1,none⟩ (iV j)) p tv l j rest:=
 ⟨(heap_put _ h.at_).trans (by simp),h.tok.kx ((KX.of_ext (Ext.refl _)).set _) h.ne,h.ne⟩
end
theorem put_frozen {W:World} {b o T:Nat} {cs:Array Value} (h:W.heap[b]? = some (.cells cs T)):W.frozen? ⟨b,o,none⟩=false:=by simp [World.frozen?,h]
theorem number_any (T:TypeId) (p:Nat) (tv:Value) (l:List (ByteArray×Int)) (k:Nat) (rest:List Value) (least:Int) (w:World) (h:PX T w p tv l k rest) (hk:k < l.length) (s:ByteArray) (hs:l[k].1=s) (hsz:s.size≤1000000) (hd:numS s=true) (h1:least≤valU s s.size) (h2:valU s s.size≤1000000000) (hkb:k≤1000000) :
 Calls Tryz.prog 181 #[.pointer (some ⟨p,0,none⟩),iV least] w fun e w'=>e=.returned (iV (valU s s.size))∧PX T w' p tv l (k+1) rest∧KX p w w':=by
 obtain ⟨c0,c1,c2,c3⟩:=h.c
 have ht:=text_any p tv l k w c0 c1 h.tok hk
 rw [hs] at ht
 have HT:=zH ht
 have HN:=zH (fun wz=>isNumber_any s hsz wz)
 have hall:allU digB s s.size=true:=by
  unfold numS at hd
  rw [Bool.and_eq_true] at hd
  exact hd.1
 rw [hd] at HN
 have HV:=zH (fun wz=>digits_any s hsz hall wz)
 have hvb:=valU_bd s.size hall
 have hpl:=zL h.at_
 have HP:=zH h
 generalize valU s s.size=v at *
 have hb1:¬ (1000000000:Int) < v:=by omega
 have hb2:¬ v < least:=by omega
 have hw:=wz ((k:Int)+1) (by omega)
 clear h ht hd hall hs c0 c1 c2 c3 h1 h2
 go_in
 go_upto_region 2 with (go_at_call 140;(refine HT.out.mono ?_);rintro e w1 ⟨rfl,hx1⟩)
 have HP1:=zH (HP.out.ext hx1)
 have HX1:=zH hx1
 obtain ⟨c0,c1,c2,c3⟩:=HP1.out.c
 have f1:w1.frozen? ⟨p,1,none⟩=false:=put_frozen HP1.out.at_
 have hpl1:=zL HP1.out.at_
 clear hx1 hpl
 go_wp2_with (first
  |(go_at_call 203;(with_reducible refine (HN.out _).mono ?_);rintro e w2 ⟨rfl,rfl⟩)
  |(go_at_call 204;(with_reducible refine (HV.out _).mono ?_);rintro e w2 ⟨rfl,rfl⟩))
 go_ret
 exact ⟨rfl,HP1.out.step (k+1),(KX.of_ext HX1.out).set _⟩
structure MX (W w:World) (bn:Nat) (v:Value) (ns:List Int) (pos:Nat):Prop where
 low:Ext W w
 at_:w.heap[bn]? = some (.cells #[v,iV pos] 85)
 ge:W.heap.size≤bn
 ird:IRd W v ns
 le:pos≤ns.length
theorem MX.ext {W w w':World} {bn:Nat} {v:Value} {ns:List Int} {pos:Nat} (h:MX W w bn v ns pos) (x:Ext w w'):MX W w' bn v ns pos:=
 ⟨h.low.trans x,(x.block _ (zL h.at_)).trans h.at_,h.ge,h.ird,h.le⟩
theorem nx_any {W w:World} {bn:Nat} {v:Value} {ns:List Int} {pos:Nat} (h:MX W w bn v ns pos) (n:Int) (hn:1≤n∧n≤1000000) :
 Calls Tryz.prog 29 #[.pointer (some ⟨bn,0,none⟩),iV n] w fun e w'=>∃ k pos':Nat,e=.returned (iV (k:Int))∧(k:Int) < n∧MX W w' bn v ns pos'∧KX bn w w':=by
 obtain ⟨A,c,hv,hl,hok,hcl⟩:=h.ird
 subst hv
 have H:=zH h
 have hle:=h.le
 have c0:w.cell? ⟨bn,0,none⟩=some (.slice A ns.length c):=cell_of_row w bn 0 _ _ _ h.at_
 have c1:w.cell? ⟨bn,1,none⟩=some (iV pos):=cell_of_row w bn 1 _ _ _ h.at_
 have f1:w.frozen? ⟨bn,1,none⟩=false:=put_frozen h.at_
 have HCL:=zH hcl
 have HOK:=zH hok
 clear h hcl hok
 go_in
 go_upto_region 1 with (fail)
 by_cases hp:pos < ns.length
 ·go_quiet (fail)
  have HD:=zH (H.out.ext (show Ext w (w.drewN nq) from xt))
  have HGD:Hid (KX bn w (w.drewN nq)):=zH ⟨rfl,rfl,rfl,Nat.le_refl _,fun _ _ _=>rfl⟩
  generalize w.drewN nq=wd at *
  have e0:wd.cell? ⟨bn,0,none⟩=some (.slice A ns.length c):=cell_of_row wd bn 0 _ _ _ HD.out.at_
  have e1:wd.cell? ⟨bn,1,none⟩=some (iV pos):=cell_of_row wd bn 1 _ _ _ HD.out.at_
  have g1:wd.frozen? ⟨bn,1,none⟩=false:=put_frozen HD.out.at_
  have hnx:MX W (wd.setCell ⟨bn,1,none⟩ (iV ((pos+1:Nat):Int))) bn (.slice A ns.length c) ns (pos+1):=
   ⟨Ext.setCell HD.out.low HD.out.ge _,(heap_put _ HD.out.at_).trans rfl,HD.out.ge,HD.out.ird,by omega⟩
  have hgr:KX bn w (wd.setCell ⟨bn,1,none⟩ (iV ((pos+1:Nat):Int))):=HGD.out.set _
  rw [Int.natCast_add,Int.natCast_one] at hnx hgr
  have HNX:=zH hnx;have HGR:=zH hgr
  clear hnx hgr c0 c1 f1
  go_upto_region 4 with (fail)
  generalize wd.setCell ⟨bn,1,none⟩ (iV ((pos:Int)+1))=w1 at *
  have d0:w1.cell? ⟨bn,0,none⟩=some (.slice A ns.length c):=cell_of_row w1 bn 0 _ _ _ HNX.out.at_
  have d1:w1.cell? ⟨bn,1,none⟩=some (iV ((pos:Int)+1)):=cell_of_row w1 bn 1 _ _ _ HNX.out.at_
  obtain ⟨b,off,rfl,hc⟩:=HCL.out.resolve_left (by intro e;rw [e] at hp;simp at hp)
  have hcp:w1.cell? ⟨b,off+pos,none⟩=some (iV ns[pos]):=(HNX.out.low.cells.1 _ _ (zB W _ (hc pos hp))).trans (hc pos hp)
  have hkk:=HOK.out _ (List.getElem_mem hp)
  have HM:=zH (fun wz=>Mod_any ns[pos] n (by omega) (by omega) hkk.1 hkk.2 wz)
  have HB:=zH (modZ_bd ns[pos] (show 0 < n by omega))
  have hpn:(pos:Int) < (ns.length:Int):=by omega
  clear hc hkk e0 e1 g1
  generalize modZ ns[pos] n=q at *
  generalize ns[pos]=z at *
  have hwp:=wz (pos:Int) (by omega)
  go_quiet (first|(go_at_call 35;(with_reducible refine Calls.quiet_of_same ((HM.out _).mono fun _ _ h=>⟨h.1,h.2.symm⟩))))
  go_wp2
  go_ret
  exact ⟨q.toNat,pos+1,by rw [Int.toNat_of_nonneg HB.out.1];rfl,by rw [Int.toNat_of_nonneg HB.out.1];exact HB.out.2,HNX.out.ext xt,HGR.out.ext xt⟩
 ·go_quiet (fail)
  go_wp2
  go_ret
  exact ⟨0,pos,rfl,by omega,H.out.ext xt,KX.of_ext xt⟩
end Go.Proofs.YteomcpplajeidaaGreat
namespace Go.Proofs.YteomcpplajeidaaGreat
open Go.RowKit
theorem Ex.parts_get:∀ (ts:List Ex) (k:Nat) (h:k < ts.length),Ex.partsL (ts.take (k+1))=Ex.partsL (ts.take k)+ts[k].parts∧ts[k].parts≤Ex.partsL ts∧Ex.partsL (ts.take k)≤Ex.partsL ts
 | t :: ts,0,_=>by
  simp only [List.take_zero,List.take_succ_cons,Ex.partsL,List.getElem_cons_zero];omega
 | t :: ts,k+1,h=>by
  have ih:=Ex.parts_get ts k (by simpa using h)
  simp only [List.take_succ_cons,Ex.partsL,List.getElem_cons_succ] at ih ⊢
  omega
theorem Ex.depth_take:∀ (ts:List Ex) (k:Nat) (h:k < ts.length),Ex.depthL (ts.take (k+1))=max (Ex.depthL (ts.take k)) ts[k].depth
 | t :: ts,0,_=>by
  simp only [List.take_zero,List.take_succ_cons,Ex.depthL,List.getElem_cons_zero];omega
 | t :: ts,k+1,h=>by
  have ih:=Ex.depth_take ts k (by simpa using h)
  simp only [List.take_succ_cons,Ex.depthL,List.getElem_cons_succ] at ih ⊢
  omega
mutual
theorem Ex.depth_le:∀ t:Ex,t.depth≤t.parts
 | .mk _ _ _ ts=>by rw [Ex.depth,Ex.parts];have:=Ex.depthL_le ts;omega
theorem Ex.depthL_le:∀ ts:List Ex,Ex.depthL ts≤Ex.partsL ts
 | []=>by rw [Ex.depthL];exact Nat.zero_le _
 | t :: ts=>by rw [Ex.depthL,Ex.partsL];have:=Ex.depth_le t;have:=Ex.depthL_le ts;omega
end
end Go.Proofs.YteomcpplajeidaaGreat

namespace Go.Proofs.YteomcpplajeidaaGreat
open Go.RowKit
theorem pparts_any:∀ (d:Nat) (t:Ex) (_:t.depth≤d) (_:t.parts≤100000) (w:World) (v:Value) (_:Rd All w t v),
 Calls Tryz.prog 148 #[v] w fun e w'=>e=.returned (iV (t.parts:Nat))∧Ext w w'
 | 0,.mk op n nm ts,hd,_,_,_,_=>by rw [Ex.depth] at hd;omega
 | d+1,.mk op n nm ts,hd,hp,w,v,hv=>by
  obtain ⟨n1,n2⟩:=n
  unfold Rd at hv
  obtain ⟨base,cap,rfl,-,hlen,hr⟩:=hv
  have IH:=zH (fun t ht hp w v hv=>pparts_any d t ht hp w v hv)
  rw [Ex.depth] at hd
  rw [Ex.parts] at hp
  have hdp:=Ex.depthL_le ts
  rw [Ex.parts]
  have HR:=zH hr
  have hn0:(0:Int)≤(ts.length:Int):=by omega
  have hn2:(ts.length:Int)≤9223372036854775807:=by omega
  clear hr
  obtain ⟨W,hW⟩:∃ W,W=(w.alloc (.cells #[.string op,iV n1,iV n2,.string nm,.slice base ts.length cap] 33)):=⟨_,rfl⟩
  have hxW:Ext w W:=by rw [hW];exact Ext.alloc (Ext.refl _) _
  have hw1:W.heap[w.heap.size]? = some (.cells #[.string op,iV n1,iV n2,.string nm,.slice base ts.length cap] 33):=by rw [hW];exact block_new rfl
  go_in
  go_wp2_with (fail)
  rw [← hW]
  clear hW
  have s1:w.heap.size < W.heap.size:=zL hw1
  have e4:W.cell? ⟨w.heap.size,4,none⟩=some (.slice base ts.length cap):=by rw [cell_of_row W _ _ _ _ _ hw1];rfl
  clear hw1
  obtain ⟨p,hpe⟩:∃ p,p=w.heap.size:=⟨_,rfl⟩
  rw [← hpe] at s1 e4 ⊢
  clear hpe
  go_loopw [3,4] (fun z i wr=>∃ k:Nat,k≤ts.length∧z=iV ((1+Ex.partsL (ts.take k)):Nat)∧i=iV k∧Ext W wr) (fun _ i _=>ts.length - (intOf i).toNat)
  case atStart=>exact ⟨0,Nat.zero_le _,by rfl,rfl,Ext.refl _⟩
  case round=>
   obtain ⟨k,hk,rfl,rfl,hx⟩:=hrel
   have x4:=(hx.cells.1 _ _ s1).trans e4
   have t1:p < wr.heap.size:=Nat.lt_of_lt_of_le s1 hx.size
   have kw:=wz ((k:Int)+1) (by omega)
   rcases Nat.lt_or_ge k ts.length with hlt|hge
   ·rcases HR.out with h|⟨b,rfl,-,hl⟩
    ·subst h;exact absurd hlt (Nat.not_lt_zero _)
    obtain ⟨c,hc,hra⟩:=hl.get k hlt
    obtain ⟨oa,a1,a2,na,ba,la,ca,c0,c1,c2,c3,c4,ea⟩:=hra.shape
    rw [Nat.zero_add] at hc
    have hbl:b < w.heap.size:=zB w _ (hc 0 (by decide))
    have hwr:Ext w wr:=hxW.trans hx
    have s5:b < wr.heap.size:=Nat.lt_of_lt_of_le hbl hwr.size
    have j0:=(hwr.cells.1 b _ hbl).trans ((hc 0 (by decide)).trans (congrArg some c0))
    have j1:=(hwr.cells.1 b _ hbl).trans ((hc 1 (by decide)).trans (congrArg some c1))
    have j2:=(hwr.cells.1 b _ hbl).trans ((hc 2 (by decide)).trans (congrArg some c2))
    have j3:=(hwr.cells.1 b _ hbl).trans ((hc 3 (by decide)).trans (congrArg some c3))
    have j4:=(hwr.cells.1 b _ hbl).trans ((hc 4 (by decide)).trans (congrArg some c4))
    simp only [Nat.add_zero] at j0
    have hdk:ts[k].depth≤d:=by have:=Ex.depth_get ts k hlt;omega
    obtain ⟨q1,q2,q3⟩:=Ex.parts_get ts k hlt
    have q4:=Ex.depth_take ts k hlt
    have q5:=Ex.depth_le ts[k]
    have q6:=Ex.depthL_le (ts.take k)
    have HI:=zH (fun w' hw=>IH.out ts[k] hdk (by omega) w' _ (Rd.ext hw (ea ▸ hra)))
    have hlt':(k:Int) < (ts.length:Int):=by omega
    have hk0:(0:Int)≤(k:Int):=by omega
    have kw2:IntKind.i64.wrap (1+(Ex.partsL (ts.take k):Int)+(ts[k].parts:Int))=1+(Ex.partsL (ts.take k):Int)+(ts[k].parts:Int):=by rw [IntKind.wrap_i64];omega
    have HQ:=zH (show _∧_ from ⟨q1,q4⟩)
    clear hc hra hl c0 c1 c2 c3 c4 ea hdk q1 q2 q3 q4 q5 q6 hdp hp hd hlen
    go_wp2_with (go_at_call 148;(refine (HI.out _ ?_).mono ?_);(exact hwr);rintro e w3 ⟨rfl,hx3⟩;have x4':=(hx3.cells.1 _ _ t1).trans x4;have t1':=Nat.lt_of_lt_of_le t1 hx3.size)
    go_roundw
    case rel=>exact ⟨k+1,by omega,by (rw [HQ.out.1];congr 1;omega),by go_num,xt⟩
    case measure=>simp [intOf];omega
   ·have hkn:k=ts.length:=by omega
    subst hkn
    rw [List.take_length]
    skip
    go_wp2
    go_ret
    exact ⟨by rfl,hxW.trans hx⟩
theorem pdepth_any:∀ (d:Nat) (t:Ex) (_:t.depth≤d) (_:t.parts≤100000) (w:World) (v:Value) (_:Rd All w t v),
 Calls Tryz.prog 149 #[v] w fun e w'=>e=.returned (iV (t.depth:Nat))∧Ext w w'
 | 0,.mk op n nm ts,hd,_,_,_,_=>by rw [Ex.depth] at hd;omega
 | d+1,.mk op n nm ts,hd,hp,w,v,hv=>by
  obtain ⟨n1,n2⟩:=n
  unfold Rd at hv
  obtain ⟨base,cap,rfl,-,hlen,hr⟩:=hv
  have IH:=zH (fun t ht hp w v hv=>pdepth_any d t ht hp w v hv)
  rw [Ex.depth] at hd
  rw [Ex.parts] at hp
  have hdp:=Ex.depthL_le ts
  rw [Ex.depth]
  have HR:=zH hr
  have hn0:(0:Int)≤(ts.length:Int):=by omega
  have hn2:(ts.length:Int)≤9223372036854775807:=by omega
  clear hr
  obtain ⟨W,hW⟩:∃ W,W=(w.alloc (.cells #[.string op,iV n1,iV n2,.string nm,.slice base ts.length cap] 33)):=⟨_,rfl⟩
  have hxW:Ext w W:=by rw [hW];exact Ext.alloc (Ext.refl _) _
  have hw1:W.heap[w.heap.size]? = some (.cells #[.string op,iV n1,iV n2,.string nm,.slice base ts.length cap] 33):=by rw [hW];exact block_new rfl
  go_in
  go_wp2_with (fail)
  rw [← hW]
  clear hW
  have s1:w.heap.size < W.heap.size:=zL hw1
  have e4:W.cell? ⟨w.heap.size,4,none⟩=some (.slice base ts.length cap):=by rw [cell_of_row W _ _ _ _ _ hw1];rfl
  clear hw1
  obtain ⟨p,hpe⟩:∃ p,p=w.heap.size:=⟨_,rfl⟩
  rw [← hpe] at s1 e4 ⊢
  clear hpe
  go_loopw [3,4] (fun z i wr=>∃ k:Nat,k≤ts.length∧z=iV ((Ex.depthL (ts.take k)):Nat)∧i=iV k∧Ext W wr) (fun _ i _=>ts.length - (intOf i).toNat)
  case atStart=>exact ⟨0,Nat.zero_le _,by rfl,rfl,Ext.refl _⟩
  case round=>
   obtain ⟨k,hk,rfl,rfl,hx⟩:=hrel
   have x4:=(hx.cells.1 _ _ s1).trans e4
   have t1:p < wr.heap.size:=Nat.lt_of_lt_of_le s1 hx.size
   have kw:=wz ((k:Int)+1) (by omega)
   rcases Nat.lt_or_ge k ts.length with hlt|hge
   ·rcases HR.out with h|⟨b,rfl,-,hl⟩
    ·subst h;exact absurd hlt (Nat.not_lt_zero _)
    obtain ⟨c,hc,hra⟩:=hl.get k hlt
    obtain ⟨oa,a1,a2,na,ba,la,ca,c0,c1,c2,c3,c4,ea⟩:=hra.shape
    rw [Nat.zero_add] at hc
    have hbl:b < w.heap.size:=zB w _ (hc 0 (by decide))
    have hwr:Ext w wr:=hxW.trans hx
    have s5:b < wr.heap.size:=Nat.lt_of_lt_of_le hbl hwr.size
    have j0:=(hwr.cells.1 b _ hbl).trans ((hc 0 (by decide)).trans (congrArg some c0))
    have j1:=(hwr.cells.1 b _ hbl).trans ((hc 1 (by decide)).trans (congrArg some c1))
    have j2:=(hwr.cells.1 b _ hbl).trans ((hc 2 (by decide)).trans (congrArg some c2))
    have j3:=(hwr.cells.1 b _ hbl).trans ((hc 3 (by decide)).trans (congrArg some c3))
    have j4:=(hwr.cells.1 b _ hbl).trans ((hc 4 (by decide)).trans (congrArg some c4))
    simp only [Nat.add_zero] at j0
    have hdk:ts[k].depth≤d:=by have:=Ex.depth_get ts k hlt;omega
    obtain ⟨q1,q2,q3⟩:=Ex.parts_get ts k hlt
    have q4:=Ex.depth_take ts k hlt
    have q5:=Ex.depth_le ts[k]
    have q6:=Ex.depthL_le (ts.take k)
    have HI:=zH (fun w' hw=>IH.out ts[k] hdk (by omega) w' _ (Rd.ext hw (ea ▸ hra)))
    have hlt':(k:Int) < (ts.length:Int):=by omega
    have hk0:(0:Int)≤(k:Int):=by omega
    skip
    have HQ:=zH (show _∧_ from ⟨q1,q4⟩)
    clear hc hra hl c0 c1 c2 c3 c4 ea hdk q1 q2 q3 q4 q5 q6 hdp hp hd hlen
    go_wp2_with (go_at_call 149;(refine (HI.out _ ?_).mono ?_);(exact hwr);rintro e w3 ⟨rfl,hx3⟩;have x4':=(hx3.cells.1 _ _ t1).trans x4;have t1':=Nat.lt_of_lt_of_le t1 hx3.size)
    go_roundw
    case rel=>exact ⟨k+1,by omega,by (rw [HQ.out.2];congr 1;omega),by go_num,xt⟩
    case measure=>simp [intOf];omega
   ·have hkn:k=ts.length:=by omega
    subst hkn
    rw [List.take_length]
    have kw3:IntKind.i64.wrap ((Ex.depthL ts:Nat)+1)=((Ex.depthL ts:Nat):Int)+1:=by rw [IntKind.wrap_i64];omega
    go_wp2
    go_ret
    exact ⟨by rw [show ((1+Ex.depthL ts:Nat):Int)=(Ex.depthL ts:Int)+1 by omega];rfl,hxW.trans hx⟩
end Go.Proofs.YteomcpplajeidaaGreat
namespace Go.Proofs.YteomcpplajeidaaGreat
def dv:List Int→Int
 | []=>0
 | d :: l=>d+65536 * dv l
def Dg (l:List Int):Prop:=∀ d∈l,0≤d∧d < 65536
def Tr (l:List Int):Prop:=l=[]∨∃ p d,l=p ++ [d]∧d≠0
theorem Dg.nil:Dg []:=by intro d hd;cases hd
theorem Dg.cons {d:Int} {l:List Int} (h:0≤d∧d < 65536) (hl:Dg l):Dg (d :: l):=by
 intro e he
 rcases List.mem_cons.1 he with rfl|he
 ·exact h
 ·exact hl e he
theorem Dg.head {d:Int} {l:List Int} (h:Dg (d :: l)):0≤d∧d < 65536:=h d zM
theorem Dg.tail {d:Int} {l:List Int} (h:Dg (d :: l)):Dg l:=fun e he=>h e (zN _ he)
theorem Dg.drop {l:List Int} (h:Dg l) (k:Nat):Dg (l.drop k):=fun e he=>h e (List.mem_of_mem_drop he)
theorem Dg.take {l:List Int} (h:Dg l) (k:Nat):Dg (l.take k):=fun e he=>h e (List.mem_of_mem_take he)
theorem Dg.at {l:List Int} (h:Dg l) (k:Nat) (hk:k < l.length):0≤l[k]∧l[k] < 65536:=h _ (List.getElem_mem hk)
theorem dv_nonneg:∀ {l:List Int},Dg l→0≤dv l
 | [],_=>by simp [dv]
 | d :: l,h=>by have:=dv_nonneg h.tail;have:=h.head;simp only [dv];omega
theorem dv_app (a b:List Int):dv (a ++ b)=dv a+65536 ^ a.length * dv b:=by
 induction a with
 | nil=>simp [dv]
 | cons d a ih=>simp only [List.cons_append,dv,ih,List.length_cons,Int.pow_succ,Int.mul_add];generalize (65536:Int) ^ a.length=p;rw [show p * 65536 * dv b=65536 * (p * dv b) by rw [Int.mul_comm p,Int.mul_assoc]];omega
theorem dv_app0 (a b:List Int) (h:dv b=0):dv (a ++ b)=dv a:=by rw [dv_app,h];omega
theorem pow_pos' (n:Nat):(0:Int) < 65536 ^ n:=Int.pow_pos (by omega)
theorem dv_lt:∀ {l:List Int},Dg l→dv l < 65536 ^ l.length
 | [],_=>by simp [dv]
 | d :: l,h=>by have:=dv_lt h.tail;have:=h.head;simp only [dv,List.length_cons,Int.pow_succ];omega
theorem dv_zero:∀ {l:List Int},Dg l→Tr l→dv l=0→l=[]
 | l,hd,ht,h0=>by
  rcases ht with h|⟨p,d,rfl,hn⟩
  ·exact h
  ·exfalso
   rw [dv_app] at h0
   have h1:=dv_nonneg (l:=p) fun e he=>hd e (List.mem_append_left _ he)
   have h2:=hd d (by simp)
   have h3:=pow_pos' p.length
   have:(65536:Int) ^ p.length * 1≤65536 ^ p.length * dv [d]:=Int.mul_le_mul_of_nonneg_left (by simp only [dv];omega) (by omega)
   omega
theorem Tr.ge {l:List Int} (hd:Dg l) (ht:Tr l) (hn:l≠[]):65536 ^ (l.length - 1)≤dv l:=by
 rcases ht with h|⟨p,d,rfl,hn⟩
 ·exact absurd h hn
 ·rw [dv_app]
  have h1:=dv_nonneg (l:=p) fun e he=>hd e (List.mem_append_left _ he)
  have h2:=hd d (by simp)
  have:(65536:Int) ^ p.length * 1≤65536 ^ p.length * dv [d]:=Int.mul_le_mul_of_nonneg_left (by simp only [dv];omega) (by have:=pow_pos' p.length;omega)
  simp only [List.length_append,List.length_singleton,Nat.add_sub_cancel]
  omega
theorem pow_mono {a b:Nat} (h:a≤b):(65536:Int) ^ a≤65536 ^ b:=by
 obtain ⟨c,rfl⟩:=Nat.le.dest h
 rw [Int.pow_add]
 have h1:=pow_pos' a
 have h2:=pow_pos' c
 have:(65536:Int) ^ a * 1≤65536 ^ a * 65536 ^ c:=Int.mul_le_mul_of_nonneg_left (by omega) (by omega)
 omega
theorem Tr.len_le {l:List Int} (hd:Dg l) (ht:Tr l) (k:Nat) (h:dv l < 65536 ^ k):l.length≤k:=by
 by_cases hn:l=[]
 ·subst hn;simp
 ·have h1:=ht.ge hd hn
  rcases Nat.lt_or_ge k l.length with hk|hk
  ·have:=pow_mono (a:=k) (b:=l.length - 1) (by omega)
   omega
  ·exact hk
theorem dv_lt_len {a b:List Int} (ha:Dg a) (hb:Dg b) (ht:Tr b) (h:a.length < b.length):dv a < dv b:=by
 have h1:=dv_lt ha
 have h2:=ht.ge hb (by intro e;rw [e] at h;simp at h)
 have:=pow_mono (a:=a.length) (b:=b.length - 1) (by omega)
 omega
def trimF:Nat→List Int→List Int
 | 0,l=>l
 | f+1,l=>if 0 < l.length∧l.getLast? = some 0 then trimF f l.dropLast else l
def trimL (l:List Int):List Int:=trimF l.length l
theorem trimF_spec:∀ (f:Nat) (l:List Int),l.length≤f→Dg l→Dg (trimF f l)∧Tr (trimF f l)∧dv (trimF f l)=dv l∧(trimF f l).length≤l.length
 | 0,l,h,hd=>by
  have:l=[]:=List.length_eq_zero_iff.1 (by omega)
  subst this
  exact ⟨hd,.inl rfl,rfl,Nat.le_refl _⟩
 | f+1,l,h,hd=>by
  rw [trimF]
  split
  ·rename_i hc
   obtain ⟨hp,hl⟩:=hc
   have hne:l≠[]:=by intro e;rw [e] at hp;simp at hp
   have hdl:l.dropLast ++ [0]=l:=by
    rw [List.getLast?_eq_some_getLast hne] at hl
    have:=List.dropLast_concat_getLast hne
    rwa [Option.some.inj hl] at this
   obtain ⟨h1,h2,h3,h4⟩:=trimF_spec f l.dropLast (by simp;omega) fun e he=>hd e (List.dropLast_subset _ he)
   refine ⟨h1,h2,?_,?_⟩
   ·rw [h3];conv=>rhs;rw [← hdl]
    exact (dv_app0 _ _ (by simp [dv])).symm
   ·rw [List.length_dropLast] at h4;omega
  ·rename_i hc
   refine ⟨hd,?_,rfl,Nat.le_refl _⟩
   by_cases hne:l=[]
   ·exact .inl hne
   ·have hl:=List.getLast?_eq_some_getLast hne
    refine .inr ⟨l.dropLast,l.getLast hne,(List.dropLast_concat_getLast hne).symm,fun e=>hc ⟨List.length_pos_iff.2 hne,?_⟩⟩
    rw [hl,e]
theorem trimL_spec (l:List Int) (hd:Dg l):Dg (trimL l)∧Tr (trimL l)∧dv (trimL l)=dv l∧(trimL l).length≤l.length:=trimF_spec _ l (Nat.le_refl _) hd
def cmpL (a b:List Int):Int:=if dv a < dv b then -1 else if dv a=dv b then 0 else 1
def plusL:Int→List Int→List Int→List Int
 | c,[],[]=>if 0 < c then [c % 65536] else []
 | c,x :: a,[]=>(c+x) % 65536 :: plusL ((c+x) / 65536) a []
 | c,[],y :: b=>(c+y) % 65536 :: plusL ((c+y) / 65536) [] b
 | c,x :: a,y :: b=>(c+x+y) % 65536 :: plusL ((c+x+y) / 65536) a b
theorem plusL_spec:∀ (c:Int) (a b:List Int),0≤c→c≤1→Dg a→Dg b→Dg (plusL c a b)∧dv (plusL c a b)=c+dv a+dv b∧(plusL c a b).length≤max a.length b.length+1
 | c,[],[],h0,h1,_,_=>by
  rw [plusL]
  split
  ·refine ⟨Dg.cons (by omega) Dg.nil,?_,by simp⟩
   simp only [dv];omega
  ·refine ⟨Dg.nil,?_,by simp⟩
   simp only [dv];omega
 | c,x :: a,[],h0,h1,ha,hb=>by
  have hx:=ha.head
  obtain ⟨k1,k2,k3⟩:=plusL_spec ((c+x) / 65536) a [] (by omega) (by omega) ha.tail hb
  rw [plusL]
  refine ⟨Dg.cons (by omega) k1,?_,?_⟩
  ·simp only [dv] at k2 ⊢;rw [k2];omega
  ·simp only [List.length_cons,List.length_nil] at k3 ⊢;omega
 | c,[],y :: b,h0,h1,ha,hb=>by
  have hx:=hb.head
  obtain ⟨k1,k2,k3⟩:=plusL_spec ((c+y) / 65536) [] b (by omega) (by omega) ha hb.tail
  rw [plusL]
  refine ⟨Dg.cons (by omega) k1,?_,?_⟩
  ·simp only [dv] at k2 ⊢;rw [k2];omega
  ·simp only [List.length_cons,List.length_nil] at k3 ⊢;omega
 | c,x :: a,y :: b,h0,h1,ha,hb=>by
  have hx:=ha.head
  have hy:=hb.head
  obtain ⟨k1,k2,k3⟩:=plusL_spec ((c+x+y) / 65536) a b (by omega) (by omega) ha.tail hb.tail
  rw [plusL]
  refine ⟨Dg.cons (by omega) k1,?_,?_⟩
  ·simp only [dv] at k2 ⊢;rw [k2];omega
  ·simp only [List.length_cons] at k3 ⊢;omega
def minusL:Int→List Int→List Int→List Int
 | _,[],_=>[]
 | c,x :: a,[]=>if x - c < 0 then (x - c+65536) :: minusL 1 a [] else (x - c) :: minusL 0 a []
 | c,x :: a,y :: b=>if x - c - y < 0 then (x - c - y+65536) :: minusL 1 a b else (x - c - y) :: minusL 0 a b
theorem minusL_spec:∀ (c:Int) (a b:List Int),0≤c→c≤1→Dg a→Dg b→c+dv b≤dv a→Dg (minusL c a b)∧dv (minusL c a b)=dv a - dv b - c∧(minusL c a b).length=a.length
 | c,[],b,h0,h1,_,hb,h=>by
  have:=dv_nonneg hb
  rw [minusL]
  refine ⟨Dg.nil,?_,rfl⟩
  simp only [dv] at h ⊢;omega
 | c,x :: a,[],h0,h1,ha,hb,h=>by
  have hx:=ha.head
  simp only [dv] at h
  rw [minusL]
  split
  ·obtain ⟨k1,k2,k3⟩:=minusL_spec 1 a [] (by omega) (by omega) ha.tail hb (by simp only [dv];omega)
   refine ⟨Dg.cons (by omega) k1,?_,by simp [k3]⟩
   simp only [dv] at k2 ⊢;rw [k2];omega
  ·obtain ⟨k1,k2,k3⟩:=minusL_spec 0 a [] (by omega) (by omega) ha.tail hb (by simp only [dv];omega)
   refine ⟨Dg.cons (by omega) k1,?_,by simp [k3]⟩
   simp only [dv] at k2 ⊢;rw [k2];omega
 | c,x :: a,y :: b,h0,h1,ha,hb,h=>by
  have hx:=ha.head
  have hy:=hb.head
  simp only [dv] at h
  rw [minusL]
  split
  ·obtain ⟨k1,k2,k3⟩:=minusL_spec 1 a b (by omega) (by omega) ha.tail hb.tail (by omega)
   refine ⟨Dg.cons (by omega) k1,?_,by simp [k3]⟩
   simp only [dv] at k2 ⊢;rw [k2];omega
  ·obtain ⟨k1,k2,k3⟩:=minusL_spec 0 a b (by omega) (by omega) ha.tail hb.tail (by omega)
   refine ⟨Dg.cons (by omega) k1,?_,by simp [k3]⟩
   simp only [dv] at k2 ⊢;rw [k2];omega
def rowL (x:Int):Int→List Int→List Int→List Int
 | c,_ :: os,[]=>c :: os
 | c,o :: os,y :: b=>(o+x * y+c) % 65536 :: rowL x ((o+x * y+c) / 65536) os b
 | _,[],_=>[]
theorem mul_digit {x y:Int} (hx:0≤x∧x < 65536) (hy:0≤y∧y < 65536):0≤x * y∧x * y≤4294836225:=by
 refine ⟨Int.mul_nonneg hx.1 hy.1,?_⟩
 have h1:x * y≤65535 * y:=Int.mul_le_mul_of_nonneg_right (by omega) hy.1
 omega
theorem rowL_spec (x:Int) (hx:0≤x∧x < 65536):∀ (b:List Int) (c:Int) (os:List Int),0≤c→c < 65536→Dg os→Dg b→b.length < os.length→(∀ k (h:k < os.length),b.length≤k→os[k]=0) →
 Dg (rowL x c os b)∧dv (rowL x c os b)=dv os+x * dv b+c∧(rowL x c os b).length=os.length∧(∀ k (h:k < (rowL x c os b).length),b.length < k→(rowL x c os b)[k]=0)
 | [],c,[],_,_,_,_,hl,_=>by simp at hl
 | [],c,o :: os,h0,h1,ho,hb,hl,hz=>by
  rw [rowL]
  have hz0:o=0:=hz 0 (by simp) (by simp)
  refine ⟨Dg.cons ⟨h0,h1⟩ ho.tail,by simp only [dv];omega,by simp,?_⟩
  intro k hk hk2
  cases k with
  | zero=>simp at hk2
  | succ k=>exact hz (k+1) hk (by simp)
 | y :: b,c,[],_,_,_,_,hl,_=>by simp at hl
 | y :: b,c,o :: os,h0,h1,ho,hb,hl,hz=>by
  have hy:=hb.head
  have hoo:=ho.head
  obtain ⟨m0,m1⟩:=mul_digit hx hy
  rw [rowL]
  obtain ⟨k1,k2,k3,k4⟩:=rowL_spec x hx b ((o+x * y+c) / 65536) os (by omega) (by omega) ho.tail hb.tail (by simpa using hl) (fun k hk hk2=>hz (k+1) (by simpa using hk) (by simpa using hk2))
  refine ⟨Dg.cons (by omega) k1,?_,by simp [k3],?_⟩
  ·simp only [dv,k2,Int.mul_add]
   rw [show x * (65536 * dv b)=65536 * (x * dv b) by rw [← Int.mul_assoc,Int.mul_comm x,Int.mul_assoc]]
   omega
  ·intro k hk hk2
   cases k with
   | zero=>simp at hk2
   | succ k=>exact k4 k (by simpa using hk) (by simpa using hk2)
def mulL:List Int→List Int→List Int→List Int
 | [],_,os=>os
 | x :: a,b,os=>match rowL x 0 os b with|[]=>[]|o :: r=>o :: mulL a b r
theorem mulL_spec:∀ (a b os:List Int),Dg a→Dg b→Dg os→os.length=a.length+b.length→(∀ k (h:k < os.length),b.length≤k→os[k]=0) →
 Dg (mulL a b os)∧dv (mulL a b os)=dv os+dv a * dv b∧(mulL a b os).length=os.length
 | [],b,os,_,_,ho,_,_=>by rw [mulL];exact ⟨ho,by simp [dv],rfl⟩
 | x :: a,b,os,ha,hb,ho,hl,hz=>by
  obtain ⟨k1,k2,k3,k4⟩:=rowL_spec x ha.head b 0 os (by omega) (by omega) ho hb (by rw [hl,List.length_cons];omega) hz
  rw [mulL]
  generalize rowL x 0 os b=r at *
  cases r with
  | nil=>rw [List.length_cons] at hl;simp at k3;omega
  | cons o r=>
   simp only
   obtain ⟨j1,j2,j3⟩:=mulL_spec a b r ha.tail hb k1.tail (by simp only [List.length_cons] at k3 hl;omega) (fun k hk hk2=>k4 (k+1) (by simpa using hk) (by omega))
   refine ⟨Dg.cons k1.head j1,?_,by simp [j3,← k3]⟩
   simp only [dv] at k2 ⊢
   rw [j2,Int.add_mul,Int.mul_add,Int.mul_assoc]
   omega
end Go.Proofs.YteomcpplajeidaaGreat

namespace Go.Proofs.YteomcpplajeidaaGreat
open Go.RowKit
def DR (w:World) (v:Value) (l:List Int):Prop:=
 ∃ A cap,v=.slice A l.length cap∧l.length≤cap∧l.length≤1000∧Dg l∧(l=[]∨∃ b off,A=some ⟨b,off,none⟩∧∀ k (h:k < l.length),w.cell? ⟨b,off+k,none⟩=some (iV l[k]))
theorem DR.ext {w w':World} {v:Value} {l:List Int} (h:DR w v l) (e:Ext w w'):DR w' v l:=by
 obtain ⟨A,cap,h1,h2,h3,h5,h4⟩:=h
 exact ⟨A,cap,h1,h2,h3,h5,h4.imp id fun ⟨b,off,ha,hc⟩=>⟨b,off,ha,fun k hk=>(e.cells.1 _ _ (zB w _ (hc k hk))).trans (hc k hk)⟩⟩
theorem DR.form {w:World} {v:Value} {l:List Int} (h:DR w v l):∃ A cap,v=.slice A l.length cap:=by
 obtain ⟨A,cap,h1,-⟩:=h
 exact ⟨A,cap,h1⟩
theorem DR.dg {w:World} {v:Value} {l:List Int} (h:DR w v l):Dg l:=by
 obtain ⟨A,cap,h1,h2,h3,h5,h4⟩:=h;exact h5
theorem DR.le {w:World} {v:Value} {l:List Int} (h:DR w v l):l.length≤1000:=by
 obtain ⟨A,cap,h1,h2,h3,h5,h4⟩:=h;exact h3
theorem DR.nil (w:World):DR w (.slice none 0 0) []:=⟨none,0,rfl,Nat.le_refl _,by simp,Dg.nil,.inl rfl⟩
theorem DR.keeps (l:List Int) (v:Value):Rr.Keeps (fun w=>DR w v l):=fun _ _ h e=>h.ext e
abbrev cellsZ (z:Int):List Value:=[iV z]
theorem one_z (x:Int):(cellsZ x).length=1∧∀ c∈cellsZ x,c.oneCell' = true:=⟨rfl,by intro c hc;simp [cellsZ] at hc;subst hc;rfl⟩
theorem info3z:(Tryz.prog.info? 3).map (fun i=>(i.zero,i.size,i.bytes))=some (some (iV 0),1,8):=by kernel_rfl
theorem flatZ (l:List Int):l.flatMap cellsZ=l.map (.int .i64):=by
 induction l with
 | nil=>rfl
 | cons x l ih=>simp [List.flatMap_cons,ih]
theorem DR.of_row {B:Nat} {w:World} {v:Value} {l:List Int} (h:w.ownsRow B 3 1 v l.length (l.flatMap cellsZ)) (hn:l.length≤1000) (hd:Dg l):DR w v l:=by
 by_cases h0:l=[]
 ·subst h0
  rcases h.2 with ⟨hv,-⟩|⟨g,cap,cur,hv,-⟩
  ·exact ⟨none,0,hv,by simp,by simp,hd,.inl rfl⟩
  ·exact ⟨_,cap,hv,by simp,by simp,hd,.inl rfl⟩
 ·rcases h.2 with ⟨_,hz⟩|⟨g,cap,cur,hv,hb,hg,hnc,hcm,hcs,htake⟩
  ·simp at hz;exact absurd hz h0
  ·refine ⟨_,cap,hv,hnc,hn,hd,.inr ⟨g,0,rfl,fun k hk=>?_⟩⟩
   have h1:=flat_get (cs:=cellsZ) (sz:=1) l (fun x _=>rfl) k hk 0 _ rfl
   rw [hv] at h
   have h2:=h.cellAt (k * 1+0) (by rw [← h.1];exact (List.getElem?_eq_some_iff.1 h1).1)
   rw [show 0+k=k * 1+0 by omega,h2]
   exact h1
theorem DR.take {w:World} {A:Option Addr} {n cap:Nat} {l:List Int} (h:DR w (.slice A n cap) l) (m:Nat) (hm:m≤n):DR w (.slice A m cap) (l.take m):=by
 obtain ⟨A',cap',h1,h2,h3,h5,h4⟩:=h
 injection h1 with e1 e2 e3
 subst e1 e2 e3
 have hl:(l.take m).length=m:=by rw [List.length_take];omega
 refine ⟨A,cap,by rw [hl],by omega,by omega,h5.take m,?_⟩
 rcases h4 with rfl|⟨b,off,ha,hc⟩
 ·exact .inl (by simp)
 ·exact .inr ⟨b,off,ha,fun k hk=>by rw [hl] at hk;rw [List.getElem_take];exact hc k (by omega)⟩
theorem DR.block {w:World} {A:Option Addr} {n c:Nat} {l:List Int} (h:DR w (.slice A n c) l) (k:Nat) (hk:k < l.length) :
 ∃ b off,A=some ⟨b,off,none⟩∧n=l.length∧∀ k (h:k < l.length),w.cell? ⟨b,off+k,none⟩=some (iV l[k]):=by
 obtain ⟨A',cap,h1,h2,h3,h5,h4⟩:=h
 injection h1 with e1 e2 e3
 subst e1 e2
 obtain ⟨b,off,hb,hc⟩:=h4.resolve_left (by intro e;rw [e] at hk;simp at hk)
 exact ⟨b,off,hb,rfl,hc⟩
theorem trimF_take (l:List Int) (j:Nat) (hj:j < l.length):trimF (j+1) (l.take (j+1))=if l[j]=0 then trimF j (l.take j) else l.take (j+1):=by
 have h1:l.take (j+1)=l.take j ++ [l[j]]:=by rw [List.take_add_one,List.getElem?_eq_getElem hj,Option.toList_some]
 rw [trimF,h1,List.getLast?_concat,List.dropLast_concat]
 by_cases h:l[j]=0
 ·rw [if_pos h,if_pos ⟨by simp;omega,by rw [h]⟩]
 ·rw [if_neg h,if_neg (fun hh=>h (Option.some.inj hh.2))]
theorem trim_w (l:List Int) (w:World) (v:Value) (h:DR w v l) :
 Calls Tryz.prog 85 #[v] w fun e w'=>∃ u,e=.returned u∧w' = w∧DR w u (trimL l)∧∀ A c,v=.slice A l.length c→∃ m,u=.slice A m c:=by
 obtain ⟨A,cap,rfl⟩:=h.form
 have HD:=zH h
 have hle:=h.le
 have hcap:l.length≤cap:=by obtain ⟨A',cap',h1,h2,-⟩:=h;injection h1 with _ _ e;omega
 clear h
 go_in
 go_wp2
 go_loopw [0] (fun s wr=>∃ m:Nat,s=.slice A m cap∧m≤l.length∧Hid (trimL l=trimF m (l.take m))∧wr=w) (fun s _=>match s with | .slice _ n _=>n|_=>0)
 case atStart=>exact ⟨l.length,rfl,Nat.le_refl _,zH (by rw [List.take_length];rfl),rfl⟩
 case round=>
  obtain ⟨m,rfl,hm,hT,rfl⟩:=hrel
  rcases m with _|j
  ·have hE:=zH (show DR wr (.slice A 0 cap) (trimL l) by rw [hT.out];exact HD.out.take 0 hm)
   go_wp2
   go_ret
   exact ⟨_,rfl,rfl,hE.out,by first|exact ⟨_,rfl⟩|(intro A' c' e;injection e with e1 e2 e3;subst e1 e3;exact ⟨_,rfl⟩)⟩
  ·obtain ⟨b,off,rfl,-,hcs⟩:=HD.out.block j (by omega)
   have hc:=hcs j (by omega)
   have hb:=zB wr _ hc
   have HF:=zH (hT.out.trans (trimF_take l j (by omega)))
   have k1:(0:Int) < ((j+1:Nat):Int):=by omega
   have k2:((j+1:Nat):Int) - 1=(j:Int):=by omega
   have k3:IntKind.i64.wrap (((j+1:Nat):Int) - 1)=(j:Int):=by rw [IntKind.wrap_i64];omega
   have k4:(j:Int) < ((j+1:Nat):Int):=by omega
   have k5:(0:Int)≤(j:Int):=by omega
   have k6:(j:Int)≤(cap:Int):=by omega
   generalize hz:l[j]=z at *
   clear hcs hz
   by_cases h0:z=0
   ·subst h0
    rw [if_pos rfl] at HF
    go_wp2
    go_roundw
    case rel=>exact ⟨j,rfl,by omega,HF,trivial⟩
    case measure=>simp
   ·have hE:=zH (show DR wr (.slice (some ⟨b,off,none⟩) (j+1) cap) (trimL l) by rw [HF.out,if_neg h0];exact HD.out.take (j+1) hm)
    have hz0:(z == 0)=false:=by simp [h0]
    go_wp2
    go_ret
    exact ⟨_,rfl,rfl,hE.out,by first|exact ⟨_,rfl⟩|(intro A' c' e;injection e with e1 e2 e3;subst e1 e3;exact ⟨_,rfl⟩)⟩
theorem trim_any (l:List Int) (w:World) (v:Value) (h:DR w v l) :
 Calls Tryz.prog 85 #[v] w fun e w'=>∃ u,e=.returned u∧Ext w w'∧DR w' u (trimL l):=
 (trim_w l w v h).mono fun _ _ ⟨u,he,hw,hd,_⟩=>⟨u,he,by rw [hw];exact Ext.refl _,by rw [hw];exact hd⟩
end Go.Proofs.YteomcpplajeidaaGreat
