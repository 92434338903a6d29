/-
  Lemmas of this claim (JwT). Nothing is asked.
-/
import Derived.Test.YteomcpplajeidaaGreatJwS
set_option linter.unusedVariables false
set_option linter.unusedSimpArgs false
set_option maxRecDepth 100000
set_option maxHeartbeats 40000000
namespace Go.Proofs.YteomcpplajeidaaGreat
open Go.RowKit
theorem Rd.two {S:Nat→Prop} {w:World} {p:Nat} {s:ByteArray} {a b:Ex} {a0 a1 a2 a3 a4 b0 b1 b2 b3 b4:Value} {t:TypeId} (hc:w.heap[p]? = some (.cells #[a0,a1,a2,a3,a4,b0,b1,b2,b3,b4] t)) (hp:S p)
 (ha:Rd S w a (.agg #[a0,a1,a2,a3,a4])) (hb:Rd S w b (.agg #[b0,b1,b2,b3,b4])):Rd S w (opE' s a b) (.agg #[.string s,iV 0,iV 0,.string nilB,.slice (some ⟨p,0,none⟩) 2 2]):=by
 unfold Rd
 refine ⟨_,2,rfl,I2.zero,by simp,.inr ⟨p,rfl,hp,?_⟩⟩
 unfold RdL
 refine ⟨⟨_,(cells10 hc).1,ha⟩,?_⟩
 unfold RdL
 refine ⟨⟨_,(cells10 hc).2,hb⟩,?_⟩
 unfold RdL
 trivial
theorem Rd.leaf {S:Nat→Prop} {w:World} {op:ByteArray} {n1 n2:Int} {nm:ByteArray} (h:I2 (n1,n2)):Rd S w (leaf op (n1,n2) nm) (.agg #[.string op,iV n1,iV n2,.string nm,.slice none 0 0]):=by
 unfold Rd
 exact ⟨none,0,rfl,h,by simp,.inl rfl⟩
def posOf (w:World) (p:Nat):Nat:=(iof ((w.cell? ⟨p,1,none⟩).getD undef)).toNat
theorem PX.pos {T:TypeId} {w:World} {p k:Nat} {tv:Value} {l:List (ByteArray×Int)} {rest:List Value} (h:PX T w p tv l k rest):posOf w p=k:=by
 unfold posOf
 rw [h.c.2.1]
 rfl
abbrev zero5:Array Value:=#[.string nilB,iV 0,iV 0,.string nilB,.slice none 0 0]
structure TX (w0 w:World) (p q:Nat) (tv:Value) (l:List (ByteArray×Int)) (k:Nat) (t:Ex) (cs:Array Value):Prop where
 px:PX 164 w p tv l k []
 kx:KX p w0 w
 at_:w.heap[q]? = some (.cells cs 33)
 rd:Rd (fun b=>w0.heap.size < b∧b≠q) w t (.agg cs)
 res:w.heap[w0.heap.size]? = some (.cells zero5 33)
 ge:w0.heap.size < q
 pl:p < w0.heap.size
section
variable {w0 w w':World} {p q k k':Nat} {tv:Value} {l:List (ByteArray×Int)} {t:Ex} {cs:Array Value}
theorem Rd.kx {S:Nat→Prop} {v:Value} (h:Rd S w t v) (x:KX p w w') (hS:∀ b,S b→b≠p):Rd S w' t v:=
 Rd.frame (fun b o hb hl=>World.cell?_of_block (x.block b hl (fun e=>hS b hb (by injection e)))) (fun _ h=>h) t v h
theorem TX.ext (h:TX w0 w p q tv l k t cs) (x:Ext w w'):TX w0 w' p q tv l k t cs:=
 ⟨h.px.ext x,h.kx.ext x,(x.block _ (zL h.at_)).trans h.at_,h.rd.ext x,(x.block _ (zL h.res)).trans h.res,h.ge,h.pl⟩
theorem TX.go (h:TX w0 w p q tv l k t cs) (hp:PX 164 w' p tv l k' []) (x:KX p w w'):TX w0 w' p q tv l k' t cs:=
 ⟨hp,h.kx.trans x,x.at h.at_ (by have:=h.ge;have:=h.pl;omega),h.rd.kx x (fun b hb=>by have:=h.pl;omega),x.at h.res (by have:=h.pl;omega),h.ge,h.pl⟩
end
theorem put5_rd {S S':Nat→Prop} {w:World} {q:Nat} {t:Ex} {v:Value} {b0 b1 b2 b3 b4:Value} (h:Rd S w t v) (hS:∀ b,S b→b≠q) (hS':∀ b,S b→S' b):Rd S' (put5 w q b0 b1 b2 b3 b4) t v:=
 Rd.frame (fun b o hb hl=>by
  have hne:=hS b hb
  unfold World.cell?
  simp only [put5]
  rw [RowKit.Below.heap_setCell _ _ _ _ hne,RowKit.Below.heap_setCell _ _ _ _ hne,RowKit.Below.heap_setCell _ _ _ _ hne,RowKit.Below.heap_setCell _ _ _ _ hne,RowKit.Below.heap_setCell _ _ _ _ hne]) hS' _ _ h
theorem TX.make {w0 w:World} {p q k:Nat} {tv:Value} {l:List (ByteArray×Int)} {t:Ex} {cs:Array Value} (h:TX w0 w p q tv l k t cs) (hlt:∀ b n c,tv=.slice (some ⟨b,0,none⟩) n c→b < w0.heap.size) (s:ByteArray) {x0 x1 x2 x3 x4 y0 y1 y2 y3 y4:Value} {u:Ex} (cy:Obj) (hcs:cs=#[x0,x1,x2,x3,x4]) (hu:Rd (fun b=>w0.heap.size < b∧b≠q) w u (.agg #[y0,y1,y2,y3,y4])) :
 TX w0 (((put5 w q (.string s) (iV 0) (iV 0) (.string nilB) (.slice (some ⟨w.heap.size+1,0,none⟩) 2 2)).alloc cy).alloc (.cells #[x0,x1,x2,x3,x4,y0,y1,y2,y3,y4] 33)) p q tv l k (opE' s t u) #[.string s,iV 0,iV 0,.string nilB,.slice (some ⟨w.heap.size+1,0,none⟩) 2 2]:=by
 subst hcs
 have hs5:=put5_size w q (.string s) (iV 0) (iV 0) (.string nilB) (.slice (some ⟨w.heap.size+1,0,none⟩) 2 2)
 have hx:∀ W:World,Ext W ((W.alloc cy).alloc (.cells #[x0,x1,x2,x3,x4,y0,y1,y2,y3,y4] 33)):=fun W=>Ext.alloc (Ext.alloc (Ext.refl _) _) _
 have hg:=h.ge;have hp:=h.pl
 have hql:=zL h.at_
 have hfr:∀ {v:Ex} {r:Value},Rd (fun b=>w0.heap.size < b∧b≠q) w v r→Rd (fun b=>w0.heap.size < b∧b≠q) (put5 w q (.string s) (iV 0) (iV 0) (.string nilB) (.slice (some ⟨w.heap.size+1,0,none⟩) 2 2)) v r:=fun hr=>
  Rd.frame (fun b o hb hl=>by
   have hne:b≠q:=hb.2
   unfold World.cell?
   simp only [put5]
   rw [RowKit.Below.heap_setCell _ _ _ _ hne,RowKit.Below.heap_setCell _ _ _ _ hne,RowKit.Below.heap_setCell _ _ _ _ hne,RowKit.Below.heap_setCell _ _ _ _ hne,RowKit.Below.heap_setCell _ _ _ _ hne]) (fun _ h=>h) _ _ hr
 have h1:=put5_px h.px (show p≠q by omega) (fun b n c e=>by have:=hlt b n c e;omega) (.string s) (iV 0) (iV 0) (.string nilB) (.slice (some ⟨w.heap.size+1,0,none⟩) 2 2)
 have h2:=put5_kx h.kx (show w0.heap.size≤q by omega) (.string s) (iV 0) (iV 0) (.string nilB) (.slice (some ⟨w.heap.size+1,0,none⟩) 2 2)
 have h3:=put5_at h.at_ (.string s) (iV 0) (iV 0) (.string nilB) (.slice (some ⟨w.heap.size+1,0,none⟩) 2 2)
 have h4:=hfr h.rd
 have h5:=hfr hu
 have h6:(put5 w q (.string s) (iV 0) (iV 0) (.string nilB) (.slice (some ⟨w.heap.size+1,0,none⟩) 2 2)).heap[w0.heap.size]? = some (.cells zero5 33):=by
  simp only [put5]
  have hne:w0.heap.size≠q:=by omega
  rw [RowKit.Below.heap_setCell _ _ _ _ hne,RowKit.Below.heap_setCell _ _ _ _ hne,RowKit.Below.heap_setCell _ _ _ _ hne,RowKit.Below.heap_setCell _ _ _ _ hne,RowKit.Below.heap_setCell _ _ _ _ hne]
  exact h.res
 have hk0:=h.kx.size
 generalize put5 w q (.string s) (iV 0) (iV 0) (.string nilB) (.slice (some ⟨w.heap.size+1,0,none⟩) 2 2)=W at *
 refine ⟨h1.ext (hx W),h2.ext (hx W),((hx W).block _ (zL h3)).trans h3,?_,((hx W).block _ (zL h6)).trans h6,hg,hp⟩
 exact Rd.two (block_new (by rw [World.size_alloc,hs5])) ⟨by omega,by omega⟩ (h4.ext (hx W)) (h5.ext (hx W))
def foldT (t:Ex) (ps:List (ByteArray×Ex)):Ex:=ps.foldl (fun t x=>opE' x.1 t x.2) t
theorem foldT_succ (t:Ex) (ps:List (ByteArray×Ex)) (i:Nat) (h:i < ps.length):foldT t (ps.take (i+1))=opE' ps[i].1 (foldT t (ps.take i)) ps[i].2:=by
 unfold foldT
 rw [List.take_succ_eq_append_getElem h,List.foldl_append]
 rfl
theorem term_any (p:Nat) (tv:Value) (l:List (ByteArray×Int)) (k:Nat) (w:World) (h:PX 164 w p tv l k []) (t0:Ex) (ps:List (ByteArray×Ex)) (hlen:k+1+2 * ps.length < l.length) (h0:FacT l[k].1 t0)
 (hps:∀ i (hi:i < ps.length),l[k+1+2 * i].1=ps[i].1∧((ps[i].1.toList == [42])=true∨(ps[i].1.toList == [42])=false∧(ps[i].1.toList == [47])=true)∧FacT l[k+2+2 * i].1 ps[i].2) (z:ByteArray) (hz:l[k+1+2 * ps.length].1=z) (hz1:(z.toList == [42])=false) (hz2:(z.toList == [47])=false) (hkb:k+2 * ps.length≤100000) :
 Calls Tryz.prog 212 #[.pointer (some ⟨p,0,none⟩)] w fun e w'=>∃ v,e=.returned v∧Rd (fun b=>w.heap.size < b) w' (foldT t0 ps) v∧PX 164 w' p tv l (k+1+2 * ps.length) []∧KX p w w':=by
 have HF0:=zH (fun wz (hz:PX 164 wz p tv l k [])=>factor_any p tv l k wz hz (by omega) t0 h0 (by omega))
 have HTX:=zH (fun j (hj:j < l.length) wz (hz:PX 164 wz p tv l j [])=>text_any p tv l j wz hz.c.1 hz.c.2.1 hz.tok hj)
 have HPS:=zH hps
 have HP:=zH h
 have HLT:=zH (h.lt (by omega))
 have hpl:=zL h.at_
 obtain ⟨op0,m1,m2,nm0,rfl,hI0⟩:=h0.form
 have HI0:=zH hI0
 simp only [lfV] at HF0
 have HZ:=zH hz
 clear h h0 hps hI0 hz
 go_in
 go_upto_region 2 with (go_at_call 216;(refine (HF0.out _ (HP.out.ext xt)).mono ?_);rintro e w1 ⟨rfl,hp1,hx1⟩;have HX1:Hid (KX p w w1):=zH ((KX.of_ext xt).trans hx1);have HR1:Hid (w1.heap[w.heap.size]? = some (.cells zero5 33)):=zH (hx1.at (block_new rfl) (show w.heap.size≠p by omega));have HP1:=zH hp1;have hsz1:w.heap.size < w1.heap.size:=Nat.lt_of_lt_of_le (by simp) hx1.size;clear hx1 hp1)
 have hTX:TX w (w1.alloc (.cells #[.string op0,iV m1,iV m2,.string nm0,.slice none 0 0] 33)) p w1.heap.size tv l (k+1) (foldT (leaf op0 (m1,m2) nm0) (ps.take 0)) #[.string op0,iV m1,iV m2,.string nm0,.slice none 0 0]:=
  ⟨HP1.out.ext xt,HX1.out.ext xt,block_new rfl,Rd.leaf HI0.out,((Ext.alloc (Ext.refl w1) _).block _ (zL HR1.out)).trans HR1.out,hsz1,hpl⟩
 have HTX0:=zH hTX
 clear hTX
 obtain ⟨q,hq⟩:∃ q,q=w1.heap.size:=⟨_,rfl⟩
 rw [← hq] at HTX0 ⊢
 clear hq
 generalize w1.alloc (.cells #[.string op0,iV m1,iV m2,.string nm0,.slice none 0 0] 33)=w2 at *
 clear HX1 HR1 HP1 hsz1
 go_loopw [4] (fun _ wr=>∃ i cs,i≤ps.length∧Hid (TX w wr p q tv l (k+1+2 * i) (foldT (leaf op0 (m1,m2) nm0) (ps.take i)) cs)) (fun _ wr=>k+1+2 * ps.length - posOf wr p)
 case atStart=>exact ⟨0,_,Nat.zero_le _,HTX0⟩
 case round=>
  rename World=>wr
  obtain ⟨i,cs,hi,HT⟩:=hrel
  by_cases hil:i < ps.length
  ·obtain ⟨ha,hb,hc⟩:=HPS.out i hil
   have HFY:=zH (fun wz (hz:PX 164 wz p tv l (k+2+2 * i) [])=>factor_any p tv l (k+2+2 * i) wz hz (by omega) ps[i].2 hc (by omega))
   have HTXT:=zH (HTX.out (k+1+2 * i) (by omega))
   rw [ha] at HTXT
   have HFS:=zH (foldT_succ (leaf op0 (m1,m2) nm0) ps i hil)
   obtain ⟨opy,y1,y2,nmy,hy,hIy⟩:=hc.form
   have HIY:=zH hIy
   rw [hy] at HFY HFS
   simp only [lfV] at HFY
   generalize ps[i].1=s at *
   generalize foldT (leaf op0 (m1,m2) nm0) (ps.take i)=t at *
   obtain ⟨opx,x1,x2,nmx,bx,lx,cx,hcs⟩:=HT.out.rd.form
   injection hcs with hcs
   subst hcs
   obtain ⟨j,hj⟩:∃ j,j=k+1+2 * i:=⟨_,rfl⟩
   rw [show k+2+2 * i=j+1 by omega] at HFY
   rw [← hj] at HTXT HT
   have HJ:=zH hj
   have hw:=wz ((j:Int)+1) (by omega)
   clear ha hc hy hIy hj
   obtain ⟨c0,c1,c2,c3⟩:=HT.out.px.c
   have hpl1:=zL HT.out.px.at_
   have HPOS:=zH HT.out.px.pos
   rcases hb with hb|⟨hb,hb2⟩
   ·skip
    go_upto_region 4 with (go_at_call 140;(refine (HTXT.out _ HT.out.px).mono ?_);rintro e wr ⟨rfl,hx5⟩;have HT:=zH (HT.out.ext hx5);clear hx5)
    clear c0 c1 c2 c3 hpl1
    obtain ⟨c0,c1,c2,c3⟩:=HT.out.px.c
    have f1:wr.frozen? ⟨p,1,none⟩=false:=put_frozen HT.out.px.at_
    have hpl1:=zL HT.out.px.at_
    go_upto_region 5 with (fail)
    have HT5:Hid (TX w (wr.setCell ⟨p,1,none⟩ (iV ((j:Int)+1))) p q tv l (j+1) t _):=zH (HT.out.go (HT.out.px.step (j+1)) ((KX.of_ext (Ext.refl _)).set _))
    generalize wr.setCell ⟨p,1,none⟩ (iV ((j:Int)+1))=w5 at *
    clear c0 c1 c2 c3 f1 hpl1
    go_upto_region 6 with (go_at_call 216;(refine (HFY.out _ HT5.out.px).mono ?_);rintro e w6 ⟨rfl,hp6,hx6⟩;have HT6:=zH (HT5.out.go hp6 hx6);clear hp6 hx6)
    obtain ⟨e0,e1,e2,e3,e4,g0,g1,g2,g3,g4⟩:=cells_five HT6.out.at_
    have hql:=zL HT6.out.at_
    go_wp2_with (fail)
    have HN:=TX.make HT6.out HLT.out s (.cells #[.string opy,iV y1,iV y2,.string nmy,.slice none 0 0] 33) rfl (Rd.leaf (op:=opy) (nm:=nmy) HIY.out)
    exact ⟨⟨i+1,_,by omega,zH (by rw [HFS.out,show k+1+2 * (i+1)=j+1+1 by have:=HJ.out;omega];exact HN)⟩,by rw [HN.px.pos,HPOS.out];have:=HJ.out;omega⟩
   ·skip
    go_upto_region 4 with (go_at_call 140;(refine (HTXT.out _ HT.out.px).mono ?_);rintro e wr ⟨rfl,hx5⟩;have HT:=zH (HT.out.ext hx5);clear hx5)
    clear c0 c1 c2 c3 hpl1
    obtain ⟨c0,c1,c2,c3⟩:=HT.out.px.c
    have f1:wr.frozen? ⟨p,1,none⟩=false:=put_frozen HT.out.px.at_
    have hpl1:=zL HT.out.px.at_
    go_upto_region 5 with (fail)
    have HT5:Hid (TX w (wr.setCell ⟨p,1,none⟩ (iV ((j:Int)+1))) p q tv l (j+1) t _):=zH (HT.out.go (HT.out.px.step (j+1)) ((KX.of_ext (Ext.refl _)).set _))
    generalize wr.setCell ⟨p,1,none⟩ (iV ((j:Int)+1))=w5 at *
    clear c0 c1 c2 c3 f1 hpl1
    go_upto_region 6 with (go_at_call 216;(refine (HFY.out _ HT5.out.px).mono ?_);rintro e w6 ⟨rfl,hp6,hx6⟩;have HT6:=zH (HT5.out.go hp6 hx6);clear hp6 hx6)
    obtain ⟨e0,e1,e2,e3,e4,g0,g1,g2,g3,g4⟩:=cells_five HT6.out.at_
    have hql:=zL HT6.out.at_
    go_wp2_with (fail)
    have HN:=TX.make HT6.out HLT.out s (.cells #[.string opy,iV y1,iV y2,.string nmy,.slice none 0 0] 33) rfl (Rd.leaf (op:=opy) (nm:=nmy) HIY.out)
    exact ⟨⟨i+1,_,by omega,zH (by rw [HFS.out,show k+1+2 * (i+1)=j+1+1 by have:=HJ.out;omega];exact HN)⟩,by rw [HN.px.pos,HPOS.out];have:=HJ.out;omega⟩
  ·obtain rfl:i=ps.length:=by omega
   rw [List.take_length] at HT
   have HTXT:=zH (HTX.out (k+1+2 * ps.length) hlen)
   rw [HZ.out] at HTXT
   obtain ⟨t,ht⟩:∃ t,t=foldT (leaf op0 (m1,m2) nm0) ps:=⟨_,rfl⟩
   rw [← ht] at HT
   have HTT:=zH ht
   clear ht
   obtain ⟨opx,x1,x2,nmx,bx,lx,cx,hcs⟩:=HT.out.rd.form
   injection hcs with hcs
   subst hcs
   obtain ⟨j,hj⟩:∃ j,j=k+1+2 * ps.length:=⟨_,rfl⟩
   rw [← hj] at HTXT HT
   have HJ:=zH hj
   clear hj
   obtain ⟨c0,c1,c2,c3⟩:=HT.out.px.c
   have hpl1:=zL HT.out.px.at_
   go_upto_region 7 with (go_at_call 140;(refine (HTXT.out _ HT.out.px).mono ?_);rintro e wr ⟨rfl,hx5⟩;have HT:=zH (HT.out.ext hx5);clear hx5)
   obtain ⟨e0,e1,e2,e3,e4,g0,g1,g2,g3,g4⟩:=cells_five HT.out.at_
   obtain ⟨r0,r1,r2,r3,r4,s0,s1,s2,s3,s4⟩:=cells_five HT.out.res
   have hql:=zL HT.out.at_
   have hrl:=zL HT.out.res
   go_wp2_with (fail)
   exact bodyPost_ret (v:=.agg #[.string opx,iV x1,iV x2,.string nmx,.slice bx lx cx]) (results_cell_row Tryz.results212 _ _ w.heap.size 33 _ _ _ (by rfl) (put5_at HT.out.res _ _ _ _ _) Tryz.underlying33 rfl (by kernel_rfl)) rfl ⟨_,rfl,by rw [← HTT.out];exact put5_rd (S:=fun b=>w.heap.size < b∧b≠q) HT.out.rd (fun b hb=>Nat.ne_of_gt hb.1) (fun b hb=>hb.1),by rw [← HJ.out];exact put5_px HT.out.px (show p≠w.heap.size by omega) (fun b n c e=>by have:=HLT.out b n c e;omega) _ _ _ _ _,put5_kx HT.out.kx (Nat.le_refl _) _ _ _ _ _⟩
def TermAt (p:Nat) (tv:Value) (l:List (ByteArray×Int)) (k k':Nat) (t:Ex):Prop:=
 ∀ wz:World,PX 164 wz p tv l k []→Calls Tryz.prog 212 #[.pointer (some ⟨p,0,none⟩)] wz fun e w'=>∃ v,e=.returned v∧Rd (fun b=>wz.heap.size < b) w' t v∧PX 164 w' p tv l k' []∧KX p wz w'
theorem formula_any (p:Nat) (tv:Value) (l:List (ByteArray×Int)) (k:Nat) (pos:Nat→Nat) (w:World) (h:PX 164 w p tv l k []) (t0:Ex) (ps:List (ByteArray×Ex)) (hpos:∀ i,i≤ps.length→pos i < l.length) (hup:∀ i,i < ps.length→pos i < pos (i+1)) (hl0:0 < l.length) (h0:TermAt p tv l k (pos 0) t0)
 (hps : ∀ i (hi : i < ps.length), (l[pos i]'(hpos i (Nat.le_of_lt hi))).1 = ps[i].1 ∧ ((ps[i].1.toList == [43]) = true ∨ (ps[i].1.toList == [43]) = false ∧ (ps[i].1.toList == [45]) = true) ∧ TermAt p tv l (pos i + 1) (pos (i + 1)) ps[i].2) (z : ByteArray) (hz : (l[pos ps.length]'(hpos _ (Nat.le_refl _))).1 = z) (hz1 : (z.toList == [43]) = false) (hz2 : (z.toList == [45]) = false) (hkb : ∀ i, i ≤ ps.length → pos i ≤ 100000) :
 Calls Tryz.prog 206 #[.pointer (some ⟨p,0,none⟩)] w fun e w'=>∃ v,e=.returned v∧Rd (fun b=>w.heap.size < b) w' (foldT t0 ps) v∧PX 164 w' p tv l (pos ps.length) []∧KX p w w':=by
 have HF0:=zH (fun (wz:World) (hz:PX 164 wz p tv l k [])=>h0 wz hz)
 have HTX:=zH (fun j (hj:j < l.length) wz (hz:PX 164 wz p tv l j [])=>text_any p tv l j wz hz.c.1 hz.c.2.1 hz.tok hj)
 have HPS:=zH hps
 have HPO:=zH hpos
 have HUP:=zH hup
 have HKB:=zH hkb
 have HP:=zH h
 have HLT:=zH (h.lt (by omega))
 have hpl:=zL h.at_
 have HZ:=zH hz
 clear h h0 hps hz hkb hup hl0
 go_in
 go_upto_region 2 with (go_at_call 212;(refine (HF0.out _ (HP.out.ext xt)).mono ?_);rintro e w1 ⟨v1,rfl,hr1,hp1,hx1⟩;obtain ⟨op0,m1,m2,nm0,b0,n0,c0,rfl⟩:=hr1.form;have HX1:Hid (KX p w w1):=zH ((KX.of_ext xt).trans hx1);have HD1:=zH hr1;have HR1:Hid (w1.heap[w.heap.size]? = some (.cells zero5 33)):=zH (hx1.at (block_new rfl) (show w.heap.size≠p by omega));have HP1:=zH hp1;have hsz1:w.heap.size < w1.heap.size:=Nat.lt_of_lt_of_le (by simp) hx1.size;clear hx1 hp1 hr1)
 have hTX:TX w (w1.alloc (.cells #[.string op0,iV m1,iV m2,.string nm0,.slice b0 n0 c0] 33)) p w1.heap.size tv l (pos 0) (foldT t0 (ps.take 0)) #[.string op0,iV m1,iV m2,.string nm0,.slice b0 n0 c0]:=
  ⟨HP1.out.ext xt,HX1.out.ext xt,block_new rfl,(Rd.frame (fun _ _ _ _=>rfl) (fun b hb=>⟨by have:=hb.1;rw [World.size_alloc] at this;omega,by omega⟩) _ _ (Rd.alive _ _ HD1.out)).ext xt,((Ext.alloc (Ext.refl w1) _).block _ (zL HR1.out)).trans HR1.out,hsz1,hpl⟩
 have HTX0:=zH hTX
 clear hTX
 obtain ⟨q,hq⟩:∃ q,q=w1.heap.size:=⟨_,rfl⟩
 rw [← hq] at HTX0 ⊢
 clear hq
 generalize w1.alloc (.cells #[.string op0,iV m1,iV m2,.string nm0,.slice b0 n0 c0] 33)=w2 at *
 clear HX1 HR1 HP1 HD1 hsz1
 go_loopw [4] (fun _ wr=>∃ i cs,i≤ps.length∧Hid (TX w wr p q tv l (pos i) (foldT t0 (ps.take i)) cs)) (fun _ wr=>l.length - posOf wr p)
 case atStart=>exact ⟨0,_,Nat.zero_le _,HTX0⟩
 case round=>
  rename World=>wr
  obtain ⟨i,cs,hi,HT⟩:=hrel
  by_cases hil:i < ps.length
  ·obtain ⟨ha,hb,hc⟩:=HPS.out i hil
   have HTXT:=zH (HTX.out (pos i) (HPO.out i hi))
   rw [ha] at HTXT
   have HFS:=zH (foldT_succ t0 ps i hil)
   have HFY:=zH (fun (wz:World) (hz:PX 164 wz p tv l (pos i+1) [])=>hc wz hz)
   obtain ⟨sy,hsy⟩:∃ sy,sy=ps[i]:=⟨_,rfl⟩
   rw [← hsy] at HTXT HFS HFY hb
   obtain ⟨s,y⟩:=sy
   generalize foldT t0 (ps.take i)=t at *
   obtain ⟨opx,x1,x2,nmx,bx,lx,cx,hcs⟩:=HT.out.rd.form
   injection hcs with hcs
   subst hcs
   have hjb:=HKB.out i hi
   have HJL:=zH (HPO.out i hi)
   have HJU:=zH (HUP.out i hil)
   have HJM:=zH (HPO.out (i+1) hil)
   obtain ⟨j,hj⟩:∃ j,j=pos i:=⟨_,rfl⟩
   rw [← hj] at HTXT HT HFY hjb HJL HJU
   have hw:=wz ((j:Int)+1) (by omega)
   clear ha hc hj hsy
   simp only at hb
   obtain ⟨c0,c1,c2,c3⟩:=HT.out.px.c
   have hpl1:=zL HT.out.px.at_
   have HPOS:=zH HT.out.px.pos
   rcases hb with hb|⟨hb,hb2⟩
   ·skip
    go_upto_region 4 with (go_at_call 140;(refine (HTXT.out _ HT.out.px).mono ?_);rintro e wr ⟨rfl,hx5⟩;have HT:=zH (HT.out.ext hx5);clear hx5)
    clear c0 c1 c2 c3 hpl1
    obtain ⟨c0,c1,c2,c3⟩:=HT.out.px.c
    have f1:wr.frozen? ⟨p,1,none⟩=false:=put_frozen HT.out.px.at_
    have hpl1:=zL HT.out.px.at_
    go_upto_region 5 with (fail)
    have HT5:Hid (TX w (wr.setCell ⟨p,1,none⟩ (iV ((j:Int)+1))) p q tv l (j+1) t _):=zH (HT.out.go (HT.out.px.step (j+1)) ((KX.of_ext (Ext.refl _)).set _))
    generalize wr.setCell ⟨p,1,none⟩ (iV ((j:Int)+1))=w5 at *
    clear c0 c1 c2 c3 f1 hpl1
    have hq5:=zL HT5.out.at_
    have hk5:=HT5.out.kx.size
    go_upto_region 6 with (go_at_call 212;(refine (HFY.out _ HT5.out.px).mono ?_);rintro e w6 ⟨vy,rfl,hr6,hp6,hx6⟩;obtain ⟨opy,y1,y2,nmy,by_,ly,cy,rfl⟩:=hr6.form;have HT6:=zH (HT5.out.go hp6 hx6);have HY6:Hid (Rd (fun b=>w.heap.size < b∧b≠q) w6 y _):=zH (Rd.frame (fun _ _ _ _=>rfl) (fun b hb=>⟨by omega,by omega⟩) _ _ hr6);clear hp6 hx6 hr6)
    obtain ⟨e0,e1,e2,e3,e4,g0,g1,g2,g3,g4⟩:=cells_five HT6.out.at_
    have hql:=zL HT6.out.at_
    go_wp2_with (fail)
    have HN:=TX.make HT6.out HLT.out s (.cells #[.string opy,iV y1,iV y2,.string nmy,.slice by_ ly cy] 33) rfl HY6.out
    exact ⟨⟨i+1,_,by omega,zH (by rw [HFS.out];exact HN)⟩,by rw [HN.px.pos,HPOS.out];have:=HJU.out;have:=HJL.out;have:=HJM.out;omega⟩
   ·skip
    go_upto_region 4 with (go_at_call 140;(refine (HTXT.out _ HT.out.px).mono ?_);rintro e wr ⟨rfl,hx5⟩;have HT:=zH (HT.out.ext hx5);clear hx5)
    clear c0 c1 c2 c3 hpl1
    obtain ⟨c0,c1,c2,c3⟩:=HT.out.px.c
    have f1:wr.frozen? ⟨p,1,none⟩=false:=put_frozen HT.out.px.at_
    have hpl1:=zL HT.out.px.at_
    go_upto_region 5 with (fail)
    have HT5:Hid (TX w (wr.setCell ⟨p,1,none⟩ (iV ((j:Int)+1))) p q tv l (j+1) t _):=zH (HT.out.go (HT.out.px.step (j+1)) ((KX.of_ext (Ext.refl _)).set _))
    generalize wr.setCell ⟨p,1,none⟩ (iV ((j:Int)+1))=w5 at *
    clear c0 c1 c2 c3 f1 hpl1
    have hq5:=zL HT5.out.at_
    have hk5:=HT5.out.kx.size
    go_upto_region 6 with (go_at_call 212;(refine (HFY.out _ HT5.out.px).mono ?_);rintro e w6 ⟨vy,rfl,hr6,hp6,hx6⟩;obtain ⟨opy,y1,y2,nmy,by_,ly,cy,rfl⟩:=hr6.form;have HT6:=zH (HT5.out.go hp6 hx6);have HY6:Hid (Rd (fun b=>w.heap.size < b∧b≠q) w6 y _):=zH (Rd.frame (fun _ _ _ _=>rfl) (fun b hb=>⟨by omega,by omega⟩) _ _ hr6);clear hp6 hx6 hr6)
    obtain ⟨e0,e1,e2,e3,e4,g0,g1,g2,g3,g4⟩:=cells_five HT6.out.at_
    have hql:=zL HT6.out.at_
    go_wp2_with (fail)
    have HN:=TX.make HT6.out HLT.out s (.cells #[.string opy,iV y1,iV y2,.string nmy,.slice by_ ly cy] 33) rfl HY6.out
    exact ⟨⟨i+1,_,by omega,zH (by rw [HFS.out];exact HN)⟩,by rw [HN.px.pos,HPOS.out];have:=HJU.out;have:=HJL.out;have:=HJM.out;omega⟩
  ·obtain rfl:i=ps.length:=by omega
   rw [List.take_length] at HT
   have HTXT:=zH (HTX.out (pos ps.length) (HPO.out _ (Nat.le_refl _)))
   rw [HZ.out] at HTXT
   obtain ⟨t,ht⟩:∃ t,t=foldT t0 ps:=⟨_,rfl⟩
   rw [← ht] at HT
   have HTT:=zH ht
   clear ht
   obtain ⟨opx,x1,x2,nmx,bx,lx,cx,hcs⟩:=HT.out.rd.form
   injection hcs with hcs
   subst hcs
   obtain ⟨j,hj⟩:∃ j,j=pos ps.length:=⟨_,rfl⟩
   rw [← hj] at HTXT HT
   have HJ:=zH hj
   clear hj
   obtain ⟨c0,c1,c2,c3⟩:=HT.out.px.c
   have hpl1:=zL HT.out.px.at_
   go_upto_region 7 with (go_at_call 140;(refine (HTXT.out _ HT.out.px).mono ?_);rintro e wr ⟨rfl,hx5⟩;have HT:=zH (HT.out.ext hx5);clear hx5)
   obtain ⟨e0,e1,e2,e3,e4,g0,g1,g2,g3,g4⟩:=cells_five HT.out.at_
   obtain ⟨r0,r1,r2,r3,r4,s0,s1,s2,s3,s4⟩:=cells_five HT.out.res
   have hql:=zL HT.out.at_
   have hrl:=zL HT.out.res
   go_wp2_with (fail)
   exact bodyPost_ret (v:=.agg #[.string opx,iV x1,iV x2,.string nmx,.slice bx lx cx]) (results_cell_row Tryz.results206 _ _ w.heap.size 33 _ _ _ (by rfl) (put5_at HT.out.res _ _ _ _ _) Tryz.underlying33 rfl (by kernel_rfl)) rfl ⟨_,rfl,by rw [← HTT.out];exact put5_rd (S:=fun b=>w.heap.size < b∧b≠q) HT.out.rd (fun b hb=>Nat.ne_of_gt hb.1) (fun b hb=>hb.1),by rw [← HJ.out];exact put5_px HT.out.px (show p≠w.heap.size by omega) (fun b n c e=>by have:=HLT.out b n c e;omega) _ _ _ _ _,put5_kx HT.out.kx (Nat.le_refl _) _ _ _ _ _⟩
end Go.Proofs.YteomcpplajeidaaGreat
