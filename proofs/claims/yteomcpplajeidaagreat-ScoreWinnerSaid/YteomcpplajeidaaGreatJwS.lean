/-
  Lemmas of this claim (JwS). Nothing is asked.
-/
import Derived.Test.YteomcpplajeidaaGreatJwR
set_option linter.unusedVariables false
set_option linter.unusedSimpArgs false
set_option maxRecDepth 100000
set_option maxHeartbeats 40000000
namespace Go.Proofs.YteomcpplajeidaaGreat
open Go.RowKit
theorem PX.away {T:TypeId} {w:World} {p k q o:Nat} {tv u:Value} {l:List (ByteArray×Int)} {rest:List Value} (h:PX T w p tv l k rest) (hq:p≠q) (hne:∀ b n c,tv=.slice (some ⟨b,0,none⟩) n c→b≠q):PX T (w.setCell ⟨q,o,none⟩ u) p tv l k rest:=
 ⟨(RowKit.Below.heap_setCell _ _ _ _ hq).trans h.at_,h.tok.kx ((KX.of_ext (Ext.refl _)).set _) hne,h.ne⟩
theorem PX.lt {T:TypeId} {w:World} {p k:Nat} {tv:Value} {l:List (ByteArray×Int)} {rest:List Value} (h:PX T w p tv l k rest) (h0:0 < l.length):∀ b n c,tv=.slice (some ⟨b,0,none⟩) n c→b < w.heap.size:=by
 rintro b n c rfl
 obtain ⟨g,e,-,hg,-⟩:=tok_at h.tok 0 h0
 injection e with e
 injection e with e
 subst e
 exact hg
theorem KX.at {p q:Nat} {w w':World} (k:KX p w w') {cs:Array Value} {t:TypeId} (h:w.heap[q]? = some (.cells cs t)) (hq:q≠p):w'.heap[q]? = some (.cells cs t):=
 (k.block q (zL h) (fun e=>hq (by injection e))).trans h
theorem KX.new {p q o:Nat} {w w':World} {u:Value} (k:KX p w w') (hq:w.heap.size≤q):KX p w (w'.setCell ⟨q,o,none⟩ u):=
 ⟨k.os,k.tape,k.output,by rw [World.size_setCell];exact k.size,fun i hi hne=>(RowKit.Below.heap_setCell _ _ _ _ (show i≠q by omega)).trans (k.block i hi hne)⟩
structure CX (w0 w:World) (p c:Nat) (tv:Value) (l:List (ByteArray×Int)) (k:Nat) (rest:List Value) (cs:Array Value):Prop where
 px:PX 166 w p tv l k rest
 at_:w.heap[c]? = some (.cells cs 78)
 low:KX p w0 w
 ge:w0.heap.size≤c
 pc:p≠c
 ne:∀ b n c',tv=.slice (some ⟨b,0,none⟩) n c'→b≠c
section
variable {w0 w w':World} {p c k k':Nat} {tv:Value} {l:List (ByteArray×Int)} {rest:List Value} {cs:Array Value}
theorem CX.ext (h:CX w0 w p c tv l k rest cs) (x:Ext w w'):CX w0 w' p c tv l k rest cs:=⟨h.px.ext x,(x.block _ (zL h.at_)).trans h.at_,h.low.ext x,h.ge,h.pc,h.ne⟩
theorem CX.go (h:CX w0 w p c tv l k rest cs) (hp:PX 166 w' p tv l k' rest) (x:KX p w w'):CX w0 w' p c tv l k' rest cs:=⟨hp,x.at h.at_ (Ne.symm h.pc),h.low.trans x,h.ge,h.pc,h.ne⟩
theorem CX.put (h:CX w0 w p c tv l k rest cs) (o:Nat) (u:Value):CX w0 (w.setCell ⟨c,o,none⟩ u) p c tv l k rest (cs.setIfInBounds o u):=⟨h.px.away h.pc h.ne,heap_put _ h.at_,h.low.new h.ge,h.ge,h.pc,h.ne⟩
end
theorem critL_any (p:Nat) (tv:Value) (l:List (ByteArray×Int)) (k:Nat) (rest:List Value) (w:World) (h:PX 166 w p tv l k rest) (hk:k+4 < l.length) (s g a b z:ByteArray) (hs:l[k].1=s) (hg:l[k+1].1=g) (ha:l[k+2].1=a) (hb:l[k+3].1=b) (hz:l[k+4].1=z)
 (hsz:s.size≤1000000) (hsd:worS s=true) (hge:(g.toList == [103,114,97,100,101])=true) (hgo:(g.toList == [111,102,102,101,114])=false) (hze:(z.toList == [108,101,115,115])=false)
 (haz:a.size≤1000000) (had:numS a=true) (ha1:0≤valU a a.size) (ha2:valU a a.size≤1000000000) (hbz:b.size≤1000000) (hbd:numS b=true) (hb1:0≤valU b b.size) (hb2:valU b b.size≤1000000000) (hkb:k≤100000) (hr:rest[3]? = some (.slice none 0 0)) :
 Calls Tryz.prog 178 #[.pointer (some ⟨p,0,none⟩)] w fun e w'=>e=.returned (.tuple #[])∧∃ q cap,w.heap.size≤q∧PX 166 w' p tv l (k+4) (rest.set 3 (.slice (some ⟨q,0,none⟩) 1 cap))∧KX p w w'∧w'.ownsRow w.heap.size 78 5 (.slice (some ⟨q,0,none⟩) 1 cap) 1 ([⟨s,1,valU a a.size,valU b b.size,false⟩].flatMap cellsCr):=by
 have HW:=zH (word_any 166 p tv l k rest w h (by omega) s hs hsz hsd (by omega))
 have HG:=zH (fun wz o (hw:PX 166 wz p tv l (k+1) rest)=>one_any 166 p tv l (k+1) rest ⟨#[103,114,97,100,101]⟩ o wz hw (by omega) g hg (by rw [show (⟨#[103,114,97,100,101]⟩:ByteArray).toList=[103,114,97,100,101] from by kernel_rfl];exact hge) (by omega))
 have HA:=zH (fun wz (hw:PX 166 wz p tv l (k+2) rest)=>number_any 166 p tv l (k+2) rest 0 wz hw (by omega) a ha haz had ha1 ha2 (by omega))
 have HB:=zH (fun wz (hw:PX 166 wz p tv l (k+3) rest)=>number_any 166 p tv l (k+3) rest 0 wz hw (by omega) b hb hbz hbd hb1 hb2 (by omega))
 have HZ:=zH (fun wz (hw:PX 166 wz p tv l (k+4) rest)=>text_any p tv l (k+4) wz hw.c.1 hw.c.2.1 hw.tok (by omega))
 rw [hz] at HZ
 have HR:=zH hr;have H0:=zH h
 have hl0:0 < l.length:=by omega
 clear h hs hg ha hb hz hsd had ha1 ha2 hbd hb1 hb2 hr hge
 generalize valU a a.size=x at *
 generalize valU b b.size=y at *
 go_in
 go_upto_region 1 with (go_at_call 179;(refine HW.out.mono ?_);rintro e w1 ⟨rfl,hp1,hx1⟩)
 have hc1:CX w (w1.alloc (.cells #[.string s,iV 1,iV 0,iV 0,.bool false] 78)) p w1.heap.size tv l (k+1) rest #[.string s,iV 1,iV 0,iV 0,.bool false]:=
  ⟨hp1.ext (Ext.alloc (Ext.refl _) _),block_new rfl,hx1.ext (Ext.alloc (Ext.refl _) _),hx1.size,(by have:=zL hp1.at_;omega),fun b n c' e=>by have:=hp1.lt hl0 b n c' e;omega⟩
 have HC1:=zH hc1
 obtain ⟨c,hc⟩:∃ c,c=w1.heap.size:=⟨_,rfl⟩
 rw [← hc] at HC1 ⊢
 clear hc1 hp1 hx1 hc
 generalize w1.alloc (.cells #[.string s,iV 1,iV 0,iV 0,.bool false] 78)=w2 at *
 have r1:=(HC1.out.px.r 3).trans HR.out
 have hpl:=zL HC1.out.px.at_
 have hcl:=zL HC1.out.at_
 go_upto_region 2 with (fail)
 go_loopw [3] (fun kv wr=>kv=iV 0∧wr=w2) (fun kv _=>0)
 case atStart=>exact ⟨rfl,rfl⟩
 case round=>
  obtain ⟨rfl,rfl⟩:=hrel
  go_upto_region 7 with (go_at_call 180;(refine (HG.out _ _ HC1.out.px).mono ?_);rintro e w3 ⟨rfl,hp3,hx3⟩)
  have HC3:=zH (HC1.out.go hp3 hx3)
  clear hp3 hx3 r1 hpl hcl
  go_upto_region 9 with (fail)
  go_upto_region 10 with (go_at_call 181;(refine (HA.out _ HC3.out.px).mono ?_);rintro e w4 ⟨rfl,hp4,hx4⟩;have HC4:=zH (HC3.out.go hp4 hx4);clear hp4 hx4;have e4:=(cell_of_row w4 c 2 _ _ _ HC4.out.at_);change w4.cell? _=some (iV 0) at e4;have f4:w4.frozen? ⟨c,2,none⟩=false:=put_frozen HC4.out.at_)
  have HC5:=zH (HC4.out.put 2 (iV x))
  clear e4 f4
  generalize w4.setCell ⟨c,2,none⟩ (iV x)=w5 at *
  go_upto_region 11 with (go_at_call 181;(refine (HB.out _ HC5.out.px).mono ?_);rintro e w6 ⟨rfl,hp6,hx6⟩;have HC6:=zH (HC5.out.go hp6 hx6);clear hp6 hx6;have e6:=(cell_of_row w6 c 3 _ _ _ HC6.out.at_);change w6.cell? _=some (iV 0) at e6;have f6:w6.frozen? ⟨c,3,none⟩=false:=put_frozen HC6.out.at_)
  have HC7:=zH (HC6.out.put 3 (iV y))
  clear e6 f6
  generalize w6.setCell ⟨c,3,none⟩ (iV y)=w7 at *
  obtain ⟨c0,c1,c2,c3⟩:=HC7.out.px.c
  have hpl:=zL HC7.out.px.at_
  go_upto_region 14 with (go_at_call 140;(refine (HZ.out _ HC7.out.px).mono ?_);rintro e w8 ⟨rfl,hx8⟩)
  have HC8:=zH (HC7.out.ext hx8)
  clear hx8 c0 c1 c2 c3 hpl
  have HCC:Hid (∀ wz,Ext w8 wz→wz.cell? ⟨p,7,none⟩=some (.slice none 0 0)∧wz.cell? ⟨c,0,none⟩=some (.string s)∧wz.cell? ⟨c,1,none⟩=some (iV 1)∧wz.cell? ⟨c,2,none⟩=some (iV x)∧wz.cell? ⟨c,3,none⟩=some (iV y)∧wz.cell? ⟨c,4,none⟩=some (.bool false)∧p < wz.heap.size∧c < wz.heap.size):=zH fun wz hz=>by
   have h1:=HC8.out.ext hz
   have h2:=h1.at_
   exact ⟨(h1.px.r 3).trans HR.out,cell_of_row wz c 0 _ _ _ h2,cell_of_row wz c 1 _ _ _ h2,cell_of_row wz c 2 _ _ _ h2,cell_of_row wz c 3 _ _ _ h2,cell_of_row wz c 4 _ _ _ h2,zL h1.px.at_,zL h2⟩
  refine Rp.wp_regionTE [0] [(0,.y),(1,.y),(2,.y),(3,.y),(4,.y),(5,.y),(6,.y),(7,.m)] [8,9,10,11,12] (fun _=>(.cells #[.string s,iV 1,iV x,iV y,.bool false] 78,fun p=>.slice (some ⟨p,0,none⟩) 1 1)) (fun c a d v w h=>by have h':_∧_:=h;exact ⟨(Rr.put_defers a d v).symm.trans h'.1,h'.2⟩) (by kernel_rfl) (by kernel_rfl) ?_
  iterate 7
   (refine Rr.yd ?_
    apply Exists.intro
    refine ⟨fun wz hw hh=>?_,?_⟩
    ·obtain ⟨d0,d1,d2,d3,d4,d5,d6,d7⟩:=HCC.out wz hw
     go_simp
     (with_reducible exact zU)
    simp only [zp])
  (refine Rr.wr_m (by simp only [ga,gb,gc];rfl) (by rfl) (fun wz=>by go_simp) (fun pR hpR=>?_)
   simp only [zp])
  refine Rr.wr_nil ?_
  intro wy hy hh
  obtain ⟨-,hpge,hpb⟩:=hh _ zM
  clear hh
  simp only [List.filterMap_cons,List.filterMap_nil,List.getElem?_cons_succ,List.getElem?_cons_zero]
  have HC9:=zH (HC8.out.ext hy)
  have hsz:w8.heap.size≤wy.heap.size:=hy.size
  have HY:=zH hy
  have HRL:=zH (KX.at (p:=p) (KX.of_ext (Ext.refl wy)) hpb)
  clear hy
  refine append_one (cs:=cellsCr) (z:=.agg #[.string ⟨#[]⟩,iV 0,iV 0,iV 0,.bool false]) (fun _=>⟨rfl,by simp [cellsCr,Value.oneCell']⟩) 27 78 48 Tryz.underlying27 (by kernel_rfl) (by rfl) (by decide) (by decide) rfl (.tmp 71) (.tmp 73) rfl wy.heap.size (.slice none 0 0) [] (by rfl) ⟨rfl,.inl ⟨rfl,rfl⟩⟩ pR ⟨s,1,x,y,false⟩ (by rfl) hpb (by simp) (Nat.le_refl _) ?_
  intro g7 cap7 u7 hr7 hb7
  have HC10:=zH (HC9.out.ext hb7)
  have HR7:=zH hr7
  clear hr7 hb7 hpb hpR hpge hsz HRL
  have r1:=(HC10.out.px.r 3).trans HR.out
  have hpl:=zL HC10.out.px.at_
  have f1:u7.frozen? ⟨p,7,none⟩=false:=put_frozen HC10.out.px.at_
  simp only [zp]
  go_wp2_with (fail)
  have hown:=own_away (p:=p) (o:=7) (u:=.slice (some ⟨g7,0,none⟩) 1 cap7) HR7.out (zL HC9.out.px.at_) w.heap.size HC9.out.low.size
  go_end0
  exact ⟨rfl,g7,cap7,Nat.le_trans HC9.out.low.size hown.1,HC10.out.px.put 3 _,HC10.out.low.set _,hown.2⟩
def runP (p:Int→Bool) (s:ByteArray):Nat→Nat→Nat
 | 0,n=>n
 | d+1,n=>if p (byZ s n) then runP p s d (n+1) else n
theorem runP_le (p:Int→Bool) (s:ByteArray):∀ d n,n≤runP p s d n∧runP p s d n≤n+d
 | 0,n=>by unfold runP;omega
 | d+1,n=>by
  unfold runP
  have:=runP_le p s d (n+1)
  split <;> omega
theorem runP_go {p:Int→Bool} {s:ByteArray} {n ed:Nat} (h:n < ed) (hp:p (byZ s n)=true):runP p s (ed - (n+1)) (n+1)=runP p s (ed - n) n:=by
 obtain ⟨d,hd⟩:∃ d,ed - n=d+1:=⟨ed - n - 1,by omega⟩
 rw [hd,show ed - (n+1)=d by omega]
 exact (if_pos hp).symm
theorem runP_no {p:Int→Bool} {s:ByteArray} {n ed:Nat} (hp:p (byZ s n)=false):runP p s (ed - n) n=n:=by
 cases h:ed - n with
 | zero=>rfl
 | succ d=>exact if_neg (by rw [hp];decide)
theorem runP_end {p:Int→Bool} {s:ByteArray} {ed:Nat}:runP p s (ed - ed) ed=ed:=by rw [Nat.sub_self];rfl
def nsp (c:Int):Bool:=!decide (c=32)
def splF (s:ByteArray) (ed:Nat):Nat→Nat→List (ByteArray×Int)
 | 0,_=>[]
 | d+1,k=>if k < ed then (if k < runP nsp s (ed - k) k then [(s.extract k (runP nsp s (ed - k) k),(k:Int))] else []) ++ splF s ed d (runP nsp s (ed - k) k+1) else []
theorem splF_len (s:ByteArray) (ed:Nat):∀ d k,(splF s ed d k).length≤ed - k
 | 0,k=>Nat.zero_le _
 | d+1,k=>by
  unfold splF
  split
  ·have h:=splF_len s ed d (runP nsp s (ed - k) k+1)
   have h2:=runP_le nsp s (ed - k) k
   split <;> simp <;> omega
  ·simp
theorem one_tok (x:ByteArray×Int):(tokC x).length=2∧∀ c∈tokC x,c.oneCell' = true:=⟨rfl,by intro c hc;simp [tokC] at hc;rcases hc with rfl|rfl <;> rfl⟩
abbrev eofT (ed:Nat):ByteArray×Int:=((⟨#[]⟩:ByteArray),(ed:Int))
def splL (s:ByteArray) (fr ed:Nat):List (ByteArray×Int):=splF s ed (ed+1 - fr) fr ++ [eofT ed]
theorem split_any (s:ByteArray) (fr ed:Nat) (hs:s.size≤900000) (hft:fr≤ed) (hto:ed≤s.size) (w:World):Calls Tryz.prog 139 #[.string s,iV fr,iV ed] w fun e w'=>∃ g cap,e=.returned (.slice (some ⟨g,0,none⟩) (splL s fr ed).length cap)∧Ext w w' ∧
 w'.ownsRow w.heap.size 232 2 (.slice (some ⟨g,0,none⟩) (splL s fr ed).length cap) (splL s fr ed).length ((splL s fr ed).flatMap tokC):=by
 have HL:=zH (splF_len s ed (ed+1 - fr) fr)
 unfold splL
 obtain ⟨L,hL⟩:∃ L,splF s ed (ed+1 - fr) fr=L:=⟨_,rfl⟩
 rw [hL] at HL ⊢
 have HE:=zH hL
 clear hL
 go_in
 go_upto_region 3 with (fail)
 go_loopw [7,8] (fun ov kv wr=>∃ (out:List (ByteArray×Int)) (k d:Nat),kv=iV k∧k≤ed+1∧Hid (ed < k+d)∧Hid (out ++ splF s ed d k=L)∧Hid (out.length≤k - fr∧fr≤k)∧Hid (Ext w wr)∧Hid (wr.ownsRow w.heap.size 232 2 ov out.length (out.flatMap tokC))) (fun _ kv _=>ed+1 - (iof kv).toNat)
 case atStart=>exact ⟨[],fr,ed+1 - fr,rfl,by omega,zH (by omega),zH (by rw [HE.out];rfl),zH (by simp),zH (Ext.refl _),zH (World.ownsRow_nil w _ _ _)⟩
 case round=>
  rename World=>wo
  obtain ⟨out,k,d,rfl,hk,HD,HO,HB,HX,HR⟩:=hrel
  by_cases hkt:k < ed
  ·have hki:(k:Int) < (ed:Int):=by omega
   obtain ⟨d',rfl⟩:∃ d',d=d' + 1:=⟨d - 1,by have:=HD.out;omega⟩
   have HN:Hid (splF s ed (d' + 1) k=(if k < runP nsp s (ed - k) k then [(s.extract k (runP nsp s (ed - k) k),(k:Int))] else []) ++ splF s ed d' (runP nsp s (ed - k) k+1)):=zH (if_pos hkt)
   have HRL:=zH (runP_le nsp s (ed - k) k)
   obtain ⟨m,hm⟩:∃ m,runP nsp s (ed - k) k=m:=⟨_,rfl⟩
   rw [hm] at HN HRL
   have HM:=zH hm
   clear hm
   go_upto_region 5 with (fail)
   go_loopw [9] (fun nv wr=>∃ n:Nat,nv=iV n∧k≤n∧n≤ed∧Hid (runP nsp s (ed - n) n=m)∧wr=wo) (fun nv _=>ed - (iof nv).toNat)
   case atStart=>exact ⟨k,rfl,Nat.le_refl _,by omega,HM,rfl⟩
   case round=>
    obtain ⟨n,rfl,hkn,hnt,HQ,rfl⟩:=hrel
    by_cases hnl:n < ed
    ·by_cases hby:((s[n].toNat:Nat):Int)=32
     ·have HE2:Hid (n=m):=zH (by rw [← HQ.out];exact (runP_no (by unfold nsp;rw [byZ_at (by omega),hby];rfl)).symm)
      by_cases hnk:k < n
      ·have hnki:(k:Int) < (n:Int):=by omega
       have HS:Hid (splF s ed (d' + 1) k=(s.extract k n,(k:Int)) :: splF s ed d' (n+1)):=zH (by rw [HN.out,← HE2.out,if_pos hnk];rfl)
       obtain ⟨W8,hW8⟩:∃ W8:World,W8=wr.alloc (.cells #[.string (s.extract k n),iV k] 232):=⟨_,rfl⟩
       have hxa:Ext wr W8:=by rw [hW8];exact Ext.alloc (Ext.refl _) _
       have hat:W8.heap[wr.heap.size]? = some (.cells #[.string (s.extract k n),iV k] 232):=by rw [hW8];exact block_new rfl
       have HXA:=zH hxa;have HAT:=zH hat;have HW:=zH hW8
       have HRX:=zH (row_ext HR.out hxa)
       have HXB:=zH (HX.out.trans hxa)
       have hlen:out.length < 1000000:=by have:=HB.out;omega
       clear hxa hat hW8
       go_wp2_with (at_builtin;rw [← HW.out];refine append_one (cs:=tokC) (z:=.agg #[.string ⟨#[]⟩,iV 0]) one_tok 162 232 24 Tryz.underlying162 (by kernel_rfl) (by rfl) (by decide) (by decide) rfl (.tmp 29) (.tmp 36) rfl w.heap.size _ out (by rfl) HRX.out wr.heap.size (s.extract k n,(k:Int)) (by rfl) HAT.out hlen (Nat.le_trans HX.out.size HXA.out.size) ?_;intro g7 cap7 w7 hr7 hb7;have HX7:Hid (Ext w w7):=zH (RowKit.Below.trans HXB.out hb7);have HR7:=zH hr7;clear hr7 hb7)
       exact ⟨⟨out ++ [(s.extract k n,(k:Int))],n+1,d',by simp,by omega,zH (by have:=HD.out;omega),zH (by rw [← HO.out,HS.out];simp),zH (by have:=HB.out;simp;omega),HX7,HR7⟩,by simp [iof];omega⟩
      ·obtain rfl:k=n:=by omega
       have HS:Hid (splF s ed (d' + 1) k=splF s ed d' (k+1)):=zH (by rw [HN.out,← HE2.out,if_neg (Nat.lt_irrefl k)];rfl)
       go_wp2_with (fail)
       all_goals exact ⟨⟨out,k+1,d',by simp,by omega,zH (by have:=HD.out;omega),zH (by rw [← HO.out,HS.out]),zH (by have:=HB.out;omega),HX,HR⟩,by simp [iof];omega⟩
     ·have HE2:Hid (runP nsp s (ed - (n+1)) (n+1)=m):=zH (by rw [← HQ.out];exact runP_go hnl (by unfold nsp;rw [byZ_at (by omega),decide_eq_false hby];rfl))
      go_wp2_with (fail)
      exact ⟨⟨n+1,by simp,by omega,by omega,HE2,trivial⟩,by simp [iof];omega⟩
    ·have hnli:¬ (n:Int) < (ed:Int):=by omega
     have HE2:Hid (n=m):=zH (by rw [← HQ.out,show ed=n by omega];exact runP_end.symm)
     by_cases hnk:k < n
     ·have hnki:(k:Int) < (n:Int):=by omega
      have HS:Hid (splF s ed (d' + 1) k=(s.extract k n,(k:Int)) :: splF s ed d' (n+1)):=zH (by rw [HN.out,← HE2.out,if_pos hnk];rfl)
      obtain ⟨W8,hW8⟩:∃ W8:World,W8=wr.alloc (.cells #[.string (s.extract k n),iV k] 232):=⟨_,rfl⟩
      have hxa:Ext wr W8:=by rw [hW8];exact Ext.alloc (Ext.refl _) _
      have hat:W8.heap[wr.heap.size]? = some (.cells #[.string (s.extract k n),iV k] 232):=by rw [hW8];exact block_new rfl
      have HXA:=zH hxa;have HAT:=zH hat;have HW:=zH hW8
      have HRX:=zH (row_ext HR.out hxa)
      have HXB:=zH (HX.out.trans hxa)
      have hlen:out.length < 1000000:=by have:=HB.out;omega
      clear hxa hat hW8
      go_wp2_with (at_builtin;rw [← HW.out];refine append_one (cs:=tokC) (z:=.agg #[.string ⟨#[]⟩,iV 0]) one_tok 162 232 24 Tryz.underlying162 (by kernel_rfl) (by rfl) (by decide) (by decide) rfl (.tmp 29) (.tmp 36) rfl w.heap.size _ out (by rfl) HRX.out wr.heap.size (s.extract k n,(k:Int)) (by rfl) HAT.out hlen (Nat.le_trans HX.out.size HXA.out.size) ?_;intro g7 cap7 w7 hr7 hb7;have HX7:Hid (Ext w w7):=zH (RowKit.Below.trans HXB.out hb7);have HR7:=zH hr7;clear hr7 hb7)
      exact ⟨⟨out ++ [(s.extract k n,(k:Int))],n+1,d',by simp,by omega,zH (by have:=HD.out;omega),zH (by rw [← HO.out,HS.out];simp),zH (by have:=HB.out;simp;omega),HX7,HR7⟩,by simp [iof];omega⟩
     ·obtain rfl:k=n:=by omega
      have HS:Hid (splF s ed (d' + 1) k=splF s ed d' (k+1)):=zH (by rw [HN.out,← HE2.out,if_neg (Nat.lt_irrefl k)];rfl)
      go_wp2_with (fail)
      all_goals exact ⟨⟨out,k+1,d',by simp,by omega,zH (by have:=HD.out;omega),zH (by rw [← HO.out,HS.out]),zH (by have:=HB.out;omega),HX,HR⟩,by simp [iof];omega⟩
  ·have hki:¬ (k:Int) < (ed:Int):=by omega
   have HN:Hid (out=L):=zH (by rw [← HO.out];cases d with|zero=>simp [splF]|succ d=>unfold splF;rw [if_neg hkt];simp)
   rw [HN.out] at HR HB
   obtain ⟨W8,hW8⟩:∃ W8:World,W8=wo.alloc (.cells #[.string ⟨#[]⟩,iV ed] 232):=⟨_,rfl⟩
   have hxa:Ext wo W8:=by rw [hW8];exact Ext.alloc (Ext.refl _) _
   have hat:W8.heap[wo.heap.size]? = some (.cells #[.string ⟨#[]⟩,iV ed] 232):=by rw [hW8];exact block_new rfl
   have HXA:=zH hxa;have HAT:=zH hat;have HW:=zH hW8
   have HRX:=zH (row_ext HR.out hxa)
   have HXB:=zH (HX.out.trans hxa)
   have hlen:L.length < 1000000:=by have:=HB.out;omega
   clear hxa hat hW8
   go_wp2_with (at_builtin;rw [← HW.out];refine append_one (cs:=tokC) (z:=.agg #[.string ⟨#[]⟩,iV 0]) one_tok 162 232 24 Tryz.underlying162 (by kernel_rfl) (by rfl) (by decide) (by decide) rfl (.tmp 40) (.tmp 43) rfl w.heap.size _ L (by rfl) HRX.out wo.heap.size (eofT ed) (by rfl) HAT.out hlen (Nat.le_trans HX.out.size HXA.out.size) ?_;intro g7 cap7 w7 hr7 hb7;have HX7:Hid (Ext w w7):=zH (RowKit.Below.trans HXB.out hb7);have HR7:=zH hr7;clear hr7 hb7)
   go_ret
   exact ⟨g7,cap7,by simp,HX7.out,by simpa using HR7.out⟩
def decV (r:ByteArray) (n0:Int):Nat→Int
 | 0=>n0
 | j+1=>10 * decV r n0 j+(byZ r j - 48)
def tenP:Nat→Int
 | 0=>1
 | j+1=>10 * tenP j
structure DecS (s wh re:ByteArray) (d:Nat) (n0:Int):Prop where
 sz:s.size≤1000
 dl:d < s.size
 dot:∀ j,j < s.size→(byZ s j=46↔j=d)
 wh_:s.extract 0 d=wh
 re_:s.extract (d+1) s.size=re
 wz:wh.size≤1000
 num:numS wh=true
 val:valU wh wh.size=n0
 n0b:0≤n0∧n0≤9
 rz:0 < re.size∧re.size≤2
 rl:¬ byZ re (re.size - 1)=48
 rd:allU digB re re.size=true
 ne:(s.toList == [])=false
 ren:(re.toList == [])=false
 d0:digB (byZ s 0)=true
theorem decV_bd {re:ByteArray} {n0:Int} (h0:0≤n0∧n0≤9) (hr:re.size≤2) (hd:allU digB re re.size=true):∀ j,j≤re.size→0≤decV re n0 j∧decV re n0 j≤999∧1≤tenP j∧tenP j≤100:=by
 intro j hj
 match j,hj with
 | 0,_=>unfold decV tenP;omega
 | 1,h1=>
  have:=digB_bd (allU_at hd (show 0 < re.size by omega))
  simp only [decV,tenP];omega
 | 2,h2=>
  have h3:=digB_bd (allU_at hd (show 0 < re.size by omega))
  have h4:=digB_bd (allU_at hd (show 1 < re.size by omega))
  simp only [decV,tenP];omega
 | j+3,h3=>omega
theorem cells_five {w:World} {q:Nat} {a0 a1 a2 a3 a4:Value} {t:TypeId} (h:w.heap[q]? = some (.cells #[a0,a1,a2,a3,a4] t)):w.cell? ⟨q,0,none⟩=some a0∧w.cell? ⟨q,1,none⟩=some a1∧w.cell? ⟨q,2,none⟩=some a2∧w.cell? ⟨q,3,none⟩=some a3∧w.cell? ⟨q,4,none⟩=some a4 ∧
 w.frozen? ⟨q,0,none⟩=false∧w.frozen? ⟨q,1,none⟩=false∧w.frozen? ⟨q,2,none⟩=false∧w.frozen? ⟨q,3,none⟩=false∧w.frozen? ⟨q,4,none⟩=false:=
 ⟨cell_of_row w q 0 _ _ _ h,cell_of_row w q 1 _ _ _ h,cell_of_row w q 2 _ _ _ h,cell_of_row w q 3 _ _ _ h,cell_of_row w q 4 _ _ _ h,put_frozen h,put_frozen h,put_frozen h,put_frozen h,put_frozen h⟩
abbrev put5 (w:World) (q:Nat) (b0 b1 b2 b3 b4:Value):World:=((((w.setCell ⟨q,0,none⟩ b0).setCell ⟨q,1,none⟩ b1).setCell ⟨q,2,none⟩ b2).setCell ⟨q,3,none⟩ b3).setCell ⟨q,4,none⟩ b4
theorem put5_at {w:World} {q:Nat} {a0 a1 a2 a3 a4:Value} {t:TypeId} (h:w.heap[q]? = some (.cells #[a0,a1,a2,a3,a4] t)) (b0 b1 b2 b3 b4:Value):(put5 w q b0 b1 b2 b3 b4).heap[q]? = some (.cells #[b0,b1,b2,b3,b4] t):=
 heap_put _ (heap_put _ (heap_put _ (heap_put _ (heap_put _ h))))
theorem put5_kx {p q:Nat} {w w':World} (h:KX p w w') (hq:w.heap.size≤q) (b0 b1 b2 b3 b4:Value):KX p w (put5 w' q b0 b1 b2 b3 b4):=
 ((((h.new hq).new hq).new hq).new hq).new hq
theorem put5_px {T:TypeId} {w:World} {p k q:Nat} {tv:Value} {l:List (ByteArray×Int)} {rest:List Value} (h:PX T w p tv l k rest) (hq:p≠q) (hne:∀ b n c,tv=.slice (some ⟨b,0,none⟩) n c→b≠q) (b0 b1 b2 b3 b4:Value):PX T (put5 w q b0 b1 b2 b3 b4) p tv l k rest:=
 ((((h.away hq hne).away hq hne).away hq hne).away hq hne).away hq hne
theorem put5_size (w:World) (q:Nat) (b0 b1 b2 b3 b4:Value):(put5 w q b0 b1 b2 b3 b4).heap.size=w.heap.size:=by simp
theorem decimal_any (p:Nat) (tv:Value) (l:List (ByteArray×Int)) (k:Nat) (w:World) (h:PX 164 w p tv l k []) (hk:k < l.length) (s wh re:ByteArray) (d:Nat) (n0:Int) (hs:l[k].1=s) (hD:DecS s wh re d n0) (hkb:k≤1000000) :
 Calls Tryz.prog 218 #[.pointer (some ⟨p,0,none⟩)] w fun e w'=>e=.returned (.agg #[.string numB,iV (quickZ (decV re n0 re.size) (tenP re.size)).1,iV (quickZ (decV re n0 re.size) (tenP re.size)).2,.string nilB,.slice none 0 0])∧PX 164 w' p tv l (k+1) []∧KX p w w':=by
 have HT:=zH (fun wz (hz:PX 164 wz p tv l k [])=>text_any p tv l k wz hz.c.1 hz.c.2.1 hz.tok hk)
 rw [hs] at HT
 have HN:=zH (fun wz=>isNumber_any wh (by have:=hD.wz;omega) wz)
 rw [hD.num] at HN
 have hall:allU digB wh wh.size=true:=by
  have:=hD.num
  unfold numS at this
  rw [Bool.and_eq_true] at this
  exact this.1
 have HV:=zH (fun wz=>digits_any wh (by have:=hD.wz;omega) hall wz)
 rw [hD.val] at HV
 have hsz:=hD.sz;have hdl:=hD.dl;have hn0:=hD.n0b;have hrz:=hD.rz
 have HDB:=zH (decV_bd hD.n0b hD.rz.2 hD.rd)
 have HRD:=zH (fun j (hj:j < re.size)=>digB_bd (allU_at hD.rd hj))
 have HQ:=zH (fun wz=>Make_any (decV re n0 re.size) (tenP re.size) (by have:=HDB.out re.size (Nat.le_refl _);omega) (by have:=HDB.out re.size (Nat.le_refl _);omega) wz)
 generalize quickZ (decV re n0 re.size) (tenP re.size)=q at *
 obtain ⟨q1,q2⟩:=q
 have HD:=zH hD
 have HP:=zH h
 have hw:=wz ((k:Int)+1) (by omega)
 have hpl:=zL h.at_
 clear h hs hD hall
 go_in
 go_upto_region 5 with (go_at_call 140;(refine (HT.out _ (HP.out.ext xt)).mono ?_);rintro e w1 ⟨rfl,hx1⟩)
 have HX1:Hid (Ext w w1):=zH (Ext.trans xt hx1)
 have HR1:Hid (w1.heap[w.heap.size]? = some (.cells #[.string nilB,iV 0,iV 0,.string nilB,.slice none 0 0] 33)):=zH ((hx1.block _ (by simp)).trans (block_new rfl))
 clear hx1
 go_loopw [4,5,6] (fun wv rv kv wr=>∃ k:Nat,kv=iV k∧k≤s.size∧((k≤d∧wv=.string s∧rv=.string ⟨#[]⟩)∨(d < k∧wv=.string wh∧rv=.string re))∧wr=w1) (fun _ _ kv _=>s.size - (iof kv).toNat)
 case atStart=>exact ⟨0,rfl,Nat.zero_le _,.inl ⟨Nat.zero_le _,rfl,rfl⟩,rfl⟩
 case round=>
  obtain ⟨j,rfl,hj,hc,rfl⟩:=hrel
  by_cases hjl:j < s.size
  ·have hjli:(j:Int) < (s.size:Int):=by omega
   have HB:=zH (byZ_at hjl)
   by_cases hjd:j=d
   ·have hby:((s[j].toNat:Nat):Int)=46:=by rw [← HB.out];exact (HD.out.dot j hjl).2 hjd
    have HJ:=zH hjd
    clear hjd
    rcases hc with ⟨h1,rfl,rfl⟩|⟨h1,rfl,rfl⟩
    ·go_wp2_with (fail)
     exact ⟨⟨j+1,by simp,by omega,.inr ⟨by have:=HJ.out;omega,by rw [← HD.out.wh_,HJ.out],by rw [← HD.out.re_,HJ.out]⟩,trivial⟩,by simp [iof];omega⟩
    ·have:=HJ.out;omega
   ·have hby:¬ ((s[j].toNat:Nat):Int)=46:=by rw [← HB.out];exact fun h=>hjd ((HD.out.dot j hjl).1 h)
    have HJ:=zH hjd
    clear hjd
    rcases hc with ⟨h1,rfl,rfl⟩|⟨h1,rfl,rfl⟩
    ·go_wp2_with (fail)
     exact ⟨⟨j+1,by simp,by omega,.inl ⟨by have:=HJ.out;omega,rfl,rfl⟩,trivial⟩,by simp [iof];omega⟩
    ·go_wp2_with (fail)
     exact ⟨⟨j+1,by simp,by omega,.inr ⟨by omega,rfl,rfl⟩,trivial⟩,by simp [iof];omega⟩
  ·obtain ⟨h1,rfl,rfl⟩:d < j∧_:=hc.resolve_left (by omega)
   have hren:=HD.out.ren
   have hlast:re.size - 1 < re.size:=by omega
   have HLB:=zH (byZ_at hlast)
   have hl48:¬ ((re[re.size - 1].toNat:Nat):Int)=48:=by rw [← HLB.out];exact HD.out.rl
   clear hc
   go_upto_region 15 with (first
    |(go_at_call 203;(with_reducible refine (HN.out _).mono ?_);rintro e w2 ⟨rfl,rfl⟩)
    |(go_at_call 204;(with_reducible refine (HV.out _).mono ?_);rintro e w2 ⟨rfl,rfl⟩))
   go_upto_region 20 with (fail)
   go_loopw [8,9,10] (fun nv dv kv wq=>∃ j:Nat,nv=iV (decV re n0 j)∧dv=iV (tenP j)∧kv=iV j∧j≤re.size∧wq=wr) (fun _ _ kv _=>re.size - (iof kv).toNat)
   case atStart=>exact ⟨0,rfl,rfl,rfl,Nat.zero_le _,rfl⟩
   case round=>
    obtain ⟨i,rfl,rfl,rfl,hi,rfl⟩:=hrel
    by_cases hil:i < re.size
    ·obtain ⟨b1,b2,b3,b4⟩:=HDB.out i hi
     obtain ⟨d1,d2⟩:=HRD.out i hil
     have HS1:Hid (decV re n0 (i+1)=10 * decV re n0 i+(byZ re i - 48)):=zH rfl
     have HS2:Hid (tenP (i+1)=10 * tenP i):=zH rfl
     rw [byZ_at hil] at d1 d2 HS1
     have hili:(i:Int) < (re.size:Int):=by omega
     have c1:IntKind.u8.wrap ((re[i].toNat:Int) - 48)=(re[i].toNat:Int) - 48:=wrap_u8 (by omega) (by omega)
     have c2:=wz ((re[i].toNat:Int) - 48) (by omega)
     have c3:=wz (10 * decV re n0 i) (by omega)
     have c4:IntKind.i64.wrap (10 * decV re n0 i+((re[i].toNat:Int) - 48))=10 * decV re n0 i+((re[i].toNat:Int) - 48):=by rw [IntKind.wrap_i64];omega
     have c5:=wz (10 * tenP i) (by omega)
     generalize decV re n0 i=v at *
     generalize tenP i=t at *
     go_wp2_with (fail)
     exact ⟨⟨i+1,by rw [HS1.out],by rw [HS2.out],by simp,by omega,trivial⟩,by simp [iof];omega⟩
    ·obtain rfl:i=re.size:=by omega
     go_upto_region 24 with (fail)
     go_wp2_with (go_at_call 60;(refine (HQ.out _).mono ?_);rintro e w3 ⟨rfl,hx3⟩;have HX3:=zH (HX1.out.trans hx3);have HP3:=zH (HP.out.ext HX3.out);have HR3:=zH ((hx3.block _ (zL HR1.out)).trans HR1.out);clear hx3;obtain ⟨c0,c1,c2,c3⟩:=HP3.out.c;have f1:w3.frozen? ⟨p,1,none⟩=false:=put_frozen HP3.out.at_;have hl3:=zL HR3.out;have hl4:=zL HP3.out.at_;obtain ⟨e0,e1,e2,e3,e4,g0,g1,g2,g3,g4⟩:=cells_five HR3.out)
     have hp1:=HP3.out.step (k+1)
     have hq1:(w3.setCell ⟨p,1,none⟩ (iV (k+1:Nat))).heap[w.heap.size]? = _:=(RowKit.Below.heap_setCell _ _ _ _ (by show w.heap.size≠p;omega)).trans HR3.out
     have hne:∀ b n c,tv=.slice (some ⟨b,0,none⟩) n c→b≠w.heap.size:=fun b n c e=>by have:=HP.out.lt (by omega) b n c e;omega
     have hp5:=put5_px hp1 (show p≠w.heap.size by omega) hne (.string numB) (iV q1) (iV q2) (.string nilB) (.slice none 0 0)
     have hq5:=put5_at hq1 (.string numB) (iV q1) (iV q2) (.string nilB) (.slice none 0 0)
     have hk5:=put5_kx ((KX.of_ext HX3.out).set (bn:=p) (j:=1) (iV (k+1:Nat))) (Nat.le_refl _) (.string numB) (iV q1) (iV q2) (.string nilB) (.slice none 0 0)
     have hx5:=Ext.alloc (Ext.refl (put5 (w3.setCell ⟨p,1,none⟩ (iV (k+1:Nat))) w.heap.size (.string numB) (iV q1) (iV q2) (.string nilB) (.slice none 0 0))) (.cells #[iV q1,iV q2] 30)
     exact bodyPost_ret (v:=.agg #[.string numB,iV q1,iV q2,.string nilB,.slice none 0 0]) (results_cell_row Tryz.results218 _ _ w.heap.size 33 _ _ _ (by rfl) ((hx5.block _ (zL hq5)).trans hq5) Tryz.underlying33 rfl (by kernel_rfl)) rfl ⟨rfl,hp5.ext hx5,hk5.ext hx5⟩
inductive FacT:ByteArray→Ex→Prop
 | dec {s wh re:ByteArray} {d:Nat} {n0:Int}:DecS s wh re d n0→I2 (quickZ (decV re n0 re.size) (tenP re.size))→FacT s (numE (quickZ (decV re n0 re.size) (tenP re.size)))
 | name {s:ByteArray}:s.size≤1000→0 < s.size→(s.toList == [])=false→digB (byZ s 0)=false→(s.toList == [40])=false→(s.toList == [109,105,110])=false→(s.toList == [109,97,120])=false→namS s=true→FacT s (nameE s)
def lfV:Ex→Value
 | .mk op n nm _=>.agg #[.string op,iV n.1,iV n.2,.string nm,.slice none 0 0]
theorem FacT.form {s:ByteArray} {t:Ex} (h:FacT s t):∃ op n1 n2 nm,t=leaf op (n1,n2) nm∧I2 (n1,n2):=by
 cases h with
 | dec hD hI=>exact ⟨_,_,_,_,rfl,hI⟩
 | name=>exact ⟨_,_,_,_,rfl,I2.zero⟩
theorem factor_dec (p:Nat) (tv:Value) (l:List (ByteArray×Int)) (k:Nat) (w:World) (h:PX 164 w p tv l k []) (hk:k < l.length) (s wh re:ByteArray) (d:Nat) (n0:Int) (hs:l[k].1=s) (hD:DecS s wh re d n0) (hkb:k≤1000000) :
 Calls Tryz.prog 216 #[.pointer (some ⟨p,0,none⟩)] w fun e w'=>e=.returned (lfV (numE (quickZ (decV re n0 re.size) (tenP re.size))))∧PX 164 w' p tv l (k+1) []∧KX p w w':=by
 have HT:=zH (fun wz (hz:PX 164 wz p tv l k [])=>text_any p tv l k wz hz.c.1 hz.c.2.1 hz.tok hk)
 rw [hs] at HT
 have HC:=zH (fun wz (hz:PX 164 wz p tv l k [])=>decimal_any p tv l k wz hz hk s wh re d n0 hs hD hkb)
 have hne:=hD.ne
 have h0:0 < s.size:=by have:=hD.dl;omega
 have HG:=zH (fun wz=>digit_any (s[0].toNat:Nat) wz)
 have hd0:=hD.d0
 rw [byZ_at h0] at hd0
 rw [hd0] at HG
 generalize quickZ (decV re n0 re.size) (tenP re.size)=q at *
 obtain ⟨q1,q2⟩:=q
 have HP:=zH h
 have hpl:=zL h.at_
 clear h hs hD hd0
 go_in
 go_upto_region 3 with (first
  |(go_at_call 140;(with_reducible refine (HT.out _ (HP.out.ext xt)).mono ?_);rintro e w1 ⟨rfl,hx1⟩;have HX1:Hid (Ext w w1):=zH (Ext.trans xt hx1);have HR1:Hid (w1.heap[w.heap.size]? = some (.cells #[.string nilB,iV 0,iV 0,.string nilB,.slice none 0 0] 33)):=zH ((hx1.block _ (by simp)).trans (block_new rfl));have HP1:=zH (HP.out.ext HX1.out);clear hx1)
  |(go_at_call 185;(with_reducible refine (HG.out _).mono ?_);rintro e w2 ⟨rfl,rfl⟩))
 go_wp2_with (go_at_call 218;(refine (HC.out _ HP1.out).mono ?_);rintro e w3 ⟨rfl,hp3,hx3⟩;have HP3:=zH hp3;have HX3:=zH ((KX.of_ext HX1.out).trans hx3);have HR3:=zH (hx3.at HR1.out (show w.heap.size≠p by omega));clear hp3 hx3;obtain ⟨e0,e1,e2,e3,e4,g0,g1,g2,g3,g4⟩:=cells_five HR3.out;have hl3:=zL HR3.out)
 have hne:∀ b n c,tv=.slice (some ⟨b,0,none⟩) n c→b≠w.heap.size:=fun b n c e=>by have:=HP.out.lt (by omega) b n c e;omega
 exact bodyPost_ret (v:=.agg #[.string numB,iV q1,iV q2,.string nilB,.slice none 0 0]) (results_cell_row Tryz.results216 _ _ w.heap.size 33 _ _ _ (by rfl) (put5_at HR3.out _ _ _ _ _) Tryz.underlying33 rfl (by kernel_rfl)) rfl ⟨rfl,put5_px HP3.out (show p≠w.heap.size by omega) hne _ _ _ _ _,put5_kx HX3.out (Nat.le_refl _) _ _ _ _ _⟩
theorem factor_name (p:Nat) (tv:Value) (l:List (ByteArray×Int)) (k:Nat) (w:World) (h:PX 164 w p tv l k []) (hk:k < l.length) (s:ByteArray) (hs:l[k].1=s) (hsz:s.size≤1000) (h0:0 < s.size) (hne:(s.toList == [])=false) (hd0:digB (byZ s 0)=false) (h1:(s.toList == [40])=false) (h2:(s.toList == [109,105,110])=false) (h3:(s.toList == [109,97,120])=false) (hn:namS s=true) (hkb:k≤1000000) :
 Calls Tryz.prog 216 #[.pointer (some ⟨p,0,none⟩)] w fun e w'=>e=.returned (lfV (nameE s))∧PX 164 w' p tv l (k+1) []∧KX p w w':=by
 have HT:=zH (fun wz (hz:PX 164 wz p tv l k [])=>text_any p tv l k wz hz.c.1 hz.c.2.1 hz.tok hk)
 rw [hs] at HT
 have HG:=zH (fun wz=>digit_any (s[0].toNat:Nat) wz)
 rw [byZ_at h0] at hd0
 rw [hd0] at HG
 have HN:=zH (fun wz=>IsName_any s (by omega) wz)
 rw [hn] at HN
 have HP:=zH h
 have hpl:=zL h.at_
 have hw:=wz ((k:Int)+1) (by omega)
 clear h hs hd0 hn
 go_in
 go_upto_region 28 with (first
  |(go_at_call 140;(with_reducible refine (HT.out _ (HP.out.ext xt)).mono ?_);rintro e w1 ⟨rfl,hx1⟩;have HX1:Hid (Ext w w1):=zH (Ext.trans xt hx1);have HR1:Hid (w1.heap[w.heap.size]? = some (.cells #[.string nilB,iV 0,iV 0,.string nilB,.slice none 0 0] 33)):=zH ((hx1.block _ (by simp)).trans (block_new rfl));have HP1:=zH (HP.out.ext HX1.out);clear hx1)
  |(go_at_call 185;(with_reducible refine (HG.out _).mono ?_);rintro e w2 ⟨rfl,rfl⟩)
  |(go_at_call 93;(with_reducible refine (HN.out _).mono ?_);rintro e w2 ⟨rfl,rfl⟩))
 obtain ⟨c0,c1,c2,c3⟩:=HP1.out.c
 have f1:w1.frozen? ⟨p,1,none⟩=false:=put_frozen HP1.out.at_
 have hl4:=zL HP1.out.at_
 obtain ⟨e0,e1,e2,e3,e4,g0,g1,g2,g3,g4⟩:=cells_five HR1.out
 have hl3:=zL HR1.out
 go_wp2_with (fail)
 have hp1:=HP1.out.step (k+1)
 have hq1:(w1.setCell ⟨p,1,none⟩ (iV (k+1:Nat))).heap[w.heap.size]? = _:=(RowKit.Below.heap_setCell _ _ _ _ (by show w.heap.size≠p;omega)).trans HR1.out
 have hne:∀ b n c,tv=.slice (some ⟨b,0,none⟩) n c→b≠w.heap.size:=fun b n c e=>by have:=HP.out.lt (by omega) b n c e;omega
 exact bodyPost_ret (v:=.agg #[.string nameB,iV 0,iV 0,.string s,.slice none 0 0]) (results_cell_row Tryz.results216 _ _ w.heap.size 33 _ _ _ (by rfl) (put5_at hq1 _ _ _ _ _) Tryz.underlying33 rfl (by kernel_rfl)) rfl ⟨rfl,put5_px hp1 (show p≠w.heap.size by omega) hne _ _ _ _ _,put5_kx ((KX.of_ext HX1.out).set (bn:=p) (j:=1) (iV (k+1:Nat))) (Nat.le_refl _) _ _ _ _ _⟩
theorem factor_any (p:Nat) (tv:Value) (l:List (ByteArray×Int)) (k:Nat) (w:World) (h:PX 164 w p tv l k []) (hk:k < l.length) (t:Ex) (hF:FacT l[k].1 t) (hkb:k≤1000000) :
 Calls Tryz.prog 216 #[.pointer (some ⟨p,0,none⟩)] w fun e w'=>e=.returned (lfV t)∧PX 164 w' p tv l (k+1) []∧KX p w w':=by
 generalize hs:l[k].1=s at hF
 cases hF with
 | dec hD _=>exact factor_dec p tv l k w h hk s _ _ _ _ hs hD hkb
 | name h1 h2 h3 h4 h5 h6 h7 h8=>exact factor_name p tv l k w h hk s hs h1 h2 h3 h4 h5 h6 h7 h8 hkb
end Go.Proofs.YteomcpplajeidaaGreat
