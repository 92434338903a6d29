/-
  Lemmas of this claim (JwAC). Nothing is asked.
-/
import Derived.Test.YteomcpplajeidaaGreatJwU
import Derived.Test.YteomcpplajeidaaGreatJwS
import Derived.Test.YteomcpplajeidaaGreatJwT
import Derived.Test.YteomcpplajeidaaGreatJwV
set_option linter.unusedVariables false
set_option linter.unusedSimpArgs false
set_option maxRecDepth 100000
set_option maxHeartbeats 40000000
namespace Go.Proofs.YteomcpplajeidaaGreat
open Go.RowKit
def litS:ByteArray:=⟨#[116,101,110,100,101,114,32,67,104,97,105,114,115,10,108,111,116,32,49,32,109,111,115,116,32,53,48,48,10,99,114,105,116,101,114,105,111,110,32,99,111,109,102,111,114,116,32,103,114,97,100,101,32,48,32,49,48,10,112,114,105,99,101,32,49,32,53,48,48,10,102,111,114,109,117,108,97,32,48,46,54,32,42,32,108,111,119,32,47,32,112,114,105,99,101,32,43,32,48,46,48,52,32,42,32,99,111,109,102,111,114,116,10,116,105,101,32,99,111,109,102,111,114,116,10,98,117,100,103,101,116,32,53,48,48,10,116,105,109,101,115,32,49,48,32,50,48,32,51,48,32,52,48,32,53,10]⟩
theorem litS_size:litS.size=156:=by kernel_rfl
abbrev tokL0:List (ByteArray×Int):=[(⟨#[116,101,110,100,101,114]⟩,0),(⟨#[67,104,97,105,114,115]⟩,7),(⟨#[]⟩,13)]
theorem tokL0_eq:splL litS 0 13=tokL0:=by kernel_rfl
abbrev tokL1:List (ByteArray×Int):=[(⟨#[108,111,116]⟩,14),(⟨#[49]⟩,18),(⟨#[109,111,115,116]⟩,20),(⟨#[53,48,48]⟩,25),(⟨#[]⟩,28)]
theorem tokL1_eq:splL litS 14 28=tokL1:=by kernel_rfl
abbrev tokL2:List (ByteArray×Int):=[(⟨#[99,114,105,116,101,114,105,111,110]⟩,29),(⟨#[99,111,109,102,111,114,116]⟩,39),(⟨#[103,114,97,100,101]⟩,47),(⟨#[48]⟩,53),(⟨#[49,48]⟩,55),(⟨#[]⟩,57)]
theorem tokL2_eq:splL litS 29 57=tokL2:=by kernel_rfl
abbrev tokL3:List (ByteArray×Int):=[(⟨#[112,114,105,99,101]⟩,58),(⟨#[49]⟩,64),(⟨#[53,48,48]⟩,66),(⟨#[]⟩,69)]
theorem tokL3_eq:splL litS 58 69=tokL3:=by kernel_rfl
abbrev tokL4:List (ByteArray×Int):=[(⟨#[102,111,114,109,117,108,97]⟩,70),(⟨#[48,46,54]⟩,78),(⟨#[42]⟩,82),(⟨#[108,111,119]⟩,84),(⟨#[47]⟩,88),(⟨#[112,114,105,99,101]⟩,90),(⟨#[43]⟩,96),(⟨#[48,46,48,52]⟩,98),(⟨#[42]⟩,103),(⟨#[99,111,109,102,111,114,116]⟩,105),(⟨#[]⟩,112)]
theorem tokL4_eq:splL litS 70 112=tokL4:=by kernel_rfl
abbrev tokL5:List (ByteArray×Int):=[(⟨#[116,105,101]⟩,113),(⟨#[99,111,109,102,111,114,116]⟩,117),(⟨#[]⟩,124)]
theorem tokL5_eq:splL litS 113 124=tokL5:=by kernel_rfl
abbrev tokL6:List (ByteArray×Int):=[(⟨#[98,117,100,103,101,116]⟩,125),(⟨#[53,48,48]⟩,132),(⟨#[]⟩,135)]
theorem tokL6_eq:splL litS 125 135=tokL6:=by kernel_rfl
abbrev tokL7:List (ByteArray×Int):=[(⟨#[116,105,109,101,115]⟩,136),(⟨#[49,48]⟩,142),(⟨#[50,48]⟩,145),(⟨#[51,48]⟩,148),(⟨#[52,48]⟩,151),(⟨#[53]⟩,154),(⟨#[]⟩,155)]
theorem tokL7_eq:splL litS 136 155=tokL7:=by kernel_rfl
theorem tokL8_eq:splL litS 156 156=[((⟨#[]⟩:ByteArray),(156:Int))]:=by kernel_rfl
abbrev tokF:List (ByteArray×Int):=[(⟨#[48,46,54]⟩,78),(⟨#[42]⟩,82),(⟨#[108,111,119]⟩,84),(⟨#[47]⟩,88),(⟨#[112,114,105,99,101]⟩,90),(⟨#[43]⟩,96),(⟨#[48,46,48,52]⟩,98),(⟨#[42]⟩,103),(⟨#[99,111,109,102,111,114,116]⟩,105),(⟨#[]⟩,112)]
theorem tokF_eq:parL litS 77 112=tokF:=by kernel_rfl
def frL:Nat→Nat
 | 0=>0
 | 1=>14
 | 2=>29
 | 3=>58
 | 4=>70
 | 5=>113
 | 6=>125
 | 7=>136
 | 8=>156
 | _=>157
def edL:Nat→Nat
 | 0=>13
 | 1=>28
 | 2=>57
 | 3=>69
 | 4=>112
 | 5=>124
 | 6=>135
 | 7=>155
 | _=>156
theorem line_bytes:∀ i,i < 8→∀ k,k≤156→frL i≤k→k≤edL i→(byZ litS k=10↔k=edL i):=by decide +kernel
theorem line_next:∀ i,i < 9→frL (i+1)=edL i+1∧frL i≤edL i∧edL i≤156:=by decide
abbrev restOf (S:ByteArray) (r:TnR) (sv:Value):List Value:=[.string S,.string r.nm,slV r.ls,slV r.cs,slV r.rs,iV r.low,iV r.high,.string r.fo,iV r.f1,iV r.f2,.string r.fn,slV r.fa,slV r.ts,iV r.most,slV r.ks,iV r.budget,iV r.t0,iV r.t1,iV r.t2,iV r.t3,iV r.t4,sv]
structure NumT (s:ByteArray) (least n:Int):Prop where
 sz:s.size≤1000000
 num:numS s=true
 val:valU s s.size=n
 lo:least≤n
 hi:n≤1000000000
theorem numT_any {s:ByteArray} {least n:Int} (hn:NumT s least n) (T:TypeId) (p:Nat) (tv:Value) (l:List (ByteArray×Int)) (k:Nat) (rest:List Value) (w:World) (h:PX T w p tv l k rest) (hk:k < l.length) (hs:l[k].1=s) (hkb:k≤1000000) :
 Calls Tryz.prog 181 #[.pointer (some ⟨p,0,none⟩),iV least] w fun e w'=>e=.returned (iV n)∧PX T w' p tv l (k+1) rest∧KX p w w':=by
 have:=number_any T p tv l k rest least w h hk s hs hn.sz hn.num (by rw [hn.val];exact hn.lo) (by rw [hn.val];exact hn.hi) hkb
 rw [hn.val] at this
 exact this
theorem line_tender (p:Nat) (tv:Value) (l:List (ByteArray×Int)) (S:ByteArray) (r:TnR) (sv:Value) (ed:Int) (w:World) (h:PX 166 w p tv l 1 (restOf S r sv)) (hl:2 < l.length) (s:ByteArray) (hs:l[1].1=s) (hsz:s.size≤1000) (hn:namS s=true) (hz0:l[2].1=⟨#[]⟩) :
 Calls Tryz.prog 144 #[.pointer (some ⟨p,0,none⟩),.string ⟨#[116,101,110,100,101,114]⟩,iV ed] w fun e w'=>e=.returned (.tuple #[])∧PX 166 w' p tv l 2 (restOf S { r with nm:=s } sv)∧KX p w w':=by
 have HW0:Hid (∀ wz rest (hz:PX 166 wz p tv l 2 rest),Calls Tryz.prog 140 #[.pointer (some ⟨p,0,none⟩)] wz fun e w'=>e=.returned (.string ⟨#[]⟩)∧Ext wz w'):=zH (fun wz rest hz=>by have:=text_any p tv l 2 wz hz.c.1 hz.c.2.1 hz.tok (by omega);rw [hz0] at this;exact this)
 have HT:=zH (fun wz rest (hz:PX 166 wz p tv l 1 rest)=>text_any p tv l 1 wz hz.c.1 hz.c.2.1 hz.tok (by omega))
 rw [hs] at HT
 have HN:=zH (fun wz=>IsName_any s (by omega) wz)
 rw [hn] at HN
 have HP:=zH h
 have hpl:=zL h.at_
 clear h hs hn hz0
 go_in
 go_upto_region 3 with (go_at_call 140;(refine (HT.out _ _ HP.out).mono ?_);rintro e w1 ⟨rfl,hx1⟩;have HP1:=zH (HP.out.ext hx1);have HX1:=zH (KX.of_ext (bn:=p) hx1);clear hx1;have r1:w1.cell? ⟨p,5,none⟩=some (.string r.nm):=HP1.out.r 1;have f1:w1.frozen? ⟨p,5,none⟩=false:=put_frozen HP1.out.at_)
 have HP2:Hid (PX 166 (w1.setCell ⟨p,5,none⟩ (.string s)) p tv l 1 (restOf S { r with nm:=s } sv)):=zH (HP1.out.put 1 (.string s))
 have HX2:=zH (HX1.out.set (j:=5) (.string s))
 generalize w1.setCell ⟨p,5,none⟩ (.string s)=w2 at *
 clear r1 f1 HP1 HX1
 have r1:w2.cell? ⟨p,5,none⟩=some (.string s):=HP2.out.r 1
 obtain ⟨c0,c1,c2,c3⟩:=HP2.out.c
 have f1:w2.frozen? ⟨p,1,none⟩=false:=put_frozen HP2.out.at_
 have hp2:=zL HP2.out.at_
 go_upto_region 39 with (go_at_call 93;(refine (HN.out _).mono ?_);rintro e w2 ⟨rfl,rfl⟩)
 have HP3:Hid (PX 166 (w2.setCell ⟨p,1,none⟩ (iV 2)) p tv l 2 (restOf S { r with nm:=s } sv)):=zH (HP2.out.step 2)
 have HX3:=zH (HX2.out.set (j:=1) (iV 2))
 clear r1 c0 c1 c2 c3 f1
 generalize w2.setCell ⟨p,1,none⟩ (iV 2)=w3 at *
 obtain ⟨c0,c1,c2,c3⟩:=HP3.out.c
 have hp3:=zL HP3.out.at_
 go_wp2_with (go_at_call 140;(refine (HW0.out _ _ HP3.out).mono ?_);rintro e w4 ⟨rfl,hx4⟩;have HX4:=zH hx4;clear hx4)
 go_end0
 exact ⟨rfl,HP3.out.ext HX4.out,HX3.out.ext HX4.out⟩
theorem line_price (p:Nat) (tv:Value) (l:List (ByteArray×Int)) (S:ByteArray) (r:TnR) (sv:Value) (ed:Int) (w:World) (h:PX 166 w p tv l 1 (restOf S r sv)) (hl:3 < l.length) (s1 s2:ByteArray) (n1 n2:Int) (hs1:l[1].1=s1) (hn1:NumT s1 0 n1) (hs2:l[2].1=s2) (hn2:NumT s2 0 n2) (hz0:l[3].1=⟨#[]⟩) :
 Calls Tryz.prog 144 #[.pointer (some ⟨p,0,none⟩),.string ⟨#[112,114,105,99,101]⟩,iV ed] w fun e w'=>e=.returned (.tuple #[])∧PX 166 w' p tv l 3 (restOf S { r with low:=n1,high:=n2 } sv)∧KX p w w':=by
 have HW0:Hid (∀ wz rest (hz:PX 166 wz p tv l 3 rest),Calls Tryz.prog 140 #[.pointer (some ⟨p,0,none⟩)] wz fun e w'=>e=.returned (.string ⟨#[]⟩)∧Ext wz w'):=zH (fun wz rest hz=>by have:=text_any p tv l 3 wz hz.c.1 hz.c.2.1 hz.tok (by omega);rw [hz0] at this;exact this)
 have HN1:=zH (fun wz rest (hz:PX 166 wz p tv l 1 rest)=>numT_any hn1 166 p tv l 1 rest wz hz (by omega) hs1 (by omega))
 have HN2:=zH (fun wz rest (hz:PX 166 wz p tv l 2 rest)=>numT_any hn2 166 p tv l 2 rest wz hz (by omega) hs2 (by omega))
 have HP:=zH h
 have HX:=zH (KX.of_ext (bn:=p) (Ext.refl w))
 have hpl:=zL h.at_
 clear h hz0 hs1 hn1 hs2 hn2
 go_in
 go_upto_region 18 with (go_at_call 181;(refine (HN1.out _ _ HP.out).mono ?_);rintro e wq ⟨rfl,hpq,hxq⟩;have HP:=zH hpq;have HX:=zH (HX.out.trans hxq);clear hpq hxq;have r1:wq.cell? ⟨p,9,none⟩=some (iV r.low):=HP.out.r 5;have f1:wq.frozen? ⟨p,9,none⟩=false:=put_frozen HP.out.at_;have hp1:=zL HP.out.at_)
 have HP:Hid (PX 166 (wq.setCell ⟨p,9,none⟩ (iV n1)) p tv l 2 (restOf S { r with low:=n1 } sv)):=zH (HP.out.put 5 (iV n1))
 have HX:=zH (HX.out.set (j:=9) (iV n1))
 clear r1 f1 hp1
 generalize wq.setCell ⟨p,9,none⟩ (iV n1)=wq at *
 have hp1:=zL HP.out.at_
 go_upto_region 39 with (go_at_call 181;(refine (HN2.out _ _ HP.out).mono ?_);rintro e wq ⟨rfl,hpq,hxq⟩;have HP:=zH hpq;have HX:=zH (HX.out.trans hxq);clear hpq hxq;have r1:wq.cell? ⟨p,10,none⟩=some (iV r.high):=HP.out.r 6;have f1:wq.frozen? ⟨p,10,none⟩=false:=put_frozen HP.out.at_;have hp1:=zL HP.out.at_)
 have HP:Hid (PX 166 (wq.setCell ⟨p,10,none⟩ (iV n2)) p tv l 3 (restOf S { r with low:=n1,high:=n2 } sv)):=zH (HP.out.put 6 (iV n2))
 have HX:=zH (HX.out.set (j:=10) (iV n2))
 clear r1 f1 hp1
 generalize wq.setCell ⟨p,10,none⟩ (iV n2)=wq at *
 have hp1:=zL HP.out.at_
 obtain ⟨c0,c1,c2,c3⟩:=HP.out.c
 go_wp2_with (go_at_call 140;(refine (HW0.out _ _ HP.out).mono ?_);rintro e w4 ⟨rfl,hx4⟩;have HX4:=zH hx4;clear hx4)
 go_end0
 exact ⟨rfl,HP.out.ext HX4.out,HX.out.ext HX4.out⟩
theorem line_budget (p:Nat) (tv:Value) (l:List (ByteArray×Int)) (S:ByteArray) (r:TnR) (sv:Value) (ed:Int) (w:World) (h:PX 166 w p tv l 1 (restOf S r sv)) (hl:2 < l.length) (s1:ByteArray) (n1:Int) (hs1:l[1].1=s1) (hn1:NumT s1 0 n1) (hz0:l[2].1=⟨#[]⟩) :
 Calls Tryz.prog 144 #[.pointer (some ⟨p,0,none⟩),.string ⟨#[98,117,100,103,101,116]⟩,iV ed] w fun e w'=>e=.returned (.tuple #[])∧PX 166 w' p tv l 2 (restOf S { r with budget:=n1 } sv)∧KX p w w':=by
 have HW0:Hid (∀ wz rest (hz:PX 166 wz p tv l 2 rest),Calls Tryz.prog 140 #[.pointer (some ⟨p,0,none⟩)] wz fun e w'=>e=.returned (.string ⟨#[]⟩)∧Ext wz w'):=zH (fun wz rest hz=>by have:=text_any p tv l 2 wz hz.c.1 hz.c.2.1 hz.tok (by omega);rw [hz0] at this;exact this)
 have HN1:=zH (fun wz rest (hz:PX 166 wz p tv l 1 rest)=>numT_any hn1 166 p tv l 1 rest wz hz (by omega) hs1 (by omega))
 have HP:=zH h
 have HX:=zH (KX.of_ext (bn:=p) (Ext.refl w))
 have hpl:=zL h.at_
 clear h hz0 hs1 hn1
 go_in
 go_upto_region 39 with (go_at_call 181;(refine (HN1.out _ _ HP.out).mono ?_);rintro e wq ⟨rfl,hpq,hxq⟩;have HP:=zH hpq;have HX:=zH (HX.out.trans hxq);clear hpq hxq;have r1:wq.cell? ⟨p,19,none⟩=some (iV r.budget):=HP.out.r 15;have f1:wq.frozen? ⟨p,19,none⟩=false:=put_frozen HP.out.at_;have hp1:=zL HP.out.at_)
 have HP:Hid (PX 166 (wq.setCell ⟨p,19,none⟩ (iV n1)) p tv l 2 (restOf S { r with budget:=n1 } sv)):=zH (HP.out.put 15 (iV n1))
 have HX:=zH (HX.out.set (j:=19) (iV n1))
 clear r1 f1 hp1
 generalize wq.setCell ⟨p,19,none⟩ (iV n1)=wq at *
 have hp1:=zL HP.out.at_
 obtain ⟨c0,c1,c2,c3⟩:=HP.out.c
 go_wp2_with (go_at_call 140;(refine (HW0.out _ _ HP.out).mono ?_);rintro e w4 ⟨rfl,hx4⟩;have HX4:=zH hx4;clear hx4)
 go_end0
 exact ⟨rfl,HP.out.ext HX4.out,HX.out.ext HX4.out⟩
theorem line_times (p:Nat) (tv:Value) (l:List (ByteArray×Int)) (S:ByteArray) (r:TnR) (sv:Value) (ed:Int) (w:World) (h:PX 166 w p tv l 1 (restOf S r sv)) (hl:6 < l.length) (s1 s2 s3 s4 s5:ByteArray) (n1 n2 n3 n4 n5:Int) (hs1:l[1].1=s1) (hn1:NumT s1 0 n1) (hs2:l[2].1=s2) (hn2:NumT s2 0 n2) (hs3:l[3].1=s3) (hn3:NumT s3 0 n3) (hs4:l[4].1=s4) (hn4:NumT s4 0 n4) (hs5:l[5].1=s5) (hn5:NumT s5 0 n5) (hz0:l[6].1=⟨#[]⟩) :
 Calls Tryz.prog 144 #[.pointer (some ⟨p,0,none⟩),.string ⟨#[116,105,109,101,115]⟩,iV ed] w fun e w'=>e=.returned (.tuple #[])∧PX 166 w' p tv l 6 (restOf S { r with t0:=n1,t1:=n2,t2:=n3,t3:=n4,t4:=n5 } sv)∧KX p w w':=by
 have HW0:Hid (∀ wz rest (hz:PX 166 wz p tv l 6 rest),Calls Tryz.prog 140 #[.pointer (some ⟨p,0,none⟩)] wz fun e w'=>e=.returned (.string ⟨#[]⟩)∧Ext wz w'):=zH (fun wz rest hz=>by have:=text_any p tv l 6 wz hz.c.1 hz.c.2.1 hz.tok (by omega);rw [hz0] at this;exact this)
 have HN1:=zH (fun wz rest (hz:PX 166 wz p tv l 1 rest)=>numT_any hn1 166 p tv l 1 rest wz hz (by omega) hs1 (by omega))
 have HN2:=zH (fun wz rest (hz:PX 166 wz p tv l 2 rest)=>numT_any hn2 166 p tv l 2 rest wz hz (by omega) hs2 (by omega))
 have HN3:=zH (fun wz rest (hz:PX 166 wz p tv l 3 rest)=>numT_any hn3 166 p tv l 3 rest wz hz (by omega) hs3 (by omega))
 have HN4:=zH (fun wz rest (hz:PX 166 wz p tv l 4 rest)=>numT_any hn4 166 p tv l 4 rest wz hz (by omega) hs4 (by omega))
 have HN5:=zH (fun wz rest (hz:PX 166 wz p tv l 5 rest)=>numT_any hn5 166 p tv l 5 rest wz hz (by omega) hs5 (by omega))
 have HP:=zH h
 have HX:=zH (KX.of_ext (bn:=p) (Ext.refl w))
 have hpl:=zL h.at_
 clear h hz0 hs1 hn1 hs2 hn2 hs3 hn3 hs4 hn4 hs5 hn5
 go_in
 go_upto_region 35 with (go_at_call 181;(refine (HN1.out _ _ HP.out).mono ?_);rintro e wq ⟨rfl,hpq,hxq⟩;have HP:=zH hpq;have HX:=zH (HX.out.trans hxq);clear hpq hxq;have r1:wq.cell? ⟨p,20,none⟩=some (iV r.t0):=HP.out.r 16;have f1:wq.frozen? ⟨p,20,none⟩=false:=put_frozen HP.out.at_;have hp1:=zL HP.out.at_)
 have HP:Hid (PX 166 (wq.setCell ⟨p,20,none⟩ (iV n1)) p tv l 2 (restOf S { r with t0:=n1 } sv)):=zH (HP.out.put 16 (iV n1))
 have HX:=zH (HX.out.set (j:=20) (iV n1))
 clear r1 f1 hp1
 generalize wq.setCell ⟨p,20,none⟩ (iV n1)=wq at *
 have hp1:=zL HP.out.at_
 go_upto_region 36 with (go_at_call 181;(refine (HN2.out _ _ HP.out).mono ?_);rintro e wq ⟨rfl,hpq,hxq⟩;have HP:=zH hpq;have HX:=zH (HX.out.trans hxq);clear hpq hxq;have r1:wq.cell? ⟨p,21,none⟩=some (iV r.t1):=HP.out.r 17;have f1:wq.frozen? ⟨p,21,none⟩=false:=put_frozen HP.out.at_;have hp1:=zL HP.out.at_)
 have HP:Hid (PX 166 (wq.setCell ⟨p,21,none⟩ (iV n2)) p tv l 3 (restOf S { r with t0:=n1,t1:=n2 } sv)):=zH (HP.out.put 17 (iV n2))
 have HX:=zH (HX.out.set (j:=21) (iV n2))
 clear r1 f1 hp1
 generalize wq.setCell ⟨p,21,none⟩ (iV n2)=wq at *
 have hp1:=zL HP.out.at_
 go_upto_region 37 with (go_at_call 181;(refine (HN3.out _ _ HP.out).mono ?_);rintro e wq ⟨rfl,hpq,hxq⟩;have HP:=zH hpq;have HX:=zH (HX.out.trans hxq);clear hpq hxq;have r1:wq.cell? ⟨p,22,none⟩=some (iV r.t2):=HP.out.r 18;have f1:wq.frozen? ⟨p,22,none⟩=false:=put_frozen HP.out.at_;have hp1:=zL HP.out.at_)
 have HP:Hid (PX 166 (wq.setCell ⟨p,22,none⟩ (iV n3)) p tv l 4 (restOf S { r with t0:=n1,t1:=n2,t2:=n3 } sv)):=zH (HP.out.put 18 (iV n3))
 have HX:=zH (HX.out.set (j:=22) (iV n3))
 clear r1 f1 hp1
 generalize wq.setCell ⟨p,22,none⟩ (iV n3)=wq at *
 have hp1:=zL HP.out.at_
 go_upto_region 38 with (go_at_call 181;(refine (HN4.out _ _ HP.out).mono ?_);rintro e wq ⟨rfl,hpq,hxq⟩;have HP:=zH hpq;have HX:=zH (HX.out.trans hxq);clear hpq hxq;have r1:wq.cell? ⟨p,23,none⟩=some (iV r.t3):=HP.out.r 19;have f1:wq.frozen? ⟨p,23,none⟩=false:=put_frozen HP.out.at_;have hp1:=zL HP.out.at_)
 have HP:Hid (PX 166 (wq.setCell ⟨p,23,none⟩ (iV n4)) p tv l 5 (restOf S { r with t0:=n1,t1:=n2,t2:=n3,t3:=n4 } sv)):=zH (HP.out.put 19 (iV n4))
 have HX:=zH (HX.out.set (j:=23) (iV n4))
 clear r1 f1 hp1
 generalize wq.setCell ⟨p,23,none⟩ (iV n4)=wq at *
 have hp1:=zL HP.out.at_
 go_upto_region 39 with (go_at_call 181;(refine (HN5.out _ _ HP.out).mono ?_);rintro e wq ⟨rfl,hpq,hxq⟩;have HP:=zH hpq;have HX:=zH (HX.out.trans hxq);clear hpq hxq;have r1:wq.cell? ⟨p,24,none⟩=some (iV r.t4):=HP.out.r 20;have f1:wq.frozen? ⟨p,24,none⟩=false:=put_frozen HP.out.at_;have hp1:=zL HP.out.at_)
 have HP:Hid (PX 166 (wq.setCell ⟨p,24,none⟩ (iV n5)) p tv l 6 (restOf S { r with t0:=n1,t1:=n2,t2:=n3,t3:=n4,t4:=n5 } sv)):=zH (HP.out.put 20 (iV n5))
 have HX:=zH (HX.out.set (j:=24) (iV n5))
 clear r1 f1 hp1
 generalize wq.setCell ⟨p,24,none⟩ (iV n5)=wq at *
 have hp1:=zL HP.out.at_
 obtain ⟨c0,c1,c2,c3⟩:=HP.out.c
 go_wp2_with (go_at_call 140;(refine (HW0.out _ _ HP.out).mono ?_);rintro e w4 ⟨rfl,hx4⟩;have HX4:=zH hx4;clear hx4)
 go_end0
 exact ⟨rfl,HP.out.ext HX4.out,HX.out.ext HX4.out⟩
theorem line_lot (p:Nat) (tv:Value) (l:List (ByteArray×Int)) (S:ByteArray) (r:TnR) (sv:Value) (ed:Int) (w:World) (h:PX 166 w p tv l 1 (restOf S r sv)) (hl:4 < l.length) (s u m:ByteArray) (n1 n2:Int) (hs1:l[1].1=s) (hn1:NumT s 1 n1) (hu:l[2].1=u) (hue:(u.toList == [109,111,115,116])=true) (hs3:l[3].1=m) (hn3:NumT m 0 n2) (hz0:l[4].1=⟨#[]⟩) (hr:r.ls=(none,0,0)) :
 Calls Tryz.prog 144 #[.pointer (some ⟨p,0,none⟩),.string ⟨#[108,111,116]⟩,iV ed] w fun e w'=>e=.returned (.tuple #[])∧∃ g cap,w.heap.size≤g∧PX 166 w' p tv l 4 (restOf S { r with ls:=(some ⟨g,0,none⟩,1,cap) } sv)∧KX p w w'∧w'.ownsRow w.heap.size 72 2 (.slice (some ⟨g,0,none⟩) 1 cap) 1 ([(n1,n2)].flatMap cellsLot):=by
 have HW0:Hid (∀ wz rest (hz:PX 166 wz p tv l 4 rest),Calls Tryz.prog 140 #[.pointer (some ⟨p,0,none⟩)] wz fun e w'=>e=.returned (.string ⟨#[]⟩)∧Ext wz w'):=zH (fun wz rest hz=>by have:=text_any p tv l 4 wz hz.c.1 hz.c.2.1 hz.tok (by omega);rw [hz0] at this;exact this)
 have hll:=lot_any p tv l 1 (restOf S r sv) w h (by omega) s u m hs1 hu hs3 hue hn1.sz hn1.num (by rw [hn1.val];exact hn1.lo) (by rw [hn1.val];exact hn1.hi) hn3.sz hn3.num (by rw [hn3.val];exact hn3.lo) (by rw [hn3.val];exact hn3.hi) (by omega) (by show some (slV r.ls)=_;rw [hr])
 rw [hn1.val,hn3.val] at hll
 have HL:=zH hll
 clear hll hs1 hu hs3 hr hn1 hn3
 have HP:=zH h
 have hpl:=zL h.at_
 obtain ⟨c0,c1,c2,c3⟩:=HP.out.c
 clear h hz0
 go_in
 go_upto_region 39 with (go_at_call 177;(refine HL.out.mono ?_);rintro e w2 ⟨rfl,g,cap,hg,hp2,hx2,ho2⟩;have HP2:=zH hp2;have HX2:=zH hx2;have HO2:=zH ho2;have HG:=zH hg;clear hp2 hx2 ho2 hg)
 clear c0 c1 c2 c3
 obtain ⟨c0,c1,c2,c3⟩:=HP2.out.c
 have hp2:=zL HP2.out.at_
 go_wp2_with (go_at_call 140;(refine (HW0.out _ _ HP2.out).mono ?_);rintro e w4 ⟨rfl,hx4⟩;have HX4:=zH hx4;clear hx4)
 go_end0
 exact ⟨rfl,g,cap,HG.out,HP2.out.ext HX4.out,HX2.out.ext HX4.out,row_ext HO2.out HX4.out⟩
theorem line_criterion (p:Nat) (tv:Value) (l:List (ByteArray×Int)) (S:ByteArray) (r:TnR) (sv:Value) (ed:Int) (w:World) (h:PX 166 w p tv l 1 (restOf S r sv)) (hl:5 < l.length) (s g' a b:ByteArray) (n1 n2:Int) (hs1:l[1].1=s) (hsz:s.size≤1000000) (hsd:worS s=true) (hg2:l[2].1=g') (hge:(g'.toList == [103,114,97,100,101])=true) (hgo:(g'.toList == [111,102,102,101,114])=false)
 (hs3:l[3].1=a) (hn3:NumT a 0 n1) (hs4:l[4].1=b) (hn4:NumT b 0 n2) (hz0:l[5].1=⟨#[]⟩) (hr:r.cs=(none,0,0)) :
 Calls Tryz.prog 144 #[.pointer (some ⟨p,0,none⟩),.string ⟨#[99,114,105,116,101,114,105,111,110]⟩,iV ed] w fun e w'=>e=.returned (.tuple #[])∧∃ g cap,w.heap.size≤g∧PX 166 w' p tv l 5 (restOf S { r with cs:=(some ⟨g,0,none⟩,1,cap) } sv)∧KX p w w'∧w'.ownsRow w.heap.size 78 5 (.slice (some ⟨g,0,none⟩) 1 cap) 1 ([⟨s,1,n1,n2,false⟩].flatMap cellsCr):=by
 have HW0:Hid (∀ wz rest (hz:PX 166 wz p tv l 5 rest),Calls Tryz.prog 140 #[.pointer (some ⟨p,0,none⟩)] wz fun e w'=>e=.returned (.string ⟨#[]⟩)∧Ext wz w'):=zH (fun wz rest hz=>by have:=text_any p tv l 5 wz hz.c.1 hz.c.2.1 hz.tok (by omega);rw [hz0] at this;exact this)
 have hll:=critL_any p tv l 1 (restOf S r sv) w h (by omega) s g' a b ⟨#[]⟩ hs1 hg2 hs3 hs4 hz0 hsz hsd hge hgo (by kernel_rfl) hn3.sz hn3.num (by rw [hn3.val];exact hn3.lo) (by rw [hn3.val];exact hn3.hi) hn4.sz hn4.num (by rw [hn4.val];exact hn4.lo) (by rw [hn4.val];exact hn4.hi) (by omega) (by show some (slV r.cs)=_;rw [hr])
 rw [hn3.val,hn4.val] at hll
 have HL:=zH hll
 clear hll hs1 hsz hsd hg2 hge hgo hs3 hs4 hr hn3 hn4
 have HP:=zH h
 have hpl:=zL h.at_
 obtain ⟨c0,c1,c2,c3⟩:=HP.out.c
 clear h hz0
 go_in
 go_upto_region 39 with (go_at_call 178;(refine HL.out.mono ?_);rintro e w2 ⟨rfl,g,cap,hg,hp2,hx2,ho2⟩;have HP2:=zH hp2;have HX2:=zH hx2;have HO2:=zH ho2;have HG:=zH hg;clear hp2 hx2 ho2 hg)
 clear c0 c1 c2 c3
 obtain ⟨c0,c1,c2,c3⟩:=HP2.out.c
 have hp2:=zL HP2.out.at_
 go_wp2_with (go_at_call 140;(refine (HW0.out _ _ HP2.out).mono ?_);rintro e w4 ⟨rfl,hx4⟩;have HX4:=zH hx4;clear hx4)
 go_end0
 exact ⟨rfl,g,cap,HG.out,HP2.out.ext HX4.out,HX2.out.ext HX4.out,row_ext HO2.out HX4.out⟩
theorem one_str (x:ByteArray):(strC x).length=1∧∀ c∈strC x,c.oneCell' = true:=⟨rfl,by intro c hc;simp [strC] at hc;rw [hc];rfl⟩
theorem ties_any (p:Nat) (tv:Value) (l:List (ByteArray×Int)) (S:ByteArray) (r:TnR) (sv:Value) (w:World) (h:PX 166 w p tv l 1 (restOf S r sv)) (hl:2 < l.length) (s:ByteArray) (hs:l[1].1=s) (hsz:s.size≤1000000) (hsd:worS s=true) (hz0:l[2].1=⟨#[]⟩) (hr:r.ts=(none,0,0)) :
 Calls Tryz.prog 183 #[.pointer (some ⟨p,0,none⟩)] w fun e w'=>e=.returned (.tuple #[])∧∃ g cap,w.heap.size≤g∧PX 166 w' p tv l 2 (restOf S { r with ts:=(some ⟨g,0,none⟩,1,cap) } sv)∧KX p w w'∧w'.ownsRow w.heap.size 9 1 (.slice (some ⟨g,0,none⟩) 1 cap) 1 ([s].flatMap strC):=by
 have HW0:Hid (∀ wz rest (hz:PX 166 wz p tv l 2 rest),Calls Tryz.prog 140 #[.pointer (some ⟨p,0,none⟩)] wz fun e w'=>e=.returned (.string ⟨#[]⟩)∧Ext wz w'):=zH (fun wz rest hz=>by have:=text_any p tv l 2 wz hz.c.1 hz.c.2.1 hz.tok (by omega);rw [hz0] at this;exact this)
 have HT:=zH (fun wz rest (hz:PX 166 wz p tv l 1 rest)=>text_any p tv l 1 wz hz.c.1 hz.c.2.1 hz.tok (by omega))
 rw [hs] at HT
 have HN:=zH (fun wz=>IsWord_any s hsz wz)
 rw [hsd] at HN
 have hnp:(s.toList == [112,114,105,99,101])=false:=by
  unfold worS at hsd
  simp only [Bool.and_eq_true,Bool.not_eq_true'] at hsd
  exact hsd.1.1.1.2
 have HP:=zH h
 have HR:=zH hr
 have hpl:=zL h.at_
 clear h hs hsd hz0 hr
 go_in
 go_upto_region 0 with (fail)
 go_loopw [2,3,4] (fun _ _ _ wr=>w=wr∨∃ g cap,Hid (w.heap.size≤g∧PX 166 wr p tv l 2 (restOf S { r with ts:=(some ⟨g,0,none⟩,1,cap) } sv)∧KX p w wr∧wr.ownsRow w.heap.size 9 1 (.slice (some ⟨g,0,none⟩) 1 cap) 1 ([s].flatMap strC))) (fun _ _ _ wr=>5 - posOf wr p)
 case atStart=>exact .inl rfl
 case round=>
  rcases hrel with rfl|⟨g,cap,HQ⟩
  ·have HPOS:=zH HP.out.pos
   obtain ⟨c0,c1,c2,c3⟩:=HP.out.c
   have r1:w.cell? ⟨p,16,none⟩=some (.slice none 0 0):=(HP.out.r 12).trans (by show some (slV r.ts)=_;rw [HR.out])
   go_upto_region 2 with (go_at_call 140;(refine (HT.out _ _ HP.out).mono ?_);rintro e w1 ⟨rfl,hx1⟩;have HP1:=zH (HP.out.ext hx1);have HX1:=zH (KX.of_ext (bn:=p) hx1);have HXE:=zH hx1;clear hx1)
   clear c0 c1 c2 c3 r1
   obtain ⟨c0,c1,c2,c3⟩:=HP1.out.c
   have r1:w1.cell? ⟨p,16,none⟩=some (.slice none 0 0):=(HP1.out.r 12).trans (by show some (slV r.ts)=_;rw [HR.out])
   have hp1:=zL HP1.out.at_
   go_upto_region 6 with (go_at_call 150;(refine (HN.out _).mono ?_);rintro e w2 ⟨rfl,rfl⟩)
   go_loopw [4] (fun kv wq=>kv=iV 0∧w1=wq) (fun kv _=>0)
   case atStart=>exact ⟨rfl,rfl⟩
   case round=>
    obtain ⟨rfl,rfl⟩:=hrel
    have hxa:Ext w1 (w1.alloc (.cells #[.string s] 9)):=Ext.alloc (Ext.refl _) _
    have hat:(w1.alloc (.cells #[.string s] 9)).heap[w1.heap.size]? = some (.cells #[.string s] 9):=block_new rfl
    have hsz1:w1.heap.size≤(w1.alloc (.cells #[.string s] 9)).heap.size:=hxa.size
    have HXA:=zH hxa
    clear hxa
    go_upto_region 13 with (at_builtin;(refine append_one (cs:=strC) (z:=.string ⟨#[]⟩) one_str 34 9 16 Tryz.underlying34 (by kernel_rfl) (by rfl) (by decide) (by decide) rfl (.tmp 83) (.tmp 85) rfl w1.heap.size (.slice none 0 0) [] (by rfl) ⟨rfl,.inl ⟨rfl,rfl⟩⟩ w1.heap.size s (by rfl) hat (by simp) hsz1 ?_;intro g7 cap7 w7 hr7 hb7;have HX7:Hid (Ext w1 w7):=zH (RowKit.Below.trans HXA.out hb7);have HP7:=zH (HP1.out.ext HX7.out);have HR7:=zH hr7;clear hr7 hb7 hat r1 hp1;have r1:=(HP7.out.r 12).trans (by show some (slV r.ts)=_;rw [HR.out]);have hp1:=zL HP7.out.at_;have f1:w7.frozen? ⟨p,16,none⟩=false:=put_frozen HP7.out.at_))
    have hown:=own_away (p:=p) (o:=16) (u:=.slice (some ⟨g7,0,none⟩) 1 cap7) HR7.out (zL HP1.out.at_) w.heap.size (HX1.out.size)
    have HP8:Hid (PX 166 (w7.setCell ⟨p,16,none⟩ (.slice (some ⟨g7,0,none⟩) 1 cap7)) p tv l 1 (restOf S { r with ts:=(some ⟨g7,0,none⟩,1,cap7) } sv)):=zH (HP7.out.put 12 _)
    have HX8:=zH ((HX1.out.ext HX7.out).set (j:=16) (.slice (some ⟨g7,0,none⟩) 1 cap7))
    have HO8:=zH hown
    clear hown r1 f1 hp1
    generalize w7.setCell ⟨p,16,none⟩ (.slice (some ⟨g7,0,none⟩) 1 cap7)=w8 at *
    obtain ⟨c0,c1,c2,c3⟩:=HP8.out.c
    have f1:w8.frozen? ⟨p,1,none⟩=false:=put_frozen HP8.out.at_
    have hp1:=zL HP8.out.at_
    go_wp2_with (fail)
    have HP9:=HP8.out.step 2
    have HO9:=own_away (p:=p) (o:=1) (u:=iV 2) HO8.out.2 (zL HP.out.at_) w.heap.size (Nat.le_refl _)
    exact ⟨.inr ⟨g7,cap7,zH ⟨Nat.le_trans HX1.out.size HO8.out.1,HP9,HX8.out.set _,HO9.2⟩⟩,by rw [HPOS.out,show posOf (w8.setCell ⟨p,1,none⟩ (iV 2)) p=2 from HP9.pos];decide⟩
  ·have HP2:=zH HQ.out.2.1
   obtain ⟨c0,c1,c2,c3⟩:=HP2.out.c
   have r1:wr.cell? ⟨p,16,none⟩=some (.slice (some ⟨g,0,none⟩) 1 cap):=HP2.out.r 12
   have hp1:=zL HP2.out.at_
   go_wp2_with (go_at_call 140;(refine (HW0.out _ _ HP2.out).mono ?_);rintro e w4 ⟨rfl,hx4⟩;have HX4:=zH hx4;clear hx4)
   go_end0
   exact ⟨rfl,g,cap,HQ.out.1,HP2.out.ext HX4.out,HQ.out.2.2.1.ext HX4.out,row_ext HQ.out.2.2.2 HX4.out⟩
theorem line_tie (p:Nat) (tv:Value) (l:List (ByteArray×Int)) (S:ByteArray) (r:TnR) (sv:Value) (ed:Int) (w:World) (h:PX 166 w p tv l 1 (restOf S r sv)) (hl:2 < l.length) (s:ByteArray) (hs:l[1].1=s) (hsz:s.size≤1000000) (hsd:worS s=true) (hz0:l[2].1=⟨#[]⟩) (hr:r.ts=(none,0,0)) :
 Calls Tryz.prog 144 #[.pointer (some ⟨p,0,none⟩),.string ⟨#[116,105,101]⟩,iV ed] w fun e w'=>e=.returned (.tuple #[])∧∃ g cap,w.heap.size≤g∧PX 166 w' p tv l 2 (restOf S { r with ts:=(some ⟨g,0,none⟩,1,cap) } sv)∧KX p w w'∧w'.ownsRow w.heap.size 9 1 (.slice (some ⟨g,0,none⟩) 1 cap) 1 ([s].flatMap strC):=by
 have HW0:Hid (∀ wz rest (hz:PX 166 wz p tv l 2 rest),Calls Tryz.prog 140 #[.pointer (some ⟨p,0,none⟩)] wz fun e w'=>e=.returned (.string ⟨#[]⟩)∧Ext wz w'):=zH (fun wz rest hz=>by have:=text_any p tv l 2 wz hz.c.1 hz.c.2.1 hz.tok (by omega);rw [hz0] at this;exact this)
 have HL:=zH (ties_any p tv l S r sv w h hl s hs hsz hsd hz0 hr)
 have HP:=zH h
 have hpl:=zL h.at_
 obtain ⟨c0,c1,c2,c3⟩:=HP.out.c
 clear h hz0 hs hsz hsd hr
 go_in
 go_upto_region 39 with (go_at_call 183;(refine HL.out.mono ?_);rintro e w2 ⟨rfl,g,cap,hg,hp2,hx2,ho2⟩;have HP2:=zH hp2;have HX2:=zH hx2;have HO2:=zH ho2;have HG:=zH hg;clear hp2 hx2 ho2 hg)
 clear c0 c1 c2 c3
 obtain ⟨c0,c1,c2,c3⟩:=HP2.out.c
 have hp2:=zL HP2.out.at_
 go_wp2_with (go_at_call 140;(refine (HW0.out _ _ HP2.out).mono ?_);rintro e w4 ⟨rfl,hx4⟩;have HX4:=zH hx4;clear hx4)
 go_end0
 exact ⟨rfl,g,cap,HG.out,HP2.out.ext HX4.out,HX2.out.ext HX4.out,row_ext HO2.out HX4.out⟩
abbrev put5at (w:World) (q o:Nat) (b0 b1 b2 b3 b4:Value):World:=((((w.setCell ⟨q,o,none⟩ b0).setCell ⟨q,o+1,none⟩ b1).setCell ⟨q,o+2,none⟩ b2).setCell ⟨q,o+3,none⟩ b3).setCell ⟨q,o+4,none⟩ b4
theorem PX.zero3 {T:TypeId} {w:World} {p k:Nat} {tv:Value} {l:List (ByteArray×Int)} {rest:List Value} (h:PX T w p tv l k rest):PX T (w.setCell ⟨p,3,none⟩ (iV 0)) p tv l k rest:=
 ⟨(heap_put _ h.at_).trans (by simp),h.tok.kx ((KX.of_ext (Ext.refl _)).set _) h.ne,h.ne⟩
theorem PX.zero2 {T:TypeId} {w:World} {p k:Nat} {tv:Value} {l:List (ByteArray×Int)} {rest:List Value} (h:PX T w p tv l k rest):PX T (w.setCell ⟨p,2,none⟩ (iV 0)) p tv l k rest:=
 ⟨(heap_put _ h.at_).trans (by simp),h.tok.kx ((KX.of_ext (Ext.refl _)).set _) h.ne,h.ne⟩
theorem line_formula (p:Nat) (tv:Value) (l:List (ByteArray×Int)) (S:ByteArray) (r:TnR) (sv:Value) (ed:Int) (w:World) (h:PX 166 w p tv l 1 (restOf S r sv)) (hl:1 < l.length) (a fr:Nat) (ha:l[0].2=(a:Int)) (hfr:fr=a+7) (hab:a≤100000) (t:Ex) (hz0:l[l.length - 1].1=⟨#[]⟩)
 (hR:∀ wz:World,Calls Tryz.prog 182 #[.string S,iV fr,iV ed] wz fun e w'=>∃ v,e=.returned (.tuple #[v,iV 0,iV 0])∧Rd (fun b=>wz.heap.size < b) w' t v∧Ext wz w') :
 Calls Tryz.prog 144 #[.pointer (some ⟨p,0,none⟩),.string ⟨#[102,111,114,109,117,108,97]⟩,iV ed] w fun e w'=>e=.returned (.tuple #[])∧∃ op n1 n2 nm fa fn fc,PX 166 w' p tv l (l.length - 1) (restOf S { r with fo:=op,f1:=n1,f2:=n2,fn:=nm,fa:=(fa,fn,fc) } sv)∧Rd (fun b=>w.heap.size < b) w' t (.agg #[.string op,iV n1,iV n2,.string nm,.slice fa fn fc])∧KX p w w':=by
 have HW0:Hid (∀ wz rest (hz:PX 166 wz p tv l (l.length - 1) rest),Calls Tryz.prog 140 #[.pointer (some ⟨p,0,none⟩)] wz fun e w'=>e=.returned (.string ⟨#[]⟩)∧Ext wz w'):=zH (fun wz rest hz=>by have:=text_any p tv l (l.length - 1) wz hz.c.1 hz.c.2.1 hz.tok (by omega);rw [hz0] at this;exact this)
 have HR:=zH hR
 have HP:=zH h
 have hll:l.length≤1000000:=h.tok.le
 obtain ⟨base,cap,rfl⟩:=h.tok.form
 obtain ⟨g,rfl,-,hg,-,d1⟩:=tok_at h.tok 0 (by omega)
 simp only [Nat.zero_mul,Nat.zero_add] at d1
 rw [ha] at d1
 have hpl:=zL h.at_
 obtain ⟨c0,c1,c2,c3⟩:=HP.out.c
 have hlen0:(0:Int) < (l.length:Int):=by omega
 have hw7:IntKind.i64.wrap ((a:Int)+7)=(fr:Int):=by rw [IntKind.wrap_i64];omega
 have hwl:IntKind.i64.wrap ((l.length:Int) - 1)=((l.length - 1:Nat):Int):=by rw [IntKind.wrap_i64];omega
 clear h hz0 hR ha hfr
 go_in
 go_upto_region 20 with (fail)
 go_quiet (fail)
 go_upto_region 22 with (fail)
 have hxq:Ext w (w.drewN nq):=xt
 generalize w.drewN nq=w1 at *
 have HP1:=zH (HP.out.ext hxq)
 have HX1:=zH hxq
 clear hxq c0 c1 c2 c3 d1 hpl hg
 have r0:w1.cell? ⟨p,4,none⟩=some (.string S):=HP1.out.r 0
 have hpl:=zL HP1.out.at_
 go_upto_region 23 with (go_at_call 182;(refine (HR.out _).mono ?_);rintro e w2 ⟨v,rfl,hr2,hx2⟩;obtain ⟨op,n1,n2,nm,fa,fn,fc,rfl⟩:=hr2.form;have HR2:=zH hr2;have HX2:=zH hx2;have HP2:=zH (HP1.out.ext hx2);clear hr2 hx2;have q0:w2.cell? ⟨p,11,none⟩=some (.string r.fo):=HP2.out.r 7;have q1:w2.cell? ⟨p,12,none⟩=some (iV r.f1):=HP2.out.r 8;have q2:w2.cell? ⟨p,13,none⟩=some (iV r.f2):=HP2.out.r 9;have q3:w2.cell? ⟨p,14,none⟩=some (.string r.fn):=HP2.out.r 10;have q4:w2.cell? ⟨p,15,none⟩=some (slV r.fa):=HP2.out.r 11;obtain ⟨c0,c1,c2,c3⟩:=HP2.out.c;have hfz:∀ o,w2.frozen? ⟨p,o,none⟩=false:=fun o=>put_frozen HP2.out.at_;have g0:=hfz 11;have g1:=hfz 12;have g2:=hfz 13;have g3:=hfz 14;have g4:=hfz 15;have g5:=hfz 3;have hpl2:=zL HP2.out.at_;clear hfz)
 have HP3:Hid (PX 166 ((put5at w2 p 11 (.string op) (iV n1) (iV n2) (.string nm) (.slice fa fn fc)).setCell ⟨p,3,none⟩ (iV 0)) p _ l 1 (restOf S { r with fo:=op,f1:=n1,f2:=n2,fn:=nm,fa:=(fa,fn,fc) } sv)):=zH (((((HP2.out.put 7 (.string op)).put 8 (iV n1)).put 9 (iV n2)).put 10 (.string nm)).put 11 (.slice fa fn fc)).zero3
 have hk3:KX p w2 ((put5at w2 p 11 (.string op) (iV n1) (iV n2) (.string nm) (.slice fa fn fc)).setCell ⟨p,3,none⟩ (iV 0)):=((((((KX.of_ext (Ext.refl w2)).set _).set _).set _).set _).set _).set _
 have hs1:=HX1.out.size
 have HR3:=zH (HR2.out.kx hk3 (fun b hb=>by have:=zL HP.out.at_;omega))
 have HX3:=zH ((KX.of_ext (HX1.out.trans HX2.out)).trans hk3)
 clear hk3 q0 q1 q2 q3 q4 c0 c1 c2 c3 g0 g1 g2 g3 g4 g5 hpl2
 simp only [put5at] at HP3 HR3 HX3
 generalize (((((w2.setCell ⟨p,11,none⟩ (.string op)).setCell ⟨p,12,none⟩ (iV n1)).setCell ⟨p,13,none⟩ (iV n2)).setCell ⟨p,14,none⟩ (.string nm)).setCell ⟨p,15,none⟩ (.slice fa fn fc)).setCell ⟨p,3,none⟩ (iV 0)=w3 at *
 obtain ⟨c0,c1,c2,c3⟩:=HP3.out.c
 have f2:w3.frozen? ⟨p,2,none⟩=false:=put_frozen HP3.out.at_
 have hpl3:=zL HP3.out.at_
 go_upto_region 24 with (fail)
 have HP4:=zH HP3.out.zero2
 have HX4:=zH (HX3.out.set (j:=2) (iV 0))
 have HR4:=zH (HR3.out.kx ((KX.of_ext (bn:=p) (Ext.refl w3)).set (j:=2) (iV 0)) (fun b hb=>by have:=zL HP.out.at_;omega))
 clear c0 c1 c2 c3 f2 hpl3
 generalize w3.setCell ⟨p,2,none⟩ (iV 0)=w4 at *
 obtain ⟨c0,c1,c2,c3⟩:=HP4.out.c
 have f1:w4.frozen? ⟨p,1,none⟩=false:=put_frozen HP4.out.at_
 have hpl4:=zL HP4.out.at_
 go_upto_region 39 with (fail)
 have HP5:=zH (HP4.out.step (l.length - 1))
 have HX5:=zH (HX4.out.set (j:=1) (iV (l.length - 1:Nat)))
 have HR5:=zH (HR4.out.kx ((KX.of_ext (bn:=p) (Ext.refl w4)).set (j:=1) (iV (l.length - 1:Nat))) (fun b hb=>by have:=zL HP.out.at_;omega))
 clear c0 c1 c2 c3 f1 hpl4
 generalize w4.setCell ⟨p,1,none⟩ (iV (l.length - 1:Nat))=w5 at *
 obtain ⟨c0,c1,c2,c3⟩:=HP5.out.c
 have hpl5:=zL HP5.out.at_
 go_wp2_with (go_at_call 140;(refine (HW0.out _ _ HP5.out).mono ?_);rintro e w6 ⟨rfl,hx6⟩;have HX6:=zH hx6;clear hx6)
 go_end0
 exact ⟨rfl,op,n1,n2,nm,fa,fn,fc,HP5.out.ext HX6.out,(Rd.frame (fun _ _ _ _=>rfl) (fun b hb=>by omega) _ _ HR5.out).ext HX6.out,HX5.out.ext HX6.out⟩
theorem full_any (p:Nat) (tv:Value) (l:List (ByteArray×Int)) (k:Nat) (S:ByteArray) (r:TnR) (sv:Value) (word:ByteArray) (w:World) (h:PX 166 w p tv l k (restOf S r sv)) (h1:r.ls.2.1 < 12) (h2:r.cs.2.1 < 12) (h3:r.rs.2.1 < 24) (h4:r.ks.2.1 < 12) :
 Calls Tryz.prog 142 #[.pointer (some ⟨p,0,none⟩),.string word] w fun e w'=>e=.returned (.bool false)∧w=w':=by
 obtain ⟨nm,⟨l0,l1,l2⟩,⟨a0,a1,a2⟩,⟨b0,b1,b2⟩,low,high,fo,f1,f2,fn,fa,ts,most,⟨k0,k1,k2⟩,budget,t0,t1,t2,t3,t4⟩:=r
 simp only at h1 h2 h3 h4
 have r2:w.cell? ⟨p,6,none⟩=some (.slice l0 l1 l2):=h.r 2
 have r3:w.cell? ⟨p,7,none⟩=some (.slice a0 a1 a2):=h.r 3
 have r4:w.cell? ⟨p,8,none⟩=some (.slice b0 b1 b2):=h.r 4
 have r14:w.cell? ⟨p,18,none⟩=some (.slice k0 k1 k2):=h.r 14
 have hpl:=zL h.at_
 have q1:((l1:Int) == 12)=false:=by rw [beq_eq_false_iff_ne];omega
 have q2:((a1:Int) == 12)=false:=by rw [beq_eq_false_iff_ne];omega
 have q3:((b1:Int) == 24)=false:=by rw [beq_eq_false_iff_ne];omega
 have q4:((k1:Int) == 12)=false:=by rw [beq_eq_false_iff_ne];omega
 clear h h1 h2 h3 h4
 cases e1:(word.toList == [108,111,116]) <;> cases e2:(word.toList == [99,114,105,116,101,114,105,111,110]) <;> cases e3:(word.toList == [114,101,113,117,105,114,101]) <;> cases e4:(word.toList == [99,111,109,98,111])
 all_goals
  go_in
  go_wp2
  go_ret
  exact ⟨rfl,rfl⟩
end Go.Proofs.YteomcpplajeidaaGreat
