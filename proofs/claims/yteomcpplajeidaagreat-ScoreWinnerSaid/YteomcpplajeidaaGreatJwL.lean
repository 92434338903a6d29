/-
  Lemmas of this claim (JwL). Nothing is asked.
-/
import Derived.Test.YteomcpplajeidaaGreatJwK
import Derived.BigQuiet
import Derived.Deep.QuietTactic
set_option linter.unusedVariables false
set_option linter.unusedSimpArgs false
set_option maxRecDepth 100000
set_option maxHeartbeats 40000000
namespace Go.Proofs.YteomcpplajeidaaGreat
open Go.RowKit
theorem dv_top {a b:List Int} (ha:Dg a) (hb:Dg b) (j:Nat) (hja:j < a.length) (hjb:j < b.length) (hd:a.drop (j+1)=b.drop (j+1)) (h:a[j] < b[j]):dv a < dv b:=by
 have e1:dv a=dv (a.take j)+65536 ^ j * (a[j]+65536 * dv (a.drop (j+1))):=by
  conv=>lhs;rw [← List.take_append_drop j a,dv_app,List.drop_eq_getElem_cons hja,dv]
  rw [List.length_take,show min j a.length=j by omega]
 have e2:dv b=dv (b.take j)+65536 ^ j * (b[j]+65536 * dv (b.drop (j+1))):=by
  conv=>lhs;rw [← List.take_append_drop j b,dv_app,List.drop_eq_getElem_cons hjb,dv]
  rw [List.length_take,show min j b.length=j by omega]
 have h1:=dv_lt (ha.take j)
 rw [List.length_take,show min j a.length=j by omega] at h1
 have h2:=dv_nonneg (hb.take j)
 have h3:=pow_pos' j
 rw [e1,e2,hd]
 generalize dv (b.drop (j+1))=D at *
 have h4:65536 ^ j * ((a[j]+65536 * D)+1)≤65536 ^ j * (b[j]+65536 * D):=Int.mul_le_mul_of_nonneg_left (by omega) (by omega)
 rw [Int.mul_add _ _ 1] at h4
 omega
theorem cmpL_lt {a b:List Int} (h:dv a < dv b):cmpL a b = -1:=by unfold cmpL;rw [if_pos h]
theorem cmpL_gt {a b:List Int} (h:dv b < dv a):cmpL a b=1:=by unfold cmpL;rw [if_neg (by omega),if_neg (by omega)]
theorem bcmp_any (l m:List Int) (w:World) (v u:Value) (h:DR w v l) (h':DR w u m) (hl:Tr l) (hm:Tr m) :
 Calls Tryz.prog 131 #[v,u] w fun e w'=>e=.returned (iV (cmpL l m))∧Ext w w':=by
 obtain ⟨A,ca,rfl⟩:=h.form
 obtain ⟨B,cb,rfl⟩:=h'.form
 have HA:=zH h
 have HB:=zH h'
 have hla:=h.le
 have hlb:=h'.le
 have HN:l.length < m.length→Hid (cmpL l m = -1):=fun hh=>zH (cmpL_lt (dv_lt_len h.dg h'.dg hm hh))
 have HP:m.length < l.length→Hid (cmpL l m=1):=fun hh=>zH (cmpL_gt (dv_lt_len h'.dg h.dg hl hh))
 clear h h'
 rcases Nat.lt_trichotomy l.length m.length with hlt|heq|hgt
 ·have hE:=HN hlt
  have k1:(l.length:Int) < (m.length:Int):=by omega
  have k2:((l.length:Int) == (m.length:Int))=false:=by simp;omega
  clear HN HP
  go_in
  go_wp2
  go_ret
  exact ⟨by rw [hE.out];rfl,Ext.refl _⟩
 ·clear HN HP
  have HE0:=zH heq
  have k2:((l.length:Int) == (m.length:Int))=true:=by simp;omega
  rw [← heq] at k2 ⊢
  clear heq
  go_in
  go_wp2
  go_loopw [5] (fun s wr=>∃ j:Nat,s=iV ((j:Int) - 1)∧j≤l.length∧Hid (l.drop j=m.drop j)∧Ext w wr) (fun s _=>(intOf s+1).toNat)
  case atStart=>exact ⟨l.length,by go_num,Nat.le_refl _,zH (by have:=HE0.out;rw [List.drop_eq_nil_of_le (Nat.le_refl _),List.drop_eq_nil_of_le (by omega)]),Ext.refl _⟩
  case round=>
   obtain ⟨j,rfl,hj,hT,hx⟩:=hrel
   rcases j with _|j
   ·have hE:=zH (show cmpL l m=0 by
     have:=hT.out
     simp only [List.drop_zero] at this
     rw [this];unfold cmpL;rw [if_neg (by omega),if_pos rfl])
    go_wp2
    go_ret
    exact ⟨by rw [hE.out];rfl,hx⟩
   ·have hjm:j < m.length:=by have:=HE0.out;omega
    obtain ⟨b,off,rfl,-,hcs⟩:=HA.out.block j (by omega)
    obtain ⟨b',off',rfl,-,hcs'⟩:=HB.out.block j hjm
    have hc:=hcs j (by omega)
    have hc':=hcs' j hjm
    have hb:=zB w _ hc
    have hb':=zB w _ hc'
    replace hc:=(hx.cells.1 _ _ hb).trans hc
    replace hc':=(hx.cells.1 _ _ hb').trans hc'
    have k3:((j+1:Nat):Int) - 1=(j:Int):=by omega
    rw [k3]
    have k4:(j:Int) < (l.length:Int):=by omega
    have k5:(0:Int)≤(j:Int):=by omega
    have HLt:Hid (l[j] < m[j]→cmpL l m = -1):=zH (fun hh=>cmpL_lt (dv_top HA.out.dg HB.out.dg j (by omega) hjm hT.out hh))
    have HGt:Hid (m[j] < l[j]→cmpL l m=1):=zH (fun hh=>cmpL_gt (dv_top HB.out.dg HA.out.dg j hjm (by omega) hT.out.symm hh))
    have HEq:Hid (l[j]=m[j]→l.drop j=m.drop j):=zH (fun hh=>by rw [List.drop_eq_getElem_cons (show j < l.length by omega),List.drop_eq_getElem_cons hjm,hh,hT.out])
    generalize l[j]=x at *
    generalize m[j]=y at *
    clear hcs hcs' k3
    rcases Int.lt_trichotomy x y with hlt|heq|hgt
    ·have hE:=zH (HLt.out hlt)
     have k6:(x == y)=false:=by simp;omega
     clear HLt HGt HEq
     go_upto_region 8 with (fail)
     go_quiet (fail)
     go_upto_region 9 with (fail)
     go_quiet (fail)
     go_wp2
     go_ret
     exact ⟨by rw [hE.out];rfl,xt⟩
    ·subst heq
     have hD:=zH (HEq.out rfl)
     have k6:(x == x)=true:=by simp
     clear HLt HGt HEq
     go_upto_region 8 with (fail)
     go_quiet (fail)
     go_wp2
     go_roundw
     case rel=>exact ⟨j,by go_num,by omega,hD,xt⟩
     case measure=>simp [intOf]
    ·have hE:=zH (HGt.out hgt)
     have k6:(x == y)=false:=by simp;omega
     have k7:¬ x < y:=by omega
     clear HLt HGt HEq
     go_upto_region 8 with (fail)
     go_quiet (fail)
     go_upto_region 9 with (fail)
     go_quiet (fail)
     go_wp2
     go_ret
     exact ⟨by rw [hE.out];rfl,xt⟩
 ·have hE:=HP hgt
  have k1:¬ (l.length:Int) < (m.length:Int):=by omega
  have k2:((l.length:Int) == (m.length:Int))=false:=by simp;omega
  clear HN HP
  go_in
  go_wp2
  go_ret
  exact ⟨by rw [hE.out];rfl,Ext.refl _⟩
def OZ (B:Nat) (w:World) (v:Value) (os:List Int):Prop:=w.ownsRow B 3 1 v os.length (os.flatMap cellsZ)
theorem OZ.ext {B:Nat} {w w':World} {v:Value} {os:List Int} (h:OZ B w v os) (e:Ext w w'):OZ B w' v os:=row_ext h e
theorem OZ.nil (B:Nat) (w:World):OZ B w (.slice none 0 0) []:=World.ownsRow_nil w B 3 1
theorem OZ.dr {B:Nat} {w:World} {v:Value} {os:List Int} (h:OZ B w v os) (hn:os.length≤1000) (hd:Dg os):DR w v os:=DR.of_row h hn hd
theorem append_z {ops:Array Oper} {rest:List Oper} {o:Oper} {a:Act} {Q:Exit→Act→World→Prop} {w:World} (hgd:o.guard=none) (s x:Operand)
 (ho:o.op=.call { callee:=.builtin .append,args:=#[s,x],argTypes:=#[22,22] }) (B:Nat) (v:Value) (os:List Int) (hs:a.eval s=v) (hF:OZ B w v os)
 (p:Nat) (z:Int) (hx:a.eval x=.slice (some ⟨p,0,none⟩) 1 1) (hp:w.heap[p]? = some (.cells #[iV z] 3)) (hn:os.length < 1000000) (hB:B≤w.heap.size)
 (h:∀ g cap w',OZ B w' (.slice (some ⟨g,0,none⟩) (os.length+1) cap) (os ++ [z])→Below B w w'→wpList Tryz.prog ops Q rest (a.put o.dst (.slice (some ⟨g,0,none⟩) (os.length+1) cap)) w'):wpList Tryz.prog ops Q (o :: rest) a w:=
 append_one one_z 22 3 8 Tryz.underlying22 info3z rfl (by decide) (by decide) hgd s x ho B v os hs hF p z hx hp hn hB h
theorem plusL_yy (c:Int) (l m:List Int) (j:Nat) (hl:j < l.length) (hm:j < m.length):plusL c (l.drop j) (m.drop j)=(c+l[j]+m[j]) % 65536 :: plusL ((c+l[j]+m[j]) / 65536) (l.drop (j+1)) (m.drop (j+1)):=by
 rw [List.drop_eq_getElem_cons hl,List.drop_eq_getElem_cons hm,plusL]
theorem plusL_yn (c:Int) (l m:List Int) (j:Nat) (hl:j < l.length) (hm:m.length≤j):plusL c (l.drop j) (m.drop j)=(c+l[j]) % 65536 :: plusL ((c+l[j]) / 65536) (l.drop (j+1)) (m.drop (j+1)):=by
 rw [List.drop_eq_getElem_cons hl,List.drop_eq_nil_of_le hm,List.drop_eq_nil_of_le (show m.length≤j+1 by omega),plusL]
theorem plusL_ny (c:Int) (l m:List Int) (j:Nat) (hl:l.length≤j) (hm:j < m.length):plusL c (l.drop j) (m.drop j)=(c+m[j]) % 65536 :: plusL ((c+m[j]) / 65536) (l.drop (j+1)) (m.drop (j+1)):=by
 rw [List.drop_eq_getElem_cons hm,List.drop_eq_nil_of_le hl,List.drop_eq_nil_of_le (show l.length≤j+1 by omega),plusL]
theorem plusL_nn (c:Int) (l m:List Int) (j:Nat) (hl:l.length≤j) (hm:m.length≤j):plusL c (l.drop j) (m.drop j)=if 0 < c then [c % 65536] else []:=by
 rw [List.drop_eq_nil_of_le hm,List.drop_eq_nil_of_le hl,plusL]
def PlusI (l m:List Int) (w:World) (ov cv kv:Value) (wr:World):Prop:=
 ∃ (j:Nat) (c:Int) (os:List Int),kv=iV j∧cv=iV c∧OZ w.heap.size wr ov os∧os.length=j∧0≤c∧c≤1∧j≤max l.length m.length+1∧(max l.length m.length < j→c=0)∧plusL 0 l m=os ++ plusL c (l.drop j) (m.drop j)∧Ext w wr
theorem plus_any (l m:List Int) (w:World) (v u:Value) (h:DR w v l) (h':DR w u m) (hl:l.length≤100) (hm:m.length≤100) :
 Calls Tryz.prog 130 #[v,u] w fun e w'=>∃ x,e=.returned x∧Ext w w'∧DR w' x (plusL 0 l m):=by
 obtain ⟨A,ca,rfl⟩:=h.form
 obtain ⟨B,cb,rfl⟩:=h'.form
 have HA:=zH h
 have HB:=zH h'
 clear h h'
 go_in
 go_wp2_with (fail)
 go_loopw [5,6,7] (fun o c k wr=>PlusI l m w o c k wr) (fun _ _ k _=>max l.length m.length+1 - (intOf k).toNat)
 case atStart=>
  unfold PlusI
  exact ⟨0,0,[],by go_num,by go_num,OZ.nil _ _,rfl,by omega,by omega,by omega,by omega,by simp,Ext.refl _⟩
 case round=>
  unfold PlusI at hrel
  obtain ⟨j,c,os,rfl,rfl,hF,hj,hc0,hc1,hjm,hjc,hE,hx⟩:=hrel
  have HF:=zH hF
  have HE:=zH hE
  have HJ:=zH hj
  have HC:=zH hjc
  clear hF hE hj hjc
  have HG:∀ (q r:Int) (g cap:Nat) (w6:World),Hid (plusL c (l.drop j) (m.drop j)=r :: plusL q (l.drop (j+1)) (m.drop (j+1)))→OZ w.heap.size w6 (.slice (some ⟨g,0,none⟩) (os.length+1) cap) (os ++ [r])→0≤q→q≤1→j < max l.length m.length∨q=0→j≤max l.length m.length→Ext w w6 →
   PlusI l m w (.slice (some ⟨g,0,none⟩) (os.length+1) cap) (iV q) (iV (j+1)) w6:=fun q r g cap w6 h1 h2 h3 h4 h5 h6 h7=>
   ⟨j+1,q,os ++ [r],by go_num,rfl,h2,by rw [List.length_append,HJ.out];rfl,h3,h4,by omega,by omega,by rw [HE.out,h1.out];simp,h7⟩
  have HG:=zH HG
  have k1:(0:Int)≤(j:Int):=by omega
  by_cases hjl:j < l.length
  ·have k2:(j:Int) < (l.length:Int):=by omega
   obtain ⟨b,off,rfl,-,hcs⟩:=HA.out.block j hjl
   have hcl:=hcs j hjl
   have hb:=zB w _ hcl
   replace hcl:=(hx.cells.1 _ _ hb).trans hcl
   have hbl:=Nat.lt_of_lt_of_le hb hx.size
   have hxd:=HA.out.dg.at j hjl
   clear hcs
   by_cases hjm2:j < m.length
   ·have k3:(j:Int) < (m.length:Int):=by omega
    obtain ⟨b',off',rfl,-,hcs⟩:=HB.out.block j hjm2
    have hcm:=hcs j hjm2
    have hb':=zB w _ hcm
    replace hcm:=(hx.cells.1 _ _ hb').trans hcm
    have hbm:=Nat.lt_of_lt_of_le hb' hx.size
    have hyd:=HB.out.dg.at j hjm2
    have HP:=zH (plusL_yy c l m j hjl hjm2)
    clear hcs
    generalize l[j]=x at *
    generalize m[j]=y at *
    have k4:(c+x+y).tmod 65536=(c+x+y) % 65536:=Int.tmod_eq_emod_of_nonneg (by omega)
    have k5:(c+x+y).tdiv 65536=(c+x+y) / 65536:=Int.tdiv_eq_ediv_of_nonneg (by omega)
    go_wp2_with (at_builtin;refine append_z rfl (.tmp 46) (.tmp 49) rfl w.heap.size _ os (by rfl) (HF.out.ext xt) wr.heap.size ((c+x+y) % 65536) (by rfl) (block_new (by simp)) (by have:=HJ.out;omega) (by have:=hx.size;simp;omega) ?_;intro g7 cap7 w7 hF7 hb7)
    have HF7:=zH hF7
    clear hF7
    go_wp2
    go_roundw
    case rel=>exact HG.out _ _ _ _ _ HP HF7.out (by omega) (by omega) (by omega) (by omega) (Below.trans (hx.trans (xt:Ext wr (wr.alloc (.cells #[iV ((c+x+y) % 65536)] 3)))) hb7)
    case measure=>simp [intOf];omega
   ·have k3:¬ (j:Int) < (m.length:Int):=by omega
    have HP:=zH (plusL_yn c l m j hjl (by omega))
    generalize l[j]=x at *
    have k4:(c+x).tmod 65536=(c+x) % 65536:=Int.tmod_eq_emod_of_nonneg (by omega)
    have k5:(c+x).tdiv 65536=(c+x) / 65536:=Int.tdiv_eq_ediv_of_nonneg (by omega)
    go_wp2_with (at_builtin;refine append_z rfl (.tmp 46) (.tmp 49) rfl w.heap.size _ os (by rfl) (HF.out.ext xt) wr.heap.size ((c+x) % 65536) (by rfl) (block_new (by simp)) (by have:=HJ.out;omega) (by have:=hx.size;simp;omega) ?_;intro g7 cap7 w7 hF7 hb7)
    have HF7:=zH hF7
    clear hF7
    go_wp2
    go_roundw
    case rel=>exact HG.out _ _ _ _ _ HP HF7.out (by omega) (by omega) (by omega) (by omega) (Below.trans (hx.trans (xt:Ext wr (wr.alloc (.cells #[iV ((c+x) % 65536)] 3)))) hb7)
    case measure=>simp [intOf];omega
  ·have k2:¬ (j:Int) < (l.length:Int):=by omega
   by_cases hjm2:j < m.length
   ·have k3:(j:Int) < (m.length:Int):=by omega
    obtain ⟨b',off',rfl,-,hcs⟩:=HB.out.block j hjm2
    have hcm:=hcs j hjm2
    have hb':=zB w _ hcm
    replace hcm:=(hx.cells.1 _ _ hb').trans hcm
    have hbm:=Nat.lt_of_lt_of_le hb' hx.size
    have hyd:=HB.out.dg.at j hjm2
    have HP:=zH (plusL_ny c l m j (by omega) hjm2)
    clear hcs
    generalize m[j]=y at *
    have k4:(c+y).tmod 65536=(c+y) % 65536:=Int.tmod_eq_emod_of_nonneg (by omega)
    have k5:(c+y).tdiv 65536=(c+y) / 65536:=Int.tdiv_eq_ediv_of_nonneg (by omega)
    go_wp2_with (at_builtin;refine append_z rfl (.tmp 46) (.tmp 49) rfl w.heap.size _ os (by rfl) (HF.out.ext xt) wr.heap.size ((c+y) % 65536) (by rfl) (block_new (by simp)) (by have:=HJ.out;omega) (by have:=hx.size;simp;omega) ?_;intro g7 cap7 w7 hF7 hb7)
    have HF7:=zH hF7
    clear hF7
    go_wp2
    go_roundw
    case rel=>exact HG.out _ _ _ _ _ HP HF7.out (by omega) (by omega) (by omega) (by omega) (Below.trans (hx.trans (xt:Ext wr (wr.alloc (.cells #[iV ((c+y) % 65536)] 3)))) hb7)
    case measure=>simp [intOf];omega
   ·have k3:¬ (j:Int) < (m.length:Int):=by omega
    have HP:=zH (plusL_nn c l m j (by omega) (by omega))
    by_cases h0:c=0
    ·subst h0
     have HD:=zH (show DR wr _ (plusL 0 l m) by
      have h1:=HE.out
      rw [HP.out,if_neg (by omega),List.append_nil] at h1
      rw [h1]
      refine HF.out.dr (by have:=HJ.out;omega) ?_
      rw [← h1]
      exact (plusL_spec 0 l m (by omega) (by omega) HA.out.dg HB.out.dg).1)
     go_wp2
     go_ret
     exact ⟨_,rfl,hx,HD.out⟩
    ·have h1:c=1:=by omega
     subst h1
     have hjc:=HC.out
     have HP:=zH (show plusL 1 (l.drop j) (m.drop j)=1 :: plusL 0 (l.drop (j+1)) (m.drop (j+1)) by
      rw [plusL_nn 1 l m j (by omega) (by omega),plusL_nn 0 l m (j+1) (by omega) (by omega)];rfl)
     go_wp2_with (at_builtin;refine append_z rfl (.tmp 46) (.tmp 49) rfl w.heap.size _ os (by rfl) (HF.out.ext xt) wr.heap.size 1 (by rfl) (block_new (by simp)) (by have:=HJ.out;omega) (by have:=hx.size;simp;omega) ?_;intro g7 cap7 w7 hF7 hb7)
     have HF7:=zH hF7
     clear hF7
     go_wp2
     go_roundw
     case rel=>exact HG.out _ _ _ _ _ HP HF7.out (by omega) (by omega) (by omega) (by omega) (Below.trans (hx.trans (xt:Ext wr (wr.alloc (.cells #[iV 1] 3)))) hb7)
     case measure=>simp [intOf];omega
theorem minusL_y (c:Int) (l m:List Int) (j:Nat) (hl:j < l.length) (hm:j < m.length):minusL c (l.drop j) (m.drop j)=if l[j] - c - m[j] < 0 then (l[j] - c - m[j]+65536) :: minusL 1 (l.drop (j+1)) (m.drop (j+1)) else (l[j] - c - m[j]) :: minusL 0 (l.drop (j+1)) (m.drop (j+1)):=by
 rw [List.drop_eq_getElem_cons hl,List.drop_eq_getElem_cons hm,minusL]
theorem minusL_n (c:Int) (l m:List Int) (j:Nat) (hl:j < l.length) (hm:m.length≤j):minusL c (l.drop j) (m.drop j)=if l[j] - c < 0 then (l[j] - c+65536) :: minusL 1 (l.drop (j+1)) (m.drop (j+1)) else (l[j] - c) :: minusL 0 (l.drop (j+1)) (m.drop (j+1)):=by
 rw [List.drop_eq_getElem_cons hl,List.drop_eq_nil_of_le hm,List.drop_eq_nil_of_le (show m.length≤j+1 by omega),minusL]
def MinusI (l m:List Int) (w:World) (ov cv kv:Value) (wr:World):Prop:=
 ∃ (j:Nat) (c:Int) (os:List Int),kv=iV j∧cv=iV c∧OZ w.heap.size wr ov os∧os.length=j∧0≤c∧c≤1∧j≤l.length∧minusL 0 l m=os ++ minusL c (l.drop j) (m.drop j)∧Ext w wr
theorem minus_any (l m:List Int) (w:World) (v u:Value) (h:DR w v l) (h':DR w u m) (hl:l.length≤100) (hm:m.length≤100) (hle:dv m≤dv l) :
 Calls Tryz.prog 132 #[v,u] w fun e w'=>∃ x,e=.returned x∧Ext w w'∧DR w' x (trimL (minusL 0 l m)):=by
 obtain ⟨A,ca,rfl⟩:=h.form
 obtain ⟨B,cb,rfl⟩:=h'.form
 have HA:=zH h
 have HB:=zH h'
 have HD:=zH (minusL_spec 0 l m (by omega) (by omega) h.dg h'.dg (by omega)).1
 clear h h' hle
 go_in
 go_wp2_with (fail)
 go_loopw [5,6,7] (fun o c k wr=>MinusI l m w o c k wr) (fun _ _ k _=>l.length - (intOf k).toNat)
 case atStart=>
  unfold MinusI
  exact ⟨0,0,[],by go_num,by go_num,OZ.nil _ _,rfl,by omega,by omega,by omega,by simp,Ext.refl _⟩
 case round=>
  unfold MinusI at hrel
  obtain ⟨j,c,os,rfl,rfl,hF,hj,hc0,hc1,hjm,hE,hx⟩:=hrel
  have HF:=zH hF
  have HE:=zH hE
  have HJ:=zH hj
  clear hF hE hj
  have k1:(0:Int)≤(j:Int):=by omega
  by_cases hjl:j < l.length
  ·have HG:∀ (q r:Int) (g cap:Nat) (w6:World),Hid (minusL c (l.drop j) (m.drop j)=r :: minusL q (l.drop (j+1)) (m.drop (j+1)))→OZ w.heap.size w6 (.slice (some ⟨g,0,none⟩) (os.length+1) cap) (os ++ [r])→0≤q→q≤1→Ext w w6 →
    MinusI l m w (.slice (some ⟨g,0,none⟩) (os.length+1) cap) (iV q) (iV (j+1)) w6:=fun q r g cap w6 h1 h2 h3 h4 h7=>
    ⟨j+1,q,os ++ [r],by go_num,rfl,h2,by rw [List.length_append,HJ.out];rfl,h3,h4,by omega,by rw [HE.out,h1.out];simp,h7⟩
   have HG:=zH HG
   have k2:(j:Int) < (l.length:Int):=by omega
   obtain ⟨b,off,rfl,-,hcs⟩:=HA.out.block j hjl
   have hcl:=hcs j hjl
   have hb:=zB w _ hcl
   replace hcl:=(hx.cells.1 _ _ hb).trans hcl
   have hbl:=Nat.lt_of_lt_of_le hb hx.size
   have hxd:=HA.out.dg.at j hjl
   clear hcs
   by_cases hjm2:j < m.length
   ·have k3:(j:Int) < (m.length:Int):=by omega
    obtain ⟨b',off',rfl,-,hcs⟩:=HB.out.block j hjm2
    have hcm:=hcs j hjm2
    have hb':=zB w _ hcm
    replace hcm:=(hx.cells.1 _ _ hb').trans hcm
    have hbm:=Nat.lt_of_lt_of_le hb' hx.size
    have hyd:=HB.out.dg.at j hjm2
    have HP:=zH (minusL_y c l m j hjl hjm2)
    clear hcs
    generalize l[j]=x at *
    generalize m[j]=y at *
    by_cases hneg:x - c - y < 0
    ·rw [if_pos hneg] at HP
     go_wp2_with (at_builtin;refine append_z rfl (.tmp 35) (.tmp 37) rfl w.heap.size _ os (by rfl) (HF.out.ext xt) wr.heap.size (x - c - y+65536) (by rfl) (block_new (by simp)) (by have:=HJ.out;omega) (by have:=hx.size;simp;omega) ?_;intro g7 cap7 w7 hF7 hb7)
     have HF7:=zH hF7
     clear hF7
     go_wp2
     go_roundw
     case rel=>exact HG.out _ _ _ _ _ HP HF7.out (by omega) (by omega) (Below.trans (hx.trans (xt:Ext wr (wr.alloc (.cells #[iV (x - c - y+65536)] 3)))) hb7)
     case measure=>simp [intOf];omega
    ·rw [if_neg hneg] at HP
     go_wp2_with (at_builtin;refine append_z rfl (.tmp 35) (.tmp 37) rfl w.heap.size _ os (by rfl) (HF.out.ext xt) wr.heap.size (x - c - y) (by rfl) (block_new (by simp)) (by have:=HJ.out;omega) (by have:=hx.size;simp;omega) ?_;intro g7 cap7 w7 hF7 hb7)
     have HF7:=zH hF7
     clear hF7
     go_wp2
     go_roundw
     case rel=>exact HG.out _ _ _ _ _ HP HF7.out (by omega) (by omega) (Below.trans (hx.trans (xt:Ext wr (wr.alloc (.cells #[iV (x - c - y)] 3)))) hb7)
     case measure=>simp [intOf];omega
   ·have k3:¬ (j:Int) < (m.length:Int):=by omega
    have HP:=zH (minusL_n c l m j hjl (by omega))
    generalize l[j]=x at *
    by_cases hneg:x - c < 0
    ·rw [if_pos hneg] at HP
     go_wp2_with (at_builtin;refine append_z rfl (.tmp 35) (.tmp 37) rfl w.heap.size _ os (by rfl) (HF.out.ext xt) wr.heap.size (x - c+65536) (by rfl) (block_new (by simp)) (by have:=HJ.out;omega) (by have:=hx.size;simp;omega) ?_;intro g7 cap7 w7 hF7 hb7)
     have HF7:=zH hF7
     clear hF7
     go_wp2
     go_roundw
     case rel=>exact HG.out _ _ _ _ _ HP HF7.out (by omega) (by omega) (Below.trans (hx.trans (xt:Ext wr (wr.alloc (.cells #[iV (x - c+65536)] 3)))) hb7)
     case measure=>simp [intOf];omega
    ·rw [if_neg hneg] at HP
     go_wp2_with (at_builtin;refine append_z rfl (.tmp 35) (.tmp 37) rfl w.heap.size _ os (by rfl) (HF.out.ext xt) wr.heap.size (x - c) (by rfl) (block_new (by simp)) (by have:=HJ.out;omega) (by have:=hx.size;simp;omega) ?_;intro g7 cap7 w7 hF7 hb7)
     have HF7:=zH hF7
     clear hF7
     go_wp2
     go_roundw
     case rel=>exact HG.out _ _ _ _ _ HP HF7.out (by omega) (by omega) (Below.trans (hx.trans (xt:Ext wr (wr.alloc (.cells #[iV (x - c)] 3)))) hb7)
     case measure=>simp [intOf];omega
  ·have k2:¬ (j:Int) < (l.length:Int):=by omega
   have HD:=zH (show DR wr _ (minusL 0 l m) by
    have h1:=HE.out
    rw [List.drop_eq_nil_of_le (show l.length≤j by omega),minusL,List.append_nil] at h1
    rw [h1]
    refine HF.out.dr (by have:=HJ.out;omega) ?_
    rw [← h1]
    exact HD.out)
   go_wp2_with (go_at_call 85;(refine (trim_any (minusL 0 l m) _ _ HD.out).mono ?_);rintro e w8 ⟨x8,rfl,hx8,hd8⟩)
   go_ret
   exact ⟨_,rfl,hx.trans hx8,hd8⟩
def BZ (w:World) (p:Nat) (ls:List Int):Prop:=w.heap[p]? = some (.cells (ls.map (.int .i64)).toArray 3)
theorem BZ.cell {w:World} {p:Nat} {ls:List Int} (h:BZ w p ls) (k:Nat) (hk:k < ls.length):w.cell? ⟨p,k,none⟩=some (iV ls[k]):=by
 unfold BZ at h
 rw [(zC h).1]
 simp [hk]
theorem BZ.lt {w:World} {p:Nat} {ls:List Int} (h:BZ w p ls):p < w.heap.size:=zL h
theorem BZ.free {w:World} {p:Nat} {ls:List Int} (h:BZ w p ls) (i:Nat):w.frozen? ⟨p,i,none⟩=false:=(zC h).2.1 i
theorem BZ.ext {w w':World} {p:Nat} {ls:List Int} (h:BZ w p ls) (e:Ext w w'):BZ w' p ls:=(e.block _ h.lt).trans h
theorem BZ.dr {w:World} {p:Nat} {ls:List Int} (h:BZ w p ls) (hn:ls.length≤1000) (hd:Dg ls):DR w (.slice (some ⟨p,0,none⟩) ls.length ls.length) ls:=
 ⟨_,_,rfl,Nat.le_refl _,hn,hd,.inr ⟨p,0,rfl,fun k hk=>by rw [Nat.zero_add];exact h.cell k hk⟩⟩
theorem mulL_step (b os:List Int) (j:Nat) (l:List Int) (hl:j < l.length) (o:Int) (r:List Int) (h:rowL l[j] 0 os b=o :: r):mulL (l.drop j) b os=o :: mulL (l.drop (j+1)) b r:=by
 rw [List.drop_eq_getElem_cons hl,mulL,h]
theorem rowL_step (x c o y:Int) (os m:List Int) (k:Nat) (hk:k < m.length):rowL x c (o :: os) (m.drop k)=(o+x * m[k]+c) % 65536 :: rowL x ((o+x * m[k]+c) / 65536) os (m.drop (k+1)):=by
 rw [List.drop_eq_getElem_cons hk,rowL]
theorem rowL_end (x c o:Int) (os m:List Int) (k:Nat) (hk:m.length≤k):rowL x c (o :: os) (m.drop k)=c :: os:=by
 rw [List.drop_eq_nil_of_le hk,rowL]
theorem made_z (n:Nat):madeCells (Value.int .i64 0).cells (n * 1)=((List.replicate n (0:Int)).map (.int .i64)).toArray:=by
 apply Array.ext
 ·simp [madeCells]
 ·intro i h1 h2
  simp [madeCells,Value.cells,Nat.mod_one]
theorem rep_z (n:Nat):((List.replicate n (0:Int)).map (.int .i64)).toArray=Array.replicate n (Value.int .i64 0):=by simp
theorem make_z (w:World) (n:Nat) (z:Int) (hz:z=(n:Int)) (hn:n≤1000):(Instr.makeSlice 22 (iV z) (iV z)).run Tryz.prog w=.ok (.slice (some ⟨w.heap.size,0,none⟩) n n) (w.alloc (.cells (Array.replicate n (Value.int .i64 0)) 3)):=by
 subst hz
 obtain ⟨i0,hi,hz0,hz1,hz2⟩:=info_parts info3z
 have h:=run_make (P:=Tryz.prog) w 22 3 i0 (iV 0) Tryz.underlying22 hi hz0 .i64 .i64 n n (by omega) (by omega) (by rw [hz2];omega) (by omega)
 rw [hz1,Int.toNat_natCast,made_z,rep_z] at h
 exact h
theorem BZ.set' {w:World} {p:Nat} {ls:List Int} (h:BZ w p ls) (i:Nat) (z:Int):BZ (w.setCell ⟨p,i,none⟩ (iV z)) p (ls.set i z):=by
 unfold BZ
 rw [heap_setCell_same w p _ _ 3 _ h]
 simp [List.map_set]
def TimesI (l m:List Int) (w:World) (p:Nat) (kv:Value) (wr:World):Prop:=
 ∃ (j:Nat) (pre os:List Int),kv=iV j∧j≤l.length∧BZ wr p (pre ++ os)∧pre.length=j∧os.length=l.length - j+m.length∧Dg os∧(∀ k (h:k < os.length),m.length≤k→os[k]=0) ∧
  mulL l m (List.replicate (l.length+m.length) 0)=pre ++ mulL (l.drop j) m os∧Ext w wr
def RowI (x:Int) (m pre os:List Int) (w:World) (p:Nat) (cv kv:Value) (wr:World):Prop:=
 ∃ (k:Nat) (c:Int) (pre2 os2:List Int),kv=iV k∧cv=iV c∧k≤m.length∧BZ wr p (pre ++ (pre2 ++ os2))∧pre2.length=k∧os2.length+k=os.length∧Dg os2∧0≤c∧c < 65536∧rowL x 0 os m=pre2 ++ rowL x c os2 (m.drop k)∧Ext w wr
theorem times_any (l m:List Int) (w:World) (v u:Value) (h:DR w v l) (h':DR w u m) (hl:l.length≤100) (hm:m.length≤100) :
 Calls Tryz.prog 129 #[v,u] w fun e w'=>∃ x,e=.returned x∧Ext w w'∧DR w' x (trimL (mulL l m (List.replicate (l.length+m.length) 0))):=by
 obtain ⟨A,ca,rfl⟩:=h.form
 obtain ⟨B,cb,rfl⟩:=h'.form
 have HA:=zH h
 have HB:=zH h'
 have hDZ:Dg (List.replicate (l.length+m.length) 0):=fun d hd=>by rw [List.eq_of_mem_replicate hd];omega
 have HDZ:=zH hDZ
 have HMS:=zH (mulL_spec l m (List.replicate (l.length+m.length) 0) h.dg h'.dg hDZ (by simp) (fun k hk _=>by simp))
 clear h h' hDZ
 have k0:(l.length:Int)+(m.length:Int)≤200:=by omega
 go_in
 have hmk:=make_z w (l.length+m.length) ((l.length:Int)+(m.length:Int)) (by omega) (by omega)
 go_upto_block 0 with (fail)
 clear hmk
 have hZ:BZ (w.alloc (.cells (Array.replicate (l.length+m.length) (Value.int .i64 0)) 3)) w.heap.size (List.replicate (l.length+m.length) 0):=by
  unfold BZ;rw [rep_z];exact block_new rfl
 have hx1:Ext w (w.alloc (.cells (Array.replicate (l.length+m.length) (Value.int .i64 0)) 3)):=xt
 generalize w.alloc (.cells (Array.replicate (l.length+m.length) (Value.int .i64 0)) 3)=W1 at *
 obtain ⟨p,hp⟩:∃ p,p=w.heap.size:=⟨_,rfl⟩
 rw [← hp] at hZ ⊢
 have HPE:=zH hp
 have HZ:=zH hZ
 clear hp hZ
 go_wp2_with (fail)
 go_loopw [6] (fun k wr=>TimesI l m w p k wr) (fun k _=>l.length - (intOf k).toNat)
 case atStart=>
  unfold TimesI
  exact ⟨0,[],_,by go_num,by omega,HZ.out,rfl,by simp,HDZ.out,fun k hk _=>by simp,rfl,hx1⟩
 case round=>
  unfold TimesI at hrel
  obtain ⟨j,pre,os,rfl,hj,hZ,hpre,hos,hD,hz,hE,hx⟩:=hrel
  have HZr:=zH hZ
  have HE:=zH hE
  have HD:=zH hD
  have Hz:=zH hz
  clear hZ hE hD hz
  have k1:(0:Int)≤(j:Int):=by omega
  by_cases hjl:j < l.length
  ·have k2:(j:Int) < (l.length:Int):=by omega
   have HRS:=zH (rowL_spec l[j] (HA.out.dg.at j hjl) m 0 os (by omega) (by omega) HD.out HB.out.dg (by omega) Hz.out)
   have HMT:=zH (fun o r h=>mulL_step m os j l hjl o r h)
   obtain ⟨b,off,rfl,-,hcs⟩:=HA.out.block j hjl
   have hcl:=hcs j hjl
   have hb:=zB w _ hcl
   have hxd:=HA.out.dg.at j hjl
   clear hcs
   generalize l[j]=x at *
   have HCL:=zH hcl
   clear hcl
   go_wp2_with (fail)
   go_loopw [7,8] (fun c k wr=>RowI x m pre os w p c k wr) (fun _ k _=>m.length - (intOf k).toNat)
   case atStart=>
    unfold RowI
    exact ⟨0,0,[],os,by go_num,by go_num,by omega,by rw [List.nil_append];exact HZr.out,rfl,rfl,HD.out,by omega,by omega,rfl,hx⟩
   case round=>
    unfold RowI at hrel
    obtain ⟨k,c,pre2,os2,rfl,rfl,hk,hZ2,hpre2,hos2,hD2,hc0,hc1,hR,hx2⟩:=hrel
    obtain ⟨o,os3,rfl⟩:∃ o os3,os2=o :: os3:=by
     cases os2 with
     | nil=>simp at hos2;omega
     | cons o os3=>exact ⟨o,os3,rfl⟩
    have HZ2:=zH hZ2
    have HR:=zH hR
    have HD2:=zH hD2
    have hod:=hD2.head
    have hix:(pre ++ (pre2 ++ o :: os3)).length=l.length+m.length:=by simp at hos2 ⊢;omega
    have hcz:=hZ2.cell (j+k) (by rw [hix];omega)
    have hgz : (pre ++ (pre2 ++ o :: os3))[j + k]'(by rw [hix]; omega) = o := by
     rw [List.getElem_append_right (by omega),List.getElem_append_right (by omega)]
     simp only [show j+k - pre.length - pre2.length=0 by omega,List.getElem_cons_zero]
    rw [hgz] at hcz
    have hfz:=hZ2.free (j+k)
    have hlz:=hZ2.lt
    have HS:=zH (fun z:Int=>hZ2.set' (j+k) z)
    have HSE:=zH (show ∀ z:Int,(pre ++ (pre2 ++ o :: os3)).set (j+k) z=pre ++ ((pre2 ++ [z]) ++ os3) by
     intro z
     rw [List.set_append_right _ _ (by omega),List.set_append_right _ _ (by omega),show j+k - pre.length - pre2.length=0 by omega]
     simp)
    clear hZ2 hR hD2 hgz
    have k3:(0:Int)≤(k:Int):=by omega
    have k4:(0:Int)≤(j:Int)+(k:Int):=by omega
    have k5:((j:Int)+(k:Int)).toNat=j+k:=by omega
    have k6:=wz ((j:Int)+(k:Int)) (by omega)
    have k7:(j:Int)+(k:Int) < ((l.length+m.length:Nat):Int):=by omega
    by_cases hkm:k < m.length
    ·have k8:(k:Int) < (m.length:Int):=by omega
     have hcl:=(hx2.cells.1 _ _ hb).trans HCL.out
     have hbl:=Nat.lt_of_lt_of_le hb hx2.size
     obtain ⟨b',off',rfl,-,hcs⟩:=HB.out.block k hkm
     have hcm:=hcs k hkm
     have hb':=zB w _ hcm
     replace hcm:=(hx2.cells.1 _ _ hb').trans hcm
     have hbm:=Nat.lt_of_lt_of_le hb' hx2.size
     have hyd:=HB.out.dg.at k hkm
     have HRT:=zH (rowL_step x c o m[k] os3 m k hkm)
     clear hcs
     generalize m[k]=y at *
     obtain ⟨m0,m1⟩:=mul_digit hxd hyd
     have k9:=wz (x * y) (by omega)
     have k10:=wz (o+x * y) (by omega)
     have k11:=wz (o+x * y+c) (by omega)
     have k12:(o+x * y+c).tmod 65536=(o+x * y+c) % 65536:=Int.tmod_eq_emod_of_nonneg (by omega)
     have k13:(o+x * y+c).tdiv 65536=(o+x * y+c) / 65536:=Int.tdiv_eq_ediv_of_nonneg (by omega)
     go_upto_region 9 with (fail)
     go_quiet (fail)
     go_wp2
     go_roundw
     case rel=>
      unfold RowI
      refine ⟨k+1,(o+x * y+c) / 65536,pre2 ++ [(o+x * y+c) % 65536],os3,by go_num,rfl,by omega,?_,by simp [hpre2],by simp at hos2;omega,HD2.out.tail,by omega,by omega,?_,Below.setCell (hx2.trans (xt:Ext wr (wr.drewN nq))) (by have:=HPE.out;show _≤p;omega) _⟩
      ·have h1:=(HZ2.out.ext (xt:Ext wr (wr.drewN nq))).set' (j+k) ((o+x * y+c) % 65536)
       rw [HSE.out] at h1
       exact h1
      ·rw [HR.out,HRT.out];simp
     case measure=>simp [intOf];omega
    ·have k8:¬ (k:Int) < (m.length:Int):=by omega
     have HRE:Hid (rowL x 0 os m=pre2 ++ c :: os3):=zH (by rw [HR.out,rowL_end x c o os3 m k (by omega)])
     obtain rfl:k=m.length:=by omega
     clear HD2
     go_wp2
     go_roundw
     case rel=>
      have h1:=HRS.out
      have h2:=HZ2.out.set' (j+m.length) c
      rw [HSE.out,List.append_assoc,List.singleton_append,← HRE.out] at h2
      have h3:=HMT.out
      generalize rowL x 0 os m=rr at *
      cases rr with
      | nil=>have:=h1.2.2.1;simp at this;omega
      | cons r0 r=>
       obtain ⟨q1,q2,q3,q4⟩:=h1
       unfold TimesI
       refine ⟨j+1,pre ++ [r0],r,by go_num,by omega,by simpa using h2,by simp [hpre],by simp at q3;omega,q1.tail,fun k hk hk2=>q4 (k+1) (by simpa using hk) (by omega),?_,Below.setCell hx2 (by have:=HPE.out;show _≤p;omega) _⟩
       rw [HE.out,h3 r0 r rfl];simp
     case measure=>simp [intOf];omega
  ·have k2:¬ (j:Int) < (l.length:Int):=by omega
   have HDR:=zH (show DR wr (.slice (some ⟨p,0,none⟩) (l.length+m.length) (l.length+m.length)) (mulL l m (List.replicate (l.length+m.length) 0)) by
    have h1:=HE.out
    obtain ⟨q1,q2,q3⟩:=HMS.out
    rw [List.drop_eq_nil_of_le (show l.length≤j by omega),mulL] at h1
    have h2:=HZr.out
    rw [← h1] at h2
    rw [List.length_replicate] at q3
    have h3:=h2.dr (by omega) q1
    rwa [q3] at h3)
   go_wp2_with (go_at_call 85;(refine (trim_any _ _ _ HDR.out).mono ?_);rintro e w8 ⟨x8,rfl,hx8,hd8⟩)
   go_ret
   exact ⟨_,rfl,hx.trans hx8,hd8⟩
end Go.Proofs.YteomcpplajeidaaGreat
