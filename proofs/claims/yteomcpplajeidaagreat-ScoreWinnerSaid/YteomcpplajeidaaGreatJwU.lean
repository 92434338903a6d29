/-
  Lemmas of this claim (JwU). Nothing is asked.
-/
import Derived.Test.YteomcpplajeidaaGreatJwS
set_option linter.unusedVariables false
set_option linter.unusedSimpArgs false
set_option maxRecDepth 100000
set_option maxHeartbeats 40000000
namespace Go.Proofs.YteomcpplajeidaaGreat
open Go.RowKit
def tokE (s:ByteArray) (ed k:Nat):Nat:=
 if letB (byZ s k) then runP folB s (ed - (k+1)) (k+1)
 else if digB (byZ s k) then
  (if runP digB s (ed - (k+1)) (k+1)+1 < ed∧byZ s (runP digB s (ed - (k+1)) (k+1))=46∧digB (byZ s (runP digB s (ed - (k+1)) (k+1)+1))=true then runP digB s (ed - (runP digB s (ed - (k+1)) (k+1)+2)) (runP digB s (ed - (k+1)) (k+1)+2) else runP digB s (ed - (k+1)) (k+1))
 else k+1
theorem tokE_le {s:ByteArray} {ed k:Nat} (hk:k < ed):k < tokE s ed k∧tokE s ed k≤ed:=by
 unfold tokE
 have h1:=runP_le folB s (ed - (k+1)) (k+1)
 have h2:=runP_le digB s (ed - (k+1)) (k+1)
 have h3:=runP_le digB s (ed - (runP digB s (ed - (k+1)) (k+1)+2)) (runP digB s (ed - (k+1)) (k+1)+2)
 split
 ·omega
 ·split
  ·split
   ·omega
   ·omega
  ·omega
def parF (s:ByteArray) (ed:Nat):Nat→Nat→List (ByteArray×Int)
 | 0,_=>[]
 | d+1,k=>if k < ed then (if byZ s k=32 then parF s ed d (k+1) else (s.extract k (tokE s ed k),(k:Int)) :: parF s ed d (tokE s ed k)) else []
theorem not_both {c:Int} (h:letB c=true):digB c=false:=by
 unfold letB at h
 unfold digB
 simp at h ⊢
 omega
theorem parF_len (s:ByteArray) (ed:Nat):∀ d k,(parF s ed d k).length≤ed - k
 | 0,k=>Nat.zero_le _
 | d+1,k=>by
  unfold parF
  split
  ·rename_i hk
   have h:=parF_len s ed d (k+1)
   have h2:=parF_len s ed d (tokE s ed k)
   have h3:=tokE_le (s:=s) hk
   split <;> simp <;> omega
  ·simp
def parL (s:ByteArray) (fr ed:Nat):List (ByteArray×Int):=parF s ed (ed+1 - fr) fr ++ [eofT ed]
theorem parts205_any (s:ByteArray) (fr ed:Nat) (hs:s.size≤900000) (hft:fr≤ed) (hto:ed≤s.size) (w:World):Calls Tryz.prog 205 #[.string s,iV fr,iV ed] w fun e w'=>∃ g cap,e=.returned (.slice (some ⟨g,0,none⟩) (parL s fr ed).length cap)∧Ext w w' ∧
 w'.ownsRow w.heap.size 232 2 (.slice (some ⟨g,0,none⟩) (parL s fr ed).length cap) (parL s fr ed).length ((parL s fr ed).flatMap tokC):=by
 have HL:=zH (parF_len s ed (ed+1 - fr) fr)
 unfold parL
 obtain ⟨L,hL⟩:∃ L,parF s ed (ed+1 - fr) fr=L:=⟨_,rfl⟩
 rw [hL] at HL ⊢
 have HE:=zH hL
 clear hL
 go_in
 go_upto_region 3 with (fail)
 go_loopw [7,8] (fun ov kv wr=>∃ (out:List (ByteArray×Int)) (k d:Nat),kv=iV k∧k≤ed∧Hid (ed < k+d)∧Hid (out ++ parF s ed d k=L)∧Hid (out.length≤k - fr∧fr≤k)∧Hid (Ext w wr)∧Hid (wr.ownsRow w.heap.size 232 2 ov out.length (out.flatMap tokC))) (fun _ kv _=>ed - (iof kv).toNat)
 case atStart=>exact ⟨[],fr,ed+1 - fr,rfl,by omega,zH (by omega),zH (by rw [HE.out];rfl),zH (by simp),zH (Ext.refl _),zH (World.ownsRow_nil w _ _ _)⟩
 case round=>
  rename World=>wo
  obtain ⟨out,k,d,rfl,hk,HD,HO,HB,HX,HR⟩:=hrel
  by_cases hkt:k < ed
  ·have hki:(k:Int) < (ed:Int):=by omega
   obtain ⟨d',rfl⟩:∃ d',d=d' + 1:=⟨d - 1,by have:=HD.out;omega⟩
   have hks:k < s.size:=by omega
   by_cases hbl:((s[k].toNat:Nat):Int)=32
   ·have HN:Hid (parF s ed (d' + 1) k=parF s ed d' (k+1)):=zH (by show (if k < ed then _ else _)=_;rw [if_pos hkt,if_pos (by rw [byZ_at hks];exact hbl)])
    go_wp2_with (fail)
    exact ⟨⟨out,k+1,d',by simp,by omega,zH (by have:=HD.out;omega),zH (by rw [← HO.out,HN.out]),zH (by have:=HB.out;omega),HX,HR⟩,by simp [iof];omega⟩
   ·have HN:Hid (parF s ed (d' + 1) k=(s.extract k (tokE s ed k),(k:Int)) :: parF s ed d' (tokE s ed k)):=zH (by show (if k < ed then _ else _)=_;rw [if_pos hkt,if_neg (by rw [byZ_at hks];exact hbl)])
    have HC1:=zH (fun wz=>letter_any (s[k].toNat:Nat) wz)
    have HC2:=zH (fun wz=>digit_any (s[k].toNat:Nat) wz)
    have HBL:Hid (byZ s k=(s[k].toNat:Nat)):=zH (byZ_at hks)
    cases hlt:letB ((s[k].toNat:Nat):Int) with
    | true=>
     rw [hlt] at HC1
     have hdg:digB ((s[k].toNat:Nat):Int)=false:=not_both hlt
     rw [hdg] at HC2
     have HE1:Hid (tokE s ed k=runP folB s (ed - (k+1)) (k+1)):=zH (by unfold tokE;rw [HBL.out,hlt];rfl)
     have hbb:(((s[k].toNat:Nat):Int) == 32)=false:=by simp [hbl]
     clear hlt hdg
     go_upto_region 10 with
     (first
       |(go_at_call 146;(with_reducible refine (HC1.out _).mono ?_);rintro e w1 ⟨rfl,rfl⟩)
       |(go_at_call 185;(with_reducible refine (HC2.out _).mono ?_);rintro e w1 ⟨rfl,rfl⟩)
       |(go_at_call 145;(with_reducible refine (HF.out _).mono ?_);rintro e w1 ⟨rfl,rfl⟩)
       |(go_at_call 185;(with_reducible refine (HF.out _).mono ?_);rintro e w1 ⟨rfl,rfl⟩)
       |(go_at_call 185;(with_reducible refine (HF2.out _).mono ?_);rintro e w1 ⟨rfl,rfl⟩))
     go_loopw [9] (fun nv wr=>∃ n:Nat,nv=iV n∧k+1≤n∧n≤ed∧Hid (runP folB s (ed - n) n=tokE s ed k)∧wr=wo) (fun nv _=>ed - (iof nv).toNat)
     case atStart=>exact ⟨k+1,by simp,Nat.le_refl _,by omega,zH HE1.out.symm,rfl⟩
     case round=>
      obtain ⟨n,rfl,hkn,hnt,HQ,rfl⟩:=hrel
      by_cases hnl:n < ed
      ·have hnli:(n:Int) < (ed:Int):=by omega
       have hns:n < s.size:=by omega
       have HF:=zH (fun wz=>follows_any (s[n].toNat:Nat) wz)
       have HBN:Hid (byZ s n=(s[n].toNat:Nat)):=zH (byZ_at hns)
       cases hf:folB ((s[n].toNat:Nat):Int) with
       | true=>
        rw [hf] at HF
        have HE2:Hid (runP folB s (ed - (n+1)) (n+1)=tokE s ed k):=zH (by rw [← HQ.out];exact runP_go hnl (by rw [HBN.out,hf]))
        clear hf
        go_wp2_with
        (first
          |(go_at_call 146;(with_reducible refine (HC1.out _).mono ?_);rintro e w1 ⟨rfl,rfl⟩)
          |(go_at_call 185;(with_reducible refine (HC2.out _).mono ?_);rintro e w1 ⟨rfl,rfl⟩)
          |(go_at_call 145;(with_reducible refine (HF.out _).mono ?_);rintro e w1 ⟨rfl,rfl⟩)
          |(go_at_call 185;(with_reducible refine (HF.out _).mono ?_);rintro e w1 ⟨rfl,rfl⟩)
          |(go_at_call 185;(with_reducible refine (HF2.out _).mono ?_);rintro e w1 ⟨rfl,rfl⟩))
        exact ⟨⟨n+1,by simp,by omega,by omega,HE2,trivial⟩,by simp [iof];omega⟩
       | false=>
        rw [hf] at HF
        have HE2:Hid (n=tokE s ed k):=zH (by rw [← HQ.out];exact (runP_no (by rw [HBN.out,hf])).symm)
        clear hf
        have HT:=zH (tokE_le (s:=s) hkt)
        have hnk:k < n:=by have:=HE2.out;have:=HT.out;omega
        have hnt:n≤ed:=by have:=HE2.out;have:=HT.out;omega
        obtain ⟨W8,hW8⟩:∃ W8:World,W8=wr.alloc (.cells #[.string (s.extract k n),iV k] 232):=⟨_,rfl⟩
        have hxa:Ext wr W8:=by rw [hW8];exact Ext.alloc (Ext.refl _) _
        have hat:W8.heap[wr.heap.size]? = some (.cells #[.string (s.extract k n),iV k] 232):=by rw [hW8];exact block_new rfl
        have HXA:=zH hxa;have HAT:=zH hat;have HW:=zH hW8
        have HRX:=zH (row_ext HR.out hxa)
        have HXB:=zH (HX.out.trans hxa)
        have hlen:out.length < 1000000:=by have:=HB.out;omega
        clear hxa hat hW8
        go_wp2_with (first
         |(go_at_call 146;(with_reducible refine (HC1.out _).mono ?_);rintro e w1 ⟨rfl,rfl⟩)
         |(go_at_call 185;(with_reducible refine (HC2.out _).mono ?_);rintro e w1 ⟨rfl,rfl⟩)
         |(go_at_call 145;(with_reducible refine (HF.out _).mono ?_);rintro e w1 ⟨rfl,rfl⟩)
         |(go_at_call 185;(with_reducible refine (HF.out _).mono ?_);rintro e w1 ⟨rfl,rfl⟩)
         |(go_at_call 185;(with_reducible refine (HF2.out _).mono ?_);rintro e w1 ⟨rfl,rfl⟩)
         |(at_builtin;rw [← HW.out];refine append_one (cs:=tokC) (z:=.agg #[.string ⟨#[]⟩,iV 0]) one_tok 162 232 24 Tryz.underlying162 (by kernel_rfl) (by rfl) (by decide) (by decide) rfl (.tmp 86) (.tmp 93) rfl w.heap.size _ out (by rfl) HRX.out wr.heap.size (s.extract k n,(k:Int)) (by rfl) HAT.out hlen (Nat.le_trans HX.out.size HXA.out.size) ?_;intro g7 cap7 w7 hr7 hb7;have HX7:Hid (Ext w w7):=zH (RowKit.Below.trans HXB.out hb7);have HR7:=zH hr7;clear hr7 hb7))
        exact ⟨⟨out ++ [(s.extract k n,(k:Int))],n,d',by simp,by omega,zH (by have:=HD.out;omega),zH (by rw [← HO.out,HN.out,← HE2.out];simp),zH (by have:=HB.out;simp;omega),HX7,HR7⟩,by simp [iof];omega⟩
      ·have hnli:¬ (n:Int) < (ed:Int):=by omega
       have HE2:Hid (n=tokE s ed k):=zH (by rw [← HQ.out,show ed=n by omega];exact runP_end.symm)
       have HT:=zH (tokE_le (s:=s) hkt)
       have hnk:k < n:=by have:=HE2.out;have:=HT.out;omega
       have hnt:n≤ed:=by have:=HE2.out;have:=HT.out;omega
       obtain ⟨W8,hW8⟩:∃ W8:World,W8=wr.alloc (.cells #[.string (s.extract k n),iV k] 232):=⟨_,rfl⟩
       have hxa:Ext wr W8:=by rw [hW8];exact Ext.alloc (Ext.refl _) _
       have hat:W8.heap[wr.heap.size]? = some (.cells #[.string (s.extract k n),iV k] 232):=by rw [hW8];exact block_new rfl
       have HXA:=zH hxa;have HAT:=zH hat;have HW:=zH hW8
       have HRX:=zH (row_ext HR.out hxa)
       have HXB:=zH (HX.out.trans hxa)
       have hlen:out.length < 1000000:=by have:=HB.out;omega
       clear hxa hat hW8
       go_wp2_with (first
        |(go_at_call 146;(with_reducible refine (HC1.out _).mono ?_);rintro e w1 ⟨rfl,rfl⟩)
        |(go_at_call 185;(with_reducible refine (HC2.out _).mono ?_);rintro e w1 ⟨rfl,rfl⟩)
        |(go_at_call 145;(with_reducible refine (HF.out _).mono ?_);rintro e w1 ⟨rfl,rfl⟩)
        |(go_at_call 185;(with_reducible refine (HF.out _).mono ?_);rintro e w1 ⟨rfl,rfl⟩)
        |(go_at_call 185;(with_reducible refine (HF2.out _).mono ?_);rintro e w1 ⟨rfl,rfl⟩)
        |(at_builtin;rw [← HW.out];refine append_one (cs:=tokC) (z:=.agg #[.string ⟨#[]⟩,iV 0]) one_tok 162 232 24 Tryz.underlying162 (by kernel_rfl) (by rfl) (by decide) (by decide) rfl (.tmp 86) (.tmp 93) rfl w.heap.size _ out (by rfl) HRX.out wr.heap.size (s.extract k n,(k:Int)) (by rfl) HAT.out hlen (Nat.le_trans HX.out.size HXA.out.size) ?_;intro g7 cap7 w7 hr7 hb7;have HX7:Hid (Ext w w7):=zH (RowKit.Below.trans HXB.out hb7);have HR7:=zH hr7;clear hr7 hb7))
       exact ⟨⟨out ++ [(s.extract k n,(k:Int))],n,d',by simp,by omega,zH (by have:=HD.out;omega),zH (by rw [← HO.out,HN.out,← HE2.out];simp),zH (by have:=HB.out;simp;omega),HX7,HR7⟩,by simp [iof];omega⟩
    | false=>
     rw [hlt] at HC1
     cases hdg:digB ((s[k].toNat:Nat):Int) with
     | false=>
      rw [hdg] at HC2
      have HE2:Hid (k+1=tokE s ed k):=zH (by unfold tokE;rw [HBL.out,hlt,hdg];rfl)
      have hbb:(((s[k].toNat:Nat):Int) == 32)=false:=by simp [hbl]
      clear hlt hdg
      have HT:=zH (tokE_le (s:=s) hkt)
      have hnk:k < (k+1):=by have:=HE2.out;have:=HT.out;omega
      have hnt:(k+1)≤ed:=by have:=HE2.out;have:=HT.out;omega
      obtain ⟨W8,hW8⟩:∃ W8:World,W8=wo.alloc (.cells #[.string (s.extract k (k+1)),iV k] 232):=⟨_,rfl⟩
      have hxa:Ext wo W8:=by rw [hW8];exact Ext.alloc (Ext.refl _) _
      have hat:W8.heap[wo.heap.size]? = some (.cells #[.string (s.extract k (k+1)),iV k] 232):=by rw [hW8];exact block_new rfl
      have HXA:=zH hxa;have HAT:=zH hat;have HW:=zH hW8
      have HRX:=zH (row_ext HR.out hxa)
      have HXB:=zH (HX.out.trans hxa)
      have hlen:out.length < 1000000:=by have:=HB.out;omega
      clear hxa hat hW8
      go_wp2_with (first
       |(go_at_call 146;(with_reducible refine (HC1.out _).mono ?_);rintro e w1 ⟨rfl,rfl⟩)
       |(go_at_call 185;(with_reducible refine (HC2.out _).mono ?_);rintro e w1 ⟨rfl,rfl⟩)
       |(go_at_call 145;(with_reducible refine (HF.out _).mono ?_);rintro e w1 ⟨rfl,rfl⟩)
       |(go_at_call 185;(with_reducible refine (HF.out _).mono ?_);rintro e w1 ⟨rfl,rfl⟩)
       |(go_at_call 185;(with_reducible refine (HF2.out _).mono ?_);rintro e w1 ⟨rfl,rfl⟩)
       |(at_builtin;rw [← HW.out];refine append_one (cs:=tokC) (z:=.agg #[.string ⟨#[]⟩,iV 0]) one_tok 162 232 24 Tryz.underlying162 (by kernel_rfl) (by rfl) (by decide) (by decide) rfl (.tmp 86) (.tmp 93) rfl w.heap.size _ out (by rfl) HRX.out wo.heap.size (s.extract k (k+1),(k:Int)) (by rfl) HAT.out hlen (Nat.le_trans HX.out.size HXA.out.size) ?_;intro g7 cap7 w7 hr7 hb7;have HX7:Hid (Ext w w7):=zH (RowKit.Below.trans HXB.out hb7);have HR7:=zH hr7;clear hr7 hb7))
      exact ⟨⟨out ++ [(s.extract k (k+1),(k:Int))],(k+1),d',by simp,by omega,zH (by have:=HD.out;omega),zH (by rw [← HO.out,HN.out,← HE2.out];simp),zH (by have:=HB.out;simp;omega),HX7,HR7⟩,by simp [iof];omega⟩
     | true=>
      rw [hdg] at HC2
      have HE1:Hid (tokE s ed k=if runP digB s (ed - (k+1)) (k+1)+1 < ed∧byZ s (runP digB s (ed - (k+1)) (k+1))=46∧digB (byZ s (runP digB s (ed - (k+1)) (k+1)+1))=true then runP digB s (ed - (runP digB s (ed - (k+1)) (k+1)+2)) (runP digB s (ed - (k+1)) (k+1)+2) else runP digB s (ed - (k+1)) (k+1)):=zH (by unfold tokE;rw [HBL.out,hlt,hdg];rfl)
      have hbb:(((s[k].toNat:Nat):Int) == 32)=false:=by simp [hbl]
      obtain ⟨r1,hr1⟩:∃ r1,runP digB s (ed - (k+1)) (k+1)=r1:=⟨_,rfl⟩
      rw [hr1] at HE1
      have HR1:=zH hr1
      clear hlt hdg hr1
      go_upto_region 13 with
      (first
        |(go_at_call 146;(with_reducible refine (HC1.out _).mono ?_);rintro e w1 ⟨rfl,rfl⟩)
        |(go_at_call 185;(with_reducible refine (HC2.out _).mono ?_);rintro e w1 ⟨rfl,rfl⟩)
        |(go_at_call 145;(with_reducible refine (HF.out _).mono ?_);rintro e w1 ⟨rfl,rfl⟩)
        |(go_at_call 185;(with_reducible refine (HF.out _).mono ?_);rintro e w1 ⟨rfl,rfl⟩)
        |(go_at_call 185;(with_reducible refine (HF2.out _).mono ?_);rintro e w1 ⟨rfl,rfl⟩))
      go_loopw [9] (fun nv wr=>∃ n:Nat,nv=iV n∧k+1≤n∧n≤ed∧Hid (runP digB s (ed - n) n=r1)∧wr=wo) (fun nv _=>ed - (iof nv).toNat)
      case atStart=>exact ⟨k+1,by simp,Nat.le_refl _,by omega,HR1,rfl⟩
      case round=>
       obtain ⟨n,rfl,hkn,hnt,HQ,rfl⟩:=hrel
       by_cases hnl:n < ed
       ·have hnli:(n:Int) < (ed:Int):=by omega
        have hns:n < s.size:=by omega
        have HF:=zH (fun wz=>digit_any (s[n].toNat:Nat) wz)
        have HBN:Hid (byZ s n=(s[n].toNat:Nat)):=zH (byZ_at hns)
        cases hf:digB ((s[n].toNat:Nat):Int) with
        | true=>
         rw [hf] at HF
         have HE2:Hid (runP digB s (ed - (n+1)) (n+1)=r1):=zH (by rw [← HQ.out];exact runP_go hnl (by rw [HBN.out,hf]))
         clear hf
         go_wp2_with
         (first
           |(go_at_call 146;(with_reducible refine (HC1.out _).mono ?_);rintro e w1 ⟨rfl,rfl⟩)
           |(go_at_call 185;(with_reducible refine (HC2.out _).mono ?_);rintro e w1 ⟨rfl,rfl⟩)
           |(go_at_call 145;(with_reducible refine (HF.out _).mono ?_);rintro e w1 ⟨rfl,rfl⟩)
           |(go_at_call 185;(with_reducible refine (HF.out _).mono ?_);rintro e w1 ⟨rfl,rfl⟩)
           |(go_at_call 185;(with_reducible refine (HF2.out _).mono ?_);rintro e w1 ⟨rfl,rfl⟩))
         exact ⟨⟨n+1,by simp,by omega,by omega,HE2,trivial⟩,by simp [iof];omega⟩
        | false=>
         rw [hf] at HF
         have HE3:Hid (n=r1):=zH (by rw [← HQ.out];exact (runP_no (by rw [HBN.out,hf])).symm)
         rw [← HE3.out] at HE1
         clear hf
         by_cases hn1:n+1 < ed
         ·have hn1i:(n:Int)+1 < (ed:Int):=by omega
          have hns1:n+1 < s.size:=by omega
          by_cases hdt:((s[n].toNat:Nat):Int)=46
          ·have hdb:(((s[n].toNat:Nat):Int) == 46)=true:=by simp [hdt]
           simp only [hdt] at HF
           have HF2:=zH (fun wz=>digit_any (s[n+1].toNat:Nat) wz)
           have HBN1:Hid (byZ s (n+1)=(s[n+1].toNat:Nat)):=zH (byZ_at hns1)
           have HDT:=zH hdt
           cases hf2:digB ((s[n+1].toNat:Nat):Int) with
           | true=>
            rw [hf2] at HF2
            have HE4:Hid (tokE s ed k=runP digB s (ed - (n+2)) (n+2)):=zH (by rw [HE1.out,if_pos ⟨hn1,by rw [HBN.out];exact HDT.out,by rw [HBN1.out,hf2]⟩])
            clear hf2
            go_upto_region 17 with
            (first
              |(go_at_call 146;(with_reducible refine (HC1.out _).mono ?_);rintro e w1 ⟨rfl,rfl⟩)
              |(go_at_call 185;(with_reducible refine (HC2.out _).mono ?_);rintro e w1 ⟨rfl,rfl⟩)
              |(go_at_call 145;(with_reducible refine (HF.out _).mono ?_);rintro e w1 ⟨rfl,rfl⟩)
              |(go_at_call 185;(with_reducible refine (HF.out _).mono ?_);rintro e w1 ⟨rfl,rfl⟩)
              |(go_at_call 185;(with_reducible refine (HF2.out _).mono ?_);rintro e w1 ⟨rfl,rfl⟩))
            go_loopw [9] (fun nv wq=>∃ m:Nat,nv=iV m∧n+2≤m∧m≤ed∧Hid (runP digB s (ed - m) m=tokE s ed k)∧wq=wr) (fun nv _=>ed - (iof nv).toNat)
            case atStart=>exact ⟨n+2,by simp,Nat.le_refl _,by omega,zH HE4.out.symm,rfl⟩
            case round=>
             clear hdb hdt
             obtain ⟨m,rfl,hkm,hmt,HQ,rfl⟩:=hrel
             by_cases hml:m < ed
             ·have hmli:(m:Int) < (ed:Int):=by omega
              have hms:m < s.size:=by omega
              have HF:=zH (fun wz=>digit_any (s[m].toNat:Nat) wz)
              have HBM:Hid (byZ s m=(s[m].toNat:Nat)):=zH (byZ_at hms)
              cases hf:digB ((s[m].toNat:Nat):Int) with
              | true=>
               rw [hf] at HF
               have HE2:Hid (runP digB s (ed - (m+1)) (m+1)=tokE s ed k):=zH (by rw [← HQ.out];exact runP_go hml (by rw [HBM.out,hf]))
               clear hf
               go_wp2_with
               (first
                 |(go_at_call 146;(with_reducible refine (HC1.out _).mono ?_);rintro e w1 ⟨rfl,rfl⟩)
                 |(go_at_call 185;(with_reducible refine (HC2.out _).mono ?_);rintro e w1 ⟨rfl,rfl⟩)
                 |(go_at_call 145;(with_reducible refine (HF.out _).mono ?_);rintro e w1 ⟨rfl,rfl⟩)
                 |(go_at_call 185;(with_reducible refine (HF.out _).mono ?_);rintro e w1 ⟨rfl,rfl⟩)
                 |(go_at_call 185;(with_reducible refine (HF2.out _).mono ?_);rintro e w1 ⟨rfl,rfl⟩))
               exact ⟨⟨m+1,by simp,by omega,by omega,HE2,trivial⟩,by simp [iof];omega⟩
              | false=>
               rw [hf] at HF
               have HE2:Hid (m=tokE s ed k):=zH (by rw [← HQ.out];exact (runP_no (by rw [HBM.out,hf])).symm)
               clear hf
               have HT:=zH (tokE_le (s:=s) hkt)
               have hnk:k < m:=by have:=HE2.out;have:=HT.out;omega
               have hnt:m≤ed:=by have:=HE2.out;have:=HT.out;omega
               obtain ⟨W8,hW8⟩:∃ W8:World,W8=wr.alloc (.cells #[.string (s.extract k m),iV k] 232):=⟨_,rfl⟩
               have hxa:Ext wr W8:=by rw [hW8];exact Ext.alloc (Ext.refl _) _
               have hat:W8.heap[wr.heap.size]? = some (.cells #[.string (s.extract k m),iV k] 232):=by rw [hW8];exact block_new rfl
               have HXA:=zH hxa;have HAT:=zH hat;have HW:=zH hW8
               have HRX:=zH (row_ext HR.out hxa)
               have HXB:=zH (HX.out.trans hxa)
               have hlen:out.length < 1000000:=by have:=HB.out;omega
               clear hxa hat hW8
               go_wp2_with (first
                |(go_at_call 146;(with_reducible refine (HC1.out _).mono ?_);rintro e w1 ⟨rfl,rfl⟩)
                |(go_at_call 185;(with_reducible refine (HC2.out _).mono ?_);rintro e w1 ⟨rfl,rfl⟩)
                |(go_at_call 145;(with_reducible refine (HF.out _).mono ?_);rintro e w1 ⟨rfl,rfl⟩)
                |(go_at_call 185;(with_reducible refine (HF.out _).mono ?_);rintro e w1 ⟨rfl,rfl⟩)
                |(go_at_call 185;(with_reducible refine (HF2.out _).mono ?_);rintro e w1 ⟨rfl,rfl⟩)
                |(at_builtin;rw [← HW.out];refine append_one (cs:=tokC) (z:=.agg #[.string ⟨#[]⟩,iV 0]) one_tok 162 232 24 Tryz.underlying162 (by kernel_rfl) (by rfl) (by decide) (by decide) rfl (.tmp 86) (.tmp 93) rfl w.heap.size _ out (by rfl) HRX.out wr.heap.size (s.extract k m,(k:Int)) (by rfl) HAT.out hlen (Nat.le_trans HX.out.size HXA.out.size) ?_;intro g7 cap7 w7 hr7 hb7;have HX7:Hid (Ext w w7):=zH (RowKit.Below.trans HXB.out hb7);have HR7:=zH hr7;clear hr7 hb7))
               exact ⟨⟨out ++ [(s.extract k m,(k:Int))],m,d',by simp,by omega,zH (by have:=HD.out;omega),zH (by rw [← HO.out,HN.out,← HE2.out];simp),zH (by have:=HB.out;simp;omega),HX7,HR7⟩,by simp [iof];omega⟩
             ·have hmli:¬ (m:Int) < (ed:Int):=by omega
              have HE2:Hid (m=tokE s ed k):=zH (by rw [← HQ.out,show ed=m by omega];exact runP_end.symm)
              have HT:=zH (tokE_le (s:=s) hkt)
              have hnk:k < m:=by have:=HE2.out;have:=HT.out;omega
              have hnt:m≤ed:=by have:=HE2.out;have:=HT.out;omega
              obtain ⟨W8,hW8⟩:∃ W8:World,W8=wr.alloc (.cells #[.string (s.extract k m),iV k] 232):=⟨_,rfl⟩
              have hxa:Ext wr W8:=by rw [hW8];exact Ext.alloc (Ext.refl _) _
              have hat:W8.heap[wr.heap.size]? = some (.cells #[.string (s.extract k m),iV k] 232):=by rw [hW8];exact block_new rfl
              have HXA:=zH hxa;have HAT:=zH hat;have HW:=zH hW8
              have HRX:=zH (row_ext HR.out hxa)
              have HXB:=zH (HX.out.trans hxa)
              have hlen:out.length < 1000000:=by have:=HB.out;omega
              clear hxa hat hW8
              go_wp2_with (first
               |(go_at_call 146;(with_reducible refine (HC1.out _).mono ?_);rintro e w1 ⟨rfl,rfl⟩)
               |(go_at_call 185;(with_reducible refine (HC2.out _).mono ?_);rintro e w1 ⟨rfl,rfl⟩)
               |(go_at_call 145;(with_reducible refine (HF.out _).mono ?_);rintro e w1 ⟨rfl,rfl⟩)
               |(go_at_call 185;(with_reducible refine (HF.out _).mono ?_);rintro e w1 ⟨rfl,rfl⟩)
               |(go_at_call 185;(with_reducible refine (HF2.out _).mono ?_);rintro e w1 ⟨rfl,rfl⟩)
               |(at_builtin;rw [← HW.out];refine append_one (cs:=tokC) (z:=.agg #[.string ⟨#[]⟩,iV 0]) one_tok 162 232 24 Tryz.underlying162 (by kernel_rfl) (by rfl) (by decide) (by decide) rfl (.tmp 86) (.tmp 93) rfl w.heap.size _ out (by rfl) HRX.out wr.heap.size (s.extract k m,(k:Int)) (by rfl) HAT.out hlen (Nat.le_trans HX.out.size HXA.out.size) ?_;intro g7 cap7 w7 hr7 hb7;have HX7:Hid (Ext w w7):=zH (RowKit.Below.trans HXB.out hb7);have HR7:=zH hr7;clear hr7 hb7))
              exact ⟨⟨out ++ [(s.extract k m,(k:Int))],m,d',by simp,by omega,zH (by have:=HD.out;omega),zH (by rw [← HO.out,HN.out,← HE2.out];simp),zH (by have:=HB.out;simp;omega),HX7,HR7⟩,by simp [iof];omega⟩
           | false=>
            rw [hf2] at HF2
            have HE2:Hid (n=tokE s ed k):=zH (by rw [HE1.out,if_neg (by rintro ⟨-,-,h⟩;rw [HBN1.out,hf2] at h;cases h)])
            clear hf2
            have HT:=zH (tokE_le (s:=s) hkt)
            have hnk:k < n:=by have:=HE2.out;have:=HT.out;omega
            have hnt:n≤ed:=by have:=HE2.out;have:=HT.out;omega
            obtain ⟨W8,hW8⟩:∃ W8:World,W8=wr.alloc (.cells #[.string (s.extract k n),iV k] 232):=⟨_,rfl⟩
            have hxa:Ext wr W8:=by rw [hW8];exact Ext.alloc (Ext.refl _) _
            have hat:W8.heap[wr.heap.size]? = some (.cells #[.string (s.extract k n),iV k] 232):=by rw [hW8];exact block_new rfl
            have HXA:=zH hxa;have HAT:=zH hat;have HW:=zH hW8
            have HRX:=zH (row_ext HR.out hxa)
            have HXB:=zH (HX.out.trans hxa)
            have hlen:out.length < 1000000:=by have:=HB.out;omega
            clear hxa hat hW8
            go_wp2_with (first
             |(go_at_call 146;(with_reducible refine (HC1.out _).mono ?_);rintro e w1 ⟨rfl,rfl⟩)
             |(go_at_call 185;(with_reducible refine (HC2.out _).mono ?_);rintro e w1 ⟨rfl,rfl⟩)
             |(go_at_call 145;(with_reducible refine (HF.out _).mono ?_);rintro e w1 ⟨rfl,rfl⟩)
             |(go_at_call 185;(with_reducible refine (HF.out _).mono ?_);rintro e w1 ⟨rfl,rfl⟩)
             |(go_at_call 185;(with_reducible refine (HF2.out _).mono ?_);rintro e w1 ⟨rfl,rfl⟩)
             |(at_builtin;rw [← HW.out];refine append_one (cs:=tokC) (z:=.agg #[.string ⟨#[]⟩,iV 0]) one_tok 162 232 24 Tryz.underlying162 (by kernel_rfl) (by rfl) (by decide) (by decide) rfl (.tmp 86) (.tmp 93) rfl w.heap.size _ out (by rfl) HRX.out wr.heap.size (s.extract k n,(k:Int)) (by rfl) HAT.out hlen (Nat.le_trans HX.out.size HXA.out.size) ?_;intro g7 cap7 w7 hr7 hb7;have HX7:Hid (Ext w w7):=zH (RowKit.Below.trans HXB.out hb7);have HR7:=zH hr7;clear hr7 hb7))
            exact ⟨⟨out ++ [(s.extract k n,(k:Int))],n,d',by simp,by omega,zH (by have:=HD.out;omega),zH (by rw [← HO.out,HN.out,← HE2.out];simp),zH (by have:=HB.out;simp;omega),HX7,HR7⟩,by simp [iof];omega⟩
          ·have hdb:(((s[n].toNat:Nat):Int) == 46)=false:=by simp [hdt]
           have HDT:=zH hdt
           have HE2:Hid (n=tokE s ed k):=zH (by rw [HE1.out,if_neg (by rintro ⟨-,h,-⟩;rw [HBN.out] at h;exact HDT.out h)])
           have HT:=zH (tokE_le (s:=s) hkt)
           have hnk:k < n:=by have:=HE2.out;have:=HT.out;omega
           have hnt:n≤ed:=by have:=HE2.out;have:=HT.out;omega
           obtain ⟨W8,hW8⟩:∃ W8:World,W8=wr.alloc (.cells #[.string (s.extract k n),iV k] 232):=⟨_,rfl⟩
           have hxa:Ext wr W8:=by rw [hW8];exact Ext.alloc (Ext.refl _) _
           have hat:W8.heap[wr.heap.size]? = some (.cells #[.string (s.extract k n),iV k] 232):=by rw [hW8];exact block_new rfl
           have HXA:=zH hxa;have HAT:=zH hat;have HW:=zH hW8
           have HRX:=zH (row_ext HR.out hxa)
           have HXB:=zH (HX.out.trans hxa)
           have hlen:out.length < 1000000:=by have:=HB.out;omega
           clear hxa hat hW8
           go_wp2_with (first
            |(go_at_call 146;(with_reducible refine (HC1.out _).mono ?_);rintro e w1 ⟨rfl,rfl⟩)
            |(go_at_call 185;(with_reducible refine (HC2.out _).mono ?_);rintro e w1 ⟨rfl,rfl⟩)
            |(go_at_call 145;(with_reducible refine (HF.out _).mono ?_);rintro e w1 ⟨rfl,rfl⟩)
            |(go_at_call 185;(with_reducible refine (HF.out _).mono ?_);rintro e w1 ⟨rfl,rfl⟩)
            |(go_at_call 185;(with_reducible refine (HF2.out _).mono ?_);rintro e w1 ⟨rfl,rfl⟩)
            |(at_builtin;rw [← HW.out];refine append_one (cs:=tokC) (z:=.agg #[.string ⟨#[]⟩,iV 0]) one_tok 162 232 24 Tryz.underlying162 (by kernel_rfl) (by rfl) (by decide) (by decide) rfl (.tmp 86) (.tmp 93) rfl w.heap.size _ out (by rfl) HRX.out wr.heap.size (s.extract k n,(k:Int)) (by rfl) HAT.out hlen (Nat.le_trans HX.out.size HXA.out.size) ?_;intro g7 cap7 w7 hr7 hb7;have HX7:Hid (Ext w w7):=zH (RowKit.Below.trans HXB.out hb7);have HR7:=zH hr7;clear hr7 hb7))
           exact ⟨⟨out ++ [(s.extract k n,(k:Int))],n,d',by simp,by omega,zH (by have:=HD.out;omega),zH (by rw [← HO.out,HN.out,← HE2.out];simp),zH (by have:=HB.out;simp;omega),HX7,HR7⟩,by simp [iof];omega⟩
         ·have hn1i:¬ (n:Int)+1 < (ed:Int):=by omega
          have HE2:Hid (n=tokE s ed k):=zH (by rw [HE1.out,if_neg (by rintro ⟨h,-⟩;exact hn1 h)])
          have HT:=zH (tokE_le (s:=s) hkt)
          have hnk:k < n:=by have:=HE2.out;have:=HT.out;omega
          have hnt:n≤ed:=by have:=HE2.out;have:=HT.out;omega
          obtain ⟨W8,hW8⟩:∃ W8:World,W8=wr.alloc (.cells #[.string (s.extract k n),iV k] 232):=⟨_,rfl⟩
          have hxa:Ext wr W8:=by rw [hW8];exact Ext.alloc (Ext.refl _) _
          have hat:W8.heap[wr.heap.size]? = some (.cells #[.string (s.extract k n),iV k] 232):=by rw [hW8];exact block_new rfl
          have HXA:=zH hxa;have HAT:=zH hat;have HW:=zH hW8
          have HRX:=zH (row_ext HR.out hxa)
          have HXB:=zH (HX.out.trans hxa)
          have hlen:out.length < 1000000:=by have:=HB.out;omega
          clear hxa hat hW8
          go_wp2_with (first
           |(go_at_call 146;(with_reducible refine (HC1.out _).mono ?_);rintro e w1 ⟨rfl,rfl⟩)
           |(go_at_call 185;(with_reducible refine (HC2.out _).mono ?_);rintro e w1 ⟨rfl,rfl⟩)
           |(go_at_call 145;(with_reducible refine (HF.out _).mono ?_);rintro e w1 ⟨rfl,rfl⟩)
           |(go_at_call 185;(with_reducible refine (HF.out _).mono ?_);rintro e w1 ⟨rfl,rfl⟩)
           |(go_at_call 185;(with_reducible refine (HF2.out _).mono ?_);rintro e w1 ⟨rfl,rfl⟩)
           |(at_builtin;rw [← HW.out];refine append_one (cs:=tokC) (z:=.agg #[.string ⟨#[]⟩,iV 0]) one_tok 162 232 24 Tryz.underlying162 (by kernel_rfl) (by rfl) (by decide) (by decide) rfl (.tmp 86) (.tmp 93) rfl w.heap.size _ out (by rfl) HRX.out wr.heap.size (s.extract k n,(k:Int)) (by rfl) HAT.out hlen (Nat.le_trans HX.out.size HXA.out.size) ?_;intro g7 cap7 w7 hr7 hb7;have HX7:Hid (Ext w w7):=zH (RowKit.Below.trans HXB.out hb7);have HR7:=zH hr7;clear hr7 hb7))
          exact ⟨⟨out ++ [(s.extract k n,(k:Int))],n,d',by simp,by omega,zH (by have:=HD.out;omega),zH (by rw [← HO.out,HN.out,← HE2.out];simp),zH (by have:=HB.out;simp;omega),HX7,HR7⟩,by simp [iof];omega⟩
       ·have hnli:¬ (n:Int) < (ed:Int):=by omega
        have hn1i:¬ (n:Int)+1 < (ed:Int):=by omega
        have HE3:Hid (n=r1):=zH (by rw [← HQ.out,show ed=n by omega];exact runP_end.symm)
        rw [← HE3.out] at HE1
        have HE2:Hid (n=tokE s ed k):=zH (by rw [HE1.out,if_neg (by rintro ⟨h,-⟩;omega)])
        have HT:=zH (tokE_le (s:=s) hkt)
        have hnk:k < n:=by have:=HE2.out;have:=HT.out;omega
        have hnt:n≤ed:=by have:=HE2.out;have:=HT.out;omega
        obtain ⟨W8,hW8⟩:∃ W8:World,W8=wr.alloc (.cells #[.string (s.extract k n),iV k] 232):=⟨_,rfl⟩
        have hxa:Ext wr W8:=by rw [hW8];exact Ext.alloc (Ext.refl _) _
        have hat:W8.heap[wr.heap.size]? = some (.cells #[.string (s.extract k n),iV k] 232):=by rw [hW8];exact block_new rfl
        have HXA:=zH hxa;have HAT:=zH hat;have HW:=zH hW8
        have HRX:=zH (row_ext HR.out hxa)
        have HXB:=zH (HX.out.trans hxa)
        have hlen:out.length < 1000000:=by have:=HB.out;omega
        clear hxa hat hW8
        go_wp2_with (first
         |(go_at_call 146;(with_reducible refine (HC1.out _).mono ?_);rintro e w1 ⟨rfl,rfl⟩)
         |(go_at_call 185;(with_reducible refine (HC2.out _).mono ?_);rintro e w1 ⟨rfl,rfl⟩)
         |(go_at_call 145;(with_reducible refine (HF.out _).mono ?_);rintro e w1 ⟨rfl,rfl⟩)
         |(go_at_call 185;(with_reducible refine (HF.out _).mono ?_);rintro e w1 ⟨rfl,rfl⟩)
         |(go_at_call 185;(with_reducible refine (HF2.out _).mono ?_);rintro e w1 ⟨rfl,rfl⟩)
         |(at_builtin;rw [← HW.out];refine append_one (cs:=tokC) (z:=.agg #[.string ⟨#[]⟩,iV 0]) one_tok 162 232 24 Tryz.underlying162 (by kernel_rfl) (by rfl) (by decide) (by decide) rfl (.tmp 86) (.tmp 93) rfl w.heap.size _ out (by rfl) HRX.out wr.heap.size (s.extract k n,(k:Int)) (by rfl) HAT.out hlen (Nat.le_trans HX.out.size HXA.out.size) ?_;intro g7 cap7 w7 hr7 hb7;have HX7:Hid (Ext w w7):=zH (RowKit.Below.trans HXB.out hb7);have HR7:=zH hr7;clear hr7 hb7))
        exact ⟨⟨out ++ [(s.extract k n,(k:Int))],n,d',by simp,by omega,zH (by have:=HD.out;omega),zH (by rw [← HO.out,HN.out,← HE2.out];simp),zH (by have:=HB.out;simp;omega),HX7,HR7⟩,by simp [iof];omega⟩
  ·have hki:¬ (k:Int) < (ed:Int):=by omega
   have HN:Hid (out=L):=zH (by rw [← HO.out];cases d with|zero=>simp [parF]|succ d=>unfold parF;rw [if_neg hkt];simp)
   rw [HN.out] at HR HB
   obtain ⟨W8,hW8⟩:∃ W8:World,W8=wo.alloc (.cells #[.string ⟨#[]⟩,iV ed] 232):=⟨_,rfl⟩
   have hxa:Ext wo W8:=by rw [hW8];exact Ext.alloc (Ext.refl _) _
   have hat:W8.heap[wo.heap.size]? = some (.cells #[.string ⟨#[]⟩,iV ed] 232):=by rw [hW8];exact block_new rfl
   have HXA:=zH hxa;have HAT:=zH hat;have HW:=zH hW8
   have HRX:=zH (row_ext HR.out hxa)
   have HXB:=zH (HX.out.trans hxa)
   have hlen:L.length < 1000000:=by have:=HB.out;omega
   clear hxa hat hW8
   go_wp2_with (at_builtin;rw [← HW.out];refine append_one (cs:=tokC) (z:=.agg #[.string ⟨#[]⟩,iV 0]) one_tok 162 232 24 Tryz.underlying162 (by kernel_rfl) (by rfl) (by decide) (by decide) rfl (.tmp 96) (.tmp 99) rfl w.heap.size _ L (by rfl) HRX.out wo.heap.size (eofT ed) (by rfl) HAT.out hlen (Nat.le_trans HX.out.size HXA.out.size) ?_;intro g7 cap7 w7 hr7 hb7;have HX7:Hid (Ext w w7):=zH (RowKit.Below.trans HXB.out hb7);have HR7:=zH hr7;clear hr7 hb7)
   go_ret
   exact ⟨g7,cap7,by simp,HX7.out,by simpa using HR7.out⟩
end Go.Proofs.YteomcpplajeidaaGreat
