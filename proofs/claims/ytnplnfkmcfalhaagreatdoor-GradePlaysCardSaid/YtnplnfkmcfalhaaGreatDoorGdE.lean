/-
  Value of a book. Conditions: what the book holds; a final bidder has an assessor.
-/
import Derived.Test.YtnplnfkmcfalhaaGreatDoorSoA
namespace Go.Proofs.YtnplnfkmcfalhaaGreatDoor
set_option linter.unusedVariables false
set_option linter.unusedSimpArgs false
open Go.RowKit

/-- A grade's number, taken out of a value. -/
theorem wpList_fieldN {ops : Array Oper} {rest : List Oper} {o : Oper} {a : Act} {Q : Exit → Act → World → Prop} {w : World} (hgd : o.guard = none) (x : Operand) (ho : o.op = .field 23 x 4) (g0 g1 g2 g4 g5 : Int) (g3 : ByteArray)
    (hx : a.eval x = .agg #[.int .i64 g0, .int .i64 g1, .int .i64 g2, .string g3, .int .i64 g4, .int .i64 g5]) (h : wpList Tryz.prog ops Q rest (a.put o.dst (.int .i64 g4)) w) : wpList Tryz.prog ops Q (o :: rest) a w := by
  refine wpList_plain hgd fun K hK => ?_
  have hr : (Instr.field 23 (.agg #[.int .i64 g0, .int .i64 g1, .int .i64 g2, .string g3, .int .i64 g4, .int .i64 g5]) 4).run Tryz.prog w = .ok (.int .i64 g4) w := by kernel_rfl
  unfold Oper.wp execOp
  simp only [ho, hx, Sem.run_bind, Sem.run_pure, Result.andThen_ok, hr]
  exact hK _ _ h
/-- The number that an assessor has given. -/
def nOf (b : Bk) (bid lot : Int) (name : ByteArray) (a : Int) : Int := match b.gr ⟨bid, lot, name, a⟩ with | some g => g.n | none => 0
/-- What Value gives. -/
def ValR (b : Bk) (bid lot : Int) (name : ByteArray) (n : Int) (ok : Bool) : Prop :=
  if b.fin bid = true ∧ b.lots lot = true ∧ (b.crit name).isSome = true then ok = true ∧ ∃ l, AsI b.dut bid l [] ∧ (srtI (l.map (nOf b bid lot name)))[(l.length - 1) / 2]? = some n else ok = false ∧ n = 0
theorem ValR.no {b : Bk} {bid lot : Int} {name : ByteArray} (h : ¬ (b.fin bid = true ∧ b.lots lot = true ∧ (b.crit name).isSome = true)) : ValR b bid lot name 0 false := by unfold ValR; rw [if_neg h]; exact ⟨rfl, rfl⟩

set_option maxRecDepth 100000 in
set_option maxHeartbeats 4000000 in
theorem Value_any (p : Nat) (b : Bk) (F : List Nat) (bid lot : Int) (name : ByteArray) (hbid : OkI bid) (hlot : OkI lot) (hname : OkS name) (w : World) (h : BR w p b F) (hf : b.fin bid = true → ∃ a, b.dut ⟨a, bid⟩ = true) :
    Calls Tryz.prog 9 #[.pointer (some ⟨p, 0, none⟩), .int .i64 bid, .int .i64 lot, .string name] w fun e w' => ∃ n ok, e = .returned (.tuple #[.int .i64 n, .bool ok]) ∧ ValR b bid lot name n ok ∧ OkI n ∧ Ext w w' := by
  have HB := Lib.hid h
  obtain ⟨ml, mc, md, mg, mf, cv, hp, -, -, h1, h2, -, h4, -, -, -, h8, -⟩ := h
  have H8 := Lib.hid h8
  have hIF := IsFinal_any p b F bid hbid w HB.out
  have c0 := cell_of_row w p 0 _ _ _ hp
  have c1 := cell_of_row w p 1 _ _ _ hp
  have r1 := h1.look keI Tryz.underlying35 (z := .bool false) (by rfl) hlot false
  simp only [boolF_get, Bool.false_eq_true, if_false] at r1
  have HP : Hid (∀ W, Ext w W → W.heap[p]? = some (.cells #[.map ml, .map mc, .map md, .map mg, .map mf, cv] 40)) := Lib.hid fun W hW => (hW.block _ (Rg.lt_of_heap hp)).trans hp
  have H4 : Hid (∀ W, Ext w W → ∀ a, OkI a → (Instr.lookup 38 (.map mg) (.agg #[.int .i64 bid, .int .i64 lot, .string name, .int .i64 a]) false).run Tryz.prog W = .ok (((b.gr ⟨bid, lot, name, a⟩).map Gd.v).getD (.agg #[.int .i64 0, .int .i64 0, .int .i64 0, .string ⟨#[]⟩, .int .i64 0, .int .i64 0])) W) := Lib.hid fun W hW a ha => by
    have := (h4.of_block (fun k hk => hW.block k (h4.lt k hk))).look keP Tryz.underlying38 (z := .agg #[.int .i64 0, .int .i64 0, .int .i64 0, .string ⟨#[]⟩, .int .i64 0, .int .i64 0]) (by rfl) (x := ⟨bid, lot, name, a⟩) ⟨hbid, hlot, hname, ha⟩ false
    simpa using this
  obtain ⟨c, kn, hcv, hkn⟩ : ∃ (c : Cr) (kn : Bool), ((b.crit name).map Cr.v).getD (.agg #[.string ⟨#[]⟩, .int .i64 0, .int .i64 0, .int .i64 0, .bool false]) = c.v ∧ (b.crit name).isSome = kn := by
    cases hc : b.crit name with
    | none => exact ⟨⟨⟨#[]⟩, 0, 0, 0, false⟩, false, rfl, rfl⟩
    | some c => exact ⟨c, true, rfl, rfl⟩
  have r2 := h2.look keS Tryz.underlying36 (z := .agg #[.string ⟨#[]⟩, .int .i64 0, .int .i64 0, .int .i64 0, .bool false]) (by rfl) hname true
  simp only [if_true, encS] at r2
  rw [hcv, Option.isSome_map, hkn] at r2
  obtain ⟨cn, ck, cl, ch, cb⟩ := c
  simp only [Cr.v] at r2
  have HKN := Lib.hid hkn
  clear hcv hkn h1 h2 h4 h8
  have HF := Lib.hid hf; clear hf
  cases hfin : b.fin bid with
  | false =>
    rw [hfin] at hIF
    have HN := Lib.hid hfin; clear hfin
    go_enter Tryz.func9, Tryz.ntmps9
    go_wp2_with (go_at_call 12; (with_reducible refine hIF.mono ?_); rintro e w2 ⟨rfl, hw2⟩; have h9 := hw2.symm; clear hw2; subst h9)
    go_ret2
    exact ⟨0, false, rfl, ValR.no (fun h => by rw [HN.out] at h; exact absurd h.1 (by decide)), ⟨by decide, by decide⟩, Ext.refl _⟩
  | true =>
    rw [hfin] at hIF
    have HN := Lib.hid hfin; clear hfin
    cases hlt : b.lots lot with
    | false =>
      rw [hlt] at r1
      have HL := Lib.hid hlt; clear hlt
      go_enter Tryz.func9, Tryz.ntmps9
      go_wp2_with (go_at_call 12; (with_reducible refine hIF.mono ?_); rintro e w2 ⟨rfl, hw2⟩; have h9 := hw2.symm; clear hw2; subst h9)
      go_ret2
      exact ⟨0, false, rfl, ValR.no (fun h => by rw [HL.out] at h; exact absurd h.2.1 (by decide)), ⟨by decide, by decide⟩, Ext.refl _⟩
    | true =>
      rw [hlt] at r1
      have HL := Lib.hid hlt; clear hlt
      cases kn with
      | false =>
        go_enter Tryz.func9, Tryz.ntmps9
        go_wp2_with (go_at_call 12; (with_reducible refine hIF.mono ?_); rintro e w2 ⟨rfl, hw2⟩; have h9 := hw2.symm; clear hw2; subst h9)
        go_ret2
        exact ⟨0, false, rfl, ValR.no (fun h => by rw [HKN.out] at h; exact absurd h.2.2 (by decide)), ⟨by decide, by decide⟩, Ext.alloc (Ext.refl _) _⟩
      | true =>
        go_enter Tryz.func9, Tryz.ntmps9
        go_upto_region 8 with (first
          | (go_at_call 12; (with_reducible refine hIF.mono ?_); rintro e w2 ⟨rfl, hw2⟩; have h9 := hw2.symm; clear hw2; subst h9)
          | (go_at_call 26; (with_reducible refine (assessors_any p b F bid _ (HB.out.ext (Ext.alloc (Ext.refl _) _))).mono ?_); rintro e w3 ⟨r, l, rfl, hr, hI, ⟨hok, hll⟩, hx3⟩; obtain ⟨lb, lc, rfl, -⟩ := id hr))
        have hxw : Ext w w3 := Ext.trans (Ext.alloc (Ext.refl _) _) hx3
        have HI := Lib.hid hI; have HR := Lib.hid hr; have HOK := Lib.hid hok; have HXW := Lib.hid hxw
        clear hI hr hok hx3 c0 c1 r1 r2 hIF hxw
        go_loopw [12, 43] (fun o k wr => ∃ i : Nat, k = .int .i64 i ∧ i ≤ l.length ∧ wr.ownsRow w3.heap.size 3 1 o ((l.take i).map (nOf b bid lot name)).length (((l.take i).map (nOf b bid lot name)).flatMap celI) ∧ Ext w3 wr) (fun _ k _ => l.length - (iof k).toNat)
        case atStart => exact ⟨0, rfl, by omega, World.ownsRow_nil _ _ _ _, Ext.refl _⟩
        case round =>
          obtain ⟨i, rfl, hi, hrow, hxr⟩ := hrel
          have hxx := HXW.out.trans hxr
          by_cases hil : i < l.length
          · obtain ⟨A', c', e1, -, -, hcell⟩ := HR.out.ext hxr
            injection e1 with e1 e2 e3
            subst e1 e3
            obtain ⟨qb, qo, rfl, hc⟩ := hcell.resolve_left (by intro e; rw [e] at hil; simp at hil)
            have cq := hc i hil
            have hoa := HOK.out l[i] (List.getElem_mem _)
            have htk : (l.take (i + 1)).map (nOf b bid lot name) = (l.take i).map (nOf b bid lot name) ++ [nOf b bid lot name l[i]] := by
              rw [List.take_succ_eq_append_getElem hil, List.map_append]; rfl
            have hlen : ((l.take i).map (nOf b bid lot name)).length = i := by rw [List.length_map, List.length_take]; omega
            have Htk := Lib.hid htk; have HLN := Lib.hid hlen
            clear hc hcell e2 htk hlen
            generalize l[i] = a at *
            have r4 := H4.out wr hxx a hoa
            have c3 := cell_of_row wr p 3 _ _ _ (HP.out wr hxx)
            obtain ⟨o, hov, hon⟩ : ∃ o : Gd, ((b.gr ⟨bid, lot, name, a⟩).map Gd.v).getD (.agg #[.int .i64 0, .int .i64 0, .int .i64 0, .string ⟨#[]⟩, .int .i64 0, .int .i64 0]) = o.v ∧ nOf b bid lot name a = o.n := by
              unfold nOf
              cases b.gr ⟨bid, lot, name, a⟩ with
              | none => exact ⟨⟨0, 0, 0, ⟨#[]⟩, 0, 0⟩, rfl, rfl⟩
              | some g => exact ⟨g, rfl, rfl⟩
            rw [hov] at r4
            rw [hon] at Htk
            obtain ⟨oa, ob, ol, on, oN, ot⟩ := o
            simp only [Gd.v] at r4
            clear hov hon hoa
            simp only at Htk
            generalize (l.take i).map (nOf b bid lot name) = nl at *
            go_wp2_with (first | (refine wpList_fieldN rfl _ rfl oa ob ol oN ot on (by rfl) ?_) | (at_builtin; go_loud (refine append_int rfl _ _ rfl w3.heap.size _ nl (by rfl) (row_ext hrow (Ext.alloc (Ext.refl _) _)) wr.heap.size oN (by rfl) (heap_alloc_new _ _) (by have := HLN.out; omega) (by have := hxr.size; simp; omega) ?_; intro g cap' w5 hr5 hb5)))
            exact ⟨⟨i + 1, by simp, by omega, by rw [Htk.out]; simpa using hr5, Below.trans (hxr.trans (Ext.alloc (Ext.refl _) _)) hb5⟩, by simp; omega⟩
          · obtain rfl : i = l.length := by omega
            rw [List.take_length] at hrow
            have hne : 0 < l.length := by
              obtain ⟨a, ha⟩ := HF.out HN.out
              rcases (HI.out.mem a).1 ha with h | ⟨v, h⟩
              · exact List.length_pos_of_mem h
              · cases h
            have hnok : ∀ x ∈ l.map (nOf b bid lot name), OkI x := fun x hx => by
              obtain ⟨a, ha, rfl⟩ := List.mem_map.1 hx
              unfold nOf
              cases hg : b.gr ⟨bid, lot, name, a⟩ with
              | none => exact ⟨by decide, by decide⟩
              | some g => exact (H8.out _ _ hg).1.2.2.2.2.1
            have HNK := Lib.hid hnok
            have hsl : (srtI (l.map (nOf b bid lot name))).length = l.length := by rw [srtI_len, List.length_map]
            obtain ⟨ob, oc, rfl⟩ := (SR.of_row (cs := celI) (fun x => (celI_len x).1) hrow (by simp; omega)).form
            have hS := sort_own w3.heap.size _ _ wr hrow hnok (by simp; omega)
            have hnl : (l.map (nOf b bid lot name)).length = l.length := List.length_map _
            rw [hnl] at hS ⊢
            have HSL := Lib.hid hsl
            have HVR : Hid (∀ n, (srtI (l.map (nOf b bid lot name)))[(l.length - 1) / 2]? = some n → ValR b bid lot name n true) := Lib.hid fun n hn => by
              unfold ValR
              rw [if_pos ⟨HN.out, HL.out, HKN.out⟩]
              exact ⟨rfl, l, HI.out, hn⟩
            have hsok : ∀ x ∈ srtI (l.map (nOf b bid lot name)), OkI x := fun x hx => hnok x (mem_srtI.1 hx)
            have HSO := Lib.hid hsok
            have HS := Lib.hid hS
            obtain ⟨j, hj⟩ : ∃ j : Nat, j = (l.length - 1) / 2 := ⟨_, rfl⟩
            have hji : ((l.length : Int) - 1) / 2 = (j : Int) := by omega
            have hjl : j < l.length := by omega
            have HJ := Lib.hid hj
            clear hrow hnok hS hsl hsok hnl hj
            generalize srtI (l.map (nOf b bid lot name)) = sl at *
            go_upto_region 13 with (go_at_call 27; (with_reducible refine HS.out.mono ?_); rintro e w5 ⟨rfl, hi5, hb5⟩)
            obtain ⟨A', c', e1, -, -, hcell⟩ := hi5
            injection e1 with e1 e2 e3
            subst e1 e3
            have hjs : j < sl.length := by have := HSL.out; omega
            obtain ⟨qb, qo, rfl, hc⟩ := hcell.resolve_left (by intro e; rw [e] at hjs; simp at hjs)
            have cj := hc j hjs
            have hn := HVR.out sl[j] (by rw [← HJ.out, List.getElem?_eq_getElem hjs])
            have hoj := HSO.out sl[j] (List.getElem_mem _)
            have HNN := Lib.hid (And.intro hn hoj)
            clear hc hcell e2 hn hoj
            generalize sl[j] = n at *
            go_wp2_with (fail)
            go_ret2
            exact ⟨n, true, rfl, HNN.out.1, HNN.out.2, Below.trans hxx (hb5.mono (by have := HXW.out.size; omega))⟩
end Go.Proofs.YtnplnfkmcfalhaaGreatDoor
