/-
  Lemmas of this claim (JwF). Nothing is asked.
-/
import Derived.Test.YteomcpplajeidaaGreatJwE
import Derived.Test.YteomcpplajeidaaGreatJwD
set_option linter.unusedVariables false
set_option linter.unusedSimpArgs false
set_option maxRecDepth 100000
set_option maxHeartbeats 40000000
namespace Go.Proofs.YteomcpplajeidaaGreat.Rr
open Go.RowKit Go.Proofs.YteomcpplajeidaaGreat Go.Proofs.YteomcpplajeidaaGreat.Rg
abbrev Kd:=Rs.Kd
abbrev Pnc:=Rs.Pnc
abbrev Fs:=Rs.Fs
abbrev Holds:=@Rs.Holds
abbrev put_defers:=@Rs.put_defers
@[reducible] def gE (sb:Bool):Rs.Gw where
 R:=Ext
 lim:=0
 refl _:=Ext.refl _
 trans h k:=h.trans k
 ext _ h:=h
 size h:=h.size
 lim_le _:=Nat.zero_le _
 block h p _ hl:=h.block p hl
 sub:=sb
abbrev no:Bool:=false
def Keeps (f:World→Prop):Prop:=∀ w w',f w→Ext w w'→f w'
abbrev upR:=@Rs.upR (gE no)
section
variable {sb:Bool} {P:Program} {ops:Array Oper} {w0:World} {M:Nat→Obj×(Nat→Value)} {Pn:Pnc} {fin:Act→Fs→Prop} {a:Act} {bs:List Nat} {fs:Fs} {i:Nat} {o:Oper} {rest:List (Nat×Kd)} {id:Nat} {Q:Exit→Act→World→Prop} {w w':World} {l:List Oper} {R:Value→World→Prop}
theorem upR_value {v:Value} (h:Ext w w') (r:R v w'):upR P Pn w R (.ok (.value v) w'):=⟨h,r⟩
theorem upR_enter {f:FuncId} {args:Array Value} (h:Calls P f args w (fun e w''=>∃ v,e=.returned v∧Ext w w''∧R v w'')):upR P Pn w R (.ok (.enter f args) w):=@Rs.upR_enter (gE no) _ _ _ _ _ _ h
theorem upR_panic {f:FuncId} {args:Array Value} (h:Calls P f args w (fun e w''=>∃ c,e=.panicked c∧Ext w w''∧Pn c w'')):upR P Pn w R (.ok (.enter f args) w):=@Rs.upR_panic (gE no) _ _ _ _ _ _ h
abbrev wr (sb:Bool):=@Rs.wr (gE sb)
abbrev wr_nil:=@Rs.wr_nil (gE sb)
abbrev wr_skip:=@Rs.wr_skip (gE sb)
abbrev wr_sub:=@Rs.wr_sub (gE sb)
abbrev wr_m:=@Rs.wr_m (gE sb)
abbrev wr_dead:=@Rs.wr_dead (gE sb)
theorem wr_y (ho:ops[i]? = some o) (hw:Region.wanted o (yielded ops a.tmps)=true)
 (h:∃ v,(∀ w,Ext w0 w→Holds fs w→up P w v ((execOp a.eval o).run P w))∧wr sb P Pn ops w0 M fin rest (a.put o.dst v) bs fs) (hs:@Rs.subB (gE sb) o=false:=by rfl):wr sb P Pn ops w0 M fin ((i,.y) :: rest) a bs fs:=@Rs.wr_y (gE sb) _ _ _ _ _ _ _ _ _ _ _ _ ho hw h hs
theorem wr_z (R:Value→World→Prop) (ho:ops[i]? = some o) (hw:Region.wanted o (yielded ops a.tmps)=true) (hk:∀ v,Keeps (R v))
 (h:∀ w,Ext w0 w→Holds fs w→upR P Pn w R ((execOp a.eval o).run P w)) (k:∀ v,wr sb P Pn ops w0 M fin rest (a.put o.dst v) bs (R v :: fs)):wr sb P Pn ops w0 M fin ((i,.z) :: rest) a bs fs:=@Rs.wr_z (gE sb) _ _ _ _ _ _ _ _ _ _ _ _ R ho hw hk h k
theorem wp_regionG (E:List Nat) (s:List (Nat×Kd)) (M:Nat→Obj×(Nat→Value)) (Pn:Pnc) (hQ:∀ c a' w',a'.defers=a.defers→Ext w w'→Pn c w'→Q (.panic c) a' w')
 (hQp:E≠[]→∀ c a d v w,Q (.panic c) (a.put d v) w→Q (.panic c) a w) (hm:P.follows .mixedOrders=true) (hB:@Rs.allR (gE no) P .any l.toArray E s=true)
 (h:wr no P Pn l.toArray w M (fun a fs=>∀ w',Ext w w'→Holds fs w'→wpList P l.toArray Q (l.drop s.length) a w') s a [] []):(Code.region id l.toArray true).wp P Q a w:=
 @Rs.wp_regionG (gE no) _ _ _ _ _ _ (Ext.refl _) E s M Pn hQ hQp hm hB h
theorem wp_region (s:List (Nat×Kd)) (M:Nat→Obj×(Nat→Value)) (hm:P.follows .mixedOrders=true) (hB:@Rs.allR (gE no) P .any l.toArray [] s=true)
 (h:wr no P (fun _ _=>False) l.toArray w M (fun a fs=>∀ w',Ext w w'→Holds fs w'→wpList P l.toArray Q (l.drop s.length) a w') s a [] []):(Code.region id l.toArray true).wp P Q a w:=
 wp_regionG [] s M _ (fun _ _ _ _ _ h=>h.elim) (fun h=>absurd rfl h) hm hB h
theorem wp_regionE (E:List Nat) (s:List (Nat×Kd)) (M:Nat→Obj×(Nat→Value)) (hQp:∀ c a d v w,Q (.panic c) (a.put d v) w→Q (.panic c) a w) (hm:P.follows .mixedOrders=true) (hB:@Rs.allR (gE no) P .any l.toArray E s=true)
 (h:wr no P (fun _ _=>False) l.toArray w M (fun a fs=>∀ w',Ext w w'→Holds fs w'→wpList P l.toArray Q (l.drop s.length) a w') s a [] []):(Code.region id l.toArray true).wp P Q a w:=
 wp_regionG E s M _ (fun _ _ _ _ _ h=>h.elim) (fun _=>hQp) hm hB h
theorem yd (h:∃ v,(∀ w,Ext w0 w→Holds fs w→up P w v ((execOp a.eval o).run P w))∧wr sb P Pn ops w0 M fin rest (a.put o.dst v) bs fs) (ho:ops[i]? = some o:=by simp only [ga,gb,gc];rfl) (hw:Region.wanted o (yielded ops a.tmps)=true:=by rfl) (hs:@Rs.subB (gE sb) o=false:=by rfl):wr sb P Pn ops w0 M fin ((i,.y) :: rest) a bs fs:=wr_y ho hw h hs
theorem zd (R:Value→World→Prop) (hk:∀ v,Keeps (R v)) (h:∀ w,Ext w0 w→Holds fs w→upR P Pn w R ((execOp a.eval o).run P w)) (k:∀ v,wr sb P Pn ops w0 M fin rest (a.put o.dst v) bs (R v :: fs)) (ho:ops[i]? = some o:=by simp only [ga,gb,gc];rfl) (hw:Region.wanted o (yielded ops a.tmps)=true:=by rfl):wr sb P Pn ops w0 M fin ((i,.z) :: rest) a bs fs:=wr_z R ho hw hk h k
def En (f:FuncId) (args:Array Value) (w:World) (r:Result Next):Prop:=r=.ok (.enter f args) w
theorem En.mk {f:FuncId} {args:Array Value}:En f args w (.ok (.enter f args) w):=rfl
theorem yw {v:Value} (ho:ops[i]? = some o:=by simp only [ga,gb,gc];rfl) (hw:Region.wanted o (yielded ops a.tmps)=true:=by rfl) (hs:@Rs.subB (gE sb) o=false:=by rfl) (h:∀ w,Ext w0 w→up P w v ((execOp a.eval o).run P w)) (k:wr sb P Pn ops w0 M fin rest (a.put o.dst v) bs fs):wr sb P Pn ops w0 M fin ((i,.y) :: rest) a bs fs:=wr_y ho hw ⟨v,fun w e _=>h w e,k⟩ hs
theorem yv {v:Value} (k:wr sb P Pn ops w0 M fin rest (a.put o.dst v) bs fs) (ho:ops[i]? = some o:=by simp only [ga,gb,gc];rfl) (hw:Region.wanted o (yielded ops a.tmps)=true:=by rfl) (hs:@Rs.subB (gE sb) o=false:=by rfl) (h:∀ w,Ext w0 w→up P w v ((execOp a.eval o).run P w):=by intro wz hw;have hcz:=hw.cells.1;go_simp;exact zU):wr sb P Pn ops w0 M fin ((i,.y) :: rest) a bs fs:=wr_y ho hw ⟨v,fun w e _=>h w e,k⟩ hs
theorem yc {v:Value} {f:FuncId} {args:Array Value} (hc:∀ w,Ext w0 w→Calls P f args w fun e w'=>e=.returned v∧Ext w w') (k:wr sb P Pn ops w0 M fin rest (a.put o.dst v) bs fs) (ho:ops[i]? = some o:=by simp only [ga,gb,gc];rfl) (hw:Region.wanted o (yielded ops a.tmps)=true:=by rfl) (hs:@Rs.subB (gE sb) o=false:=by rfl) (h:∀ w,Ext w0 w→En f args w ((execOp a.eval o).run P w):=by intro wz hw;have hcz:=hw.cells.1;go_simp;exact Rr.En.mk):wr sb P Pn ops w0 M fin ((i,.y) :: rest) a bs fs:=wr_y ho hw ⟨v,fun w e _=>by rw [show _=_ from h w e];exact up_enter (hc w e),k⟩ hs
theorem zc {f:FuncId} {args:Array Value} (R:Value→World→Prop) (hc:∀ w,Ext w0 w→Holds fs w→Calls P f args w fun e w'=>∃ v,e=.returned v∧Ext w w'∧R v w') (k:∀ v,wr sb P Pn ops w0 M fin rest (a.put o.dst v) bs (R v :: fs)) (ho:ops[i]? = some o:=by simp only [ga,gb,gc];rfl) (hw:Region.wanted o (yielded ops a.tmps)=true:=by rfl) (hk:∀ v,Keeps (R v):=by intro v w1 w2 h e;first|exact Rd.ext e h|exact h.ext e) (h:∀ w,Ext w0 w→En f args w ((execOp a.eval o).run P w):=by intro wz hw;have hcz:=hw.cells.1;go_simp;exact Rr.En.mk):wr sb P Pn ops w0 M fin ((i,.z) :: rest) a bs fs:=wr_z R ho hw hk (fun w e hh=>by rw [show _=_ from h w e];exact upR_enter (hc w e hh)) k
abbrev noM:Nat→Obj×(Nat→Value):=fun _=>(.cells #[] 33,Rg.ptr)
theorem rg (s:List (Nat×Kd)) (h:wr no P (fun _ _=>False) l.toArray w noM (fun a fs=>∀ w',Ext w w'→Holds fs w'→wpList P l.toArray Q (l.drop s.length) a w') s a [] []) (hm:P.follows .mixedOrders=true:=by kernel_rfl) (hB:@Rs.allR (gE no) P .any l.toArray [] s=true:=by kernel_rfl):(Code.region id l.toArray true).wp P Q a w:=wp_region s noM hm hB h
theorem rE (E:List Nat) (s:List (Nat×Kd)) (h:wr no P (fun _ _=>False) l.toArray w noM (fun a fs=>∀ w',Ext w w'→Holds fs w'→wpList P l.toArray Q (l.drop s.length) a w') s a [] []) (hQp:∀ c a d v w,Q (.panic c) (a.put d v) w→Q (.panic c) a w:=by intro c a d v w h;have h':_∧_:=h;exact ⟨(Rs.put_defers a d v).symm.trans h'.1,h'.2⟩) (hm:P.follows .mixedOrders=true:=by kernel_rfl) (hB:@Rs.allR (gE no) P .any l.toArray E s=true:=by kernel_rfl):(Code.region id l.toArray true).wp P Q a w:=wp_regionE E s noM hQp hm hB h
theorem y1 {v:Value} {a':Act} (k:wr sb P Pn ops w0 M fin rest a' bs fs) (ho:ops[i]? = some o:=by simp only [ga,gb,gc];rfl) (hw:Region.wanted o (yielded ops a.tmps)=true:=by rfl) (hs:@Rs.subB (gE sb) o=false:=by rfl) (h:∀ w,Ext w0 w→up P w v ((execOp a.eval o).run P w):=by intro wz hw;have hcz:=hw.cells.1;go_simp;exact zU) (ha:a.put o.dst v=a':=by simp only [zp];exact rfl):wr sb P Pn ops w0 M fin ((i,.y) :: rest) a bs fs:=yv (ha ▸ k) ho hw hs h
theorem y2 {v:Value} {a':Act} (ho:ops[i]? = some o:=by simp only [ga,gb,gc];rfl) (hw:Region.wanted o (yielded ops a.tmps)=true:=by rfl) (hs:@Rs.subB (gE sb) o=false:=by rfl) (h:∀ w,Ext w0 w→up P w v ((execOp a.eval o).run P w)) (k:wr sb P Pn ops w0 M fin rest a' bs fs) (ha:a.put o.dst v=a':=by simp only [zp];exact rfl):wr sb P Pn ops w0 M fin ((i,.y) :: rest) a bs fs:=yw ho hw hs h (ha ▸ k)
theorem y3 {v:Value} {f:FuncId} {args:Array Value} {a':Act} (hc:∀ w,Ext w0 w→Calls P f args w fun e w'=>e=.returned v∧Ext w w') (k:wr sb P Pn ops w0 M fin rest a' bs fs) (ho:ops[i]? = some o:=by simp only [ga,gb,gc];rfl) (hw:Region.wanted o (yielded ops a.tmps)=true:=by rfl) (hs:@Rs.subB (gE sb) o=false:=by rfl) (h:∀ w,Ext w0 w→En f args w ((execOp a.eval o).run P w):=by intro wz hw;have hcz:=hw.cells.1;go_simp;exact Rr.En.mk) (ha:a.put o.dst v=a':=by simp only [zp];exact rfl):wr sb P Pn ops w0 M fin ((i,.y) :: rest) a bs fs:=yc hc (ha ▸ k) ho hw hs h
theorem z3 {f:FuncId} {args:Array Value} {a':Value→Act} (R:Value→World→Prop) (hc:∀ w,Ext w0 w→Holds fs w→Calls P f args w fun e w'=>∃ v,e=.returned v∧Ext w w'∧R v w') (k:∀ v,wr sb P Pn ops w0 M fin rest (a' v) bs (R v :: fs)) (ho:ops[i]? = some o:=by simp only [ga,gb,gc];rfl) (hw:Region.wanted o (yielded ops a.tmps)=true:=by rfl) (hk:∀ v,Keeps (R v):=by intro v w1 w2 h e;first|exact Rd.ext e h|exact h.ext e) (h:∀ w,Ext w0 w→En f args w ((execOp a.eval o).run P w):=by intro wz hw;have hcz:=hw.cells.1;go_simp;exact Rr.En.mk) (ha:∀ v,a.put o.dst v=a' v:=by intro v;simp only [zp];exact rfl):wr sb P Pn ops w0 M fin ((i,.z) :: rest) a bs fs:=zc R hc (fun v=>ha v ▸ k v) ho hw hk h
end
end Go.Proofs.YteomcpplajeidaaGreat.Rr

namespace Go.Proofs.YteomcpplajeidaaGreat
open Go.RowKit
theorem pick_any (f:Bool) (a b:Int×Int) (w:World):Calls Tryz.prog 173 #[.bool f,rv a,rv b] w fun e w'=>e=.returned (rv (if f then a else b))∧Ext w w':=by
 obtain ⟨a1,a2⟩:=a;obtain ⟨b1,b2⟩:=b
 cases f
 ·go_in
  go_wp2
  exact bodyPost_ret (v:=rv (b1,b2)) (by simp [results,Tryz.results173,go_sem]) rfl ⟨rfl,xt⟩
 ·go_in
  go_wp2
  exact bodyPost_ret (v:=rv (a1,a2)) (by simp [results,Tryz.results173,go_sem]) rfl ⟨rfl,xt⟩
def minI (a b:Int×Int):(Int×Int)×Bool:=(if decide (cmpI a b≤0) then a else b,true)
def maxI (a b:Int×Int):(Int×Int)×Bool:=(if decide (0≤cmpI a b) then a else b,true)
theorem min_any (a b:Int×Int) (ha:I2 a) (hb:I2 b) (w:World) :
 Calls Tryz.prog 172 #[rv a,rv b] w fun e w'=>e=.returned (rbv (minI a b))∧Ext w w':=by
 have HC:=zH (fun w=>Cmp_any a b ha hb w)
 obtain ⟨a1,a2⟩:=a;obtain ⟨b1,b2⟩:=b
 have HP:∃ r:Int×Int,(∀ w,Calls Tryz.prog 173 #[.bool (decide (cmpI (a1,a2) (b1,b2)≤0)),rv (a1,a2),rv (b1,b2)] w fun e w'=>e=.returned (rv r)∧Ext w w')∧minI (a1,a2) (b1,b2)=(r,true):=⟨_,fun w=>pick_any _ _ _ w,rfl⟩
 obtain ⟨⟨r1,r2⟩,hp,hm⟩:=HP
 rw [hm]
 have HP:=zH hp
 clear hp hm
 go_in
 go_wp2_with (fail)
 refine Rg.wp_region 7 7 (fun _=>none) (fun _ _=>rfl) (by kernel_rfl) (by kernel_rfl) ?_
 simp only [List.take_succ_cons,List.take_zero,List.drop_succ_cons,List.drop_zero]
 repeat
  (refine Rg.wk_step (by rfl) ?_
   apply Exists.intro
   refine ⟨fun wz hw=>?_,?_⟩
   ·obtain ⟨hc,hf⟩:=hw.cells
    go_simp
    first
     | exact zU
     |(apply Rg.up_enter;(with_reducible refine (HC.out _).mono ?_);rintro e w1 ⟨rfl,hb1⟩;exact ⟨rfl,hb1⟩)
     |(apply Rg.up_enter;(with_reducible refine (HP.out _).mono ?_);rintro e w1 ⟨rfl,hb1⟩;exact ⟨rfl,hb1⟩)
   simp only [zp])
 refine Rg.wk_nil (Rg.fin0 rfl ?_)
 intro wy hy
 obtain ⟨hcy,hfy⟩:=hy.cells
 go_wp2
 exact bodyPost_ret (v:=rbv ((r1,r2),true)) (by simp [results,Tryz.results172,go_sem,hcy]) rfl ⟨rfl,xt⟩
theorem max_any (a b:Int×Int) (ha:I2 a) (hb:I2 b) (w:World) :
 Calls Tryz.prog 174 #[rv a,rv b] w fun e w'=>e=.returned (rbv (maxI a b))∧Ext w w':=by
 have HC:=zH (fun w=>Cmp_any a b ha hb w)
 obtain ⟨a1,a2⟩:=a;obtain ⟨b1,b2⟩:=b
 have HP:∃ r:Int×Int,(∀ w,Calls Tryz.prog 173 #[.bool (decide (0≤cmpI (a1,a2) (b1,b2))),rv (a1,a2),rv (b1,b2)] w fun e w'=>e=.returned (rv r)∧Ext w w')∧maxI (a1,a2) (b1,b2)=(r,true):=⟨_,fun w=>pick_any _ _ _ w,rfl⟩
 obtain ⟨⟨r1,r2⟩,hp,hm⟩:=HP
 rw [hm]
 have HP:=zH hp
 clear hp hm
 go_in
 go_wp2_with (fail)
 refine Rg.wp_region 7 7 (fun _=>none) (fun _ _=>rfl) (by kernel_rfl) (by kernel_rfl) ?_
 simp only [List.take_succ_cons,List.take_zero,List.drop_succ_cons,List.drop_zero]
 repeat
  (refine Rg.wk_step (by rfl) ?_
   apply Exists.intro
   refine ⟨fun wz hw=>?_,?_⟩
   ·obtain ⟨hc,hf⟩:=hw.cells
    go_simp
    first
     | exact zU
     |(apply Rg.up_enter;(with_reducible refine (HC.out _).mono ?_);rintro e w1 ⟨rfl,hb1⟩;exact ⟨rfl,hb1⟩)
     |(apply Rg.up_enter;(with_reducible refine (HP.out _).mono ?_);rintro e w1 ⟨rfl,hb1⟩;exact ⟨rfl,hb1⟩)
   simp only [zp])
 refine Rg.wk_nil (Rg.fin0 rfl ?_)
 intro wy hy
 obtain ⟨hcy,hfy⟩:=hy.cells
 go_wp2
 exact bodyPost_ret (v:=rbv ((r1,r2),true)) (by simp [results,Tryz.results174,go_sem,hcy]) rfl ⟨rfl,xt⟩
def doI:Nat→(Int×Int)→(Int×Int)→(Int×Int)×Bool
 | 0=>addI|1=>subI|2=>mulI|3=>quoI|4=>minI|_=>maxI
theorem do_any (hD:Div64Said) (i:Nat) (a b:Int×Int) (ha:I2 a) (hb:I2 b) (w:World) :
 Calls Tryz.prog (opFn i) #[rv a,rv b] w fun e w'=>e=.returned (rbv (doI i a b))∧Ext w w':=by
 match i with
 | 0=>exact Add_any hD a b ha hb w
 | 1=>exact Sub_any hD a b ha hb w
 | 2=>exact Mul_any a b ha hb w
 | 3=>exact Quo_any a b ha hb w
 | 4=>exact min_any a b ha hb w
 | _+5=>exact max_any a b ha hb w
theorem enters_do (i:Nat) (args:Array Value) (w:World):(callFunc (opFn i) args).run Tryz.prog w=.ok (.enter (opFn i) args) w:=by
 match i with
 | 0=>show (callFunc 168 args).run _ _=.ok (.enter 168 args) w;go_simp
 | 1=>show (callFunc 169 args).run _ _=.ok (.enter 169 args) w;go_simp
 | 2=>show (callFunc 170 args).run _ _=.ok (.enter 170 args) w;go_simp
 | 3=>show (callFunc 171 args).run _ _=.ok (.enter 171 args) w;go_simp
 | 4=>show (callFunc 172 args).run _ _=.ok (.enter 172 args) w;go_simp
 | _+5=>show (callFunc 174 args).run _ _=.ok (.enter 174 args) w;go_simp
def applyI (i:Nat) (a b:Int×Int):(Int×Int)×Int:=
 if i=3∧b.1=0 then ((0,0),15) else if (doI i a b).2 then ((doI i a b).1,0) else ((0,0),3)
abbrev rev (p:(Int×Int)×Int):Value:=.tuple #[rv p.1,iV p.2]
theorem apply_zero (f:Value) (a:Int×Int) (b2:Int) (w:World) :
 Calls Tryz.prog 138 #[.agg #[.string ⟨#[47]⟩,f],rv a,rv (0,b2)] w fun e w'=>e=.returned (rev ((0,0),15))∧Ext w w':=by
 obtain ⟨a1,a2⟩:=a
 go_in
 go_wp2
 exact bodyPost_ret (v:=rev ((0,0),15)) (by simp [results,Tryz.results138,go_sem]) rfl ⟨rfl,xt⟩
theorem apply_do (nm:ByteArray) (f:FuncId) (a b:Int×Int) (h:(nm.toList == [47])=false∨(nm=⟨#[47]⟩∧¬ b.1=0)) (p:(Int×Int)×Bool)
 (hE:∀ (args:Array Value) (w:World),(callFunc f args).run Tryz.prog w=.ok (.enter f args) w) (hC:∀ w,Calls Tryz.prog f #[rv a,rv b] w fun e w'=>e=.returned (rbv p)∧Ext w w') (w:World) :
 Calls Tryz.prog 138 #[.agg #[.string nm,.func (.func f) #[] #[]],rv a,rv b] w fun e w'=>e=.returned (rev (if p.2 then (p.1,0) else ((0,0),3)))∧Ext w w':=by
 have HC:=zH hC;clear hC
 obtain ⟨a1,a2⟩:=a;obtain ⟨b1,b2⟩:=b
 obtain ⟨⟨p1,p2⟩,ok⟩:=p
 rcases h with h|⟨rfl,h⟩
 ·cases ok
  ·go_in
   go_wp2_with ((refine (HC.out _).mono ?_);rintro e w1 ⟨rfl,hb⟩;obtain ⟨hc,hf⟩:=hb.cells;have hz:=hb.size;simp at hz;have z1:w.heap.size+1+1+1 < w1.heap.size:=(by omega))
   exact bodyPost_ret (v:=rev ((0,0),3)) (by simp [results,Tryz.results138,go_sem,hc,z1]) rfl ⟨rfl,xt⟩
  ·go_in
   go_wp2_with ((refine (HC.out _).mono ?_);rintro e w1 ⟨rfl,hb⟩;obtain ⟨hc,hf⟩:=hb.cells;have hz:=hb.size;simp at hz;have z1:w.heap.size+1+1+1 < w1.heap.size:=(by omega))
   exact bodyPost_ret (v:=rev ((p1,p2),0)) (by simp [results,Tryz.results138,go_sem,hc,z1]) rfl ⟨rfl,xt⟩
 ·cases ok
  ·go_in
   go_wp2_with ((refine (HC.out _).mono ?_);rintro e w1 ⟨rfl,hb⟩;obtain ⟨hc,hf⟩:=hb.cells;have hz:=hb.size;simp at hz;have z1:w.heap.size+1+1+1 < w1.heap.size:=(by omega))
   exact bodyPost_ret (v:=rev ((0,0),3)) (by simp [results,Tryz.results138,go_sem,hc,z1]) rfl ⟨rfl,xt⟩
  ·go_in
   go_wp2_with ((refine (HC.out _).mono ?_);rintro e w1 ⟨rfl,hb⟩;obtain ⟨hc,hf⟩:=hb.cells;have hz:=hb.size;simp at hz;have z1:w.heap.size+1+1+1 < w1.heap.size:=(by omega))
   exact bodyPost_ret (v:=rev ((p1,p2),0)) (by simp [results,Tryz.results138,go_sem,hc,z1]) rfl ⟨rfl,xt⟩
theorem apply_any (hD:Div64Said) (i:Nat) (hi:i < 6) (a b:Int×Int) (ha:I2 a) (hb:I2 b) (w:World) :
 Calls Tryz.prog 138 #[.agg #[.string (opNm i),.func (.func (opFn i)) #[] #[]],rv a,rv b] w fun e w'=>e=.returned (rev (applyI i a b))∧Ext w w':=by
 by_cases h:i=3∧b.1=0
 ·rw [show applyI i a b=((0,0),15) from if_pos h]
  obtain ⟨rfl,hb0⟩:=h
  obtain ⟨b1,b2⟩:=b
  simp only at hb0
  subst hb0
  exact apply_zero _ a b2 w
 ·rw [show applyI i a b=_ from if_neg h]
  refine apply_do (opNm i) (opFn i) a b ?_ (doI i a b) (enters_do i) (fun w=>do_any hD i a b ha hb w) w
  have hi':i=0∨i=1∨i=2∨i=3∨i=4∨i=5:=by omega
  rcases hi' with rfl|rfl|rfl|rfl|rfl|rfl
  ·exact .inl (by simp [opNm,go_sem])
  ·exact .inl (by simp [opNm,go_sem])
  ·exact .inl (by simp [opNm,go_sem])
  ·exact .inr ⟨rfl,fun e=>h ⟨rfl,e⟩⟩
  ·exact .inl (by simp [opNm,go_sem])
  ·exact .inl (by simp [opNm,go_sem])
end Go.Proofs.YteomcpplajeidaaGreat
namespace Go.Proofs.YteomcpplajeidaaGreat
open Go.RowKit
inductive Ex
 | mk (op:ByteArray) (num:Int×Int) (name:ByteArray) (args:List Ex)
def cellsE (w:World) (b k:Nat) (c:Nat→Value):Prop:=∀ j,j < 5→w.cell? ⟨b,k * 5+j,none⟩=some (c j)
def aggE (c:Nat→Value):Value:=.agg #[c 0,c 1,c 2,c 3,c 4]
mutual
def Rd (S:Nat→Prop) (w:World):Ex→Value→Prop
 | .mk op n nm args,v=>∃ base cap,v=.agg #[.string op,iV n.1,iV n.2,.string nm,.slice base args.length cap]∧I2 n∧args.length≤1000000∧(args=[]∨∃ b,base=some ⟨b,0,none⟩∧S b∧RdL S w b 0 args)
def RdL (S:Nat→Prop) (w:World) (b:Nat):Nat→List Ex→Prop
 | _,[]=>True
 | k,t :: ts=>(∃ c,cellsE w b k c∧Rd S w t (aggE c))∧RdL S w b (k+1) ts
end
mutual
theorem Rd.frame {S S':Nat→Prop} {w w':World} (h:∀ b o,S b→b < w.heap.size→w'.cell? ⟨b,o,none⟩=w.cell? ⟨b,o,none⟩) (hS:∀ b,S b→S' b):∀ (t:Ex) (v:Value),Rd S w t v→Rd S' w' t v
 | .mk op n nm args,v,r=>by
  unfold Rd at r ⊢
  obtain ⟨base,cap,hv,hn,hn2,hr⟩:=r
  refine ⟨base,cap,hv,hn,hn2,hr.imp id fun ⟨b,hb,hs,hl⟩=>⟨b,hb,hS b hs,RdL.frame h hS b hs args 0 hl⟩⟩
theorem RdL.frame {S S':Nat→Prop} {w w':World} (h:∀ b o,S b→b < w.heap.size→w'.cell? ⟨b,o,none⟩=w.cell? ⟨b,o,none⟩) (hS:∀ b,S b→S' b) (b:Nat) (hs:S b):∀ (ts:List Ex) (k:Nat),RdL S w b k ts→RdL S' w' b k ts
 | [],_,_=>by unfold RdL;trivial
 | t :: ts,k,r=>by
  unfold RdL at r ⊢
  obtain ⟨⟨c,hc,hr⟩,hl⟩:=r
  exact ⟨⟨c,fun j hj=>(h b _ hs (zB w _ (hc j hj))).trans (hc j hj),Rd.frame h hS t _ hr⟩,RdL.frame h hS b hs ts (k+1) hl⟩
end
theorem Rd.ext {S:Nat→Prop} {w w':World} (e:Ext w w') {t:Ex} {v:Value} (r:Rd S w t v):Rd S w' t v:=
 Rd.frame (fun b o _ hb=>e.cells.1 b o hb) (fun _ h=>h) t v r
theorem RdL.get {S:Nat→Prop} {w:World} {b:Nat}:∀ {ts:List Ex} {k:Nat},RdL S w b k ts→∀ (i:Nat) (h:i < ts.length),∃ c,cellsE w b (k+i) c∧Rd S w ts[i] (aggE c)
 | t :: ts,k,r,0,_=>by
  unfold RdL at r
  exact r.1
 | t :: ts,k,r,i+1,h=>by
  unfold RdL at r
  obtain ⟨c,h1,h2⟩:=RdL.get r.2 i (by simpa using h)
  exact ⟨c,by rw [show k+(i+1)=k+1+i by omega];exact h1,h2⟩
mutual
def Ex.parts:Ex→Nat
 | .mk _ _ _ args=>1+Ex.partsL args
def Ex.partsL:List Ex→Nat
 | []=>0
 | t :: ts=>t.parts+Ex.partsL ts
end
mutual
def Ex.depth:Ex→Nat
 | .mk _ _ _ args=>1+Ex.depthL args
def Ex.depthL:List Ex→Nat
 | []=>0
 | t :: ts=>max t.depth (Ex.depthL ts)
end
end Go.Proofs.YteomcpplajeidaaGreat

namespace Go.Proofs.YteomcpplajeidaaGreat
open Go.RowKit
mutual
def smallO:Ex→Nat→Nat→Option Nat
 | .mk _ _ _ ts,p,d=>if p=0∨d=0 then none else smallL ts (p - 1) (d - 1)
def smallL:List Ex→Nat→Nat→Option Nat
 | [],p,_=>some p
 | t :: ts,p,d=>(smallO t p d).bind fun q=>smallL ts q d
end
mutual
theorem smallO_eq:∀ (t:Ex) (p d:Nat),smallO t p d=if t.parts≤p∧t.depth≤d then some (p - t.parts) else none
 | .mk _ _ _ ts,p,d=>by
  rw [smallO,smallL_eq,Ex.parts,Ex.depth]
  by_cases h:p=0∨d=0
  ·rw [if_pos h,if_neg (by omega)]
  ·rw [if_neg h]
   by_cases h2:Ex.partsL ts≤p - 1∧Ex.depthL ts≤d - 1
   ·rw [if_pos h2,if_pos (by omega)];congr 1;omega
   ·rw [if_neg h2,if_neg (by omega)]
theorem smallL_eq:∀ (ts:List Ex) (p d:Nat),smallL ts p d=if Ex.partsL ts≤p∧Ex.depthL ts≤d then some (p - Ex.partsL ts) else none
 | [],p,d=>by rw [smallL,Ex.partsL,Ex.depthL,if_pos (by omega)];rfl
 | t :: ts,p,d=>by
  rw [smallL,smallO_eq,Ex.partsL,Ex.depthL]
  by_cases h:t.parts≤p∧t.depth≤d
  ·rw [if_pos h,Option.bind_some,smallL_eq]
   by_cases h2:Ex.partsL ts≤p - t.parts∧Ex.depthL ts≤d
   ·rw [if_pos h2,if_pos (by omega)];congr 1;omega
   ·rw [if_neg h2,if_neg (by omega)]
  ·rw [if_neg h,if_neg (by omega)];rfl
end
theorem Rd.shape {S:Nat→Prop} {w:World} {t:Ex} {c:Nat→Value} (h:Rd S w t (aggE c)):∃ op n1 n2 nm base len cap,c 0=.string op∧c 1=iV n1∧c 2=iV n2∧c 3=.string nm∧c 4=.slice base len cap ∧
 aggE c=.agg #[.string op,iV n1,iV n2,.string nm,.slice base len cap]:=by
 obtain ⟨op,n,nm,ts⟩:=t
 unfold Rd at h
 obtain ⟨base,cap,hv,-,-,-⟩:=h
 have hv':=hv
 unfold aggE at hv'
 injection hv' with hv'
 have:=congrArg Array.toList hv'
 simp only [List.cons.injEq] at this
 exact ⟨op,n.1,n.2,nm,base,_,cap,this.1,this.2.1,this.2.2.1,this.2.2.2.1,this.2.2.2.2.1,hv⟩
def smallV:Option Nat→Value
 | none=>.tuple #[iV 0,.bool false]
 | some q=>.tuple #[iV q,.bool true]
theorem smallO_le {t:Ex} {p d q:Nat} (h:smallO t p d=some q):q≤p:=by
 rw [smallO_eq] at h
 split at h
 ·injection h with h;omega
 ·cases h
theorem small_base (S:Nat→Prop) (t:Ex) (p d:Nat) (h:p=0∨(¬ p=0∧d=0)) (hp:p≤1000000) (w:World) (v:Value) (hv:Rd S w t v) :
 Calls Tryz.prog 133 #[v,iV p,iV d] w fun e w'=>e=.returned (smallV none)∧Ext w w':=by
 obtain ⟨op,n,nm,ts⟩:=t
 unfold Rd at hv
 obtain ⟨base,cap,rfl,-,-,-⟩:=hv
 rcases h with rfl|⟨h,rfl⟩
 ·go_in
  go_wp2
  go_ret2
  exact ⟨rfl,xt⟩
 ·have hb:(1:Int)≤(p:Int):=by omega
  have hb2:¬ (p:Int) < 1:=by omega
  go_in
  go_wp2
  go_ret2
  exact ⟨rfl,xt⟩
theorem small_any (S:Nat→Prop):∀ (d p:Nat) (_:p≤1000000) (_:d≤1000) (t:Ex) (w:World) (v:Value) (_:Rd S w t v),
 Calls Tryz.prog 133 #[v,iV p,iV d] w fun e w'=>e=.returned (smallV (smallO t p d))∧Ext w w'
 | 0,p,hp,_,t,w,v,hv=>by
  have:smallO t p 0=none:=by rw [smallO_eq,if_neg];cases t;rw [Ex.depth];omega
  rw [this]
  exact small_base S t p 0 (by omega) hp w v hv
 | d+1,0,hp,_,t,w,v,hv=>by
  have:smallO t 0 (d+1)=none:=by rw [smallO_eq,if_neg];cases t;rw [Ex.parts];omega
  rw [this]
  exact small_base S t 0 (d+1) (by omega) hp w v hv
 | d+1,p+1,hp,hd,.mk op n nm ts,w,v,hv=>by
  have IH:=zH (fun q hq t w v hv=>small_any S d q hq (by omega) t w v hv)
  unfold Rd at hv
  obtain ⟨base,cap,rfl,-,hlen,hr⟩:=hv
  have HR:=zH hr;clear hr
  have hs:smallO (.mk op n nm ts) (p+1) (d+1)=smallL ts p d:=by rw [smallO,if_neg (by omega)];rfl
  rw [hs]
  clear hs
  have e1:((p+1:Nat):Int)=(p:Int)+1:=by omega
  have e2:((d+1:Nat):Int)=(d:Int)+1:=by omega
  rw [e1,e2]
  clear e1 e2
  have f1:¬ (p:Int)+1 < 1:=by omega
  have f2:¬ (d:Int)+1 < 1:=by omega
  go_in
  go_wp2
  go_loopw [1,23] (fun x i wr=>∃ k q:Nat,k≤ts.length∧q≤p∧i=iV k∧x=iV q∧smallL (ts.drop k) q d=smallL ts p d∧Ext w wr) (fun _ i _=>ts.length - (intOf i).toNat)
  case atStart=>exact ⟨0,p,Nat.zero_le _,Nat.le_refl _,rfl,by go_num,rfl,xt⟩
  case round=>
   obtain ⟨k,q,hk,hq,rfl,rfl,hi,hx⟩:=hrel
   have Hi:=zH hi;clear hi
   rcases Nat.lt_or_ge k ts.length with hlt|hge
   ·rcases HR.out with h|⟨b,rfl,hs,hl⟩
    ·subst h;exact absurd hlt (Nat.not_lt_zero _)
    ·obtain ⟨c,hc,hrd⟩:=hl.get k hlt
     obtain ⟨op',n1,n2,nm',base',len',cap',c0,c1,c2,c3,c4,ca⟩:=hrd.shape
     rw [Nat.zero_add] at hc
     have hbl:b < w.heap.size:=zB w _ (hc 0 (by decide))
     have h0:=(hx.cells.1 b _ hbl).trans ((hc 0 (by decide)).trans (congrArg some c0))
     have h1:=(hx.cells.1 b _ hbl).trans ((hc 1 (by decide)).trans (congrArg some c1))
     have h2:=(hx.cells.1 b _ hbl).trans ((hc 2 (by decide)).trans (congrArg some c2))
     have h3:=(hx.cells.1 b _ hbl).trans ((hc 3 (by decide)).trans (congrArg some c3))
     have h4:=(hx.cells.1 b _ hbl).trans ((hc 4 (by decide)).trans (congrArg some c4))
     have hst:smallL (ts.drop k) q d=(smallO ts[k] q d).bind fun q'=>smallL (ts.drop (k+1)) q' d:=by
      rw [List.drop_eq_getElem_cons hlt,smallL]
     have HI:=zH (fun w' hw=>IH.out q (by omega) ts[k] w' _ (Rd.ext hw (ca ▸ hrd)))
     have Hst:=zH hst
     have Hx:=zH hx
     clear hst hx hc hrd hl c0 c1 c2 c3 c4 ca
     simp only [Nat.add_zero] at h0
     cases ho:smallO ts[k] q d with
     | none=>
      have Ho:=zH ho;clear ho
      go_wp2_with (refine (HI.out _ (Ext.trans Hx.out xt)).mono ?_;rintro e' w1 ⟨rfl,hb⟩;rw [Ho.out];simp only [smallV])
      go_ret2
      refine ⟨?_,Ext.trans Hx.out xt⟩
      have h1:=Hi.out
      rw [Hst.out,Ho.out] at h1
      rw [← h1]
      rfl
     | some q'=>
      have hq':=smallO_le ho
      have Ho:=zH ho;clear ho
      go_wp2_with (refine (HI.out _ (Ext.trans Hx.out xt)).mono ?_;rintro e' w1 ⟨rfl,hb⟩;rw [Ho.out];simp only [smallV])
      go_roundw
      case rel=>
       refine ⟨k+1,q',by omega,by omega,by go_num,rfl,?_,Ext.trans Hx.out xt⟩
       have h1:=Hi.out
       rw [Hst.out,Ho.out] at h1
       exact h1
      case measure=>simp [intOf];omega
   ·have hkn:k=ts.length:=by omega
    subst hkn
    go_wp2
    go_ret2
    refine ⟨?_,hx⟩
    have h1:=Hi.out
    rw [List.drop_length,smallL] at h1
    rw [← h1]
    rfl
end Go.Proofs.YteomcpplajeidaaGreat

