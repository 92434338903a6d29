/-
  Lemmas of this claim (Base). Nothing is asked.
-/
import Derived.Test.YteomcpplajeidaaGreatRows
import Derived.WalkKit
import Derived.WalkSpells
import Derived.WalkLawsBesides
import Derived.Deep.QuietTactic
import Derived.BigQuiet
import Derived.Deep.RegionHeld3
import Derived.Lib.Hide
import Derived.BigRegion
import Derived.Shelf.Spec.BitsCarry
import Derived.Lib.Mul64
import Derived.Deep.DeepCutAuto
set_option linter.unusedVariables false
set_option linter.unusedSimpArgs false
set_option maxRecDepth 100000
set_option maxHeartbeats 40000000
namespace Go.Proofs.YteomcpplajeidaaGreat
open Go.RowKit
abbrev Ext (w w':World):Prop:=Below w.heap.size w w'
section
variable {a w w':World}
theorem Ext.refl (w:World):Ext w w:=Below.refl _ _
theorem Ext.drew (h:Ext a w):Ext a w.drew:=Below.drew h
theorem Ext.drewN (h:Ext a w) (n:Nat):Ext a (w.drewN n):=⟨h.os,h.tape,h.output,h.size,h.block⟩
theorem Ext.alloc (h:Ext a w) (o:Obj):Ext a (w.alloc o):=Below.alloc h h.size o
theorem Ext.setCell (h:Ext a w) {p:Addr} (hp:a.heap.size≤p.block) (u:Value):Ext a (w.setCell p u):=Below.setCell h hp u
theorem Ext.trans (h:Ext a w) (k:Ext w w'):Ext a w':=Below.trans h (k.mono h.size)
theorem Ext.cells (h:Ext a w):(∀ b o,b < a.heap.size→w.cell? ⟨b,o,none⟩=a.cell? ⟨b,o,none⟩)∧(∀ b o,b < a.heap.size→w.frozen? ⟨b,o,none⟩=a.frozen? ⟨b,o,none⟩):=
 ⟨fun b o hb=>Below.cell (p:=⟨b,o,none⟩) h hb,fun b o hb=>Below.frozen (p:=⟨b,o,none⟩) h hb⟩
end
theorem ga {α:Type} {xs:List α} {i:Nat}:xs.toArray[i]? = xs[i]?:=List.getElem?_toArray
theorem gb {α:Type} {a:α} {l:List α} {i:Nat}:(a :: l)[i+1]? = l[i]?:=rfl
theorem gc {α:Type} {a:α} {l:List α}:(a :: l)[0]? = some a:=rfl
theorem gd {α:Type} {xs:List α} {i:Nat} {a:α}:xs.toArray.setIfInBounds i a=(xs.set i a).toArray:=by simp
theorem ge {α:Type} {a b:α} {l:List α}:(a :: l).set 0 b=b :: l:=rfl
theorem gf {α:Type} {a b:α} {l:List α} {i:Nat}:(a :: l).set (i+1) b=a :: l.set i b:=rfl
theorem gg {α:Type} {a:α} {l:List α}:(a :: l).length=l.length+1:=rfl
theorem gh {α:Type}:([]:List α).length=0:=rfl
theorem gi {α:Type} {a:α} {l:List α} {i:Nat}:(a :: l).drop (i+1)=l.drop i:=rfl
theorem gj {α:Type} {l:List α}:l.drop 0=l:=rfl
/-- A world that has only grown. -/
theorem xt {a w:World} (h:Ext a w:=by with_reducible repeat (first|exact Ext.refl _|assumption|apply Ext.drewN|apply Ext.drew|apply Ext.alloc|(refine Ext.setCell ?_ (by simp <;> omega) _)|(refine Ext.trans ?_ (by assumption)))):Ext a w:=h
end Go.Proofs.YteomcpplajeidaaGreat
namespace Go.Proofs.YteomcpplajeidaaGreat
open Go.RowKit
theorem zH {p:Prop} (h:p):RowKit.Hid p:=h
abbrev zM:=@List.mem_cons_self
abbrev zN:=@List.mem_cons_of_mem
abbrev zB:=@World.block_lt_of_cell?
theorem zk {w:World} {p:Nat} {cs:Array Value} {v:Value} (h:∀ i,w.cell? ⟨p,i,none⟩=cs[i]?) (i:Nat) (e:cs[i]? = some v:=by first|(simp only [ga,gb,gc];rfl)|rfl):w.cell? ⟨p,i,none⟩=some v:=(h i).trans e
theorem zp:(∀ (a:Act) (t:Tmp) (v:Value),a.put (some t) v={ a with tmps:=a.tmps.setIfInBounds t v })∧(∀ (a:Act) (v:Value),a.put none v=a)∧(∀ (xs:List Value) (i:Nat) (a:Value),xs.toArray.setIfInBounds i a=(xs.set i a).toArray)∧(∀ (a b:Value) (l:List Value),(a :: l).set 0 b=b :: l)∧(∀ (a b:Value) (l:List Value) (i:Nat),(a :: l).set (i+1) b=a :: l.set i b):=⟨fun _ _ _=>rfl,fun _ _=>rfl,fun _ _ _=>by simp,fun _ _ _=>rfl,fun _ _ _ _=>rfl⟩
theorem wz (e:Int) (h:-9223372036854775808≤e∧e < 9223372036854775808):IntKind.i64.wrap e=e:=by rw [IntKind.wrap_i64];omega
abbrev iV (n:Int):Value:=.int .i64 n
end Go.Proofs.YteomcpplajeidaaGreat

