/-
  No step of the machine makes the count of draws less: so a call that returns has drawn no less. Nothing is asked.
-/
import Derived.Test.YtlekdhhgjhakgaaBase
namespace Go.Proofs.Ytlekdhhgjhakgaa.Drn
set_option linter.unusedVariables false
set_option linter.unusedSimpArgs false
open Go
def RGe {α : Type} (n : Nat) : Result α → Prop
  | .ok _ w => n ≤ w.drawn
  | .halt _ w => n ≤ w.drawn
theorem RGe.mono {α : Type} {n m : Nat} (h : n ≤ m) : ∀ {r : Result α}, RGe m r → RGe n r
  | .ok _ _, k => Nat.le_trans h k
  | .halt _ _, k => Nat.le_trans h k
theorem ask_ge {α : Type} (c : Ask α) : ∀ w : World, w.drawn ≤ (w.ask c).2.drawn := by
  induction c with
  | done a => intro w; exact Nat.le_refl _
  | ask what range k ih =>
    intro w
    unfold World.ask
    simp only
    split
    · exact ih _ _
    · exact Nat.le_trans (Nat.le_succ _) (ih _ { w with drawn := w.drawn + 1 })
theorem sys_ge (w : World) (c : Sys) : w.drawn ≤ (w.sys c).2.drawn := by
  unfold World.sys
  have h := ask_ge (Kernel.perform c w.os) w
  split
  · exact Nat.le_refl _
  · rename_i e
    rw [e] at h
    exact h
theorem setCell_d (w : World) (a : Addr) (v : Value) : (w.setCell a v).drawn = w.drawn := by
  simp only [World.setCell]
theorem freeze_d (w : World) (a : Addr) (n : Nat) : (w.freeze a n).drawn = w.drawn := by
  unfold World.freeze
  split <;> rfl
theorem viewStore_d {p : Program} {w w' : World} {at_ : Addr} {u : TypeId} {k : Addr} {v : Value} {b : Bool} {l : List Addr} (h : w.viewStore p at_ u k v b = .ok (w', l)) : w'.drawn = w.drawn := by
  unfold World.viewStore at h
  simp only [bind, Except.bind, pure, Except.pure] at h
  repeat' split at h
  all_goals first | cases h | skip
  all_goals rfl
theorem farStore_d {p : Program} {w w' : World} {a : Addr} {v : Value} {b : Bool} {l : List Addr} (h : w.farStore p a v b = .ok (w', l)) : w'.drawn = w.drawn := by
  unfold World.farStore at h
  split at h
  · split at h
    · rename_i hv
      cases h
      exact viewStore_d hv
    · cases h
  · cases h
theorem run_ge {α : Type} (p : Program) (s : Sem α) : ∀ w : World, RGe w.drawn (s.run p w) := by
  induction s with
  | pure a => intro w; exact Nat.le_refl _
  | load m a k ih =>
    intro w
    unfold Sem.run
    split
    · exact ih _ _
    · split
      · exact ih _ _
      · exact Nat.le_refl _
  | store m a v k ih =>
    intro w
    have key : RGe w.drawn (match w.cell? a with
      | some _ => if w.frozen? a then Result.halt (.unsupported (.unsafePointer "a write to bytes that a string shares")) w else k.run p (w.setCell a v)
      | none => match w.farStore p a v (m == .atomic) with
        | .ok (w, _) => k.run p w
        | .error h => .halt h w) := by
      split
      · split
        · exact Nat.le_refl _
        · exact RGe.mono (Nat.le_of_eq (setCell_d _ _ _).symm) (ih _)
      · split
        · rename_i hv
          exact RGe.mono (Nat.le_of_eq (farStore_d hv).symm) (ih _)
        · exact Nat.le_refl _
    cases v <;> first | exact key | exact Nat.le_refl w.drawn
  | new o k ih => intro w; exact ih _ { w with heap := w.heap.push o }
  | shape r k ih => intro w; exact ih _ _
  | freeze a n k ih => intro w; exact RGe.mono (Nat.le_of_eq (freeze_d _ _ _).symm) (ih _)
  | frozen a k ih => intro w; exact ih _ _
  | getObj r k ih =>
    intro w
    unfold Sem.run
    split
    · exact Nat.le_refl _
    · exact ih _ _
    · exact Nat.le_refl _
  | setObj r o k ih =>
    intro w
    unfold Sem.run
    split
    · exact Nat.le_refl _
    · exact ih { w with heap := w.heap.setIfInBounds r o }
    · exact Nat.le_refl _
  | choose q k ih =>
    intro w
    unfold Sem.run
    split
    · exact ih _ _
    · exact RGe.mono (Nat.le_succ _) (ih _ { w with drawn := w.drawn + 1 })
  | sys c k ih => intro w; exact RGe.mono (sys_ge _ _) (ih _ _)
  | program k ih => intro w; exact ih _ _
  | mark m k ih => intro w; exact ih _
  | halt h => intro w; exact Nat.le_refl _
theorem runT_ge {α : Type} (p : Program) (s : Sem α) : ∀ (w : World) (es : Array Event), RGe w.drawn (s.runT p w es).1 := by
  induction s with
  | pure a => intro w es; exact Nat.le_refl _
  | load m a k ih =>
    intro w es
    unfold Sem.runT
    split
    · exact ih _ _ _
    · split
      · exact ih _ _ _
      · exact Nat.le_refl _
  | store m a v k ih =>
    intro w es
    have key : RGe w.drawn (match w.cell? a with
      | some _ =>
        if w.frozen? a then ((Result.halt (.unsupported (.unsafePointer "a write to bytes that a string shares")) w, es) : Result _ × Array Event)
        else k.runT p (w.setCell a v) (es.push ⟨.cell a, true, m == Mode.atomic⟩)
      | none => match w.farStore p a v (m == Mode.atomic) with
        | .ok (w, touched) => k.runT p w (es ++ touched.toArray.map (fun x => (⟨.cell x, true, m == Mode.atomic⟩ : Event)))
        | .error h => (.halt h w, es)).1 := by
      split
      · split
        · exact Nat.le_refl _
        · exact RGe.mono (Nat.le_of_eq (setCell_d _ _ _).symm) (ih _ _)
      · split
        · rename_i hv
          exact RGe.mono (Nat.le_of_eq (farStore_d hv).symm) (ih _ _)
        · exact Nat.le_refl _
    cases v <;> first | exact key | exact Nat.le_refl w.drawn
  | new o k ih => intro w es; exact ih _ { w with heap := w.heap.push o } _
  | shape r k ih => intro w es; exact ih _ _ _
  | freeze a n k ih => intro w es; exact RGe.mono (Nat.le_of_eq (freeze_d _ _ _).symm) (ih _ _)
  | frozen a k ih => intro w es; exact ih _ _ _
  | getObj r k ih =>
    intro w es
    unfold Sem.runT
    split
    · exact Nat.le_refl _
    · exact ih _ _ _
    · exact Nat.le_refl _
  | setObj r o k ih =>
    intro w es
    unfold Sem.runT
    split
    · exact Nat.le_refl _
    · exact ih { w with heap := w.heap.setIfInBounds r o } _
    · exact Nat.le_refl _
  | choose q k ih =>
    intro w es
    unfold Sem.runT
    split
    · exact ih _ _ _
    · exact RGe.mono (Nat.le_succ _) (ih _ { w with drawn := w.drawn + 1 } _)
  | sys c k ih => intro w es; exact RGe.mono (sys_ge _ _) (ih _ _ _)
  | program k ih => intro w es; exact ih _ _ _
  | mark m k ih => intro w es; exact ih _ _
  | halt h => intro w es; exact Nat.le_refl _

/-- A step's world has drawn n or more. -/
def GGe (n : Nat) : GStep → Prop
  | .go _ w _ | .comm _ _ _ _ w _ | .spawn _ _ w _ | .count _ w _ | .timer _ _ w _ | .alone _ _ w _ | .newcoro _ _ _ w _ | .coroswitch _ _ _ w _ | .collect _ w _ | .watch _ w _ => n ≤ w.drawn
  | .ended .. => True
theorem GGe.after {n : Nat} {es : Array Event} {s : GStep} (h : GGe n s) : GGe n (GStep.after es s) := by cases s <;> exact h
def SGe (n : Nat) : Stepped → Prop
  | .next m => n ≤ m.world.drawn
  | .ended .. => True
theorem runT_le {α : Type} {p : Program} {s : Sem α} {w w' : World} {es es' : Array Event} {r : α} (h : s.runT p w es = (.ok r w', es')) : w.drawn ≤ w'.drawn := by
  have := runT_ge p s w es; rw [h] at this; exact this
theorem runT_leH {α : Type} {p : Program} {s : Sem α} {w w' : World} {es es' : Array Event} {r : Halt} (h : s.runT p w es = (.halt r w', es')) : w.drawn ≤ w'.drawn := by
  have := runT_ge p s w es; rw [h] at this; exact this
theorem run_le {α : Type} {p : Program} {s : Sem α} {w w' : World} {r : α} (h : s.run p w = .ok r w') : w.drawn ≤ w'.drawn := by
  have := run_ge p s w; rw [h] at this; exact this
theorem run_leH {α : Type} {p : Program} {s : Sem α} {w w' : World} {r : Halt} (h : s.run p w = .halt r w') : w.drawn ≤ w'.drawn := by
  have := run_ge p s w; rw [h] at this; exact this

theorem fst_le {α : Type} {p : Program} {s : Sem α} {w w' : World} {es : Array Event} {r : α} (h : (s.runT p w es).1 = .ok r w') : w.drawn ≤ w'.drawn := by
  have := runT_ge p s w es; rw [h] at this; exact this
theorem fst_leH {α : Type} {p : Program} {s : Sem α} {w w' : World} {es : Array Event} {r : Halt} (h : (s.runT p w es).1 = .halt r w') : w.drawn ≤ w'.drawn := by
  have := runT_ge p s w es; rw [h] at this; exact this

theorem endWith_ge (w : World) (fd : Nat) (t : ByteArray) (o : Outcome) (n : Nat) : GGe n (endWith w fd t o) := by
  unfold endWith
  simp only
  repeat' split
  all_goals trivial
theorem dieOf_ge (fr : Frame) (l : List ByteArray) (m : String) (b : Bool) (w : World) : GGe w.drawn (dieOf fr l m b w) := Nat.le_refl _
theorem endThrow_ge (fr : Frame) (m : String) (w : World) : GGe w.drawn (endThrow fr m w) := Nat.le_refl _
theorem endPrinting_ge (p : Program) (fr : Frame) (v : Value) (w : World) : GGe w.drawn (endPrinting p fr v w) := by
  unfold endPrinting
  simp only
  split
  · exact endThrow_ge _ _ _
  · trivial
theorem GGe.mono {n m : Nat} (h : n ≤ m) {s : GStep} (k : GGe m s) : GGe n s := by
  cases s <;> first | trivial | exact Nat.le_trans h k
theorem endFatal_ge (p : Program) (fr : Frame) (cs : List Frame) (d : Option Dying) (m : String) (w : World) : GGe w.drawn (endFatal p fr cs d m w) := by
  unfold endFatal
  simp only
  split
  · rename_i h
    exact GGe.mono (run_le h) (dieOf_ge _ _ _ _ _)
  · trivial
  · trivial
theorem writeOn_ge (p : Program) (fr : Frame) (d : Dying) (f : Fatal) (w : World) : GGe w.drawn (writeOn p fr d f w) := by
  unfold writeOn
  simp only
  split
  · trivial
  · split
    · rename_i h
      exact runT_le h
    · rename_i h
      exact runT_leH h
    · trivial
    · trivial
theorem die_ge (p : Program) (fr : Frame) (d : Dying) (w : World) : GGe w.drawn (die p fr d w) := by
  unfold die
  split
  · exact writeOn_ge _ _ _ _ _
  · split
    · split
      · exact Nat.le_refl _
      · exact endWith_ge _ _ _ _ _
    · simp only
      split
      · exact Nat.le_refl _
      · split
        · rename_i h
          exact run_le h
        · trivial
      · refine GGe.after ?_
        split
        all_goals first | trivial | skip
        · rename_i e
          exact fst_le e
        · rename_i e
          exact fst_le e
        · rename_i e
          exact GGe.mono (fst_leH e) (endPrinting_ge _ _ _ _)
      · trivial
theorem doReturn_ge (p : Program) (main : Bool) (fr : Frame) (cs : List Frame) (d : Option Dying) (v : Value) (w : World) : GGe w.drawn (doReturn p main fr cs d v w) := by
  unfold doReturn
  simp only
  repeat' split
  all_goals first | exact Nat.le_refl _ | trivial
theorem ite_ge {n : Nat} {c : Prop} [Decidable c] {a b : GStep} (h : GGe n a) (k : GGe n b) : GGe n (if c then a else b) := by
  split
  · exact h
  · exact k
theorem callDeferred_ge (p : Program) (fr : Frame) (cs : List Frame) (dy : Option Dying) (d : Deferred) (w : World) : GGe w.drawn (callDeferred p fr cs dy d w) := by
  unfold callDeferred
  refine ite_ge trivial ?_
  · simp only
    refine GGe.after ?_
    split
    all_goals first
      | trivial
      | (rename_i e; exact fst_le e)
      | (rename_i e; exact fst_leH e)
      | (rename_i e; exact GGe.mono (fst_leH e) (endFatal_ge _ _ _ _ _ _))
      | (rename_i e; exact GGe.mono (fst_leH e) (endThrow_ge _ _ _))
      | (rename_i e; split <;> exact fst_le e)
theorem unwind_ge (p : Program) (main : Bool) (fr : Frame) (cs : List Frame) (dy : Option Dying) (w : World) : GGe w.drawn (unwind p main fr cs dy w) := by
  unfold unwind
  split
  · simp only
    refine GGe.after ?_
    split
    · rename_i e
      exact fst_le e
    · trivial
  · exact callDeferred_ge _ _ _ _ _ _
  · split
    · trivial
    · split
      · trivial
      · split
        · exact Nat.le_refl _
        · split
          · split
            · exact Nat.le_refl _
            · split
              · rename_i e
                exact run_le e
              · trivial
              · trivial
          · split
            · exact endPrinting_ge _ _ _ _
            · trivial
    · split
      · exact doReturn_ge _ _ _ _ _ _ _
      · simp only
        refine GGe.after ?_
        split
        · rename_i e
          exact GGe.mono (fst_le e) (doReturn_ge _ _ _ _ _ _ _)
        · trivial
        · trivial
theorem early_ge (p : Program) (fr : Frame) (cs : List Frame) (dy : Option Dying) (g : Nat) (w : World) : GGe w.drawn (early p fr cs dy g w) := by
  have key : ∀ w2 : World, GGe w2.drawn (match w2.heap[g]? with
    | some (.pending c elem) => GStep.go { frame := fr, callers := cs, status := .running, dying := dy } { w2 with heap := w2.heap.setIfInBounds g (.cells c elem) }
    | _ => .ended (.stuck "early: the variable does not wait" (fr.pos p)) w2) := fun w2 => by
    split
    · exact Nat.le_refl _
    · trivial
  unfold early
  simp only
  split
  · exact key w
  · split
    · trivial
    · split
      · exact key w
      · split
        · exact key w
        · split
          · trivial
          · exact Nat.le_refl _
          · trivial
          · exact key w
          · split
            · exact Nat.le_refl _
            · split
              · exact key w
              · split
                · rename_i e
                  exact GGe.mono (run_le e) (key _)
                · rename_i e
                  exact run_le e
                · trivial
theorem rt_ge {α : Type} {p : Program} {s : Sem α} {w : World} {es : Array Event} {r : Result α} {e : Array Event} (h : s.runT p w es = (r, e)) : RGe w.drawn r := by
  have := runT_ge p s w es; rw [h] at this; exact this
theorem doReturn_le {n : Nat} {p : Program} {main : Bool} {fr : Frame} {cs : List Frame} {d : Option Dying} {v : Value} {w : World} (h : n ≤ w.drawn) : GGe n (doReturn p main fr cs d v w) := GGe.mono h (doReturn_ge _ _ _ _ _ _ _)
theorem apply_ge (p : Program) (listen : Bool) (fr : Frame) (cs : List Frame) (dy : Option Dying) (s : Sem Next) (w : World) : GGe w.drawn (stepG.apply p listen fr cs dy s w) := by
  have hr : RGe w.drawn (if listen = true then s.runT p w #[] else (s.run p w, #[])).1 := by
    split
    · exact runT_ge _ _ _ _
    · exact run_ge _ _ _
  unfold stepG.apply
  simp only
  refine GGe.after ?_
  generalize (if listen = true then s.runT p w #[] else (s.run p w, #[])).1 = r at hr ⊢
  cases r with
  | ok x w2 =>
    have h2 : w.drawn ≤ w2.drawn := hr
    cases x <;> (try simp only)
    all_goals first
      | exact h2
      | exact ite_ge (GGe.mono h2 (endThrow_ge _ _ _)) h2
      | (split <;> exact h2)
      | (split <;> split <;> exact h2)
  | halt x w2 =>
    have h2 : w.drawn ≤ w2.drawn := hr
    cases x <;> (try simp only)
    all_goals first
      | exact h2
      | trivial
      | exact GGe.mono h2 (endFatal_ge _ _ _ _ _ _)
      | exact GGe.mono h2 (endThrow_ge _ _ _)
      | skip
    rename_i u
    clear hr
    cases u <;> first | exact GGe.mono h2 (early_ge _ _ _ _ _ _) | trivial
theorem oper_ge (p : Program) (listen : Bool) (fr : Frame) (cs : List Frame) (dy : Option Dying) (w : World) : GGe w.drawn (stepG.oper p listen fr cs dy w) := by
  unfold stepG.oper
  split
  · trivial
  · split <;> exact apply_ge _ _ _ _ _ _ _
theorem elim_ge {α : Type} {n : Nat} {a : GStep} {f : α → GStep} (o : Option α) (h : GGe n a) (k : ∀ x, GGe n (f x)) : GGe n (o.elim a f) := by
  cases o
  · exact h
  · exact k _
theorem exec_ge (p : Program) (main listen : Bool) (fr : Frame) (cs : List Frame) (dy : Option Dying) (w : World) : GGe w.drawn (stepG.exec p main listen fr cs dy w) := by
  unfold stepG.exec
  have leave : ∀ (b : Prop) [Decidable b] (j : Option Code), GGe w.drawn (match fr.roundOf with
      | none => if b then GStep.go { frame := { fr with mode := .returning }, callers := cs, status := .running, dying := dy } w else .ended (.stuck "exit, goto: no such block or label" (fr.pos p)) w
      | some l =>
        GStep.after (seen p fr.fn ((Instr.endRound l j).runT p w #[]).2) (match ((Instr.endRound l j).runT p w #[]).1 with
        | .ok v w => doReturn p main fr cs dy v w
        | .halt _ w => .ended (.stuck "range over a function: no such loop" (fr.pos p)) w)) := by
    intro b _ j
    split
    · exact ite_ge (Nat.le_refl _) trivial
    · refine GGe.after ?_
      split
      · rename_i e
        exact doReturn_le (fst_le e)
      · trivial
  simp only
  split
  all_goals first
    | exact Nat.le_refl _
    | trivial
    | exact apply_ge _ _ _ _ _ _ _
    | exact leave _ _
    | exact elim_ge _ (leave _ _) (fun _ => Nat.le_refl _)
    | exact elim_ge _ trivial (fun _ => apply_ge _ _ _ _ _ _ _)
    | exact ite_ge (oper_ge _ _ _ _ _ _) (Nat.le_refl _)
    | (split <;> first | exact Nat.le_refl _ | trivial)
    | (refine GGe.after ?_
       split
       · rename_i e
         exact GGe.mono (fst_le e) (apply_ge _ _ _ _ _ _ _)
       · trivial)
    | (refine GGe.after ?_
       split
       · rename_i e
         exact fst_le e
       · rename_i e
         exact fst_leH e
       · trivial)
    | (refine ite_ge (Nat.le_refl _) ?_
       split
       · rename_i e
         exact run_le e
       · trivial)
theorem stepG_ge (p : Program) (main : Bool) (g : Goroutine) (w : World) (listen : Bool) : GGe w.drawn (stepG p main g w listen) := by
  unfold stepG
  simp only
  split
  · exact die_ge _ _ _ _
  · exact exec_ge _ _ _ _ _ _ _
  · exact unwind_ge _ _ _ _ _ _

theorem waitingAt_d {rest : Rest} {cases : Array CommCase} {w w' : World} (h : waitingAt rest cases w = some w') : w'.drawn = w.drawn := by
  unfold waitingAt at h
  split at h
  · split at h
    · injection h with h
      subst h
      rfl
    · cases h
  · injection h with h
    subst h
    rfl
theorem sge_ite {n : Nat} {c : Prop} [Decidable c] {a b : Stepped × Array MemOp} (h : SGe n a.1) (k : SGe n b.1) : SGe n (if c then a else b).1 := by
  split
  · exact h
  · exact k
theorem communicate_ge (p : Program) (rest : Rest) (gs : Array Goroutine) (i : Nat) (g : Goroutine) (cases : Array CommCase) (blocking : Bool) (shape : CommShape) (w : World) :
    SGe w.drawn (communicate p rest gs i g cases blocking shape w).1 := by
  unfold communicate
  simp only
  refine sge_ite trivial ?_
  refine sge_ite ?_ ?_
  · refine sge_ite ?_ (Nat.le_refl _)
    split
    · rename_i e
      exact Nat.le_of_eq (waitingAt_d e).symm
    · trivial
  · split
    · trivial
    · rename_i e
      have h1 := run_le e
      clear e
      split
      · split
        · rename_i e
          exact Nat.le_trans h1 (run_leH e)
        · trivial
      · exact h1
      · exact h1
      · split
        · exact h1
        · split
          · rename_i e
            have h2 := run_le e
            exact Nat.le_trans h1 h2
          · trivial
      · exact h1
      · exact h1
      · trivial
theorem look_ge (p : Program) (gs : Array Goroutine) (rest : Rest) (w : World) : SGe w.drawn (look p gs rest w) := by
  unfold look
  simp only
  split
  · split
    · trivial
    · split
      · trivial
      · split
        · rename_i e
          have h2 := run_le e
          exact h2
        · trivial
        · trivial
  · trivial
theorem serve_ge (p : Program) (m : Machine) (k : Nat) : SGe m.world.drawn (serve p m k) := by
  unfold serve
  simp only
  split
  · trivial
  · exact Nat.le_refl _
  · split
    · trivial
    · exact Nat.le_refl _
theorem drain_d (w : World) (c : Nat) : (drain w c).2.drawn = w.drawn := by
  unfold drain
  split <;> rfl
theorem retime_d (m : Machine) (k : Nat) (t : Timer) (a b : Nat) : (retime m k t a b).2.world.drawn = m.world.drawn := by
  unfold retime
  simp only
  split
  · exact drain_d _ _
  · rfl
theorem named_d {m : Machine} {var : Addr} {f : Nat → Timer → Value × Machine} {v : Value} {m' : Machine} (n : Nat) (hf : ∀ k t, (f k t).2.world.drawn = n) (h : timerOp.named m var f = .ok (v, m')) : m'.world.drawn = n := by
  unfold timerOp.named at h
  split at h
  · injection h with h
    rw [← show (f _ _).2 = m' from congrArg Prod.snd h]
    exact hf _ _
  · cases h
theorem timerOp_d {m m' : Machine} {op : TimerOp} {v : Value} (h : timerOp m op = .ok (v, m')) : m'.world.drawn = m.world.drawn := by
  unfold timerOp at h
  split at h
  · split at h
    · injection h with h
      injection h with h1 h2
      subst h2
      rfl
    · split at h
      · split at h
        · cases h
        · injection h with h
          injection h with h1 h2
          subst h2
          rfl
      · cases h
  · exact named_d _ (fun _ _ => retime_d _ _ _ _ _) h
  · split at h
    · rename_i e
      refine named_d _ (fun _ _ => (retime_d _ _ _ _ _).trans ?_) h
      unfold timerOp.opened at e
      split at e
      · split at e
        · injection e with e
          subst e
          rfl
        · cases e
      · injection e with e
        subst e
        rfl
    · cases h
  · injection h with h
    injection h with h1 h2
    subst h2
    rfl
theorem SGe.mono {n m : Nat} (h : n ≤ m) {s : Stepped} (k : SGe m s) : SGe n s := by
  cases s
  · exact Nat.le_trans h k
  · trivial
theorem thrown_ge (fr : Frame) (msg : String) (w : World) (n : Nat) (hn : n ≤ w.drawn) (f : Goroutine → Array Goroutine) (rest : Rest) (o : Stepped) (ho : SGe n o) : SGe n (match endThrow fr msg w with
    | .go g w _ => .next { world := w, gs := f g, rest := rest }
    | _ => o) := hn
theorem runT_m_ge (p : Program) (m : Machine) (i : Nat) (listen : Bool) : SGe m.world.drawn (Go.runT p m i listen).1 := by
  unfold Go.runT
  simp only
  have h := stepG_ge p (i == 0) (m.gs.swapAt! i { (default : Goroutine) with status := .finished }).1 m.world listen
  split
  · trivial
  · rename_i e
    rw [e] at h
    exact SGe.mono h (communicate_ge _ _ _ _ _ _ _ _ _)
  · rename_i e
    rw [e] at h
    exact h
  · rename_i e
    rw [e] at h
    exact h
  · rename_i e
    rw [e] at h
    split
    · trivial
    · exact h
  · rename_i e
    rw [e] at h
    exact h
  · rename_i e
    rw [e] at h
    exact SGe.mono h (look_ge _ _ _ _)
  · rename_i e
    rw [e] at h
    exact h
  · rename_i e
    rw [e] at h
    exact h
  · rename_i e
    rw [e] at h
    split
    · exact h
    · exact h
    · trivial
  · rename_i e
    rw [e] at h
    split
    · rename_i e2
      exact Nat.le_trans h (Nat.le_of_eq (timerOp_d e2).symm)
    · exact h
    · trivial
    · trivial
/-- A move's world. -/
def MGe (n : Nat) : Move → Prop
  | .goroutine m _ => n ≤ m.world.drawn
  | .machine s _ => SGe n s
theorem pick_ge (p : Program) (rs : List Nat) (m : Machine) (n : Nat) (hn : n ≤ m.world.drawn) : MGe n (match (choose (.sched rs.length)).run p m.world with
      | .halt _ w => .machine (.ended (.stuck "sched" "") w)
      | .ok k world =>
        if rs.length ≤ 1 then .goroutine { m with world } (rs.getD k 0) else
        match (choose (.extern "sched.slice" 65536)).run p world with
        | .halt _ w => .machine (.ended (.stuck "sched.slice" "") w)
        | .ok n world => .goroutine { m with world, rest := { m.rest with slice := if n = 0 then none else some (rs.getD k 0, n) } } (rs.getD k 0)) := by
  split
  · trivial
  · rename_i e
    have h1 := Nat.le_trans hn (run_le e)
    split
    · exact h1
    · split
      · trivial
      · rename_i e2
        exact Nat.le_trans h1 (run_le e2)
theorem askOn_ge (p : Program) (m : Machine) : MGe m.world.drawn (askOn p m) := by
  unfold askOn
  simp only
  split
  · trivial
  · rename_i e
    have h1 := run_le e
    split
    · exact SGe.mono h1 (serve_ge p _ _)
    · split
      · split
        · exact h1
        · split
          · exact h1
          · split <;> trivial
      · split
        · exact pick_ge p _ { m with world := _ } _ h1
        · split
          · trivial
          · rename_i e2
            exact pick_ge p _ { m with world := _ } _ (Nat.le_trans h1 (run_le e2))
          · rename_i e2
            have h2 := run_le e2
            exact Nat.le_trans h1 h2
          · rename_i e2
            have h2 := run_le e2
            exact pick_ge p _ (Machine.advanceTo { m with world := _ } _) _ (Nat.le_trans h1 h2)
theorem MGe.mono {n m : Nat} (h : n ≤ m) {s : Move} (k : MGe m s) : MGe n s := by
  cases s
  · exact Nat.le_trans h k
  · exact SGe.mono h k
theorem ask_m_ge (p : Program) (m : Machine) : MGe m.world.drawn (ask p m) := by
  unfold ask
  split
  · split
    · trivial
    · rename_i W e
      have h1 := run_le e
      have h2 := look_ge p m.gs m.rest W
      split
      · rename_i e2
        rw [e2] at h2
        exact MGe.mono (Nat.le_trans h1 h2) (askOn_ge _ _)
      · exact SGe.mono h1 h2
    · rename_i e
      have h1 := run_le e
      exact MGe.mono h1 (askOn_ge p { m with world := _ })
  · exact askOn_ge _ _
theorem move_ge (p : Program) (m : Machine) : MGe m.world.drawn (move p m) := by
  unfold move
  split
  · split
    · exact Nat.le_refl _
    · trivial
  · split
    · split
      · exact Nat.le_refl _
      · exact ask_m_ge p { m with rest := _ }
    · exact ask_m_ge _ _
theorem step_ge (p : Program) (m : Machine) : SGe m.world.drawn (step p m) := by
  unfold step stepT
  have h := move_ge p m
  split
  · rename_i e
    rw [e] at h
    exact SGe.mono h (runT_m_ge _ _ _ _)
  · rename_i e
    rw [e] at h
    exact h
theorem steps_ge {p : Program} {m m' : Machine} (h : Steps p m m') : m.world.drawn ≤ m'.world.drawn := by
  obtain ⟨n, hn⟩ := h
  induction n generalizing m with
  | zero =>
    injection hn with hn
    subst hn
    exact Nat.le_refl _
  | succ n ih =>
    have h1 := step_ge p m
    unfold runN at hn
    split at hn
    · rename_i e
      rw [e] at h1
      exact Nat.le_trans h1 (ih hn)
    · rename_i e
      exact absurd hn (by intro h; exact e _ h)
end Go.Proofs.Ytlekdhhgjhakgaa.Drn
namespace Go.Proofs.Ytlekdhhgjhakgaa
open Go
/-- A call that returns has drawn no less. -/
theorem calls_drawn {P : Program} {f : FuncId} {args : Array Value} {w : World} {v : Value} {R : Ending → World → Prop} (h : Calls P f args w R) (hR : ∀ e w', R e w' → e = .returned v) :
    Calls P f args w fun e w' => R e w' ∧ w.drawn ≤ w'.drawn := by
  intro cs
  obtain ⟨e, w', fr, hr, hc, h1, h2⟩ := h cs
  obtain rfl := hR e w' hr
  exact ⟨_, w', fr, ⟨hr, Drn.steps_ge (show Steps P _ _ from hc)⟩, hc, h1, h2⟩
end Go.Proofs.Ytlekdhhgjhakgaa
