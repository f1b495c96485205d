/-
  THE GHOST LOGIC, PART 55: a run draws no fewer: the count of draws never falls.
-/
import Derived.WalkKit
set_option linter.unusedVariables false
set_option linter.unusedSimpArgs false
set_option linter.unusedSectionVars false
namespace Go.Gk
/-- A result's world has drawn no less. -/
def RDr {α : Type} (d : Nat) : Result α → Prop
  | .ok _ w => d ≤ w.drawn
  | .halt _ w => d ≤ w.drawn
theorem Klx {α : Type} (a : Ask α) : ∀ w : World, w.drawn ≤ (w.ask a).2.drawn := by
  induction a with
  | done a => exact fun w => Nat.le_refl _
  | ask what range k ih =>
    intro w
    simp only [World.ask]
    split
    · exact ih _ w
    · exact Nat.le_trans (Nat.le_succ w.drawn) (ih _ { w with drawn := w.drawn + 1 })
theorem Kly (w : World) (c : Sys) : w.drawn ≤ (w.sys c).2.drawn := by
  unfold World.sys
  have h := Klx (Kernel.perform c w.os) w
  split
  · exact Nat.le_refl _
  · rename_i e
    rw [e] at h
    exact h
theorem Klz (w : World) (a : Addr) (n : Nat) : (w.freeze a n).drawn = w.drawn := by
  unfold World.freeze
  split <;> rfl
theorem Kma {p : Program} {w w' : World} {at_ : Addr} {u : TypeId} {k : Addr} {v : Value} {b : Bool} {l : List Addr} (h : w.viewStore p at_ u k v b = .ok (w', l)) : w'.drawn = w.drawn := by
  unfold World.viewStore at h
  simp only [bind, Except.bind, pure, Except.pure, throw, throwThe, MonadExceptOf.throw] at h
  repeat' split at h
  all_goals first
    | (cases h; rfl)
    | cases h
    | (repeat' split at h) <;> first | (cases h; rfl) | cases h
theorem Kmb {p : Program} {w w' : World} {a : Addr} {v : Value} {b : Bool} {l : List Addr} (h : w.farStore p a v b = .ok (w', l)) : w'.drawn = w.drawn := by
  unfold World.farStore at h
  split at h
  · split at h
    · rename_i e
      cases h
      exact Kma e
    · cases h
  · cases h
theorem RDr.le {α : Type} {d d' : Nat} {r : Result α} (h : RDr d r) (hd : d' ≤ d) : RDr d' r := by
  cases r <;> exact Nat.le_trans hd h
theorem Kmc {α : Type} (p : Program) (m : Sem α) : ∀ (w : World) (es : Array Event), RDr w.drawn (m.runT p w es).1 := by
  induction m with
  | pure a => exact fun w es => Nat.le_refl _
  | load m a k ih =>
    intro w es
    simp only [Sem.runT]
    split
    · exact ih _ _ _
    · split
      · exact ih _ _ _
      · exact Nat.le_refl _
  | store md a v k ih =>
    intro w es
    cases v <;> simp only [Sem.runT]
    all_goals first
      | exact Nat.le_refl _
      | (split
         · split
           · exact Nat.le_refl _
           · exact ih (w.setCell a _) _
         · split
           · rename_i e
             exact (ih _ _).le (Nat.le_of_eq (Kmb e).symm)
           · exact Nat.le_refl _)
  | new o k ih => exact fun w es => ih _ { w with heap := w.heap.push o } es
  | shape r k ih => exact fun w es => ih _ w es
  | freeze a n k ih => exact fun w es => (ih (w.freeze a n) es).le (Nat.le_of_eq (Klz w a n).symm)
  | frozen a k ih => exact fun w es => ih _ w es
  | getObj r k ih =>
    intro w es
    simp only [Sem.runT]
    split
    · exact Nat.le_refl _
    · exact ih _ _ _
    · exact Nat.le_refl _
  | setObj r o k ih =>
    intro w es
    simp only [Sem.runT]
    split
    · exact Nat.le_refl _
    · exact ih { w with heap := w.heap.setIfInBounds r o } _
    · exact Nat.le_refl _
  | choose q k ih =>
    intro w es
    simp only [Sem.runT]
    split
    · exact ih _ _ _
    · exact (ih _ { w with drawn := w.drawn + 1 } es).le (Nat.le_succ _)
  | sys c k ih => exact fun w es => (ih _ (w.sys c).2 _).le (Kly w c)
  | program k ih => exact fun w es => ih _ w es
  | mark m k ih => exact fun w es => ih w _
  | halt h => exact fun w es => Nat.le_refl _
theorem Kmd {α : Type} (p : Program) (m : Sem α) : ∀ (w : World), RDr w.drawn (m.run p w) := by
  induction m with
  | pure a => exact fun w => Nat.le_refl _
  | load m a k ih =>
    intro w
    simp only [Sem.run]
    split
    · exact ih _ _
    · split
      · exact ih _ _
      · exact Nat.le_refl _
  | store md a v k ih =>
    intro w
    cases v <;> simp only [Sem.run]
    all_goals first
      | exact Nat.le_refl _
      | (split
         · split
           · exact Nat.le_refl _
           · exact ih (w.setCell a _)
         · split
           · rename_i e
             exact (ih _).le (Nat.le_of_eq (Kmb e).symm)
           · exact Nat.le_refl _)
  | new o k ih => exact fun w => ih _ { w with heap := w.heap.push o }
  | shape r k ih => exact fun w => ih _ w
  | freeze a n k ih => exact fun w => (ih (w.freeze a n)).le (Nat.le_of_eq (Klz w a n).symm)
  | frozen a k ih => exact fun w => ih _ w
  | getObj r k ih =>
    intro w
    simp only [Sem.run]
    split
    · exact Nat.le_refl _
    · exact ih _ _
    · exact Nat.le_refl _
  | setObj r o k ih =>
    intro w
    simp only [Sem.run]
    split
    · exact Nat.le_refl _
    · exact ih { w with heap := w.heap.setIfInBounds r o }
    · exact Nat.le_refl _
  | choose q k ih =>
    intro w
    simp only [Sem.run]
    split
    · exact ih _ _
    · exact (ih _ { w with drawn := w.drawn + 1 }).le (Nat.le_succ _)
  | sys c k ih => exact fun w => (ih _ (w.sys c).2).le (Kly w c)
  | program k ih => exact fun w => ih _ w
  | mark m k ih => exact fun w => ih w
  | halt h => exact fun w => Nat.le_refl _
/-! ### A goroutine's step -/
def GW (d : Nat) : GStep → Prop
  | .go _ w _ => d ≤ w.drawn
  | .comm _ _ _ _ w _ => d ≤ w.drawn
  | .spawn _ _ w _ => d ≤ w.drawn
  | .count _ w _ => d ≤ w.drawn
  | .timer _ _ w _ => d ≤ w.drawn
  | .alone _ _ w _ => d ≤ w.drawn
  | .newcoro _ _ _ w _ => d ≤ w.drawn
  | .coroswitch _ _ _ w _ => d ≤ w.drawn
  | .collect _ w _ => d ≤ w.drawn
  | .watch _ w _ => d ≤ w.drawn
  | .ended _ _ _ => True
theorem GW_after (d : Nat) (es : Array Event) (s : GStep) : GW d (s.after es) ↔ GW d s := by cases s <;> exact Iff.rfl
theorem GW.le {d d' : Nat} {s : GStep} (h : GW d s) (hd : d' ≤ d) : GW d' s := by
  cases s <;> first | exact Nat.le_trans hd h | trivial
theorem GW_ite {d : Nat} {c : Prop} [Decidable c] {a b : GStep} (h1 : GW d a) (h2 : GW d b) : GW d (if c then a else b) := by
  split
  · exact h1
  · exact h2
theorem Kme (d : Nat) (w : World) (fd : Nat) (t : ByteArray) (o : Outcome) : GW d (endWith w fd t o) := by
  unfold endWith
  simp only
  repeat' split
  all_goals trivial
theorem Kmf (fr : Frame) (m : String) (w : World) : GW w.drawn (endThrow fr m w) := Nat.le_refl _
theorem Kmg (p : Program) (fr : Frame) (v : Value) (w : World) : GW w.drawn (endPrinting p fr v w) := by
  unfold endPrinting
  simp only
  repeat' split
  all_goals first | trivial | exact Nat.le_refl _
theorem Kmh (p : Program) (fr : Frame) (cs : List Frame) (dy : Option Dying) (m : String) (w : World) : GW w.drawn (endFatal p fr cs dy m w) := by
  unfold endFatal
  simp only
  split
  · rename_i e
    have := Kmd p _ w |> (fun h => by rw [e] at h; exact h)
    exact this
  · trivial
  · trivial
theorem Kmi (p : Program) (fr : Frame) (d : Dying) (f : Fatal) (w : World) : GW w.drawn (writeOn p fr d f w) := by
  unfold writeOn
  simp only
  split
  · trivial
  · split
    · rename_i e
      have h := Kmc p _ w #[] |> (fun h => by rw [e] at h; exact h)
      exact h
    · rename_i e
      have h := Kmc p _ w #[] |> (fun h => by rw [e] at h; exact h)
      exact h
    · trivial
    · trivial
theorem Kmj (p : Program) (fr : Frame) (d : Dying) (w : World) : GW w.drawn (die p fr d w) := by
  unfold die
  split
  · exact Kmi _ _ _ _ _
  · split
    · split
      · exact Nat.le_refl _
      · exact Kme _ _ _ _ _
    · simp only
      split
      · exact Nat.le_refl _
      · split
        · rename_i e
          have h := Kmd p (withAddress _) w |> (fun h => by rw [e] at h; exact h)
          exact h
        · trivial
      · rw [GW_after]
        generalize e : (Sem.runT p _ w #[]) = r
        have h := Kmc p _ w #[] |> (fun h => by rw [e] at h; exact h)
        split
        · rename_i e2; rw [e2] at h; exact h
        · rename_i e2; rw [e2] at h; exact h
        · trivial
        · rename_i e2; rw [e2] at h; exact (Kmg _ _ _ _).le h
        · trivial
      · trivial
theorem Kmk (p : Program) (fr : Frame) (cs : List Frame) (dy : Option Dying) (g : Nat) (w : World) : GW w.drawn (early p fr cs dy g w) := by
  have notYet : ∀ w0 w : World, w0.drawn ≤ w.drawn → GW w0.drawn (match w.heap[g]? with
    | some (.pending c elem) => GStep.go { frame := fr, callers := cs, status := .running, dying := dy } { w with heap := w.heap.setIfInBounds g (.cells c elem) }
    | _ => .ended (.stuck "early: the variable does not wait" (fr.pos p)) w) := fun w0 w h => by
    split
    · exact h
    · trivial
  unfold early
  simp only
  split
  · exact notYet w w (Nat.le_refl _)
  · split
    · trivial
    · split
      · exact notYet w w (Nat.le_refl _)
      · split
        · exact notYet w w (Nat.le_refl _)
        · split
          · trivial
          · exact Nat.le_refl _
          · trivial
          · exact notYet w w (Nat.le_refl _)
          · split
            · exact Nat.le_refl _
            · split
              · exact notYet w w (Nat.le_refl _)
              · generalize e : (Sem.run p _ w) = r
                have h := Kmd p _ w |> (fun h => by rw [e] at h; exact h)
                split
                · exact notYet w _ h
                · exact h
                · trivial
theorem Kml (p : Program) (main : Bool) (fr : Frame) (cs : List Frame) (dy : Option Dying) (v : Value) (w : World) : GW w.drawn (doReturn p main fr cs dy v w) := by
  unfold doReturn
  repeat' split
  all_goals first | trivial | exact Nat.le_refl _
theorem Kmm (p : Program) (fr : Frame) (cs : List Frame) (dy : Option Dying) (d : Deferred) (w : World) : GW w.drawn (callDeferred p fr cs dy d w) := by
  unfold callDeferred
  refine GW_ite trivial ?_
  · simp only
    rw [GW_after]
    generalize e : (Sem.runT p _ w #[]) = r
    have h := Kmc p _ w #[] |> (fun h => by rw [e] at h; exact h)
    obtain ⟨r, es⟩ := r
    cases r with
    | ok v w' =>
      have h : w.drawn ≤ w'.drawn := h
      cases v with
      | coroswitch c b => cases b <;> first | exact h | trivial
      | alone b v => cases b <;> first | exact h | trivial
      | _ =>
        first
        | exact h
        | trivial
        | (simp only; split <;> exact h)
    | halt v w' =>
      have h : w.drawn ≤ w'.drawn := h
      cases v
      all_goals first
        | exact h
        | trivial
        | exact (Kmh _ _ _ _ _ _).le h
        | exact (Kmf _ _ _).le h
theorem Kmn (p : Program) (main : Bool) (fr : Frame) (cs : List Frame) (dy : Option Dying) (w : World) : GW w.drawn (unwind p main fr cs dy w) := by
  unfold unwind
  split
  · simp only
    rw [GW_after]
    generalize e : (Sem.runT p _ w #[]) = r
    have h := Kmc p _ w #[] |> (fun h => by rw [e] at h; exact h)
    obtain ⟨r, es⟩ := r
    cases r with
    | ok v w' => exact h
    | halt v w' => trivial
  · exact Kmm _ _ _ _ _ _
  · split
    · trivial
    · split
      · trivial
      · split
        · exact Nat.le_refl _
        · split
          · split
            · exact Nat.le_refl _
            · generalize e : (Sem.run p _ w) = r
              have h := Kmd p _ w |> (fun h => by rw [e] at h; exact h)
              split
              · exact h
              · trivial
              · trivial
          · split
            · exact Kmg _ _ _ _
            · trivial
    · split
      · exact Kml _ _ _ _ _ _ _
      · simp only
        rw [GW_after]
        generalize e : (Sem.runT p _ w #[]) = r
        have h := Kmc p _ w #[] |> (fun h => by rw [e] at h; exact h)
        obtain ⟨r, es⟩ := r
        cases r with
        | ok v w' => exact (Kml _ _ _ _ _ _ _).le h
        | halt v w' =>
          cases v <;> trivial
theorem Kmo (p : Program) (listen : Bool) (fr : Frame) (cs : List Frame) (dy : Option Dying) (s : Sem Next) (w : World) : GW w.drawn (stepG.apply p listen fr cs dy s w) := by
  unfold stepG.apply
  simp only
  rw [GW_after]
  generalize e : (if listen = true then Sem.runT p s w #[] else (Sem.run p s w, #[])) = r
  have h : RDr w.drawn r.1 := by
    rw [← e]
    split
    · exact Kmc p _ _ _
    · exact Kmd p _ _
  obtain ⟨r, es⟩ := r
  cases r with
  | ok v w' =>
    have h : w.drawn ≤ w'.drawn := h
    cases v
    all_goals first
      | exact h
      | trivial
      | (simp only; repeat' split)
    all_goals first
      | exact h
      | trivial
      | exact (Kmf _ _ _).le h
  | halt v w' =>
    have h : w.drawn ≤ w'.drawn := h
    cases v with
    | unsupported u => cases u <;> first | trivial | exact (Kmk _ _ _ _ _ _).le h
    | _ =>
      first
      | exact h
      | trivial
      | exact (Kmh _ _ _ _ _ _).le h
      | exact (Kmf _ _ _).le h
theorem Kmp (p : Program) (listen : Bool) (fr : Frame) (cs : List Frame) (dy : Option Dying) (w : World) : GW w.drawn (stepG.oper p listen fr cs dy w) := by
  unfold stepG.oper
  repeat' split
  all_goals first
    | trivial
    | exact Kmo _ _ _ _ _ _ _
theorem Kmq (p : Program) (main listen : Bool) (fr : Frame) (cs : List Frame) (dy : Option Dying) (w : World) : GW w.drawn (stepG.exec p main listen fr cs dy w) := by
  have leave : ∀ (c : Prop) [Decidable c] (jump : Option Code), GW w.drawn (match fr.roundOf with
      | none => if c then (.go { frame := { fr with mode := .returning }, callers := cs, status := .running, dying := dy } w : GStep) else .ended (.stuck "exit, goto: no such block or label" (fr.pos p)) w
      | some l => GStep.after (seen p fr.fn ((Instr.endRound l jump).runT p w #[]).2) <| match ((Instr.endRound l jump).runT p w #[]).1 with
        | .ok v w => doReturn p main fr cs dy v w
        | .halt _ w => .ended (.stuck "range over a function: no such loop" (fr.pos p)) w) := fun c _ jump => by
    split
    · exact GW_ite (Nat.le_refl _) trivial
    · rw [GW_after]
      have h := Kmc p (Instr.endRound ‹_› jump) w #[]
      split
      · rename_i e; rw [e] at h; exact (Kml _ _ _ _ _ _ _).le h
      · trivial
  unfold stepG.exec
  simp only
  split
  all_goals first
    | trivial
    | exact Nat.le_refl _
    | exact leave _ _
    | exact Kmo _ _ _ _ _ _ _
    | (rw [GW_after]
       generalize e : (Sem.runT p _ w #[]) = r
       have h := Kmc p _ w #[] |> (fun h => by rw [e] at h; exact h)
       obtain ⟨r, es⟩ := r
       cases r with
       | ok v w' => first | exact h | exact (Kmo _ _ _ _ _ _ _).le h
       | halt v w' => cases v <;> first | exact h | trivial)
    | (split
       · exact Nat.le_refl _
       · trivial)
    | (generalize exitTo _ _ = o
       cases o with
       | none => exact leave _ _
       | some l => exact Nat.le_refl _)
    | (generalize gotoIn _ _ = o
       cases o with
       | none => exact leave _ _
       | some l => exact Nat.le_refl _)
    | (generalize Extern.next _ = o
       cases o with
       | none => trivial
       | some l => exact Kmo _ _ _ _ _ _ _)
    | (refine GW_ite (Nat.le_refl _) ?_
       generalize e : (Sem.run p _ w) = r
       have h := Kmd p _ w |> (fun h => by rw [e] at h; exact h)
       split
       · exact h
       · trivial)
    | exact GW_ite (Kmp _ _ _ _ _ _) (Nat.le_refl _)
theorem Kmr (p : Program) (main : Bool) (g : Goroutine) (w : World) (listen : Bool) : GW w.drawn (stepG p main g w listen) := by
  obtain ⟨fr, cs, st, dy, off⟩ := g
  unfold stepG
  simp only
  split
  · exact Kmj _ _ _ _
  · exact Kmq _ _ _ _ _ _ _
  · exact Kmn _ _ _ _ _ _
/-! ### The machine's step -/
def SWd (d : Nat) : Stepped → Prop
  | .next m => d ≤ m.world.drawn
  | .ended _ _ => True
theorem SWd.le {d d' : Nat} {s : Stepped} (h : SWd d s) (hd : d' ≤ d) : SWd d' s := by
  cases s <;> first | exact Nat.le_trans hd h | trivial
theorem SWd_ite {d : Nat} {c : Prop} [Decidable c] {a b : Stepped} (h1 : SWd d a) (h2 : SWd d b) : SWd d (if c then a else b) := by
  split
  · exact h1
  · exact h2
theorem Kms (p : Program) (gs : Array Goroutine) (rest : Rest) (w : World) : SWd w.drawn (look p gs rest w) := by
  unfold look
  split
  · simp only
    split
    · trivial
    · split
      · trivial
      · generalize e : (Sem.run p _ w) = r
        have h := Kmd p _ w |> (fun h => by rw [e] at h; exact h)
        split
        · exact h
        · trivial
        · trivial
  · trivial
theorem Kmt (p : Program) (m : Machine) (k : Nat) : SWd m.world.drawn (serve p m k) := by
  unfold serve
  split
  · trivial
  · exact Nat.le_refl _
  · simp only
    split
    · trivial
    · exact Nat.le_refl _
theorem Kmu (p : Program) (rest : Rest) (gs : Array Goroutine) (i : Nat) (g : Goroutine) (cases : Array CommCase) (blocking : Bool) (shape : CommShape) (w : World) : SWd w.drawn (communicate p rest gs i g cases blocking shape w).1 := by
  unfold communicate
  simp only
  split
  · trivial
  · split
    · split
      · unfold waitingAt
        split
        · rename_i e
          split at e
          · split at e
            · cases e; exact Nat.le_refl _
            · cases e
          · cases e; exact Nat.le_refl _
        · trivial
      · exact Nat.le_refl _
    · generalize e : (Sem.run p _ w) = r
      have h := Kmd p _ w |> (fun h => by rw [e] at h; exact h)
      split
      · trivial
      · have h : w.drawn ≤ World.drawn ‹_› := h
        repeat' split
        all_goals first
          | trivial
          | exact h
          | skip
        all_goals first
          | (have h2 := Kmd p (_ : Sem Nat) _ |> (fun q => by rw [‹Sem.run p (_ : Sem Nat) _ = Result.ok _ _›] at q; exact q)
             exact Nat.le_trans h h2)
          | (have h2 := Kmd p (_ : Sem Unit) _ |> (fun q => by rw [‹Sem.run p (_ : Sem Unit) _ = Result.halt _ _›] at q; exact q)
             exact Nat.le_trans h h2)
theorem Kmv (m : Machine) (k : Nat) (t : Timer) (a b : Nat) : (retime m k t a b).2.world.drawn = m.world.drawn := by
  unfold retime
  cases t.chan with
  | none => rfl
  | some c =>
    simp only
    unfold drain
    split <;> rfl
theorem Kmw (m : Machine) (var : Addr) (f : Nat → Timer → Value × Machine) (hf : ∀ k t, (f k t).2.world.drawn = m.world.drawn) {v : Value} {m' : Machine} (h : timerOp.named m var f = .ok (v, m')) : m'.world.drawn = m.world.drawn := by
  unfold timerOp.named at h
  split at h
  · have := hf ‹Nat› (m.rest.timers.getD ‹Nat› default)
    injection h with h
    rw [h] at this
    exact this
  · cases h
theorem Kmx (m : Machine) (op : TimerOp) {v : Value} {m' : Machine} (h : timerOp m op = .ok (v, m')) : m'.world.drawn = m.world.drawn := by
  cases op with
  | new t =>
    simp only [timerOp] at h
    split at h
    · cases h; rfl
    · split at h
      · split at h
        · cases h
        · cases h; rfl
      · cases h
  | stop var => exact Kmw m var _ (fun k t => Kmv m k t 0 t.period) h
  | reset var a b =>
    simp only [timerOp] at h
    split at h
    · rename_i m1 e
      have e1 : m1.world.drawn = m.world.drawn := by
        unfold timerOp.opened at e
        split at e
        · split at e
          · cases e; rfl
          · cases e
        · cases e; rfl
      exact Kmw m var _ (fun k t => (Kmv m1 k t a b).trans e1) h
    · cases h
  | deadline ctx r w t =>
    simp only [timerOp] at h
    cases h; rfl
theorem Kmy (p : Program) (m : Machine) (i : Nat) (listen : Bool) : SWd m.world.drawn (Go.runT p m i listen).1 := by
  unfold Go.runT
  simp only
  generalize m.gs.swapAt! i _ = q
  obtain ⟨g, gs⟩ := q
  simp only
  have h := Kmr p (i == 0) g m.world listen
  revert h
  generalize stepG p (i == 0) g m.world listen = s
  intro h
  cases s with
  | ended o w es => trivial
  | comm g cases blocking shape w es => exact (Kmu p _ _ _ _ _ _ _ _).le h
  | go g w es => exact h
  | spawn g c w es => exact h
  | count g w es => exact SWd_ite trivial h
  | alone g on w es => exact h
  | collect g w es => exact (Kms _ _ _ _).le h
  | watch g w es => exact h
  | newcoro g c d w es => exact h
  | coroswitch g c ex w es =>
    have h : m.world.drawn ≤ w.drawn := h
    simp only
    repeat' split
    all_goals first
      | exact h
      | trivial
      | (rename_i e
         unfold endThrow dieOf at e
         cases e
         exact h)
  | timer g op w es =>
    have h : m.world.drawn ≤ w.drawn := h
    simp only
    split
    · rename_i e
      exact Nat.le_trans h (Nat.le_of_eq (Kmx _ _ e).symm)
    · exact h
    · trivial
    · trivial
def MW (d : Nat) : Move → Prop
  | .goroutine m _ => d ≤ m.world.drawn
  | .machine s _ => SWd d s
theorem MW_ite {d : Nat} {c : Prop} [Decidable c] {a b : Move} (h1 : c → MW d a) (h2 : ¬ c → MW d b) : MW d (if c then a else b) := by
  split
  · exact h1 ‹_›
  · exact h2 ‹_›
theorem Kmz (p : Program) (m : Machine) : MW m.world.drawn (askOn p m) := by
  have pick : ∀ (rs : List Nat) (m0 : Machine), m.world.drawn ≤ m0.world.drawn → MW m.world.drawn (match (choose (.sched rs.length)).run p m0.world with
      | .halt _ w => Move.machine (.ended (.stuck "sched" "") w)
      | .ok k world =>
        if rs.length ≤ 1 then .goroutine { m0 with world } (rs.getD k 0) else
        match (choose (.extern "sched.slice" 65536)).run p world with
        | .halt _ w => .machine (.ended (.stuck "sched.slice" "") w)
        | .ok n world => .goroutine { m0 with world, rest := { m0.rest with slice := if n = 0 then none else some (rs.getD k 0, n) } } (rs.getD k 0)) := by
    intro rs m0 h0
    have h1 := Kmd p (choose (.sched rs.length)) m0.world
    generalize (choose (.sched rs.length)).run p m0.world = r1 at h1
    cases r1 with
    | halt x w => trivial
    | ok k w =>
      have h1 : m0.world.drawn ≤ w.drawn := h1
      refine MW_ite (fun _ => Nat.le_trans h0 h1) fun _ => ?_
      have h2 := Kmd p (choose (.extern "sched.slice" 65536)) w
      generalize (choose (.extern "sched.slice" 65536)).run p w = r2 at h2
      cases r2 with
      | halt x w => trivial
      | ok n w2 => exact Nat.le_trans h0 (Nat.le_trans h1 h2)
  unfold askOn
  simp only
  generalize e1 : (Sem.run p _ m.world) = r1
  have h1 := Kmd p _ m.world |> (fun h => by rw [e1] at h; exact h)
  clear e1
  cases r1 with
  | halt x w => trivial
  | ok k w =>
    have h1 : m.world.drawn ≤ w.drawn := h1
    refine MW_ite (fun _ => (Kmt p { m with world := w } _).le h1) fun _ => ?_
    split
    · split
      · exact h1
      · refine MW_ite (fun _ => h1) fun _ => ?_
        split <;> trivial
    · split
      · exact pick _ { m with world := w } h1
      · generalize e2 : (Sem.run p _ w) = r2
        have h2 := Kmd p _ w |> (fun h => by rw [e2] at h; exact h)
        clear e2
        split
        · trivial
        · rename_i w2
          have h2 : w.drawn ≤ w2.drawn := h2
          exact pick _ { m with world := w2 } (Nat.le_trans h1 h2)
        · exact Nat.le_trans h1 (show w.drawn ≤ World.drawn _ from ‹RDr w.drawn (Result.ok 1 _)›)
        · rename_i w2
          have h2 : w.drawn ≤ w2.drawn := h2
          exact pick _ (Machine.advanceTo { m with world := w2 } _) (Nat.le_trans h1 h2)
theorem Kna (p : Program) (m : Machine) : MW m.world.drawn (ask p m) := by
  unfold ask
  refine MW_ite (fun _ => ?_) fun _ => Kmz p m
  generalize e1 : (Sem.run p _ m.world) = r1
  have h1 := Kmd p _ m.world |> (fun h => by rw [e1] at h; exact h)
  clear e1
  split
  · trivial
  · rename_i w
    have h1 : m.world.drawn ≤ w.drawn := h1
    have h2 := Kms p m.gs m.rest w
    revert h2
    generalize look p m.gs m.rest w = s
    intro h2
    cases s with
    | next m2 =>
      have h3 : m.world.drawn ≤ m2.world.drawn := Nat.le_trans h1 h2
      have h4 := Kmz p m2
      simp only
      revert h4
      generalize askOn p m2 = mv
      intro h4
      cases mv with
      | goroutine m3 i => exact Nat.le_trans h3 h4
      | machine s ops => exact SWd.le h4 h3
    | ended o w => trivial
  · rename_i w _
    have h1 : m.world.drawn ≤ w.drawn := h1
    have h4 := Kmz p { m with world := w }
    revert h4
    generalize askOn p { m with world := w } = mv
    intro h4
    cases mv with
    | goroutine m3 i => exact Nat.le_trans h1 h4
    | machine s ops => exact SWd.le h4 h1
theorem Knb (p : Program) (m : Machine) : MW m.world.drawn (move p m) := by
  unfold move
  split
  · exact MW_ite (fun _ => Nat.le_refl _) fun _ => trivial
  · split
    · exact MW_ite (fun _ => Nat.le_refl _) fun _ => Kna p { m with rest := { m.rest with slice := none } }
    · exact Kna p m
theorem Knc (p : Program) (m : Machine) : SWd m.world.drawn (step p m) := by
  have h := Knb p m
  unfold step stepT
  revert h
  generalize move p m = mv
  intro h
  cases mv with
  | goroutine m2 i => exact (Kmy p m2 i true).le h
  | machine s ops => exact h
theorem Knd (p : Program) : ∀ (n : Nat) (m m' : Machine), runN p n m = .next m' → m.world.drawn ≤ m'.world.drawn
  | 0, m, m', h => by simp only [runN] at h; cases h; exact Nat.le_refl _
  | n + 1, m, m', h => by
    simp only [runN] at h
    have hs := Knc p m
    revert h hs
    generalize step p m = s
    intro h hs
    cases s with
    | next m1 => exact Nat.le_trans hs (Knd p n m1 m' h)
    | ended o w => cases h
/-- A call that comes back draws no fewer. -/
theorem Kne {P : Program} {f : FuncId} {vs : Array Value} {w : World} {R : Ending → World → Prop} (h : Calls P f vs w R) (hR : ∀ e w', R e w' → ∃ v, e = .returned v) : Calls P f vs w fun e w' => R e w' ∧ w.drawn ≤ w'.drawn := by
  intro cs
  obtain ⟨e, w', fr, h1, h2, h3⟩ := h cs
  obtain ⟨v, rfl⟩ := hR e w' h1
  have h4 : Steps P _ _ := h2
  obtain ⟨n, hn⟩ := h4
  exact ⟨_, w', fr, ⟨h1, Knd P n _ _ hn⟩, h2, h3⟩
end Go.Gk
