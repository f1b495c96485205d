/-
  THE GHOST LOGIC, PART 11: the types' table; what a function hands back; strings; division.
-/
import Derived.Test.YtpgnhnjhpnbelaaGreatDoorGk10
set_option linter.unusedVariables false
set_option linter.unusedSimpArgs false
namespace Go.Gk

def look : List (Nat × TI) → TypeId → Option TI
  | [], _ => none
  | (k, i) :: r, t => bif Nat.beq k t then some i else look r t
def AllOK (P : Program) : List (Nat × TI) → Prop
  | [] => True
  | (t, i) :: r => (P.underlying t = some i.desc ∧ ∃ inf, P.types[t]? = some inf ∧ inf.size = i.size ∧ inf.bytes = i.bytes ∧ inf.zero = some i.zero) ∧ AllOK P r
theorem look_ok {P : Program} : ∀ (l : List (Nat × TI)), AllOK P l → TOK P (look l)
  | [], _, t, i, h => by cases h
  | (k, i0) :: r, ha, t, i, h => by
    simp only [look] at h
    cases hk : Nat.beq k t with
    | true =>
      rw [hk] at h
      have := Nat.eq_of_beq_eq_true hk
      subst this
      cases h
      obtain ⟨h1, inf, h2, h3⟩ := ha.1
      exact ⟨h1, inf, by unfold Tables.info?; rw [if_pos (Array.getElem?_eq_some_iff.1 h2).1]; exact h2, h3⟩
    | false => rw [hk] at h; exact look_ok r ha.2 t i h

section
variable {P : Program} {Γ : TypeId → Option TI} {F N : Nat} {fr : Fr} {hp : List Ob} {g : G} {Q : GPost} {ops : Array Oper} {rest : List Oper}
variable {d : Tmp} {ty : TypeId} {pos : String} {after : Array Edge} {fn : Func}

/-- What a result's variable holds. -/
def resG (Γ : TypeId → Option TI) (fr : Fr) (hp : List Ob) : ResultVar → Option G
  | .tmp t => fr.get t
  | .cell a t => match fr.get a, Γ t with
    | some (.ptr id off), some i => match hp[id]? with
      | some (.box _ gs) => loadG i gs off
      | _ => none
    | _, _ => none
def resAll (Γ : TypeId → Option TI) (fr : Fr) (hp : List Ob) : List ResultVar → Option (List G)
  | [] => some []
  | r :: l => match resG Γ fr hp r, resAll Γ fr hp l with
    | some g, some gs => some (g :: gs)
    | _, _ => none
def retG : List G → G
  | [g] => g
  | gs => .tup gs

def resRun (tmps : Array Value) : ResultVar → Sem Value
  | .tmp t => pure (tmps.getD t undef)
  | .cell a t => do loadVar t (← asAddr (tmps.getD a undef))

theorem resAll_ok (hΓ : TOK P Γ) {Z : Env} {M : Mp} {w : World} {a : Act} (hr : Rel Z hp M w fr a N) : ∀ (l : List ResultVar) {gs : List G}, resAll Γ fr hp l = some gs →
    ∃ vs : List Value, (l.mapM (resRun a.tmps)).run P w = .ok vs w ∧ vs.length = gs.length ∧ ∀ (j : Nat) (g : G) (v : Value), gs[j]? = some g → vs[j]? = some v → VR w (ownZ Z hp M) M g v
  | [], gs, h => by simp [resAll] at h; subst h; exact ⟨[], rfl, rfl, fun j g v h => by simp at h⟩
  | r :: l, gs, h => by
    simp only [resAll] at h
    cases h1 : resG Γ fr hp r with
    | none => rw [h1] at h; simp at h
    | some g0 =>
      cases h2 : resAll Γ fr hp l with
      | none => rw [h1, h2] at h; simp at h
      | some gs0 =>
        rw [h1, h2] at h
        cases h
        obtain ⟨vs, r1, r2, r3⟩ := resAll_ok hΓ hr l h2
        have key : ∃ v, (resRun a.tmps r).run P w = .ok v w ∧ VR w (ownZ Z hp M) M g0 v := by
          cases r with
          | tmp t =>
            obtain ⟨v, hv, hvr⟩ := hr.fr t g0 h1
            exact ⟨v, by simp [resRun, hv], hvr⟩
          | cell x t =>
            simp only [resG] at h1
            split at h1
            · rename_i id off i hx hi
              obtain ⟨v, hv, hvr⟩ := hr.fr x _ hx
              cases hvr with
              | ptr hM =>
                rename_i b c
                split at h1
                · rename_i tb gs' ho
                  obtain ⟨u, e1, e2⟩ := loadG_of (hp := hp) hΓ hi rfl (hr.heap.obj id _ _ ho hM) (.inl ⟨_, rfl⟩) h1
                  exact ⟨u, by simp [resRun, hv, asAddr, e1], e2⟩
                · cases h1
            · cases h1
        obtain ⟨v, k1, k2⟩ := key
        refine ⟨v :: vs, by rw [List.mapM_cons]; simp [k1, r1], by simp [r2], fun j g v' hg hv' => ?_⟩
        cases j with
        | zero => simp at hg hv'; subst hg; subst hv'; exact k2
        | succ j => exact r3 j g v' (by simpa using hg) (by simpa using hv')

/-- THE RESULTS, by computing. -/
theorem res_all (hΓ : TOK P Γ) {gs : List G} (h : resAll Γ fr hp fn.results.toList = some gs) (hg : g = retG gs) : Res P fn fr hp g := by
  intro Z M w a N hr
  obtain ⟨vs, r1, r2, r3⟩ := resAll_ok hΓ hr _ h
  have hrun : (results fn a.tmps).run P w = .ok (if h : vs.toArray.size = 1 then vs.toArray[0] else .tuple vs.toArray) w := by
    have e : results fn a.tmps = (fn.results.mapM (resRun a.tmps) >>= fun vs => pure (if h : vs.size = 1 then vs[0] else .tuple vs)) := by
      unfold results
      congr 1
    rw [e, Array.mapM_eq_mapM_toList]
    simp [r1]
  refine ⟨_, hrun, ?_⟩
  subst hg
  match gs, r2, r3 with
  | [g], r2, r3 =>
    match vs, r2, r3 with
    | [v], _, r3 => exact r3 0 g v rfl rfl
  | [], r2, r3 =>
    match vs, r2 with
    | [], _ => exact .tup rfl fun j g v h => by simp at h
  | g1 :: g2 :: gs, r2, r3 =>
    have : vs.toArray.size ≠ 1 := by simp at r2 ⊢; omega
    rw [dif_neg this]
    exact .tup (by simpa using r2) fun j g v hg hv => r3 j g v hg (by simpa using hv)

/-- A quotient, a remainder. -/
theorem eo_quo {t t' : TypeId} {x y : Operand} {k : IntKind} {m n : Int} (hx : fr.ev x = some (.d (.v (.int k m)))) (hy : fr.ev y = some (.d (.v (.int k n)))) (hn : n ≠ 0) (hd : Nat.blt d N = true)
    (kk : EO P F N ops rest Q ((d, .d (.v (.int k (k.wrap (m.tdiv n))))) :: fr) hp) : EO P F N ops (⟨some d, .binOp .quo t x y t', ty, pos, after, none⟩ :: rest) Q fr hp := by
  refine eo_p hd (fun Z w M a hr => ⟨_, ?_, .d (.v _ rfl)⟩) kk
  simp [execOp, hr.ev_v hx, hr.ev_v hy, eqGuard, binOp, Op.intDiv, hn]
theorem eo_rem {t t' : TypeId} {x y : Operand} {k : IntKind} {m n : Int} (hx : fr.ev x = some (.d (.v (.int k m)))) (hy : fr.ev y = some (.d (.v (.int k n)))) (hn : n ≠ 0) (hd : Nat.blt d N = true)
    (kk : EO P F N ops rest Q ((d, .d (.v (.int k (m.tmod n)))) :: fr) hp) : EO P F N ops (⟨some d, .binOp .rem t x y t', ty, pos, after, none⟩ :: rest) Q fr hp := by
  refine eo_p hd (fun Z w M a hr => ⟨_, ?_, .d (.v _ rfl)⟩) kk
  simp [execOp, hr.ev_v hx, hr.ev_v hy, eqGuard, binOp, Op.intDiv, hn]

/-- Two strings, put together. -/
theorem eo_cat {t t' : TypeId} {x y : Operand} {l m : List UInt8} (hx : fr.ev x = some (S l)) (hy : fr.ev y = some (S m)) (hn : l.length + m.length ≤ 9223372036854775807) (hd : Nat.blt d N = true)
    (kk : EO P F N ops rest Q ((d, S (l ++ m)) :: fr) hp) : EO P F N ops (⟨some d, .binOp .add t x y t', ty, pos, after, none⟩ :: rest) Q fr hp := by
  refine eo_p hd (fun Z w M a hr => ⟨_, ?_, .d (.v _ rfl)⟩) kk
  have e1 : ((⟨l.toArray⟩ : ByteArray).size : Nat) = l.length := by show l.toArray.size = _; simp
  have e2 : ((⟨m.toArray⟩ : ByteArray).size : Nat) = m.length := by show m.toArray.size = _; simp
  have hn' : ¬ (((⟨l.toArray⟩ : ByteArray).size + (⟨m.toArray⟩ : ByteArray).size : Nat) : Int) > IntKind.i64.max := by
    rw [e1, e2]
    have : IntKind.i64.max = 9223372036854775807 := by decide
    rw [this]; omega
  have e3 : (⟨l.toArray⟩ : ByteArray) ++ (⟨m.toArray⟩ : ByteArray) = ⟨(l ++ m).toArray⟩ := by
    apply ByteArray.ext
    simp [ByteArray.data_append]
  simp only [execOp, hr.ev_v hx, hr.ev_v hy, eqGuard, binOp, Op.stringOp]
  rw [if_neg hn', e3]
  rfl
end
end Go.Gk
