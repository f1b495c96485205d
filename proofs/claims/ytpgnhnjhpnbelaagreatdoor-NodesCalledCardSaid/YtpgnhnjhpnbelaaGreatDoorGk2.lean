/-
  THE GHOST LOGIC, PART 2: operations.
-/
import Derived.Test.YtpgnhnjhpnbelaaGreatDoorGk1
set_option linter.unusedVariables false
namespace Go.Gk

structure TI where
  desc : TypeDesc
  size : Nat
  bytes : Nat
  zero : Value

/-- The table that the steps look into holds what the program's holds. -/
def TOK (P : Program) (Γ : TypeId → Option TI) : Prop :=
  ∀ t i, Γ t = some i → P.underlying t = some i.desc ∧ ∃ inf, P.info? t = some inf ∧ inf.size = i.size ∧ inf.bytes = i.bytes ∧ inf.zero = some i.zero

/-- A cell by itself: a nil slice reads as empty data. -/
def nilD : Value → D
  | .slice none 0 0 => .ro 0 []
  | x => .v x
theorem vd_nilD {w O} (x : Value) (h : x.oneCell' = true) : VD w O (nilD x) x := by
  unfold nilD
  split
  · exact .nil
  · exact .v _ h
def constG : Value → Option G
  | .agg cs => bif cs.toList.all (·.oneCell') then some (.agg (cs.toList.map fun c => .d (nilD c))) else none
  | .slice none 0 0 => some (.d (.ro 0 []))
  | .tuple _ => none
  | .int k n => some (.d (.v (.int k n)))
  | .bool b => some (.d (.v (.bool b)))
  | .string b => some (.d (.v (.string b)))
  | x => some (.d (.v x))
def Fr.ev (fr : Fr) : Operand → Option G
  | .tmp t => fr.get t
  | .const x => constG x
  | .global g => some (.d (.v (.pointer (some ⟨g, 0, none⟩))))
  | .func f => some (.fn (.func f) [] [])

theorem vr_v {w O M} {a v : Value} (h : VR w O M (.d (.v a)) v) : v = a := by
  cases h with
  | d h => cases h; rfl

theorem vr_const {w O M} {c : Value} {g : G} (h : constG c = some g) : VR w O M g c := by
  unfold constG at h
  split at h
  · rename_i cs
    cases hb : cs.toList.all (·.oneCell') with
    | false => rw [hb] at h; cases h
    | true =>
      rw [hb] at h
      cases h
      refine .agg (by simp) fun j g v hg hv => ?_
      have hv' : cs.toList[j]? = some v := by simpa using hv
      rw [List.getElem?_map, hv'] at hg
      cases hg
      exact .d (vd_nilD v (List.all_eq_true.1 hb v (List.mem_of_getElem? hv')))
  · cases h; exact .d .nil
  · cases h
  · cases h; exact .d (.v _ rfl)
  · cases h; exact .d (.v _ rfl)
  · cases h; exact .d (.v _ rfl)
  · rename_i x h1 h2 h3 h4 h5 h6
    cases h
    refine .d (.v _ ?_)
    cases c <;> first | rfl | (exact absurd rfl (h1 _)) | (exact absurd rfl (h3 _))

section
variable {Z : Env} {hp : List Ob} {M : Mp} {w : World} {fr : Fr} {a : Act} {N : Nat}
theorem Rel.ev (h : Rel Z hp M w fr a N) {x : Operand} {g : G} (hx : fr.ev x = some g) : VR w (ownZ Z hp M) M g (a.eval x) := by
  cases x with
  | tmp t =>
    obtain ⟨v, hv, hr⟩ := h.fr t g hx
    have : a.eval (.tmp t) = v := by simp [Act.eval, hv]
    rw [this]; exact hr
  | const c => exact vr_const hx
  | global g' => cases hx; exact .d (.v _ rfl)
  | func f => cases hx; exact .fn rfl rfl (fun _ _ _ h _ => by simp at h) (fun _ _ _ h _ => by simp at h)
theorem Rel.ev_v (h : Rel Z hp M w fr a N) {x : Operand} {c : Value} (hx : fr.ev x = some (.d (.v c))) : a.eval x = c := vr_v (h.ev hx)

theorem Rel.put (h : Rel Z hp M w fr a N) {d : Tmp} {g : G} {v : Value} (hd : d < N) (hv : VR w (ownZ Z hp M) M g v) : Rel Z hp M w ((d, g) :: fr) (a.put (some d) v) N := by
  refine ⟨h.heap, fun t g' hg => ?_, by simp [Act.put, h.size], h.defers⟩
  simp only [Fr.get] at hg
  cases hk : Nat.beq d t with
  | true =>
    rw [hk] at hg
    have := Nat.eq_of_beq_eq_true hk
    subst this
    cases hg
    exact ⟨v, by simp [Act.put, h.size, hd], hv⟩
  | false =>
    rw [hk] at hg
    obtain ⟨v', h1, h2⟩ := h.fr t g' hg
    have hne : d ≠ t := fun e => by subst e; rw [Nat.beq_refl] at hk; cases hk
    exact ⟨v', by simp only [Act.put]; rw [Array.getElem?_setIfInBounds_ne hne]; exact h1, h2⟩

/-- The frame behind a step of the memory. -/
theorem Rel.later {hp' M' w'} (h : Rel Z hp M w fr a N) (hh : RelH Z hp' M' w') (hs : Stp w (own hp M) w' (own hp' M')) (hA : Agr hp.length M M') : Rel Z hp' M' w' fr a N :=
  ⟨hh, fun t g hg => let ⟨v, h1, h2⟩ := h.fr t g hg; ⟨v, h1, h2.step (stp_z Z hs) (fun i hi => hA.eq i (by rw [← h.heap.len]; exact hi))⟩, h.size, h.defers⟩
end

/-- AN OPERATION THAT YIELDS A VALUE. -/
def OpS (P : Program) (N : Nat) (o : Oper) (fr : Fr) (hp : List Ob) (g : G) (hp' : List Ob) : Prop :=
  ∀ Z w M a, Rel Z hp M w fr a N → ∃ v w' M', (execOp a.eval o).run P w = .ok (.value v) w' ∧ RelH Z hp' M' w' ∧ VR w' (ownZ Z hp' M') M' g v ∧ Stp w (own hp M) w' (own hp' M') ∧ Agr hp.length M M'
/-- AN OPERATION THAT YIELDS NOTHING. -/
def OpU (P : Program) (N : Nat) (o : Oper) (fr : Fr) (hp : List Ob) (hp' : List Ob) : Prop :=
  ∀ Z w M a, Rel Z hp M w fr a N → ∃ w' M', (execOp a.eval o).run P w = .ok .skip w' ∧ RelH Z hp' M' w' ∧ Stp w (own hp M) w' (own hp' M') ∧ Agr hp.length M M'
/-- AN OPERATION THAT ONLY COMPUTES OR READS. -/
def OpP (P : Program) (N : Nat) (o : Oper) (fr : Fr) (hp : List Ob) (g : G) : Prop :=
  ∀ Z w M a, Rel Z hp M w fr a N → ∃ v, (execOp a.eval o).run P w = .ok (.value v) w ∧ VR w (ownZ Z hp M) M g v

theorem OpP.s {P N o fr hp g} (h : OpP P N o fr hp g) : OpS P N o fr hp g hp := fun Z w M a hr =>
  let ⟨v, h1, h2⟩ := h Z w M a hr; ⟨v, w, M, h1, hr.heap, h2, .refl _ _, ⟨Nat.le_of_eq hr.heap.len.symm, fun _ _ => rfl⟩⟩

section
variable {P : Program} {F N : Nat} {ops : Array Oper} {rest : List Oper} {Q : GPost} {fr : Fr} {hp hp' : List Ob} {g : G}
variable {op : Op} {d : Tmp} {ty : TypeId} {pos : String} {after : Array Edge}

theorem eo_nil (h : Q .normal fr hp) : EO P F N ops [] Q fr hp := fun Z w0 O0 M0 w M a hs ha hr => wpList_nil ⟨fr, hp, M, h, hr, hs, ha⟩

theorem eo_s (hF : F ≤ hp.length) (hd : d < N) (ho : OpS P N ⟨some d, op, ty, pos, after, none⟩ fr hp g hp') (h : EO P F N ops rest Q ((d, g) :: fr) hp') :
    EO P F N ops (⟨some d, op, ty, pos, after, none⟩ :: rest) Q fr hp := by
  intro Z w0 O0 M0 w M a hs ha hr
  refine wpList_plain rfl fun K hK => ?_
  obtain ⟨v, w', M', hrun, h1, h2, h3, h4⟩ := ho Z w M a hr
  unfold Oper.wp
  rw [hrun, Oper.upon_value]
  exact hK _ _ (h Z w0 O0 M0 w' M' _ (hs.trans h3) (ha.trans h4 hF) ((hr.later h1 h3 h4).put hd h2))

theorem eo_p (hd : Nat.blt d N = true) (ho : OpP P N ⟨some d, op, ty, pos, after, none⟩ fr hp g) (h : EO P F N ops rest Q ((d, g) :: fr) hp) :
    EO P F N ops (⟨some d, op, ty, pos, after, none⟩ :: rest) Q fr hp := by
  intro Z w0 O0 M0 w M a hs ha hr
  refine wpList_plain rfl fun K hK => ?_
  obtain ⟨v, hrun, h2⟩ := ho Z w M a hr
  unfold Oper.wp
  rw [hrun, Oper.upon_value]
  exact hK _ _ (h Z w0 O0 M0 w M _ hs ha (hr.put (nblt.1 hd) h2))

theorem eo_u (hF : F ≤ hp.length) (ho : OpU P N ⟨none, op, ty, pos, after, none⟩ fr hp hp') (h : EO P F N ops rest Q fr hp') :
    EO P F N ops (⟨none, op, ty, pos, after, none⟩ :: rest) Q fr hp := by
  intro Z w0 O0 M0 w M a hs ha hr
  refine wpList_plain rfl fun K hK => ?_
  obtain ⟨w', M', hrun, h1, h3, h4⟩ := ho Z w M a hr
  unfold Oper.wp
  rw [hrun, Oper.upon_skip]
  exact hK _ _ (h Z w0 O0 M0 w' M' _ (hs.trans h3) (ha.trans h4 hF) (hr.later h1 h3 h4))

/-- What a guard says. -/
def Fr.guard (fr : Fr) (ops : Array Oper) (j : Nat) (want : Bool) : Option Bool :=
  match ((ops[j]?).bind (·.dst)).bind fr.get with
  | some (.d (.v (.bool b))) => some (b == want)
  | some (.tup []) => some false
  | _ => none

theorem guard_ok {Z M w a} (hr : Rel Z hp M w fr a N) {j : Nat} {want b : Bool} (h : fr.guard ops j want = some b) : (yielded ops a.tmps j == some want) = b := by
  unfold Fr.guard at h
  unfold yielded
  cases ht : (ops[j]?).bind (·.dst) with
  | none => rw [ht] at h; simp at h
  | some t =>
    rw [ht] at h
    simp only [Option.bind_some] at h ⊢
    cases hg : fr.get t with
    | none => rw [hg] at h; simp at h
    | some g =>
      obtain ⟨v, hv, hvr⟩ := hr.fr t g hg
      rw [hg] at h
      rw [hv]
      split at h
      · rename_i b' e
        cases e
        rw [vr_v hvr]
        simpa using h
      · rename_i e
        cases e
        cases hvr with
        | tup hl _ =>
          simpa using h
      · cases h

theorem eo_skip {j : Nat} {want : Bool} (hg : fr.guard ops j want = some false) (hd : Nat.blt d N = true) (h : EO P F N ops rest Q ((d, .tup []) :: fr) hp) :
    EO P F N ops (⟨some d, op, ty, pos, after, some (j, want)⟩ :: rest) Q fr hp := by
  intro Z w0 O0 M0 w M a hs ha hr
  have hw : Region.wanted ⟨some d, op, ty, pos, after, some (j, want)⟩ (yielded ops a.tmps) = false := guard_ok hr hg
  unfold wpList
  rw [hw]
  exact h Z w0 O0 M0 w M _ hs ha (hr.put (nblt.1 hd) (.tup rfl fun _ _ _ h _ => by simp at h))

/-- A guarded operation that is carried out. -/
theorem eo_guard {dst : Option Tmp} {j : Nat} {want : Bool} (hg : fr.guard ops j want = some true) (h : EO P F N ops (⟨dst, op, ty, pos, after, none⟩ :: rest) Q fr hp) :
    EO P F N ops (⟨dst, op, ty, pos, after, some (j, want)⟩ :: rest) Q fr hp := by
  intro Z w0 O0 M0 w M a hs ha hr
  have hw : Region.wanted ⟨dst, op, ty, pos, after, some (j, want)⟩ (yielded ops a.tmps) = true := guard_ok hr hg
  have := h Z w0 O0 M0 w M a hs ha hr
  unfold wpList at this ⊢
  rw [hw]
  exact this

/-- A Bool that guards is parted on. -/
theorem eo_split (t : Tmp) {b : Bool} {l : List Oper} (hb : fr.get t = some (.d (.v (.bool b)))) (h1 : b = true → EO P F N ops l Q ((t, .d (.v (.bool true))) :: fr) hp) (h2 : b = false → EO P F N ops l Q ((t, .d (.v (.bool false))) :: fr) hp) :
    EO P F N ops l Q fr hp := by
  intro Z w0 O0 M0 w M a hs ha hr
  have key : ∀ c, b = c → Rel Z hp M w ((t, .d (.v (.bool c))) :: fr) a N := by
    rintro c rfl
    refine ⟨hr.heap, fun t' g hg => ?_, hr.size, hr.defers⟩
    simp only [Fr.get] at hg
    cases hk : Nat.beq t t' with
    | true => rw [hk] at hg; have := Nat.eq_of_beq_eq_true hk; subst this; cases hg; exact hr.fr t _ hb
    | false => rw [hk] at hg; exact hr.fr t' g hg
  cases b
  · exact h2 rfl Z w0 O0 M0 w M a hs ha (key false rfl)
  · exact h1 rfl Z w0 O0 M0 w M a hs ha (key true rfl)

theorem eo_gsplit {dst : Option Tmp} {j : Nat} {want : Bool} {t : Tmp} {b : Bool} (hj : (ops[j]?).bind (·.dst) = some t) (hb : fr.get t = some (.d (.v (.bool b))))
    (h1 : b = true → EO P F N ops (⟨dst, op, ty, pos, after, some (j, want)⟩ :: rest) Q ((t, .d (.v (.bool true))) :: fr) hp) (h2 : b = false → EO P F N ops (⟨dst, op, ty, pos, after, some (j, want)⟩ :: rest) Q ((t, .d (.v (.bool false))) :: fr) hp) :
    EO P F N ops (⟨dst, op, ty, pos, after, some (j, want)⟩ :: rest) Q fr hp := eo_split t hb h1 h2

theorem ew_region {id : Nat} {l : List Oper} (h : EO P F N l.toArray l Q fr hp) : EW P F N (.region id l.toArray false) Q fr hp :=
  fun Z w0 O0 M0 w M a hs ha hr => wp_region_lit (h Z w0 O0 M0 w M a hs ha hr)
end
end Go.Gk
