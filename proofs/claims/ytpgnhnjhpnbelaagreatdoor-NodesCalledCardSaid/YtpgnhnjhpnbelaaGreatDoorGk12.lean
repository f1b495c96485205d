/-
  THE GHOST LOGIC, PART 12: parts of strings and of slices; functions without a body; rules for elements inside regions that draw.
-/
import Derived.Test.YtpgnhnjhpnbelaaGreatDoorGk11
set_option linter.unusedVariables false
set_option linter.unusedSimpArgs false
namespace Go.Gk

section
variable {P : Program} {Γ : TypeId → Option TI} {F N : Nat} {fr : Fr} {hp : List Ob} {g : G} {Q : GPost} {ops : Array Oper} {rest : List Oper}
variable {d : Tmp} {ty : TypeId} {pos : String} {after : Array Edge} {gd : Option (Nat × Bool)}

/-- A bound of a part: told, or not. -/
def Fr.bound (fr : Fr) : Option Operand → Int → Option Int
  | none, k => some k
  | some x, _ => match fr.ev x with
    | some (.d (.v (.int _ n))) => some n
    | _ => none

theorem run_bounds {w : World} {a : Act} {Z M} (hr : Rel Z hp M w fr a N) {lo hi : Option Operand} {b : Bool} {l h len cap : Nat} (hlo : fr.bound lo 0 = some (l : Int)) (hhi : fr.bound hi len = some (h : Int)) (h1 : l ≤ h) (h2 : h ≤ cap) :
    (Instr.sliceBounds b len cap (lo.map a.eval) (hi.map a.eval) none).run P w = .ok (l, h, cap) w := by
  have b1 : ∀ (x : Operand) (n : Int) (y : Nat) (k : Nat) (code : BoundsCode), fr.bound (some x) n = some (k : Int) → k ≤ y → (Instr.sliceBound (a.eval x) y code).run P w = .ok k w := fun x n y k code hx hk => by
    simp only [Fr.bound] at hx
    split at hx
    · rename_i kd n' e
      cases hx
      rw [hr.ev_v e, run_sliceBound w kd (k : Int) y code (by omega) (by omega)]
      simp
    · cases hx
  cases lo with
  | none =>
    simp only [Fr.bound] at hlo
    have : l = 0 := by have := Option.some.inj hlo; omega
    subst this
    cases hi with
    | none =>
      simp only [Fr.bound] at hhi
      have : len = h := by have := Option.some.inj hhi; omega
      subst this
      simp [Instr.sliceBounds]
    | some y => simp [Instr.sliceBounds, b1 y _ _ _ _ hhi h2]
  | some x =>
    cases hi with
    | none =>
      simp only [Fr.bound] at hhi
      have : len = h := by have := Option.some.inj hhi; omega
      subst this
      simp [Instr.sliceBounds, b1 x _ _ _ _ hlo h1]
    | some y => simp [Instr.sliceBounds, b1 y _ _ _ _ hhi h2, b1 x _ _ _ _ hlo h1]

theorem extract_list (l : List UInt8) (i j : Nat) : (⟨l.toArray⟩ : ByteArray).extract i j = ⟨((l.take j).drop i).toArray⟩ := by
  apply ByteArray.ext
  rw [ByteArray.data_extract]
  apply Array.ext'
  simp [List.drop_take]

theorem op_sub (hΓ : TOK P Γ) {t : TypeId} {i1 : TI} {x : Operand} {lo hi : Option Operand} {s : List UInt8} (l h : Nat) (h1 : Γ t = some i1) (h1' : i1.desc = .string) (hx : fr.ev x = some (S s)) (hlo : fr.bound lo 0 = some (l : Int)) (hhi : fr.bound hi s.length = some (h : Int)) (hl : l ≤ h) (hh : h ≤ s.length) :
    OpP P N ⟨some d, .slice t x lo hi none, ty, pos, after, gd⟩ fr hp (S ((s.take h).drop l)) := fun Z w M a hr => by
  obtain ⟨u1, _⟩ := hΓ t _ h1
  rw [h1'] at u1
  have hsz : (⟨s.toArray⟩ : ByteArray).size = s.length := by show s.toArray.size = _; simp
  have hb := run_bounds (P := P) hr (b := false) hlo hhi hl hh
  refine ⟨_, ?_, .d (.v _ rfl)⟩
  simp only [execOp, hr.ev_v hx, Option.map_none]
  simp only [Instr.sliceAt, run_underlying u1, Sem.run_bind, Result.andThen_ok]
  simp only [Instr.slice, run_underlying u1, Sem.run_bind, Result.andThen_ok, hsz]
  simp [hb, extract_list]
theorem eo_sub (hΓ : TOK P Γ) {t : TypeId} {i1 : TI} {x : Operand} {lo hi : Option Operand} {s : List UInt8} (l h : Nat) (h1 : Γ t = some i1) (h1' : i1.desc = .string) (hx : fr.ev x = some (S s)) (hlo : fr.bound lo 0 = some (l : Int)) (hhi : fr.bound hi s.length = some (h : Int)) (hl : l ≤ h) (hh : h ≤ s.length)
    (hd : Nat.blt d N = true) (k : EO P F N ops rest Q ((d, S ((s.take h).drop l)) :: fr) hp) : EO P F N ops (⟨some d, .slice t x lo hi none, ty, pos, after, none⟩ :: rest) Q fr hp :=
  eo_p hd (op_sub hΓ l h h1 h1' hx hlo hhi hl hh) k

/-- A part of a slice that is only read. -/
theorem op_subRo (hΓ : TOK P Γ) {t e : TypeId} {i1 i2 : TI} {x : Operand} {lo hi : Option Operand} {n : Nat} {xs : List D} (l h : Nat) (h1 : Γ t = some i1) (h1' : i1.desc = .slice e) (h2 : Γ e = some i2) (hx : fr.ev x = some (.d (.ro n xs))) (hlo : fr.bound lo 0 = some (l : Int)) (hhi : fr.bound hi n = some (h : Int)) (hl : l ≤ h) (hh : h ≤ n) (hn : xs.length = n * i2.size) :
    OpP P N ⟨some d, .slice t x lo hi none, ty, pos, after, gd⟩ fr hp (.d (.ro (h - l) ((xs.take (h * i2.size)).drop (l * i2.size)))) := fun Z w M a hr => by
  obtain ⟨u1, _⟩ := hΓ t _ h1
  rw [h1'] at u1
  have hs := run_size' (P := P) (w := w) hΓ h2
  have hvx := hr.ev hx
  simp only [execOp, Option.map_none]
  generalize a.eval x = vx at hvx
  cases hvx with
  | d hd =>
    cases hd with
    | nil =>
      have hl0 : l = 0 := by omega
      have hh0 : h = 0 := by omega
      subst hl0; subst hh0
      have hb := run_bounds (P := P) (w := w) hr (b := true) (len := 0) (cap := 0) hlo hhi (Nat.le_refl _) (Nat.le_refl _)
      refine ⟨.slice none 0 0, ?_, by simpa using VR.d VD.nil⟩
      simp [Instr.sliceAt, Instr.slice, run_underlying u1, hb, hs]
    | ro _ _ b off cap vs hb0 hO hnc hm hc hv =>
      have hb := run_bounds (P := P) (w := w) hr (b := true) (len := n) (cap := cap) hlo hhi hl (by omega)
      have hget : ∀ (j : Nat) (dd : D), ((xs.take (h * i2.size)).drop (l * i2.size))[j]? = some dd → xs[l * i2.size + j]? = some dd := fun j dd hj => by
        rw [List.getElem?_drop, List.getElem?_take] at hj
        split at hj
        · exact hj
        · cases hj
      by_cases hcl : cap = l
      · have hnil : (xs.take (h * i2.size)).drop (l * i2.size) = [] := by
          have : h = l := by omega
          subst this
          apply List.eq_nil_of_length_eq_zero
          simp
        rw [hnil]
        subst hcl
        refine ⟨.slice (some ⟨b, off, none⟩) (h - cap) (cap - cap), by simp [Instr.sliceAt, Instr.slice, run_underlying u1, hb, hs], .d ?_⟩
        exact .ro (h - cap) [] b off (cap - cap) vs hb0 hO (by omega) (by omega) (fun j d hj => by simp at hj) (fun j d hj => by simp at hj)
      · refine ⟨.slice (some ⟨b, off + l * i2.size, none⟩) (h - l) (cap - l), by simp [Instr.sliceAt, Instr.slice, run_underlying u1, hb, hs, hcl, Addr.add_lit], .d ?_⟩
        refine .ro (h - l) _ b (off + l * i2.size) (cap - l) (fun j => vs (l * i2.size + j)) hb0 hO (by omega) (by omega) (fun j dd hj => ?_) (fun j dd hj => hv _ _ (hget j dd hj))
        rw [Nat.add_assoc]
        exact hc _ _ (hget j dd hj)
theorem eo_subRo (hΓ : TOK P Γ) {t e : TypeId} {i1 i2 : TI} {x : Operand} {lo hi : Option Operand} {n : Nat} {xs : List D} (l h : Nat) (h1 : Γ t = some i1) (h1' : i1.desc = .slice e) (h2 : Γ e = some i2) (hx : fr.ev x = some (.d (.ro n xs))) (hlo : fr.bound lo 0 = some (l : Int)) (hhi : fr.bound hi n = some (h : Int)) (hl : l ≤ h) (hh : h ≤ n) (hn : xs.length = n * i2.size)
    (hd : Nat.blt d N = true) (k : EO P F N ops rest Q ((d, .d (.ro (h - l) ((xs.take (h * i2.size)).drop (l * i2.size)))) :: fr) hp) : EO P F N ops (⟨some d, .slice t x lo hi none, ty, pos, after, none⟩ :: rest) Q fr hp :=
  eo_p hd (op_subRo hΓ l h h1 h1' h2 hx hlo hhi hl hh hn) k

/-- The first part of a row of one's own. -/
theorem eo_subRow (hΓ : TOK P Γ) {t e : TypeId} {i1 i2 : TI} {x : Operand} {lo hi : Option Operand} {n id : Nat} (h : Nat) (h1 : Γ t = some i1) (h1' : i1.desc = .slice e) (h2 : Γ e = some i2) (hx : fr.ev x = some (.sl id n)) (hlo : fr.bound lo 0 = some (0 : Int)) (hhi : fr.bound hi n = some (h : Int)) (hh : h ≤ n)
    (hd : Nat.blt d N = true) (k : EO P F N ops rest Q ((d, .sl id h) :: fr) hp) : EO P F N ops (⟨some d, .slice t x lo hi none, ty, pos, after, none⟩ :: rest) Q fr hp := by
  refine eo_p hd (fun Z w M a hr => ?_) k
  obtain ⟨u1, _⟩ := hΓ t _ h1
  rw [h1'] at u1
  have hs := run_size' (P := P) (w := w) hΓ h2
  have hvx := hr.ev hx
  simp only [execOp, Option.map_none]
  generalize a.eval x = vx at hvx
  cases hvx with
  | slnil hM =>
    have hh0 : h = 0 := by omega
    subst hh0
    have hb := run_bounds (P := P) (w := w) hr (b := true) (l := 0) (len := 0) (cap := 0) hlo hhi (Nat.le_refl _) (Nat.le_refl _)
    exact ⟨.slice none 0 0, by simp [Instr.sliceAt, Instr.slice, run_underlying u1, hb, hs], .slnil hM⟩
  | sl hM hn hm =>
    rename_i b c
    have hb := run_bounds (P := P) (w := w) hr (b := true) (l := 0) (len := n) (cap := c) hlo hhi (Nat.zero_le _) (by omega)
    refine ⟨.slice (some ⟨b, 0, none⟩) h c, ?_, .sl hM (by omega) hm⟩
    by_cases hc : c = 0
    · subst hc; simp [Instr.sliceAt, Instr.slice, run_underlying u1, hb, hs]
    · simp [Instr.sliceAt, Instr.slice, run_underlying u1, hb, hs, hc, Addr.add_lit]

/-! ### Functions without a body -/
/-- What a function without a body yields, at plain values, in every world. -/
def Ext (P : Program) (f : FuncId) (vs : List Value) (r : Value) : Prop := ∀ w, (callFunc f vs.toArray).run P w = .ok (.value r) w

theorem ext_of {f : FuncId} {fn : Func} {e : Array Value → Sem Value} {vs : List Value} {r : Value} (hf : P.funcs[f]? = some fn) (hn : (fn.name == "runtime.NumGoroutine") = false) (hb : fn.body.isNone = true) (hx : Extern.findNext fn = none) (he : Extern.find fn = some e) (hr : ∀ w, (e vs.toArray).run P w = .ok r w) : Ext P f vs r := fun w => by
  have hn' : fn.name ≠ "runtime.NumGoroutine" := beq_eq_false_iff_ne.1 hn
  have hb' : fn.body = none := by cases h : fn.body with
    | none => rfl
    | some c => rw [h] at hb; cases hb
  simp [callFunc, hf, hn', hb', hx, he, hr]

def plainV : List G → Option (List Value)
  | [] => some []
  | .d (.v x) :: r => match plainV r with
    | some l => some (x :: l)
    | none => none
  | _ => none

theorem plainV_ok {Z : Env} {M : Mp} {w : World} {a : Act} (hr : Rel Z hp M w fr a N) : ∀ (l : List Operand) {gs : List G} {vs : List Value}, l.mapM fr.ev = some gs → plainV gs = some vs → l.map a.eval = vs
  | [], gs, vs, h, h' => by simp at h; subst h; simp [plainV] at h'; subst h'; rfl
  | x :: l, gs, vs, h, h' => by
    rw [List.mapM_cons] at h
    cases hx : fr.ev x with
    | none => rw [hx] at h; simp at h
    | some g0 =>
      cases hl : l.mapM fr.ev with
      | none => rw [hx, hl] at h; simp at h
      | some gs0 =>
        rw [hx, hl] at h
        simp at h
        subst h
        cases g0 with
        | d x0 =>
          cases x0 with
          | v c =>
            simp only [plainV] at h'
            cases hp0 : plainV gs0 with
            | none => rw [hp0] at h'; cases h'
            | some vs0 =>
              rw [hp0] at h'
              cases h'
              simp [hr.ev_v hx, plainV_ok hr l hl hp0]
          | ro _ _ => simp [plainV] at h'
        | _ => simp [plainV] at h'

theorem op_ext {fop : Operand} {args : Array Operand} {ts : Array TypeId} {f : FuncId} {gs : List G} {vs : List Value} {r : Value} (hf : fr.ev fop = some (.fn (.func f) [] [])) (ha : args.toList.mapM fr.ev = some gs) (hv : plainV gs = some vs) (he : Ext P f vs r) (h1 : r.oneCell' = true) :
    OpP P N ⟨some d, .call ⟨.value fop, args, ts⟩, ty, pos, after, gd⟩ fr hp (.d (.v r)) := fun Z w M a hr => by
  have hvf := hr.ev hf
  have hav : args.map a.eval = vs.toArray := by
    have := plainV_ok hr _ ha hv
    apply Array.ext'
    simpa using this
  simp only [execOp, resolve]
  generalize a.eval fop = vf at hvf
  cases hvf with
  | fn l1 l2 r1 r2 =>
    rename_i v1 v2
    have e1 : v1 = #[] := Array.eq_empty_of_size_eq_zero (by simpa using l1)
    have e2 : v2 = #[] := Array.eq_empty_of_size_eq_zero (by simpa using l2)
    subst e1; subst e2
    exact ⟨r, by simp [Deferred.ofValue, invoke, hav, he w], .d (.v r h1)⟩
theorem eo_ext {fop : Operand} {args : Array Operand} {ts : Array TypeId} {f : FuncId} {gs : List G} {vs : List Value} {r : Value} (hd : Nat.blt d N = true) (hf : fr.ev fop = some (.fn (.func f) [] [])) (ha : args.toList.mapM fr.ev = some gs) (hv : plainV gs = some vs) (he : Ext P f vs r) (h1 : r.oneCell' = true)
    (k : EO P F N ops rest Q ((d, .d (.v r)) :: fr) hp) : EO P F N ops (⟨some d, .call ⟨.value fop, args, ts⟩, ty, pos, after, none⟩ :: rest) Q fr hp := eo_p hd (op_ext hf ha hv he h1) k
end
end Go.Gk
