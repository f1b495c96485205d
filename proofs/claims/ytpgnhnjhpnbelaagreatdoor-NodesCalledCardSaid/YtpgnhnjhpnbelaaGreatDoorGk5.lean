/-
  THE GHOST LOGIC, PART 5: the rules for calls.
-/
import Derived.Test.YtpgnhnjhpnbelaaGreatDoorGk4
set_option linter.unusedVariables false
set_option linter.unusedSimpArgs false
namespace Go.Gk

def Callable (P : Program) (f : FuncId) : Prop := ∃ fn, P.funcs[f]? = some fn ∧ fn.body.isNone = false ∧ (fn.name == "runtime.NumGoroutine") = false

theorem callable {P : Program} {f : FuncId} {fn : Func} (h : P.funcs[f]? = some fn) (h1 : fn.body.isNone = false) (h2 : (fn.name == "runtime.NumGoroutine") = false) : Callable P f := ⟨fn, h, h1, h2⟩

/-- A contract that only computes: no object, no name. -/
def Pure (P : Program) (f : FuncId) (gs : List G) (r : G) : Prop := EC P f gs [] fun g hp' => g = r ∧ hp' = []

mutual
theorem G.ren_of_bel {f : Nat → Nat} : ∀ g : G, g.bel 0 = true → g.ren f = g
  | .d x, _ => rfl
  | .agg gs, h => by simp only [G.ren]; rw [G.renAll_of_bel gs h]
  | .ptr id off, h => by simp [G.bel, Nat.blt] at h
  | .rp xs, _ => rfl
  | .sl id n, h => by simp [G.bel, Nat.blt] at h
  | .slo id sz o n, h => by simp [G.bel, Nat.blt] at h
  | .map id, h => by simp [G.bel, Nat.blt] at h
  | .fn k a b, h => by
    simp only [G.bel, Bool.and_eq_true] at h
    simp only [G.ren]
    rw [G.renAll_of_bel a h.1, G.renAll_of_bel b h.2]
  | .tup gs, h => by simp only [G.ren]; rw [G.renAll_of_bel gs h]
  | .junk, _ => rfl
theorem G.renAll_of_bel {f : Nat → Nat} : ∀ gs : List G, G.belAll 0 gs = true → G.renAll f gs = gs
  | [], _ => rfl
  | g :: r, h => by
    simp only [G.belAll, Bool.and_eq_true] at h
    simp only [G.renAll]
    rw [G.ren_of_bel g h.1, G.renAll_of_bel r h.2]
end

theorem HB_nil (k : Nat) : HB k [] := fun i o h => by simp at h

theorem Pure.ec {P f gs r hp} {R : G → List Ob → Prop} (h : Pure P f gs r) (hb : G.belAll 0 gs = true) (hr : r.bel 0 = true) (hR : R r hp) : EC P f gs hp R := by
  have := EC.frame (hp := hp) h [] rfl List.nodup_nil (fun i o r h => by simp at h) (HB_nil _) hb
  have e : gs.map (G.ren (rn [] hp.length)) = gs := by rw [← G.renAll_eq]; exact G.renAll_of_bel gs hb
  rw [e] at this
  refine this.mono ?_
  rintro g hp' ⟨g0, hc', ⟨rfl, rfl⟩, rfl, _, rfl⟩
  rw [G.ren_of_bel _ hr]
  simpa [upd] using hR

section
variable {P : Program} {F N : Nat} {ops : Array Oper} {rest : List Oper} {Q : GPost} {fr : Fr} {hp hp' : List Ob} {g : G}
variable {d : Tmp} {ty : TypeId} {pos : String} {after : Array Edge} {fop : Operand} {args : Array Operand} {ts : Array TypeId} {f : FuncId} {g1 g2 gs : List G} {R : G → List Ob → Prop}

theorem run_call {c : List Ob} {Z M w a} (hr : Rel Z hp M w fr a N) (hf : fr.ev fop = some (.fn (.func f) g1 g2)) (ha : args.toList.mapM fr.ev = some gs) (hcl : Callable P f) (dst : Option Tmp) :
    ∃ vs : Array Value, (execOp a.eval ⟨dst, .call ⟨.value fop, args, ts⟩, ty, pos, after, none⟩).run P w = .ok (.enter f vs) w ∧ vs.size = (g1 ++ gs ++ g2).length ∧
      ∀ (j : Nat) (g : G) (v : Value), (g1 ++ gs ++ g2)[j]? = some g → vs[j]? = some v → VR w (ownZ Z hp M) M g v := by
  obtain ⟨fn, h1, h2, h3⟩ := hcl
  have hv := hr.ev hf
  obtain ⟨l3, r3⟩ := mapM_vr hr ha
  simp only [execOp, resolve]
  generalize a.eval fop = vf at hv
  cases hv with
  | fn l1 l2 r1 r2 =>
    rename_i v1 v2
    refine ⟨v1 ++ args.map a.eval ++ v2, ?_, by simp [l1, l2, ← l3], ?_⟩
    · have h3' : fn.name ≠ "runtime.NumGoroutine" := beq_eq_false_iff_ne.1 h3
      have h2' : fn.body ≠ none := by intro e; rw [e] at h2; cases h2
      simp [Deferred.ofValue, invoke, callFunc, h1, h2', h3']
    · intro j g v hg hv
      by_cases hj1 : j < g1.length
      · rw [List.append_assoc, List.getElem?_append_left hj1] at hg
        rw [Array.append_assoc, Array.getElem?_append_left (by omega)] at hv
        exact r1 j g v hg hv
      · by_cases hj2 : j < g1.length + gs.length
        · rw [List.append_assoc, List.getElem?_append_right (by omega), List.getElem?_append_left (by omega)] at hg
          rw [Array.append_assoc, Array.getElem?_append_right (by omega), Array.getElem?_append_left (by omega), l1] at hv
          exact r3 _ g v hg hv
        · rw [List.getElem?_append_right (by simp; omega)] at hg
          rw [Array.getElem?_append_right (by simp at l3 ⊢; omega)] at hv
          simp only [List.length_append, Array.size_append] at hg hv
          rw [l1, l3] at hv
          exact r2 _ g v hg hv

theorem eo_call (hd : Nat.blt d N = true) (hF : F ≤ hp.length) (hf : fr.ev fop = some (.fn (.func f) g1 g2)) (ha : args.toList.mapM fr.ev = some gs) (hcl : Callable P f) (hc : EC P f (g1 ++ gs ++ g2) hp R)
    (h : ∀ g hp', R g hp' → EO P F N ops rest Q ((d, g) :: fr) hp') : EO P F N ops (⟨some d, .call ⟨.value fop, args, ts⟩, ty, pos, after, none⟩ :: rest) Q fr hp := by
  intro Z w0 O0 M0 w M a hs hA hr
  refine wpList_plain rfl fun K hK => ?_
  obtain ⟨vs, hrun, l, r⟩ := run_call (ts := ts) (ty := ty) (pos := pos) (after := after) (c := hp) hr hf ha hcl (some d)
  unfold Oper.wp
  rw [hrun, Oper.upon_enter]
  refine (hc Z w M vs hr.heap l r).mono ?_
  rintro e w' ⟨v, g, hp', M', rfl, hR, h1, h2, h3, h4⟩
  exact hK _ _ (h g hp' hR Z w0 O0 M0 w' M' _ (hs.trans h3) (hA.trans h4 hF) ((hr.later h1 h3 h4).put (nblt.1 hd) h2))

theorem eo_call0 (hF : F ≤ hp.length) (hf : fr.ev fop = some (.fn (.func f) g1 g2)) (ha : args.toList.mapM fr.ev = some gs) (hcl : Callable P f) (hc : EC P f (g1 ++ gs ++ g2) hp R)
    (h : ∀ g hp', R g hp' → EO P F N ops rest Q fr hp') : EO P F N ops (⟨none, .call ⟨.value fop, args, ts⟩, ty, pos, after, none⟩ :: rest) Q fr hp := by
  intro Z w0 O0 M0 w M a hs hA hr
  refine wpList_plain rfl fun K hK => ?_
  obtain ⟨vs, hrun, l, r⟩ := run_call (ts := ts) (ty := ty) (pos := pos) (after := after) (c := hp) hr hf ha hcl none
  unfold Oper.wp
  rw [hrun, Oper.upon_enter]
  refine (hc Z w M vs hr.heap l r).mono ?_
  rintro e w' ⟨v, g, hp', M', rfl, hR, h1, h2, h3, h4⟩
  exact hK _ _ (h g hp' hR Z w0 O0 M0 w' M' _ (hs.trans h3) (hA.trans h4 hF) (hr.later h1 h3 h4))

/-- A call of a function that only computes. -/
theorem eo_pure {r : G} (hd : Nat.blt d N = true) (hF : F ≤ hp.length) (hf : fr.ev fop = some (.fn (.func f) g1 g2)) (ha : args.toList.mapM fr.ev = some gs) (hcl : Callable P f) (hc : Pure P f (g1 ++ gs ++ g2) r)
    (hb : G.belAll 0 (g1 ++ gs ++ g2) = true) (hb' : r.bel 0 = true) (h : EO P F N ops rest Q ((d, r) :: fr) hp) : EO P F N ops (⟨some d, .call ⟨.value fop, args, ts⟩, ty, pos, after, none⟩ :: rest) Q fr hp :=
  eo_call (R := fun g hp' => g = r ∧ hp' = hp) hd hF hf ha hcl (hc.ec hb hb' ⟨rfl, rfl⟩) (by rintro g hp' ⟨rfl, rfl⟩; exact h)

end
/-- THE STEP. -/
theorem eo_x {P : Program} {Γ : TypeId → Option TI} (hΓ : TOK P Γ) {F N : Nat} {ops : Array Oper} {rest : List Oper} {Q : GPost} {fr : Fr} {hp : List Ob} {g : G} {op : Op} {d : Tmp} {ty : TypeId} {pos : String} {after : Array Edge}
    (h : pst Γ fr hp op = some g) (hd : Nat.blt d N = true) (k : EO P F N ops rest Q ((d, g) :: fr) hp) : EO P F N ops (⟨some d, op, ty, pos, after, none⟩ :: rest) Q fr hp :=
  eo_p hd (pst_ok hΓ h) k
abbrev I (n : Int) : G := .d (.v (.int .i64 n))
abbrev B (b : Bool) : G := .d (.v (.bool b))
abbrev S (l : List UInt8) : G := .d (.v (.string ⟨l.toArray⟩))

theorem Pure.enter {P : Program} {f : FuncId} {fn : Func} {c : Code} {gs : List G} {r : G} (fr0 : Fr) (hf : P.funcs[f]? = some fn) (hb : fn.body = some c)
    (hfr : ∀ t g, fr0.get t = some g → gs[t]? = some g) (hN : Nat.ble gs.length fn.ntmps = true) (hr : r.bel 0 = true)
    (h : EW P 0 fn.ntmps c (fun e fr hp => (e = .normal ∨ e = .ret) ∧ Res P fn fr hp r) fr0 []) : Pure P f gs r := by
  refine ec_enter fr0 hf hb hfr (Nat.le_of_ble_eq_true hN) fun _ => ew_mono h ?_
  rintro e fr hp ⟨he, hres⟩
  exact ⟨he, [], hp, r, rfl, ⟨rfl, rfl⟩, Nat.le_refl _, .inr ⟨HB_nil _, hr⟩, hres⟩

/-- The arguments as a frame. -/
def Fr.of : Nat → List G → Fr
  | _, [] => []
  | k, g :: r => (k, g) :: Fr.of (k + 1) r
theorem Fr.of_get : ∀ (gs : List G) (k t : Nat) (g : G), (Fr.of k gs).get t = some g → k ≤ t ∧ gs[t - k]? = some g
  | [], _, _, _, h => by cases h
  | g0 :: r, k, t, g, h => by
    simp only [Fr.of, Fr.get] at h
    cases hk : Nat.beq k t with
    | true =>
      rw [hk] at h
      have := Nat.eq_of_beq_eq_true hk
      subst this
      cases h
      exact ⟨Nat.le_refl _, by simp⟩
    | false =>
      rw [hk] at h
      obtain ⟨h1, h2⟩ := Fr.of_get r (k + 1) t g h
      refine ⟨by omega, ?_⟩
      have : t - k = (t - (k + 1)) + 1 := by omega
      rw [this]
      simpa using h2
theorem Fr.of_ok (gs : List G) : ∀ t g, (Fr.of 0 gs).get t = some g → gs[t]? = some g := fun t g h => by simpa using (Fr.of_get gs 0 t g h).2
end Go.Gk
