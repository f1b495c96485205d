/-
  THE GHOST LOGIC, PART 19: a nil among data is a list of nothing.
-/
import Derived.Test.YtpgnhnjhpnbelaaGreatDoorGk18
set_option linter.unusedVariables false
set_option linter.unusedSimpArgs false
namespace Go.Gk

def DLe : List D → List D → Prop
  | [], [] => True
  | x :: xs, y :: ys => (x = y ∨ (x = .v (.slice none 0 0) ∧ y = .ro 0 [])) ∧ DLe xs ys
  | _, _ => False
theorem DLe.at : ∀ {xs ys : List D}, DLe xs ys → ∀ (j : Nat) (d : D), ys[j]? = some d → ∃ d0, xs[j]? = some d0 ∧ (d0 = d ∨ (d0 = .v (.slice none 0 0) ∧ d = .ro 0 []))
  | [], [], _, j, d, h => by simp at h
  | x :: xs, y :: ys, h, 0, d, hd => by
    simp at hd
    subst hd
    exact ⟨x, rfl, h.1⟩
  | x :: xs, y :: ys, h, j + 1, d, hd => by simpa using DLe.at h.2 j d (by simpa using hd)
theorem DLe.nil {ys : List D} (h : DLe [] ys) : ys = [] := by
  cases ys with
  | nil => rfl
  | cons y ys => exact h.elim
theorem G.Le.ro {n : Nat} {xs ys : List D} (h : DLe xs ys) : G.Le (.d (.ro n xs)) (.d (.ro n ys)) := fun w O M v hv => by
  cases hv with
  | d hv =>
    cases hv with
    | nil => rw [h.nil]; exact .d .nil
    | ro n xs b off cap vs hb hO hn hm hc hv =>
      refine .d (.ro n ys b off cap vs hb hO hn hm (fun j d hj => ?_) (fun j d hj => ?_))
      · obtain ⟨d0, h0, _⟩ := h.at j d hj
        exact hc j d0 h0
      · obtain ⟨d0, h0, e⟩ := h.at j d hj
        have := hv j d0 h0
        rcases e with rfl | ⟨rfl, rfl⟩
        · exact this
        · have hx := this
          generalize vs j = u at hx
          cases hx
          exact .nil

section
variable {P : Program} {Γ : TypeId → Option TI} {F N : Nat} {fr : Fr} {hp : List Ob} {g : G} {Q : GPost} {ops : Array Oper} {rest : List Oper}
variable {d : Tmp} {op : Op} {ty : TypeId} {pos : String} {after : Array Edge} {gd : Option (Nat × Bool)}
theorem eq_nil {t e : TypeId} (w : World) (a : Option Addr) (n c : Nat) (u : P.underlying t = some (.slice e)) : (Op.equalIn Op.maxDepth t (.slice a n c) (.slice none 0 0)).run P w = .ok a.isNone w := by
  rw [show Op.maxDepth = (Op.maxDepth - 1) + 1 from rfl]
  cases a <;> simp [Op.equalIn, run_underlying u]
/-- Is a slice that is only read nil? Only an empty one can be. -/
theorem eo_isNil (hΓ : TOK P Γ) {t t' e : TypeId} {i1 : TI} {x y : Operand} {n : Nat} {xs : List D} (h1 : Γ t = some i1) (h1' : i1.desc = .slice e) (hx : fr.ev x = some (.d (.ro n xs))) (hy : y = .const (.slice none 0 0)) (hd : Nat.blt d N = true)
    (k : ∀ b : Bool, (b = true → n = 0 ∧ xs = []) → EO P F N ops rest Q ((d, B b) :: fr) hp) : EO P F N ops (⟨some d, .binOp .eql t x y t', ty, pos, after, none⟩ :: rest) Q fr hp := by
  intro Z w0 O0 M0 w M a hs ha hr
  refine wpList_plain rfl fun K hK => ?_
  obtain ⟨u1, _⟩ := hΓ _ _ h1
  rw [h1'] at u1
  have hvx := hr.ev hx
  have hyv : a.eval y = .slice none 0 0 := by subst hy; rfl
  have hrun : ∀ (q : Option Addr) (m c : Nat), a.eval x = .slice q m c → (execOp a.eval ⟨some d, .binOp .eql t x y t', ty, pos, after, none⟩).run P w = .ok (.value (.bool q.isNone)) w := fun q m c hq => by
    simp [execOp, hyv, hq, eqGuard, binOp, Op.equal, eq_nil w q m c u1]
  obtain ⟨b, hb, hr'⟩ : ∃ b : Bool, (b = true → n = 0 ∧ xs = []) ∧ (execOp a.eval ⟨some d, .binOp .eql t x y t', ty, pos, after, none⟩).run P w = .ok (.value (.bool b)) w := by
    generalize hq : a.eval x = vx at hvx
    cases hvx with
    | d hv =>
      cases hv with
      | nil => exact ⟨true, fun _ => ⟨rfl, rfl⟩, hrun _ _ _ hq⟩
      | ro n xs b off cap vs hb hO hn hm hc hv => exact ⟨false, (fun h => nomatch h), hrun _ _ _ hq⟩
  unfold Oper.wp
  rw [hr', Oper.upon_value]
  exact hK _ _ (k b hb Z w0 O0 M0 w M _ hs ha (hr.put (nblt.1 hd) (.d (.v _ rfl))))
end
end Go.Gk
