/-
  THE GHOST LOGIC, PART 33: elements of views.
-/
import Derived.Test.YtpgnhnjhpnbelaaGreatDoorGk32
set_option linter.unusedVariables false
set_option linter.unusedSimpArgs false
namespace Go.Gk
section
variable {P : Program} {Γ : TypeId → Option TI} {F N : Nat} {Q : GPost} {fr fr' : Fr} {hp hp' : List Ob} {ks : List Kt}
variable {α : Type} {enc : α → List D} {ops : Array Oper} {rest : List Oper} {g : G}
variable {d : Tmp} {op : Op} {ty : TypeId} {pos : String} {after : Array Edge} {gd : Option (Nat × Bool)}
/-- An element of a view: a place in the row. -/
theorem op_elemView (hΓ : TOK P Γ) {t e : TypeId} {i1 i2 : TI} {x y : Operand} {id sz o n : Nat} {l : List α} {z : α} {kd : IntKind} {k : Int} (hz : getZ l k = some z) (h1 : Γ t = some i1) (h1' : i1.desc = .slice e) (h2 : Γ e = some i2) (hx : fr.ev x = some (.slo id sz o n)) (hsz : sz = i2.size) (hn : n = l.length)
    (hy : fr.ev y = some (.d (.v (.int kd k)))) : OpP P N ⟨some d, .indexAddr t x y, ty, pos, after, gd⟩ fr hp (.ptr id ((o + k.toNat) * i2.size)) := fun Z w M a hr => by
  obtain ⟨i, rfl, hi, _⟩ := getZ_ok hz
  subst hsz
  obtain ⟨u1, _⟩ := hΓ t _ h1
  rw [h1'] at u1
  have hs := run_size' (P := P) (w := w) hΓ h2
  have hvx := hr.ev hx
  simp only [execOp, hr.ev_v hy]
  generalize a.eval x = vx at hvx
  cases hvx with
  | slonil hM => omega
  | slo hM hnc hm =>
    rename_i b c
    have hco : ¬ c = o := by omega
    rw [Int.toNat_natCast]
    refine ⟨.pointer (some ⟨b, (o + i) * i2.size, none⟩), ?_, .ptr hM⟩
    have : (0 : Int) ≤ (i : Int) ∧ (i : Int) < (n : Int) := by omega
    have hin : i < n := by omega
    simp [Instr.indexAt, asIntOf, run_underlying u1, hs, this, Addr.add_lit, hin, hco, Nat.add_mul]
end
end Go.Gk
