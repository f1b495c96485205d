/-
  THE GHOST LOGIC, PART 18: bytes made a string.
-/
import Derived.Test.YtpgnhnjhpnbelaaGreatDoorGk17
import Derived.Laws.BytesArg
set_option linter.unusedVariables false
set_option linter.unusedSimpArgs false
namespace Go.Gk

section
variable {P : Program} {Γ : TypeId → Option TI} {F N : Nat} {fr : Fr} {hp : List Ob} {g : G} {Q : GPost} {ops : Array Oper} {rest : List Oper}
variable {d : Tmp} {op : Op} {ty : TypeId} {pos : String} {after : Array Edge} {gd : Option (Nat × Bool)}

theorem strOfNums_u8 (l : List UInt8) : strOfNums (l.map fun c => (c.toNat : Int)) = ⟨l.toArray⟩ := by
  unfold strOfNums
  simp [Function.comp_def]

theorem op_strRow (hΓ : TOK P Γ) {s t e tb : TypeId} {i1 i2 i3 : TI} {x : Operand} {id n m : Nat} {ds : List D} (l : List UInt8) (h1 : Γ s = some i1) (h1' : i1.desc = .slice e) (h2 : Γ e = some i2) (h2' : i2.desc = .int .u8) (h3 : Γ t = some i3) (h3' : i3.desc = .string)
    (hx : fr.ev x = some (.sl id n)) (ho : hp[id]? = some (.row tb 1 m ds)) (hl : l.length = n) (hd : ∀ (j : Nat) (b : UInt8), l[j]? = some b → ds[j]? = some (.v (.int .u8 b.toNat))) :
    OpP P N ⟨some d, .convert s t x, ty, pos, after, gd⟩ fr hp (S l) := fun Z w M a hr => by
  obtain ⟨u1, _⟩ := hΓ _ _ h1
  rw [h1'] at u1
  obtain ⟨u2, _⟩ := hΓ _ _ h2
  rw [h2'] at u2
  obtain ⟨u3, _⟩ := hΓ _ _ h3
  rw [h3'] at u3
  have hvx := hr.ev hx
  simp only [execOp]
  generalize a.eval x = vx at hvx
  cases hvx with
  | slnil hM =>
    have : l = [] := by simpa using hl
    subst this
    exact ⟨_, by simp [run_convert_bytes_nil w s e u1 u2 0 0 t u3]; rfl, .d (.v _ rfl)⟩
  | sl hM hn hm =>
    rename_i b c
    obtain ⟨_, cs, hb, _, _, _, hcr⟩ := hr.heap.obj id _ _ ho hM
    have hrun := run_convert_bytes_arg w s e u1 u2 b 0 n c (l.map fun c => (c.toNat : Int)) (by simp [hl]) (fun i hi => ?_) t u3
    · exact ⟨_, by simp [hrun]; rfl, by rw [strOfNums_u8]; exact .d (.v _ rfl)⟩
    · have hli : l[i]? = some (l[i]'(by omega)) := List.getElem?_eq_getElem (by omega)
      obtain ⟨v, e1, e2⟩ := hcr i _ (hd i _ hli)
      cases e2
      simp only [World.cell?, Nat.zero_add, hb]
      simp [List.getD, hli]
      exact e1

theorem op_eqB (hΓ : TOK P Γ) {t t' : TypeId} {i1 : TI} {x y : Operand} {b c : Bool} (h1 : Γ t = some i1) (h1' : i1.desc = .bool) (hx : fr.ev x = some (B b)) (hy : fr.ev y = some (B c)) : OpP P N ⟨some d, .binOp .eql t x y t', ty, pos, after, gd⟩ fr hp (B (b == c)) := fun Z w M a hr => by
  obtain ⟨u1, _⟩ := hΓ _ _ h1
  rw [h1'] at u1
  exact ⟨_, by simp [execOp, hr.ev_v hx, hr.ev_v hy, eqGuard, binOp, Op.equal, eq_bool w b c u1], .d (.v _ rfl)⟩
theorem op_neB (hΓ : TOK P Γ) {t t' : TypeId} {i1 : TI} {x y : Operand} {b c : Bool} (h1 : Γ t = some i1) (h1' : i1.desc = .bool) (hx : fr.ev x = some (B b)) (hy : fr.ev y = some (B c)) : OpP P N ⟨some d, .binOp .neq t x y t', ty, pos, after, gd⟩ fr hp (B (!(b == c))) := fun Z w M a hr => by
  obtain ⟨u1, _⟩ := hΓ _ _ h1
  rw [h1'] at u1
  exact ⟨_, by simp [execOp, hr.ev_v hx, hr.ev_v hy, eqGuard, binOp, Op.equal, eq_bool w b c u1], .d (.v _ rfl)⟩
end
end Go.Gk
