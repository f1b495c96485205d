/-
  THE GHOST LOGIC, PART 29: joins at any place, with ghost steps at the end of a way; guarded turns in regions that draw.
  THE GHOST LOGIC, PART 30: views of own rows from an offset on; append to a view, as data.
  THE GHOST LOGIC, PART 31: a row's end, cleared.
  THE GHOST LOGIC, PART 32: stores into rows, in regions that draw and turn objects.
  THE GHOST LOGIC, PART 33: elements of views.
-/
import Derived.Test.YthhdojhbohfmnaaGreatDoorGk28
import Derived.ArgAppend
set_option linter.unusedVariables false
set_option linter.unusedSimpArgs false
set_option linter.unusedSectionVars false
namespace Go.Gk
theorem orI_l {A T : Type} {a : A} {f : A → Option T} {x : Option T} (h : orI (.inl a) f = x) : f a = x := h
theorem goI_l {σ T : Type} {a : σ} {f : σ → Option T} {x : Option T} (h : goI (.go a) f = x) : f a = x := h
section
variable {P : Program} {Γ : TypeId → Option TI} {F N : Nat} {Q : GPost} {fr fr' : Fr} {hp hp' : List Ob} {ks ks2 : List Kt}
theorem post_weak {Z : Env} {w0 w : World} {O0 : Ow} {M0 M : Mp} {e : Exit} {a : Act} {fr1 : Fr} {ob1 : List Ob} (hm : MidP F fr1 ob1 fr hp) (hq : Q e fr1 ob1) (hr : Rel Z hp M w fr a N) (hs : Stp w0 O0 w (own hp M)) (ha : Agr F M0 M) :
    Post Z F N Q w0 O0 M0 e a w := by
  obtain ⟨h1, ex, rfl, he | ⟨h2, h3, h4⟩⟩ := hm
  · subst he
    rw [List.append_nil] at hr hs
    exact ⟨fr1, ob1, M, hq, hr.sub h1, hs, ha⟩
  · exact ⟨fr1, ob1, _, hq, (hr.sub h1).cut h2 h3, stp_cut hs, ha.cut h4 (by rw [hr.heap.len]; simp)⟩
/-- It holds behind steps that only the proof takes. -/
def Cv (F N : Nat) (M : Fr → List Ob → Prop) (fr : Fr) (hp : List Ob) : Prop :=
  ∀ Z w M1 a, Rel Z hp M1 w fr a N → ∃ fr' hp' M', M fr' hp' ∧ Rel Z hp' M' w fr' a N ∧ Stp w (own hp M1) w (own hp' M') ∧ ∀ M0, Agr F M0 M1 → Agr F M0 M'
theorem j_cutEZ {A : Type} {c : Code} {R : A → Prop} (fr1 : A → Fr) (ob1 : A → List Ob) (h1 : St.holds P F N Q (.code c (.mid (fun fr' hp' => ∃ a, R a ∧ MidP F (fr1 a) (ob1 a) fr' hp') :: ks)) fr hp)
    (h2 : ∀ a, R a → St.holds P F N Q (.fin .normal ks) (fr1 a) (ob1 a)) : St.holds P F N Q (.code c ks) fr hp := by
  intro Z w0 O0 M0 w M a hs ha hr
  refine wp_mono (h1 Z w0 O0 M0 w M a hs ha hr) ?_
  rintro e a' w' ⟨fr', hp', M', q, r1, r2, r3⟩
  cases e with
  | normal =>
    obtain ⟨x, hR, hm⟩ := q
    exact post_weak hm (h2 x hR) r1 r2 r3
  | _ => exact ⟨fr', hp', M', q, r1, r2, r3⟩
theorem j_cutNZ {c : Code} (fr1 : Fr) (ob1 : List Ob) (h1 : St.holds P F N Q (.code c (.mid (MidP F fr1 ob1) :: ks)) fr hp) (h2 : St.holds P F N Q (.fin .normal ks) fr1 ob1) : St.holds P F N Q (.code c ks) fr hp := by
  intro Z w0 O0 M0 w M a hs ha hr
  refine wp_mono (h1 Z w0 O0 M0 w M a hs ha hr) ?_
  rintro e a' w' ⟨fr', hp', M', q, r1, r2, r3⟩
  cases e with
  | normal => exact post_weak q h2 r1 r2 r3
  | _ => exact ⟨fr', hp', M', q, r1, r2, r3⟩
theorem j_cutSZ {c : Code} {A T : Type} {q : A ⊕ T} (fr1 : A → Fr) (ob1 : A → List Ob) (h1 : St.holds P F N Q (.code c (.mid (fun fr' hp' => ∃ a, q = .inl a ∧ MidP F (fr1 a) (ob1 a) fr' hp') :: ks)) fr hp)
    (h2 : ∀ a, q = .inl a → St.holds P F N Q (.fin .normal ks) (fr1 a) (ob1 a)) : St.holds P F N Q (.code c ks) fr hp := j_cutEZ fr1 ob1 h1 h2
end
/-! ### Guarded turns -/
section
variable {P : Program} {Γ : TypeId → Option TI} {F N : Nat} {Q : GPost} {fr fr' : Fr} {hp hp' hpL : List Ob} {ks : List Kt} {ll hl bl : List Nat}
variable {ops : Array Oper} {rest : List Oper} {g : G} {QF : Fr → List Ob → Prop}
variable {d : Tmp} {op : Op} {ty : TypeId} {pos : String} {after : Array Edge} {k : Nat} {j : Nat} {want : Bool}
variable {fop : Operand} {args : Array Operand} {ts : Array TypeId} {f : FuncId} {g1 g2 gs : List G}
end
end Go.Gk
namespace Go.Gk
section
variable {P : Program} {Γ : TypeId → Option TI} {F N : Nat} {Q : GPost} {fr fr' : Fr} {hp hp' : List Ob} {ks : List Kt}
variable {α : Type} {enc : α → List D} {ops : Array Oper} {rest : List Oper} {g : G}
variable {d : Tmp} {op : Op} {ty : TypeId} {pos : String} {after : Array Edge} {gd' : Option (Nat × Bool)}
end
end Go.Gk
namespace Go.Gk
section
variable {P : Program} {Γ : TypeId → Option TI} {F N : Nat} {Q : GPost} {fr fr' : Fr} {hp hp' : List Ob} {ks : List Kt}
variable {α : Type} {enc : α → List D} {ops : Array Oper} {rest : List Oper} {g : G}
variable {d : Tmp} {op : Op} {ty : TypeId} {pos : String} {after : Array Edge} {gd' : Option (Nat × Bool)}
theorem opu_store2 (hΓ : TOK P Γ) {t tb : TypeId} {x y : Operand} {i : TI} {id off : Nat} {gs new : List G} {hp2 : List Ob} (hi : Γ t = some i) (hx : fr.ev x = some (.ptr id off)) (ho : hp[id]? = some (.box tb gs)) (hy : fr.ev y = some g) (hg : cellsG g = some new)
    (h1 : new.all G.one = true) (hsz : Nat.beq new.length i.size = true) (hfit : Nat.ble (off + new.length) gs.length = true) (hhp : hp.set id (.box tb (setAt gs off new)) = hp2) : OpU P N ⟨none, .store t x y, ty, pos, after, gd'⟩ fr hp hp2 := by
  subst hhp
  exact opu_store hΓ hi hx ho hy hg h1 hsz hfit
end
end Go.Gk
namespace Go.Gk
section
variable {P : Program} {Γ : TypeId → Option TI} {F N : Nat} {Q : GPost} {fr fr' : Fr} {hp hp' : List Ob} {ks : List Kt}
variable {α : Type} {enc : α → List D} {ops : Array Oper} {rest : List Oper} {g : G}
variable {d : Tmp} {op : Op} {ty : TypeId} {pos : String} {after : Array Edge} {gd' : Option (Nat × Bool)}
end
end Go.Gk
namespace Go.Gk
section
variable {P : Program} {Γ : TypeId → Option TI} {F N : Nat} {Q : GPost} {fr fr' : Fr} {hp hp' : List Ob} {ks : List Kt}
variable {α : Type} {enc : α → List D} {ops : Array Oper} {rest : List Oper} {g : G}
variable {d : Tmp} {op : Op} {ty : TypeId} {pos : String} {after : Array Edge} {gd : Option (Nat × Bool)}
end
end Go.Gk
