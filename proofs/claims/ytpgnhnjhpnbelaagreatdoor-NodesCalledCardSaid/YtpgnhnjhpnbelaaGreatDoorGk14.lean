/-
  THE GHOST LOGIC, PART 14: small helpers for proofs over it.
-/
import Derived.Test.YtpgnhnjhpnbelaaGreatDoorGk13
set_option linter.unusedVariables false
set_option linter.unusedSimpArgs false
namespace Go.Gk
theorem w64 {x : Int} (h : -9223372036854775808 ≤ x ∧ x ≤ 9223372036854775807) : IntKind.i64.wrap x = x := IntWalk.i64_in _ (by omega)
theorem w64_succ {i : Nat} (h : i < 9223372036854775807) : IntKind.i64.wrap ((i : Int) + 1) = ((i + 1 : Nat) : Int) := by rw [w64 (by omega)]; omega
@[simp] theorem size_S (l : List UInt8) : (⟨l.toArray⟩ : ByteArray).size = l.length := by show l.toArray.size = _; simp
@[simp] theorem toList_S (l : List UInt8) : (⟨l.toArray⟩ : ByteArray).toList = l := ByteArray.toList_mk l
theorem get_eq {fr : Fr} {t : Nat} {x y : Int} {k : IntKind} (h : fr.get t = some (.d (.v (.int k x)))) (e : x = y) : fr.get t = some (.d (.v (.int k y))) := by rw [← e]; exact h
theorem get_b {fr : Fr} {t : Nat} {x y : Bool} (h : fr.get t = some (.d (.v (.bool x)))) (e : x = y) : fr.get t = some (.d (.v (.bool y))) := by rw [← e]; exact h
end Go.Gk
namespace Go.Gk
section
variable {P : Program} {F N : Nat} {Q : GPost} {fr : Fr} {hp : List Ob}
/-- A loop, entered with more known than its relation says. -/
theorem ew_loopS {c : Code} (I : Nat → Fr → List Ob → Prop) (n : Nat) (fr2 : Fr) (hs : fr2.Sub fr) (h0 : I n fr2 hp)
    (round : ∀ n fr hp, I n fr hp → EW P F N c (GThen (fun fr' hp' => ∃ n' fr2 hp2 ex, n' < n ∧ I n' fr2 hp2 ∧ fr2.Sub fr' ∧ hp' = hp2 ++ ex ∧ (ex = [] ∨ (HB hp2.length hp2 ∧ fr2.FB hp2.length ∧ F ≤ hp2.length))) Q) fr hp) : EW P F N (.loop c) Q fr hp :=
  ew_sub fr2 hs (ew_loop I n h0 round)
end
end Go.Gk
