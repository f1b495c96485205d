/-
  Readers of bytes (MessagesRead).
-/
import Derived.Test.YtdihjljlggagiaaGreatDoorTLoop
import Derived.Lib.Join
set_option linter.unusedVariables false
set_option linter.unusedSimpArgs false
set_option linter.unusedSectionVars false
set_option maxRecDepth 100000
namespace Go.Gk
theorem wi_id {n : Int} (h1 : -9223372036854775808 ≤ n) (h2 : n ≤ 9223372036854775807) : wi n = n := w64 ⟨h1, h2⟩

theorem apd_some {α : Type} {a b : List α} (h : a.length + b.length ≤ 4294967296) : apd a b = some (a ++ b) := by unfold apd; rw [Nat.ble_eq_true_of_le h]; rfl
theorem u64_id {n : Nat} (h : n < 18446744073709551616) : IntKind.u64.wrap (n : Int) = n := by
  show (n : Int) % (2 ^ 64 : Int) = n
  omega
theorem or_bv (x y : Nat) : (BitVec.ofInt 64 (x : Int) ||| BitVec.ofInt 64 (y : Int)).toNat = (x % 2 ^ 64) ||| (y % 2 ^ 64) := by
  rw [BitVec.ofInt_natCast, BitVec.ofInt_natCast, BitVec.toNat_or, BitVec.toNat_ofNat, BitVec.toNat_ofNat]
theorem or_u {x y : Nat} (hx : x < 2 ^ 64) (hy : y < 2 ^ 64) : bitsV .or .u64 (x : Int) (y : Int) = (x ||| y : Nat) := by
  show IntKind.u64.wrap ((BitVec.ofInt 64 (x : Int) ||| BitVec.ofInt 64 (y : Int)).toNat : Int) = _
  rw [or_bv, Nat.mod_eq_of_lt hx, Nat.mod_eq_of_lt hy]
  exact u64_id (Nat.or_lt_two_pow hx hy)
theorem rangeI_at {σ ρ : Type} {f : Nat → σ → Option (LS σ ρ)} {n : Nat} {s : σ} (I : Nat → σ → Prop) (Q : ρ → Prop) (h0 : I 0 s) (step : ∀ (i : Nat) (s : σ), i < n → I i s → (∃ s', f i s = some (.go s') ∧ I (i + 1) s') ∨ ∃ r, f i s = some (.out r) ∧ Q r) :
    (∃ s', rangeI f (n : Int) s = some (.go s') ∧ I n s') ∨ ∃ r, rangeI f (n : Int) s = some (.out r) ∧ Q r := by
  have := rangeM_at (f := fun i (_ : Unit) s => f i s) (List.replicate n ()) I Q (fun i x s hx hi => step i s (by have := (List.getElem?_eq_some_iff.1 hx).1; simpa using this) hi) (List.replicate n ()) 0 s rfl h0
  simpa [rangeI] using this
theorem or_add {a b i : Nat} (hb : b < 2 ^ i) : (a * 2 ^ i) ||| b = a * 2 ^ i + b := by
  rw [Nat.mul_comm]
  exact (Nat.two_pow_add_eq_or_of_lt hb a).symm
/-- Words, a dot behind each. -/
def dots (l : List Str) : Str := (l.map (· ++ [46])).flatten
theorem dots_snoc (l : List Str) (x : Str) : dots (l ++ [x]) = dots l ++ (x ++ [46]) := by simp [dots]
theorem join_dots (l : List Str) (hl : l ≠ []) (t : Str) : Lib.join l [46] ++ 46 :: t = dots l ++ t := by
  cases l with
  | nil => exact absurd rfl hl
  | cons x r =>
    rw [Lib.join_cons]
    have key : ∀ r : List Str, Lib.joinTail [46] r ++ 46 :: t = 46 :: (dots r ++ t) := by
      intro r
      induction r with
      | nil => rfl
      | cons y r ih =>
        have e : Lib.joinTail [46] (y :: r) = 46 :: (y ++ Lib.joinTail [46] r) := by simp [Lib.joinTail]
        rw [e]
        simp only [List.cons_append, List.append_assoc, ih]
        simp [dots]
    rw [List.append_assoc, key]
    simp [dots]
theorem join_le (l : List Str) : (Lib.join l [46]).length ≤ (dots l).length := by
  by_cases h : l = []
  · subst h; decide
  · have := congrArg List.length (join_dots l h [])
    simp at this
    omega
end Go.Gk
