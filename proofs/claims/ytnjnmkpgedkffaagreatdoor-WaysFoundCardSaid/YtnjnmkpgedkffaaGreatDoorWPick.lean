/-
  The plain laws of routers: who is chosen, two ways.
-/
import Derived.Test.YtnjnmkpgedkffaaGreatDoorWSort3
set_option linter.unusedVariables false
set_option linter.unusedSimpArgs false
set_option linter.unusedSectionVars false
set_option maxRecDepth 100000
namespace Go.Gk
theorem rangeI_L {α σ ρ : Type} {f : Nat → σ → Option (LS σ ρ)} {g : Nat → α → σ → Option (LS σ ρ)} (l : List α) (h : ∀ (j : Nat) x s, l[j]? = some x → f j s = g j x s) (s : σ) : rangeI f (l.length : Int) s = rangeM g 0 l s := by
  have key : ∀ (m : List α) (i : Nat) (s : σ), (∀ (j : Nat) x s, m[j]? = some x → f (i + j) s = g (i + j) x s) → rangeM (fun i (_ : Unit) s => f i s) i (List.replicate m.length ()) s = rangeM g i m s := by
    intro m
    induction m with
    | nil => intro i s _; rfl
    | cons x m ih =>
      intro i s h
      have h0 := h 0 x s (by simp)
      rw [Nat.add_zero] at h0
      simp only [List.length_cons, List.replicate_succ, rangeM, h0]
      cases g i x s with
      | none => rfl
      | some y =>
        cases y with
        | out r => rfl
        | go s' => exact ih (i + 1) s' fun j y s hy => by rw [show i + 1 + j = i + (j + 1) by omega]; exact h (j + 1) y s (by simpa using hy)
  unfold rangeI
  rw [Int.toNat_natCast]
  exact key l 0 s fun j x s hx => by rw [Nat.zero_add]; exact h j x s hx
theorem rangeM_find {α ρ : Type} {f : Nat → α → Unit → Option (LS Unit ρ)} (p : α → Bool) (v : α → ρ) : ∀ (l : List α) (i : Nat), (∀ (j : Nat) x, x ∈ l → f j x () = some (if p x then .out (v x) else .go ())) →
    rangeM f i l () = some (match l.find? p with | some x => .out (v x) | none => .go ())
  | [], i, _ => rfl
  | x :: l, i, h => by
    have h0 := h i x List.mem_cons_self
    have ih := rangeM_find p v l (i + 1) fun j y hy => h j y (List.mem_cons_of_mem _ hy)
    simp only [rangeM, h0, List.find?_cons]
    cases hp : p x with
    | true => simp
    | false => simp only [Bool.false_eq_true, if_false, ih]
theorem rangeI_find {α ρ : Type} {f : Nat → Unit → Option (LS Unit ρ)} (p : α → Bool) (v : α → ρ) (l : List α) (h : ∀ (j : Nat) x, l[j]? = some x → f j () = some (if p x then .out (v x) else .go ())) :
    rangeI f (l.length : Int) () = some (match l.find? p with | some x => .out (v x) | none => .go ()) := by
  rw [rangeI_L (g := fun j x _ => some (if p x then .out (v x) else .go ())) l (fun j x s hx => h j x hx)]
  exact rangeM_find p v l 0 fun _ _ _ => rfl
theorem choiceP (u : Str → Bool) : ∀ (r : List Rt) (i : Nat) (s : Str × Int), rangeF (σ := Str × Int) (fun i39 (x41 : Rt) s40 => bif ((u x41.Node) && (decide ((x41.Weight : Int) > s40.2))) then (some (x41.Node, x41.Weight)) else (some (s40.1, s40.2))) i r s = some (best u r s)
  | [], i, s => rfl
  | x :: r, i, s => by
    simp only [rangeF]
    unfold best
    rw [List.foldl_cons]
    by_cases h : u x.Node = true ∧ x.Weight > s.2
    · have e : bst1 u s x = (x.Node, x.Weight) := by unfold bst1; rw [if_pos h]
      rw [e, h.1, decide_eq_true h.2]
      exact choiceP u r (i + 1) _
    · have e : bst1 u s x = s := by unfold bst1; rw [if_neg h]
      have e2 : (u x.Node && decide (x.Weight > s.2)) = false := by
        rw [Bool.eq_false_iff]; intro hc; simp only [Bool.and_eq_true, decide_eq_true_eq] at hc; exact h hc
      rw [e, e2]
      exact choiceP u r (i + 1) s
theorem choiceR (l : List T_api_Health) (T : List Int) (S : List Rt) (hS : S.length ≤ 19) (i : Nat) {t : Int} (ht : T[i]? = some t) :
    (bi (gd (decide ((S.length : Int) ≤ 9223372036854775807)) (rangeI (σ := Unit) (ρ := Str) (fun i32 s33 => bi (getZ S (i32 : Int)) fun x46 => bi (getZ T (i : Int)) fun x49 => bi (m_laneref1_UpAt l x46.Node x49) fun y51 => bif y51 then (some (.out x46.Node)) else (some (.go ()))) (S.length : Int) ())) fun q => bi (lsN q fun s33 => []) fun q40 => some q40) =
      some (match S.find? fun x => upAt l x.Node t with | some x => x.Node | none => []) := by
  rw [decide_eq_true (show (S.length : Int) ≤ 9223372036854775807 by omega), gd_true]
  rw [rangeI_find (fun x : Rt => upAt l x.Node t) (fun x => x.Node) S (by
    intro j x hx
    simp only [getZ_cast, hx, ht, bi_some, upAt_ok]
    cases upAt l x.Node t <;> rfl)]
  cases S.find? (fun x => upAt l x.Node t) <;> rfl
end Go.Gk
