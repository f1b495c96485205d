/-
  THE GHOST LOGIC, PART 56: the sorted list, as a sort by a function gives it.
-/
import Derived.Sort.Statements
set_option linter.unusedVariables false
set_option linter.unusedSimpArgs false
set_option linter.unusedSectionVars false
namespace Go.Gk
open Go.Sort
/-- 'x is less than y', as a sort asks it. -/
def ltO {α : Type} (cf : α → α → Option Int) (x y : α) : Bool := decide ((cf x y).getD 0 < 0)
/-- What a sort by 'cf' asks: an order, and that elements that tie are one. -/
structure SortOk {α : Type} (cf : α → α → Option Int) (l : List α) : Prop where
  tot : ∀ x y, ∃ r, cf x y = some r
  swo : SWO (ltO cf)
  tie : ∀ x, x ∈ l → ∀ y, y ∈ l → ltO cf x y = false → ltO cf y x = false → x = y
  len : l.length < 4611686018427387904
open Classical in
/-- The sorted list. -/
noncomputable def sortF {α : Type} (cf : α → α → Option Int) (l : List α) : Option (List α) := if SortOk cf l then some (l.mergeSort fun x y => !ltO cf y x) else none
theorem sortF_ok {α : Type} {cf : α → α → Option Int} {l : List α} (h : SortOk cf l) : sortF cf l = some (l.mergeSort fun x y => !ltO cf y x) := by unfold sortF; rw [if_pos h]
theorem sortF_some {α : Type} {cf : α → α → Option Int} {l r : List α} (h : sortF cf l = some r) : SortOk cf l ∧ r = l.mergeSort fun x y => !ltO cf y x := by
  unfold sortF at h
  split at h
  · cases h; exact ⟨‹_›, rfl⟩
  · cases h
/-- Two sorted lists of the same elements, of which no two tie, are one. -/
theorem sorted_one {α : Type} {lt : α → α → Bool} {l d : List α} (hO : SWO lt) (ht : ∀ x, x ∈ l → ∀ y, y ∈ l → lt x y = false → lt y x = false → x = y) (hp : d.Perm l) (hs : d.Pairwise fun x y => lt y x = false) :
    d = l.mergeSort fun x y => !lt y x := by
  have hm : (l.mergeSort fun x y => !lt y x).Perm l := List.mergeSort_perm _ _
  have hms : (l.mergeSort fun x y => !lt y x).Pairwise fun x y => lt y x = false := by
    refine (List.pairwise_mergeSort (le := fun x y => !lt y x) (fun a b c h1 h2 => ?_) (fun a b => ?_) l).imp fun h => by simpa using h
    · have h1 : lt b a = false := by simpa using h1
      have h2 : lt c b = false := by simpa using h2
      simpa using hO.ntrans c b a h2 h1
    · cases h : lt b a with
      | false => rfl
      | true =>
        cases h' : lt a b with
        | false => rfl
        | true => have := hO.trans a b a h' h; rw [hO.irrefl] at this; cases this
  exact List.Perm.eq_of_pairwise (le := fun x y => lt y x = false) (fun a b ha hb h1 h2 => ht a (hp.mem_iff.1 ha) b (hm.mem_iff.1 hb) h2 h1) hs hms (hp.trans hm.symm)
end Go.Gk
