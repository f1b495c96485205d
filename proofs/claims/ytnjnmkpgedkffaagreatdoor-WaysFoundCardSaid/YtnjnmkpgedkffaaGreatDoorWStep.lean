/-
  The plain laws of routers: the program at one moment.
-/
import Derived.Test.YtnjnmkpgedkffaaGreatDoorWList
set_option linter.unusedVariables false
set_option linter.unusedSimpArgs false
set_option linter.unusedSectionVars false
set_option maxRecDepth 100000
namespace Go.Gk
/-- Who is the first one at a moment, if it was f till then. -/
def nxt (u : Str → Bool) (r : List Rt) (f : Str) : Str := if u f = true then f else (best u r ([], -1)).1
theorem nxt_ok (m : List (Str × Bool)) (r : List Rt) (f : Str) :
    (bif !((mGet m f).getD false) then (bi (rangeF (σ := Str × Int) (fun i39 (x41 : Rt) s40 => bif (((mGet m x41.Node).getD false) && (decide ((x41.Weight : Int) > s40.2))) then (some (x41.Node, x41.Weight)) else (some (s40.1, s40.2))) 0 r ([], -1)) fun q42 => some q42.1) else (some f)) = some (nxt (fun n => (mGet m n).getD false) r f) := by
  have e : nxt (fun n => (mGet m n).getD false) r f = if (mGet m f).getD false = true then f else (best (fun n => (mGet m n).getD false) r ([], -1)).1 := rfl
  rw [e, choiceP (fun n => (mGet m n).getD false) r 0 ([], -1)]
  cases (mGet m f).getD false <;> rfl
theorem up_none {l : List T_api_Health} (hv : ValH l) (t : Int) : upAt l [] t = false := by
  unfold upAt
  have key : ∀ (m : List T_api_Health) (s : Bool), (∀ x ∈ m, x.Node ≠ []) → m.foldl (fun s x => if x.Node = [] ∧ x.At ≤ t then x.Up else s) s = s := by
    intro m
    induction m with
    | nil => intro s _; rfl
    | cons x m ih =>
      intro s hm
      rw [List.foldl_cons, if_neg fun h => hm x List.mem_cons_self h.1]
      exact ih s fun y hy => hm y (List.mem_cons_of_mem _ hy)
  exact key l false fun x hx => (hv.1 x hx).2.2
/-- The reference's choice is the program's. -/
theorem choice_two {l : List T_api_Health} (hv : ValH l) {r S : List Rt} (hs : S.Pairwise (fun x y => y.Weight ≤ x.Weight)) (hb : ∀ u s, best u S s = best u r s) (h0 : ∀ x ∈ S, 0 ≤ x.Weight) (t : Int) (f : Str) :
    nxt (fun n => upAt l n t) r f = (if f = [] ∨ upAt l f t = false then (match S.find? fun x => upAt l x.Node t with | some x => x.Node | none => []) else f) := by
  unfold nxt
  rw [← hb, best_sorted (fun n => upAt l n t) S hs h0]
  by_cases hu : upAt l f t = true
  · have hf : f ≠ [] := fun e => by subst e; rw [up_none hv] at hu; cases hu
    rw [if_pos hu, if_neg]
    rintro (h | h)
    · exact hf h
    · rw [hu] at h; cases h
  · rw [if_neg hu, if_pos (.inr (by simpa using hu))]
    cases S.find? (fun x => upAt l x.Node t) <;> rfl
end Go.Gk
