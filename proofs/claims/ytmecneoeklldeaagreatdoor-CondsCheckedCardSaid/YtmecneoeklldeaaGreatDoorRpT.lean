/-
  Words in quotes: valueText's way by strings.Replacer, in the ghost logic.
-/
import Derived.Test.YtmecneoeklldeaaGreatDoorRpG
import Derived.Test.YtmecneoeklldeaaGreatDoorStr
import Derived.Test.YtmecneoeklldeaaGreatDoorGk58
set_option linter.unusedVariables false
set_option linter.unusedSimpArgs false
set_option maxRecDepth 100000
namespace Go.Proofs.YtmecneoeklldeaaGreatDoor
open Go.RowKit Go.Gk
theorem Ksx (s : Str) (hs : s.length ≤ 1099511627776) (n v0 v1 v2 v3 : Int) : Pure Tryz.prog 32 [.agg [I 2, I n, S s, I v0, I v1, I v2, I v3]] (S (34 :: (rpS s ++ [34]))) := by
  intro Z w M vs hr hsz hvs
  obtain ⟨x, rfl⟩ : ∃ x, vs = #[x] := by
    obtain ⟨vs⟩ := vs
    match vs, hsz with
    | [a], _ => exact ⟨a, rfl⟩
  have g0 := hvs 0 _ _ rfl rfl
  cases g0 with
  | agg hl h =>
    rename_i ws
    obtain ⟨a, b, c, d, e, f, g, rfl⟩ : ∃ a b c d e f g, ws = #[a, b, c, d, e, f, g] := by
      obtain ⟨ws⟩ := ws
      match ws, hl with
      | [a, b, c, d, e, f, g], _ => exact ⟨a, b, c, d, e, f, g, rfl⟩
    obtain rfl := vr_v (h 0 _ _ rfl rfl)
    obtain rfl := vr_v (h 1 _ _ rfl rfl)
    obtain rfl := vr_v (h 2 _ _ rfl rfl)
    obtain rfl := vr_v (h 3 _ _ rfl rfl)
    obtain rfl := vr_v (h 4 _ _ rfl rfl)
    obtain rfl := vr_v (h 5 _ _ rfl rfl)
    obtain rfl := vr_v (h 6 _ _ rfl rfl)
    refine (Ksw s hs w n v0 v1 v2 v3 fun c w => Tryz.strings_Count_one ⟨s.toArray⟩ c w).mono ?_
    rintro e w' ⟨rfl, hB⟩
    obtain ⟨q1, q2, q3⟩ := Kmq hr hB
    exact ⟨_, _, [], M, rfl, ⟨rfl, rfl⟩, q1, .d (.v _ rfl), q2, q3⟩
end Go.Proofs.YtmecneoeklldeaaGreatDoor
