/-
  Words in quotes: valueText's way by strings.Replacer.
-/
import Derived.Test.YtmecneoeklldeaaGreatDoorRpF
import Derived.Deep.RegionWith
set_option linter.unusedVariables false
set_option linter.unusedSimpArgs false
set_option maxRecDepth 100000
namespace Go.Proofs.YtmecneoeklldeaaGreatDoor
open Go.RowKit
set_option maxHeartbeats 4000000 in
theorem Ksw (s : List UInt8) (hs : s.length ≤ 1099511627776) (w : World) (n v0 v1 v2 v3 : Int)
    (hC : ∀ (c : UInt8) (w : World), Calls Tryz.prog 123 #[.string ⟨s.toArray⟩, .string ⟨#[c]⟩] w fun e w' => e = .returned (.int .i64 (s.count c : Nat)) ∧ w' = w) :
    Calls Tryz.prog 32 #[.agg #[.int .i64 2, .int .i64 n, .string ⟨s.toArray⟩, .int .i64 v0, .int .i64 v1, .int .i64 v2, .int .i64 v3]] w fun e w' => e = .returned (.string ⟨(34 :: (rpS s ++ [34])).toArray⟩) ∧ Below w.heap.size w w' := by
  have hlen : (rpS s).length ≤ 2199023255552 := by rw [Ksh]; have := Ksj s; omega
  have hq1 : ∀ w : World, (Op.stringOp .add ⟨#[34]⟩ ⟨(rpS s).toArray⟩).run Tryz.prog w = .ok (.string ⟨(34 :: rpS s).toArray⟩) w := fun w => by
    rw [run_string_add_sum w _ _ (by simp [ByteArray.size]; omega)]
    exact congrArg (fun x => Result.ok (Value.string x) w) (ByteArray.mk_append_mk [34] (rpS s))
  have hq2 : ∀ w : World, (Op.stringOp .add ⟨(34 :: rpS s).toArray⟩ ⟨#[34]⟩).run Tryz.prog w = .ok (.string ⟨(34 :: (rpS s ++ [34])).toArray⟩) w := fun w => by
    rw [run_string_add_sum w _ _ (by simp [ByteArray.size]; omega)]
    exact congrArg (fun x => Result.ok (Value.string x) w) (ByteArray.mk_append_mk (34 :: rpS s) [34])
  go_enter Tryz.func32, Tryz.ntmps32
  go_wp2
  go_region_with (first
    | (go_at_call 73; refine (Ksv (w.heap.size + 1) (w.heap.size + 2) _ ?_ ?_ ?_).mono ?_; (simp); (omega); (exact ⟨by go_simp, by go_simp, by go_simp, by go_simp⟩); rintro e w1 ⟨rfl, c0, c1, ⟨u, c3⟩, ⟨cap, hcap, c4⟩, hfz, hOld, hbel⟩; have hs2 : w1.cell? ⟨w.heap.size, 2, none⟩ = some (.string ⟨s.toArray⟩) := (hbel.cell (p := ⟨w.heap.size, 2, none⟩) (by simp)).trans (by go_simp))
    | (go_at_call 74; refine (Kss (w.heap.size + 3) (w.heap.size + 2) cap hcap s hs _ u c0 c1 c3 c4 hfz (by omega) hOld hC).mono ?_; rintro e w2 ⟨rfl, hbl, hsz, ho, ht, hu⟩))
  all_goals go_wp2
  all_goals go_ret
  all_goals refine ⟨rfl, ?_⟩
  all_goals
    have hb0 : Below w.heap.size w w1 := Below.trans (by repeat' first | exact Below.refl _ _ | (refine Below.alloc ?_ (by simp) _) | apply Below.drew) (hbel.mono (by omega))
    have hge := hb0.size
    have hge2 := hbel.size
    refine hb0.trans ⟨ho, ht, hu, hsz, fun k hk => hbl k (by omega) (by omega)⟩
end Go.Proofs.YtmecneoeklldeaaGreatDoor
