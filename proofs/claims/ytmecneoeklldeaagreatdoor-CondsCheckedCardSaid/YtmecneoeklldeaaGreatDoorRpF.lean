/-
  strings.Replacer: NewReplacer of two pairs.
-/
import Derived.Test.YtmecneoeklldeaaGreatDoorRpE
set_option linter.unusedVariables false
set_option linter.unusedSimpArgs false
set_option maxRecDepth 100000
namespace Go.Proofs.YtmecneoeklldeaaGreatDoor
open Go.RowKit
/-- The four strings are taken over into a row of their own. -/
theorem Kst (g : Nat) (w : World) (hg : RpOld w g) (hgl : g < w.heap.size) :
    ∃ cap W', 4 ≤ cap ∧ (Builtin.append_ #[50, 50] 50 #[.slice none 0 0, .slice (some ⟨g, 0, none⟩) 4 4]).run Tryz.prog w = .ok (.slice (some ⟨w.heap.size, 0, none⟩) 4 cap) W' ∧ RpOld W' w.heap.size ∧ W'.heap.size = w.heap.size + 1 ∧ Below w.heap.size w W' := by
  obtain ⟨i9, hi9, hz9, hs9, hb9⟩ := info_parts (show (Tryz.prog.info? 9).map (fun i => (i.zero, i.size, i.bytes)) = some (some (.string .empty), 1, 16) by kernel_rfl)
  obtain ⟨g0, g1, g2, g3⟩ := hg
  have h := run_append_nil (P := Tryz.prog) (w := w) 50 50 9 i9 (.string .empty) Tryz.underlying50 hi9 hz9 ⟨g, 0, none⟩ 4 4 [.string ⟨#[92]⟩, .string ⟨#[92, 92]⟩, .string ⟨#[34]⟩, .string ⟨#[92, 34]⟩] (by simp [hs9]) (fun j v hj => by
    match j, hj with
    | 0, hj => simp at hj; subst hj; exact g0
    | 1, hj => simp at hj; subst hj; exact g1
    | 2, hj => simp at hj; subst hj; exact g2
    | 3, hj => simp at hj; subst hj; exact g3
    | j + 4, hj => simp at hj) (by decide) (by decide) (by rw [hb9]; decide)
  have hge := grownCap_ge w 4 0 9
  generalize grownCap w 4 0 9 = cap at h hge
  have hat : ∀ (cs : Array Value) (j : Nat), ((w.drew.alloc (.cells cs 9)).cell? ⟨w.heap.size, j, none⟩) = cs[j]? := fun cs j => by
    have : (w.drew.alloc (.cells cs 9)).heap[w.heap.size]? = some (.cells cs 9 (0, 0)) := by
      have := heap_alloc_new w.drew (.cells cs 9)
      exact this
    unfold World.cell?
    rw [this]
    rfl
  refine ⟨cap, _, hge, h, ⟨?_, ?_, ?_, ?_⟩, by simp, (Below.refl _ _).drew.alloc (Nat.le_refl _) _⟩ <;> (rw [hat, Array.getElem?_append_left (by decide)]; rfl)
set_option maxHeartbeats 4000000 in
theorem Ksu (g : Nat) (w : World) (hg : RpOld w g) (hgl : g < w.heap.size) :
    Calls Tryz.prog 73 #[.slice (some ⟨g, 0, none⟩) 4 4] w fun e w' => e = .returned (.pointer (some ⟨w.heap.size + 1, 0, none⟩)) ∧ w'.cell? ⟨w.heap.size + 1, 0, none⟩ = some (.int .u32 0) ∧ w'.cell? ⟨w.heap.size + 1, 1, none⟩ = some (.int .i32 0) ∧ (∃ u, w'.cell? ⟨w.heap.size + 1, 3, none⟩ = some u) ∧
      (∃ cap, 4 ≤ cap ∧ w'.cell? ⟨w.heap.size + 1, 4, none⟩ = some (.slice (some ⟨w.heap.size, 0, none⟩) 4 cap)) ∧ (∀ j, w'.frozen? ⟨w.heap.size + 1, j, none⟩ = false) ∧ RpOld w' w.heap.size ∧ Below w.heap.size w w' := by
  obtain ⟨cap, W, hcap, ha, hW, hsz, hb⟩ := Kst g w hg hgl
  go_enter Tryz.func73, Tryz.ntmps73
  go_wp2_with (at_builtin; refine Ksb rfl _ _ _ rfl _ _ _ _ ha rfl rfl ?_)
  go_ret
  have hc : ∀ (cs : Array Value) (t : TypeId) (j : Nat), (W.alloc (.cells cs t)).cell? ⟨w.heap.size + 1, j, none⟩ = cs[j]? := fun cs t j => by
    rw [← hsz]
    unfold World.cell?
    rw [heap_alloc_new W (.cells cs t)]
    rfl
  have hz : ∀ (cs : Array Value) (t : TypeId) (j : Nat), (W.alloc (.cells cs t)).frozen? ⟨w.heap.size + 1, j, none⟩ = false := fun cs t j => by
    rw [← hsz]
    unfold World.frozen?
    rw [heap_alloc_new W (.cells cs t)]
    simp
  refine ⟨rfl, by rw [hc]; rfl, by rw [hc]; rfl, ⟨_, by rw [hc]; rfl⟩, ⟨cap, hcap, by rw [hc]; rfl⟩, fun j => hz _ _ j, ?_, hb.alloc (by omega) _⟩
  have ho : ∀ (o : Obj) (j : Nat), (W.alloc o).cell? ⟨w.heap.size, j, none⟩ = W.cell? ⟨w.heap.size, j, none⟩ := fun o j => World.cell?_alloc_past _ _ _ (by omega)
  exact ⟨(ho _ 0).trans hW.1, (ho _ 1).trans hW.2.1, (ho _ 2).trans hW.2.2.1, (ho _ 3).trans hW.2.2.2⟩
theorem Ksv (g N : Nat) (w : World) (hN : w.heap.size = N) (hgl : g < N) (hg : RpOld w g) :
    Calls Tryz.prog 73 #[.slice (some ⟨g, 0, none⟩) 4 4] w fun e w' => e = .returned (.pointer (some ⟨N + 1, 0, none⟩)) ∧ w'.cell? ⟨N + 1, 0, none⟩ = some (.int .u32 0) ∧ w'.cell? ⟨N + 1, 1, none⟩ = some (.int .i32 0) ∧ (∃ u, w'.cell? ⟨N + 1, 3, none⟩ = some u) ∧
      (∃ cap, 4 ≤ cap ∧ w'.cell? ⟨N + 1, 4, none⟩ = some (.slice (some ⟨N, 0, none⟩) 4 cap)) ∧ (∀ j, w'.frozen? ⟨N + 1, j, none⟩ = false) ∧ RpOld w' N ∧ Below N w w' := by
  subst hN
  exact Ksu g w hg hgl
end Go.Proofs.YtmecneoeklldeaaGreatDoor
