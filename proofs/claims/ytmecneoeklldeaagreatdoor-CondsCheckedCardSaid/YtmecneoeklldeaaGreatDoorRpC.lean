/-
  strings.Replacer: buildOnce.
-/
import Derived.Test.YtmecneoeklldeaaGreatDoorRpB
set_option linter.unusedVariables false
set_option linter.unusedSimpArgs false
set_option maxRecDepth 100000
namespace Go.Proofs.YtmecneoeklldeaaGreatDoor
open Go.RowKit
/-- What buildOnce leaves, the replacer's box at b. -/
def RpBuilt (w : World) (b : Nat) (w2 : World) : Prop := w2.cell? ⟨b, 3, none⟩ = some (.iface 235 (.pointer (some ⟨w.heap.size + 1, 0, none⟩))) ∧ BsrAt w2 (w.heap.size + 1) w.heap.size ∧ (∀ k, k < w.heap.size → k ≠ b → w2.heap[k]? = w.heap[k]?) ∧ w.heap.size ≤ w2.heap.size ∧ w2.os = w.os ∧ w2.tape = w.tape ∧ w2.output = w.output
theorem Kse {w : World} {B T b off : Nat} {v : Value} (h : BsrAt w B T) (hb : ∀ k, w.cell? ⟨k, 0, none⟩ = some (.int .u8 92) → k ≠ b) (h1 : B ≠ b) (h2 : T ≠ b) : BsrAt (w.setCell ⟨b, off, none⟩ v) B T := by
  obtain ⟨p1, c1, p2, c2, r1, r2, a1, a2, a3, a4⟩ := h
  have n1 := hb p1 a1
  have n2 := hb p2 a3
  have cc : ∀ k j, k ≠ b → (w.setCell ⟨b, off, none⟩ v).cell? ⟨k, j, none⟩ = w.cell? ⟨k, j, none⟩ := fun k j hk => World.cell?_setCell_other _ _ _ _ (fun e => hk (congrArg Addr.block e).symm)
  exact ⟨p1, c1, p2, c2, r1.setOther h1 _, r2.setOther h2 _, (cc p1 0 n1).trans a1, (cc p1 1 n1).trans a2, (cc p2 0 n2).trans a3, (cc p2 1 n2).trans a4⟩
set_option maxHeartbeats 4000000 in
theorem Ksf (b g cap : Nat) (hcap : 4 ≤ cap) (w : World) (u : Value) (h0 : w.cell? ⟨b, 0, none⟩ = some (.int .u32 0)) (h1 : w.cell? ⟨b, 1, none⟩ = some (.int .i32 1)) (h3 : w.cell? ⟨b, 3, none⟩ = some u) (h4 : w.cell? ⟨b, 4, none⟩ = some (.slice (some ⟨g, 0, none⟩) 4 cap))
    (hf : ∀ j, w.frozen? ⟨b, j, none⟩ = false) (hg : RpOld w g) :
    Calls Tryz.prog 113 #[.pointer (some ⟨b, 0, none⟩)] w fun e w' => e = .returned (.tuple #[]) ∧ RpLeft b (RpBuilt w b) w' := by
  have hbl : b < w.heap.size := by
    rcases Nat.lt_or_ge b w.heap.size with h | h
    · exact h
    · simp [World.cell?, Array.getElem?_eq_none h] at h0
  go_enter Tryz.func113, Tryz.ntmps113
  go_wp2_with (go_at_call 161; refine (Ksd b g cap hcap w h4 hg).mono ?_; rintro e w2 ⟨rfl, hB, hbel⟩; have q0 := (hbel.cell (p := ⟨b, 0, none⟩) hbl).trans h0; have q1 := (hbel.cell (p := ⟨b, 1, none⟩) hbl).trans h1; have q3 := (hbel.cell (p := ⟨b, 3, none⟩) hbl).trans h3; have q4 := (hbel.cell (p := ⟨b, 4, none⟩) hbl).trans h4; have qf3 := (hbel.frozen (p := ⟨b, 3, none⟩) hbl).trans (hf 3); have qf4 := (hbel.frozen (p := ⟨b, 4, none⟩) hbl).trans (hf 4))
  go_end0
  have hne : ∀ k, w2.cell? ⟨k, 0, none⟩ = some (.int .u8 92) → k ≠ b := fun k hk e => by subst e; rw [q0] at hk; cases hk
  have nn : ∀ i j : Nat, i ≠ j → (⟨b, i, none⟩ : Addr) ≠ ⟨b, j, none⟩ := fun i j h e => h (by have := congrArg Addr.off e; simpa using this)
  have hB1 := Kse (off := 3) (v := .iface 235 (.pointer (some ⟨w.heap.size + 1, 0, none⟩))) hB hne (by omega) (by omega)
  have hne2 : ∀ k, (w2.setCell ⟨b, 3, none⟩ (.iface 235 (.pointer (some ⟨w.heap.size + 1, 0, none⟩)))).cell? ⟨k, 0, none⟩ = some (.int .u8 92) → k ≠ b := fun k hk e => by
    subst e
    rw [World.cell?_setCell_other _ _ _ _ (nn 3 0 (by decide)), q0] at hk; cases hk
  have hB2 := Kse (off := 4) (v := .slice none 0 0) hB1 hne2 (by omega) (by omega)
  have q3' := World.cell?_setCell_same w2 ⟨b, 3, none⟩ (.iface 235 (.pointer (some ⟨w.heap.size + 1, 0, none⟩))) q3
  refine ⟨rfl, ?_, ?_, ?_, ?_, ?_, hB2, fun k hk hkb => ?_, ?_, hbel.os, hbel.tape, hbel.output⟩
  · rw [World.cell?_setCell_other _ _ _ _ (nn 4 0 (by decide)), World.cell?_setCell_other _ _ _ _ (nn 3 0 (by decide))]; exact q0
  · rw [World.cell?_setCell_other _ _ _ _ (nn 4 1 (by decide)), World.cell?_setCell_other _ _ _ _ (nn 3 1 (by decide))]; exact q1
  · have := (hbel.frozen (p := ⟨b, 0, none⟩) hbl).trans (hf 0)
    go_simp
  · have := (hbel.frozen (p := ⟨b, 1, none⟩) hbl).trans (hf 1)
    go_simp
  · rw [World.cell?_setCell_other _ _ _ _ (nn 4 3 (by decide))]; exact q3'
  · rw [Below.heap_setCell _ _ _ _ hkb, Below.heap_setCell _ _ _ _ hkb]; exact hbel.block k hk
  · simp; exact hbel.size
end Go.Proofs.YtmecneoeklldeaaGreatDoor
