/-
  strings.Replacer: Replace, of a fresh one.
-/
import Derived.Test.YtmecneoeklldeaaGreatDoorRpD
set_option linter.unusedVariables false
set_option linter.unusedSimpArgs false
set_option maxRecDepth 100000
namespace Go.Proofs.YtmecneoeklldeaaGreatDoor
open Go.RowKit
/-- What is known behind Do. -/
theorem Ksr {b : Nat} {w w2 W : World} (hb : b < w.heap.size) (h : RpBuilt (w.setCell ⟨b, 1, none⟩ (.int .i32 1)) b w2) (h0 : w2.cell? ⟨b, 0, none⟩ = some (.int .u32 0)) (hW : W = (w2.drew.setCell ⟨b, 0, none⟩ (.int .u32 1)).setCell ⟨b, 1, none⟩ (.int .i32 0)) :
    W.cell? ⟨b, 3, none⟩ = some (.iface 235 (.pointer (some ⟨w.heap.size + 1, 0, none⟩))) ∧ BsrAt W (w.heap.size + 1) w.heap.size ∧ (∀ k, k < w.heap.size → k ≠ b → W.heap[k]? = w.heap[k]?) ∧ w.heap.size ≤ W.heap.size ∧ W.os = w.os ∧ W.tape = w.tape ∧ W.output = w.output := by
  obtain ⟨a3, aB, ak, as', ao, at', au⟩ := h
  have hsz : (w.setCell ⟨b, 1, none⟩ (.int .i32 1)).heap.size = w.heap.size := by simp
  rw [hsz] at a3 aB ak as'
  have nn : ∀ i j : Nat, i ≠ j → (⟨b, i, none⟩ : Addr) ≠ ⟨b, j, none⟩ := fun i j h e => h (by have := congrArg Addr.off e; simpa using this)
  have aB' : BsrAt w2.drew (w.heap.size + 1) w.heap.size := aB
  have h0' : w2.drew.cell? ⟨b, 0, none⟩ = some (.int .u32 0) := h0
  have hne : ∀ k, w2.drew.cell? ⟨k, 0, none⟩ = some (.int .u8 92) → k ≠ b := fun k hk e => by subst e; rw [h0'] at hk; cases hk
  have hB1 := Kse (off := 0) (v := .int .u32 1) aB' hne (by omega) (by omega)
  have hne2 : ∀ k, (w2.drew.setCell ⟨b, 0, none⟩ (.int .u32 1)).cell? ⟨k, 0, none⟩ = some (.int .u8 92) → k ≠ b := fun k hk e => by
    subst e
    rw [World.cell?_setCell_same _ _ _ h0'] at hk; cases hk
  have hB2 := Kse (off := 1) (v := .int .i32 0) hB1 hne2 (by omega) (by omega)
  subst hW
  refine ⟨?_, hB2, fun k hk hkb => ?_, ?_, ao, at', au⟩
  · rw [World.cell?_setCell_other _ _ _ _ (nn 1 3 (by decide)), World.cell?_setCell_other _ _ _ _ (nn 0 3 (by decide))]; exact a3
  · rw [Below.heap_setCell _ _ _ _ hkb, Below.heap_setCell _ _ _ _ hkb]
    exact (ak k hk hkb).trans (Below.heap_setCell _ _ _ _ hkb)
  · simpa using as'
set_option maxHeartbeats 4000000 in
theorem Kss (b g cap : Nat) (hcap : 4 ≤ cap) (s : List UInt8) (hs : s.length ≤ 1099511627776) (w : World) (u : Value) (h0 : w.cell? ⟨b, 0, none⟩ = some (.int .u32 0)) (h1 : w.cell? ⟨b, 1, none⟩ = some (.int .i32 0)) (h3 : w.cell? ⟨b, 3, none⟩ = some u) (h4 : w.cell? ⟨b, 4, none⟩ = some (.slice (some ⟨g, 0, none⟩) 4 cap))
    (hf : ∀ j, w.frozen? ⟨b, j, none⟩ = false) (hgb : g ≠ b) (hg : RpOld w g)
    (hC : ∀ (c : UInt8) (w : World), Calls Tryz.prog 123 #[.string ⟨s.toArray⟩, .string ⟨#[c]⟩] w fun e w' => e = .returned (.int .i64 (s.count c : Nat)) ∧ w' = w) :
    Calls Tryz.prog 74 #[.pointer (some ⟨b, 0, none⟩), .string ⟨s.toArray⟩] w fun e w' => e = .returned (.string ⟨(rpS s).toArray⟩) ∧ (∀ k, k < w.heap.size → k ≠ b → w'.heap[k]? = w.heap[k]?) ∧ w.heap.size ≤ w'.heap.size ∧ w'.os = w.os ∧ w'.tape = w.tape ∧ w'.output = w.output := by
  have hbl : b < w.heap.size := by
    rcases Nat.lt_or_ge b w.heap.size with h | h
    · exact h
    · simp [World.cell?, Array.getElem?_eq_none h] at h0
  have nn : ∀ i j : Nat, i ≠ j → (⟨b, i, none⟩ : Addr) ≠ ⟨b, j, none⟩ := fun i j h e => h (by have := congrArg Addr.off e; simpa using this)
  have ng : ∀ i j : Nat, (⟨b, i, none⟩ : Addr) ≠ ⟨g, j, none⟩ := fun i j e => hgb (congrArg Addr.block e).symm
  have hb1 := (Ksf b g cap hcap (w.setCell ⟨b, 1, none⟩ (.int .i32 1)) u ((World.cell?_setCell_other _ _ _ _ (nn 1 0 (by decide))).trans h0) (World.cell?_setCell_same w ⟨b, 1, none⟩ _ h1) ((World.cell?_setCell_other _ _ _ _ (nn 1 3 (by decide))).trans h3) ((World.cell?_setCell_other _ _ _ _ (nn 1 4 (by decide))).trans h4) (fun j => by have := hf j; go_simp)
    ⟨(World.cell?_setCell_other _ _ _ _ (ng 1 0)).trans hg.1, (World.cell?_setCell_other _ _ _ _ (ng 1 1)).trans hg.2.1, (World.cell?_setCell_other _ _ _ _ (ng 1 2)).trans hg.2.2.1, (World.cell?_setCell_other _ _ _ _ (ng 1 3)).trans hg.2.2.2⟩).mono
      (fun e w' (h : e = _ ∧ RpLeft b _ w') => (⟨h.1, h.2.1, h.2.2.1, h.2.2.2.1, h.2.2.2.2.1, h.2.2.2.2.2, h.2.1⟩ : e = .returned (.tuple #[]) ∧ RpLeft b (fun w2 => RpBuilt (w.setCell ⟨b, 1, none⟩ (.int .i32 1)) b w2 ∧ w2.cell? ⟨b, 0, none⟩ = some (.int .u32 0)) w'))
  have hm : ∀ (x : Option Addr) (w : World), (method 411 235 (.pointer x) "Replace").run Tryz.prog w = .ok (279, .pointer x) w := fun _ _ => by kernel_rfl
  have hf0 := hf 0
  have hf1 := hf 1
  clear hf
  go_enter Tryz.func74, Tryz.ntmps74
  go_wp2_with (first | (go_at_call 112; refine (Krx b w _ h0 h1 hf0 hf1 hb1).mono ?_; rintro e w' ⟨rfl, w2, ⟨hQ, hq0⟩, hw'⟩; obtain ⟨g3, gB, gk, gs, go, gt, gu⟩ := Ksr hbl hQ hq0 hw'; clear hw') | (go_at_call 279; refine (Ksq (w.heap.size + 1) w.heap.size s hs _ gB (by obtain ⟨p1, c1, p2, c2, r1, r2, _⟩ := gB; exact r1.lt) (by obtain ⟨p1, c1, p2, c2, r1, r2, _⟩ := gB; exact r2.lt) hC).mono ?_; rintro e w'' ⟨rfl, hbel⟩))
  go_ret
  exact ⟨rfl, fun k hk hkb => (hbel.block k (by omega)).trans (gk k hk hkb), by have := hbel.size; omega, hbel.os.trans go, hbel.tape.trans gt, hbel.output.trans gu⟩
end Go.Proofs.YtmecneoeklldeaaGreatDoor
