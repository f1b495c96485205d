/-
  The library computes its models: numbers as texts.
-/
import Derived.Test.YtffmljbfffojlaaGreatDoorGt
import Derived.Test.YtffmljbfffojlaaGreatDoorMStr3
import Derived.Test.YtffmljbfffojlaaGreatDoorLays
import Derived.Shelf.Spec.TrailingZeros
import Derived.Lib.AppendIntMem
import Derived.Shelf.Strconv.Itoa3
set_option linter.unusedVariables false
set_option linter.unusedSimpArgs false
set_option maxRecDepth 100000
namespace Go.Proofs.YtffmljbfffojlaaGreatDoor
open Go.Gk Go.Shelf Go.RowKit Go.Sort Go.Lib
theorem tab10 {w : World} (h : TabX w) : Lib.TabIs Tryz.prog w "internal/strconv.uint64pow10" .u64 Lib.pow10Tab := by
  obtain ⟨t, e, h⟩ := h.2.2.1
  unfold Lib.TabIs World.var?
  rw [show Tryz.prog.globalNamed "internal/strconv.uint64pow10" = some 3 by kernel_rfl]
  show (match w.heap[3]? with | some (.cells cs _ _) => some cs | _ => none) = _
  rw [h]
theorem c_strconv_Itoa {n : Int} {r : Str} (h : m_strconv_Itoa n = some r) : Pure Tryz.prog 27 [I n] (S r) := by
  obtain ⟨h1, h⟩ := gd_ok h
  cases h
  rw [Bool.and_eq_true, decide_eq_true_eq, decide_eq_true_eq] at h1
  exact Pure.of_belowX rfl rfl fun w hT => (Tryz.strconv_Itoa n h1.1 h1.2 w (tab10 hT)).mono fun e w' ⟨he, k, os, hw⟩ => ⟨he, by subst hw; exact Lib.below_grow w.heap.size w (Nat.le_refl _) k os⟩
theorem tz16 (w : World) (hT : TabB 7 Lib.deBruijn64tab w) : Calls Tryz.prog 186 #[.int .u64 16] w fun e w' => e = .returned (.int .i64 4) ∧ w' = w := by
  have hc : w.cell? ⟨7, 15, none⟩ = some (.int .u8 4) := hT 15 (by decide)
  have key : IntKind.u64.wrap (bits BinOp.and IntKind.u64 16 (IntKind.u64.wrap (-16)) * 285870213051353865) / 288230376151711744 = 15 := by decide +kernel
  go_enter Tryz.func186, Tryz.ntmps186
  go_wp2_with (simp only [key])
  go_ret
  exact ⟨rfl, rfl⟩
theorem tzu16 (w : World) (hT : TabB 7 Lib.deBruijn64tab w) : Calls Tryz.prog 174 #[.int .u64 16] w fun e w' => e = .returned (.int .i64 4) ∧ w' = w := by
  have ee : ∀ args w, (callFunc 186 args).run Tryz.prog w = .ok (.enter 186 args) w := enters_of Tryz.func186 (by kernel_rfl) rfl
  go_enter Tryz.func174, Tryz.ntmps174
  go_wp2_with (go_at_fn 186; refine (tz16 _ hT).mono ?_; rintro e w' ⟨rfl, rfl⟩)
  go_ret
  exact ⟨rfl, rfl⟩
theorem pow2_16 (w : World) : Calls Tryz.prog 173 #[.int .i64 16] w fun e w' => e = .returned (.bool true) ∧ w' = w := by
  go_enter Tryz.func173, Tryz.ntmps173
  go_wp2
  go_ret
  exact ⟨rfl, rfl⟩
theorem hex_at (u : Nat) (hu : u < 16) : ([48, 49, 50, 51, 52, 53, 54, 55, 56, 57, 97, 98, 99, 100, 101, 102, 103, 104, 105, 106, 107, 108, 109, 110, 111, 112, 113, 114, 115, 116, 117, 118, 119, 120, 121, 122] : List UInt8)[u]? = some (hexB u) := by
  have : ∀ u, u < 16 → ([48, 49, 50, 51, 52, 53, 54, 55, 56, 57, 97, 98, 99, 100, 101, 102, 103, 104, 105, 106, 107, 108, 109, 110, 111, 112, 113, 114, 115, 116, 117, 118, 119, 120, 121, 122] : List UInt8)[u]? = some (hexB u) := by decide
  exact this u hu
theorem tabB_alloc {w : World} (hT : TabB 7 Lib.deBruijn64tab w) (o : Obj) : TabB 7 Lib.deBruijn64tab (w.alloc o) := fun j hj => by
  have h := hT j hj
  have hb : 7 < w.heap.size := by
    rcases Nat.lt_or_ge 7 w.heap.size with hb | hb
    · exact hb
    · simp [World.cell?, Array.getElem?_eq_none hb] at h
  rw [← h]
  exact World.cell?_of_block (RowKit.Below.heap_alloc w o 7 hb)
theorem fmtBits (u : Nat) (hu : u < 16) (w : World) (hT : TabB 7 Lib.deBruijn64tab w) : Calls Tryz.prog 143 #[.slice none 0 0, .int .u64 u, .int .i64 16, .bool false, .bool false] w fun e w' =>
    e = .returned (.tuple #[.slice none 0 0, .string ⟨[hexB u].toArray⟩]) ∧ ∃ os, w' = grow w os := by
  have e1 : ∀ args w, (callFunc 174 args).run Tryz.prog w = .ok (.enter 174 args) w := enters_of Tryz.func174 (by kernel_rfl) rfl
  have e2 : ∀ args w, (callFunc 173 args).run Tryz.prog w = .ok (.enter 173 args) w := enters_of Tryz.func173 (by kernel_rfl) rfl
  have iu : (u : Int) < 16 := by omega
  go_enter Tryz.func143, Tryz.ntmps143
  go_wp2_with (first
    | (go_at_fn 173; refine (pow2_16 _).mono ?_; rintro e w' ⟨rfl, rfl⟩)
    | (go_at_fn 174; refine (tzu16 _ (tabB_alloc hT _)).mono ?_; rintro e w' ⟨rfl, rfl⟩))
  refine wp_loop_rounds 1 ?_
  rw [rounds_succ]
  go_wp2
  have hcv : ∀ c : UInt8, (convert 105 9 (.slice (some ⟨w.heap.size, 64, none⟩) 1 1)).run Tryz.prog (w.alloc (.cells (Tryz.zeroCells177.setIfInBounds 64 (.int .u8 c.toNat)) 177)) = .ok (.string ⟨[c].toArray⟩) (w.alloc (.cells (Tryz.zeroCells177.setIfInBounds 64 (.int .u8 c.toNat)) 177)) := fun c => by
    exact run_convert_bytes_back (P := Tryz.prog) (w.alloc (.cells (Tryz.zeroCells177.setIfInBounds 64 (.int .u8 c.toNat)) 177)) 105 9 5 ⟨w.heap.size, 64, none⟩ 1 [c] Tryz.underlying105 Tryz.underlying5 Tryz.underlying9 (fun j hj => by
      obtain rfl : j = 0 := by simpa using hj
      rw [Lib.add_plain, World.cell?_alloc_new]
      simp only [Nat.add_zero, List.getElem_cons_zero]
      rw [Array.getElem?_setIfInBounds_self_of_lt (by rw [show Tryz.zeroCells177.size = 65 by kernel_rfl]; decide)])
  rw [hcv]
  go_wp2
  go_ret2
  have hx : ∀ h : u < (⟨#[48, 49, 50, 51, 52, 53, 54, 55, 56, 57, 97, 98, 99, 100, 101, 102, 103, 104, 105, 106, 107, 108, 109, 110, 111, 112, 113, 114, 115, 116, 117, 118, 119, 120, 121, 122]⟩ : ByteArray).size, (⟨#[48, 49, 50, 51, 52, 53, 54, 55, 56, 57, 97, 98, 99, 100, 101, 102, 103, 104, 105, 106, 107, 108, 109, 110, 111, 112, 113, 114, 115, 116, 117, 118, 119, 120, 121, 122]⟩ : ByteArray)[u]'h = hexB u := fun h => by
    have e := hex_at u hu
    obtain ⟨h1, e⟩ := List.getElem?_eq_some_iff.1 e
    rw [← e, ByteArray.getElem_eq_getElem_data]
    rfl
  refine ⟨?_, #[.cells (Tryz.zeroCells177.setIfInBounds 64 (.int .u8 (hexB u).toNat)) 177], ?_⟩
  · rw [hx]; rfl
  · rw [hx]; exact alloc_eq_grow _ _
theorem fmtUint16 (u : Nat) (hu : u < 16) (w : World) (hT : TabB 7 Lib.deBruijn64tab w) : Calls Tryz.prog 89 #[.int .u64 u, .int .i64 16] w fun e w' =>
    e = .returned (.string ⟨[hexB u].toArray⟩) ∧ ∃ os, w' = grow w os := by
  have e1 : ∀ args w, (callFunc 143 args).run Tryz.prog w = .ok (.enter 143 args) w := enters_of Tryz.func143 (by kernel_rfl) rfl
  go_enter Tryz.func89, Tryz.ntmps89
  go_wp2_with (go_at_fn 143; refine (fmtBits u hu _ hT).mono ?_; rintro e w' ⟨rfl, os, rfl⟩)
  go_ret
  exact ⟨rfl, os, rfl⟩
theorem fmtUint10 (u : Nat) (hu64 : u < 18446744073709551616) (w : World) (htab : Lib.TabIs Tryz.prog w "internal/strconv.uint64pow10" .u64 Lib.pow10Tab) : Calls Tryz.prog 89 #[.int .u64 u, .int .i64 10] w fun e w' =>
    e = .returned (.string ⟨(Lib.decDigits u).toArray⟩) ∧ ∃ k os, w' = grow (w.drewN k) os := by
  have e1 : ∀ args w, (callFunc 140 args).run Tryz.prog w = .ok (.enter 140 args) w := enters_of Tryz.func140 (by kernel_rfl) rfl
  have e2 : ∀ args w, (callFunc 141 args).run Tryz.prog w = .ok (.enter 141 args) w := enters_of Tryz.func141 (by kernel_rfl) rfl
  have e3 : ∀ args w, (callFunc 142 args).run Tryz.prog w = .ok (.enter 142 args) w := enters_of Tryz.func142 (by kernel_rfl) rfl
  by_cases hs : u < 100
  · have iu : (u : Int) < 100 := by omega
    go_enter Tryz.func89, Tryz.ntmps89
    go_wp2_with (go_at_fn 140; refine (Tryz.internal_strconv_small u hs _).mono ?_; rintro e w' ⟨rfl, rfl⟩)
    go_ret
    exact ⟨rfl, 0, #[], by simp [World.drewN_zero]⟩
  · have hu1 : 1 ≤ u := by omega
    have hnd20 : Lib.nDigits u ≤ 20 := by have := Lib.numDigits_eq u hu1 hu64; split at this <;> omega
    have hsl : ∀ W, (Instr.sliceAt 149 (.pointer (some ⟨w.heap.size, 0, none⟩)) none (some (.int .i64 (Lib.nDigits u : Int))) none).run Tryz.prog W = .ok (.slice (some ⟨w.heap.size, 0, none⟩) (Lib.nDigits u) 24) W := fun W => by
      have hal : Tryz.prog.arrayLen 149 = 24 := by simp [Program.arrayLen, Tryz.underlying149]
      rw [run_sliceAt_array_h W 149 ⟨w.heap.size, 0, none⟩ (by simp [Program.arrayLen, Program.elem, Tryz.underlying149]) .i64 (Lib.nDigits u : Int) (by omega) (by rw [hal]; omega)]
      go_simp
    have hH0 := Lib.holds_zero0 w 149 (Lib.nDigits u) (by omega)
    have hfmt := Tryz.internal_strconv_formatBase10 w.heap.size 0 24 u (Array.replicate (Lib.nDigits u) 0) (w.alloc (.cells Lib.zeros24 149)) hH0 (by rw [Array.size_replicate]; exact Lib.lt_pow_nDigits u) hu64 (by rw [Array.size_replicate]; omega)
    rw [Array.size_replicate] at hfmt
    have HH0 := Lib.hid hH0
    have iu : (100 : Int) ≤ (u : Int) := by omega
    clear hH0
    go_enter Tryz.func89, Tryz.ntmps89
    go_wp2_with (first
      | (go_at_fn 141; refine (Tryz.internal_strconv_numDigits u hu1 hu64 _ (Lib.tabIs_alloc htab _)).mono ?_; rintro e w' ⟨rfl, rfl⟩))
    go_at_fn 142
    refine hfmt.mono ?_
    rintro e w' ⟨rfl, k, v', dk, rfl, hF⟩
    have hcv : (convert 105 9 (.slice (some ⟨w.heap.size, 0, none⟩) (Lib.nDigits u) 24)).run Tryz.prog ((putRow (fun (b : UInt8) => Value.int .u8 (b.toNat : Int)) (w.alloc (.cells Lib.zeros24 149)) w.heap.size 0 dk).drewN k) = .ok (.string ⟨(Lib.decDigits u).toArray⟩) ((putRow (fun (b : UInt8) => Value.int .u8 (b.toNat : Int)) (w.alloc (.cells Lib.zeros24 149)) w.heap.size 0 dk).drewN k) := by
      have h := run_convert_bytes_back (P := Tryz.prog) ((putRow (fun (b : UInt8) => Value.int .u8 (b.toNat : Int)) (w.alloc (.cells Lib.zeros24 149)) w.heap.size 0 dk).drewN k) 105 9 5 ⟨w.heap.size, 0, none⟩ 24 (Lib.decDigits u) Tryz.underlying105 Tryz.underlying5 Tryz.underlying9 (fun j hj => by
        rw [Lib.row_is_numeral hF j hj, Lib.add_plain, World.cell?_drewN]
        exact cell?_putRow (fun (b : UInt8) => Value.int .u8 (b.toNat : Int)) _ w.heap.size 0 _ dk HH0.out (by rw [hF.size, Array.size_replicate]) j (by rw [hF.size]; rw [Lib.decDigits_length] at hj; exact hj))
      rw [Lib.decDigits_length] at h
      exact h
    go_wp2
    go_ret
    obtain ⟨os, eo⟩ := Lib.fin_at w (.cells Lib.zeros24 149) dk k 0
    exact ⟨rfl, k, os, eo⟩
theorem c_strconv_FormatUint {n b : Int} {r : Str} (h : m_strconv_FormatUint n b = some r) : Pure Tryz.prog 58 [U n, I b] (S r) := by
  unfold m_strconv_FormatUint at h
  split at h
  · rename_i u
    have ee : ∀ args w, (callFunc 89 args).run Tryz.prog w = .ok (.enter 89 args) w := enters_of Tryz.func89 (by kernel_rfl) rfl
    by_cases h10 : b = 10
    · subst h10
      simp only [decide_true, cond_true] at h
      obtain ⟨h1, h⟩ := gd_ok h
      cases h
      refine Pure.of_belowX rfl rfl fun w hT => ?_
      go_enter Tryz.func58, Tryz.ntmps58
      go_wp2_with (go_at_fn 89; refine (fmtUint10 u (nblt.1 h1) _ (tab10 hT)).mono ?_; rintro e w' ⟨rfl, k, os, rfl⟩)
      go_ret
      exact ⟨rfl, Lib.below_grow w.heap.size w (Nat.le_refl _) k os⟩
    · rw [show decide (b = 10) = false from decide_eq_false h10, cond_false] at h
      by_cases h16 : b = 16
      · subst h16
        simp only [decide_true, cond_true] at h
        obtain ⟨h1, h⟩ := gd_ok h
        cases h
        refine Pure.of_belowX rfl rfl fun w hT => ?_
        go_enter Tryz.func58, Tryz.ntmps58
        go_wp2_with (go_at_fn 89; refine (fmtUint16 u (nblt.1 h1) _ hT.2.2.2.1).mono ?_; rintro e w' ⟨rfl, os, rfl⟩)
        go_ret
        exact ⟨rfl, by simpa [World.drewN_zero] using Lib.below_grow w.heap.size w (Nat.le_refl _) 0 os⟩
      · rw [show decide (b = 16) = false from decide_eq_false h16, cond_false] at h
        cases h
  · cases h
end Go.Proofs.YtffmljbfffojlaaGreatDoor
