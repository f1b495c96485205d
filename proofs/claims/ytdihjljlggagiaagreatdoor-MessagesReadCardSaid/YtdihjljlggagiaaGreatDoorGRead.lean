/-
  Numbers read off bytes, two ways.
-/
import Derived.Test.YtdihjljlggagiaaGreatDoorGBase
set_option linter.unusedVariables false
set_option linter.unusedSimpArgs false
set_option maxRecDepth 100000
namespace Go.Gk
def numS (s x : Int) : Int := bitsV .or .u64 (shlV .u64 s 8) (IntKind.u64.wrap x)
def numV (l : List Int) : Int := l.foldl numS 0
theorem numV_snoc (l : List Int) (x : Int) : numV (l ++ [x]) = numS (numV l) x := by simp [numV]
theorem rangeF_fold {α σ : Type} (g : σ → α → σ) : ∀ (l : List α) (i : Nat) (s : σ), rangeF (fun _ x s => some (g s x)) i l s = some (l.foldl g s)
  | [], i, s => rfl
  | x :: l, i, s => by
    simp only [rangeF, List.foldl_cons]
    exact rangeF_fold g l (i + 1) (g s x)
theorem numV_zeros : ∀ n : Nat, numV (List.replicate n 0) = 0
  | 0 => rfl
  | n + 1 => by
    rw [List.replicate_succ', numV_snoc, numV_zeros n]
    decide
theorem bits_nn (x y : Int) : 0 ≤ bitsV .or .u64 x y ∧ bitsV .or .u64 x y < 18446744073709551616 := ⟨Int.emod_nonneg _ (by decide), Int.emod_lt_of_pos _ (by decide)⟩
/-! ### The program's -/
theorem ptake_bad (b : List Int) (a : Int) (n : Nat) (hn : n ≤ 300) : m_name_decoder_take ⟨b, a, true⟩ (n : Int) = some (List.replicate n 0, ⟨b, a, true⟩) := by
  unfold m_name_decoder_take makeZ
  show (bi (bif Nat.ble n 16777216 then some (List.replicate n (0 : Int)) else none) _) = _
  rw [Nat.ble_eq_true_of_le (by omega)]
  rfl
theorem ptake_ok (b : List Int) (at' n : Nat) (hb : b.length ≤ 4096) (hn : n ≤ 300) (h : at' + n ≤ b.length) : m_name_decoder_take ⟨b, (at' : Int), false⟩ (n : Int) = some ((b.take (at' + n)).drop at', ⟨b, ((at' + n : Nat) : Int), false⟩) := by
  unfold m_name_decoder_take
  simp only [cond_false, bi_some]
  rw [show wi ((b.length : Int) - (at' : Int)) = ((b.length - at' : Nat) : Int) by rw [wi_id (by omega) (by omega)]; omega, decide_eq_false (show ¬ (n : Int) > ((b.length - at' : Nat) : Int) by omega)]
  rw [show wi ((at' : Int) + (n : Int)) = ((at' + n : Nat) : Int) by rw [wi_id (by omega) (by omega)]; omega, show wi (((at' + n : Nat) : Int) - (n : Int)) = (at' : Int) by rw [wi_id (by omega) (by omega)]; omega]
  rw [subZ_cast (by omega) (by omega)]
  rfl
theorem ptake_end (b : List Int) (at' n : Nat) (hb : b.length ≤ 4096) (ha : at' ≤ b.length) (hn : n ≤ 300) (h : ¬ at' + n ≤ b.length) : m_name_decoder_take ⟨b, (at' : Int), false⟩ (n : Int) = some (List.replicate n 0, ⟨b, (at' : Int), true⟩) := by
  unfold m_name_decoder_take
  simp only [cond_false, bi_some]
  rw [show wi ((b.length : Int) - (at' : Int)) = ((b.length - at' : Nat) : Int) by rw [wi_id (by omega) (by omega)]; omega, decide_eq_true (show (n : Int) > ((b.length - at' : Nat) : Int) by omega)]
  unfold makeZ
  show (bi (bif Nat.ble n 16777216 then some (List.replicate n (0 : Int)) else none) _) = _
  rw [Nat.ble_eq_true_of_le (by omega)]
  rfl
theorem pnum_of {x : T_name_decoder} {n : Int} {l : List Int} {y : T_name_decoder} (h : m_name_decoder_take x n = some (l, y)) : m_name_decoder_number x n = some (numV l, y) := by
  unfold m_name_decoder_number
  rw [h]
  show bi (rangeF (fun _ x s => some (numS s x)) 0 l 0) _ = _
  rw [rangeF_fold]
  rfl
/-! ### The reference's -/
theorem rtake_bad (b : List Int) (a : Int) (n : Nat) (hn : 1 ≤ n) (hn2 : n ≤ 300) : m_laneref1_bytesReader_take ⟨b, a, true⟩ (n : Int) = some (0, ⟨b, a, true⟩) := by
  unfold m_laneref1_bytesReader_take
  rw [decide_eq_true (show (n : Int) ≤ 9223372036854775807 by omega)]
  obtain ⟨m, rfl⟩ : ∃ m, n = m + 1 := ⟨n - 1, by omega⟩
  rfl
theorem rtake_ok (b : List Int) (at' n : Nat) (hb : b.length ≤ 4096) (ha : at' ≤ b.length) (hn2 : n ≤ 300) :
    (at' + n ≤ b.length ∧ m_laneref1_bytesReader_take ⟨b, (at' : Int), false⟩ (n : Int) = some (numV ((b.take (at' + n)).drop at'), ⟨b, ((at' + n : Nat) : Int), false⟩)) ∨
    (¬ at' + n ≤ b.length ∧ ∃ a, m_laneref1_bytesReader_take ⟨b, (at' : Int), false⟩ (n : Int) = some (0, ⟨b, a, true⟩)) := by
  unfold m_laneref1_bytesReader_take
  rw [decide_eq_true (show (n : Int) ≤ 9223372036854775807 by omega)]
  show (_ ∧ bi (rangeI _ _ _) _ = _) ∨ (_ ∧ ∃ a, bi (rangeI _ _ _) _ = _)
  have key := rangeI_at (n := n) (f := fun (i1 : Nat) (s2 : T_laneref1_bytesReader × Int) => bi (bif s2.1.bad then (some true) else (some (decide ((s2.1.v_at : Int) ≥ (s2.1.b.length : Int))))) fun q13 => bif q13 then (bi (some ((0 : Int), (⟨s2.1.b, s2.1.v_at, q13⟩ : T_laneref1_bytesReader))) fun v => some (.out v)) else (bi (getZ s2.1.b s2.1.v_at) fun x21 => some (.go ((⟨s2.1.b, wi (s2.1.v_at + 1), q13⟩ : T_laneref1_bytesReader), bitsV .or .u64 (shlV .u64 s2.2 8) (IntKind.u64.wrap (x21)))))) (s := (⟨b, (at' : Int), false⟩, 0))
    (fun i s => at' + i ≤ b.length ∧ s = (⟨b, ((at' + i : Nat) : Int), false⟩, numV ((b.take (at' + i)).drop at'))) (fun r => ¬ at' + n ≤ b.length ∧ ∃ a, r = (0, ⟨b, a, true⟩))
    ⟨by omega, by simp [numV]⟩ (fun i s hi hs => by
      obtain ⟨h1, rfl⟩ := hs
      simp only [cond_false, bi_some]
      by_cases hlt : at' + i < b.length
      · refine .inl ⟨_, ?_, by omega, rfl⟩
        have hg : b[at' + i]? = some (b[at' + i]) := List.getElem?_eq_getElem hlt
        rw [decide_eq_false (show ¬ ((at' + i : Nat) : Int) ≥ (b.length : Int) by omega), cond_false, getZ_nn hg, bi_some, show wi (((at' + i : Nat) : Int) + 1) = ((at' + (i + 1) : Nat) : Int) by rw [wi_id (by omega) (by omega)]; omega]
        have : (b.take (at' + (i + 1))).drop at' = (b.take (at' + i)).drop at' ++ [b[at' + i]] := by
          rw [← Nat.add_assoc, List.take_add_one, hg, List.drop_append_of_le_length (by rw [List.length_take]; omega)]
          rfl
        rw [this, numV_snoc]
        rfl
      · rw [decide_eq_true (show ((at' + i : Nat) : Int) ≥ (b.length : Int) by omega)]
        exact .inr ⟨_, rfl, by omega, _, rfl⟩)
  rcases key with ⟨s', e, h1, rfl⟩ | ⟨r, e, h1, a, rfl⟩
  · refine .inl ⟨h1, ?_⟩
    rw [e]
    rfl
  · refine .inr ⟨h1, a, ?_⟩
    rw [e]
    rfl
end Go.Gk
