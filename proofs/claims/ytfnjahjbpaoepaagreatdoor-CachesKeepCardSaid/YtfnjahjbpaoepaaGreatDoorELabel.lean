/-
  Labels and names, two ways.
-/
import Derived.Test.YtfnjahjbpaoepaaGreatDoorEAdd
set_option linter.unusedVariables false
set_option linter.unusedSimpArgs false
set_option linter.unusedSectionVars false
set_option maxRecDepth 100000
namespace Go.Gk
def letB (c : UInt8) : Bool := (decide (97 ≤ c.toNat) && decide (c.toNat ≤ 122)) || (decide (48 ≤ c.toNat) && decide (c.toNat ≤ 57))
theorem letter_ok (c : UInt8) : m_name_isLetter (c.toNat : Int) = some (letB c) := by
  unfold m_name_isLetter letB
  congr 1
  rw [Bool.eq_iff_iff]
  simp
  omega
def labB (s : Str) : Bool := (s.all fun c => letB c || decide (c.toNat = 45)) && (decide (s ≠ []) && decide (s.length ≤ 63)) && (decide (s[0]? ≠ some 45) && decide (s[s.length - 1]? ≠ some 45))
def lbs : Str := [97, 98, 99, 100, 101, 102, 103, 104, 105, 106, 107, 108, 109, 110, 111, 112, 113, 114, 115, 116, 117, 118, 119, 120, 121, 122, 48, 49, 50, 51, 52, 53, 54, 55, 56, 57, 45]
def isLabB (s : Str) : Bool := if Lib.hasPrefix s [95] then !Lib.hasPrefix (Lib.trimPrefix s [95]) [95] && labB (Lib.trimPrefix s [95]) && decide (s.length ≤ 63) else labB s
theorem lbs_has (c : UInt8) : (letB c || decide (c.toNat = 45)) = lbs.contains c := by
  have h : ∀ n, n < 256 → (letB (UInt8.ofNat n) || decide ((UInt8.ofNat n).toNat = 45)) = lbs.contains (UInt8.ofNat n) := by decide +kernel
  have := h c.toNat c.toNat_lt
  simpa using this
theorem dw_nil (p : UInt8 → Bool) : ∀ l : Str, l.dropWhile p = [] ↔ ∀ x ∈ l, p x = true
  | [] => by simp
  | c :: l => by
    have ih := dw_nil p l
    rw [List.dropWhile_cons]
    split
    · rename_i h; rw [ih]; simp [h]
    · rename_i h; simp [h]
theorem trimS_nil (t cs : Str) : (Lib.trimS t cs == []) = t.all fun c => cs.contains c := by
  rw [Bool.eq_iff_iff, beq_iff_eq, List.all_eq_true]
  unfold Lib.trimS Lib.trimLeftS
  rw [dw_nil]
  unfold Lib.trimRightS
  constructor
  · intro h x hx
    have hs : t.reverse = t.reverse.takeWhile (cs.contains ·) ++ t.reverse.dropWhile (cs.contains ·) := (List.takeWhile_append_dropWhile).symm
    have hx' : x ∈ t.reverse := List.mem_reverse.2 hx
    rw [hs, List.mem_append] at hx'
    rcases hx' with hx' | hx'
    · have := List.all_eq_true.1 (List.all_takeWhile (p := (cs.contains ·)) (l := t.reverse)) x hx'
      exact this
    · exact h x (List.mem_reverse.2 hx')
  · intro h x hx
    have := (List.dropWhile_sublist (cs.contains ·)).subset (List.mem_reverse.1 hx)
    exact h x (List.mem_reverse.1 this)
theorem labB_pre (t : Str) (h : Lib.hasPrefix t [95] = true) : labB t = false := by
  cases t with
  | nil => rfl
  | cons c t =>
    have : c = 95 := by
      simp [Lib.hasPrefix] at h
      first | exact h | exact h.symm
    subst this
    simp [labB, letB]
theorem isLab_form (s : Str) (h : s.length ≤ 63) : isLabB s = labB (Lib.trimPrefix s [95]) := by
  unfold isLabB
  split
  · cases hp2 : Lib.hasPrefix (Lib.trimPrefix s [95]) [95] with
    | true => rw [labB_pre _ hp2]; rfl
    | false => rw [decide_eq_true h]; simp only [Bool.not_false, Bool.true_and, Bool.and_true]
  · rename_i hn
    rw [Lib.trimPrefix, if_neg hn]
theorem isLab_long (s : Str) (h : ¬ s.length ≤ 63) : isLabB s = false := by
  unfold isLabB labB
  split <;> simp [h]
theorem trim_le (s p : Str) : (Lib.trimPrefix s p).length ≤ s.length := by
  unfold Lib.trimPrefix
  split <;> simp
theorem ends_ok (s : Str) (hs : s.length ≤ 1099511627776) : (bi (bif ((!((s : Str) == [])) && (decide (((s.length : Int) : Int) ≤ 63))) then (bi (getZ s 0) fun c42 => some (((c42.toNat : Int) : Int) != 45)) else (some false)) fun q39 => bi (bif q39 then (bi (getZ s (wi ((s.length : Int) - 1))) fun c48 => some (((c48.toNat : Int) : Int) != 45)) else (some false)) fun q45 => some q45) = some ((decide (s ≠ []) && decide (s.length ≤ 63)) && (decide (s[0]? ≠ some 45) && decide (s[s.length - 1]? ≠ some 45))) := by
  by_cases he : s = []
  · subst he; rfl
  · have hpos : 0 < s.length := List.length_pos_iff.2 he
    have hb : (s == []) = false := by simpa using he
    rw [hb, wi_id (by omega) (by omega), show ((s.length : Int) - 1) = ((s.length - 1 : Nat) : Int) by omega, show (0 : Int) = ((0 : Nat) : Int) from rfl, getZ_cast, getZ_cast]
    have hc0 := List.getElem?_eq_getElem hpos
    have hcl := List.getElem?_eq_getElem (show s.length - 1 < s.length by omega)
    generalize s[0] = c0 at hc0
    generalize s[s.length - 1] = cl at hcl
    rw [hc0, hcl]
    have k0 : ((c0.toNat : Int) != 45) = decide ((some c0 : Option UInt8) ≠ some 45) := by
      rw [Bool.eq_iff_iff]; simp [← UInt8.toNat_inj]; omega
    have k1 : ((cl.toNat : Int) != 45) = decide ((some cl : Option UInt8) ≠ some 45) := by
      rw [Bool.eq_iff_iff]; simp [← UInt8.toNat_inj]; omega
    have k2 : decide ((s.length : Int) ≤ 63) = decide (s.length ≤ 63) := by rw [Bool.eq_iff_iff]; simp; omega
    simp only [bi_some, k0, k1, k2, decide_eq_true (show s ≠ [] from he), Bool.not_false, Bool.true_and]
    cases decide (s.length ≤ 63) <;> cases decide ((some c0 : Option UInt8) ≠ some 45) <;> cases decide ((some cl : Option UInt8) ≠ some 45) <;> rfl
theorem isLabel1 (k : Nat) (s : Str) (hs : s.length ≤ 1099511627776) (hp : Lib.hasPrefix s [95] = false) : m_name_isLabel (k + 1) s = some (labB s) := by
  unfold m_name_isLabel m_strings_CutPrefix
  simp only [bi_some, hp, cond_false]
  rw [rangeI_all (fun c => letB c || decide (c.toNat = 45)) false s (fun i c hc => by
    rw [getZ_cast, hc]
    simp only [bi_some, letter_ok]
    have k0 : ((c.toNat : Int) != 45) = !decide (c.toNat = 45) := by
      rw [Bool.eq_iff_iff]; simp; omega
    rw [k0]
    cases letB c <;> cases decide (c.toNat = 45) <;> rfl)]
  rw [decide_eq_true (show (s.length : Int) ≤ 9223372036854775807 by omega), gd_true, bi_some]
  cases hall : (s.all fun c => letB c || decide (c.toNat = 45)) with
  | false => simp [goI, labB, hall]
  | true =>
    simp only [if_true, goI]
    rw [ends_ok s hs]
    simp [labB, hall]
theorem isLabel_ok (k : Nat) (s : Str) (hs : s.length ≤ 1099511627776) : m_name_isLabel (k + 2) s = some (isLabB s) := by
  cases hp : Lib.hasPrefix s [95] with
  | false => rw [isLabel1 (k + 1) s hs hp]; simp [isLabB, hp]
  | true =>
    have hle := trim_le s [95]
    unfold m_name_isLabel m_strings_CutPrefix m_strings_HasPrefix
    simp only [bi_some, hp, cond_true, isLabB, if_true]
    have k2 : decide ((s.length : Int) ≤ 63) = decide (s.length ≤ 63) := by rw [Bool.eq_iff_iff]; simp; omega
    rw [k2]
    cases hp2 : Lib.hasPrefix (Lib.trimPrefix s [95]) [95] with
    | true => rfl
    | false =>
      rw [isLabel1 k _ (by omega) hp2]
      rfl
theorem labelForm_ok (s : Str) (hs : s.length ≤ 1099511627776) : m_laneref1_LabelForm s = some (isLabB s) := by
  unfold m_laneref1_LabelForm m_strings_TrimPrefix
  by_cases hl : s.length ≤ 63
  · rw [isLab_form s hl, decide_eq_false (show ¬ (s.length : Int) > 63 by omega)]
    have hle := trim_le s [95]
    simp only [cond_false, bi_some]
    generalize Lib.trimPrefix s [95] = t at hle
    have ht : m_strings_Trim t [97, 98, 99, 100, 101, 102, 103, 104, 105, 106, 107, 108, 109, 110, 111, 112, 113, 114, 115, 116, 117, 118, 119, 120, 121, 122, 48, 49, 50, 51, 52, 53, 54, 55, 56, 57, 45] = some (Lib.trimS t lbs) := by
      unfold m_strings_Trim
      rw [Nat.ble_eq_true_of_le (show t.length ≤ 1099511627776 by omega)]
      rfl
    have hall : (t.all fun c => letB c || decide (c.toNat = 45)) = (Lib.trimS t lbs == []) := by rw [trimS_nil]; congr 1; funext c; exact lbs_has c
    have := ends_ok t (by omega)
    rw [ht]
    simp only [bi_some]
    by_cases he : t = []
    · subst he; rfl
    · have hb : (t == []) = false := by simpa using he
      rw [hb] at this ⊢
      rw [decide_eq_true (show (t.length : Int) ≤ 63 by omega)] at this
      simp only [Bool.not_false, cond_true, Bool.true_and, bi_some] at this ⊢
      simp only [labB, hall, decide_eq_true (show t ≠ [] from he), decide_eq_true (show t.length ≤ 63 by omega), Bool.true_and] at this ⊢
      cases hc : (Lib.trimS t lbs == []) with
      | false => rfl
      | true => simp only [cond_true]; exact this
  · rw [isLab_long s hl, decide_eq_true (show (s.length : Int) > 63 by omega)]
    rfl
def domF (s : Str) : Int := if s.length > 253 then 2 else if (Lib.split s [46]).all isLabB then 0 else 5
theorem splitK_le (sep : List UInt8) : ∀ (k : Nat) (s : List UInt8) (x : List UInt8), x ∈ Lib.splitK sep 0 k s → x.length ≤ s.length
  | 0, s, x, h => by simp [Lib.splitK] at h; rw [h]; exact Nat.le_refl _
  | k + 1, s, x, h => by
    unfold Lib.splitK at h
    split at h
    · simp at h; rw [h]; exact Nat.le_refl _
    · rcases List.mem_cons.1 h with rfl | h
      · simp; omega
      · have := splitK_le sep k _ x h
        simp at this
        omega
theorem flat_eS (l : List (List UInt8)) : (l.map fun x => Value.string ⟨x.toArray⟩).map D.v = l.flatMap eS := by
  induction l with
  | nil => rfl
  | cons x l ih => simp only [List.map_cons, List.flatMap_cons, ih]; rfl
theorem split_le (s : Str) : ∀ x ∈ Lib.split s [46], x.length ≤ s.length := fun x hx => splitK_le [46] _ s x hx
theorem check_ok (k : Nat) (s : Str) (hs : s.length ≤ 1000000) : m_name_CheckDomain (k + 2) s = some (domF s) := by
  unfold m_name_CheckDomain m_strings_Split domF
  by_cases hl : s.length > 253
  · rw [if_pos hl, decide_eq_true (show (s.length : Int) > 253 by omega)]; rfl
  · rw [if_neg hl, decide_eq_false (show ¬ (s.length : Int) > 253 by omega)]
    simp only [cond_false]
    rw [nblt.2 (show s.length < 4294967281 by omega)]
    simp only [gd_true, bi_some]
    rw [rangeM_all isLabB 5 _ 0 (fun j x hx => by
      have := split_le s x (List.mem_of_getElem? hx)
      rw [isLabel_ok k x (by omega)]
      cases isLabB x <;> rfl)]
    cases (Lib.split s [46]).all isLabB <;> rfl
theorem fault_ok (s : Str) (hs : s.length ≤ 1000000) : m_laneref1_DomainFault s = some (domF s) := by
  unfold m_laneref1_DomainFault m_strings_Split domF
  by_cases hl : s.length > 253
  · rw [if_pos hl, decide_eq_true (show (s.length : Int) > 253 by omega)]; rfl
  · rw [if_neg hl, decide_eq_false (show ¬ (s.length : Int) > 253 by omega)]
    simp only [cond_false]
    rw [nblt.2 (show s.length < 4294967281 by omega)]
    simp only [gd_true, bi_some]
    rw [rangeM_all isLabB 5 _ 0 (fun j x hx => by
      have := split_le s x (List.mem_of_getElem? hx)
      rw [labelForm_ok x (by omega)]
      cases isLabB x <;> rfl)]
    cases (Lib.split s [46]).all isLabB <;> rfl
end Go.Gk
