/-
  name.isLabel, laneref1.LabelForm: one law.
-/
import Derived.Test.YtjhoahdlehkfaaaDoorStr
import Derived.Test.YtjhoahdlehkfaaaDoorDraw
set_option linter.unusedVariables false
set_option linter.unusedSimpArgs false
set_option maxRecDepth 100000
namespace Go.Proofs.YtjhoahdlehkfaaaDoor
open Go.Gh

def letB (c : UInt8) : Bool := (decide (97 ≤ c.toNat) && decide (c.toNat ≤ 122)) || (decide (48 ≤ c.toNat) && decide (c.toNat ≤ 57))
theorem c_isLetter (c : UInt8) : Pure Tryd.prog 59 [.d (.v (.int .u8 c.toNat))] (B (letB c)) := by
  refine Pure.enter (Fr.of 0 [.d (.v (.int .u8 c.toNat))]) Tryd.func59 rfl (Fr.of_ok _) rfl rfl ?_
  repeat' (first | refine eo_x hΓ rfl rfl ?_ | refine eo_nil ?_ | refine eo_skip rfl rfl ?_ | refine eo_guard rfl ?_ | refine eo_gsplit rfl rfl (fun h => ?_) (fun h => ?_) | refine ew_seq ?_ | refine ew_region ?_ | refine ew_block ?_ | refine ew_skip ?_ | refine ew_exit ?_ | refine ew_ret ?_ | refine ew_condT rfl ?_ | refine ew_condF rfl ?_ | refine ew_cond rfl (fun h => ?_) (fun h => ?_))
  all_goals (try simp only [decide_eq_true_eq, decide_eq_false_iff_not, Bool.not_eq_true', Bool.not_eq_false', Bool.not_eq_true, Bool.not_eq_false, beq_iff_eq, beq_eq_false_iff_ne, bne_iff_ne, bne_eq_false_iff_eq, size_S, toList_S, Bool.and_eq_true, Bool.or_eq_true, Bool.and_eq_false_iff, Bool.or_eq_false_iff] at *)
  all_goals (refine ⟨by simp, res_all hΓ rfl ?_⟩; simp [retG, letB]; first | omega | (rw [Bool.eq_iff_iff]; simp; omega))

def labB (s : List UInt8) : Bool := (s.all fun c => letB c || decide (c.toNat = 45)) && (decide (s ≠ []) && decide (s.length ≤ 63)) && (decide (s[0]? ≠ some 45) && decide (s[s.length - 1]? ≠ some 45))

theorem c_isLabel1 (s : List UInt8) (hs : s.length ≤ 1099511627776) (hp : Lib.hasPrefix s [95] = false) : Pure Tryd.prog 33 [S s] (B (labB s)) := by
  have hcut : Pure Tryd.prog 58 [S s, S [95]] (.tup [S (Lib.trimPrefix s [95]), B false]) := hp ▸ c_cutPrefix s [95]
  refine Pure.enter (Fr.of 0 [S s]) Tryd.func33 rfl (Fr.of_ok _) rfl rfl ?_
  repeat' (first | refine eo_x hΓ rfl rfl ?_ | refine eo_nil ?_ | refine eo_skip rfl rfl ?_ | refine eo_guard rfl ?_ | refine eo_gsplit rfl rfl (fun h => ?_) (fun h => ?_) | refine ew_seq ?_ | refine ew_region ?_ | refine ew_block ?_ | refine ew_skip ?_ | refine ew_exit ?_ | refine ew_ret ?_ | refine ew_condT rfl ?_ | refine ew_condF rfl ?_ | refine ew_cond rfl (fun h => ?_) (fun h => ?_) | refine eo_pure rfl (Nat.zero_le _) rfl rfl (callable Tryd.func58 rfl rfl) hcut rfl rfl ?_)
  refine ew_loopS (fun n fr hp => ∃ i, i ≤ s.length ∧ n = s.length - i ∧ fr = [(0, S s), (25, I s.length), (26, I (i : Nat))] ∧ hp = [] ∧ ∀ j c, j < i → s[j]? = some c → (letB c || decide (c.toNat = 45)) = true) s.length [(0, S s), (25, I s.length), (26, I ((0 : Nat) : Int))] ⟨rfl, get_eq rfl (by simp), rfl, trivial⟩ ⟨0, Nat.zero_le _, rfl, rfl, rfl, fun j c h => by omega⟩ ?_
  rintro n fr hp ⟨i, hi, rfl, rfl, rfl, hg⟩
  by_cases hlt : i < s.length
  · have hc := List.getElem?_eq_getElem hlt
    generalize s[i] = c at hc
    have hcb := c.toNat_lt
    repeat' (first | refine eo_x hΓ rfl rfl ?_ | refine eo_nil ?_ | refine eo_skip rfl rfl ?_ | refine eo_guard rfl ?_ | refine eo_gsplit rfl rfl (fun h => ?_) (fun h => ?_) | refine ew_seq ?_ | refine ew_region ?_ | refine ew_block ?_ | refine ew_skip ?_ | refine ew_exit ?_ | refine ew_ret ?_ | refine ew_condT rfl ?_ | refine ew_condF rfl ?_ | refine ew_cond rfl (fun h => ?_) (fun h => ?_) | refine eo_byte hΓ i rfl rfl rfl rfl rfl hc rfl ?_ | refine eo_pure rfl (Nat.zero_le _) rfl rfl (callable Tryd.func59 rfl rfl) (c_isLetter c) rfl rfl ?_)
    all_goals (try simp only [decide_eq_true_eq, decide_eq_false_iff_not, Bool.not_eq_true', Bool.not_eq_false', Bool.not_eq_true, Bool.not_eq_false, beq_iff_eq, beq_eq_false_iff_ne, bne_iff_ne, bne_eq_false_iff_eq, size_S, toList_S, Bool.and_eq_true, Bool.or_eq_true, Bool.and_eq_false_iff, Bool.or_eq_false_iff] at *)
    all_goals first
      | (exfalso; omega)
      | (refine ⟨s.length - (i + 1), [(0, S s), (25, I s.length), (26, I ((i + 1 : Nat) : Int))], [], [], by omega, ⟨i + 1, hlt, rfl, rfl, rfl, fun j c' hj hc' => ?_⟩, ⟨rfl, rfl, get_eq rfl (w64_succ (by omega)), trivial⟩, rfl, .inl rfl⟩
         by_cases e : j = i
         · subst e
           rw [hc] at hc'
           cases hc'
           simp [*]
           try omega
         · exact hg j c' (by omega) hc')
      | (refine ⟨by simp, res_all hΓ rfl ?_⟩
         have : labB s = false := by
           simp only [labB, Bool.and_eq_false_iff]
           left; left
           rw [List.all_eq_false]
           refine ⟨c, List.mem_of_getElem? hc, ?_⟩
           simp [*]
           try omega
         simp [retG, this])
  · have hall : (s.all fun c => letB c || decide (c.toNat = 45)) = true := by
      rw [List.all_eq_true]
      intro c hc
      obtain ⟨j, hj⟩ := List.getElem?_of_mem hc
      exact hg j c (by have := (List.getElem?_eq_some_iff.1 hj).1; omega) hj
    by_cases he : s = []
    · subst he
      repeat' (first | refine ew_condT (get_b rfl (by first | (simp; done) | omega | (simp; omega))) ?_ | refine ew_condF (get_b rfl (by first | (simp; done) | omega | (simp; omega))) ?_ | refine eo_x hΓ rfl rfl ?_ | refine eo_nil ?_ | refine eo_skip rfl rfl ?_ | refine eo_guard rfl ?_ | refine eo_gsplit rfl rfl (fun h => ?_) (fun h => ?_) | refine ew_seq ?_ | refine ew_region ?_ | refine ew_block ?_ | refine ew_skip ?_ | refine ew_exit ?_ | refine ew_ret ?_ | refine ew_condT rfl ?_ | refine ew_condF rfl ?_ | refine ew_cond rfl (fun h => ?_) (fun h => ?_))
      all_goals (try simp only [decide_eq_true_eq, decide_eq_false_iff_not, Bool.not_eq_true', Bool.not_eq_false', Bool.not_eq_true, Bool.not_eq_false, beq_iff_eq, beq_eq_false_iff_ne, bne_iff_ne, bne_eq_false_iff_eq, size_S, toList_S, Bool.and_eq_true, Bool.or_eq_true, Bool.and_eq_false_iff, Bool.or_eq_false_iff] at *)
      all_goals first
        | (exfalso; omega)
        | (exfalso; simp_all; done)
        | exact ⟨by simp, res_all hΓ rfl (by simp [retG, labB])⟩
    · have hpos : 0 < s.length := List.length_pos_iff.2 he
      have hc0 := List.getElem?_eq_getElem hpos
      have hcl := List.getElem?_eq_getElem (show s.length - 1 < s.length by omega)
      generalize s[0] = c0 at hc0
      generalize s[s.length - 1] = cl at hcl
      have e1 : IntKind.i64.wrap ((s.length : Int) - 1) = ((s.length - 1 : Nat) : Int) := by rw [w64 (by omega)]; omega
      have h0 := c0.toNat_lt
      have h1 := cl.toNat_lt
      repeat' (first | refine ew_condT (get_b rfl (by first | (simp; done) | omega | (simp; omega))) ?_ | refine ew_condF (get_b rfl (by first | (simp; done) | omega | (simp; omega))) ?_ | refine eo_x hΓ rfl rfl ?_ | refine eo_nil ?_ | refine eo_skip rfl rfl ?_ | refine eo_guard rfl ?_ | refine eo_gsplit rfl rfl (fun h => ?_) (fun h => ?_) | refine ew_seq ?_ | refine ew_region ?_ | refine ew_block ?_ | refine ew_skip ?_ | refine ew_exit ?_ | refine ew_ret ?_ | refine ew_condT rfl ?_ | refine ew_condF rfl ?_ | refine ew_cond rfl (fun h => ?_) (fun h => ?_) | refine eo_byte hΓ 0 rfl rfl rfl rfl rfl hc0 rfl ?_ | refine eo_byte hΓ (s.length - 1) rfl rfl rfl rfl e1 hcl rfl ?_)
      all_goals (try simp only [decide_eq_true_eq, decide_eq_false_iff_not, Bool.not_eq_true', Bool.not_eq_false', Bool.not_eq_true, Bool.not_eq_false, beq_iff_eq, beq_eq_false_iff_ne, bne_iff_ne, bne_eq_false_iff_eq, size_S, toList_S, Bool.and_eq_true, Bool.or_eq_true, Bool.and_eq_false_iff, Bool.or_eq_false_iff] at *)
      all_goals first
        | (exfalso; omega)
        | (exfalso; simp_all; done)
        | exact ⟨by simp, res_all hΓ rfl (by simp [retG, labB, hall, he, hc0, hcl, ← UInt8.toNat_inj]; first | omega | (rw [Bool.eq_iff_iff]; simp; omega))⟩

def isLabB (s : List UInt8) : Bool := if Lib.hasPrefix s [95] then !Lib.hasPrefix (Lib.trimPrefix s [95]) [95] && labB (Lib.trimPrefix s [95]) && decide (s.length ≤ 63) else labB s
theorem trim_le (s p : List UInt8) : (Lib.trimPrefix s p).length ≤ s.length := by
  unfold Lib.trimPrefix
  split <;> simp
theorem c_isLabel (s : List UInt8) (hs : s.length ≤ 1099511627776) : Pure Tryd.prog 33 [S s] (B (isLabB s)) := by
  by_cases hp : Lib.hasPrefix s [95] = true
  · have hcut : Pure Tryd.prog 58 [S s, S [95]] (.tup [S (Lib.trimPrefix s [95]), B true]) := hp ▸ c_cutPrefix s [95]
    have hle := trim_le s [95]
    by_cases hp2 : Lib.hasPrefix (Lib.trimPrefix s [95]) [95] = true
    · have hpre : Pure Tryd.prog 51 [S (Lib.trimPrefix s [95]), S [95]] (B true) := hp2 ▸ c_hasPrefix _ [95]
      refine Pure.enter (Fr.of 0 [S s]) Tryd.func33 rfl (Fr.of_ok _) rfl rfl ?_
      repeat' (first | refine eo_x hΓ rfl rfl ?_ | refine eo_nil ?_ | refine eo_skip rfl rfl ?_ | refine eo_guard rfl ?_ | refine eo_gsplit rfl rfl (fun h => ?_) (fun h => ?_) | refine ew_seq ?_ | refine ew_region ?_ | refine ew_block ?_ | refine ew_skip ?_ | refine ew_exit ?_ | refine ew_ret ?_ | refine ew_condT rfl ?_ | refine ew_condF rfl ?_ | refine ew_cond rfl (fun h => ?_) (fun h => ?_) | refine eo_pure rfl (Nat.zero_le _) rfl rfl (callable Tryd.func58 rfl rfl) hcut rfl rfl ?_ | refine eo_pure rfl (Nat.zero_le _) rfl rfl (callable Tryd.func51 rfl rfl) hpre rfl rfl ?_)
      all_goals exact ⟨by simp, res_all hΓ rfl (by simp [retG, isLabB, hp, hp2])⟩
    · simp only [Bool.not_eq_true] at hp2
      have hpre : Pure Tryd.prog 51 [S (Lib.trimPrefix s [95]), S [95]] (B false) := hp2 ▸ c_hasPrefix _ [95]
      refine Pure.enter (Fr.of 0 [S s]) Tryd.func33 rfl (Fr.of_ok _) rfl rfl ?_
      repeat' (first | refine eo_x hΓ rfl rfl ?_ | refine eo_nil ?_ | refine eo_skip rfl rfl ?_ | refine eo_guard rfl ?_ | refine eo_gsplit rfl rfl (fun h => ?_) (fun h => ?_) | refine ew_seq ?_ | refine ew_region ?_ | refine ew_block ?_ | refine ew_skip ?_ | refine ew_exit ?_ | refine ew_ret ?_ | refine ew_condT rfl ?_ | refine ew_condF rfl ?_ | refine ew_cond rfl (fun h => ?_) (fun h => ?_) | refine eo_pure rfl (Nat.zero_le _) rfl rfl (callable Tryd.func58 rfl rfl) hcut rfl rfl ?_ | refine eo_pure rfl (Nat.zero_le _) rfl rfl (callable Tryd.func51 rfl rfl) hpre rfl rfl ?_ | refine eo_pure rfl (Nat.zero_le _) rfl rfl (callable Tryd.func33 rfl rfl) (c_isLabel1 _ (by omega) hp2) rfl rfl ?_)
      all_goals exact ⟨by simp, res_all hΓ rfl (by simp [retG, isLabB, hp, hp2, *] <;> omega)⟩
  · simp only [Bool.not_eq_true] at hp
    have := c_isLabel1 s hs hp
    simpa [isLabB, hp] using this

def lbs : List UInt8 := [97, 98, 99, 100, 101, 102, 103, 104, 105, 106, 107, 108, 109, 110, 111, 112, 113, 114, 115, 116, 117, 118, 119, 120, 121, 122, 48, 49, 50, 51, 52, 53, 54, 55, 56, 57, 45]
theorem lbs_has (c : UInt8) : (letB c || decide (c.toNat = 45)) = lbs.contains c := by
  have h : ∀ n, n < 256 → (letB (UInt8.ofNat n) || decide ((UInt8.ofNat n).toNat = 45)) = lbs.contains (UInt8.ofNat n) := by decide +kernel
  have := h c.toNat c.toNat_lt
  simpa using this
theorem dw_nil (p : UInt8 → Bool) : ∀ l : List UInt8, l.dropWhile p = [] ↔ ∀ x ∈ l, p x = true
  | [] => by simp
  | c :: l => by
    have ih := dw_nil p l
    rw [List.dropWhile_cons]
    split
    · rename_i h; rw [ih]; simp [h]
    · rename_i h; simp [h]
theorem trimS_nil (t cs : List UInt8) : (Lib.trimS t cs == []) = t.all fun c => cs.contains c := by
  rw [Bool.eq_iff_iff, beq_iff_eq, List.all_eq_true]
  unfold Lib.trimS Lib.trimLeftS
  rw [dw_nil]
  unfold Lib.trimRightS
  constructor
  · intro h x hx
    have hs : t.reverse = t.reverse.takeWhile (cs.contains ·) ++ t.reverse.dropWhile (cs.contains ·) := (List.takeWhile_append_dropWhile).symm
    have hx' : x ∈ t.reverse := List.mem_reverse.2 hx
    rw [hs, List.mem_append] at hx'
    rcases hx' with hx' | hx'
    · have := List.all_eq_true.1 (List.all_takeWhile (p := (cs.contains ·)) (l := t.reverse)) x hx'
      exact this
    · exact h x (List.mem_reverse.2 hx')
  · intro h x hx
    have := (List.dropWhile_sublist (cs.contains ·)).subset (List.mem_reverse.1 hx)
    exact h x (List.mem_reverse.1 this)
theorem labB_pre (t : List UInt8) (h : Lib.hasPrefix t [95] = true) : labB t = false := by
  cases t with
  | nil => rfl
  | cons c t =>
    have : c = 95 := by
      simp [Lib.hasPrefix] at h
      first | exact h | exact h.symm
    subst this
    simp [labB, letB]
theorem isLab_form (s : List UInt8) (h : s.length ≤ 63) : isLabB s = labB (Lib.trimPrefix s [95]) := by
  unfold isLabB
  split
  · cases hp2 : Lib.hasPrefix (Lib.trimPrefix s [95]) [95] with
    | true => rw [labB_pre _ hp2]; rfl
    | false => rw [decide_eq_true h]; simp only [Bool.not_false, Bool.true_and, Bool.and_true]
  · rename_i hn
    rw [Lib.trimPrefix, if_neg hn]
theorem isLab_long (s : List UInt8) (h : ¬ s.length ≤ 63) : isLabB s = false := by
  unfold isLabB labB
  split <;> simp [h]
theorem c_labelForm (s : List UInt8) (hs : s.length ≤ 1099511627776) : Pure Tryd.prog 34 [S s] (B (isLabB s)) := by
  refine Pure.enter (Fr.of 0 [S s]) Tryd.func34 rfl (Fr.of_ok _) rfl rfl ?_
  by_cases hl : s.length ≤ 63
  · rw [isLab_form s hl]
    have htr := c_trimPrefix s [95]
    have hle := trim_le s [95]
    generalize Lib.trimPrefix s [95] = t at htr hle
    have htrim : Pure Tryd.prog 61 [S t, S lbs] (S (Lib.trimS t lbs)) := c_trim t lbs (by omega) (by decide) (by decide)
    have hall : (t.all fun c => letB c || decide (c.toNat = 45)) = (Lib.trimS t lbs == []) := by rw [trimS_nil]; congr 1; funext c; exact lbs_has c
    generalize Lib.trimS t lbs = u at htrim hall
    by_cases he : t = []
    · subst he
      repeat' (first | refine ew_condT (get_b rfl (by first | (simp; done) | omega | (simp; omega))) ?_ | refine ew_condF (get_b rfl (by first | (simp; done) | omega | (simp; omega))) ?_ | refine eo_x hΓ rfl rfl ?_ | refine eo_nil ?_ | refine eo_skip rfl rfl ?_ | refine eo_guard rfl ?_ | refine eo_gsplit rfl rfl (fun h => ?_) (fun h => ?_) | refine ew_seq ?_ | refine ew_region ?_ | refine ew_block ?_ | refine ew_skip ?_ | refine ew_exit ?_ | refine ew_ret ?_ | refine ew_condT rfl ?_ | refine ew_condF rfl ?_ | refine ew_cond rfl (fun h => ?_) (fun h => ?_) | refine eo_pure rfl (Nat.zero_le _) rfl rfl (callable Tryd.func60 rfl rfl) htr rfl rfl ?_ | refine eo_pure rfl (Nat.zero_le _) rfl rfl (callable Tryd.func61 rfl rfl) htrim rfl rfl ?_)
      all_goals (try simp only [decide_eq_true_eq, decide_eq_false_iff_not, Bool.not_eq_true', Bool.not_eq_false', Bool.not_eq_true, Bool.not_eq_false, beq_iff_eq, beq_eq_false_iff_ne, bne_iff_ne, bne_eq_false_iff_eq, size_S, toList_S, Bool.and_eq_true, Bool.or_eq_true, Bool.and_eq_false_iff, Bool.or_eq_false_iff] at *)
      all_goals first
        | (exfalso; omega)
        | (exfalso; simp_all; done)
        | exact ⟨by simp, res_all hΓ rfl (by simp [retG, labB])⟩
    · have hpos : 0 < t.length := List.length_pos_iff.2 he
      have hc0 := List.getElem?_eq_getElem hpos
      have hcl := List.getElem?_eq_getElem (show t.length - 1 < t.length by omega)
      generalize t[0] = c0 at hc0
      generalize t[t.length - 1] = cl at hcl
      have e1 : IntKind.i64.wrap ((t.length : Int) - 1) = ((t.length - 1 : Nat) : Int) := by rw [w64 (by omega)]; omega
      have h0 := c0.toNat_lt
      have h1 := cl.toNat_lt
      have hl' : t.length ≤ 63 := by omega
      repeat' (first | refine ew_condT (get_b rfl (by first | (simp; done) | omega | (simp; omega))) ?_ | refine ew_condF (get_b rfl (by first | (simp; done) | omega | (simp; omega))) ?_ | refine eo_x hΓ rfl rfl ?_ | refine eo_nil ?_ | refine eo_skip rfl rfl ?_ | refine eo_guard rfl ?_ | refine eo_gsplit rfl rfl (fun h => ?_) (fun h => ?_) | refine ew_seq ?_ | refine ew_region ?_ | refine ew_block ?_ | refine ew_skip ?_ | refine ew_exit ?_ | refine ew_ret ?_ | refine ew_condT rfl ?_ | refine ew_condF rfl ?_ | refine ew_cond rfl (fun h => ?_) (fun h => ?_) | refine eo_pure rfl (Nat.zero_le _) rfl rfl (callable Tryd.func60 rfl rfl) htr rfl rfl ?_ | refine eo_pure rfl (Nat.zero_le _) rfl rfl (callable Tryd.func61 rfl rfl) htrim rfl rfl ?_ | refine eo_byte hΓ 0 rfl rfl rfl rfl rfl hc0 rfl ?_ | refine eo_byte hΓ (t.length - 1) rfl rfl rfl rfl e1 hcl rfl ?_)
      all_goals (try simp only [decide_eq_true_eq, decide_eq_false_iff_not, Bool.not_eq_true', Bool.not_eq_false', Bool.not_eq_true, Bool.not_eq_false, beq_iff_eq, beq_eq_false_iff_ne, bne_iff_ne, bne_eq_false_iff_eq, size_S, toList_S, Bool.and_eq_true, Bool.or_eq_true, Bool.and_eq_false_iff, Bool.or_eq_false_iff] at *)
      all_goals first
        | (exfalso; omega)
        | (exfalso; simp_all; done)
        | exact ⟨by simp, res_all hΓ rfl (by simp [retG, labB, hall, he, hc0, hcl, hl', ← UInt8.toNat_inj] <;> first | omega | (rw [Bool.eq_iff_iff]; simp; omega) | (simp_all; done) | (simp_all; omega) | (simp_all; rw [Bool.eq_iff_iff]; simp; omega))⟩
  · rw [isLab_long s hl]
    repeat' (first | refine ew_condT (get_b rfl (by first | (simp; done) | omega | (simp; omega))) ?_ | refine ew_condF (get_b rfl (by first | (simp; done) | omega | (simp; omega))) ?_ | refine eo_x hΓ rfl rfl ?_ | refine eo_nil ?_ | refine eo_skip rfl rfl ?_ | refine eo_guard rfl ?_ | refine eo_gsplit rfl rfl (fun h => ?_) (fun h => ?_) | refine ew_seq ?_ | refine ew_region ?_ | refine ew_block ?_ | refine ew_skip ?_ | refine ew_exit ?_ | refine ew_ret ?_ | refine ew_condT rfl ?_ | refine ew_condF rfl ?_ | refine ew_cond rfl (fun h => ?_) (fun h => ?_))
    all_goals exact ⟨by simp, res_all hΓ rfl rfl⟩
end Go.Proofs.YtjhoahdlehkfaaaDoor
