/-
  name.Compare and laneref1.NameOrder: one law.
-/
import Derived.Test.YtjhoahdlehkfaaaDoorName
import Derived.Test.YtjhoahdlehkfaaaDoorGh17
set_option linter.unusedVariables false
set_option linter.unusedSimpArgs false
set_option maxRecDepth 100000
namespace Go.Proofs.YtjhoahdlehkfaaaDoor
open Go.Gh

theorem c_reverse (l : List (List UInt8)) (hl : l.length ≤ 1099511627776) : EC Tryd.prog 31 [.sl 0 l.length] [.row 9 1 l.length (l.flatMap eS)] fun g hp' => g = .tup [] ∧ hp' = [.row 9 1 l.length (l.reverse.flatMap eS)] := by
  have := EC.of_putRow (P := Tryd.prog) (f := 31) (t := 9) (n := l.length) (enc := fun l : List UInt8 => Value.string ⟨l.toArray⟩) (d := l.toArray) (d' := l.reverse.toArray) (fun _ => rfl) (by simp) (by simp) (fun w => Tryd.slices_Reverse_string_empty none 0 w)
    (fun w b c hH => Tryd.slices_Reverse_string b 0 c l w hH (by omega))
  rw [← flat_eS, ← flat_eS]
  simpa [Function.comp_def] using this

theorem c_isNaN (s : List UInt8) : Pure Tryd.prog 79 [S s] (B false) := by
  refine Pure.enter (Fr.of 0 [S s]) Tryd.func79 rfl (Fr.of_ok _) rfl rfl ?_
  repeat' (first | refine eo_x hΓ rfl rfl ?_ | refine eo_nil ?_ | refine eo_skip rfl rfl ?_ | refine eo_guard rfl ?_ | refine eo_gsplit rfl rfl (fun h => ?_) (fun h => ?_) | refine ew_seq ?_ | refine ew_region ?_ | refine ew_block ?_ | refine ew_skip ?_ | refine ew_exit ?_ | refine ew_ret ?_ | refine ew_condT rfl ?_ | refine ew_condF rfl ?_ | refine ew_cond rfl (fun h => ?_) (fun h => ?_))
  all_goals exact ⟨by simp, res_all hΓ rfl (by simp [retG])⟩
def cmpI (s t : List UInt8) : Int := if Op.bytesLess (⟨s.toArray⟩ : ByteArray).toList (⟨t.toArray⟩ : ByteArray).toList then -1 else if !(Op.bytesLess (⟨s.toArray⟩ : ByteArray).toList (⟨t.toArray⟩ : ByteArray).toList || (⟨s.toArray⟩ : ByteArray).toList == (⟨t.toArray⟩ : ByteArray).toList) then 1 else 0
theorem c_cmp (s t : List UInt8) : Pure Tryd.prog 57 [S s, S t] (I (cmpI s t)) := by
  refine Pure.enter (Fr.of 0 [S s, S t]) Tryd.func57 rfl (Fr.of_ok _) rfl rfl ?_
  unfold cmpI
  repeat' (first | refine eo_x hΓ rfl rfl ?_ | refine eo_nil ?_ | refine eo_skip rfl rfl ?_ | refine eo_guard rfl ?_ | refine eo_gsplit rfl rfl (fun h => ?_) (fun h => ?_) | refine ew_seq ?_ | refine ew_region ?_ | refine ew_block ?_ | refine ew_skip ?_ | refine ew_exit ?_ | refine ew_ret ?_ | refine ew_condT rfl ?_ | refine ew_condF rfl ?_ | refine ew_cond rfl (fun h => ?_) (fun h => ?_) | refine eo_pure rfl (Nat.zero_le _) rfl rfl (callable Tryd.func79 rfl rfl) (c_isNaN _) rfl rfl ?_)
  all_goals
    refine ⟨by simp, res_all hΓ rfl ?_⟩
    simp only [retG]
    generalize Op.bytesLess (⟨s.toArray⟩ : ByteArray).toList (⟨t.toArray⟩ : ByteArray).toList = p at *
    generalize ((⟨s.toArray⟩ : ByteArray).toList == (⟨t.toArray⟩ : ByteArray).toList) = q at *
    cases p <;> cases q <;> simp_all
def cmpL : List (List UInt8) → List (List UInt8) → Int
  | [], [] => 0
  | [], _ :: _ => -1
  | _ :: _, [] => 1
  | x :: xs, y :: ys => if cmpI x y = 0 then cmpL xs ys else cmpI x y
theorem c_sliceCompare (xs ys : List (List UInt8)) (hx : xs.length ≤ 1099511627776) (hy : ys.length ≤ 1099511627776) : Pure Tryd.prog 32 [.d (Sl eS xs), .d (Sl eS ys)] (I (cmpL xs ys)) := by
  refine Pure.enter (Fr.of 0 [.d (Sl eS xs), .d (Sl eS ys)]) Tryd.func32 rfl (Fr.of_ok _) rfl rfl ?_
  repeat' (first | refine eo_x hΓ rfl rfl ?_ | refine eo_nil ?_ | refine eo_skip rfl rfl ?_ | refine eo_guard rfl ?_ | refine eo_gsplit rfl rfl (fun h => ?_) (fun h => ?_) | refine ew_seq ?_ | refine ew_region ?_ | refine ew_block ?_ | refine ew_skip ?_ | refine ew_exit ?_ | refine ew_ret ?_ | refine ew_condT rfl ?_ | refine ew_condF rfl ?_ | refine ew_cond rfl (fun h => ?_) (fun h => ?_))
  refine ew_loopS (fun n fr hp => ∃ i, i ≤ xs.length ∧ n = xs.length - i ∧ fr = [(0, .d (Sl eS xs)), (1, .d (Sl eS ys)), (9, .d (Sl eS xs)), (10, I xs.length), (11, I (i : Nat))] ∧ hp = [] ∧ i ≤ ys.length ∧ cmpL xs ys = cmpL (xs.drop i) (ys.drop i)) xs.length [(0, .d (Sl eS xs)), (1, .d (Sl eS ys)), (9, .d (Sl eS xs)), (10, I xs.length), (11, I ((0 : Nat) : Int))] ⟨rfl, rfl, rfl, rfl, rfl, trivial⟩ ⟨0, Nat.zero_le _, rfl, rfl, rfl, Nat.zero_le _, rfl⟩ ?_
  rintro n fr hp' ⟨i, hi, rfl, rfl, rfl, hiy, hg⟩
  rw [hg]
  by_cases hlt : i < xs.length
  · have hx' := List.getElem?_eq_getElem hlt
    have hdx := List.drop_eq_getElem_cons hlt
    generalize xs[i] = x at hx' hdx
    by_cases hlt2 : i < ys.length
    · have hy' := List.getElem?_eq_getElem hlt2
      have hdy := List.drop_eq_getElem_cons hlt2
      generalize ys[i] = y at hy' hdy
      rw [hdx, hdy] at hg ⊢
      simp only [cmpL] at hg ⊢
      repeat' (first | refine ew_condT (get_b rfl (by first | (simp; done) | omega | (simp; omega))) ?_ | refine ew_condF (get_b rfl (by first | (simp; done) | omega | (simp; omega))) ?_ | refine eo_x hΓ rfl rfl ?_ | refine eo_nil ?_ | refine eo_skip rfl rfl ?_ | refine eo_guard rfl ?_ | refine eo_gsplit rfl rfl (fun h => ?_) (fun h => ?_) | refine ew_seq ?_ | refine ew_region ?_ | refine ew_block ?_ | refine ew_skip ?_ | refine ew_exit ?_ | refine ew_ret ?_ | refine ew_condT rfl ?_ | refine ew_condF rfl ?_ | refine ew_cond rfl (fun h => ?_) (fun h => ?_) | refine eo_elem (ys := eS x) hΓ i rfl rfl rfl rfl rfl rfl hlt (fun j d hd => flat_elem (sz := 1) (fun _ _ => rfl) hx' j d hd) (by simp) rfl ?_ | refine eo_elem (ys := eS y) hΓ i rfl rfl rfl rfl rfl rfl hlt2 (fun j d hd => flat_elem (sz := 1) (fun _ _ => rfl) hy' j d hd) (by simp) rfl ?_ | refine eo_pure rfl (Nat.zero_le _) rfl rfl (callable Tryd.func57 rfl rfl) (c_cmp x y) rfl rfl ?_)
      all_goals (try simp only [decide_eq_true_eq, decide_eq_false_iff_not, Bool.not_eq_true', Bool.not_eq_false', Bool.not_eq_true, Bool.not_eq_false, beq_iff_eq, beq_eq_false_iff_ne, bne_iff_ne, bne_eq_false_iff_eq, size_S, toList_S, Bool.and_eq_true, Bool.or_eq_true, Bool.and_eq_false_iff, Bool.or_eq_false_iff] at *)
      all_goals first
        | (exfalso; omega)
        | (refine ⟨by simp, res_all hΓ rfl ?_⟩
           rw [if_neg (by assumption)]
           rfl)
        | (refine ⟨xs.length - (i + 1), [(0, .d (Sl eS xs)), (1, .d (Sl eS ys)), (9, .d (Sl eS xs)), (10, I xs.length), (11, I ((i + 1 : Nat) : Int))], [], [], by omega, ⟨i + 1, hlt, rfl, rfl, rfl, hlt2, ?_⟩, ⟨rfl, rfl, rfl, rfl, get_eq rfl (w64_succ (by omega)), trivial⟩, rfl, .inl rfl⟩
           simp_all)
    · have hdy : ys.drop i = [] := List.drop_eq_nil_of_le (by omega)
      rw [hdx, hdy]
      repeat' (first | refine ew_condT (get_b rfl (by first | (simp; done) | omega | (simp; omega))) ?_ | refine ew_condF (get_b rfl (by first | (simp; done) | omega | (simp; omega))) ?_ | refine eo_x hΓ rfl rfl ?_ | refine eo_nil ?_ | refine eo_skip rfl rfl ?_ | refine eo_guard rfl ?_ | refine eo_gsplit rfl rfl (fun h => ?_) (fun h => ?_) | refine ew_seq ?_ | refine ew_region ?_ | refine ew_block ?_ | refine ew_skip ?_ | refine ew_exit ?_ | refine ew_ret ?_ | refine ew_condT rfl ?_ | refine ew_condF rfl ?_ | refine ew_cond rfl (fun h => ?_) (fun h => ?_) | refine eo_elem (ys := eS x) hΓ i rfl rfl rfl rfl rfl rfl hlt (fun j d hd => flat_elem (sz := 1) (fun _ _ => rfl) hx' j d hd) (by simp) rfl ?_)
      all_goals exact ⟨by simp, res_all hΓ rfl rfl⟩
  · have hdx : xs.drop i = [] := List.drop_eq_nil_of_le (by omega)
    rw [hdx]
    by_cases hlt2 : i < ys.length
    · rw [List.drop_eq_getElem_cons hlt2]
      repeat' (first | refine ew_condT (get_b rfl (by first | (simp; done) | omega | (simp; omega))) ?_ | refine ew_condF (get_b rfl (by first | (simp; done) | omega | (simp; omega))) ?_ | refine eo_x hΓ rfl rfl ?_ | refine eo_nil ?_ | refine eo_skip rfl rfl ?_ | refine eo_guard rfl ?_ | refine eo_gsplit rfl rfl (fun h => ?_) (fun h => ?_) | refine ew_seq ?_ | refine ew_region ?_ | refine ew_block ?_ | refine ew_skip ?_ | refine ew_exit ?_ | refine ew_ret ?_ | refine ew_condT rfl ?_ | refine ew_condF rfl ?_ | refine ew_cond rfl (fun h => ?_) (fun h => ?_))
      all_goals exact ⟨by simp, res_all hΓ rfl rfl⟩
    · rw [List.drop_eq_nil_of_le (show ys.length ≤ i by omega)]
      repeat' (first | refine ew_condT (get_b rfl (by first | (simp; done) | omega | (simp; omega))) ?_ | refine ew_condF (get_b rfl (by first | (simp; done) | omega | (simp; omega))) ?_ | refine eo_x hΓ rfl rfl ?_ | refine eo_nil ?_ | refine eo_skip rfl rfl ?_ | refine eo_guard rfl ?_ | refine eo_gsplit rfl rfl (fun h => ?_) (fun h => ?_) | refine ew_seq ?_ | refine ew_region ?_ | refine ew_block ?_ | refine ew_skip ?_ | refine ew_exit ?_ | refine ew_ret ?_ | refine ew_condT rfl ?_ | refine ew_condF rfl ?_ | refine ew_cond rfl (fun h => ?_) (fun h => ?_))
      all_goals exact ⟨by simp, res_all hΓ rfl rfl⟩

def ordI (a b : List UInt8) : Int := cmpL (Lib.split a [46]).reverse (Lib.split b [46]).reverse
theorem c_nameOrder (a b : List UInt8) (ha : a.length ≤ 16777216) (hb : b.length ≤ 16777216) : Pure Tryd.prog 13 [S a, S b] (I (ordI a b)) := by
  refine Pure.enter (Fr.of 0 [S a, S b]) Tryd.func13 rfl (Fr.of_ok _) rfl rfl ?_
  unfold ordI
  repeat' (first | refine eo_x hΓ rfl rfl ?_ | refine eo_nil ?_ | refine eo_skip rfl rfl ?_ | refine eo_guard rfl ?_ | refine eo_gsplit rfl rfl (fun h => ?_) (fun h => ?_) | refine ew_seq ?_ | refine ew_region ?_ | refine ew_block ?_ | refine ew_skip ?_ | refine ew_exit ?_ | refine ew_ret ?_ | refine ew_condT rfl ?_ | refine ew_condF rfl ?_ | refine ew_cond rfl (fun h => ?_) (fun h => ?_))
  refine eo_call rfl (Nat.zero_le _) rfl rfl (callable Tryd.func30 rfl rfl) (c_split a (by omega)) ?_
  rintro _ _ ⟨rfl, rfl⟩
  have hna := split_le a
  generalize Lib.split a [46] = x at hna
  repeat' (first | refine eo_x hΓ rfl rfl ?_ | refine eo_nil ?_ | refine eo_skip rfl rfl ?_ | refine eo_guard rfl ?_ | refine eo_gsplit rfl rfl (fun h => ?_) (fun h => ?_) | refine ew_seq ?_ | refine ew_region ?_ | refine ew_block ?_ | refine ew_skip ?_ | refine ew_exit ?_ | refine ew_ret ?_ | refine ew_condT rfl ?_ | refine ew_condF rfl ?_ | refine ew_cond rfl (fun h => ?_) (fun h => ?_))
  refine eo_call rfl (Nat.zero_le _) rfl rfl (callable Tryd.func30 rfl rfl) (EC.fresh (c_split b (by omega)) rfl) ?_
  rintro _ _ ⟨rfl, rfl⟩
  have hnb := split_le b
  generalize Lib.split b [46] = y at hnb
  repeat' (first | refine eo_x hΓ rfl rfl ?_ | refine eo_nil ?_ | refine eo_skip rfl rfl ?_ | refine eo_guard rfl ?_ | refine eo_gsplit rfl rfl (fun h => ?_) (fun h => ?_) | refine ew_seq ?_ | refine ew_region ?_ | refine ew_block ?_ | refine ew_skip ?_ | refine ew_exit ?_ | refine ew_ret ?_ | refine ew_condT rfl ?_ | refine ew_condF rfl ?_ | refine ew_cond rfl (fun h => ?_) (fun h => ?_))
  refine eo_call rfl (Nat.zero_le _) rfl rfl (callable Tryd.func31 rfl rfl) (EC.one (id := 0) (c_reverse x (by omega)) rfl (fun _ => rfl) rfl rfl rfl (by rintro _ _ ⟨rfl, rfl⟩; exact ⟨fun _ => rfl, _, rfl, fun _ => rfl⟩)) ?_
  rintro _ _ ⟨o', ⟨rfl, e⟩, rfl⟩
  cases e
  repeat' (first | refine eo_x hΓ rfl rfl ?_ | refine eo_nil ?_ | refine eo_skip rfl rfl ?_ | refine eo_guard rfl ?_ | refine eo_gsplit rfl rfl (fun h => ?_) (fun h => ?_) | refine ew_seq ?_ | refine ew_region ?_ | refine ew_block ?_ | refine ew_skip ?_ | refine ew_exit ?_ | refine ew_ret ?_ | refine ew_condT rfl ?_ | refine ew_condF rfl ?_ | refine ew_cond rfl (fun h => ?_) (fun h => ?_))
  refine eo_call rfl (Nat.zero_le _) rfl rfl (callable Tryd.func31 rfl rfl) (EC.one (id := 1) (c_reverse y (by omega)) rfl (fun _ => rfl) rfl rfl rfl (by rintro _ _ ⟨rfl, rfl⟩; exact ⟨fun _ => rfl, _, rfl, fun _ => rfl⟩)) ?_
  rintro _ _ ⟨o', ⟨rfl, e⟩, rfl⟩
  cases e
  repeat' (first | refine eo_x hΓ rfl rfl ?_ | refine eo_nil ?_ | refine eo_skip rfl rfl ?_ | refine eo_guard rfl ?_ | refine eo_gsplit rfl rfl (fun h => ?_) (fun h => ?_) | refine ew_seq ?_ | refine ew_region ?_ | refine ew_block ?_ | refine ew_skip ?_ | refine ew_exit ?_ | refine ew_ret ?_ | refine ew_condT rfl ?_ | refine ew_condF rfl ?_ | refine ew_cond rfl (fun h => ?_) (fun h => ?_))
  refine eo_share 15 rfl rfl (Nat.zero_le _) ?_
  refine eo_share 16 rfl rfl (Nat.zero_le _) ?_
  have hc := c_sliceCompare x.reverse y.reverse (by simp; omega) (by simp; omega)
  simp only [Sl, List.length_reverse] at hc
  repeat' (first | refine eo_x hΓ rfl rfl ?_ | refine eo_nil ?_ | refine eo_skip rfl rfl ?_ | refine eo_guard rfl ?_ | refine eo_gsplit rfl rfl (fun h => ?_) (fun h => ?_) | refine ew_seq ?_ | refine ew_region ?_ | refine ew_block ?_ | refine ew_skip ?_ | refine ew_exit ?_ | refine ew_ret ?_ | refine ew_condT rfl ?_ | refine ew_condF rfl ?_ | refine ew_cond rfl (fun h => ?_) (fun h => ?_) | refine eo_pure rfl (Nat.zero_le _) rfl rfl (callable Tryd.func32 rfl rfl) hc rfl rfl ?_)
  all_goals exact ⟨by simp, res_all hΓ rfl rfl⟩
end Go.Proofs.YtjhoahdlehkfaaaDoor
