/-
  package name and its reference: CheckDomain, DomainFault, Under, IsUnder.
-/
import Derived.Test.YtjhoahdlehkfaaaDoorLabel
set_option linter.unusedVariables false
set_option linter.unusedSimpArgs false
set_option maxRecDepth 100000
namespace Go.Proofs.YtjhoahdlehkfaaaDoor
open Go.Gh

theorem splitK_le (sep : List UInt8) : ∀ (k : Nat) (s : List UInt8) (x : List UInt8), x ∈ Lib.splitK sep 0 k s → x.length ≤ s.length
  | 0, s, x, h => by simp [Lib.splitK] at h; rw [h]; exact Nat.le_refl _
  | k + 1, s, x, h => by
    unfold Lib.splitK at h
    split at h
    · simp at h; rw [h]; exact Nat.le_refl _
    · rcases List.mem_cons.1 h with rfl | h
      · simp; omega
      · have := splitK_le sep k _ x h
        simp at this
        omega
theorem flat_eS (l : List (List UInt8)) : (l.map fun x => Value.string ⟨x.toArray⟩).map D.v = l.flatMap eS := by
  induction l with
  | nil => rfl
  | cons x l ih => simp only [List.map_cons, List.flatMap_cons, ih]; rfl
theorem split_le (s : List UInt8) : (Lib.split s [46]).length ≤ s.length + 1 := by
  have h1 : (Lib.splitB ⟨#[46]⟩ 0 (Lib.count s [46]) ⟨s.toArray⟩).length = (Lib.split s [46]).length := by
    have := congrArg List.length (Lib.splitB_data ⟨#[46]⟩ 0 (Lib.count s [46]) ⟨s.toArray⟩)
    simpa [Lib.split] using this
  have e := Lib.splitB_all ⟨#[46]⟩ (Nat.le_refl _) 0 (Lib.count s [46]) ⟨s.toArray⟩ rfl
  rw [← h1, e]
  have hle := Lib.countB_le ⟨#[46]⟩ (Nat.le_refl _) s.length ⟨s.toArray⟩ (by simp)
  exact Nat.succ_le_succ hle
theorem c_split (s : List UInt8) (hs : s.length < 4294967281) : EC Tryd.prog 30 [S s, S [46]] [] fun g hp' => g = .sl 0 (Lib.split s [46]).length ∧ hp' = [.row 9 1 (Lib.split s [46]).length ((Lib.split s [46]).flatMap eS)] := by
  refine ec_enter (Fr.of 0 [S s, S [46]]) Tryd.func30 rfl (Fr.of_ok _) (Nat.le_of_ble_eq_true rfl) fun _ => ?_
  repeat' (first | refine eo_x hΓ rfl rfl ?_ | refine eo_nil ?_ | refine eo_skip rfl rfl ?_ | refine eo_guard rfl ?_ | refine eo_gsplit rfl rfl (fun h => ?_) (fun h => ?_) | refine ew_seq ?_ | refine ew_region ?_ | refine ew_block ?_ | refine ew_skip ?_ | refine ew_exit ?_ | refine ew_ret ?_ | refine ew_condT rfl ?_ | refine ew_condF rfl ?_ | refine ew_cond rfl (fun h => ?_) (fun h => ?_))
  refine eo_call rfl (Nat.le_refl _) rfl rfl (callable Tryd.func56 rfl rfl) (c_split1 s 46 hs) ?_
  rintro _ _ ⟨rfl, rfl⟩
  repeat' (first | refine eo_x hΓ rfl rfl ?_ | refine eo_nil ?_ | refine eo_skip rfl rfl ?_ | refine eo_guard rfl ?_ | refine eo_gsplit rfl rfl (fun h => ?_) (fun h => ?_) | refine ew_seq ?_ | refine ew_region ?_ | refine ew_block ?_ | refine ew_skip ?_ | refine ew_exit ?_ | refine ew_ret ?_ | refine ew_condT rfl ?_ | refine ew_condF rfl ?_ | refine ew_cond rfl (fun h => ?_) (fun h => ?_))
  exact ⟨by simp, [_], [], _, (List.append_nil _).symm, ⟨rfl, by rw [← flat_eS]⟩, Nat.zero_le _, .inl rfl, res_all hΓ rfl rfl⟩

def domF (s : List UInt8) : Int := if s.length ≤ 253 then if (Lib.split s [46]).all isLabB then 0 else 5 else 2

theorem c_checkDomain (s : List UInt8) (hs : s.length ≤ 1099511627776) : Pure Tryd.prog 8 [S s] (I (domF s)) := by
  refine Pure.enter (Fr.of 0 [S s]) Tryd.func8 rfl (Fr.of_ok _) rfl rfl ?_
  unfold domF
  by_cases hl : s.length ≤ 253
  · repeat' (first | refine ew_condT (get_b rfl (by first | (simp; done) | omega | (simp; omega))) ?_ | refine ew_condF (get_b rfl (by first | (simp; done) | omega | (simp; omega))) ?_ | refine eo_x hΓ rfl rfl ?_ | refine eo_nil ?_ | refine eo_skip rfl rfl ?_ | refine eo_guard rfl ?_ | refine eo_gsplit rfl rfl (fun h => ?_) (fun h => ?_) | refine ew_seq ?_ | refine ew_region ?_ | refine ew_block ?_ | refine ew_skip ?_ | refine ew_exit ?_ | refine ew_ret ?_ | refine ew_condT rfl ?_ | refine ew_condF rfl ?_ | refine ew_cond rfl (fun h => ?_) (fun h => ?_))
    refine eo_call rfl (Nat.le_refl _) rfl rfl (callable Tryd.func30 rfl rfl) (c_split s (by omega)) ?_
    rintro _ _ ⟨rfl, rfl⟩
    have hp : ∀ x ∈ Lib.split s [46], x.length ≤ 1099511627776 := fun x hx => by
      have := splitK_le [46] _ s x hx
      omega
    have hn := split_le s
    generalize Lib.split s [46] = l at hp hn
    refine eo_share 9 rfl rfl (Nat.zero_le _) ?_
    repeat' (first | refine eo_x hΓ rfl rfl ?_ | refine eo_nil ?_ | refine eo_skip rfl rfl ?_ | refine eo_guard rfl ?_ | refine eo_gsplit rfl rfl (fun h => ?_) (fun h => ?_) | refine ew_seq ?_ | refine ew_region ?_ | refine ew_block ?_ | refine ew_skip ?_ | refine ew_exit ?_ | refine ew_ret ?_ | refine ew_condT rfl ?_ | refine ew_condF rfl ?_ | refine ew_cond rfl (fun h => ?_) (fun h => ?_))
    refine ew_loopS (fun n fr hp => ∃ i, i ≤ l.length ∧ n = l.length - i ∧ fr = [(9, .d (Sl eS l)), (10, I l.length), (11, I (i : Nat))] ∧ hp = [.dead] ∧ ∀ j x, j < i → l[j]? = some x → isLabB x = true) l.length [(9, .d (Sl eS l)), (10, I l.length), (11, I ((0 : Nat) : Int))] ⟨rfl, rfl, rfl, trivial⟩ ⟨0, Nat.zero_le _, rfl, rfl, rfl, fun j c h => by omega⟩ ?_
    rintro n fr hp' ⟨i, hi, rfl, rfl, rfl, hg⟩
    by_cases hlt : i < l.length
    · have hx := List.getElem?_eq_getElem hlt
      have hm := List.getElem_mem hlt
      generalize l[i] = x at hx hm
      repeat' (first | refine ew_condT (get_b rfl (by first | (simp; done) | omega | (simp; omega))) ?_ | refine ew_condF (get_b rfl (by first | (simp; done) | omega | (simp; omega))) ?_ | refine eo_x hΓ rfl rfl ?_ | refine eo_nil ?_ | refine eo_skip rfl rfl ?_ | refine eo_guard rfl ?_ | refine eo_gsplit rfl rfl (fun h => ?_) (fun h => ?_) | refine ew_seq ?_ | refine ew_region ?_ | refine ew_block ?_ | refine ew_skip ?_ | refine ew_exit ?_ | refine ew_ret ?_ | refine ew_condT rfl ?_ | refine ew_condF rfl ?_ | refine ew_cond rfl (fun h => ?_) (fun h => ?_) | refine eo_elem (ys := eS x) hΓ i rfl rfl rfl rfl rfl rfl hlt (fun j d hd => flat_elem (sz := 1) (fun _ _ => rfl) hx j d hd) (by simp) rfl ?_ | refine eo_pure rfl (Nat.zero_le _) rfl rfl (callable Tryd.func33 rfl rfl) (c_isLabel x (hp x hm)) rfl rfl ?_)
      all_goals (try simp only [decide_eq_true_eq, decide_eq_false_iff_not, Bool.not_eq_true', Bool.not_eq_false', Bool.not_eq_true, Bool.not_eq_false, beq_iff_eq, beq_eq_false_iff_ne, bne_iff_ne, bne_eq_false_iff_eq, size_S, toList_S, Bool.and_eq_true, Bool.or_eq_true, Bool.and_eq_false_iff, Bool.or_eq_false_iff] at *)
      all_goals first
        | (exfalso; omega)
        | (refine ⟨l.length - (i + 1), [(9, .d (Sl eS l)), (10, I l.length), (11, I ((i + 1 : Nat) : Int))], [.dead], [], by omega, ⟨i + 1, hlt, rfl, rfl, rfl, fun j x' hj hx' => ?_⟩, ⟨rfl, rfl, get_eq rfl (w64_succ (by omega)), trivial⟩, rfl, .inl rfl⟩
           by_cases e : j = i
           · subst e
             rw [hx] at hx'
             cases hx'
             assumption
           · exact hg j x' (by omega) hx')
        | (refine ⟨by simp, res_all hΓ rfl ?_⟩
           have : l.all isLabB = false := by
             rw [List.all_eq_false]
             exact ⟨x, hm, by simp_all⟩
           simp [retG, this, hl])
    · repeat' (first | refine ew_condT (get_b rfl (by first | (simp; done) | omega | (simp; omega))) ?_ | refine ew_condF (get_b rfl (by first | (simp; done) | omega | (simp; omega))) ?_ | refine eo_x hΓ rfl rfl ?_ | refine eo_nil ?_ | refine eo_skip rfl rfl ?_ | refine eo_guard rfl ?_ | refine eo_gsplit rfl rfl (fun h => ?_) (fun h => ?_) | refine ew_seq ?_ | refine ew_region ?_ | refine ew_block ?_ | refine ew_skip ?_ | refine ew_exit ?_ | refine ew_ret ?_ | refine ew_condT rfl ?_ | refine ew_condF rfl ?_ | refine ew_cond rfl (fun h => ?_) (fun h => ?_))
      all_goals (refine ⟨by simp, res_all hΓ rfl ?_⟩
                 have : l.all isLabB = true := by
                   rw [List.all_eq_true]
                   intro x hx
                   obtain ⟨j, hj⟩ := List.getElem?_of_mem hx
                   exact hg j x (by have := (List.getElem?_eq_some_iff.1 hj).1; omega) hj
                 simp [retG, this, hl])
  · repeat' (first | refine ew_condT (get_b rfl (by first | (simp; done) | omega | (simp; omega))) ?_ | refine ew_condF (get_b rfl (by first | (simp; done) | omega | (simp; omega))) ?_ | refine eo_x hΓ rfl rfl ?_ | refine eo_nil ?_ | refine eo_skip rfl rfl ?_ | refine eo_guard rfl ?_ | refine eo_gsplit rfl rfl (fun h => ?_) (fun h => ?_) | refine ew_seq ?_ | refine ew_region ?_ | refine ew_block ?_ | refine ew_skip ?_ | refine ew_exit ?_ | refine ew_ret ?_ | refine ew_condT rfl ?_ | refine ew_condF rfl ?_ | refine ew_cond rfl (fun h => ?_) (fun h => ?_))
    all_goals exact ⟨by simp, res_all hΓ rfl (by simp [retG, hl])⟩
theorem c_domainFault (s : List UInt8) (hs : s.length ≤ 1099511627776) : Pure Tryd.prog 9 [S s] (I (domF s)) := by
  refine Pure.enter (Fr.of 0 [S s]) Tryd.func9 rfl (Fr.of_ok _) rfl rfl ?_
  unfold domF
  by_cases hl : s.length ≤ 253
  · repeat' (first | refine ew_condT (get_b rfl (by first | (simp; done) | omega | (simp; omega))) ?_ | refine ew_condF (get_b rfl (by first | (simp; done) | omega | (simp; omega))) ?_ | refine eo_x hΓ rfl rfl ?_ | refine eo_nil ?_ | refine eo_skip rfl rfl ?_ | refine eo_guard rfl ?_ | refine eo_gsplit rfl rfl (fun h => ?_) (fun h => ?_) | refine ew_seq ?_ | refine ew_region ?_ | refine ew_block ?_ | refine ew_skip ?_ | refine ew_exit ?_ | refine ew_ret ?_ | refine ew_condT rfl ?_ | refine ew_condF rfl ?_ | refine ew_cond rfl (fun h => ?_) (fun h => ?_))
    refine eo_call rfl (Nat.le_refl _) rfl rfl (callable Tryd.func30 rfl rfl) (c_split s (by omega)) ?_
    rintro _ _ ⟨rfl, rfl⟩
    have hp : ∀ x ∈ Lib.split s [46], x.length ≤ 1099511627776 := fun x hx => by
      have := splitK_le [46] _ s x hx
      omega
    have hn := split_le s
    generalize Lib.split s [46] = l at hp hn
    refine eo_share 9 rfl rfl (Nat.zero_le _) ?_
    repeat' (first | refine eo_x hΓ rfl rfl ?_ | refine eo_nil ?_ | refine eo_skip rfl rfl ?_ | refine eo_guard rfl ?_ | refine eo_gsplit rfl rfl (fun h => ?_) (fun h => ?_) | refine ew_seq ?_ | refine ew_region ?_ | refine ew_block ?_ | refine ew_skip ?_ | refine ew_exit ?_ | refine ew_ret ?_ | refine ew_condT rfl ?_ | refine ew_condF rfl ?_ | refine ew_cond rfl (fun h => ?_) (fun h => ?_))
    refine ew_loopS (fun n fr hp => ∃ i, i ≤ l.length ∧ n = l.length - i ∧ fr = [(9, .d (Sl eS l)), (10, I l.length), (11, I (i : Nat))] ∧ hp = [.dead] ∧ ∀ j x, j < i → l[j]? = some x → isLabB x = true) l.length [(9, .d (Sl eS l)), (10, I l.length), (11, I ((0 : Nat) : Int))] ⟨rfl, rfl, rfl, trivial⟩ ⟨0, Nat.zero_le _, rfl, rfl, rfl, fun j c h => by omega⟩ ?_
    rintro n fr hp' ⟨i, hi, rfl, rfl, rfl, hg⟩
    by_cases hlt : i < l.length
    · have hx := List.getElem?_eq_getElem hlt
      have hm := List.getElem_mem hlt
      generalize l[i] = x at hx hm
      repeat' (first | refine ew_condT (get_b rfl (by first | (simp; done) | omega | (simp; omega))) ?_ | refine ew_condF (get_b rfl (by first | (simp; done) | omega | (simp; omega))) ?_ | refine eo_x hΓ rfl rfl ?_ | refine eo_nil ?_ | refine eo_skip rfl rfl ?_ | refine eo_guard rfl ?_ | refine eo_gsplit rfl rfl (fun h => ?_) (fun h => ?_) | refine ew_seq ?_ | refine ew_region ?_ | refine ew_block ?_ | refine ew_skip ?_ | refine ew_exit ?_ | refine ew_ret ?_ | refine ew_condT rfl ?_ | refine ew_condF rfl ?_ | refine ew_cond rfl (fun h => ?_) (fun h => ?_) | refine eo_elem (ys := eS x) hΓ i rfl rfl rfl rfl rfl rfl hlt (fun j d hd => flat_elem (sz := 1) (fun _ _ => rfl) hx j d hd) (by simp) rfl ?_ | refine eo_pure rfl (Nat.zero_le _) rfl rfl (callable Tryd.func34 rfl rfl) (c_labelForm x (hp x hm)) rfl rfl ?_)
      all_goals (try simp only [decide_eq_true_eq, decide_eq_false_iff_not, Bool.not_eq_true', Bool.not_eq_false', Bool.not_eq_true, Bool.not_eq_false, beq_iff_eq, beq_eq_false_iff_ne, bne_iff_ne, bne_eq_false_iff_eq, size_S, toList_S, Bool.and_eq_true, Bool.or_eq_true, Bool.and_eq_false_iff, Bool.or_eq_false_iff] at *)
      all_goals first
        | (exfalso; omega)
        | (refine ⟨l.length - (i + 1), [(9, .d (Sl eS l)), (10, I l.length), (11, I ((i + 1 : Nat) : Int))], [.dead], [], by omega, ⟨i + 1, hlt, rfl, rfl, rfl, fun j x' hj hx' => ?_⟩, ⟨rfl, rfl, get_eq rfl (w64_succ (by omega)), trivial⟩, rfl, .inl rfl⟩
           by_cases e : j = i
           · subst e
             rw [hx] at hx'
             cases hx'
             assumption
           · exact hg j x' (by omega) hx')
        | (refine ⟨by simp, res_all hΓ rfl ?_⟩
           have : l.all isLabB = false := by
             rw [List.all_eq_false]
             exact ⟨x, hm, by simp_all⟩
           simp [retG, this, hl])
    · repeat' (first | refine ew_condT (get_b rfl (by first | (simp; done) | omega | (simp; omega))) ?_ | refine ew_condF (get_b rfl (by first | (simp; done) | omega | (simp; omega))) ?_ | refine eo_x hΓ rfl rfl ?_ | refine eo_nil ?_ | refine eo_skip rfl rfl ?_ | refine eo_guard rfl ?_ | refine eo_gsplit rfl rfl (fun h => ?_) (fun h => ?_) | refine ew_seq ?_ | refine ew_region ?_ | refine ew_block ?_ | refine ew_skip ?_ | refine ew_exit ?_ | refine ew_ret ?_ | refine ew_condT rfl ?_ | refine ew_condF rfl ?_ | refine ew_cond rfl (fun h => ?_) (fun h => ?_))
      all_goals (refine ⟨by simp, res_all hΓ rfl ?_⟩
                 have : l.all isLabB = true := by
                   rw [List.all_eq_true]
                   intro x hx
                   obtain ⟨j, hj⟩ := List.getElem?_of_mem hx
                   exact hg j x (by have := (List.getElem?_eq_some_iff.1 hj).1; omega) hj
                 simp [retG, this, hl])
  · repeat' (first | refine ew_condT (get_b rfl (by first | (simp; done) | omega | (simp; omega))) ?_ | refine ew_condF (get_b rfl (by first | (simp; done) | omega | (simp; omega))) ?_ | refine eo_x hΓ rfl rfl ?_ | refine eo_nil ?_ | refine eo_skip rfl rfl ?_ | refine eo_guard rfl ?_ | refine eo_gsplit rfl rfl (fun h => ?_) (fun h => ?_) | refine ew_seq ?_ | refine ew_region ?_ | refine ew_block ?_ | refine ew_skip ?_ | refine ew_exit ?_ | refine ew_ret ?_ | refine ew_condT rfl ?_ | refine ew_condF rfl ?_ | refine ew_cond rfl (fun h => ?_) (fun h => ?_))
    all_goals exact ⟨by simp, res_all hΓ rfl (by simp [retG, hl])⟩

def domsF : List (List UInt8) → Int
  | [] => 0
  | s :: l => if domF s = 0 then domsF l else domF s
theorem domsF_at : ∀ (l : List (List UInt8)) (i : Nat) (x : List UInt8), (∀ (j : Nat) y, j < i → l[j]? = some y → domF y = 0) → l[i]? = some x → domF x ≠ 0 → domsF l = domF x
  | [], i, x, _, h, _ => by simp at h
  | y :: l, 0, x, _, h, hx => by
    simp at h
    subst h
    simp [domsF, hx]
  | y :: l, i + 1, x, hj, h, hx => by
    have h0 := hj 0 y (by omega) rfl
    simp only [domsF, h0, if_true]
    exact domsF_at l i x (fun j y' hlt hy => hj (j + 1) y' (by omega) (by simpa using hy)) (by simpa using h) hx
theorem domsF_all : ∀ (l : List (List UInt8)), (∀ y ∈ l, domF y = 0) → domsF l = 0
  | [], _ => rfl
  | y :: l, h => by
    simp only [domsF, h y List.mem_cons_self, if_true]
    exact domsF_all l fun y hy => h y (List.mem_cons_of_mem _ hy)
theorem c_checkDomains (l : List (List UInt8)) (hn : l.length ≤ 1099511627776) (hp : ∀ x ∈ l, x.length ≤ 1099511627776) : Pure Tryd.prog 28 [.d (Sl eS l)] (I (domsF l)) := by
  refine Pure.enter (Fr.of 0 [.d (Sl eS l)]) Tryd.func28 rfl (Fr.of_ok _) rfl rfl ?_
  repeat' (first | refine eo_x hΓ rfl rfl ?_ | refine eo_nil ?_ | refine eo_skip rfl rfl ?_ | refine eo_guard rfl ?_ | refine eo_gsplit rfl rfl (fun h => ?_) (fun h => ?_) | refine ew_seq ?_ | refine ew_region ?_ | refine ew_block ?_ | refine ew_skip ?_ | refine ew_exit ?_ | refine ew_ret ?_ | refine ew_condT rfl ?_ | refine ew_condF rfl ?_ | refine ew_cond rfl (fun h => ?_) (fun h => ?_))
  refine ew_loopS (fun n fr hp => ∃ i, i ≤ l.length ∧ n = l.length - i ∧ fr = [(6, .d (Sl eS l)), (7, I l.length), (8, I (i : Nat))] ∧ hp = [] ∧ ∀ j x, j < i → l[j]? = some x → domF x = 0) l.length [(6, .d (Sl eS l)), (7, I l.length), (8, I ((0 : Nat) : Int))] ⟨rfl, rfl, rfl, trivial⟩ ⟨0, Nat.zero_le _, rfl, rfl, rfl, fun j c h => by omega⟩ ?_
  rintro n fr hp' ⟨i, hi, rfl, rfl, rfl, hg⟩
  by_cases hlt : i < l.length
  · have hx := List.getElem?_eq_getElem hlt
    have hm := List.getElem_mem hlt
    generalize l[i] = x at hx hm
    repeat' (first | refine ew_condT (get_b rfl (by first | (simp; done) | omega | (simp; omega))) ?_ | refine ew_condF (get_b rfl (by first | (simp; done) | omega | (simp; omega))) ?_ | refine eo_x hΓ rfl rfl ?_ | refine eo_nil ?_ | refine eo_skip rfl rfl ?_ | refine eo_guard rfl ?_ | refine eo_gsplit rfl rfl (fun h => ?_) (fun h => ?_) | refine ew_seq ?_ | refine ew_region ?_ | refine ew_block ?_ | refine ew_skip ?_ | refine ew_exit ?_ | refine ew_ret ?_ | refine ew_condT rfl ?_ | refine ew_condF rfl ?_ | refine ew_cond rfl (fun h => ?_) (fun h => ?_) | refine eo_elem (ys := eS x) hΓ i rfl rfl rfl rfl rfl rfl hlt (fun j d hd => flat_elem (sz := 1) (fun _ _ => rfl) hx j d hd) (by simp) rfl ?_ | refine eo_pure rfl (Nat.zero_le _) rfl rfl (callable Tryd.func8 rfl rfl) (c_checkDomain x (hp x hm)) rfl rfl ?_)
    all_goals (try simp only [decide_eq_true_eq, decide_eq_false_iff_not, Bool.not_eq_true', Bool.not_eq_false', Bool.not_eq_true, Bool.not_eq_false, beq_iff_eq, beq_eq_false_iff_ne, bne_iff_ne, bne_eq_false_iff_eq, size_S, toList_S, Bool.and_eq_true, Bool.or_eq_true, Bool.and_eq_false_iff, Bool.or_eq_false_iff] at *)
    all_goals first
      | (exfalso; omega)
      | (refine ⟨l.length - (i + 1), [(6, .d (Sl eS l)), (7, I l.length), (8, I ((i + 1 : Nat) : Int))], [], [], by omega, ⟨i + 1, hlt, rfl, rfl, rfl, fun j x' hj hx' => ?_⟩, ⟨rfl, rfl, get_eq rfl (w64_succ (by omega)), trivial⟩, rfl, .inl rfl⟩
         by_cases e : j = i
         · subst e
           rw [hx] at hx'
           cases hx'
           simp_all
         · exact hg j x' (by omega) hx')
      | (refine ⟨by simp, res_all hΓ rfl ?_⟩
         rw [domsF_at l i x hg hx (by assumption)]
         rfl)
  · repeat' (first | refine ew_condT (get_b rfl (by first | (simp; done) | omega | (simp; omega))) ?_ | refine ew_condF (get_b rfl (by first | (simp; done) | omega | (simp; omega))) ?_ | refine eo_x hΓ rfl rfl ?_ | refine eo_nil ?_ | refine eo_skip rfl rfl ?_ | refine eo_guard rfl ?_ | refine eo_gsplit rfl rfl (fun h => ?_) (fun h => ?_) | refine ew_seq ?_ | refine ew_region ?_ | refine ew_block ?_ | refine ew_skip ?_ | refine ew_exit ?_ | refine ew_ret ?_ | refine ew_condT rfl ?_ | refine ew_condF rfl ?_ | refine ew_cond rfl (fun h => ?_) (fun h => ?_))
    all_goals (refine ⟨by simp, res_all hΓ rfl ?_⟩
               rw [domsF_all l]
               · rfl
               · intro x hx
                 obtain ⟨j, hj⟩ := List.getElem?_of_mem hx
                 exact hg j x (by have := (List.getElem?_eq_some_iff.1 hj).1; omega) hj)

def undB (a b : List UInt8) : Bool := (a == b) || Lib.hasSuffix a (46 :: b)
theorem c_under (a b : List UInt8) (ha : a.length ≤ 1099511627776) (hb : b.length ≤ 1099511627776) : Pure Tryd.prog 29 [S a, S b] (B (undB a b)) := by
  refine Pure.enter (Fr.of 0 [S a, S b]) Tryd.func29 rfl (Fr.of_ok _) rfl rfl ?_
  repeat' (first | refine ew_condT (get_b rfl (by first | (simp; done) | omega | (simp; omega))) ?_ | refine ew_condF (get_b rfl (by first | (simp; done) | omega | (simp; omega))) ?_ | refine eo_x hΓ rfl rfl ?_ | refine eo_nil ?_ | refine eo_skip rfl rfl ?_ | refine eo_guard rfl ?_ | refine eo_gsplit rfl rfl (fun h => ?_) (fun h => ?_) | refine ew_seq ?_ | refine ew_region ?_ | refine ew_block ?_ | refine ew_skip ?_ | refine ew_exit ?_ | refine ew_ret ?_ | refine ew_condT rfl ?_ | refine ew_condF rfl ?_ | refine ew_cond rfl (fun h => ?_) (fun h => ?_) | refine eo_cat rfl rfl (by simp; omega) rfl ?_ | refine eo_pure rfl (Nat.zero_le _) rfl rfl (callable Tryd.func36 rfl rfl) (c_hasSuffix a (46 :: b) ha) rfl rfl ?_)
  all_goals exact ⟨by simp, res_all hΓ rfl (by simp_all [retG, undB])⟩
theorem c_isUnder (a b : List UInt8) (ha : a.length ≤ 1099511627776) (hb : b.length ≤ 1099511627776) : Pure Tryd.prog 12 [S a, S b] (B (undB a b)) := by
  refine Pure.enter (Fr.of 0 [S a, S b]) Tryd.func12 rfl (Fr.of_ok _) rfl rfl ?_
  repeat' (first | refine ew_condT (get_b rfl (by first | (simp; done) | omega | (simp; omega))) ?_ | refine ew_condF (get_b rfl (by first | (simp; done) | omega | (simp; omega))) ?_ | refine eo_x hΓ rfl rfl ?_ | refine eo_nil ?_ | refine eo_skip rfl rfl ?_ | refine eo_guard rfl ?_ | refine eo_gsplit rfl rfl (fun h => ?_) (fun h => ?_) | refine ew_seq ?_ | refine ew_region ?_ | refine ew_block ?_ | refine ew_skip ?_ | refine ew_exit ?_ | refine ew_ret ?_ | refine ew_condT rfl ?_ | refine ew_condF rfl ?_ | refine ew_cond rfl (fun h => ?_) (fun h => ?_) | refine eo_cat rfl rfl (by simp; omega) rfl ?_ | refine eo_pure rfl (Nat.zero_le _) rfl rfl (callable Tryd.func36 rfl rfl) (c_hasSuffix a (46 :: b) ha) rfl rfl ?_)
  all_goals exact ⟨by simp, res_all hΓ rfl (by simp_all [retG, undB])⟩
def dom2 (a b : List UInt8) : Int := if domF a = 0 then domF b else domF a
theorem domsF_two (a b : List UInt8) : domsF [a, b] = dom2 a b := by
  simp only [domsF, dom2]
  split <;> simp_all
theorem c_Under (a b : List UInt8) (ha : a.length ≤ 1099511627776) (hb : b.length ≤ 1099511627776) : Pure Tryd.prog 6 [S a, S b] (.tup [B (decide (dom2 a b = 0) && undB a b), I (dom2 a b)]) := by
  have hc := c_checkDomains [a, b] (by simp) (by simp; omega)
  rw [domsF_two] at hc
  refine Pure.enter (Fr.of 0 [S a, S b]) Tryd.func6 rfl (Fr.of_ok _) rfl rfl ?_
  repeat' (first | refine ew_condT (get_b rfl (by first | (simp; done) | omega | (simp; omega))) ?_ | refine ew_condF (get_b rfl (by first | (simp; done) | omega | (simp; omega))) ?_ | refine eo_x hΓ rfl rfl ?_ | refine eo_nil ?_ | refine eo_skip rfl rfl ?_ | refine eo_guard rfl ?_ | refine eo_gsplit rfl rfl (fun h => ?_) (fun h => ?_) | refine ew_seq ?_ | refine ew_region ?_ | refine ew_block ?_ | refine ew_skip ?_ | refine ew_exit ?_ | refine ew_ret ?_ | refine ew_condT rfl ?_ | refine ew_condF rfl ?_ | refine ew_cond rfl (fun h => ?_) (fun h => ?_) | refine eo_lit hΓ rfl rfl rfl rfl rfl rfl rfl rfl rfl rfl rfl (Nat.zero_le _) ?_ | refine eo_pure rfl (Nat.zero_le _) rfl rfl (callable Tryd.func28 rfl rfl) hc rfl rfl ?_ | refine eo_pure rfl (Nat.zero_le _) rfl rfl (callable Tryd.func29 rfl rfl) (c_under a b ha hb) rfl rfl ?_)
  all_goals (try simp only [decide_eq_true_eq, decide_eq_false_iff_not, Bool.not_eq_true', Bool.not_eq_false', Bool.not_eq_true, Bool.not_eq_false, beq_iff_eq, beq_eq_false_iff_ne, bne_iff_ne, bne_eq_false_iff_eq, size_S, toList_S, Bool.and_eq_true, Bool.or_eq_true, Bool.and_eq_false_iff, Bool.or_eq_false_iff] at *)
  all_goals exact ⟨by simp, res_all hΓ rfl (by simp_all [retG])⟩
end Go.Proofs.YtjhoahdlehkfaaaDoor
