/-
  The reference's AddrOfBack: of a name of an address the address; of another one nothing.
-/
import Derived.Test.YtffmljbfffojlaaGreatDoorFBackTo
set_option linter.unusedVariables false
set_option linter.unusedSimpArgs false
set_option maxRecDepth 100000
namespace Go.Gk
def dgs : Str := [48, 49, 50, 51, 52, 53, 54, 55, 56, 57]
theorem dgs_val (c : UInt8) (h : dgs.contains c = true) : ∃ d, d < 10 ∧ Lib.digitVal c = some d ∧ (c == 45) = false ∧ (c == 43) = false := by
  have key : ∀ n : Fin 256, dgs.contains (UInt8.ofNat n.val) = true → (UInt8.ofNat n.val).toNat - 48 < 10 ∧ Lib.digitVal (UInt8.ofNat n.val) = some ((UInt8.ofNat n.val).toNat - 48) ∧ (UInt8.ofNat n.val == 45) = false ∧ (UInt8.ofNat n.val == 43) = false := by decide +kernel
  have := key ⟨c.toNat, c.toNat_lt⟩
  simp only [UInt8.ofNat_toNat] at this
  exact ⟨_, this h⟩
theorem decFrom_ok : ∀ (t : Str) (acc : Nat), (t.all fun c => dgs.contains c) = true → ∃ n, Lib.decFrom acc t = some n ∧ n < (acc + 1) * 10 ^ t.length
  | [], acc, _ => ⟨acc, rfl, by simp⟩
  | c :: t, acc, h => by
    rw [List.all_cons, Bool.and_eq_true] at h
    obtain ⟨d, d1, d2, _⟩ := dgs_val c h.1
    obtain ⟨n, n1, n2⟩ := decFrom_ok t (acc * 10 + d) h.2
    refine ⟨n, by simp only [Lib.decFrom, d2, n1], Nat.lt_of_lt_of_le n2 ?_⟩
    rw [List.length_cons, Nat.pow_succ, Nat.mul_comm (10 ^ t.length), ← Nat.mul_assoc]
    exact Nat.mul_le_mul_right _ (by omega)
theorem decNat_ok (t : Str) (hn : t ≠ []) (hl : t.length ≤ 3) (h : (t.all fun c => dgs.contains c) = true) : ∃ n : Nat, Lib.decNat t = some n ∧ n < 1000 := by
  obtain ⟨n, n1, n2⟩ := decFrom_ok t 0 h
  refine ⟨n, by unfold Lib.decNat; rw [if_neg (by simpa using hn)]; exact n1, Nat.lt_of_lt_of_le n2 ?_⟩
  rw [Nat.zero_add, Nat.one_mul]
  exact Nat.pow_le_pow_right (by decide) hl
theorem itoa_any (n : Int) (h1 : -1000 < n) (h2 : n < 1000) : m_strconv_Itoa n = some (Lib.itoa n) := by
  unfold m_strconv_Itoa
  rw [decide_eq_true (show -9223372036854775808 ≤ n by omega), decide_eq_true (show n ≤ 9223372036854775807 by omega)]
  rfl
theorem atoi_any (s : Str) (hn : Lib.trimPrefix s [45] ≠ []) (hl : (Lib.trimPrefix s [45]).length ≤ 3) (h : ((Lib.trimPrefix s [45]).all fun c => dgs.contains c) = true) : ∃ n : Int, m_strconv_Atoi s = some n ∧ -1000 < n ∧ n < 1000 := by
  obtain ⟨m, m1, m2⟩ := decNat_ok _ hn hl h
  have hg : ∀ r : Str, s.length ≤ 18 → m_strconv_Atoi s = Lib.atoi s := fun r hr => by
    unfold m_strconv_Atoi
    rw [Nat.ble_eq_true_of_le hr]
    rfl
  cases s with
  | nil => simp [Lib.trimPrefix, Lib.hasPrefix] at hn
  | cons c r =>
    by_cases hc : c = 45
    · subst hc
      have e : Lib.trimPrefix (45 :: r) [45] = r := rfl
      rw [e] at m1 hl
      refine ⟨-(m : Int), ?_, by omega, by omega⟩
      rw [hg [] (by simp; omega)]
      simp only [Lib.atoi]
      rw [if_pos (by decide), m1]
      rfl
    · have e : Lib.trimPrefix (c :: r) [45] = c :: r := by
        unfold Lib.trimPrefix Lib.hasPrefix
        rw [if_neg]
        simp [List.isPrefixOf, Ne.symm hc]
      rw [e] at m1 hl h
      have hd := dgs_val c (by rw [List.all_cons, Bool.and_eq_true] at h; exact h.1)
      obtain ⟨d, _, _, d3, d4⟩ := hd
      refine ⟨(m : Int), ?_, by omega, by omega⟩
      rw [hg [] (by omega)]
      simp only [Lib.atoi, d3, d4, m1]
      rfl
theorem number_any (s : Str) (hs : s.length ≤ 300) : ∃ n b, m_laneref2_Number s 3 = some (n, b) := by
  have htl : (Lib.trimPrefix s [45]).length ≤ 300 := by
    unfold Lib.trimPrefix
    split
    · simp; omega
    · exact hs
  unfold m_laneref2_Number
  rw [show m_strings_TrimPrefix s [45] = some (Lib.trimPrefix s [45]) from rfl, bi_some]
  cases h1 : ((Lib.trimPrefix s [45] == []) || decide (((Lib.trimPrefix s [45]).length : Int) > 3)) with
  | true => exact ⟨0, false, rfl⟩
  | false =>
    rw [Bool.or_eq_false_iff] at h1
    have hne : Lib.trimPrefix s [45] ≠ [] := by simpa using h1.1
    have hl3 : (Lib.trimPrefix s [45]).length ≤ 3 := by have := of_decide_eq_false h1.2; omega
    have ho : m_laneref2_only (Lib.trimPrefix s [45]) [48, 49, 50, 51, 52, 53, 54, 55, 56, 57] = some ((Lib.trimPrefix s [45]).all fun c => dgs.contains c) := by
      unfold m_laneref2_only m_strings_Trim
      rw [Nat.ble_eq_true_of_le (show (Lib.trimPrefix s [45]).length ≤ 1099511627776 by omega)]
      show some (Lib.trimS (Lib.trimPrefix s [45]) dgs == []) = _
      rw [trimS_nil]
    rw [cond_false, ho]
    cases h2 : ((Lib.trimPrefix s [45]).all fun c => dgs.contains c) with
    | false => exact ⟨0, false, rfl⟩
    | true =>
      obtain ⟨n, n1, n2, n3⟩ := atoi_any s hne hl3 h2
      refine ⟨n, (Lib.itoa n == s), ?_⟩
      simp only [bi_some, Bool.not_true, cond_false, n1, itoa_any n n2 n3]
theorem number_dec : ∀ n : Fin 256, m_laneref2_Number (Lib.decDigits n.val) 3 = some ((n.val : Int), true) := by decide +kernel
theorem index_hex : ∀ n : Fin 16, m_strings_Index [48, 49, 50, 51, 52, 53, 54, 55, 56, 57, 97, 98, 99, 100, 101, 102] [hexB n.val] = some (n.val : Int) := by decide +kernel
theorem and_255 (n : Int) : ∃ d : Nat, d < 256 ∧ IntKind.u64.wrap (bitsV .and .i64 n 255) = (d : Int) := by
  refine ⟨(BitVec.ofInt 64 n &&& BitVec.ofInt 64 255).toNat, ?_, ?_⟩
  · rw [BitVec.toNat_and]
    exact Nat.lt_of_le_of_lt Nat.and_le_right (by decide)
  · have h : (BitVec.ofInt 64 n &&& BitVec.ofInt 64 255).toNat < 256 := by
      rw [BitVec.toNat_and]
      exact Nat.lt_of_le_of_lt Nat.and_le_right (by decide)
    show IntKind.u64.wrap (IntKind.i64.wrap ((BitVec.ofInt 64 n &&& BitVec.ofInt 64 255).toNat : Int)) = _
    rw [i64_id (by omega), u64_id (by omega)]
def F4 (y1 : List Str) (s8 : Int × Int) : Option (LS (Int × Int) Int) :=
  bif decide ((s8.2 : Int) < 4) then (bi (getZ y1 s8.2) fun x18 => bi (m_laneref2_Number x18 3) fun y20 => bi (shlZ .u64 (IntKind.u64.wrap (bitsV .and .i64 y20.1 255)) (wi (8 * s8.2))) fun y22 => some (.go (bitsV .or .u64 s8.1 y22, wi (s8.2 + 1)))) else (some (.out s8.1))
def F6 (y1 : List Str) (s28 : Int × Int × Int) : Option (LS (Int × Int × Int) T_api_Addr) :=
  bif decide ((s28.2.2 : Int) < 32) then (bi (getZ y1 s28.2.2) fun x38 => bi (m_strings_Index [48, 49, 50, 51, 52, 53, 54, 55, 56, 57, 97, 98, 99, 100, 101, 102] x38) fun y40 => bif decide ((s28.2.2 : Int) < 16) then (bi (shlZ .u64 (IntKind.u64.wrap ((if 0 > y40 then 0 else y40))) (wi (4 * s28.2.2))) fun y43 => some (.go (s28.1, bitsV .or .u64 s28.2.1 y43, wi (s28.2.2 + 1)))) else (bi (shlZ .u64 (IntKind.u64.wrap ((if 0 > y40 then 0 else y40))) (wi (4 * (wi (s28.2.2 - 16))))) fun y46 => some (.go (bitsV .or .u64 s28.1 y46, s28.2.1, wi (s28.2.2 + 1))))) else (some (.out (⟨true, s28.1, s28.2.1⟩ : T_api_Addr)))
theorem addrOf_def (k : Nat) (name : Str) : m_laneref1_AddrOfBack k name = bi (m_strings_Split name [46]) fun y1 => bi (bif ((y1.length : Int) : Int) == 6 then (bi (loopM (F4 y1) k (0, 0)) fun q10 => some (.inl (⟨false, 0, q10⟩ : T_api_Addr))) else (bif ((y1.length : Int) : Int) == 34 then (bi (loopM (F6 y1) k (0, 0, 0)) fun q30 => some (.inl q30)) else (bi (some ((⟨false, 0, 0⟩ : T_api_Addr), false)) fun v => some (.inr v))) : Option (T_api_Addr ⊕ (T_api_Addr × Bool))) fun q => orI q fun a5 => bi (m_laneref1_BackName k a5) fun y52 => bif !((y52 : Str) == name) then (some ((⟨false, 0, 0⟩ : T_api_Addr), false)) else (some (a5, true)) := rfl
/-- One round at four numbers. -/
theorem f4_step (y1 : List Str) (i X d : Nat) (x : Str) (n : Int) (b : Bool) (hi : i < 4) (hX : X < 2 ^ (8 * i)) (hx : y1[i]? = some x) (hn : m_laneref2_Number x 3 = some (n, b)) (hd : d < 256) (hnd : IntKind.u64.wrap (bitsV .and .i64 n 255) = (d : Int)) :
    F4 y1 ((X : Int), (i : Int)) = some (.go (((d * 2 ^ (8 * i) + X : Nat) : Int), ((i + 1 : Nat) : Int))) ∧ d * 2 ^ (8 * i) + X < 2 ^ (8 * (i + 1)) := by
  have hw : wi (8 * (i : Int)) = ((8 * i : Nat) : Int) := by rw [wi_id (by omega) (by omega)]; omega
  have hnx : wi ((i : Int) + 1) = ((i + 1 : Nat) : Int) := by rw [wi_id (by omega) (by omega)]; omega
  have hp : 2 ^ (8 * (i + 1)) = 256 * 2 ^ (8 * i) := by rw [Nat.mul_add, Nat.pow_add, Nat.mul_comm]
  have hlt : d * 2 ^ (8 * i) + X < 2 ^ (8 * (i + 1)) := by
    rw [hp]
    have : (d + 1) * 2 ^ (8 * i) ≤ 256 * 2 ^ (8 * i) := Nat.mul_le_mul_right _ hd
    rw [Nat.add_mul, Nat.one_mul] at this
    omega
  have h64 : (2 : Nat) ^ (8 * (i + 1)) ≤ 2 ^ 64 := Nat.pow_le_pow_right (by decide) (by omega)
  have hd64 : d * 2 ^ (8 * i) < 2 ^ 64 := by omega
  refine ⟨?_, hlt⟩
  unfold F4
  rw [decide_eq_true (show (i : Int) < 4 by omega)]
  simp only [cond_true, getZ_nn hx, bi_some, hn, hnd, hw]
  rw [shl_u d (8 * i) (by omega) hd64, bi_some, or_u (show X < 2 ^ 64 by omega) hd64, Nat.or_comm, or_add hX, hnx]
theorem f4_any (y1 : List Str) (hl : y1.length = 6) (hx : ∀ x ∈ y1, x.length ≤ 300) : ∃ X : Nat, X < 4294967296 ∧ loopM (F4 y1) 400 (0, 0) = some (X : Int) := by
  obtain ⟨r, e1, X, e2, e3⟩ := loopM_inv (f := F4 y1) (fun s => ∃ i X : Nat, i ≤ 4 ∧ X < 2 ^ (8 * i) ∧ s = ((X : Int), (i : Int))) (fun s => (4 - s.2).toNat) (fun r => ∃ X : Nat, X < 4294967296 ∧ r = (X : Int))
    (by
      rintro s ⟨i, X, hi, hX, rfl⟩
      by_cases h4 : i = 4
      · subst h4
        exact .inl ⟨_, rfl, X, hX, rfl⟩
      · have hg : y1[i]? = some (y1[i]'(by omega)) := List.getElem?_eq_getElem (by omega)
        obtain ⟨n, b, hn⟩ := number_any _ (hx _ (List.getElem_mem (show i < y1.length by omega)))
        obtain ⟨d, hd, hnd⟩ := and_255 n
        obtain ⟨f1, f2⟩ := f4_step y1 i X d _ n b (by omega) hX hg hn hd hnd
        exact .inr ⟨_, f1, ⟨i + 1, _, by omega, f2, rfl⟩, by simp only; omega⟩)
    400 (0, 0) (by decide) ⟨0, 0, by omega, by decide, rfl⟩
  subst e3
  exact ⟨X, e2, e1⟩
theorem f4_right (L : Nat) (hL : L < 4294967296) (t : List Str) : loopM (F4 (decL L 4 ++ t)) 400 (0, 0) = some (L : Int) := by
  obtain ⟨r, e1, e2⟩ := loopM_inv (f := F4 (decL L 4 ++ t)) (fun s => ∃ i : Nat, i ≤ 4 ∧ s = (((L % 2 ^ (8 * i) : Nat) : Int), (i : Int))) (fun s => (4 - s.2).toNat) (fun r => r = (L : Int))
    (by
      rintro s ⟨i, hi, rfl⟩
      by_cases h4 : i = 4
      · subst h4
        exact .inl ⟨_, rfl, congrArg Int.ofNat (Nat.mod_eq_of_lt hL)⟩
      · have hg : (decL L 4 ++ t)[i]? = some (Lib.decDigits (L / 2 ^ (8 * i) % 2 ^ 8)) := by
          rw [List.getElem?_append_left (by simp [decL]; omega)]
          simp only [decL, List.getElem?_map]
          rw [List.getElem?_range (by omega)]
          rfl
        have hd : L / 2 ^ (8 * i) % 2 ^ 8 < 256 := Nat.mod_lt _ (by decide)
        obtain ⟨f1, _⟩ := f4_step (decL L 4 ++ t) i (L % 2 ^ (8 * i)) _ _ _ _ (by omega) (Nat.mod_lt _ (Nat.two_pow_pos _)) hg (number_dec ⟨_, hd⟩) hd (by
          have : ∀ n : Fin 256, IntKind.u64.wrap (bitsV .and .i64 (n.val : Int) 255) = (n.val : Int) := by decide +kernel
          exact this ⟨_, hd⟩)
        refine .inr ⟨_, f1, ⟨i + 1, by omega, ?_⟩, by simp only; omega⟩
        rw [show 8 * (i + 1) = 8 * i + 8 by omega, Nat.pow_add, Nat.mod_mul, Nat.add_comm, Nat.mul_comm (2 ^ (8 * i))])
    400 (0, 0) (by decide) ⟨0, by omega, by simp [Nat.mod_one]⟩
  rw [e1, e2]
/-- One round at thirty-two digits. -/
theorem f6_lo (y1 : List Str) (i X d : Nat) (H : Int) (x : Str) (y : Int) (hi : i < 16) (hX : X < 2 ^ (4 * i)) (hx : y1[i]? = some x) (hn : m_strings_Index [48, 49, 50, 51, 52, 53, 54, 55, 56, 57, 97, 98, 99, 100, 101, 102] x = some y) (hd : d < 16) (hnd : y = (d : Int)) :
    F6 y1 (H, (X : Int), (i : Int)) = some (.go (H, ((d * 2 ^ (4 * i) + X : Nat) : Int), ((i + 1 : Nat) : Int))) := by
  subst hnd
  have hw : wi (4 * (i : Int)) = ((4 * i : Nat) : Int) := by rw [wi_id (by omega) (by omega)]; omega
  have hnx : wi ((i : Int) + 1) = ((i + 1 : Nat) : Int) := by rw [wi_id (by omega) (by omega)]; omega
  have hp : 2 ^ (4 * (i + 1)) = 16 * 2 ^ (4 * i) := by rw [Nat.mul_add, Nat.pow_add, Nat.mul_comm]
  have h64 : (2 : Nat) ^ (4 * (i + 1)) ≤ 2 ^ 64 := Nat.pow_le_pow_right (by decide) (by omega)
  have hm : (d + 1) * 2 ^ (4 * i) ≤ 16 * 2 ^ (4 * i) := Nat.mul_le_mul_right _ hd
  rw [Nat.add_mul, Nat.one_mul] at hm
  have hd64 : d * 2 ^ (4 * i) < 2 ^ 64 := by have := Nat.two_pow_pos (4 * i); omega
  unfold F6
  rw [decide_eq_true (show (i : Int) < 32 by omega), decide_eq_true (show (i : Int) < 16 by omega)]
  simp only [cond_true, getZ_nn hx, bi_some, hn, hw]
  rw [if_neg (show ¬ (0 : Int) > (d : Int) by omega), u64_id (by omega), shl_u d (4 * i) (by omega) hd64, bi_some, or_u (show X < 2 ^ 64 by omega) hd64, Nat.or_comm, or_add hX, hnx]
theorem f6_hi (y1 : List Str) (i X d : Nat) (l : Int) (x : Str) (y : Int) (hi : i < 16) (hX : X < 2 ^ (4 * i)) (hx : y1[16 + i]? = some x) (hn : m_strings_Index [48, 49, 50, 51, 52, 53, 54, 55, 56, 57, 97, 98, 99, 100, 101, 102] x = some y) (hd : d < 16) (hnd : y = (d : Int)) :
    F6 y1 ((X : Int), l, ((16 + i : Nat) : Int)) = some (.go (((d * 2 ^ (4 * i) + X : Nat) : Int), l, ((16 + (i + 1) : Nat) : Int))) := by
  subst hnd
  have hw0 : wi (((16 + i : Nat) : Int) - 16) = (i : Int) := by rw [wi_id (by omega) (by omega)]; omega
  have hw : wi (4 * (i : Int)) = ((4 * i : Nat) : Int) := by rw [wi_id (by omega) (by omega)]; omega
  have hnx : wi (((16 + i : Nat) : Int) + 1) = ((16 + (i + 1) : Nat) : Int) := by rw [wi_id (by omega) (by omega)]; omega
  have hp : 2 ^ (4 * (i + 1)) = 16 * 2 ^ (4 * i) := by rw [Nat.mul_add, Nat.pow_add, Nat.mul_comm]
  have h64 : (2 : Nat) ^ (4 * (i + 1)) ≤ 2 ^ 64 := Nat.pow_le_pow_right (by decide) (by omega)
  have hm : (d + 1) * 2 ^ (4 * i) ≤ 16 * 2 ^ (4 * i) := Nat.mul_le_mul_right _ hd
  rw [Nat.add_mul, Nat.one_mul] at hm
  have hd64 : d * 2 ^ (4 * i) < 2 ^ 64 := by have := Nat.two_pow_pos (4 * i); omega
  unfold F6
  rw [decide_eq_true (show ((16 + i : Nat) : Int) < 32 by omega), decide_eq_false (show ¬ ((16 + i : Nat) : Int) < 16 by omega)]
  simp only [cond_true, cond_false, getZ_nn hx, bi_some, hn, hw0, hw]
  rw [if_neg (show ¬ (0 : Int) > (d : Int) by omega), u64_id (by omega), shl_u d (4 * i) (by omega) hd64, bi_some, or_u (show X < 2 ^ 64 by omega) hd64, Nat.or_comm, or_add hX, hnx]
theorem f6_any (y1 : List Str) (hl : y1.length = 34) (hx : ∀ x ∈ y1, x.length ≤ 300) : ∃ a, AOk a ∧ a.Six = true ∧ loopM (F6 y1) 400 (0, 0, 0) = some a := by
  obtain ⟨r, e1, e2, e3⟩ := loopM_inv (f := F6 y1) (fun s => ∃ i : Nat, i ≤ 32 ∧ s.2.2 = (i : Int) ∧ AOk ⟨true, s.1, s.2.1⟩) (fun s => (32 - s.2.2).toNat) (fun r => AOk r ∧ r.Six = true)
    (by
      rintro ⟨H, l, j⟩ ⟨i, hi, hj, ha⟩
      simp only at hj ha
      subst hj
      by_cases h4 : i = 32
      · subst h4
        exact .inl ⟨_, rfl, ha, rfl⟩
      · have hg : y1[i]? = some (y1[i]'(by omega)) := List.getElem?_eq_getElem (by omega)
        have hnx : wi ((i : Int) + 1) = ((i + 1 : Nat) : Int) := by rw [wi_id (by omega) (by omega)]; omega
        obtain ⟨y, hy⟩ : ∃ y, m_strings_Index [48, 49, 50, 51, 52, 53, 54, 55, 56, 57, 97, 98, 99, 100, 101, 102] (y1[i]'(by omega)) = some y := ⟨_, rfl⟩
        unfold F6
        simp only
        rw [decide_eq_true (show (i : Int) < 32 by omega)]
        simp only [cond_true, getZ_nn hg, bi_some, hy]
        by_cases h16 : i < 16
        · rw [decide_eq_true (show (i : Int) < 16 by omega), show wi (4 * (i : Int)) = ((4 * i : Nat) : Int) by rw [wi_id (by omega) (by omega)]; omega]
          exact .inr ⟨_, rfl, ⟨i + 1, by omega, hnx, ⟨ha.h0, ha.h1, u64_nn _, u64_lt _⟩⟩, by simp only; rw [hnx]; omega⟩
        · rw [decide_eq_false (show ¬ (i : Int) < 16 by omega), show wi ((i : Int) - 16) = ((i - 16 : Nat) : Int) by rw [wi_id (by omega) (by omega)]; omega, show wi (4 * ((i - 16 : Nat) : Int)) = ((4 * (i - 16) : Nat) : Int) by rw [wi_id (by omega) (by omega)]; omega]
          exact .inr ⟨_, rfl, ⟨i + 1, by omega, hnx, ⟨u64_nn _, u64_lt _, ha.l0, ha.l1⟩⟩, by simp only; rw [hnx]; omega⟩)
    400 (0, 0, 0) (by decide) ⟨0, by omega, rfl, ⟨Int.le_refl _, by show (0 : Int) < 18446744073709551616; decide, Int.le_refl _, by show (0 : Int) < 18446744073709551616; decide⟩⟩
  exact ⟨r, e2, e3, e1⟩
theorem f6_right (H L : Nat) (hH : H < 2 ^ 64) (hL : L < 2 ^ 64) (t : List Str) : loopM (F6 (hexL (H * 2 ^ 64 + L) 32 ++ t)) 400 (0, 0, 0) = some ⟨true, (H : Int), (L : Int)⟩ := by
  have hg : ∀ i, i < 32 → (hexL (H * 2 ^ 64 + L) 32 ++ t)[i]? = some [hexB ((H * 2 ^ 64 + L) / 2 ^ (4 * i) % 2 ^ 4)] := fun i hi => by
    rw [List.getElem?_append_left (by simp [hexL]; omega)]
    simp only [hexL, List.getElem?_map]
    rw [List.getElem?_range hi]
    rfl
  have hd : ∀ M : Nat, M % 2 ^ 4 < 16 := fun M => Nat.mod_lt _ (by decide)
  have hmm : ∀ A i : Nat, A / 2 ^ (4 * i) % 2 ^ 4 * 2 ^ (4 * i) + A % 2 ^ (4 * i) = A % 2 ^ (4 * (i + 1)) := fun A i => by
    rw [show 4 * (i + 1) = 4 * i + 4 by omega, Nat.pow_add, Nat.mod_mul, Nat.add_comm, Nat.mul_comm (2 ^ (4 * i))]
  obtain ⟨r, e1, e2⟩ := loopM_inv (f := F6 (hexL (H * 2 ^ 64 + L) 32 ++ t)) (fun s => (∃ i : Nat, i ≤ 16 ∧ s = (0, ((L % 2 ^ (4 * i) : Nat) : Int), (i : Int))) ∨ ∃ i : Nat, i ≤ 16 ∧ s = (((H % 2 ^ (4 * i) : Nat) : Int), (L : Int), ((16 + i : Nat) : Int))) (fun s => (32 - s.2.2).toNat) (fun r => r = ⟨true, (H : Int), (L : Int)⟩)
    (by
      have hhi : ∀ i : Nat, i ≤ 16 → (∃ r, F6 (hexL (H * 2 ^ 64 + L) 32 ++ t) (((H % 2 ^ (4 * i) : Nat) : Int), (L : Int), ((16 + i : Nat) : Int)) = some (.out r) ∧ r = ⟨true, (H : Int), (L : Int)⟩) ∨ (∃ s', F6 (hexL (H * 2 ^ 64 + L) 32 ++ t) (((H % 2 ^ (4 * i) : Nat) : Int), (L : Int), ((16 + i : Nat) : Int)) = some (.go s') ∧ ((∃ i : Nat, i ≤ 16 ∧ s' = (0, ((L % 2 ^ (4 * i) : Nat) : Int), (i : Int))) ∨ ∃ i : Nat, i ≤ 16 ∧ s' = (((H % 2 ^ (4 * i) : Nat) : Int), (L : Int), ((16 + i : Nat) : Int))) ∧ (32 - s'.2.2).toNat < (32 - ((16 + i : Nat) : Int)).toNat) := fun i hi => by
        by_cases h16 : i = 16
        · subst h16
          refine .inl ⟨_, rfl, ?_⟩
          rw [Nat.mod_eq_of_lt hH]
        · have f1 := f6_hi (hexL (H * 2 ^ 64 + L) 32 ++ t) i (H % 2 ^ (4 * i)) _ (L : Int) _ _ (by omega) (Nat.mod_lt _ (Nat.two_pow_pos _)) (hg (16 + i) (by omega)) (index_hex ⟨_, hd _⟩) (hd _) rfl
          rw [dig_hi H L hL, hmm] at f1
          exact .inr ⟨_, f1, .inr ⟨i + 1, by omega, rfl⟩, by simp only; omega⟩
      rintro s (⟨i, hi, rfl⟩ | ⟨i, hi, rfl⟩)
      · by_cases h16 : i = 16
        · subst h16
          have e : ((0 : Int), ((L % 2 ^ (4 * 16) : Nat) : Int), ((16 : Nat) : Int)) = (((H % 2 ^ (4 * 0) : Nat) : Int), (L : Int), ((16 + 0 : Nat) : Int)) := by
            rw [show 4 * 16 = 64 from rfl, Nat.mod_eq_of_lt hL, Nat.mul_zero, Nat.pow_zero, Nat.mod_one]
            rfl
          rw [e]
          exact hhi 0 (by omega)
        · have f1 := f6_lo (hexL (H * 2 ^ 64 + L) 32 ++ t) i (L % 2 ^ (4 * i)) _ 0 _ _ (by omega) (Nat.mod_lt _ (Nat.two_pow_pos _)) (hg i (by omega)) (index_hex ⟨_, hd _⟩) (hd _) rfl
          rw [dig_lo H L hL i (by omega), hmm] at f1
          exact .inr ⟨_, f1, .inl ⟨i + 1, by omega, rfl⟩, by simp only; omega⟩
      · exact hhi i hi)
    400 (0, 0, 0) (by decide) (.inl ⟨0, by omega, by simp [Nat.mod_one]⟩)
  rw [e1, e2]
end Go.Gk
