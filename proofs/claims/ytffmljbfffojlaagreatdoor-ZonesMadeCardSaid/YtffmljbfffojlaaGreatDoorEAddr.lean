/-
  Addresses as numbers; prefixes drawn.
-/
import Derived.Test.YtffmljbfffojlaaGreatDoorWBits
set_option linter.unusedVariables false
set_option linter.unusedSimpArgs false
set_option linter.unusedSectionVars false
set_option maxRecDepth 100000
namespace Go.Gk
/-- An address as the draws and the program make it. -/
structure AOk (a : T_api_Addr) : Prop where
  h0 : 0 ≤ a.Hi
  h1 : a.Hi < 18446744073709551616
  l0 : 0 ≤ a.Lo
  l1 : a.Lo < 18446744073709551616
/-- Its number. -/
def nm (a : T_api_Addr) : Nat := a.Hi.toNat * 2 ^ 64 + a.Lo.toNat
abbrev W9 : Type := Int × Int × Int × Int × Int × Int × Int × Int × Int
/-- A number as the reference tells it. -/
def w9 (n : Nat) (f : Bool) : W9 := (dg n 0, dg n 1, dg n 2, dg n 3, dg n 4, dg n 5, dg n 6, dg n 7, if f then 1 else 0)
theorem nm_lt {a : T_api_Addr} (h : AOk a) : nm a < 2 ^ 128 := by
  have := h.h1; have := h.l1; have := h.h0; have := h.l0
  unfold nm; omega
theorem dg_lo {a : T_api_Addr} (h : AOk a) (j : Nat) (hj : j < 4) : dg (nm a) j = a.Lo.toNat / 2 ^ (16 * j) % 65536 := by
  have := h.l1; have := h.l0
  unfold dg nm
  rcases (show j = 0 ∨ j = 1 ∨ j = 2 ∨ j = 3 by omega) with rfl | rfl | rfl | rfl <;> omega
theorem dg_hi {a : T_api_Addr} (h : AOk a) (j : Nat) (hj : j < 4) : dg (nm a) (4 + j) = a.Hi.toNat / 2 ^ (16 * j) % 65536 := by
  have := h.l1; have := h.l0
  unfold dg nm
  rcases (show j = 0 ∨ j = 1 ∨ j = 2 ∨ j = 3 by omega) with rfl | rfl | rfl | rfl <;> omega
theorem digit_ok {x : Int} (h0 : 0 ≤ x) (h1 : x < 18446744073709551616) (j : Nat) (hj : j < 4) : ∃ y, shrZ .u64 x (wi (16 * (j : Int))) = some y ∧ wi (bitsV .and .u64 y 65535) = ((x.toNat / 2 ^ (16 * j) % 65536 : Nat) : Int) := by
  obtain ⟨n, rfl⟩ := Int.eq_ofNat_of_zero_le h0
  have hw : wi (16 * (j : Int)) = ((16 * j : Nat) : Int) := by rw [wi_id (by omega) (by omega)]; omega
  refine ⟨_, by rw [hw, shr_u n (16 * j) (by omega)], ?_⟩
  have hle : n / 2 ^ (16 * j) ≤ n := Nat.div_le_self _ _
  rw [show (65535 : Int) = ((65535 : Nat) : Int) from rfl, and_u (by omega) (by decide), show (65535 : Nat) = 2 ^ 16 - 1 from rfl, Nat.and_two_pow_sub_one_eq_mod]
  have : n / 2 ^ (16 * j) % 2 ^ 16 < 2 ^ 16 := Nat.mod_lt _ (by decide)
  rw [wi_id (by omega) (by omega)]
  simp
def zl (n i j : Nat) : Int := if j < i then (dg n j : Int) else 0
def zh (n i j : Nat) : Int := if j < i then (dg n (4 + j) : Int) else 0
theorem zl_step (n i j : Nat) (hj : j < 4) (v : Int) : updA ((4 + i : Nat) : Int) j v (updA (i : Int) j (dg n i : Int) (zl n i j)) = zl n (i + 1) j := by
  unfold updA zl
  rw [if_neg (by omega)]
  by_cases h : i = j
  · subst h; rw [if_pos rfl, if_pos (by omega)]
  · rw [if_neg (by omega)]
    by_cases h2 : j < i
    · rw [if_pos h2, if_pos (by omega)]
    · rw [if_neg h2, if_neg (by omega)]
theorem zh_step (n i j : Nat) (hi : i < 4) (hj : j < 4) (v : Int) : updA ((4 + i : Nat) : Int) (4 + j) (dg n (4 + i) : Int) (updA (i : Int) (4 + j) v (zh n i j)) = zh n (i + 1) j := by
  unfold updA zh
  by_cases h : i = j
  · subst h; rw [if_pos rfl, if_pos (by omega)]
  · rw [if_neg (by omega), if_neg (by omega)]
    by_cases h2 : j < i
    · rw [if_pos h2, if_pos (by omega)]
    · rw [if_neg h2, if_neg (by omega)]
abbrev W10 : Type := Int × Int × Int × Int × Int × Int × Int × Int × Int × Int
def s10 (n i : Nat) : W10 := (zl n i 0, zl n i 1, zl n i 2, zl n i 3, zh n i 0, zh n i 1, zh n i 2, zh n i 3, 0, (i : Int))
theorem get9 {l : List Int} (hl : l.length = 9) {k : Int} {i : Nat} (hk : k = (i : Int)) (hi : i < 9) : ∃ x, getZ l k = some x := by
  subst hk
  exact ⟨l[i], by rw [getZ_cast, List.getElem?_eq_getElem (by omega)]⟩
theorem of_ok {a : T_api_Addr} (h : AOk a) (k : Nat) (hk : 5 ≤ k) : m_laneref2_of k a = some (w9 (nm a) a.Six) := by
  unfold m_laneref2_of
  refine bi_loop (fun s : W10 => ∃ i, i ≤ 4 ∧ s = s10 (nm a) i) (fun s => (4 - s.2.2.2.2.2.2.2.2.2).toNat) (fun r => r = ((dg (nm a) 0 : Int), (dg (nm a) 1 : Int), (dg (nm a) 2 : Int), (dg (nm a) 3 : Int), (dg (nm a) (4 + 0) : Int), (dg (nm a) (4 + 1) : Int), (dg (nm a) (4 + 2) : Int), (dg (nm a) (4 + 3) : Int), 0)) ?_ ⟨0, by decide, rfl⟩ (show (4 - 0 : Int).toNat < k by omega) ?_
  · rintro s ⟨i, hi, rfl⟩
    by_cases h4 : i = 4
    · subst h4; exact .inl ⟨_, rfl, rfl⟩
    · right
      have hi4 : i < 4 := by omega
      obtain ⟨y, p, q⟩ := digit_ok h.l0 h.l1 i hi4
      obtain ⟨z, r, t⟩ := digit_ok h.h0 h.h1 i hi4
      rw [← dg_lo h _ hi4] at q
      rw [← dg_hi h _ hi4] at t
      have hw : wi (4 + (i : Int)) = ((4 + i : Nat) : Int) := by rw [wi_id (by omega) (by omega)]; omega
      have hw2 : wi ((i : Int) + 1) = ((i + 1 : Nat) : Int) := by rw [wi_id (by omega) (by omega)]; omega
      refine ⟨s10 (nm a) (i + 1), ?_, ⟨i + 1, by omega, rfl⟩, ?_⟩
      · unfold s10
        simp only
        rw [decide_eq_true (show (i : Int) < 4 by omega)]
        simp only [cond_true, p, r, bi_some, q, t, hw]
        obtain ⟨x1, e1⟩ := get9 (l := [zl (nm a) i 0, zl (nm a) i 1, zl (nm a) i 2, zl (nm a) i 3, zh (nm a) i 0, zh (nm a) i 1, zh (nm a) i 2, zh (nm a) i 3, 0]) rfl (k := (i : Int)) rfl (by omega)
        rw [e1]
        simp only [bi_some]
        obtain ⟨x2, e2⟩ := get9 (l := [updA (i : Int) 0 (dg (nm a) i : Int) (zl (nm a) i 0), updA (i : Int) 1 (dg (nm a) i : Int) (zl (nm a) i 1), updA (i : Int) 2 (dg (nm a) i : Int) (zl (nm a) i 2), updA (i : Int) 3 (dg (nm a) i : Int) (zl (nm a) i 3), updA (i : Int) 4 (dg (nm a) i : Int) (zh (nm a) i 0), updA (i : Int) 5 (dg (nm a) i : Int) (zh (nm a) i 1), updA (i : Int) 6 (dg (nm a) i : Int) (zh (nm a) i 2), updA (i : Int) 7 (dg (nm a) i : Int) (zh (nm a) i 3), updA (i : Int) 8 (dg (nm a) i : Int) 0]) rfl (k := ((4 + i : Nat) : Int)) rfl (by omega)
        rw [e2]
        simp only [bi_some, hw2, zl_step (nm a) i _ (show 0 < 4 by decide), zl_step (nm a) i _ (show 1 < 4 by decide), zl_step (nm a) i _ (show 2 < 4 by decide), zl_step (nm a) i _ (show 3 < 4 by decide)]
        rw [show updA ((4 + i : Nat) : Int) 4 (dg (nm a) (4 + i) : Int) (updA (i : Int) 4 (dg (nm a) i : Int) (zh (nm a) i 0)) = zh (nm a) (i + 1) 0 from zh_step (nm a) i 0 hi4 (by decide) _,
          show updA ((4 + i : Nat) : Int) 5 (dg (nm a) (4 + i) : Int) (updA (i : Int) 5 (dg (nm a) i : Int) (zh (nm a) i 1)) = zh (nm a) (i + 1) 1 from zh_step (nm a) i 1 hi4 (by decide) _,
          show updA ((4 + i : Nat) : Int) 6 (dg (nm a) (4 + i) : Int) (updA (i : Int) 6 (dg (nm a) i : Int) (zh (nm a) i 2)) = zh (nm a) (i + 1) 2 from zh_step (nm a) i 2 hi4 (by decide) _,
          show updA ((4 + i : Nat) : Int) 7 (dg (nm a) (4 + i) : Int) (updA (i : Int) 7 (dg (nm a) i : Int) (zh (nm a) i 3)) = zh (nm a) (i + 1) 3 from zh_step (nm a) i 3 hi4 (by decide) _,
          show updA ((4 + i : Nat) : Int) 8 (dg (nm a) (4 + i) : Int) (updA (i : Int) 8 (dg (nm a) i : Int) 0) = 0 by unfold updA; rw [if_neg (by omega), if_neg (by omega)]]
      · show (4 - ((i + 1 : Nat) : Int)).toNat < (4 - (i : Int)).toNat
        omega
  · rintro r rfl
    unfold w9
    cases a.Six <;> rfl
theorem len_ok (a : T_api_Addr) : m_laneref2_length a = some (if a.Six then 128 else 32) := by unfold m_laneref2_length; cases a.Six <;> rfl
/-- A digit set anew. -/
theorem w9_list (n : Nat) (f : Bool) : ([(w9 n f).1, (w9 n f).2.1, (w9 n f).2.2.1, (w9 n f).2.2.2.1, (w9 n f).2.2.2.2.1, (w9 n f).2.2.2.2.2.1, (w9 n f).2.2.2.2.2.2.1, (w9 n f).2.2.2.2.2.2.2.1, (w9 n f).2.2.2.2.2.2.2.2] : List Int) = [(dg n 0 : Int), dg n 1, dg n 2, dg n 3, dg n 4, dg n 5, dg n 6, dg n 7, if f then 1 else 0] := rfl
theorem w9_get (n : Nat) (f : Bool) (j : Nat) (hj : j < 8) : getZ ([(w9 n f).1, (w9 n f).2.1, (w9 n f).2.2.1, (w9 n f).2.2.2.1, (w9 n f).2.2.2.2.1, (w9 n f).2.2.2.2.2.1, (w9 n f).2.2.2.2.2.2.1, (w9 n f).2.2.2.2.2.2.2.1, (w9 n f).2.2.2.2.2.2.2.2] : List Int) (j : Int) = some (dg n j : Int) := by
  rcases (show j = 0 ∨ j = 1 ∨ j = 2 ∨ j = 3 ∨ j = 4 ∨ j = 5 ∨ j = 6 ∨ j = 7 by omega) with rfl | rfl | rfl | rfl | rfl | rfl | rfl | rfl <;> rfl
theorem updA_dg (n m i j : Nat) (v : Nat) (hs : dg m i = v) (ho : j ≠ i → dg m j = dg n j) : updA (i : Int) j (v : Int) (dg n j : Int) = (dg m j : Int) := by
  unfold updA
  by_cases h : i = j
  · subst h; rw [if_pos rfl, hs]
  · rw [if_neg (by omega), ho (fun e => h e.symm)]
theorem div16 (i : Nat) (hi : i < 128) : divZ .i64 (i : Int) 16 = some ((i / 16 : Nat) : Int) ∧ remZ (i : Int) 16 = some ((i % 16 : Nat) : Int) := by
  unfold divZ remZ
  rw [decide_eq_false (show ¬ (16 : Int) = 0 by decide)]
  simp only [cond_false]
  rw [Int.tdiv_eq_ediv_of_nonneg (by omega), Int.tmod_eq_emod_of_nonneg (by omega), show ((i : Int) / 16) = ((i / 16 : Nat) : Int) by omega, show ((i : Int) % 16) = ((i % 16 : Nat) : Int) by omega]
  exact ⟨by rw [show IntKind.i64.wrap ((i / 16 : Nat) : Int) = ((i / 16 : Nat) : Int) from i64_id (by omega)], rfl⟩
theorem bits_loop (n0 : Nat) (f : Bool) (m : Int) (h0 : 0 ≤ m) (h1 : m ≤ 128) (op : BinOp) (tr : Nat → Nat → Nat) (g : Nat → Nat → Nat) (h00 : ∀ j, dg (tr n0 0) j = dg n0 j) (hop : ∀ x y : Nat, x < 2 ^ 16 → y < 2 ^ 16 → bitsV op .i64 (x : Int) (y : Int) = ((g x y : Nat) : Int))
    (hsame : ∀ i, dg (tr n0 (i + 1)) (i / 16) = g (dg (tr n0 i) (i / 16)) (2 ^ (i % 16))) (hother : ∀ i j, j ≠ i / 16 → dg (tr n0 (i + 1)) j = dg (tr n0 i) j) :
    rangeG (σ := W9) (fun i5 s6 => bi (divZ .i64 (i5 : Int) 16) fun y17 => bi (getZ ([s6.1, s6.2.1, s6.2.2.1, s6.2.2.2.1, s6.2.2.2.2.1, s6.2.2.2.2.2.1, s6.2.2.2.2.2.2.1, s6.2.2.2.2.2.2.2.1, s6.2.2.2.2.2.2.2.2] : List Int) y17) fun x19 => bi (remZ (i5 : Int) 16) fun y21 => bi (shlZ .i64 1 y21) fun y23 => bi (getZ ([s6.1, s6.2.1, s6.2.2.1, s6.2.2.2.1, s6.2.2.2.2.1, s6.2.2.2.2.2.1, s6.2.2.2.2.2.2.1, s6.2.2.2.2.2.2.2.1, s6.2.2.2.2.2.2.2.2] : List Int) y17) fun x25 => some (updA y17 0 (bitsV op .i64 x19 y23) s6.1, updA y17 1 (bitsV op .i64 x19 y23) s6.2.1, updA y17 2 (bitsV op .i64 x19 y23) s6.2.2.1, updA y17 3 (bitsV op .i64 x19 y23) s6.2.2.2.1, updA y17 4 (bitsV op .i64 x19 y23) s6.2.2.2.2.1, updA y17 5 (bitsV op .i64 x19 y23) s6.2.2.2.2.2.1, updA y17 6 (bitsV op .i64 x19 y23) s6.2.2.2.2.2.2.1, updA y17 7 (bitsV op .i64 x19 y23) s6.2.2.2.2.2.2.2.1, updA y17 8 (bitsV op .i64 x19 y23) s6.2.2.2.2.2.2.2.2)) m (w9 n0 f) = some (w9 (tr n0 m.toNat) f) := by
  obtain ⟨r, h2, h3⟩ := rangeG_at (n := m) (s := w9 n0 f) (f := fun i5 s6 => bi (divZ .i64 (i5 : Int) 16) fun y17 => bi (getZ ([s6.1, s6.2.1, s6.2.2.1, s6.2.2.2.1, s6.2.2.2.2.1, s6.2.2.2.2.2.1, s6.2.2.2.2.2.2.1, s6.2.2.2.2.2.2.2.1, s6.2.2.2.2.2.2.2.2] : List Int) y17) fun x19 => bi (remZ (i5 : Int) 16) fun y21 => bi (shlZ .i64 1 y21) fun y23 => bi (getZ ([s6.1, s6.2.1, s6.2.2.1, s6.2.2.2.1, s6.2.2.2.2.1, s6.2.2.2.2.2.1, s6.2.2.2.2.2.2.1, s6.2.2.2.2.2.2.2.1, s6.2.2.2.2.2.2.2.2] : List Int) y17) fun x25 => some (updA y17 0 (bitsV op .i64 x19 y23) s6.1, updA y17 1 (bitsV op .i64 x19 y23) s6.2.1, updA y17 2 (bitsV op .i64 x19 y23) s6.2.2.1, updA y17 3 (bitsV op .i64 x19 y23) s6.2.2.2.1, updA y17 4 (bitsV op .i64 x19 y23) s6.2.2.2.2.1, updA y17 5 (bitsV op .i64 x19 y23) s6.2.2.2.2.2.1, updA y17 6 (bitsV op .i64 x19 y23) s6.2.2.2.2.2.2.1, updA y17 7 (bitsV op .i64 x19 y23) s6.2.2.2.2.2.2.2.1, updA y17 8 (bitsV op .i64 x19 y23) s6.2.2.2.2.2.2.2.2))
    (fun i s => s = w9 (tr n0 i) f) (by unfold w9; simp only [h00]) (by
      rintro i s hi rfl
      have hi' : i < 128 := by omega
      obtain ⟨e1, e2⟩ := div16 i hi'
      have hj : i / 16 < 8 := by omega
      have hm : i % 16 < 16 := Nat.mod_lt _ (by decide)
      have hp : 2 ^ (i % 16) < 2 ^ 16 := Nat.pow_lt_pow_right (by decide) hm
      refine ⟨_, ?_, rfl⟩
      simp only [e1, e2, bi_some, w9_get _ _ _ hj, shl_i _ hm, hop _ _ (dg_lt _ _) hp]
      have hu : ∀ j, updA ((i / 16 : Nat) : Int) j ((g (dg (tr n0 i) (i / 16)) (2 ^ (i % 16)) : Nat) : Int) (dg (tr n0 i) j : Int) = (dg (tr n0 (i + 1)) j : Int) := fun j => updA_dg (tr n0 i) (tr n0 (i + 1)) (i / 16) j _ (hsame i) (hother i j)
      unfold w9
      simp only [hu]
      have h8 : ∀ v a : Int, updA ((i / 16 : Nat) : Int) 8 v a = a := fun v a => by unfold updA; rw [if_neg (by omega)]
      rw [h8])
  rw [h2, h3]
theorem firstOf_ok {a : T_api_Addr} (h : AOk a) (k : Nat) (hk : 5 ≤ k) (bits : Int) (h0 : 0 ≤ bits) (h1 : bits ≤ (if a.Six then 128 else 32)) :
    m_laneref2_firstOf k a bits = some (w9 (cl (nm a) ((if a.Six then 128 else 32) - bits).toNat) a.Six) := by
  unfold m_laneref2_firstOf
  rw [of_ok h k hk, len_ok]
  simp only [bi_some]
  have hL : (if a.Six then (128 : Int) else 32) ≤ 128 := by split <;> omega
  generalize (if a.Six then (128 : Int) else 32) = L at h1 hL
  rw [wi_id (by omega) (by omega), decide_eq_true (show L - bits ≤ 9223372036854775807 by omega), gd_true]
  rw [bits_loop (nm a) a.Six (L - bits) (by omega) (by omega) .andNot cl nsub (fun j => by unfold cl; simp) (fun x y hx hy => andNot_i hx hy) (fun i => dg_cl_same _ i) (fun i j hj => dg_cl_other _ i j hj)]
  rfl
/-- The address of a number. -/
def adr (f : Bool) (n : Nat) : T_api_Addr := ⟨f, ((n / 2 ^ 64 : Nat) : Int), ((n % 2 ^ 64 : Nat) : Int)⟩
theorem adr_nm {a : T_api_Addr} (h : AOk a) : adr a.Six (nm a) = a := by
  have := h.l1; have := h.l0; have := h.h0
  unfold adr nm
  cases a with
  | mk s hi lo =>
    simp only at *
    congr 1 <;> omega
theorem nm_adr (f : Bool) (n : Nat) : nm (adr f n) = n := by
  unfold nm adr
  simp only [Int.toNat_natCast]
  omega
theorem adr_ok (f : Bool) {n : Nat} (h : n < 2 ^ 128) : AOk (adr f n) := by
  unfold adr
  exact ⟨by simp only; omega, by simp only; omega, by simp only; omega, by simp only; omega⟩
theorem adr_six (f : Bool) (n : Nat) : (adr f n).Six = f := rfl
def lnN (a : T_api_Addr) : Nat := if a.Six then 128 else 32
theorem lnN_eq (a : T_api_Addr) : (if a.Six then (128 : Int) else 32) = (lnN a : Int) := by unfold lnN; cases a.Six <;> rfl
theorem lnN_le (a : T_api_Addr) : lnN a ≤ 128 := by unfold lnN; cases a.Six <;> decide
theorem cl_le (n m : Nat) : cl n m ≤ n := by unfold cl; exact Nat.div_mul_le_self _ _
/-- The address of a number, as the reference makes it. -/
theorem wide_addr_ok (k : Nat) (hk : 5 ≤ k) {n : Nat} (hn : n < 2 ^ 128) (f : Bool) : m_laneref2_wide_addr k (w9 n f) = some (adr f n) := by
  unfold m_laneref2_wide_addr
  refine bi_loop (fun s : T_api_Addr × Int => ∃ i : Nat, i ≤ 4 ∧ s = (⟨false, ((n / 2 ^ 64 % 2 ^ (16 * i) : Nat) : Int), ((n % 2 ^ (16 * i) : Nat) : Int)⟩, (i : Int))) (fun s => (4 - s.2).toNat) (fun r => r = (⟨false, ((n / 2 ^ 64 % 2 ^ 64 : Nat) : Int), ((n % 2 ^ 64 : Nat) : Int)⟩ : T_api_Addr)) ?_ ⟨0, by decide, by simp [Nat.mod_one]⟩ (show (4 - 0 : Int).toNat < k by omega) ?_
  · rintro s ⟨i, hi, rfl⟩
    by_cases h4 : i = 4
    · subst h4; exact .inl ⟨_, rfl, rfl⟩
    · right
      have hi4 : i < 4 := by omega
      have hw : wi (4 + (i : Int)) = ((4 + i : Nat) : Int) := by rw [wi_id (by omega) (by omega)]; omega
      have hw2 : wi ((i : Int) + 1) = ((i + 1 : Nat) : Int) := by rw [wi_id (by omega) (by omega)]; omega
      have hw3 : wi (16 * (i : Int)) = ((16 * i : Nat) : Int) := by rw [wi_id (by omega) (by omega)]; omega
      have key : ∀ x j : Nat, (x % 2 ^ (16 * i)) ||| (dg x i * 2 ^ (16 * i)) = x % 2 ^ (16 * (i + 1)) := fun x j => by
        refine Nat.eq_of_testBit_eq fun k => ?_
        rw [Nat.testBit_or, Nat.testBit_mod_two_pow, Nat.mul_comm (dg x i), Nat.testBit_two_pow_mul, dg_bit, Nat.testBit_mod_two_pow]
        by_cases h1 : k < 16 * i
        · simp [h1, show ¬ 16 * i ≤ k by omega, show k < 16 * (i + 1) by omega]
        · by_cases h2 : k < 16 * (i + 1)
          · simp [h1, h2, show 16 * i ≤ k by omega, show k - 16 * i < 16 by omega, show 16 * i + (k - 16 * i) = k by omega]
          · simp [h1, h2, show ¬ k - 16 * i < 16 by omega]
      have hb : ∀ j, dg n j * 2 ^ (16 * i) < 2 ^ 64 := fun j => by
        have h1 := dg_lt n j
        have h2 : 2 ^ (16 * i) ≤ 2 ^ 48 := Nat.pow_le_pow_right (by decide) (by omega)
        calc dg n j * 2 ^ (16 * i) ≤ dg n j * 2 ^ 48 := Nat.mul_le_mul_left _ h2
          _ < 2 ^ 16 * 2 ^ 48 := Nat.mul_lt_mul_of_pos_right h1 (by decide)
          _ = 2 ^ 64 := by decide
      have hmod : ∀ x, x % 2 ^ (16 * i) < 2 ^ 64 := fun x => Nat.lt_of_lt_of_le (Nat.mod_lt _ (Nat.pow_pos (by decide))) (Nat.pow_le_pow_right (by decide) (by omega))
      have hdg : dg n (4 + i) = dg (n / 2 ^ 64) i := by
        unfold dg
        rw [Nat.div_div_eq_div_mul, ← Nat.pow_add, show 64 + 16 * i = 16 * (4 + i) by omega]
      refine ⟨(⟨false, ((n / 2 ^ 64 % 2 ^ (16 * (i + 1)) : Nat) : Int), ((n % 2 ^ (16 * (i + 1)) : Nat) : Int)⟩, ((i + 1 : Nat) : Int)), ?_, ⟨i + 1, by omega, rfl⟩, ?_⟩
      · simp only
        rw [decide_eq_true (show (i : Int) < 4 by omega)]
        have u1 : IntKind.u64.wrap ((dg n i : Nat) : Int) = (dg n i : Nat) := u64_id (Nat.lt_of_lt_of_le (dg_lt n i) (by decide))
        have u2 : IntKind.u64.wrap ((dg n (4 + i) : Nat) : Int) = (dg n (4 + i) : Nat) := u64_id (Nat.lt_of_lt_of_le (dg_lt n _) (by decide))
        simp only [cond_true, hw, hw2, hw3, w9_get n f i (by omega), w9_get n f (4 + i) (by omega), bi_some, u1, u2, shl_u _ (16 * i) (by omega) (hb i), shl_u _ (16 * i) (by omega) (hb (4 + i)), or_u (hmod _) (hb _)]
        rw [key n 0, hdg, key (n / 2 ^ 64) 0]
      · show (4 - ((i + 1 : Nat) : Int)).toNat < (4 - (i : Int)).toNat
        omega
  · rintro r rfl
    have : n / 2 ^ 64 % 2 ^ 64 = n / 2 ^ 64 := Nat.mod_eq_of_lt (by omega)
    rw [this]
    unfold adr w9
    cases f <;> rfl
theorem inT {x : Int} {xs : List Int} (p : Int → Bool) (h : xs.all p = true) (hx : x ∈ xs) : p x = true := List.all_eq_true.1 h x hx
theorem u64_nn (x : Int) : 0 ≤ IntKind.u64.wrap x := Int.emod_nonneg _ (by decide)
theorem u64_lt (x : Int) : IntKind.u64.wrap x < 18446744073709551616 := Int.emod_lt_of_pos _ (by decide)
def u64B (x : Int) : Bool := decide (0 ≤ x ∧ x < 18446744073709551616)
theorem addrD (l : List Int) (hl : l.length ≤ 9223372036854775807) (a : Int) (h0 : 0 ≤ a) (h1 : a < 4611686018427360000) : Dr l a 3 (m_lanemake_Stream_Addr ⟨l, a⟩) AOk := by
  unfold m_lanemake_Stream_Addr Dr
  obtain ⟨r, r0, r1, e⟩ := next_ok l a 6 hl h0 (by omega) (by decide) (by decide)
  rw [e]
  simp only [bi_some]
  cases (r == 0) with
  | true =>
    obtain ⟨r2, s0, s1, e2⟩ := next_ok l (a + 1) 5 hl (by omega) (by omega) (by decide) (by decide)
    obtain ⟨x, hx, e3⟩ := getZ_in ([0, 18230571291595767808, 2306139568115548160, 9223372036854775808, 18446744073709551615] : List Int) s0 (by simpa using s1)
    obtain ⟨r3, t0, t1, e4⟩ := next_ok l (a + 1 + 1) 5 hl (by omega) (by omega) (by decide) (by decide)
    obtain ⟨y, hy, e5⟩ := getZ_in ([0, 1, 2, 4294967296, 18446744073709551615] : List Int) t0 (by simpa using t1)
    simp only [cond_true, e2, e3, e4, e5, bi_some]
    have k1 : 0 ≤ x ∧ x < 18446744073709551616 := of_decide_eq_true (inT u64B (by decide) hx)
    have k2 : 0 ≤ y ∧ y < 18446744073709551616 := of_decide_eq_true (inT u64B (by decide) hy)
    refine ⟨_, _, ⟨k1.1, k1.2, k2.1, k2.2⟩, ?_, ?_, rfl⟩; omega; omega
  | false =>
    simp only [cond_false]
    cases (r == 1) with
    | true =>
      obtain ⟨r3, t0, t1, e4⟩ := next_ok l (a + 1) 5 hl (by omega) (by omega) (by decide) (by decide)
      obtain ⟨y, hy, e5⟩ := getZ_in ([0, 1, 4294967295, 2130706433, 3232235521] : List Int) t0 (by simpa using t1)
      simp only [cond_true, e4, e5, bi_some]
      have k2 : 0 ≤ y ∧ y < 18446744073709551616 := of_decide_eq_true (inT u64B (by decide) hy)
      refine ⟨_, _, ⟨Int.le_refl _, (by decide : (0 : Int) < 18446744073709551616), k2.1, k2.2⟩, ?_, ?_, rfl⟩; omega; omega
    | false =>
      simp only [cond_false]
      cases (r == 2) with
      | true =>
        obtain ⟨r3, t0, t1, e4⟩ := range_ok l (a + 1) 0 16777216 hl (by omega) (by omega) (by decide) (by decide) (by decide)
        simp only [cond_true, e4, bi_some]
        have hn := u64_nn (IntKind.u64.wrap r3 * 251)
        generalize IntKind.u64.wrap (IntKind.u64.wrap r3 * 251) = v at hn
        unfold remZ
        rw [decide_eq_false (show ¬ (4294967296 : Int) = 0 by decide)]
        simp only [cond_false, bi_some]
        have k := Int.tmod_eq_emod_of_nonneg (b := 4294967296) hn
        have k1 : 0 ≤ v.tmod 4294967296 ∧ v.tmod 4294967296 < 18446744073709551616 := by rw [k]; omega
        refine ⟨_, _, ⟨Int.le_refl _, (by decide : (0 : Int) < 18446744073709551616), k1.1, k1.2⟩, ?_, ?_, rfl⟩; omega; omega
      | false =>
        obtain ⟨r3, t0, t1, e4⟩ := range_ok l (a + 1) 0 20 hl (by omega) (by omega) (by decide) (by decide) (by decide)
        simp only [cond_false, e4, bi_some]
        refine ⟨_, _, ⟨Int.le_refl _, (by decide : (0 : Int) < 18446744073709551616), u64_nn _, u64_lt _⟩, ?_, ?_, rfl⟩; omega; omega
theorem rawD (l : List Int) (hl : l.length ≤ 9223372036854775807) (a : Int) (h0 : 0 ≤ a) (h1 : a < 4611686018427350000) : Dr l a 10 (m_lanemake_Stream_Raw ⟨l, a⟩) AOk := by
  unfold m_lanemake_Stream_Raw Dr
  obtain ⟨x, a1, hx, c1, c2, e⟩ := addrD l hl a h0 (by omega)
  obtain ⟨f, hf⟩ := flip_ok l a1 15 hl (by omega) (by omega) (by decide) (by decide)
  rw [e]
  simp only [bi_some]
  rw [hf]
  simp only [bi_some]
  cases f with
  | false => simp only [cond_false]; refine ⟨_, _, hx, ?_, ?_, rfl⟩; omega; omega
  | true =>
    obtain ⟨r2, s0, s1, e2⟩ := next_ok l (a1 + 1) 2 hl (by omega) (by omega) (by decide) (by decide)
    obtain ⟨r3, t0, t1, e4⟩ := next_ok l (a1 + 1 + 1) 3 hl (by omega) (by omega) (by decide) (by decide)
    obtain ⟨y, hy, e5⟩ := getZ_in ([4294967296, 5, 1099511627776] : List Int) t0 (by simpa using t1)
    simp only [cond_true, e2, e4, e5, bi_some]
    have k2 : 0 ≤ y ∧ y < 18446744073709551616 := of_decide_eq_true (inT u64B (by decide) hy)
    refine ⟨_, _, ⟨u64_nn _, u64_lt _, k2.1, k2.2⟩, ?_, ?_, rfl⟩; omega; omega
theorem maskOf_ok {a : T_api_Addr} (h : AOk a) (k : Nat) (hk : 10 ≤ k) (bits : Int) (h0 : 0 ≤ bits) (h1 : bits ≤ lnN a) : m_laneref2_MaskOf k a bits = some ⟨adr a.Six (cl (nm a) ((lnN a : Int) - bits).toNat), bits⟩ := by
  unfold m_laneref2_MaskOf
  have e := firstOf_ok h k (by omega) bits h0 (by rw [lnN_eq]; exact h1)
  rw [lnN_eq] at e
  rw [e, bi_some, wide_addr_ok k (by omega) (Nat.lt_of_le_of_lt (cl_le _ _) (nm_lt h)), bi_some]
theorem rightD (l : List Int) (hl : l.length ≤ 9223372036854775807) (a : Int) (h0 : 0 ≤ a) (h1 : a < 4611686018427350000) : Dr l a 6 (m_lanemake_Stream_RightPrefix 400 ⟨l, a⟩) fun p => AOk p.Addr := by
  unfold m_lanemake_Stream_RightPrefix Dr
  obtain ⟨x, a1, hx, c1, c2, e⟩ := addrD l hl a h0 (by omega)
  obtain ⟨b, hb, e2⟩ := pick_ok l a1 [0, 8, 24, 27, 28, 29, 30, 31, 32] hl (by omega) (by omega) (by simp) (by simp)
  have kb : 0 ≤ b ∧ b ≤ 32 := of_decide_eq_true (inT (fun b => decide (0 ≤ b ∧ b ≤ 32)) (by decide) hb)
  rw [e]; simp only [bi_some]
  rw [e2]; simp only [bi_some]
  have hok : ∀ m, AOk (adr x.Six (cl (nm x) m)) := fun m => adr_ok _ (Nat.lt_of_le_of_lt (cl_le _ _) (nm_lt hx))
  cases hs : x.Six with
  | false =>
    simp only [cond_false, bi_some]
    rw [maskOf_ok hx 400 (by decide) b kb.1 (by unfold lnN; rw [hs]; exact kb.2)]
    simp only [bi_some]
    refine ⟨_, _, hok _, ?_, ?_, rfl⟩; omega; omega
  | true =>
    obtain ⟨c, hc, e3⟩ := pick_ok l (a1 + 1) [0, 8, 32, 48, 63, 64, 65, 96, 127, 128] hl (by omega) (by omega) (by simp) (by simp)
    have kc : 0 ≤ c ∧ c ≤ 128 := of_decide_eq_true (inT (fun b => decide (0 ≤ b ∧ b ≤ 128)) (by decide) hc)
    simp only [cond_true, e3, bi_some]
    rw [maskOf_ok hx 400 (by decide) c kc.1 (by unfold lnN; rw [hs]; exact kc.2)]
    simp only [bi_some]
    refine ⟨_, _, hok _, ?_, ?_, rfl⟩; omega; omega
theorem prefixD (l : List Int) (hl : l.length ≤ 9223372036854775807) (a : Int) (h0 : 0 ≤ a) (h1 : a < 4611686018427340000) : Dr l a 25 (m_lanemake_Stream_Prefix 400 ⟨l, a⟩) fun p => AOk p.Addr := by
  unfold m_lanemake_Stream_Prefix Dr
  obtain ⟨x, a1, hx, c1, c2, e⟩ := rightD l hl a h0 (by omega)
  obtain ⟨f, hf⟩ := flip_ok l a1 15 hl (by omega) (by omega) (by decide) (by decide)
  rw [e]; simp only [bi_some]
  rw [hf]; simp only [bi_some]
  cases f with
  | false => simp only [cond_false, bi_some]; refine ⟨_, _, hx, ?_, ?_, rfl⟩; omega; omega
  | true =>
    obtain ⟨y, a2, hy, c3, c4, e2⟩ := rawD l hl (a1 + 1) (by omega) (by omega)
    obtain ⟨z, a3, _, c5, c6, e3⟩ := oddD l a2 0 33 hl (by omega) (by omega) (by decide) (by decide) (by decide)
    simp only [cond_true, e2, e3, bi_some]
    refine ⟨_, _, hy, ?_, ?_, rfl⟩; omega; omega
end Go.Gk
