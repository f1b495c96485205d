/-
  BackTo: what it reads out of labels.
-/
import Derived.Test.YtffmljbfffojlaaGreatDoorFParse
set_option linter.unusedVariables false
set_option linter.unusedSimpArgs false
set_option maxRecDepth 100000
namespace Go.Gk
def adN (f : Bool) (M : Nat) : T_api_Addr := ⟨f, ((M / 2 ^ 64 : Nat) : Int), ((M % 2 ^ 64 : Nat) : Int)⟩
theorem shl_any (x n : Nat) (hn : n ≤ 64) : shlZ .u64 (x : Int) (n : Int) = some ((x * 2 ^ n % 2 ^ 64 : Nat) : Int) := by
  show some (IntKind.u64.wrap ((x : Int) * 2 ^ min n 64)) = _
  rw [Nat.min_eq_left hn, show (x : Int) * 2 ^ n = ((x * 2 ^ n : Nat) : Int) by rw [Int.natCast_mul, Int.natCast_pow]; rfl]
  show some (((x * 2 ^ n : Nat) : Int) % 18446744073709551616) = _
  congr 1
theorem or_add {a b i : Nat} (hb : b < 2 ^ i) : (a * 2 ^ i) ||| b = a * 2 ^ i + b := by
  rw [Nat.mul_comm]
  exact (Nat.two_pow_add_eq_or_of_lt hb a).symm
theorem round_ok (f : Bool) (w M d : Nat) (hw : w = 4 ∨ w = 8) (hM : M < 2 ^ (128 - w)) (hd : d < 2 ^ w) :
    ∃ y45 y47 y49, shlZ .u64 (adN f M).Hi (w : Int) = some y45 ∧ shrZ .u64 (adN f M).Lo (wi (64 - (w : Int))) = some y47 ∧ shlZ .u64 (adN f M).Lo (w : Int) = some y49 ∧ bitsV .or .u64 y45 y47 = (adN f (M * 2 ^ w + d)).Hi ∧ bitsV .or .u64 y49 (d : Int) = (adN f (M * 2 ^ w + d)).Lo := by
  have hwi : wi (64 - (w : Int)) = ((64 - w : Nat) : Int) := by rw [wi_id (by omega) (by omega)]; omega
  have h64 : w ≤ 64 := by omega
  refine ⟨_, _, _, shl_any _ _ h64, by rw [hwi]; exact shr_u _ _ (by omega), shl_any _ _ h64, ?_, ?_⟩
  · have hL : M % 2 ^ 64 / 2 ^ (64 - w) < 2 ^ w := by
      rw [Nat.div_lt_iff_lt_mul (by exact Nat.two_pow_pos _), ← Nat.pow_add, show w + (64 - w) = 64 by omega]
      exact Nat.mod_lt _ (by decide)
    have hH : M / 2 ^ 64 * 2 ^ w < 2 ^ 64 := by
      have h1 : M / 2 ^ 64 < 2 ^ (64 - w) := by
        rw [Nat.div_lt_iff_lt_mul (by decide), ← Nat.pow_add, show 64 - w + 64 = 128 - w by omega]
        exact hM
      calc M / 2 ^ 64 * 2 ^ w < 2 ^ (64 - w) * 2 ^ w := Nat.mul_lt_mul_of_pos_right h1 (Nat.two_pow_pos _)
        _ = 2 ^ 64 := by rw [← Nat.pow_add, show 64 - w + w = 64 by omega]
    have hw2 : (2 : Nat) ^ w ≤ 2 ^ 64 := Nat.pow_le_pow_right (by decide) h64
    rw [Nat.mod_eq_of_lt hH, or_u hH (Nat.lt_of_lt_of_le hL hw2), or_add hL]
    show _ = (((M * 2 ^ w + d) / 2 ^ 64 : Nat) : Int)
    congr 1
    rcases hw with rfl | rfl
    · simp only [show (2 : Nat) ^ 4 = 16 from rfl, show (2 : Nat) ^ (64 - 4) = 1152921504606846976 from rfl, show (2 : Nat) ^ 64 = 18446744073709551616 from rfl] at hd ⊢
      omega
    · simp only [show (2 : Nat) ^ 8 = 256 from rfl, show (2 : Nat) ^ (64 - 8) = 72057594037927936 from rfl, show (2 : Nat) ^ 64 = 18446744073709551616 from rfl] at hd ⊢
      omega
  · have hw2 : (2 : Nat) ^ w ≤ 2 ^ 64 := Nat.pow_le_pow_right (by decide) h64
    have e : M % 2 ^ 64 * 2 ^ w % 2 ^ 64 = (M % 2 ^ (64 - w)) * 2 ^ w := by
      rcases hw with rfl | rfl
      · simp only [show (2 : Nat) ^ 4 = 16 from rfl, show (2 : Nat) ^ (64 - 4) = 1152921504606846976 from rfl, show (2 : Nat) ^ 64 = 18446744073709551616 from rfl]
        omega
      · simp only [show (2 : Nat) ^ 8 = 256 from rfl, show (2 : Nat) ^ (64 - 8) = 72057594037927936 from rfl, show (2 : Nat) ^ 64 = 18446744073709551616 from rfl]
        omega
    rw [or_u (Nat.mod_lt _ (by decide)) (Nat.lt_of_lt_of_le hd hw2), e, or_add hd]
    show _ = (((M * 2 ^ w + d) % 2 ^ 64 : Nat) : Int)
    congr 1
    rcases hw with rfl | rfl
    · simp only [show (2 : Nat) ^ 4 = 16 from rfl, show (2 : Nat) ^ (64 - 4) = 1152921504606846976 from rfl, show (2 : Nat) ^ 64 = 18446744073709551616 from rfl] at hd ⊢
      omega
    · simp only [show (2 : Nat) ^ 8 = 256 from rfl, show (2 : Nat) ^ (64 - 8) = 72057594037927936 from rfl, show (2 : Nat) ^ 64 = 18446744073709551616 from rfl] at hd ⊢
      omega
abbrev BT : Type := T_api_Addr × Bool × Int
def noB : BT := (⟨false, 0, 0⟩, false, 0)
def btF (y15 : List Str) (b w : Int) (i23 : Nat) (s24 : T_api_Addr) : Option (LS T_api_Addr (T_api_Addr × Bool × Int)) :=
  bi (getZ y15 (i23 : Int)) fun x35 => bi (m_strconv_ParseUint x35 b w) fun y38 => match y38 with | none => (bi (some ((⟨false, 0, 0⟩ : T_api_Addr), false, 0)) fun v => some (.out v)) | some z40 => (bi (shlZ .u64 s24.Hi w) fun y45 => bi (shrZ .u64 s24.Lo (wi (64 - w))) fun y47 => bi (shlZ .u64 s24.Lo w) fun y49 => some (.go (⟨s24.Six, bitsV .or .u64 y45 y47, bitsV .or .u64 y49 z40⟩ : T_api_Addr)))
theorem bt_loop (f : Bool) (w c N : Nat) (b : Int) (hw : w = 4 ∨ w = 8) (L : List Str) (hL : L.length = c) (hN : N < 2 ^ (w * c)) (hcw : w * c ≤ 128)
    (hp : ∀ (i : Nat) (x : Str), L[i]? = some x → m_strconv_ParseUint x b (w : Int) = some (some ((N / 2 ^ (w * (c - 1 - i)) % 2 ^ w : Nat) : Int))) : rangeI (btF L b (w : Int)) (L.length : Int) ⟨f, 0, 0⟩ = some (.go (adN f N)) := by
  have step : ∀ (i : Nat) (s : T_api_Addr), i < L.length → s = adN f (N / 2 ^ (w * (c - i))) → ∃ s', btF L b (w : Int) i s = some (.go s') ∧ s' = adN f (N / 2 ^ (w * (c - (i + 1)))) := fun i s hi hs => by
    subst hs
    have hx : L[i]? = some (L[i]) := List.getElem?_eq_getElem hi
    have hwc : w * (c - i) = w * (c - 1 - i) + w := by rw [show c - i = (c - 1 - i) + 1 by omega, Nat.mul_add, Nat.mul_one]
    have hwi : w * i + w * (c - i) = w * c := by rw [← Nat.mul_add]; congr 1; omega
    have hM : N / 2 ^ (w * (c - i)) < 2 ^ (128 - w) := by
      rw [Nat.div_lt_iff_lt_mul (Nat.two_pow_pos _), ← Nat.pow_add]
      exact Nat.lt_of_lt_of_le hN (Nat.pow_le_pow_right (by decide) (by omega))
    obtain ⟨y45, y47, y49, e1, e2, e3, e4, e5⟩ := round_ok f w _ (N / 2 ^ (w * (c - 1 - i)) % 2 ^ w) hw hM (Nat.mod_lt _ (Nat.two_pow_pos _))
    have hnx : N / 2 ^ (w * (c - i)) * 2 ^ w + N / 2 ^ (w * (c - 1 - i)) % 2 ^ w = N / 2 ^ (w * (c - (i + 1))) := by
      rw [hwc, Nat.pow_add, ← Nat.div_div_eq_div_mul, show c - (i + 1) = c - 1 - i by omega, Nat.mul_comm]
      exact Nat.div_add_mod _ _
    rw [hnx] at e4 e5
    refine ⟨_, ?_, rfl⟩
    unfold btF
    rw [getZ_nn hx, bi_some, hp i _ hx, bi_some]
    simp only
    rw [e1, e2, e3]
    simp only [bi_some]
    rw [e4, e5]
    rfl
  rcases rangeI_at (f := btF L b (w : Int)) (n := L.length) (s := ⟨f, 0, 0⟩) (fun i s => s = adN f (N / 2 ^ (w * (c - i)))) (fun _ => False) (by simp only [Nat.sub_zero]; rw [Nat.div_eq_of_lt hN]; rfl) (fun i s hi hs => .inl (step i s hi hs)) with ⟨s', h1, h2⟩ | ⟨r, _, ⟨⟩⟩
  rw [h1, h2, hL, Nat.sub_self, Nat.mul_zero, Nat.pow_zero, Nat.div_one]
theorem bt_any (f : Bool) (b w : Int) (hbw : b = 16 ∧ w = 4 ∨ b = 10 ∧ w = 8) (L : List Str) (hL : ∀ x ∈ L, x.length ≤ 300) :
    (∃ a, rangeI (btF L b w) (L.length : Int) ⟨f, 0, 0⟩ = some (.go a) ∧ AOk a ∧ a.Six = f) ∨ rangeI (btF L b w) (L.length : Int) ⟨f, 0, 0⟩ = some (.out noB) := by
  have step : ∀ (i : Nat) (s : T_api_Addr), i < L.length → AOk s ∧ s.Six = f → (∃ s', btF L b w i s = some (.go s') ∧ AOk s' ∧ s'.Six = f) ∨ ∃ r, btF L b w i s = some (.out r) ∧ r = noB := fun i s hi hs => by
    have hx : L[i]? = some (L[i]) := List.getElem?_eq_getElem hi
    obtain ⟨r, hr⟩ := pu_any (L[i]) (hL _ (List.getElem_mem hi)) b w hbw
    unfold btF
    rw [getZ_nn hx, bi_some, hr, bi_some]
    cases r with
    | none => exact .inr ⟨_, rfl, rfl⟩
    | some z =>
      have hs1 : ∀ x : Int, ∃ y, shlZ .u64 x w = some y := fun x => by rcases hbw with ⟨_, rfl⟩ | ⟨_, rfl⟩ <;> exact ⟨_, rfl⟩
      have hs2 : ∀ x : Int, ∃ y, shrZ .u64 x (wi (64 - w)) = some y := fun x => by
        rcases hbw with ⟨_, rfl⟩ | ⟨_, rfl⟩
        · rw [show wi (64 - 4) = 60 from by decide]; exact ⟨_, rfl⟩
        · rw [show wi (64 - 8) = 56 from by decide]; exact ⟨_, rfl⟩
      obtain ⟨y45, e1⟩ := hs1 s.Hi
      obtain ⟨y47, e2⟩ := hs2 s.Lo
      obtain ⟨y49, e3⟩ := hs1 s.Lo
      simp only
      rw [e1, e2, e3]
      exact .inl ⟨_, rfl, ⟨u64_nn _, u64_lt _, u64_nn _, u64_lt _⟩, hs.2⟩
  rcases rangeI_at (f := btF L b w) (n := L.length) (s := ⟨f, 0, 0⟩) (fun i s => AOk s ∧ s.Six = f) (fun r => r = noB) ⟨⟨Int.le_refl _, by show (0 : Int) < 18446744073709551616; decide, Int.le_refl _, by show (0 : Int) < 18446744073709551616; decide⟩, rfl⟩ step with ⟨s', h1, h2, h3⟩ | ⟨r, h1, h⟩
  · exact .inl ⟨s', h1, h2, h3⟩
  · subst h; exact .inr h1
end Go.Gk
