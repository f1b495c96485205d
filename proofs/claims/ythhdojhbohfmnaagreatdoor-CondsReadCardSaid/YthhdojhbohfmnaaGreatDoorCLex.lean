/-
  The plain laws of conditions: how far some bytes go; numbers, names and versions as tokens.
-/
import Derived.Test.YthhdojhbohfmnaaGreatDoorCCond
set_option linter.unusedVariables false
set_option linter.unusedSimpArgs false
set_option linter.unusedSectionVars false
set_option maxRecDepth 100000
namespace Go.Gk
theorem while_ok {s : Str} {p : UInt8 → Bool} {f : Int → Option (LS Int Int)} (hf : ∀ (i : Nat) (c : UInt8), s[i]? = some c → f (i : Int) = some (if p c then .go ((i + 1 : Nat) : Int) else .out (i : Int))) (hend : f (s.length : Int) = some (.out (s.length : Int))) :
    ∀ (n k i : Nat), n = s.length - i → i ≤ s.length → n < k → loopM f k (i : Int) = some ((i + ((s.drop i).takeWhile p).length : Nat) : Int)
  | n, 0, i, _, _, h => absurd h (Nat.not_lt_zero _)
  | n, k + 1, i, hn, hi, hk => by
    by_cases he : i < s.length
    · have hx : s[i]? = some s[i] := List.getElem?_eq_getElem he
      have hdr : s.drop i = s[i] :: s.drop (i + 1) := List.drop_eq_getElem_cons he
      have hs := hf i _ hx
      rw [hdr]
      cases hp : p s[i] with
      | false =>
        rw [hp] at hs
        rw [loopM_out _ hs, List.takeWhile_cons, hp]
        rfl
      | true =>
        rw [hp] at hs
        rw [loopM_go _ hs, List.takeWhile_cons, hp, while_ok hf hend (n - 1) k (i + 1) (by omega) (by omega) (by omega)]
        simp only [if_true, List.length_cons]
        congr 2
        omega
    · obtain rfl : i = s.length := by omega
      rw [List.drop_length]
      exact loopM_out _ hend
theorem tw_le {p : UInt8 → Bool} (l : Str) : (l.takeWhile p).length ≤ l.length := by
  have := congrArg List.length (List.takeWhile_append_dropWhile (p := p) (l := l))
  rw [List.length_append] at this
  omega
theorem tw_take {p : UInt8 → Bool} : ∀ (l : Str), l.take (l.takeWhile p).length = l.takeWhile p
  | [] => rfl
  | c :: l => by
    rw [List.takeWhile_cons]
    cases h : p c with
    | false => rfl
    | true => simp [tw_take l]
theorem span_ok (z cs : Str) (p : UInt8 → Bool) (hz : z.length ≤ 50000) (hc : (Nat.blt cs.length 4294967281 && cs.all fun b => Nat.blt b.toNat 128) = true) (hp : ∀ c, cs.contains c = p c) : m_laneref1_span z cs = some ((z.takeWhile p).length : Int) := by
  unfold m_laneref1_span m_strings_TrimLeft
  rw [Nat.ble_eq_true_of_le (show z.length ≤ 1099511627776 by omega), hc]
  show some (wi ((z.length : Int) - ((Lib.trimLeftS z cs).length : Int))) = _
  have h1 : Lib.trimLeftS z cs = z.dropWhile p := by
    unfold Lib.trimLeftS
    congr 1
    funext c
    exact hp c
  have h2 := congrArg List.length (List.takeWhile_append_dropWhile (p := p) (l := z))
  rw [List.length_append] at h2
  rw [h1, wi_id (by omega) (by omega)]
  congr 1
  omega
def wsB (c : UInt8) : Bool := (c == 32) || (c == 10)
def dotB (c : UInt8) : Bool := isD c || (c == 46)
def nmB (c : UInt8) : Bool := ((decide (97 ≤ c.toNat) && decide (c.toNat ≤ 122)) || isD c || (c == 45)) || (c == 95)
theorem cls_fin : ∀ c : Fin 256, ([32, 10] : Str).contains (UInt8.ofNat c.val) = wsB (UInt8.ofNat c.val) ∧ ([48, 49, 50, 51, 52, 53, 54, 55, 56, 57, 46] : Str).contains (UInt8.ofNat c.val) = dotB (UInt8.ofNat c.val) ∧
    ([97, 98, 99, 100, 101, 102, 103, 104, 105, 106, 107, 108, 109, 110, 111, 112, 113, 114, 115, 116, 117, 118, 119, 120, 121, 122, 45, 95, 48, 49, 50, 51, 52, 53, 54, 55, 56, 57] : Str).contains (UInt8.ofNat c.val) = nmB (UInt8.ofNat c.val) := by decide +kernel
theorem cls (c : UInt8) : ([32, 10] : Str).contains c = wsB c ∧ ([48, 49, 50, 51, 52, 53, 54, 55, 56, 57, 46] : Str).contains c = dotB c ∧
    ([97, 98, 99, 100, 101, 102, 103, 104, 105, 106, 107, 108, 109, 110, 111, 112, 113, 114, 115, 116, 117, 118, 119, 120, 121, 122, 45, 95, 48, 49, 50, 51, 52, 53, 54, 55, 56, 57] : Str).contains c = nmB c := by
  have := cls_fin ⟨c.toNat, c.toNat_lt⟩
  rw [UInt8.ofNat_toNat] at this
  exact this
/-- What begins at a place, told by the rest of the text. -/
theorem rest_at {s : Str} {a i : Nat} : (s.drop a)[i]? = s[a + i]? := by rw [List.getElem?_drop]
theorem digits_ok (s : Str) (k i : Nat) (hs : s.length ≤ 50000) (hi : i ≤ s.length) (hk : s.length < k) : m_posture_digits k s (i : Int) = some ((i + ((s.drop i).takeWhile isD).length : Nat) : Int) := by
  unfold m_posture_digits
  rw [while_ok (s := s) (p := isD) (fun i c hc => by
    have hlt := (List.getElem?_eq_some_iff.1 hc).1
    rw [decide_eq_true (show (i : Int) < (s.length : Int) by omega), cond_true, getZ_nn hc]
    simp only [bi_some, isD_ok]
    rw [wi_id (by omega) (by omega)]
    cases isD c <;> rfl) (by
    rw [decide_eq_false (show ¬ (s.length : Int) < (s.length : Int) by omega)]; rfl) (s.length - i) k i rfl hi (by omega)]
  rfl
theorem small_ok (k : Nat) (hk : 100 < k) (s : Str) : ∃ n, m_kit_Small k s = some (n, numB s 9) ∧ (numB s 9 = true → n = numV s) := by
  obtain ⟨n, h1, h2⟩ := numP k hk s 9 (by decide)
  refine ⟨n, ?_, h2⟩
  unfold m_kit_Small
  rw [show (9 : Int) = ((9 : Nat) : Int) from rfl, h1]
  rfl
theorem index_mem9 (c : UInt8) : (m_strings_IndexByte [48, 49, 50, 51, 52, 53, 54, 55, 56, 57] (c.toNat : Int)).map (fun y => decide (y ≥ 0)) = some (isD c) := by
  unfold m_strings_IndexByte
  have e : ((c.toNat : Int)).toNat.toUInt8 = c := by simp
  rw [e]
  have h := idx_mem (c := c) (s := dgs)
  rw [dgs_isD] at h
  rw [← h]
  rfl
theorem digit_ok (z : Str) (i : Nat) : m_laneref1_digit z (i : Int) = some (match z[i]? with | some c => isD c | none => false) := by
  unfold m_laneref1_digit
  cases h : z[i]? with
  | none =>
    have : z.length ≤ i := List.getElem?_eq_none_iff.1 h
    rw [decide_eq_false (show ¬ (i : Int) < (z.length : Int) by omega)]
    rfl
  | some c =>
    have hlt := (List.getElem?_eq_some_iff.1 h).1
    rw [decide_eq_true (show (i : Int) < (z.length : Int) by omega), cond_true, getZ_nn h, bi_some]
    have := index_mem9 c
    cases hm : m_strings_IndexByte [48, 49, 50, 51, 52, 53, 54, 55, 56, 57] (c.toNat : Int) with
    | none => rw [hm] at this; cases this
    | some y =>
      rw [hm] at this
      have := Option.some.inj this
      simp only [bi_some]
      exact congrArg some this
def kVal : Str := [118, 97, 108, 117, 101]
def kBad : Str := [98, 97, 100]
def kEnd : Str := [101, 110, 100]
def kName : Str := [110, 97, 109, 101]
theorem sub_mid {s : Str} {a m : Nat} (h : a + m ≤ s.length) : subZ s (a : Int) ((a + m : Nat) : Int) = some ((s.drop a).take m) := by
  rw [subZ_cast (by omega) h]
  congr 1
  rw [List.drop_take]
  congr 1
  omega
theorem sub_end {s : Str} {a : Nat} (h : a ≤ s.length) : subZ s (a : Int) (s.length : Int) = some (s.drop a) := by
  rw [subZ_cast h (Nat.le_refl _), List.take_length]
theorem sub_pre {z : Str} {m : Nat} (h : m ≤ z.length) : subZ z 0 (m : Int) = some (z.take m) := by
  have := subZ_cast (l := z) (i := 0) (j := m) (Nat.zero_le _) h
  simpa using this
theorem sub_one {z : Str} (h : 1 ≤ z.length) : subZ z 1 (z.length : Int) = some (z.drop 1) := by
  have := subZ_cast (l := z) (i := 1) (j := z.length) h (Nat.le_refl _)
  simpa using this
/-- How long a number may be. -/
def numM (z : Str) : Nat := 1 + ((z.drop 1).takeWhile isD).length
theorem numM_le {z : Str} (h : 0 < z.length) : numM z ≤ z.length := by
  have := tw_le (p := isD) (z.drop 1)
  rw [List.length_drop] at this
  unfold numM
  omega
theorem numberP (s : Str) (a k : Nat) (hs : s.length ≤ 50000) (hk : s.length + 200 < k) (c : UInt8) (hc : s[a]? = some c) (h : (c == 45) = true ∨ isD c = true) :
    m_posture_token_number k ⟨kBad, (a : Int), 0, [], zA⟩ s = some (if numB ((s.drop a).take (numM (s.drop a))) 9 then ⟨kVal, (a : Int), ((a + numM (s.drop a) : Nat) : Int), [], ⟨1, numV ((s.drop a).take (numM (s.drop a))), [], (0, 0, 0, 0)⟩⟩ else ⟨kBad, (a : Int), ((a + numM (s.drop a) : Nat) : Int), [], zA⟩) := by
  have ha := (List.getElem?_eq_some_iff.1 hc).1
  have hM := numM_le (z := s.drop a) (by rw [List.length_drop]; omega)
  rw [List.length_drop] at hM
  unfold m_posture_token_number
  have hd : ∃ q3 : Int, (bif ((c.toNat : Int) : Int) == 45 then (some (wi ((a : Int) + 1))) else (some (a : Int)) : Option Int) = some q3 ∧ m_posture_digits k s q3 = some ((a + numM (s.drop a) : Nat) : Int) := by
    have e45 : ((c.toNat : Int) == 45) = (c == 45) := u8_eq c 45 (by decide)
    rw [e45]
    cases h45 : (c == 45) with
    | true =>
      refine ⟨((a + 1 : Nat) : Int), by rw [cond_true, wi_id (by omega) (by omega)]; rfl, ?_⟩
      rw [digits_ok s k (a + 1) hs (by omega) (by omega)]
      unfold numM
      rw [List.drop_drop]
      congr 2
      omega
    | false =>
      have hD : isD c = true := by rcases h with h | h; rw [h45] at h; cases h; exact h
      refine ⟨(a : Int), rfl, ?_⟩
      rw [digits_ok s k a hs (by omega) (by omega)]
      have hdr : s.drop a = c :: s.drop (a + 1) := by
        rw [List.drop_eq_getElem_cons ha]
        congr 1
        have := List.getElem?_eq_getElem ha
        rw [hc] at this
        exact (Option.some.inj this).symm
      unfold numM
      rw [hdr, List.takeWhile_cons, hD]
      simp only [if_true, List.length_cons, List.drop_one, List.tail_cons]
      congr 2
      omega
  obtain ⟨q3, hq, hq2⟩ := hd
  rw [show getZ s ((⟨kBad, (a : Int), 0, [], zA⟩ : T_posture_token).v_at) = some c from getZ_nn hc, bi_some]
  show bi (bif ((c.toNat : Int) : Int) == 45 then (some (wi ((a : Int) + 1))) else (some (a : Int)) : Option Int) _ = _
  rw [hq, bi_some, hq2, bi_some]
  show bi (subZ s (a : Int) ((a + numM (s.drop a) : Nat) : Int)) _ = _
  rw [sub_mid (by omega), bi_some]
  obtain ⟨n, n1, n2⟩ := small_ok k (by omega) ((s.drop a).take (numM (s.drop a)))
  rw [n1, bi_some]
  cases hN : numB ((s.drop a).take (numM (s.drop a))) 9 with
  | true => rw [n2 hN]; rfl
  | false => rfl
def refNum (z : Str) (at' : Int) (q : Str) : Option (T_laneref1_token × Int) := bi (subZ z 1 (z.length : Int)) fun z51 => bi (m_laneref1_span z51 [48, 49, 50, 51, 52, 53, 54, 55, 56, 57]) fun y53 => bi (subZ z 0 (wi (1 + y53))) fun z55 => bi (m_laneref2_Number z55 9) fun y57 => bif y57.2 then (some ((⟨[118], at', [], (⟨1, y57.1, [], (0, 0, 0, 0)⟩ : T_api_Attr)⟩ : T_laneref1_token), wi (1 + y53))) else (some ((⟨q, at', [], (⟨0, 0, [], (0, 0, 0, 0)⟩ : T_api_Attr)⟩ : T_laneref1_token), wi (1 + y53)))
theorem numberR (z : Str) (at' : Int) (q : Str) (hz : z.length ≤ 50000) (h0 : 0 < z.length) :
    refNum z at' q = some (if numB (z.take (numM z)) 9 then (⟨[118], at', [], ⟨1, numV (z.take (numM z)), [], (0, 0, 0, 0)⟩⟩, (numM z : Int)) else (⟨q, at', [], zA⟩, (numM z : Int))) := by
  unfold refNum
  have hM := numM_le h0
  rw [sub_one h0, bi_some, span_ok (z.drop 1) [48, 49, 50, 51, 52, 53, 54, 55, 56, 57] isD (by rw [List.length_drop]; omega) (by decide) dgs_isD, bi_some]
  have e : wi (1 + (((z.drop 1).takeWhile isD).length : Int)) = (numM z : Int) := by
    unfold numM at hM ⊢
    rw [wi_id (by omega) (by omega)]
    omega
  rw [e, sub_pre hM, bi_some]
  obtain ⟨n, n1, n2⟩ := numR (z.take (numM z)) 9 (by decide) (by rw [List.length_take]; omega)
  rw [show (9 : Int) = ((9 : Nat) : Int) from rfl, n1, bi_some]
  cases hN : numB (z.take (numM z)) 9 with
  | true => rw [n2 hN]; rfl
  | false => rfl
end Go.Gk
