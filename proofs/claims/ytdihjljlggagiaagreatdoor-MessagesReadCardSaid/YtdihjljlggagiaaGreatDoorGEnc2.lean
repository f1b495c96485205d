/-
  The plain law: what writes a message, two ways.
-/
import Derived.Test.YtdihjljlggagiaaGreatDoorGEnc1
set_option linter.unusedVariables false
set_option linter.unusedSimpArgs false
set_option linter.unusedSectionVars false
set_option maxRecDepth 100000
namespace Go.Gk
/-- Two rows of bytes that are one, as long as they are short. -/
def Like (b c : List Int) : Prop := b.length = c.length ∧ (b.length ≤ 16384 → b = c)
theorem Like.refl (b : List Int) : Like b b := ⟨rfl, fun _ => rfl⟩
theorem Like.app {b c : List Int} (h : Like b c) {x y : List Int} (hl : x.length = y.length) (hx : b.length ≤ 16384 → x = y) : Like (b ++ x) (c ++ y) := by
  refine ⟨by simp [h.1, hl], fun hb => ?_⟩
  simp only [List.length_append] at hb
  rw [h.2 (by omega), hx (by omega)]
/-- A map of places. -/
def Spots (m : List (Str × Int)) (n : Nat) : Prop := SM m ∧ ∀ e ∈ m, 0 ≤ e.2 ∧ e.2 < n
theorem Spots.mono {m : List (Str × Int)} {n n' : Nat} (h : Spots m n) (hn : n ≤ n') : Spots m n' := ⟨h.1, fun e he => ⟨(h.2 e he).1, by have := (h.2 e he).2; omega⟩⟩
theorem mSet_mem {m : List (Str × Int)} {k : Str} {v : Int} {e : Str × Int} (h : e ∈ mSet m k v) : e ∈ m ∨ e = (k, v) := by
  unfold mSet at h
  split at h
  · exact List.mem_or_eq_of_mem_set h
  · have := (mIns_perm k v m).mem_iff.1 h
    simpa using this
theorem Spots.set {m : List (Str × Int)} {n : Nat} (h : Spots m n) (k : Str) {v : Int} (h0 : 0 ≤ v) (h1 : v < n) : Spots (mSet m k v) n :=
  ⟨h.1.set k v, fun e he => by
    rcases mSet_mem he with he | rfl
    · exact h.2 e he
    · exact ⟨h0, h1⟩⟩
theorem Spots.get {m : List (Str × Int)} {n : Nat} (h : Spots m n) (k : Str) (hk : (mGet m k).isSome = true) : 0 ≤ (mGet m k).getD 0 ∧ (mGet m k).getD 0 < n := by
  obtain ⟨v, hv⟩ := Option.isSome_iff_exists.1 hk
  rw [hv]
  exact h.2 _ (mGet_mem hv)
theorem shrZ_ok (n : Int) (i : Nat) : ∃ y, shrZ .u64 n (i : Int) = some y := ⟨_, rfl⟩
/-- A number in some bytes. -/
theorem put_ok (n : Int) (many : Nat) (b : List Int) (hm : many ≤ 300) (hb : b.length ≤ 100000000) : ∃ x : List Int, x.length = many ∧
    loopM (σ := (List Int) × Int) (ρ := List Int) (fun s2 => bif decide ((s2.2 : Int) ≥ 0) then (bi (shrZ .u64 n (wi (8 * s2.2))) fun y12 => bi (apd s2.1 [IntKind.u8.wrap (y12)]) fun y14 => some (.go (y14, wi (s2.2 - 1)))) else (some (.out s2.1))) 20000000 (b, wi ((many : Int) - 1)) = some (b ++ x) ∧
    (many = 1 → x = [IntKind.u8.wrap ((shrZ .u64 n 0).getD 0)]) := by
  have hw : wi ((many : Int) - 1) = (many : Int) - 1 := wi_id (by omega) (by omega)
  rw [hw]
  obtain ⟨r, h1, x, rfl, hx, hx1⟩ := loopM_inv (f := fun s2 : (List Int) × Int => bif decide ((s2.2 : Int) ≥ 0) then (bi (shrZ .u64 n (wi (8 * s2.2))) fun y12 => bi (apd s2.1 [IntKind.u8.wrap (y12)]) fun y14 => some (LS.go (y14, wi (s2.2 - 1)))) else (some (.out s2.1)))
    (fun s => ∃ (x : List Int) (j : Nat), s = (b ++ x, (many : Int) - 1 - (j : Int)) ∧ x.length = j ∧ j ≤ many ∧ (many = 1 → j = 1 → x = [IntKind.u8.wrap ((shrZ .u64 n 0).getD 0)])) (fun s => (s.2 + 1).toNat) (fun r => ∃ x : List Int, r = b ++ x ∧ x.length = many ∧ (many = 1 → x = [IntKind.u8.wrap ((shrZ .u64 n 0).getD 0)])) (by
      rintro s ⟨x, j, rfl, hj, hjm, h1⟩
      simp only
      by_cases hjl : j < many
      · obtain ⟨q, hq⟩ : ∃ q : Nat, (many : Int) - 1 - (j : Int) = (q : Int) := ⟨many - 1 - j, by omega⟩
        rw [hq, decide_eq_true (show (q : Int) ≥ 0 by omega)]
        have w1 : wi (8 * (q : Int)) = ((8 * q : Nat) : Int) := by rw [wi_id (by omega) (by omega)]; omega
        have w2 : wi ((q : Int) - 1) = (many : Int) - 1 - ((j + 1 : Nat) : Int) := by rw [wi_id (by omega) (by omega)]; omega
        obtain ⟨y, hy⟩ := shrZ_ok n (8 * q)
        rw [w1, hy]
        simp only [cond_true, bi_some]
        rw [apd_some (by simp; omega), w2]
        refine .inr ⟨_, rfl, ⟨x ++ [IntKind.u8.wrap y], j + 1, by simp, by simp [hj], by omega, fun hm1 hj1 => ?_⟩, by simp; omega⟩
        have hj0 : j = 0 := by omega
        have hq0 : q = 0 := by omega
        subst hq0
        have hx : x = [] := List.eq_nil_of_length_eq_zero (by omega)
        subst hx
        have : shrZ .u64 n 0 = some y := hy
        rw [this]
        rfl
      · rw [decide_eq_false (show ¬ (many : Int) - 1 - (j : Int) ≥ 0 by omega)]
        have : j = many := by omega
        subst this
        exact .inl ⟨_, rfl, x, rfl, hj, fun hm1 => h1 hm1 hm1⟩) 20000000 (b, (many : Int) - 1) (by simp; omega) ⟨[], 0, by simp, rfl, by omega, fun _ h => by omega⟩
  exact ⟨x, hx, h1, hx1⟩
theorem wnum_two {b c : List Int} (h : Like b c) (w : List (Str × Int)) (n n' : Int) (many : Nat) (hm : many ≤ 300) (hb : b.length ≤ 100000000) (hn : b.length ≤ 16384 → n = n') :
    ∃ b' c', m_name_encoder_number 20000000 ⟨b, w⟩ n (many : Int) = some ⟨b', w⟩ ∧ m_laneref1_pen_put 20000000 ⟨c, w⟩ n' (many : Int) = some ⟨c', w⟩ ∧ Like b' c' ∧ b'.length = b.length + many := by
  obtain ⟨x, x1, x2, _⟩ := put_ok n many b hm hb
  obtain ⟨y, y1, y2, _⟩ := put_ok n' many c hm (by rw [← h.1]; exact hb)
  refine ⟨b ++ x, c ++ y, ?_, ?_, h.app (by rw [x1, y1]) (fun hl => ?_), by simp [x1]⟩
  · unfold m_name_encoder_number
    simp only
    rw [x2]
    rfl
  · unfold m_laneref1_pen_put
    simp only
    rw [y2]
    rfl
  · have e := h.2 hl
    have e2 := hn hl
    subst e; subst e2
    rw [x2] at y2
    exact List.append_cancel_left (Option.some.inj y2)
theorem shr0 (n : Int) : (shrZ .u64 n 0).getD 0 = n := by
  simp [shrZ, shrV]
theorem w64n {n : Int} (h0 : 0 ≤ n) (h1 : n < 18446744073709551616) : IntKind.u64.wrap n = n := Int.emod_eq_of_lt h0 h1
/-- One byte. -/
theorem one_ok (c : List Int) (w : List (Str × Int)) (n : Int) (hc : c.length ≤ 100000000) : m_laneref1_pen_put 20000000 ⟨c, w⟩ n 1 = some ⟨c ++ [IntKind.u8.wrap n], w⟩ := by
  obtain ⟨x, x1, x2, x3⟩ := put_ok n 1 c (by decide) hc
  unfold m_laneref1_pen_put
  simp only
  rw [show wi ((1 : Int) - 1) = wi (((1 : Nat) : Int) - 1) from rfl, x2, x3 rfl, shr0]
  rfl
theorem cut_ok (s : Str) (h : s.length ≤ 1000) : ∃ a r f, m_strings_Cut s [46] = some (a, r, f) ∧ (a.length + r.length + 1 ≤ s.length ∨ (a = s ∧ r = [])) := by
  unfold m_strings_Cut
  rw [Nat.ble_eq_true_of_le (show s.length ≤ 1099511627776 by omega)]
  simp only [gd_true, cut1]
  by_cases hi : 0 ≤ Lib.indexByte s 46
  · rw [if_pos hi]
    obtain ⟨o, ho⟩ := Int.eq_ofNat_of_zero_le hi
    have hlt : o < s.length := (List.getElem?_eq_some_iff.1 (Lib.indexByte_some ho).1).1
    refine ⟨_, _, _, rfl, .inl ?_⟩
    rw [ho]
    simp
    omega
  · rw [if_neg hi]
    exact ⟨_, _, _, rfl, .inr ⟨rfl, rfl⟩⟩
theorem or_place {a : Int} (h0 : 0 ≤ a) (h1 : a < 16384) : bitsV .or .u64 49152 (IntKind.u64.wrap a) = IntKind.u64.wrap (wi (49152 + a)) := by
  obtain ⟨n, rfl⟩ := Int.eq_ofNat_of_zero_le h0
  have hn : n < 2 ^ 14 := by omega
  rw [w64n h0 (by omega), wi_id (by omega) (by omega)]
  unfold bitsV
  simp only
  congr 1
  have e : (49152 : Nat) ||| n = 49152 + n := by
    have := Nat.shiftLeft_add_eq_or_of_lt hn 3
    rw [show (3 : Nat) <<< 14 = 49152 from rfl] at this
    exact this.symm
  have e2 : BitVec.ofInt (IntKind.bits .u64) (n : Int) = BitVec.ofNat 64 n := by
    show BitVec.ofInt 64 (n : Int) = BitVec.ofNat 64 n
    simp
  have e1 : BitVec.ofInt (IntKind.bits .u64) (49152 : Int) = BitVec.ofNat 64 49152 := rfl
  rw [e1, e2]
  have : (BitVec.ofNat 64 49152 ||| BitVec.ofNat 64 n).toNat = 49152 ||| n := by
    rw [BitVec.toNat_or, BitVec.toNat_ofNat, BitVec.toNat_ofNat, Nat.mod_eq_of_lt (by decide), Nat.mod_eq_of_lt (by omega)]
  show (((BitVec.ofNat 64 49152 ||| BitVec.ofNat 64 n).toNat : Nat) : Int) = _
  rw [this, e]
  omega
theorem bytes_len (s : Str) : (bytesOf s).length = s.length := by simp [bytesOf]
/-- A name, written two ways. -/
theorem wname_two {b c : List Int} (h : Like b c) (w : List (Str × Int)) (s : Str) (hw : Spots w b.length) (hs : s.length ≤ 300) (hb : b.length ≤ 10000000) :
    ∃ b' c' w', m_name_encoder_name 20000000 ⟨b, w⟩ s = some ⟨b', w'⟩ ∧ m_laneref1_pen_name 20000000 ⟨c, w⟩ s = some ⟨c', w'⟩ ∧ Like b' c' ∧ Spots w' b'.length ∧ b.length ≤ b'.length ∧ b'.length ≤ b.length + 700 := by
  unfold m_name_encoder_name m_laneref1_pen_name
  simp only
  obtain ⟨r, q, e1, e2, ⟨fr, b', c', rfl, rfl, h1, h2, h3, h4⟩⟩ := loopM_two (f := fun s2 : (List Int) × (List (Str × Int)) × Str => bif !((s2.2.2 : Str) == []) then (bif (mGet w s2.2.2).isSome then (bi (m_name_encoder_number 20000000 (⟨s2.1, w⟩ : T_name_encoder) (bitsV .or .u64 49152 (IntKind.u64.wrap (((mGet w s2.2.2).getD 0)))) 2) fun y13 => some (LS.out (y13.v_where, y13.b, s2.2.1))) else (bi (m_strings_Cut s2.2.2 [46]) fun y16 => bi (apd s2.1 [IntKind.u8.wrap ((y16.1.length : Int))]) fun y18 => bi (apd y18 (bytesOf y16.1)) fun y20 => bif (y16.2.1 : Str) == [] then (bi (apd y20 [0]) fun y23 => some (.go (y23, (mSet s2.2.1 s2.2.2 (s2.1.length : Int)), y16.2.1))) else (some (.go (y20, (mSet s2.2.1 s2.2.2 (s2.1.length : Int)), y16.2.1))))) else (some (.out (w, s2.1, s2.2.1))))
    (g := fun s2 : (List (Str × Int)) × (List Int) × (List (Str × Int)) × Str => bif !((s2.2.2.2 : Str) == []) then (bif (mGet s2.1 s2.2.2.2).isSome then (bi (m_laneref1_pen_put 20000000 (⟨s2.2.1, s2.1⟩ : T_laneref1_pen) (IntKind.u64.wrap (wi (49152 + ((mGet s2.1 s2.2.2.2).getD 0)))) 2) fun y13 => some (LS.out (y13.v_at, y13.b, s2.2.2.1))) else (bi (m_strings_Cut s2.2.2.2 [46]) fun y16 => bi (m_laneref1_pen_put 20000000 (⟨s2.2.1, s2.1⟩ : T_laneref1_pen) (IntKind.u64.wrap ((y16.1.length : Int))) 1) fun y18 => bi (apd y18.b (bytesOf y16.1)) fun y20 => bif (y16.2.1 : Str) == [] then (bi (m_laneref1_pen_put 20000000 (⟨y20, y18.v_at⟩ : T_laneref1_pen) 0 1) fun y23 => some (.go (y23.v_at, y23.b, (mSet s2.2.2.1 s2.2.2.2 (s2.2.1.length : Int)), y16.2.1))) else (some (.go (y18.v_at, y20, (mSet s2.2.2.1 s2.2.2.2 (s2.2.1.length : Int)), y16.2.1))))) else (some (.out (s2.1, s2.2.1, s2.2.2.1))))
    (fun x y => ∃ f t b1 c1, x = (b1, f, t) ∧ y = (w, c1, f, t) ∧ Like b1 c1 ∧ Spots f b1.length ∧ t.length ≤ s.length ∧ b.length ≤ b1.length ∧ b1.length + 2 * t.length ≤ b.length + 2 * s.length + (if t = [] then 1 else 0)) (fun x => x.2.2.length)
    (fun r q => ∃ f b1 c1, r = (w, b1, f) ∧ q = (w, c1, f) ∧ Like b1 c1 ∧ Spots f b1.length ∧ b.length ≤ b1.length ∧ b1.length ≤ b.length + 2 * s.length + 3) (by
      rintro _ _ ⟨f, t, b1, c1, rfl, rfl, i1, i2, i3, i4, i5⟩
      simp only
      have hle : b1.length ≤ 20000000 := by split at i5 <;> omega
      by_cases ht : t = []
      · subst ht
        rw [if_pos rfl] at i5
        exact .inl ⟨_, _, rfl, rfl, f, b1, c1, rfl, rfl, i1, i2, i4, by simp at i5; omega⟩
      · have hne : ((t : Str) == []) = false := by simpa using ht
        rw [if_neg ht] at i5
        simp only [hne, Bool.not_false, cond_true]
        cases hg : (mGet w t).isSome with
        | true =>
          obtain ⟨g0, g1⟩ := hw.get t hg
          obtain ⟨b2, c2, n1, n2, n3, n4⟩ := wnum_two i1 w (bitsV .or .u64 49152 (IntKind.u64.wrap ((mGet w t).getD 0))) (IntKind.u64.wrap (wi (49152 + ((mGet w t).getD 0)))) 2 (by decide) (by omega) (fun hl => or_place g0 (by omega))
          simp only [cond_true]
          rw [show ((2 : Nat) : Int) = 2 from rfl] at n1 n2
          rw [n1, n2]
          exact .inl ⟨_, _, rfl, rfl, f, b2, c2, rfl, rfl, n3, i2.mono (by omega), by omega, by omega⟩
        | false =>
          obtain ⟨a, r, fl, hc, hlen⟩ := cut_ok t (by omega)
          simp only [cond_false]
          rw [hc]
          simp only [bi_some]
          have hal : a.length ≤ t.length := by rcases hlen with h | ⟨rfl, _⟩ <;> omega
          have hcl : c1.length ≤ 20000000 := by rw [← i1.1]; exact hle
          have A1 : apd b1 [IntKind.u8.wrap (a.length : Int)] = some (b1 ++ [IntKind.u8.wrap (a.length : Int)]) := apd_some (by simp; omega)
          have A2 : apd (b1 ++ [IntKind.u8.wrap (a.length : Int)]) (bytesOf a) = some (b1 ++ [IntKind.u8.wrap (a.length : Int)] ++ bytesOf a) := apd_some (by simp [bytes_len]; omega)
          have A3 : apd (c1 ++ [IntKind.u8.wrap (a.length : Int)]) (bytesOf a) = some (c1 ++ [IntKind.u8.wrap (a.length : Int)] ++ bytesOf a) := apd_some (by simp [bytes_len]; omega)
          have A4 : apd (b1 ++ [IntKind.u8.wrap (a.length : Int)] ++ bytesOf a) [0] = some (b1 ++ [IntKind.u8.wrap (a.length : Int)] ++ bytesOf a ++ [0]) := apd_some (by simp [bytes_len]; omega)
          have P1 : m_laneref1_pen_put 20000000 ⟨c1, w⟩ (IntKind.u64.wrap (a.length : Int)) 1 = some ⟨c1 ++ [IntKind.u8.wrap (a.length : Int)], w⟩ := by
            rw [one_ok _ _ _ (by omega), w64n (by omega) (by omega)]
          have P2 : m_laneref1_pen_put 20000000 ⟨c1 ++ [IntKind.u8.wrap (a.length : Int)] ++ bytesOf a, w⟩ 0 1 = some ⟨c1 ++ [IntKind.u8.wrap (a.length : Int)] ++ bytesOf a ++ [0], w⟩ := one_ok _ _ _ (by simp [bytes_len]; omega)
          simp only [A1, P1, bi_some]
          simp only [A2, A3, bi_some]
          have hL : Like (b1 ++ [IntKind.u8.wrap (a.length : Int)] ++ bytesOf a) (c1 ++ [IntKind.u8.wrap (a.length : Int)] ++ bytesOf a) := (i1.app rfl fun _ => rfl).app rfl fun _ => rfl
          have hfl : (b1.length : Int) = (c1.length : Int) := by rw [i1.1]
          have hS : Spots (mSet f t (b1.length : Int)) (b1.length + 1) := (i2.mono (Nat.le_succ _)).set t (by omega) (by omega)
          rw [← hfl]
          cases hr : ((r : Str) == []) with
          | true =>
            have hr' : r = [] := by simpa using hr
            simp only [cond_true, A4, P2, bi_some]
            refine .inr ⟨_, _, rfl, rfl, ⟨_, r, _, _, rfl, rfl, hL.app rfl fun _ => rfl, hS.mono (by simp), by rcases hlen with h | ⟨rfl, rfl⟩ <;> simp at * <;> omega, by simp; omega, ?_⟩, ?_⟩
            · subst hr'
              rw [if_pos rfl]
              simp [bytes_len]
              have : 0 < t.length := List.length_pos_iff.2 ht
              rcases hlen with h | ⟨rfl, _⟩ <;> simp at * <;> omega
            · subst hr'
              simpa using List.length_pos_iff.2 ht
          | false =>
            have hr' : r ≠ [] := by simpa using hr
            rcases hlen with h | ⟨_, h⟩
            · simp only [cond_false]
              refine .inr ⟨_, _, rfl, rfl, ⟨_, r, _, _, rfl, rfl, hL, hS.mono (by simp), by omega, by simp; omega, ?_⟩, ?_⟩
              · rw [if_neg hr']
                simp [bytes_len]
                omega
              · simp only
                omega
            · exact absurd h hr') 20000000 (b, [], s) (w, c, [], s) (by simp; omega) ⟨[], s, b, c, rfl, rfl, h, ⟨SM.nil, fun e he => by cases he⟩, Nat.le_refl _, Nat.le_refl _, by split <;> omega⟩
  rw [e1, e2]
  simp only [bi_some]
  obtain ⟨w', p1, p2, p3⟩ := rangeP_put (V2 := Int) (m := fr) (s := w) (f := fun x34 s33 => some (mSet s33 x34.1 x34.2)) h2.1 hw.1 (fun _ v => some v) (fun x s _ => rfl)
  rw [p1]
  refine ⟨b', c', w', rfl, rfl, h1, ⟨p2, fun e he => ?_⟩, h3, by omega⟩
  have hg := p3 e.1
  rw [p2.get (show (e.1, e.2) ∈ w' from he)] at hg
  cases hm : mGet fr e.1 with
  | none =>
    rw [hm] at hg
    have := (hw.mono h3).2 _ (mGet_mem (show mGet w e.1 = some e.2 from hg.symm))
    exact this
  | some v =>
    rw [hm] at hg
    have hv : e.2 = v := by simpa using hg
    have := h2.2 _ (mGet_mem hm)
    rw [hv]
    exact this
end Go.Gk
