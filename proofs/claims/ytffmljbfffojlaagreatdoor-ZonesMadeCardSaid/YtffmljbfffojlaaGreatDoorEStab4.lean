/-
  A stable sort, part 4: two runs merged in place.
-/
import Derived.Test.YtffmljbfffojlaaGreatDoorEStab3
set_option linter.unusedVariables false
set_option linter.unusedSimpArgs false
set_option linter.unusedSectionVars false
set_option maxRecDepth 100000
namespace Go.Gk
open Go.Sort
section
variable {α β γ : Type} {cmp : α → α → Option Int}
theorem bi_ex {x : Option β} {g : β → Option γ} {S : γ → Prop} (R : β → Prop) (h : ∃ q, x = some q ∧ R q) (h2 : ∀ q, R q → ∃ r, g q = some r ∧ S r) : ∃ r, bi x g = some r ∧ S r := by
  obtain ⟨q, rfl, hq⟩ := h
  exact h2 q hq
/-- What 'less' says of the elements at two places. -/
def ltAt (cmp : α → α → Option Int) (L : List α) (i j : Nat) : Bool := match L[i]?, L[j]? with
  | some x, some y => ltO cmp x y
  | _, _ => false
theorem ltAt_some {L : List α} {i j : Nat} {x y : α} (hx : L[i]? = some x) (hy : L[j]? = some y) : ltAt cmp L i j = ltO cmp x y := by unfold ltAt; rw [hx, hy]
theorem at_some {L : List α} {i : Nat} (h : i < L.length) : ∃ x, L[i]? = some x := ⟨L[i], List.getElem?_eq_getElem h⟩
/-- The merged list: sorted, of the same elements. -/
def Mrg (cmp : α → α → Option Int) (P U V Z r : List α) : Prop := ∃ W, r = P ++ (W ++ Z) ∧ Srt cmp W ∧ W.Perm (U ++ V)
theorem cross (H : CmpOk cmp) {A B : List α} (hA : Srt cmp A) (hB : Srt cmp B) {x y : α} (hx : A.getLast? = some x) (hy : B.head? = some y) (h : ltO cmp y x = false) : ∀ a ∈ A, ∀ b ∈ B, ltO cmp b a = false := fun a ha b hb =>
  srt_last H hA hx (srt_head H hB hy h b hb) a ha
theorem take_last {l : List α} {i : Nat} {x : α} (h : l[i]? = some x) : (l.take (i + 1)).getLast? = some x := by
  rw [List.getLast?_take]
  simp [h]
theorem drop_head {l : List α} {i : Nat} {x : α} (h : l[i]? = some x) : (l.drop i).head? = some x := by rw [List.head?_drop]; exact h
set_option maxHeartbeats 4000000 in
theorem sym_ok (H : CmpOk cmp) : ∀ (k : Nat) (P U V Z : List α), 0 < U.length → 0 < V.length → Srt cmp U → Srt cmp V → U.length + V.length + 1 < k → (P ++ (U ++ (V ++ Z))).length ≤ 100000 →
    ∃ r, gSym cmp k (P ++ (U ++ (V ++ Z))) (P.length : Int) ((P.length + U.length : Nat) : Int) ((P.length + U.length + V.length : Nat) : Int) = some r ∧ Mrg cmp P U V Z r
  | 0, P, U, V, Z, _, _, _, _, h, _ => absurd h (Nat.not_lt_zero _)
  | k + 1, P, U, V, Z, hU, hV, sU, sV, hk, hl => by
    have hl0 := hl
    simp only [List.length_append] at hl0
    generalize hL : P ++ (U ++ (V ++ Z)) = L at hl
    have atU : ∀ i, i < U.length → L[P.length + i]? = U[i]? := fun i hi => by
      rw [← hL, List.getElem?_append_right (by omega), Nat.add_sub_cancel_left, List.getElem?_append_left hi]
    have atV : ∀ i, i < V.length → L[P.length + U.length + i]? = V[i]? := fun i hi => by
      rw [← hL, List.getElem?_append_right (by omega), show P.length + U.length + i - P.length = U.length + i by omega, List.getElem?_append_right (by omega), Nat.add_sub_cancel_left, List.getElem?_append_left hi]
    have hLl : L.length = P.length + (U.length + (V.length + Z.length)) := by rw [← hL]; simp
    generalize ha : P.length = a at *
    generalize hm : a + U.length = m at *
    generalize hb : m + V.length = b at *
    unfold gSym
    have wma : wi ((m : Int) - (a : Int)) = ((U.length : Nat) : Int) := wiE (by omega) (by omega)
    have wbm : wi ((b : Int) - (m : Int)) = ((V.length : Nat) : Int) := wiE (by omega) (by omega)
    rw [wma, wbm]
    by_cases hU1 : U.length = 1
    · -- one element ahead of a run
      obtain ⟨u, rfl⟩ : ∃ u, U = [u] := List.length_eq_one_iff.1 hU1
      rw [show (((([u] : List α).length : Nat) : Int) == 1) = true by simp]
      simp only [cond_true]
      have hu : L[a]? = some u := by have := atU 0 (by simp); simpa using this
      refine bi_ex (fun r => ∃ q : Nat, r = (q : Int) ∧ m ≤ q ∧ q ≤ b ∧ (q = m ∨ ltAt cmp L (q - 1) a = true) ∧ (q = b ∨ ltAt cmp L q a = false)) ?_ ?_
      · obtain ⟨q, e, h⟩ := halves (f := fun s3 => bif decide ((s3.1 : Int) < s3.2) then (bi (getZ L (wi (shrV .u64 (IntKind.u64.wrap (wi (s3.1 + s3.2))) 1))) fun x13 => bi (getZ L (a : Int)) fun x16 => bi (cmp x13 x16) fun y19 => bif decide ((y19 : Int) < 0) then (some (.go (wi ((wi (shrV .u64 (IntKind.u64.wrap (wi (s3.1 + s3.2))) 1)) + 1), s3.2))) else (some (.go (s3.1, wi (shrV .u64 (IntKind.u64.wrap (wi (s3.1 + s3.2))) 1))))) else (some (.out s3.1)))
          m b (by omega) (by omega) (fun i => ltAt cmp L i a) (fun i j h1 h2 h3 => by
            simp only
            rw [decide_eq_true (by omega), halfE i j (by omega)]
            obtain ⟨x, hx⟩ := at_some (L := L) (i := (i + j) / 2) (by omega)
            obtain ⟨c, c1, c2⟩ := H.ev x u
            simp only [cond_true, getZ_cast, hx, hu, bi_some, c1, c2, ltAt_some hx hu]
            cases ltO cmp x u with
            | true => simp only [cond_true, if_true]; rw [wiE (show (((i + j) / 2 : Nat) : Int) + 1 = (((i + j) / 2 + 1 : Nat) : Int) by omega) (by omega)]
            | false => simp) (fun i => by simp only; rw [decide_eq_false (by omega)]; rfl) k (by omega)
        exact ⟨_, e, q, rfl, h⟩
      · rintro _ ⟨q, rfl, h1, h2, h3, h4⟩
        simp only [List.length_singleton] at hm hU1
        have hspl : V = V.take (q - m) ++ V.drop (q - m) := (List.take_append_drop _ _).symm
        have hlt : (V.take (q - m)).length = q - m := by rw [List.length_take]; omega
        have hbub := bub_up (f := fun s25 => bif decide ((s25.2 : Int) < (wi ((q : Int) - 1))) then (bi (getZ s25.1 (wi (s25.2 + 1))) fun x35 => bi (getZ s25.1 s25.2) fun x38 => bi (getZ s25.1 s25.2) fun x41 => bi (getZ s25.1 (wi (s25.2 + 1))) fun x44 => bi (getZ (s25.1.set s25.2.toNat x35) (((wi (s25.2 + 1)).toNat : Nat) : Int)) fun x47 => some (.go ((s25.1.set s25.2.toNat x35).set ((wi (s25.2 + 1)).toNat) x38, wi (s25.2 + 1)))) else (some (.out s25.1)))
          (q - 1) (by omega) (fun s => by rw [wiE (show (q : Int) - 1 = ((q - 1 : Nat) : Int) by omega) (by omega)]) (V.take (q - m)) k P (V.drop (q - m) ++ Z) u (by omega) (by omega)
        refine ⟨_, ?_, V.take (q - m) ++ u :: V.drop (q - m), rfl, ?_, ?_⟩
        · have e : L = P ++ u :: (V.take (q - m) ++ (V.drop (q - m) ++ Z)) := by
            rw [← hL, ← List.append_assoc (V.take _), List.take_append_drop]; rfl
          rw [e, ← ha]
          refine Eq.trans (congrArg (fun x => bi x fun q27 => some q27) hbub) ?_
          simp
        · refine srt_mid H (by rw [← hspl]; exact sV) ?_ ?_
          · rcases h3 with h3 | h3
            · rw [show q - m = 0 by omega]; intro x hx; simp at hx
            · have hq : q ≠ m := by
                rintro rfl
                have hx : L[q - 1]? = some u := by rw [show q - 1 = a by omega]; exact hu
                rw [ltAt_some hx hu, H.swo.irrefl] at h3; cases h3
              obtain ⟨x, hx⟩ := at_some (L := L) (i := q - 1) (by omega)
              have hv := atV (q - 1 - m) (by omega)
              rw [show m + (q - 1 - m) = q - 1 by omega, hx] at hv
              rw [ltAt_some hx hu] at h3
              refine srt_last H (by unfold Srt at sV ⊢; rw [hspl, List.pairwise_append] at sV; exact sV.1) (z := x) ?_ (H.as h3)
              have := take_last hv.symm
              rwa [show q - 1 - m + 1 = q - m by omega] at this
          · rcases h4 with h4 | h4
            · intro x hx; rw [List.drop_eq_nil_of_le (by omega)] at hx; cases hx
            · by_cases hqb : q = b
              · intro x hx; rw [List.drop_eq_nil_of_le (by omega)] at hx; cases hx
              · obtain ⟨x, hx⟩ := at_some (L := L) (i := q) (by omega)
                have hv := atV (q - m) (by omega)
                rw [show m + (q - m) = q by omega, hx] at hv
                rw [ltAt_some hx hu] at h4
                exact srt_head H (by unfold Srt at sV ⊢; rw [hspl, List.pairwise_append] at sV; exact sV.2.1) (drop_head hv.symm) h4
        · have : (V.take (q - m) ++ u :: V.drop (q - m)).Perm (u :: (V.take (q - m) ++ V.drop (q - m))) := List.perm_middle
          rw [← hspl] at this
          exact this
    · rw [show (((U.length : Nat) : Int) == 1) = false by simp; omega]
      simp only [cond_false]
      by_cases hV1 : V.length = 1
      · -- a run ahead of one element
        obtain ⟨v, rfl⟩ : ∃ v, V = [v] := List.length_eq_one_iff.1 hV1
        rw [show (((([v] : List α).length : Nat) : Int) == 1) = true by simp]
        simp only [cond_true]
        have hv : L[m]? = some v := by have := atV 0 (by simp); simpa using this
        refine bi_ex (fun r => ∃ q : Nat, r = (q : Int) ∧ a ≤ q ∧ q ≤ m ∧ (q = a ∨ (!ltAt cmp L m (q - 1)) = true) ∧ (q = m ∨ (!ltAt cmp L m q) = false)) ?_ ?_
        · obtain ⟨q, e, h⟩ := halves (f := fun s54 => bif decide ((s54.1 : Int) < s54.2) then (bi (getZ L (m : Int)) fun x64 => bi (getZ L (wi (shrV .u64 (IntKind.u64.wrap (wi (s54.1 + s54.2))) 1))) fun x67 => bi (cmp x64 x67) fun y70 => bif !(decide ((y70 : Int) < 0)) then (some (.go (wi ((wi (shrV .u64 (IntKind.u64.wrap (wi (s54.1 + s54.2))) 1)) + 1), s54.2))) else (some (.go (s54.1, wi (shrV .u64 (IntKind.u64.wrap (wi (s54.1 + s54.2))) 1))))) else (some (.out s54.1)))
            a m (by omega) (by omega) (fun i => !ltAt cmp L m i) (fun i j h1 h2 h3 => by
              simp only
              rw [decide_eq_true (by omega), halfE i j (by omega)]
              obtain ⟨x, hx⟩ := at_some (L := L) (i := (i + j) / 2) (by omega)
              obtain ⟨c, c1, c2⟩ := H.ev v x
              simp only [cond_true, getZ_cast, hx, hv, bi_some, c1, c2, ltAt_some hv hx]
              cases ltO cmp v x with
              | false => simp only [Bool.not_false, cond_true, if_true]; rw [wiE (show (((i + j) / 2 : Nat) : Int) + 1 = (((i + j) / 2 + 1 : Nat) : Int) by omega) (by omega)]
              | true => simp) (fun i => by simp only; rw [decide_eq_false (by omega)]; rfl) k (by omega)
          exact ⟨_, e, q, rfl, h⟩
        · rintro _ ⟨q, rfl, h1, h2, h3, h4⟩
          simp only [List.length_singleton] at hb
          have hspl : U = U.take (q - a) ++ U.drop (q - a) := (List.take_append_drop _ _).symm
          have hlt : (U.take (q - a)).length = q - a := by rw [List.length_take]; omega
          have hbub := bub_down (f := fun s76 => bif decide ((s76.2 : Int) > (q : Int)) then (bi (getZ s76.1 (wi (s76.2 - 1))) fun x86 => bi (getZ s76.1 s76.2) fun x89 => bi (getZ s76.1 s76.2) fun x92 => bi (getZ s76.1 (wi (s76.2 - 1))) fun x95 => bi (getZ (s76.1.set s76.2.toNat x86) (((wi (s76.2 - 1)).toNat : Nat) : Int)) fun x98 => some (.go ((s76.1.set s76.2.toNat x86).set ((wi (s76.2 - 1)).toNat) x89, wi (s76.2 - 1)))) else (some (.out s76.1)))
            (P ++ U.take (q - a)) (by simp; omega) (fun s => by rw [show ((P ++ U.take (q - a)).length : Int) = (q : Int) by rw [List.length_append, hlt]; omega]) (m - q) k (U.drop (q - a)) Z v (by rw [List.length_drop]; omega) (by omega) (by omega)
          refine ⟨_, ?_, U.take (q - a) ++ v :: U.drop (q - a), rfl, ?_, ?_⟩
          · have e : L = (P ++ U.take (q - a)) ++ (U.drop (q - a) ++ v :: Z) := by
              rw [← hL, List.append_assoc P, ← List.append_assoc (U.take _), List.take_append_drop]; rfl
            rw [show ((P ++ U.take (q - a)).length + (U.drop (q - a)).length) = m by rw [List.length_append, hlt, List.length_drop]; omega] at hbub
            rw [e]
            refine Eq.trans (congrArg (fun x => bi x fun q27 => some q27) hbub) ?_
            simp
          · refine srt_mid H (by rw [← hspl]; exact sU) ?_ ?_
            · rcases h3 with h3 | h3
              · rw [show q - a = 0 by omega]; intro x hx; simp at hx
              · by_cases hqa : q = a
                · rw [show q - a = 0 by omega]; intro x hx; simp at hx
                · obtain ⟨x, hx⟩ := at_some (L := L) (i := q - 1) (by omega)
                  have hw := atU (q - 1 - a) (by omega)
                  rw [show a + (q - 1 - a) = q - 1 by omega, hx] at hw
                  rw [ltAt_some hv hx] at h3
                  refine srt_last H (by unfold Srt at sU ⊢; rw [hspl, List.pairwise_append] at sU; exact sU.1) (z := x) ?_ (by simpa using h3)
                  have := take_last hw.symm
                  rwa [show q - 1 - a + 1 = q - a by omega] at this
            · by_cases hqm : q = m
              · intro x hx; rw [List.drop_eq_nil_of_le (by omega)] at hx; cases hx
              · rcases h4 with h4 | h4
                · exact absurd h4 hqm
                · obtain ⟨x, hx⟩ := at_some (L := L) (i := q) (by omega)
                  have hw := atU (q - a) (by omega)
                  rw [show a + (q - a) = q by omega, hx] at hw
                  rw [ltAt_some hv hx] at h4
                  exact srt_head H (by unfold Srt at sU ⊢; rw [hspl, List.pairwise_append] at sU; exact sU.2.1) (drop_head hw.symm) (H.as (by simpa using h4))
          · have : (U.take (q - a) ++ v :: U.drop (q - a)).Perm (v :: (U.take (q - a) ++ U.drop (q - a))) := List.perm_middle
            rw [← hspl] at this
            exact this.trans (List.perm_append_singleton v U).symm
      · -- two runs
        rw [show (((V.length : Nat) : Int) == 1) = false by simp; omega]
        simp only [cond_false]
        obtain ⟨mid, hmid⟩ : ∃ mid, mid = (a + b) / 2 := ⟨_, rfl⟩
        rw [halfE a b (by omega), ← hmid]
        have wn : wi ((mid : Int) + (m : Int)) = ((mid + m : Nat) : Int) := wiE (by omega) (by omega)
        have wp : wi (((mid + m : Nat) : Int) - 1) = ((mid + m - 1 : Nat) : Int) := wiE (by omega) (by omega)
        rw [wn, wp]
        obtain ⟨s0, r0, e0, b1, b2, b3, b4, b5, b6⟩ : ∃ s0 r0 : Nat, (bif decide ((m : Int) > (mid : Int)) then (some (wi (((mid + m : Nat) : Int) - (b : Int)), (mid : Int))) else (some ((a : Int), (m : Int)))) = some ((s0 : Int), (r0 : Int)) ∧ a ≤ s0 ∧ s0 ≤ r0 ∧ r0 ≤ m ∧ r0 ≤ mid ∧ (s0 = a ∨ mid + m - s0 = b) ∧ ((r0 = mid ∧ mid + m - s0 ≤ b) ∨ (r0 = m ∧ mid + m - s0 ≤ b)) := by
          by_cases h : mid < m
          · rw [decide_eq_true (show (m : Int) > (mid : Int) by omega), wiE (show ((mid + m : Nat) : Int) - (b : Int) = ((mid + m - b : Nat) : Int) by omega) (by omega)]
            exact ⟨mid + m - b, mid, rfl, by omega, by omega, by omega, by omega, by omega, by omega⟩
          · rw [decide_eq_false (show ¬ (m : Int) > (mid : Int) by omega)]
            exact ⟨a, m, rfl, by omega, by omega, by omega, by omega, by omega, by omega⟩
        rw [e0]
        simp only [bi_some]
        refine bi_ex (fun r => ∃ q : Nat, r = (q : Int) ∧ s0 ≤ q ∧ q ≤ r0 ∧ (q = s0 ∨ (!ltAt cmp L (mid + m - 1 - (q - 1)) (q - 1)) = true) ∧ (q = r0 ∨ (!ltAt cmp L (mid + m - 1 - q) q) = false)) ?_ ?_
        · obtain ⟨q, e, h⟩ := halves (f := fun s108 => bif decide ((s108.1 : Int) < s108.2) then (bi (getZ L (wi (((mid + m - 1 : Nat) : Int) - (wi (shrV .u64 (IntKind.u64.wrap (wi (s108.1 + s108.2))) 1))))) fun x118 => bi (getZ L (wi (shrV .u64 (IntKind.u64.wrap (wi (s108.1 + s108.2))) 1))) fun x121 => bi (cmp x118 x121) fun y124 => bif !(decide ((y124 : Int) < 0)) then (some (.go (wi ((wi (shrV .u64 (IntKind.u64.wrap (wi (s108.1 + s108.2))) 1)) + 1), s108.2))) else (some (.go (s108.1, wi (shrV .u64 (IntKind.u64.wrap (wi (s108.1 + s108.2))) 1))))) else (some (.out s108.1)))
            s0 r0 (by omega) (by omega) (fun i => !ltAt cmp L (mid + m - 1 - i) i) (fun i j h1 h2 h3 => by
              simp only
              rw [decide_eq_true (by omega), halfE i j (by omega), wiE (show ((mid + m - 1 : Nat) : Int) - (((i + j) / 2 : Nat) : Int) = ((mid + m - 1 - (i + j) / 2 : Nat) : Int) by omega) (by omega)]
              obtain ⟨x, hx⟩ := at_some (L := L) (i := (i + j) / 2) (by omega)
              obtain ⟨y, hy⟩ := at_some (L := L) (i := mid + m - 1 - (i + j) / 2) (by omega)
              obtain ⟨c, c1, c2⟩ := H.ev y x
              simp only [cond_true, getZ_cast, hx, hy, bi_some, c1, c2, ltAt_some hy hx]
              cases ltO cmp y x with
              | false => simp only [Bool.not_false, cond_true, if_true]; rw [wiE (show (((i + j) / 2 : Nat) : Int) + 1 = (((i + j) / 2 + 1 : Nat) : Int) by omega) (by omega)]
              | true => simp) (fun i => by simp only; rw [decide_eq_false (by omega)]; rfl) k (by omega)
          exact ⟨_, e, q, rfl, h⟩
        · rintro _ ⟨q, rfl, h1, h2, h3, h4⟩
          have hend : m ≤ mid + m - q ∧ mid + m - q ≤ b := by omega
          obtain ⟨en, hen⟩ : ∃ en, en = mid + m - q := ⟨_, rfl⟩
          rw [wiE (show ((mid + m : Nat) : Int) - (q : Int) = (en : Int) by omega) (by omega)]
          rw [← hen] at hend
          -- the four parts
          obtain ⟨U1, U2, hUU, u1⟩ : ∃ U1 U2, U = U1 ++ U2 ∧ U1.length = q - a := ⟨U.take (q - a), U.drop (q - a), (List.take_append_drop _ _).symm, by rw [List.length_take]; omega⟩
          obtain ⟨V1, V2, hVV, v1⟩ : ∃ V1 V2, V = V1 ++ V2 ∧ V1.length = en - m := ⟨V.take (en - m), V.drop (en - m), (List.take_append_drop _ _).symm, by rw [List.length_take]; omega⟩
          have u2 : U2.length = m - q := by have := congrArg List.length hUU; simp only [List.length_append] at this; omega
          have v2 : V2.length = b - en := by have := congrArg List.length hVV; simp only [List.length_append] at this; omega
          have sU' := sU; have sV' := sV
          rw [hUU] at sU'; rw [hVV] at sV'
          unfold Srt at sU' sV'
          rw [List.pairwise_append] at sU' sV'
          obtain ⟨sU1, sU2, cU⟩ := sU'
          obtain ⟨sV1, sV2, cV⟩ := sV'
          have cX : ∀ x ∈ U1, ∀ y ∈ V2, ltO cmp y x = false := by
            by_cases hne : q = s0
            · rcases b5 with h | h
              · intro x hx; rw [List.eq_nil_of_length_eq_zero (show U1.length = 0 by omega)] at hx; cases hx
              · intro x hx y hy; rw [List.eq_nil_of_length_eq_zero (show V2.length = 0 by omega)] at hy; cases hy
            · rcases h3 with h3 | h3
              · exact absurd h3 hne
              · rw [show mid + m - 1 - (q - 1) = en by omega] at h3
                by_cases hb2 : en = b
                · intro x hx y hy; rw [List.eq_nil_of_length_eq_zero (show V2.length = 0 by omega)] at hy; cases hy
                · obtain ⟨x, hx⟩ := at_some (L := L) (i := q - 1) (by omega)
                  obtain ⟨y, hy⟩ := at_some (L := L) (i := en) (by omega)
                  rw [ltAt_some hy hx] at h3
                  have hx' : U1.getLast? = some x := by
                    have hw := atU (q - 1 - a) (by omega)
                    rw [show a + (q - 1 - a) = q - 1 by omega, hx, hUU, List.getElem?_append_left (by omega)] at hw
                    have := take_last hw.symm
                    rwa [List.take_of_length_le (by omega)] at this
                  have hy' : V2.head? = some y := by
                    have hw := atV (en - m) (by omega)
                    rw [show m + (en - m) = en by omega, hy, hVV, List.getElem?_append_right (by omega), v1, Nat.sub_self] at hw
                    rw [List.head?_eq_getElem?, ← hw]
                  exact cross H sU1 sV2 hx' hy' (by simpa using h3)
          have cY : ∀ y ∈ V1, ∀ x ∈ U2, ltO cmp x y = false := by
            by_cases hne : q = r0
            · rcases b6 with ⟨h, _⟩ | ⟨h, _⟩
              · intro y hy; rw [List.eq_nil_of_length_eq_zero (show V1.length = 0 by omega)] at hy; cases hy
              · intro y hy x hx; rw [List.eq_nil_of_length_eq_zero (show U2.length = 0 by omega)] at hx; cases hx
            · rcases h4 with h4 | h4
              · exact absurd h4 hne
              · rw [show mid + m - 1 - q = en - 1 by omega] at h4
                obtain ⟨x, hx⟩ := at_some (L := L) (i := q) (by omega)
                obtain ⟨y, hy⟩ := at_some (L := L) (i := en - 1) (by omega)
                rw [ltAt_some hy hx] at h4
                have hx' : U2.head? = some x := by
                  have hw := atU (q - a) (by omega)
                  rw [show a + (q - a) = q by omega, hx, hUU, List.getElem?_append_right (by omega), u1, Nat.sub_self] at hw
                  rw [List.head?_eq_getElem?, ← hw]
                have hy' : V1.getLast? = some y := by
                  have hw := atV (en - 1 - m) (by omega)
                  rw [show m + (en - 1 - m) = en - 1 by omega, hy, hVV, List.getElem?_append_left (by omega)] at hw
                  have := take_last hw.symm
                  rwa [List.take_of_length_le (by omega)] at this
                exact cross H sV1 sU2 hy' hx' (H.as (by simpa using h4))
          -- the inner parts change places
          refine bi_ex (fun r => r = P ++ (U1 ++ (V1 ++ (U2 ++ (V2 ++ Z))))) ?_ ?_
          · have eL : L = (P ++ U1) ++ (U2 ++ (V1 ++ (V2 ++ Z))) := by rw [← hL, hUU, hVV]; simp
            by_cases hr : q < m ∧ m < en
            · rw [show (decide ((q : Int) < (m : Int)) && decide ((m : Int) < (en : Int))) = true by rw [decide_eq_true (by omega), decide_eq_true (by omega)]; rfl]
              have hrot := rot_ok k (P ++ U1) U2 V1 (V2 ++ Z) (by omega) (by omega) (by omega) (by rw [← eL]; exact hl)
              rw [show (((P ++ U1).length : Nat) : Int) = (q : Int) by rw [List.length_append]; omega, show (((P ++ U1).length + U2.length : Nat) : Int) = (m : Int) by rw [List.length_append]; omega, show (((P ++ U1).length + U2.length + V1.length : Nat) : Int) = (en : Int) by rw [List.length_append]; omega, ← eL] at hrot
              simp only [cond_true, hrot, bi_some]
              rw [gd_len (by rw [eL]; simp only [List.length_append]; omega)]
              exact ⟨_, rfl, by simp⟩
            · rw [show (decide ((q : Int) < (m : Int)) && decide ((m : Int) < (en : Int))) = false by
                by_cases hq1 : q < m
                · rw [decide_eq_false (show ¬ (m : Int) < (en : Int) by omega), Bool.and_false]
                · rw [decide_eq_false (show ¬ (q : Int) < (m : Int) by omega), Bool.false_and]]
              refine ⟨_, rfl, ?_⟩
              rw [eL]
              by_cases hq1 : q < m
              · rw [List.eq_nil_of_length_eq_zero (show V1.length = 0 by omega)]; simp
              · rw [List.eq_nil_of_length_eq_zero (show U2.length = 0 by omega)]; simp
          · rintro _ rfl
            -- the first halves
            refine bi_ex (fun r => ∃ W1, r = P ++ (W1 ++ (U2 ++ (V2 ++ Z))) ∧ Srt cmp W1 ∧ W1.Perm (U1 ++ V1)) ?_ ?_
            · by_cases hr : a < q ∧ q < mid
              · rw [show (decide ((a : Int) < (q : Int)) && decide ((q : Int) < (mid : Int))) = true by rw [decide_eq_true (by omega), decide_eq_true (by omega)]; rfl]
                obtain ⟨r, r1, W1, rfl, r2, r3⟩ := sym_ok H k P U1 V1 (U2 ++ (V2 ++ Z)) (by omega) (by omega) sU1 sV1 (by omega) (by simp only [List.length_append]; omega)
                rw [show ((P.length : Nat) : Int) = (a : Int) by omega, show ((P.length + U1.length : Nat) : Int) = (q : Int) by omega, show ((P.length + U1.length + V1.length : Nat) : Int) = (mid : Int) by omega] at r1
                simp only [cond_true, r1, bi_some]
                rw [gd_len (by have := r3.length_eq; simp only [List.length_append] at this ⊢; omega)]
                exact ⟨_, rfl, W1, rfl, r2, r3⟩
              · rw [show (decide ((a : Int) < (q : Int)) && decide ((q : Int) < (mid : Int))) = false by
                  by_cases hq1 : a < q
                  · rw [decide_eq_false (show ¬ (q : Int) < (mid : Int) by omega), Bool.and_false]
                  · rw [decide_eq_false (show ¬ (a : Int) < (q : Int) by omega), Bool.false_and]]
                refine ⟨_, rfl, U1 ++ V1, by simp, ?_, .refl _⟩
                by_cases hq1 : a < q
                · rw [List.eq_nil_of_length_eq_zero (show V1.length = 0 by omega), List.append_nil]; exact sU1
                · rw [List.eq_nil_of_length_eq_zero (show U1.length = 0 by omega), List.nil_append]; exact sV1
            · rintro _ ⟨W1, rfl, w1, w2⟩
              have wl : W1.length = mid - a := by have := w2.length_eq; simp only [List.length_append] at this; omega
              have key : ∃ r, (bif (decide ((mid : Int) < (en : Int)) && decide ((en : Int) < (b : Int))) then (bi (gSym cmp k (P ++ (W1 ++ (U2 ++ (V2 ++ Z)))) (mid : Int) (en : Int) (b : Int)) fun y146 => some y146) else (some (P ++ (W1 ++ (U2 ++ (V2 ++ Z)))))) = some r ∧ ∃ W2, r = P ++ ((W1 ++ W2) ++ Z) ∧ Srt cmp W2 ∧ W2.Perm (U2 ++ V2) := by
                by_cases hr : mid < en ∧ en < b
                · rw [show (decide ((mid : Int) < (en : Int)) && decide ((en : Int) < (b : Int))) = true by rw [decide_eq_true (by omega), decide_eq_true (by omega)]; rfl]
                  obtain ⟨r, r1, W2, rfl, r2, r3⟩ := sym_ok H k (P ++ W1) U2 V2 Z (by omega) (by omega) sU2 sV2 (by omega) (by simp only [List.length_append]; omega)
                  rw [show (((P ++ W1).length : Nat) : Int) = (mid : Int) by rw [List.length_append]; omega, show (((P ++ W1).length + U2.length : Nat) : Int) = (en : Int) by rw [List.length_append]; omega, show (((P ++ W1).length + U2.length + V2.length : Nat) : Int) = (b : Int) by rw [List.length_append]; omega, List.append_assoc] at r1
                  simp only [cond_true, r1, bi_some]
                  exact ⟨_, rfl, W2, by simp, r2, r3⟩
                · rw [show (decide ((mid : Int) < (en : Int)) && decide ((en : Int) < (b : Int))) = false by
                    by_cases hq1 : mid < en
                    · rw [decide_eq_false (show ¬ (en : Int) < (b : Int) by omega), Bool.and_false]
                    · rw [decide_eq_false (show ¬ (mid : Int) < (en : Int) by omega), Bool.false_and]]
                  refine ⟨_, rfl, U2 ++ V2, by simp, ?_, .refl _⟩
                  by_cases hq1 : mid < en
                  · rw [List.eq_nil_of_length_eq_zero (show V2.length = 0 by omega), List.append_nil]; exact sU2
                  · rw [List.eq_nil_of_length_eq_zero (show U2.length = 0 by omega), List.nil_append]; exact sV2
              obtain ⟨r, k1, W2, rfl, k2, k3⟩ := key
              refine ⟨_, k1, W1 ++ W2, rfl, ?_, ?_⟩
              · unfold Srt
                rw [List.pairwise_append]
                refine ⟨w1, k2, fun x hx y hy => ?_⟩
                rcases List.mem_append.1 (w2.mem_iff.1 hx) with hx | hx
                · rcases List.mem_append.1 (k3.mem_iff.1 hy) with hy | hy
                  · exact cU x hx y hy
                  · exact cX x hx y hy
                · rcases List.mem_append.1 (k3.mem_iff.1 hy) with hy | hy
                  · exact cY x hx y hy
                  · exact cV x hx y hy
              · refine (w2.append k3).trans ?_
                rw [hUU, hVV]
                have h : (V1 ++ (U2 ++ V2)).Perm (U2 ++ (V1 ++ V2)) := by
                  rw [← List.append_assoc, ← List.append_assoc]
                  exact List.perm_append_comm.append_right V2
                simpa using h.append_left U1
end
end Go.Gk
