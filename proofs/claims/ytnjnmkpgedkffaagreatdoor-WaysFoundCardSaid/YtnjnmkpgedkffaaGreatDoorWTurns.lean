/-
  The plain laws of routers: whose turn it is, told by the program and by the reference.
-/
import Derived.Test.YtnjnmkpgedkffaaGreatDoorWStep
set_option linter.unusedVariables false
set_option linter.unusedSimpArgs false
set_option linter.unusedSectionVars false
set_option maxRecDepth 100000
namespace Go.Gk
theorem pStep_go {M ρ : Type} (P : List T_api_Turn) (now c : Str) (t : Int) (m : M) (j : Int) :
    (bif (c : Str) == now then (some (LS.go (σ := M × (List T_api_Turn) × Str × Int) (ρ := ρ) (m, P, now, j))) else (bi (bif !((now : Str) == []) then (bi (getZ P (wi ((P.length : Int) - 1))) fun x58 => some (P.set ((wi ((P.length : Int) - 1)).toNat) (⟨x58.Who, x58.From, t⟩ : T_api_Turn))) else (some P)) fun q55 => bif !((c : Str) == []) then (bi (apd q55 [(⟨c, t, 345686400⟩ : T_api_Turn)]) fun y63 => some (.go (m, y63, c, j))) else (some (.go (m, q55, c, j))))) = bi (pStep P now c t) fun P' => some (.go (m, P', c, j)) := by
  unfold pStep
  by_cases h : c = now
  · subst h; simp
  · rw [beq_eq_false_iff_ne.2 h]
    simp only [cond_false]
    generalize (bif !((now : Str) == []) then (bi (getZ P (wi ((P.length : Int) - 1))) fun x58 => some (P.set ((wi ((P.length : Int) - 1)).toNat) (⟨x58.Who, x58.From, t⟩ : T_api_Turn))) else (some P)) = o
    cases o with
    | none => rfl
    | some q =>
      simp only [bi_some]
      cases ((c : Str) == []) with
      | true => rfl
      | false =>
        simp only [Bool.not_false, cond_true]
        cases apd q [(⟨c, t, 345686400⟩ : T_api_Turn)] <;> rfl
section
variable {l : List T_api_Health} (hv : ValH l) (hl : l.length ≤ 40) {T : List Int} (hm : Mom l T) {r S : List Rt} (hS : S.length ≤ 19) (hs : S.Pairwise (fun x y => y.Weight ≤ x.Weight)) (hb : ∀ u s, best u S s = best u r s) (h0 : ∀ x ∈ S, 0 ≤ x.Weight)
include hv hl hm hS hs hb h0
theorem turns_go {f : (List (Str × Bool)) × (List T_api_Turn) × Str × Int → Option (LS ((List (Str × Bool)) × (List T_api_Turn) × Str × Int) ((List (Str × Bool)) × (List T_api_Turn)))}
    (hf : ∀ s2, f s2 = bif decide ((s2.2.2.2 : Int) < (l.length : Int)) then (bi (getZ l s2.2.2.2) fun x12 => bi (loopM (σ := (List (Str × Bool)) × Int) (ρ := (List (Str × Bool)) × Int) (fun s15 => bi (bif decide ((s15.2 : Int) < (l.length : Int)) then (bi (getZ l s15.2) fun x27 => some ((x27.At : Int) == x12.At)) else (some false)) fun q24 => bif q24 then (bi (getZ l s15.2) fun x31 => bi (getZ l s15.2) fun x33 => some (.go ((mSet s15.1 x31.Node x33.Up), wi (s15.2 + 1)))) else (some (.out (s15.1, s15.2)))) 400 (s2.1, s2.2.2.2)) fun q17 => bi (bif !((mGet q17.1 s2.2.2.1).getD false) then (bi (rangeF (σ := Str × Int) (fun i39 (x41 : Rt) s40 => bif (((mGet q17.1 x41.Node).getD false) && (decide ((x41.Weight : Int) > s40.2))) then (some (x41.Node, x41.Weight)) else (some (s40.1, s40.2))) 0 r ([], -1)) fun q42 => some q42.1) else (some s2.2.2.1)) fun q36 => bif (q36 : Str) == s2.2.2.1 then (some (.go (q17.1, s2.2.1, s2.2.2.1, q17.2))) else (bi (bif !((s2.2.2.1 : Str) == []) then (bi (getZ s2.2.1 (wi ((s2.2.1.length : Int) - 1))) fun x58 => some (s2.2.1.set ((wi ((s2.2.1.length : Int) - 1)).toNat) (⟨x58.Who, x58.From, x12.At⟩ : T_api_Turn))) else (some s2.2.1)) fun q55 => bif !((q36 : Str) == []) then (bi (apd q55 [(⟨q36, x12.At, 345686400⟩ : T_api_Turn)]) fun y63 => some (.go (q17.1, y63, q36, q17.2))) else (some (.go (q17.1, q55, q36, q17.2))))) else (some (.out (s2.1, s2.2.1))))
    {g : Nat → (List T_api_Turn) × Str → Option ((List T_api_Turn) × Str)}
    (hg : ∀ i9 s10, g i9 s10 = bi (bif (s10.2 : Str) == [] then (some true) else (bi (getZ T (i9 : Int)) fun x25 => bi (m_laneref1_UpAt l s10.2 x25) fun y27 => some (!y27))) fun q21 => bi (bif q21 then (bi (gd (decide ((S.length : Int) ≤ 9223372036854775807)) (rangeI (σ := Unit) (ρ := Str) (fun i32 s33 => bi (getZ S (i32 : Int)) fun x46 => bi (getZ T (i9 : Int)) fun x49 => bi (m_laneref1_UpAt l x46.Node x49) fun y51 => bif y51 then (some (.out x46.Node)) else (some (.go ()))) (S.length : Int) ())) fun q => bi (lsN q fun s33 => []) fun q40 => some q40) else (some s10.2)) fun q29 => bi (getZ T (i9 : Int)) fun x56 => bi (getZ T (wi ((i9 : Int) + 1))) fun x58 => bi (m_laneref1_addTurn s10.1 q29 x56 x58) fun y60 => some (y60, q29)) :
    ∀ (d i idx k : Nat) (m : List (Str × Bool)) (P R : List T_api_Turn) (now : Str) (t : Int), i + d + 1 = T.length → T[i]? = some t → (∀ q x, q < idx → l[q]? = some x → x.At < t) → (∀ q x, idx ≤ q → l[q]? = some x → t ≤ x.At) → idx ≤ l.length →
      (∀ n, (mGet m n).getD false = upF n (l.take idx) false) → (i = 0 → now = []) → RelT t i now P R → d < k →
      ∃ m' now' Q, loopM f k (m, P, now, (idx : Int)) = some (m', Q) ∧ rangeF (fun i (_ : Unit) s => g i s) i (List.replicate d ()) (R, now) = some (Q, now')
  | d, i, idx, 0, m, P, R, now, t, _, _, _, _, _, _, _, _, h => absurd h (Nat.not_lt_zero _)
  | 0, i, idx, k + 1, m, P, R, now, t, hi, ht, h1, h2, h3, h4, h5, h6, _ => by
    obtain ⟨hT2, hlast⟩ := hm.last hv
    have e : t = End := by
      rw [show T.length - 1 = i by omega, ht] at hlast
      exact Option.some.inj hlast
    subst e
    have hidx : ¬ idx < l.length := fun h => by
      have hx : l[idx]? = some l[idx] := List.getElem?_eq_getElem h
      have := h2 idx _ (Nat.le_refl _) hx
      have := (hv.1 _ (List.getElem_mem h)).2.1
      omega
    have := h6.done
    subst this
    refine ⟨m, now, P, ?_, rfl⟩
    unfold loopM
    rw [hf]
    simp only
    rw [decide_eq_false (show ¬ (idx : Int) < (l.length : Int) by omega)]
    rfl
  | d + 1, i, idx, k + 1, m, P, R, now, t, hi, ht, h1, h2, h3, h4, h5, h6, hk => by
    have hlen := hm.len
    have hil : i + 1 < T.length := by omega
    have ht' : T[i + 1]? = some T[i + 1] := List.getElem?_eq_getElem hil
    generalize T[i + 1] = t' at ht'
    have hlt : t < t' := hm.lt (Nat.lt_succ_self i) ht ht'
    have hw2 : wi ((i : Int) + 1) = ((i + 1 : Nat) : Int) := by rw [wi_id (by omega) (by omega)]; omega
    -- the reference's choice
    have hcl : ∀ c, c = nxt (fun n => upAt l n t) r now → ∀ P' R', pStep P now c t = some P' → m_laneref1_addTurn R c t t' = some R' → g i (R, now) = some (R', c) := by
      intro c hc P' R' _ hR
      rw [hg]
      have hq : (bif (now : Str) == [] then (some true) else (bi (getZ T (i : Int)) fun x25 => bi (m_laneref1_UpAt l now x25) fun y27 => some (!y27))) = some (decide (now = [] ∨ upAt l now t = false)) := by
        by_cases hn : now = []
        · subst hn; simp
        · rw [beq_eq_false_iff_ne.2 hn]
          simp only [cond_false, getZ_cast, ht, bi_some, upAt_ok]
          cases hu : upAt l now t <;> simp [hn]
      simp only
      rw [hq]
      simp only [bi_some]
      rw [choiceR l T S hS i ht]
      have hc2 := choice_two hv hs hb h0 t now
      rw [← hc] at hc2
      have hsel : (bif decide (now = [] ∨ upAt l now t = false) then (some (match S.find? fun x => upAt l x.Node t with | some x => x.Node | none => [])) else (some now)) = some c := by
        rw [hc2]
        by_cases h : now = [] ∨ upAt l now t = false
        · rw [decide_eq_true h, if_pos h]; rfl
        · rw [decide_eq_false h, if_neg h]; rfl
      refine (congrArg (fun o => bi o fun q29 => bi (getZ T (i : Int)) fun x56 => bi (getZ T (wi ((i : Int) + 1))) fun x58 => bi (m_laneref1_addTurn R q29 x56 x58) fun y60 => some (y60, q29)) hsel).trans ?_
      simp only [bi_some, getZ_cast, ht, hw2, ht', hR]
    obtain ⟨P', R', hP, hR, hrel⟩ := turn_step h6 (by omega) hlt (nxt (fun n => upAt l n t) r now)
    have hgi := hcl _ rfl P' R' hP hR
    have hrange : ∀ z, rangeF (fun i (_ : Unit) s => g i s) (i + 1) (List.replicate d ()) (R', nxt (fun n => upAt l n t) r now) = z → rangeF (fun i (_ : Unit) s => g i s) i (List.replicate (d + 1) ()) (R, now) = z := by
      intro z hz
      simp only [List.replicate_succ, rangeF, hgi, bi_some]
      exact hz
    by_cases hex : ∃ x, l[idx]? = some x ∧ x.At = t
    · obtain ⟨x, hx, hxt⟩ := hex
      have hxl := (List.getElem?_eq_some_iff.1 hx).1
      obtain ⟨m', j, e1, j1, j2, j3, j4, j5⟩ := mom_loop l hl x.At (fun _ => rfl) 400 idx m (by omega) h3
      have hle : ∀ q y, q < j → l[q]? = some y → y.At ≤ t := fun q y hq hy => by
        by_cases hqi : q < idx
        · exact Int.le_of_lt (h1 q y hqi hy)
        · have := j3 q y (by omega) hq hy; omega
      have hij : idx < j := by
        rcases Nat.lt_or_ge idx j with h | h
        · exact h
        · have : j = idx := by omega
          subst this
          exact absurd rfl (j4 x hx)
      have hgt : ∀ q y, j ≤ q → l[q]? = some y → t < y.At := fun q y hq hy => by
        have hjl : j < l.length := by have := (List.getElem?_eq_some_iff.1 hy).1; omega
        have hj : l[j]? = some l[j] := List.getElem?_eq_getElem hjl
        have a1 := j4 _ hj
        have a2 := h2 j _ (by omega) hj
        have a3 : l[j].At ≤ y.At := by
          by_cases e : j = q
          · subst e; rw [hj] at hy; cases hy; exact Int.le_refl _
          · exact hv.2 j q _ _ (by omega) hj hy
        omega
      have hup : (fun n => (mGet m' n).getD false) = fun n => upAt l n t := by
        funext n
        rw [j5 n, h4 n, upAt_take hle hgt n]
        unfold upF
        rw [← List.foldl_append]
        congr 1
        have : l.take j = (l.take j).take idx ++ (l.take j).drop idx := (List.take_append_drop _ _).symm
        rw [List.take_take, Nat.min_eq_left (by omega)] at this
        exact this.symm
      have hfx : f (m, P, now, (idx : Int)) = some (.go (m', P', nxt (fun n => upAt l n t) r now, (j : Int))) := by
        rw [hf]
        simp only
        rw [decide_eq_true (show (idx : Int) < (l.length : Int) by omega)]
        simp only [cond_true, getZ_cast, hx, bi_some]
        rw [e1]
        simp only [bi_some]
        rw [nxt_ok, hup]
        simp only [bi_some]
        rw [pStep_go, hxt, hP]
        rfl
      obtain ⟨m2, now2, Q, g1, g2⟩ := turns_go hf hg d (i + 1) j k m' P' R' (nxt (fun n => upAt l n t) r now) t' (by omega) ht'
        (fun q y hq hy => by have := hle q y hq hy; omega)
        (fun q y hq hy => by
          have a1 := hgt q y hq hy
          rcases hm.gap hv ht ht' (List.mem_of_getElem? hy) with h | h <;> omega) j2
        (fun n => by rw [congrFun hup n, upAt_take hle hgt n]) (fun h => by omega) hrel (by omega)
      refine ⟨m2, now2, Q, ?_, hrange _ g2⟩
      unfold loopM
      rw [hfx]
      exact g1
    · have hno : ∀ q y, idx ≤ q → l[q]? = some y → t < y.At := fun q y hq hy => by
        have hjl : idx < l.length := by have := (List.getElem?_eq_some_iff.1 hy).1; omega
        have hj : l[idx]? = some l[idx] := List.getElem?_eq_getElem hjl
        have a1 : l[idx].At ≠ t := fun e => hex ⟨_, hj, e⟩
        have a2 := h2 idx _ (Nat.le_refl _) hj
        have a3 : l[idx].At ≤ y.At := by
          by_cases e : idx = q
          · subst e; rw [hj] at hy; cases hy; exact Int.le_refl _
          · exact hv.2 idx q _ _ (by omega) hj hy
        omega
      have hi0 : i = 0 := by
        by_cases e : i = 0
        · exact e
        · exfalso
          have hTt := List.mem_of_getElem? ht
          rcases (hm.mem t).1 hTt with rfl | rfl | ⟨y, hy, hyt⟩
          · have := hm.lt (show 0 < i by omega) (hm.first hv) ht; omega
          · have := (hm.rng hv (List.mem_of_getElem? ht')).2; omega
          · obtain ⟨q, hq⟩ := List.getElem?_of_mem hy
            by_cases hqi : q < idx
            · have := h1 q y hqi hq; omega
            · have := hno q y (by omega) hq; omega
      have hidx : idx = 0 := by
        rcases Nat.eq_zero_or_pos idx with h | h
        · exact h
        · exfalso
          have hx : l[0]? = some l[0] := List.getElem?_eq_getElem (by omega)
          have a1 := h1 0 _ h hx
          have a2 := (hv.1 _ (List.getElem_mem (show 0 < l.length by omega))).1
          rw [hi0, hm.first hv] at ht
          have := Option.some.inj ht
          omega
      have hn0 := h5 hi0
      subst hn0
      have hup0 : ∀ n, upAt l n t = false := fun n => by
        rw [upAt_take (j := 0) (fun q y hq => absurd hq (Nat.not_lt_zero _)) (fun q y _ hy => hno q y (by omega) hy) n]
        rfl
      have hc0 : nxt (fun n => upAt l n t) r [] = [] := by
        have hnx := choice_two hv hs hb h0 t ([] : Str)
        rw [hnx, if_pos (.inl rfl), List.find?_eq_none.2 fun x _ => by rw [hup0]; simp]
      rw [hc0] at hP hR hrel hrange
      have hPP : P' = P := by
        unfold pStep at hP
        simp at hP
        exact hP.symm
      subst hPP
      obtain ⟨m2, now2, Q, g1, g2⟩ := turns_go hf hg d (i + 1) idx (k + 1) m P' R' [] t' (by omega) ht'
        (fun q y hq hy => by omega)
        (fun q y hq hy => by
          have a1 := hno q y hq hy
          rcases hm.gap hv ht ht' (List.mem_of_getElem? hy) with h | h <;> omega) h3 h4 (fun _ => rfl) hrel (by omega)
      exact ⟨m2, now2, Q, g1, hrange _ g2⟩
end
/-- Turns of the routers of a prefix: both tell the same. -/
theorem turns_two {all : List Rt} {l : List T_api_Health} (hr : ValR all) (hla : all.length ≤ 19) (hv : ValH l) (hl : l.length ≤ 40) (p : T_api_Prefix) :
    ∃ Q, m_route_turns 400 (all.filter fun x => decide (x.Prefix = p)) l = some Q ∧ m_laneref1_FirstTurns 400 all l p = some Q := by
  obtain ⟨T, hT, hm⟩ := told_ok l hl
  have hlr : (all.filter fun x => decide (x.Prefix = p)).length ≤ 19 := Nat.le_trans (List.length_filter_le _ _) hla
  obtain ⟨S, hS, s1, s2, s3⟩ := sort2_ok (all.filter fun x => decide (x.Prefix = p)) hlr
  have h0 : ∀ x ∈ S, 0 ≤ x.Weight := fun x hx => ((hr.1 x (List.mem_filter.1 (s3.mem hx)).1).2.2).1
  have hlen := hm.len
  obtain ⟨hT2, _⟩ := hm.last hv
  have hw1 : wi ((T.length : Int) - 1) = ((T.length - 1 : Nat) : Int) := by rw [wi_id (by omega) (by omega)]; omega
  unfold m_route_turns m_laneref1_FirstTurns
  rw [routersOf_ok all (by omega) p]
  simp only [bi_some, hS, hT]
  rw [decide_eq_true s2, gd_true, hw1, decide_eq_true (show ((T.length - 1 : Nat) : Int) ≤ 9223372036854775807 by omega), gd_true]
  unfold rangeG
  rw [Int.toNat_natCast]
  obtain ⟨m', now', Q, e1, e2⟩ := turns_go (r := all.filter fun x => decide (x.Prefix = p)) hv hl hm (by omega) s1 s3.bst h0 (fun _ => rfl) (fun _ _ => rfl) (T.length - 1) 0 0 400 [] [] [] [] 0 (by omega) (hm.first hv)
    (fun q x hq => absurd hq (Nat.not_lt_zero _)) (fun q x _ hx => (hv.1 x (List.mem_of_getElem? hx)).1) (Nat.zero_le _) (fun n => by rfl) (fun _ => rfl) ⟨⟨Nat.le_refl _, Nat.le_refl _⟩, fun _ => ⟨rfl, fun x hx => by cases hx⟩, fun h => absurd rfl h⟩ (by omega)
  refine ⟨Q, ?_, ?_⟩
  · exact (congrArg (fun o => bi o fun q4 => some q4.2) e1).trans rfl
  · exact (congrArg (fun o => bi o fun q12 => some q12.1) e2).trans rfl
end Go.Gk
