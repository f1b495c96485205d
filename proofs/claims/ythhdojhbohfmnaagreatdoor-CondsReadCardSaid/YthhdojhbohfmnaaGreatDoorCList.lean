/-
  The plain laws of conditions: parts, and what stands between signs.
-/
import Derived.Test.YthhdojhbohfmnaaGreatDoorCPars
set_option linter.unusedVariables false
set_option linter.unusedSimpArgs false
set_option linter.unusedSectionVars false
set_option maxRecDepth 100000
namespace Go.Gk
theorem pres_up {s : Str} {a a1 : Nat} (h : a ≤ a1) {x : T_api_Cond × T_posture_parser} {y : T_api_Cond × T_laneref1_condReader} (hr : PRes s a1 x y) : PRes s a x y := by
  obtain ⟨C1, C2, a', g1, g2, g3, g4, g5, g6, g7⟩ := hr
  exact ⟨C1, C2, a', g1, g2, by omega, g4, by omega, by omega, g7.imp (fun ⟨q1, q2, q3, q4, q5⟩ => ⟨q1, q2, by omega, by omega, q5⟩) id⟩
theorem not_t (c : CC) : (⟨2, [], [], (⟨0, 0, [], (0, 0, 0, 0)⟩ : T_api_Attr), (pk e_api_Cond [c.t])⟩ : T_api_Cond) = (CC.mk 2 [] [] zA [c]).t := by simp only [CC.t, CC.ts]; exact (by rfl)
theorem part_two {s : Str} (hs : s.length ≤ 5000) {A : Nat} {rcP : T_posture_parser → Option (T_api_Cond × T_posture_parser)} {rcR : T_laneref1_condReader → Option (T_api_Cond × T_laneref1_condReader)}
    (ih : ∀ a p r, A < a → Alive s a p r → Two (rcP p) (rcR r) (PRes s a)) : ∀ (K a : Nat) (p : T_posture_parser) (r : T_laneref1_condReader), A ≤ a → s.length - a + s.length + 310 < K → Alive s a p r → Two (m_posture_parser_part rcP K p) (m_laneref1_condReader_part rcR K r) (PRes s a)
  | 0, a, p, r, _, h, _ => absurd h (Nat.not_lt_zero _)
  | K + 1, a, p, r, hA, hK, h => by
    simp only [m_posture_parser_part, m_laneref1_condReader_part]
    refine two_bif (h.sign (g := [33]) (by decide)).symm ?_ ?_
    · intro h33
      refine two_bi (take_sign hs (by omega) h (by decide) h33) fun p1 r1 ⟨a1, h1, l1, A1⟩ => ?_
      refine two_bi (part_two hs ih K a1 p1 r1 (by omega) (by omega) A1) fun x y hr => ?_
      obtain ⟨C1, C2, a', g1, g2, g3, g4, g5, g6, g7⟩ := hr
      rw [g1, g2, not_t, not_t]
      refine ⟨_, _, rfl, rfl, .mk 2 [] [] zA [C1], .mk 2 [] [] zA [C2], a', rfl, rfl, by omega, g4, by simp [CC.W, CC.kids], by simp [CC.W, CC.kids], ?_⟩
      refine g7.imp (fun ⟨q1, q2, q3, q4, q5⟩ => ⟨q1, by rw [q2], by omega, ?_, ?_⟩) id
      · simp only [CC.dp, CC.dps]
        omega
      · exact .mk (by simp) (by simp [zA]) (by simpa using q5)
    · intro _
      refine two_bif (h.sign (g := [40]) (by decide)).symm ?_ ?_
      · intro h40
        refine two_bi (take_sign hs (by omega) h (by decide) h40) fun p1 r1 ⟨a1, h1, l1, A1⟩ => ?_
        refine two_bi (ih a1 p1 r1 (by omega) A1) fun x y hr => ?_
        obtain ⟨C1, C2, a', g1, g2, g3, g4, g5, g6, g7⟩ := hr
        rcases g7 with ⟨q1, q2, q3, q4, q5⟩ | ⟨d1, d2, d3, d4, d5, d6⟩
        · have hb := q1.2.2.1
          have hf := q1.2.2.2.1
          rw [hb, hf, q1.sign (g := [41]) (by decide), decide_eq_false (show ¬ (-1 : Int) ≥ 0 by decide), Bool.false_or]
          simp only [cond_false]
          refine two_bif rfl ?_ ?_
          · intro _
            refine two_bi (fail_two q1) fun x' y' hr => ⟨_, _, rfl, rfl, pres_up (by omega) hr⟩
          · intro h41
            refine two_bi (take_sign hs (by omega) q1 (by decide) (Bool.not_eq_false' .. |>.mp h41)) fun p2 r2 ⟨a2, h2, l2, A2⟩ => ?_
            exact ⟨_, _, rfl, rfl, C1, C2, a2, g1, g2, by omega, l2, by omega, by omega, .inl ⟨A2, q2, by omega, by omega, q5⟩⟩
        · rw [d3, decide_eq_true (show (y.2.fault : Int) ≥ 0 by omega)]
          simp only [cond_true, Bool.true_or]
          refine ⟨_, ((⟨0, [], [], (⟨0, 0, [], (0, 0, 0, 0)⟩ : T_api_Attr), (KD.mk 0 [])⟩ : T_api_Cond), y.2), rfl, by unfold m_laneref1_condReader_wrong; rw [decide_eq_false (show ¬ (y.2.fault : Int) < 0 by omega)]; rfl, C1, zC, a', g1, zC_t.symm, by omega, g4, by omega, by simp [CC.W, zC, CC.kids], .inr ⟨d1, d2, d3, d4, d5, d6⟩⟩
      · intro _
        refine two_bif h.name.1.symm ?_ ?_
        · intro hn
          obtain ⟨x, y, e1, e2, hr⟩ := comp_two (k := K) hs (by omega) h hn
          exact ⟨_, y, by rw [e1]; rfl, e2, hr⟩
        · intro _
          exact two_bi (fail_two h) fun x y hr => ⟨_, _, rfl, rfl, hr⟩
/-! ### Lists -/
/-- The parts that a list holds, those of its own kind opened. -/
def flat (kind : Int) (L : List CC) : List CC := L.flatMap fun x => if (x.t.Kind : Int) == kind then x.kids else [x]
def WS : List CC → Nat
  | [] => 0
  | c :: r => c.W + WS r
theorem ws_app : ∀ a b : List CC, WS (a ++ b) = WS a + WS b
  | [], b => by simp [WS]
  | c :: r, b => by simp only [List.cons_append, WS, ws_app r b]; omega
theorem len_ws : ∀ L : List CC, L.length ≤ WS L
  | [] => by simp [WS]
  | c :: r => by have := len_ws r; simp only [List.length_cons, WS, CC.W]; omega
theorem flat_cons (kind : Int) (c : CC) (r : List CC) : flat kind (c :: r) = (if (c.t.Kind : Int) == kind then c.kids else [c]) ++ flat kind r := by simp [flat]
theorem flatJ_len (kind : Int) : ∀ L : List CC, (flat kind L).length ≤ WS L
  | [] => by simp [flat, WS]
  | c :: r => by
    have := flatJ_len kind r
    rw [flat_cons, List.length_append]
    simp only [WS, CC.W]
    split
    · omega
    · simp only [List.length_singleton]; omega
def joinC (kind : Int) (L : List CC) : CC := match L with
  | [c] => c
  | L => .mk kind [] [] zA (flat kind L)
theorem join_t (kind : Int) (L : List CC) : (⟨kind, [], [], (⟨0, 0, [], (0, 0, 0, 0)⟩ : T_api_Attr), (pk e_api_Cond ((flat kind L).map CC.t))⟩ : T_api_Cond) = (CC.mk kind [] [] zA (flat kind L)).t := by simp only [CC.t, ts_map]; exact (by rfl)
def stepJ (kind : Int) (x7 : T_api_Cond) (s6 : List T_api_Cond) : Option (List T_api_Cond) := bif (x7.Kind : Int) == kind then (bi (unK d_api_Cond 11 x7.Kids) fun l17 => bi (apd s6 l17) fun y19 => some y19) else (bi (apd s6 [x7]) fun y22 => some y22)
theorem stepJ_ok (kind : Int) (c : CC) (acc : List CC) (h : acc.length + c.W ≤ 4294967296) : stepJ kind c.t (acc.map CC.t) = some ((acc ++ (if (c.t.Kind : Int) == kind then c.kids else [c])).map CC.t) := by
  unfold stepJ
  unfold CC.W at h
  cases hk : (c.t.Kind : Int) == kind with
  | true =>
    rw [cond_true, unK_t, bi_some, apd_some (by simp only [List.length_map]; omega), bi_some, if_pos rfl, List.map_append]
  | false =>
    rw [cond_false, apd_some (by simp only [List.length_map, List.length_singleton]; omega), bi_some, if_neg (by simp), List.map_append]; rfl
theorem foldJ (kind : Int) : ∀ (L acc : List CC) (i : Nat), acc.length + WS L ≤ 4294967296 → rangeF (σ := List T_api_Cond) (fun i5 x7 s6 => stepJ kind x7 s6) i (L.map CC.t) (acc.map CC.t) = some ((acc ++ flat kind L).map CC.t)
  | [], acc, i, h => by simp [flat, rangeF]
  | c :: r, acc, i, h => by
    simp only [WS] at h
    have h2 : (if (c.t.Kind : Int) == kind then c.kids else [c]).length ≤ c.W := by
      unfold CC.W
      split
      · omega
      · simp only [List.length_singleton]; omega
    simp only [List.map_cons, rangeF, stepJ_ok kind c acc (by omega), bi_some]
    rw [foldJ kind r _ (i + 1) (by rw [List.length_append]; omega), flat_cons, List.append_assoc]
theorem joinP (kind : Int) (L : List CC) (h : WS L ≤ 4294967296) : m_posture_joined kind (L.map CC.t) = some (joinC kind L).t := by
  unfold m_posture_joined
  match L, h with
  | [], h => exact congrArg some (join_t kind [])
  | [c], h => rfl
  | c :: d :: r, h =>
    rw [show (((((c :: d :: r).map CC.t).length : Int) : Int) == 1) = false from beq_false_of_ne (by simp only [List.map_cons, List.length_cons]; omega), cond_false]
    have := foldJ kind (c :: d :: r) [] 0 (by simpa using h)
    unfold stepJ at this
    rw [show (([] : List CC).map CC.t) = ([] : List T_api_Cond) from rfl] at this
    rw [this, bi_some]
    exact congrArg some (join_t kind (c :: d :: r))
theorem joinR (kind : Int) (L : List CC) (h : WS L ≤ 4294967296) {β : Type} (rr : β) : (bif (((L.map CC.t).length : Int) : Int) == 1 then (bi (getZ (L.map CC.t) 0) fun x22 => some (x22, rr)) else (bi (gd (decide (((L.map CC.t).length : Int) ≤ 9223372036854775807)) (rangeG (σ := List T_api_Cond) (fun i26 s27 => bi (getZ (L.map CC.t) (i26 : Int)) fun x38 => bif (x38.Kind : Int) == kind then (bi (unK d_api_Cond 11 x38.Kids) fun l42 => bi (apd s27 l42) fun y44 => some y44) else (bi (apd s27 [x38]) fun y47 => some y47)) ((L.map CC.t).length : Int) ([] : List T_api_Cond))) fun q29 => some ((⟨kind, [], [], (⟨0, 0, [], (0, 0, 0, 0)⟩ : T_api_Attr), (pk e_api_Cond q29)⟩ : T_api_Cond), rr))) = some ((joinC kind L).t, rr) := by
  have hlen := len_ws L
  have key : rangeG (σ := List T_api_Cond) (fun i26 s27 => bi (getZ (L.map CC.t) (i26 : Int)) fun x38 => stepJ kind x38 s27) ((L.map CC.t).length : Int) ([] : List T_api_Cond) = some ((flat kind L).map CC.t) := by
    obtain ⟨q, h1, h2⟩ := rangeG_at (f := fun i26 s27 => bi (getZ (L.map CC.t) (i26 : Int)) fun x38 => stepJ kind x38 s27) (n := ((L.map CC.t).length : Int)) (s := ([] : List T_api_Cond)) (fun i s => s = (flat kind (L.take i)).map CC.t) (by simp [flat]) (by
      intro i s hi hs
      rw [show ((((L.map CC.t).length : Nat) : Int)).toNat = L.length from by simp] at hi
      have hx : (L.map CC.t)[i]? = some L[i].t := by rw [List.getElem?_map, List.getElem?_eq_getElem hi]; rfl
      have ht : L.take (i + 1) = L.take i ++ [L[i]] := by rw [List.take_add_one, List.getElem?_eq_getElem hi]; rfl
      have hw : WS L = WS (L.take (i + 1)) + WS (L.drop (i + 1)) := by rw [← ws_app, List.take_append_drop]
      rw [ht, ws_app] at hw
      have hf := flatJ_len kind (L.take i)
      simp only [WS] at hw
      refine ⟨_, ?_, rfl⟩
      show bi (getZ (L.map CC.t) (i : Int)) (fun x38 => stepJ kind x38 s) = _
      rw [getZ_nn hx, bi_some, hs, stepJ_ok kind _ _ (by omega), ht]
      simp only [flat, List.flatMap_append, List.flatMap_cons, List.flatMap_nil, List.append_nil])
    rw [h1, h2]
    simp
  unfold stepJ at key
  match L, h, hlen, key with
  | [], h, hlen, key => rw [key]; exact congrArg some (Prod.ext (join_t kind []) rfl)
  | [c], h, hlen, key => rfl
  | c :: d :: r, h, hlen, key =>
    rw [show (((((c :: d :: r).map CC.t).length : Int) : Int) == 1) = false from beq_false_of_ne (by simp only [List.map_cons, List.length_cons]; omega), cond_false, key, decide_eq_true (show (((c :: d :: r).map CC.t).length : Int) ≤ 9223372036854775807 by rw [List.length_map]; omega)]
    exact congrArg some (Prod.ext (join_t kind (c :: d :: r)) rfl)
def loopPf (f : T_posture_parser → Option (T_api_Cond × T_posture_parser)) (sign : Str) (k : Nat) (s4 : T_posture_parser × List T_api_Cond) : Option (LS (T_posture_parser × List T_api_Cond) (T_posture_parser × List T_api_Cond)) := bif ((!s4.1.bad) && ((s4.1.tok.kind : Str) == sign)) then (bi (m_posture_parser_next k s4.1) fun y14 => bi (f y14) fun y16 => bi (apd s4.2 [y16.1]) fun y18 => some (.go (y16.2, y18))) else (some (.out (s4.1, s4.2)))
def loopRf (g : T_laneref1_condReader → Option (T_api_Cond × T_laneref1_condReader)) (sign : Str) (k : Nat) (s4 : T_laneref1_condReader × List T_api_Cond) : Option (LS (T_laneref1_condReader × List T_api_Cond) (T_laneref1_condReader × List T_api_Cond)) := bif ((decide ((s4.1.fault : Int) < 0)) && ((s4.1.v_next.kind : Str) == sign)) then (bi (m_laneref1_condReader_scan k s4.1) fun y14 => bi (g y14) fun y16 => bi (apd s4.2 [y16.1]) fun y18 => some (.go (y16.2, y18))) else (some (.out (s4.1, s4.2)))
def listP (f : T_posture_parser → Option (T_api_Cond × T_posture_parser)) (sign : Str) (kind : Int) (k : Nat) (p : T_posture_parser) : Option (T_api_Cond × T_posture_parser) := bi (f p) fun y1 => bi (loopM (loopPf f sign k) k (y1.2, [y1.1])) fun q6 => bi (m_posture_joined kind q6.2) fun y21 => some (y21, q6.1)
def joinRf (kind : Int) (q6 : T_laneref1_condReader × List T_api_Cond) : Option (T_api_Cond × T_laneref1_condReader) := bif ((q6.2.length : Int) : Int) == 1 then (bi (getZ q6.2 0) fun x22 => some (x22, q6.1)) else (bi (gd (decide ((q6.2.length : Int) ≤ 9223372036854775807)) (rangeG (σ := List T_api_Cond) (fun i26 s27 => bi (getZ q6.2 (i26 : Int)) fun x38 => bif (x38.Kind : Int) == kind then (bi (unK d_api_Cond 11 x38.Kids) fun l42 => bi (apd s27 l42) fun y44 => some y44) else (bi (apd s27 [x38]) fun y47 => some y47)) (q6.2.length : Int) ([] : List T_api_Cond))) fun q29 => some ((⟨kind, [], [], (⟨0, 0, [], (0, 0, 0, 0)⟩ : T_api_Attr), (pk e_api_Cond q29)⟩ : T_api_Cond), q6.1))
def listR (g : T_laneref1_condReader → Option (T_api_Cond × T_laneref1_condReader)) (sign : Str) (kind : Int) (k : Nat) (r : T_laneref1_condReader) : Option (T_api_Cond × T_laneref1_condReader) := bi (g r) fun y1 => bi (loopM (loopRf g sign k) k (y1.2, [y1.1])) (joinRf kind)
theorem and_def (rc : T_posture_parser → Option (T_api_Cond × T_posture_parser)) (k : Nat) : m_posture_parser_and rc k = listP (m_posture_parser_part rc k) [38, 38] 3 k := rfl
theorem cond_def (k : Nat) : m_posture_parser_cond (k + 1) = listP (m_posture_parser_and (m_posture_parser_cond k) k) [124, 124] 4 k := rfl
theorem bi_eta {α β : Type} (m : Option (α × β)) : (bi m fun y => some (y.1, y.2)) = m := by cases m <;> rfl
theorem andR_def (rc : T_laneref1_condReader → Option (T_api_Cond × T_laneref1_condReader)) (k : Nat) : m_laneref1_condReader_cond_1 rc k = listR (m_laneref1_condReader_part rc k) [38, 38] 3 k := by
  funext r
  unfold m_laneref1_condReader_cond_1
  exact bi_eta _
theorem condR_def (k : Nat) : m_laneref1_condReader_cond (k + 1) = listR (m_laneref1_condReader_cond_1 (m_laneref1_condReader_cond k) k) [124, 124] 4 k := by
  funext r
  simp only [m_laneref1_condReader_cond]
  exact bi_eta _
/-- Where the two loops stand. -/
def LInv (s : Str) (a : Nat) (x : T_posture_parser × List T_api_Cond) (y : T_laneref1_condReader × List T_api_Cond) : Prop :=
  ∃ (L1 L2 : List CC) (a' : Nat), x.2 = L1.map CC.t ∧ y.2 = L2.map CC.t ∧ a ≤ a' ∧ a' ≤ s.length ∧ 1 ≤ L1.length ∧ L1.length = L2.length ∧ WS L1 ≤ a' - a + 1 ∧ WS L2 ≤ a' - a + 1 ∧
    ((Alive s a' x.1 y.1 ∧ L1 = L2 ∧ a < a' ∧ (∀ c ∈ L1, c.dp + (if L1.length = 1 then 0 else 1) ≤ a' - a) ∧ ∀ c ∈ L1, c.Gd) ∨ Dead s a' x.1 y.1)
theorem linv_loop {s : Str} (hs : s.length ≤ 5000) {A : Nat} {f : T_posture_parser → Option (T_api_Cond × T_posture_parser)} {g : T_laneref1_condReader → Option (T_api_Cond × T_laneref1_condReader)}
    (hfg : ∀ a p r, A ≤ a → Alive s a p r → Two (f p) (g r) (PRes s a)) {sign : Str} (hsg : sign ∈ SG) {a k : Nat} (hA : A ≤ a) (hk : s.length + 310 < k) :
    ∀ (n : Nat) (x : T_posture_parser × List T_api_Cond) (y : T_laneref1_condReader × List T_api_Cond), LInv s a x y → (∀ a', Alive s a' x.1 y.1 → s.length - a' + 2 < n) → 2 < n →
      Two (loopM (loopPf f sign k) n x) (loopM (loopRf g sign k) n y) (LInv s a)
  | 0, x, y, _, _, h => absurd h (Nat.not_lt_zero _)
  | n + 1, x, y, hi, hn, hn2 => by
    have hi' := hi
    obtain ⟨L1, L2, a', e1, e2, g3, g4, g5, g6, g7, g8, h⟩ := hi'
    rcases h with ⟨q1, q2, q3, q4, q5⟩ | hd
    · have hb := q1.2.2.1
      have hf := q1.2.2.2.1
      have hsn := q1.sign hsg
      subst q2
      cases hT : ((x.1.tok.kind : Str) == sign) with
      | false =>
        rw [hT] at hsn
        exact ⟨x, y, loopM_out _ (by unfold loopPf; rw [hb, hT]; rfl), loopM_out _ (by unfold loopRf; rw [hf, hsn]; rfl), hi⟩
      | true =>
        rw [hT] at hsn
        obtain ⟨p1, r1, t1, t2, a1, h1, l1, A1⟩ := take_sign (k := k) hs (by omega) q1 hsg hT
        obtain ⟨x2, y2, t3, t4, C1, C2, a2, c1, c2, c3, c4, c5, c6, c7⟩ := hfg a1 p1 r1 (by omega) A1
        have hlw := len_ws L1
        have hlen2 : ∀ c : CC, (L1 ++ [c]).length = L1.length + 1 := fun c => by simp
        have hI : LInv s a (x2.2, (L1 ++ [C1]).map CC.t) (y2.2, (L1 ++ [C2]).map CC.t) := by
          refine ⟨L1 ++ [C1], L1 ++ [C2], a2, rfl, rfl, by omega, c4, by rw [hlen2]; omega, by rw [hlen2, hlen2], by rw [ws_app]; simp only [WS]; omega, by rw [ws_app]; simp only [WS]; omega, ?_⟩
          refine c7.imp (fun ⟨q1', q2', q3', q4', q5'⟩ => ⟨q1', by rw [q2'], by omega, ?_, ?_⟩) id
          · intro c hc
            rw [hlen2, if_neg (by omega)]
            rcases List.mem_append.1 hc with hc | hc
            · have := q4 c hc
              split at this <;> omega
            · rw [List.mem_singleton.1 hc]; omega
          · intro c hc
            rcases List.mem_append.1 hc with hc | hc
            · exact q5 c hc
            · rw [List.mem_singleton.1 hc]; exact q5'
        have hq := hn a' q1
        have s1 : loopPf f sign k x = some (.go (x2.2, (L1 ++ [C1]).map CC.t)) := by
          unfold loopPf
          rw [hb, hT, e1]
          show bi (m_posture_parser_next k x.1) _ = _
          rw [t1, bi_some, t3, bi_some, apd_some (by simp only [List.length_map, List.length_singleton]; omega), c1]
          simp
        have s2 : loopRf g sign k y = some (.go (y2.2, (L1 ++ [C2]).map CC.t)) := by
          unfold loopRf
          rw [hf, hsn, e2]
          show bi (m_laneref1_condReader_scan k y.1) _ = _
          rw [t2, bi_some, t4, bi_some, apd_some (by simp only [List.length_map, List.length_singleton]; omega), c2]
          simp
        rw [loopM_go _ s1, loopM_go _ s2]
        refine linv_loop hs hfg hsg hA hk n _ _ hI (fun a3 h3 => ?_) (by omega)
        rcases c7 with ⟨w, _⟩ | w
        · have e3 := w.at_.1
          have e4 := h3.at_.1
          simp only at e4
          omega
        · have := w.2.2.1
          have := h3.2.2.1
          simp only at this
          simp_all
    · obtain ⟨d1, d2, d3, d4, d5, d6⟩ := hd
      exact ⟨x, y, loopM_out _ (by unfold loopPf; rw [d3]; rfl), loopM_out _ (by unfold loopRf; rw [decide_eq_false (show ¬ (y.1.fault : Int) < 0 by omega)]; rfl), hi⟩
theorem join_two {s : Str} (hs : s.length ≤ 5000) (kind : Int) {a : Nat} {x : T_posture_parser × List T_api_Cond} {y : T_laneref1_condReader × List T_api_Cond} (hi : LInv s a x y) :
    Two (bi (m_posture_joined kind x.2) fun y21 => some (y21, x.1)) (joinRf kind y) (PRes s a) := by
  obtain ⟨L1, L2, a', e1, e2, g3, g4, g5, g6, g7, g8, h⟩ := hi
  obtain ⟨y1, y2⟩ := y
  simp only at e2
  subst e2
  unfold joinRf
  rw [e1, joinP kind L1 (by omega), joinR kind L2 (by omega), bi_some]
  have hW : ∀ L : List CC, WS L ≤ a' - a + 1 → 1 ≤ L.length → (joinC kind L).W ≤ a' - a + 1 := fun L hl h1 => by
    match L, hl, h1 with
    | [c], hl, h1 => simpa [WS, joinC] using hl
    | c :: d :: r, hl, h1 =>
      have := flatJ_len kind (c :: d :: r)
      show max 1 (flat kind (c :: d :: r)).length ≤ _
      omega
  refine ⟨_, _, rfl, rfl, joinC kind L1, joinC kind L2, a', rfl, rfl, g3, g4, hW L1 g7 g5, hW L2 g8 (by omega), ?_⟩
  refine h.imp (fun ⟨q1, q2, q3, q4, q5⟩ => ⟨q1, by rw [q2], q3, ?_, ?_⟩) id
  · match L1, q4, g5 with
    | [c], q4, g5 =>
      show c.dp ≤ _
      simpa using q4 c List.mem_cons_self
    | c :: d :: r, q4, g5 =>
      show CC.dps (flat kind (c :: d :: r)) + 1 ≤ _
      have : CC.dps (flat kind (c :: d :: r)) ≤ a' - a - 1 := dps_bd _ _ fun z hz => by
        obtain ⟨w, hw, hz⟩ := List.mem_flatMap.1 hz
        have hq := q4 w hw
        rw [if_neg (by simp)] at hq
        split at hz
        · have := dp_kid hz
          omega
        · rw [List.mem_singleton.1 hz]; omega
      omega
  · match L1, q5, g5 with
    | [c], q5, g5 => exact q5 c List.mem_cons_self
    | c :: d :: r, q5, g5 =>
      refine .mk (by simp) (by simp [zA]) fun z hz => ?_
      obtain ⟨w, hw, hz⟩ := List.mem_flatMap.1 hz
      have hq := q5 w hw
      split at hz
      · cases hq with
        | mk _ _ h3 => exact h3 z hz
      · rw [List.mem_singleton.1 hz]; exact hq
theorem list_two {s : Str} (hs : s.length ≤ 5000) {A : Nat} {f : T_posture_parser → Option (T_api_Cond × T_posture_parser)} {g : T_laneref1_condReader → Option (T_api_Cond × T_laneref1_condReader)}
    (hfg : ∀ a p r, A ≤ a → Alive s a p r → Two (f p) (g r) (PRes s a)) {sign : Str} (hsg : sign ∈ SG) (kind : Int) {a k : Nat} (hA : A ≤ a) (hk : s.length + 310 < k) {p : T_posture_parser} {r : T_laneref1_condReader} (h : Alive s a p r) :
    Two (listP f sign kind k p) (listR g sign kind k r) (PRes s a) := by
  unfold listP listR
  refine two_bi (hfg a p r hA h) fun x y hr => ?_
  obtain ⟨C1, C2, a', g1, g2, g3, g4, g5, g6, g7⟩ := hr
  refine two_bi (P := LInv s a) (linv_loop hs hfg hsg hA hk k _ _ ⟨[C1], [C2], a', by simp [g1], by simp [g2], g3, g4, by simp, by simp, by simpa [WS] using g5, by simpa [WS] using g6, ?_⟩ (fun a3 h3 => ?_) (by omega)) fun x' y' hi => join_two hs kind hi
  · refine g7.imp (fun ⟨q1, q2, q3, q4, q5⟩ => ⟨q1, by rw [q2], q3, ?_, ?_⟩) id
    · intro c hc
      rw [List.mem_singleton.1 hc]
      simpa using q4
    · intro c hc
      rw [List.mem_singleton.1 hc]
      exact q5
  · omega
/-- The two read the same. -/
theorem cond_two {s : Str} (hs : s.length ≤ 5000) : ∀ (K a : Nat) (p : T_posture_parser) (r : T_laneref1_condReader), s.length - a + s.length + s.length + 330 < K → Alive s a p r → Two (m_posture_parser_cond K p) (m_laneref1_condReader_cond K r) (PRes s a)
  | 0, a, p, r, h, _ => absurd h (Nat.not_lt_zero _)
  | K + 1, a, p, r, hK, h => by
    have hpart := part_two hs (A := a) (rcP := m_posture_parser_cond K) (rcR := m_laneref1_condReader_cond K) (fun a1 p1 r1 h1 A1 => by
      have hle := A1.2.2.2.2.1
      exact cond_two hs K a1 p1 r1 (by omega) A1) K
    rw [cond_def, condR_def]
    refine list_two hs (A := a) (fun a1 p1 r1 h1 A1 => ?_) (by decide) 4 (Nat.le_refl _) (by omega) h
    rw [and_def, andR_def]
    exact list_two hs (A := a) (fun a2 p2 r2 h2 A2 => hpart a2 p2 r2 h2 (by omega) A2) (by decide) 3 h1 (by omega) A1
end Go.Gk
