/-
  The plain laws of conditions: the conditions that are drawn, and the law itself.
-/
import Derived.Test.YthhdojhbohfmnaaGreatDoorCText
set_option linter.unusedVariables false
set_option linter.unusedSimpArgs false
set_option linter.unusedSectionVars false
set_option maxRecDepth 100000
namespace Go.Gk
mutual
def CC.tw : CC → Nat
  | .mk _ _ _ _ l => (if l.isEmpty then 64 else 0) + CC.tws l
def CC.tws : List CC → Nat
  | [] => 0
  | c :: r => c.tw + 10 + CC.tws r
end
theorem tws_app : ∀ a b : List CC, CC.tws (a ++ b) = CC.tws a + CC.tws b
  | [], b => by simp [CC.tws]
  | c :: r, b => by simp only [List.cons_append, CC.tws, tws_app r b]; omega
theorem dps_app : ∀ a b : List CC, CC.dps (a ++ b) = max (CC.dps a) (CC.dps b)
  | [], b => by simp [CC.dps]
  | c :: r, b => by simp only [List.cons_append, CC.dps, dps_app r b]; omega
/-- The conditions that are drawn. -/
inductive RC : CC → Prop
  | leaf {n o : Str} {v : T_api_Attr} (hn : n.length ≤ 10) (ho : o.length ≤ 10) (hv : RV v) : RC (.mk 1 n o v [])
  | node {k : Int} {l : List CC} (hk : k = 2 ∨ k = 3 ∨ k = 4) (hl : l ≠ []) (h : ∀ x ∈ l, RC x) : RC (.mk k [] [] zA l)
theorem lens_app (a b : List Str) : Lib.lens (a ++ b) = Lib.lens a + Lib.lens b := by simp [Lib.lens]
theorem lens_one (a : Str) : Lib.lens [a] = a.length := by simp [Lib.lens]
theorem lens_cons (a : Str) (b : List Str) : Lib.lens (a :: b) = a.length + Lib.lens b := by simp [Lib.lens]
theorem condText_ok : ∀ (n k : Nat) (c : CC), RC c → c.dp ≤ n → n + 20 < k → c.tw ≤ 100000 → Ok (m_laneref1_CondText k c.t) fun t => t.length ≤ c.tw
  | n, 0, c, _, _, h, _ => by omega
  | 0, k, c, _, h, _, _ => by cases c; simp [CC.dp] at h
  | n + 1, k + 1, c, hr, hd, hk, hw => by
    simp only [m_laneref1_CondText, unK_t, bi_some]
    cases hr with
    | @leaf nm o v hn ho hv =>
      refine ok_eq (r := ([] : List Str)) rfl ?_
      refine ok_bif (fun _ => ?_) (fun h => by cases h)
      show Ok (bi (catZ nm [32]) _) _
      rw [cat_ok (by simp; omega), bi_some]
      show Ok (bi (catZ _ o) _) _
      rw [cat_ok (by simp; omega), bi_some, cat_ok (by simp; omega), bi_some]
      refine ok_bi (attr_text k (by omega) hv) fun t ht => ?_
      rw [cat_ok (by simp; omega), bi_some]
      refine ok_some ?_
      simp [CC.tw, CC.tws]
      omega
    | @node kd l hkd hl hx =>
      simp only [CC.dp] at hd
      have hwl : (CC.mk kd [] [] zA l).tw = CC.tws l := by
        cases l with
        | nil => exact absurd rfl hl
        | cons c r => simp [CC.tw]
      rw [hwl] at hw ⊢
      refine ok_bi (P := fun s : List Str => s.length = l.length ∧ Lib.lens s + 8 * l.length ≤ CC.tws l) ?_ ?_
      · have h0 := ok_rangeF (f := fun (i3 : Nat) (x5 : T_api_Cond) (s4 : List Str) => bi (m_laneref1_CondText k x5) fun y14 => bi (bif ((((CC.mk kd [] [] zA l).t.Kind : Int) == 2) && ((x5.Kind : Int) != 2)) || (((CC.mk kd [] [] zA l).t.Kind : Int) == 3 && ((x5.Kind : Int) == 4)) then (bi (catZ [40] y14) fun y19 => bi (catZ y19 [41]) fun y21 => some y21) else (some y14)) fun q16 => bi (apd s4 [q16]) fun y24 => some y24) (l := (CC.mk kd [] [] zA l).kids.map CC.t) (s := ([] : List Str))
          (fun i s => s.length = i ∧ Lib.lens s + 8 * i ≤ CC.tws (l.take i)) (by simp [Lib.lens]) (by
            intro i x s hi ⟨e1, e2⟩
            obtain ⟨c, hc, rfl⟩ : ∃ c, l[i]? = some c ∧ c.t = x := by simpa [CC.kids] using hi
            have hlt := (List.getElem?_eq_some_iff.1 hc).1
            have hmem := List.mem_of_getElem? hc
            have ht : l.take (i + 1) = l.take i ++ [c] := by rw [List.take_add_one, hc]; rfl
            have hsum : CC.tws l = CC.tws (l.take (i + 1)) + CC.tws (l.drop (i + 1)) := by rw [← tws_app, List.take_append_drop]
            rw [ht, tws_app] at hsum
            rw [ht, tws_app]
            simp only [CC.tws] at hsum ⊢
            refine ok_bi (condText_ok n k c (hx c hmem) (by have := dps_le l c hmem; omega) (by omega) (by omega)) fun t htl => ?_
            refine ok_bi (P := fun q : Str => q.length ≤ t.length + 2) ?_ fun q hq => ?_
            · refine ok_bif (fun _ => ?_) (fun _ => ok_some (by omega))
              rw [cat_ok (by simp; omega), bi_some, cat_ok (by simp; omega), bi_some]
              exact ok_some (by simp)
            · rw [apd_some (by simp only [List.length_singleton]; omega), bi_some]
              refine ok_some ⟨by simp [e1], ?_⟩
              rw [lens_app, lens_one]
              omega)
        refine ok_mono h0 fun r hr => ?_
        simpa [CC.kids] using hr
      · intro s ⟨e1, e2⟩
        have hne : s ≠ [] := by
          intro h
          rw [h] at e1
          exact hl (List.length_eq_zero_iff.1 e1.symm)
        obtain ⟨y, s', rfl⟩ := List.exists_cons_of_ne_nil hne
        have hpos : 1 ≤ l.length := by rw [← e1]; simp
        have join_tot : ∀ sep : Str, sep.length = 4 → Ok (bi (m_strings_Join (y :: s') sep) fun y46 => some y46) fun t => t.length ≤ CC.tws l := fun sep hs => by
          have hj : (Lib.join (y :: s') sep).length ≤ CC.tws l := by
            rw [Lib.join_length, hs]
            simp only [List.length_cons] at e1
            omega
          refine ok_eq (r := Lib.join (y :: s') sep) ?_ (ok_some hj)
          unfold m_strings_Join
          rw [Nat.ble_eq_true_of_le (show (y :: s').length ≤ 4294967296 by omega), Nat.ble_eq_true_of_le (show (Lib.join (y :: s') sep).length ≤ 1099511627776 by omega)]
          rfl
        rcases hkd with rfl | rfl | rfl
        · refine ok_bif (fun h => by cases h) (fun _ => ok_bif (fun _ => ?_) (fun h => by cases h))
          rw [show getZ (y :: s') 0 = some y from rfl, bi_some]
          rw [lens_cons] at e2
          rw [cat_ok (by simp; omega), bi_some]
          refine ok_some ?_
          simp
          omega
        · exact ok_bif (fun h => by cases h) (fun _ => ok_bif (fun h => by cases h) (fun _ => ok_bif (fun _ => join_tot _ rfl) (fun h => by cases h)))
        · exact ok_bif (fun h => by cases h) (fun _ => ok_bif (fun h => by cases h) (fun _ => ok_bif (fun h => by cases h) (fun _ => join_tot _ rfl)))
theorem next_o {l : List Int} {a b : Int} {s : T_lanemake_Stream} (h : At l a b s) (n : Int) (hl : l.length ≤ 9223372036854775807) (h0 : 0 ≤ a) (h1 : b < 4611686018427387904) (hn : 1 ≤ n) (hn2 : n ≤ 4611686018427387904) :
    Ok (m_lanemake_Stream_Next s n) fun r => 0 ≤ r.1 ∧ r.1 < n ∧ At l (a + 1) (b + 1) r.2 := by
  obtain ⟨e1, e2, e3⟩ := h
  obtain ⟨c, c0, c1, hc⟩ := next_ok l s.v_at n hl (by omega) (by omega) hn hn2
  rw [← e1] at hc
  exact ⟨_, hc, c0, c1, e1, by simp only; omega, by simp only; omega⟩
/-- What is drawn, and where the stream then stands. -/
def RD (l : List Int) (b : Int) (m W : Nat) (r : T_api_Cond × T_lanemake_Stream) : Prop := ∃ c : CC, r.1 = c.t ∧ RC c ∧ c.dp ≤ m ∧ c.tw ≤ W ∧ At l 0 b r.2
theorem rd_leaf {l : List Int} {b b' : Int} (hb : b' ≤ b) {n o : Str} {v : T_api_Attr} (hn : n.length ≤ 10) (ho : o.length ≤ 10) (hv : RV v) {a : Int} (ha : 0 ≤ a) {s : T_lanemake_Stream} (hs : At l a b' s) (m : Nat) (hm : 1 ≤ m) {W : Nat} (hW : 64 ≤ W) :
    Ok (some ((⟨1, n, o, v, (pk e_api_Cond ([] : List T_api_Cond))⟩ : T_api_Cond), s)) (RD l b m W) :=
  ok_some ⟨.mk 1 n o v [], by simp only [CC.t, CC.ts], .leaf hn ho hv, by simp [CC.dp, CC.dps]; omega, by simp [CC.tw, CC.tws]; omega, hs.up ha hb⟩
def BW : Nat → Nat
  | 0 => 64
  | m + 1 => 3 * (BW m + 10)
def BD : Nat → Nat
  | 0 => 10
  | m + 1 => 20 + 3 * BD m
theorem bw_ge : ∀ m, 64 ≤ BW m
  | 0 => by simp [BW]
  | m + 1 => by have := bw_ge m; simp only [BW]; omega
theorem bd_ge : ∀ m, 10 ≤ BD m
  | 0 => by simp [BD]
  | m + 1 => by have := bd_ge m; simp only [BD]; omega
theorem ops_mem {o : Str} (h : o ∈ ([[61, 61], [33, 61], [60], [60, 61], [62], [62, 61]] : List Str)) : o.length ≤ 10 := by
  have : ∀ o ∈ ([[61, 61], [33, 61], [60], [60, 61], [62], [62, 61]] : List Str), o.length ≤ 10 := by decide
  exact this o h
theorem ops_def : m_laneref1_Ops = some [[61, 61], [33, 61], [60], [60, 61], [62], [62, 61]] := rfl
theorem right_ok {l : List Int} (hl : l.length ≤ 9223372036854775807) : ∀ (m : Nat) (k : Nat) (b : Int) (s : T_lanemake_Stream), m ≤ 5 → m < k → 0 ≤ b → b + BD m < 4000000000000000000 → At l 0 b s →
    Ok (m_lanemake_Stream_RightCond k s (m : Int)) (RD l (b + BD m) (m + 1) (BW m))
  | m, 0, b, s, _, h, _, _, _ => by omega
  | m, k + 1, b, s, hm, hk, hb0, hb, hs => by
    have hBW := bw_ge m
    have hBD := bd_ge m
    simp only [m_lanemake_Stream_RightCond]
    refine ok_bi (P := fun q : T_lanemake_Stream × Bool => (m = 0 → q.2 = true) ∧ At l 0 (b + 1) q.1) ?_ ?_
    · refine ok_bif (fun h => ok_some ⟨fun _ => rfl, hs.up (by omega) (by omega)⟩) (fun h => ?_)
      refine ok_bi (flip_o hs 3 hl (by omega) (by omega) (by decide) (by decide)) fun r hr => ok_some ⟨fun h0 => ?_, hr.up (by omega) (by omega)⟩
      subst h0
      cases h
    · intro q ⟨q1, q2⟩
      refine ok_bif (fun _ => ?_) (fun hq => ?_)
      · refine ok_bi (next_o q2 4 hl (by omega) (by omega) (by decide) (by decide)) fun y8 ⟨_, _, y8s⟩ => ?_
        refine ok_bif (fun _ => ?_) (fun _ => ok_bif (fun _ => ?_) (fun _ => ok_bif (fun _ => ?_) (fun _ => ?_)))
        · refine ok_bi (some_o y8s _ hl (by omega) (by omega) (by decide) (by decide)) fun y11 ⟨y11m, y11s⟩ => ?_
          refine ok_bi (next_o y11s 2 hl (by omega) (by omega) (by decide) (by decide)) fun y13 ⟨n0, n1, y13s⟩ => ?_
          refine rd_leaf (by omega) (by decide) ?_ (.bool _ ⟨n0, n1⟩) (by omega) y13s _ (by omega) hBW
          have : ∀ o ∈ ([[61, 61], [61, 61], [33, 61]] : List Str), o.length ≤ 10 := by decide
          exact this _ y11m
        · rw [ops_def, bi_some]
          refine ok_bi (some_o y8s _ hl (by omega) (by omega) (by decide) (by decide)) fun y11 ⟨y11m, y11s⟩ => ?_
          refine ok_bi (pick_o y11s _ hl (by omega) (by omega) (by decide) (by decide)) fun y13 ⟨n0, y13s⟩ => ?_
          exact rd_leaf (by omega) (by decide) (ops_mem y11m) (.ver _ n0) (by omega) y13s _ (by omega) hBW
        · refine ok_bi (some_o y8s _ hl (by omega) (by omega) (by decide) (by decide)) fun y9 ⟨y9m, y9s⟩ => ?_
          rw [ops_def, bi_some]
          refine ok_bi (some_o y9s _ hl (by omega) (by omega) (by decide) (by decide)) fun y11 ⟨y11m, y11s⟩ => ?_
          refine ok_bi (pick_o y11s _ hl (by omega) (by omega) (by decide) (by decide)) fun y13 ⟨n0, y13s⟩ => ?_
          refine rd_leaf (by omega) ?_ (ops_mem y11m) (.num _ n0) (by omega) y13s _ (by omega) hBW
          have : ∀ o ∈ ([[115, 105, 122, 101], [111, 115]] : List Str), o.length ≤ 10 := by decide
          exact this _ y9m
        · rw [ops_def, bi_some]
          refine ok_bi (some_o y8s _ hl (by omega) (by omega) (by decide) (by decide)) fun y11 ⟨y11m, y11s⟩ => ?_
          refine ok_bi (some_o y11s _ hl (by omega) (by omega) (by decide) (by decide)) fun y13 ⟨n0, y13s⟩ => ?_
          exact rd_leaf (by omega) (by decide) (ops_mem y11m) (.words _ n0) (by omega) y13s _ (by omega) hBW
      · obtain ⟨m, rfl⟩ : ∃ n, m = n + 1 := by
          cases m with
          | zero => rw [q1 rfl] at hq; cases hq
          | succ n => exact ⟨n, rfl⟩
        simp only [BD] at hb hBD
        refine ok_bi (pick_o q2 _ hl (by omega) (by omega) (by decide) (by decide)) fun y41 ⟨y41m, y41s⟩ => ?_
        refine ok_bi (P := fun q : T_lanemake_Stream × Int => (1 ≤ q.2 ∧ q.2 ≤ 3) ∧ At l 0 (b + 3) q.1) ?_ ?_
        · refine ok_bif (fun _ => ?_) (fun _ => ok_some ⟨by simp only; omega, y41s.up (by omega) (by omega)⟩)
          refine ok_bi (pick_o y41s _ hl (by omega) (by omega) (by decide) (by decide)) fun y46 ⟨n0, y46s⟩ => ok_some ⟨?_, y46s.up (by omega) (by omega)⟩
          simp only [List.mem_cons, List.not_mem_nil, or_false] at n0
          simp only
          omega
        · intro q43 ⟨⟨g1, g2⟩, g3⟩
          have hkk : (y41.1 : Int) = 2 ∨ (y41.1 : Int) = 3 ∨ (y41.1 : Int) = 4 := by simpa using y41m
          refine ok_bi (P := fun r : T_lanemake_Stream × List T_api_Cond => ∃ L : List CC, r.2 = L.map CC.t ∧ L ≠ [] ∧ (∀ x ∈ L, RC x) ∧ CC.dps L ≤ m + 1 ∧ CC.tws L ≤ 3 * (BW m + 10) ∧ At l 0 (b + 3 + 3 * BD m) r.1) ?_ ?_
          · refine ok_gd (decide_eq_true (by omega)) ?_
            refine ok_mono (ok_rangeG (fun i (r : T_lanemake_Stream × List T_api_Cond) => ∃ L : List CC, r.2 = L.map CC.t ∧ (1 ≤ i → L ≠ []) ∧ (∀ x ∈ L, RC x) ∧ CC.dps L ≤ m + 1 ∧ CC.tws L ≤ i * (BW m + 10) ∧ L.length ≤ CC.tws L ∧ At l 0 (b + 3 + (i : Nat) * BD m) r.1)
              ⟨[], rfl, by omega, by simp, by simp [CC.dps], by simp [CC.tws], by simp, by simpa using g3⟩ ?_) ?_
            · intro i r hi ⟨L, e1, e2, e3, e4, e5, e6, e7⟩
              have hi3 : i ≤ 2 := by omega
              have hib : i * BD m ≤ 2 * BD m := Nat.mul_le_mul_right _ hi3
              have hiw : i * (BW m + 10) ≤ 2 * (BW m + 10) := Nat.mul_le_mul_right _ hi3
              have hW5 : BW m ≤ 100000 := by
                have : ∀ m ≤ 5, BW m ≤ 100000 := by decide
                exact this m (by omega)
              rw [show wi (((m + 1 : Nat) : Int) - 1) = (m : Int) by rw [wi_id (by omega) (by omega)]; omega]
              refine ok_bi (right_ok hl m k (b + 3 + (i : Nat) * BD m) r.1 (by omega) (by omega) (by omega) (by omega) e7) fun x ⟨c, c1, c2, c3, c4, c5⟩ => ?_
              have hstep : b + 3 + (i : Nat) * BD m + BD m = b + 3 + ((i + 1 : Nat) : Int) * BD m := by
                rw [Int.natCast_add, Int.add_mul]; omega
              have hstepw : (i + 1) * (BW m + 10) = i * (BW m + 10) + (BW m + 10) := by rw [Nat.add_mul, Nat.one_mul]
              rw [hstep] at c5
              rw [c1, e1, unK_t]
              refine ok_bif (fun hkd => ?_) (fun _ => ?_)
              · rw [bi_some]
                cases c2 with
                | leaf hn ho hv =>
                  exfalso
                  rw [Bool.and_eq_true] at hkd
                  have := eq_of_beq hkd.1
                  simp only [CC.t] at this
                  omega
                | @node kd l' hkd' hl' hx =>
                  have htw : (CC.mk kd [] [] zA l').tw = CC.tws l' := by
                    cases l' with
                    | nil => exact absurd rfl hl'
                    | cons c r => simp [CC.tw]
                  rw [htw] at c4
                  have hll : ∀ z : List CC, z.length ≤ CC.tws z := fun z => by
                    induction z with
                    | nil => simp
                    | cons c r ih => simp only [List.length_cons, CC.tws]; omega
                  have hlz := hll l'
                  simp only [CC.kids]
                  rw [apd_some (by simp only [List.length_map]; omega), bi_some, ← List.map_append]
                  simp only [CC.dp] at c3
                  exact ok_some ⟨L ++ l', rfl, by simp [hl'], fun x hx' => (List.mem_append.1 hx').elim (e3 x) (hx x), by rw [dps_app]; omega, by rw [tws_app]; omega, by rw [tws_app, List.length_append]; omega, c5⟩
              · rw [apd_some (by simp only [List.length_map, List.length_singleton]; omega), bi_some, show ([c.t] : List T_api_Cond) = [c].map CC.t from rfl, ← List.map_append]
                exact ok_some ⟨L ++ [c], rfl, by simp, fun x hx' => (List.mem_append.1 hx').elim (e3 x) (fun h => List.mem_singleton.1 h ▸ c2), by rw [dps_app]; simp only [CC.dps]; omega, by rw [tws_app]; simp only [CC.tws]; omega, by rw [tws_app, List.length_append]; simp only [CC.tws, List.length_singleton]; omega, c5⟩
            · intro r ⟨L, e1, e2, e3, e4, e5, e6, e7⟩
              have hi3 : q43.2.toNat ≤ 3 := by omega
              have hib : q43.2.toNat * BD m ≤ 3 * BD m := Nat.mul_le_mul_right _ hi3
              have hiw : q43.2.toNat * (BW m + 10) ≤ 3 * (BW m + 10) := Nat.mul_le_mul_right _ hi3
              have hcast : ((q43.2.toNat : Nat) : Int) * (BD m : Int) = ((q43.2.toNat * BD m : Nat) : Int) := by rw [Int.natCast_mul]
              rw [hcast] at e7
              exact ⟨L, e1, e2 (by omega), e3, e4, by omega, e7.up (by omega) (by omega)⟩
          · intro r ⟨L, e1, e2, e3, e4, e5, e7⟩
            refine ok_some ⟨.mk y41.1 [] [] zA L, ?_, .node hkk e2 e3, by simp only [CC.dp]; omega, ?_, e7.up (by omega) (by simp only [BD]; omega)⟩
            · rw [e1, ← ts_map]
              simp only [CC.t]
              exact (by rfl)
            · simp only [CC.tw, BW]
              rw [show L.isEmpty = false by cases L with | nil => exact absurd rfl e2 | cons _ _ => rfl]
              simp only [Bool.false_eq_true, if_false]
              omega
end Go.Gk
