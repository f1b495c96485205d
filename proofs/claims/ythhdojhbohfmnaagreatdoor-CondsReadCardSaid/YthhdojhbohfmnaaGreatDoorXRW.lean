/-
  The functions compute their models.
-/
import Derived.Test.YthhdojhbohfmnaaGreatDoorXRM
import Derived.Test.YthhdojhbohfmnaaGreatDoorGt
import Derived.Test.YthhdojhbohfmnaaGreatDoorStr
import Derived.Test.YthhdojhbohfmnaaGreatDoorStr9
import Derived.Test.YthhdojhbohfmnaaGreatDoorXRW2
set_option linter.unusedVariables false
set_option linter.unusedSimpArgs false
set_option maxRecDepth 100000
namespace Go.Proofs.YthhdojhbohfmnaaGreatDoor
open Go.Gk
theorem c_slices_EqualFunc_api_Cond_api_Cond_api_Cond_api_Cond {rc_laneref1_SameCond : T_api_Cond → T_api_Cond → Option Bool} (ih_laneref1_SameCond : ∀ {a : T_api_Cond} {b : T_api_Cond} {r : Bool}, rc_laneref1_SameCond a b = some r → Pure Tryz.prog 11 [.agg [I a.Kind, S a.Name, S a.Op, I a.Value.Kind, I a.Value.Number, S a.Value.Words, I a.Value.Version.1, I a.Value.Version.2.1, I a.Value.Version.2.2.1, I a.Value.Version.2.2.2, .d (.ro a.Kids.n a.Kids.xs)], .agg [I b.Kind, S b.Name, S b.Op, I b.Value.Kind, I b.Value.Number, S b.Value.Words, I b.Value.Version.1, I b.Value.Version.2.1, I b.Value.Version.2.2.1, I b.Value.Version.2.2.2, .d (.ro b.Kids.n b.Kids.xs)]] (B r)) {s1 : List T_api_Cond} {s2 : List T_api_Cond} {r : Bool} (h : m_slices_EqualFunc_api_Cond_api_Cond_api_Cond_api_Cond rc_laneref1_SameCond s1 s2 = some r) : Pure Tryz.prog 88 [.d (Sl e_api_Cond s1), .d (Sl e_api_Cond s2), .fn (.func 11) [] []] (B r) := by
  refine Pure.enter (Fr.of 0 _) Tryz.func88 rfl (Fr.of_ok _) rfl rfl ?_
  refine go_in ?_
  unfold m_slices_EqualFunc_api_Cond_api_Cond_api_Cond_api_Cond at h
  refine go hΓ 15 rfl ?_
  refine j_cond rfl (fun hb => ?_) (fun hb => ?_)
  · have h1 := cT h hb
    refine go hΓ 7 rfl ?_
    obtain rfl := Option.some.inj h1
    exact fin_pure hΓ (.inr rfl) rfl rfl
  · have h2 := cF h hb
    refine go hΓ 10 rfl ?_
    obtain ⟨q6, hq6, h7⟩ := bi_ok h2
    refine j_bound 15 rfl fun hb9 => ?_
    refine j_cutEZ (R := fun a8 => q6 = .go a8) (fun a8 => []) (fun a8 => []) ?_ ?_
    · refine go hΓ 1 rfl ?_
      refine j_range s1 hq6 (fun i3 s4 => [(1, .d (Sl e_api_Cond s2)), (2, .fn (.func 11) [] []), (15, .d (Sl e_api_Cond s1)), (16, I (s1.length : Int)), (17, I (i3 : Int))]) (fun s4 => []) ⟨⟨rfl, rfl, rfl, rfl, rfl, trivial⟩, [], rfl, .inl rfl⟩ (fun i3 x5 s4 y13 hx10 hlt hy11 hout12 => ?_) (fun s4 hgo => ?_)
      · refine go hΓ 6 rfl ?_
        refine j_condT rfl (decide_eq_true (Int.ofNat_lt.2 hlt)) ?_
        refine go hΓ 7 rfl ?_
        refine eo_o rfl (op_elemZ hΓ (enc := e_api_Cond) (getZ_nat hx10) rfl rfl rfl rfl rfl (fun _ => rfl)) ?_
        refine go_ops hΓ 1 rfl ?_
        refine eo_alloc hΓ rfl rfl rfl (Nat.le_of_ble_eq_true rfl) ?_
        refine go_ops hΓ 1 rfl ?_
        refine eo_store hΓ rfl rfl rfl rfl rfl rfl rfl rfl (Nat.le_of_ble_eq_true rfl) ?_
        refine eo_hp [.box 32 [I x5.Kind, S x5.Name, S x5.Op, I x5.Value.Kind, I x5.Value.Number, S x5.Value.Words, I x5.Value.Version.1, I x5.Value.Version.2.1, I x5.Value.Version.2.2.1, I x5.Value.Version.2.2.2, .d (.ro x5.Kids.n x5.Kids.xs)]] rfl ?_
        obtain ⟨x14, hx14, h15⟩ := bi_ok hy11
        refine go_ops hΓ 6 rfl ?_
        refine eo_o rfl (op_elemZ hΓ (enc := e_api_Cond) hx14 rfl rfl rfl rfl rfl (fun _ => rfl)) ?_
        refine go_ops hΓ 1 rfl ?_
        refine eo_alloc hΓ rfl rfl rfl (Nat.le_of_ble_eq_true rfl) ?_
        refine eo_store hΓ rfl rfl rfl rfl rfl rfl rfl rfl (Nat.le_of_ble_eq_true rfl) ?_
        refine eo_hp [.box 32 [I x5.Kind, S x5.Name, S x5.Op, I x5.Value.Kind, I x5.Value.Number, S x5.Value.Words, I x5.Value.Version.1, I x5.Value.Version.2.1, I x5.Value.Version.2.2.1, I x5.Value.Version.2.2.2, .d (.ro x5.Kids.n x5.Kids.xs)], .box 32 [I x14.Kind, S x14.Name, S x14.Op, I x14.Value.Kind, I x14.Value.Number, S x14.Value.Words, I x14.Value.Version.1, I x14.Value.Version.2.1, I x14.Value.Version.2.2.1, I x14.Value.Version.2.2.2, .d (.ro x14.Kids.n x14.Kids.xs)]] rfl ?_
        obtain ⟨y16, hy16, h17⟩ := bi_ok h15
        refine go_ops hΓ 7 rfl ?_
        refine eo_callP (callable Tryz.func11 rfl rfl) (ih_laneref1_SameCond hy16) rfl (Nat.le_of_ble_eq_true rfl) rfl rfl rfl rfl rfl ?_
        refine go_ops hΓ 3 rfl ?_
        refine j_cond rfl (fun hb => ?_) (fun hb => ?_)
        · have h18 := cT h17 hb
          refine go hΓ 8 rfl ?_
          obtain ⟨v19, hv19, h20⟩ := bi_ok h18
          obtain rfl := Option.some.inj h20
          obtain rfl := hout12 _ rfl
          obtain rfl := Option.some.inj h7
          refine go hΓ 4 rfl ?_
          obtain rfl := Option.some.inj hv19
          exact fin_pure hΓ (.inr rfl) rfl rfl
        · have h21 := cF h17 hb
          refine go hΓ 7 rfl ?_
          obtain rfl := Option.some.inj h21
          exact ⟨_, rfl, ⟨⟨rfl, rfl, rfl, rfl, get_eq rfl (w64_succ (Nat.lt_of_lt_of_le hlt hb9)), trivial⟩, [_, _], rfl, .inr ⟨HB.mk rfl, FB.mk rfl, (Nat.le_of_ble_eq_true rfl)⟩⟩⟩
      · subst hgo
        refine go hΓ 6 rfl ?_
        refine j_condF rfl (decide_eq_false (Int.lt_irrefl _)) ?_
        refine go hΓ 4 rfl ?_
        exact ⟨_, rfl, ⟨trivial, [], rfl, .inl rfl⟩⟩
    · intro a8 ha
      subst ha
      replace h7 := goI_l h7
      refine go hΓ 7 rfl ?_
      obtain rfl := Option.some.inj h7
      exact fin_pure hΓ (.inr rfl) rfl rfl
theorem c_laneref1_SameCond {k : Nat} {a : T_api_Cond} {b : T_api_Cond} {r : Bool} (h : m_laneref1_SameCond k a b = some r) : Pure Tryz.prog 11 [.agg [I a.Kind, S a.Name, S a.Op, I a.Value.Kind, I a.Value.Number, S a.Value.Words, I a.Value.Version.1, I a.Value.Version.2.1, I a.Value.Version.2.2.1, I a.Value.Version.2.2.2, .d (.ro a.Kids.n a.Kids.xs)], .agg [I b.Kind, S b.Name, S b.Op, I b.Value.Kind, I b.Value.Number, S b.Value.Words, I b.Value.Version.1, I b.Value.Version.2.1, I b.Value.Version.2.2.1, I b.Value.Version.2.2.2, .d (.ro b.Kids.n b.Kids.xs)]] (B r) := by
  induction k generalizing a b r with
  | zero => unfold m_laneref1_SameCond at h; cases h
  | succ k ih0 =>
    have ih : ∀ {a : T_api_Cond} {b : T_api_Cond} {r : Bool}, m_laneref1_SameCond k a b = some r → Pure Tryz.prog 11 [.agg [I a.Kind, S a.Name, S a.Op, I a.Value.Kind, I a.Value.Number, S a.Value.Words, I a.Value.Version.1, I a.Value.Version.2.1, I a.Value.Version.2.2.1, I a.Value.Version.2.2.2, .d (.ro a.Kids.n a.Kids.xs)], .agg [I b.Kind, S b.Name, S b.Op, I b.Value.Kind, I b.Value.Number, S b.Value.Words, I b.Value.Version.1, I b.Value.Version.2.1, I b.Value.Version.2.2.1, I b.Value.Version.2.2.2, .d (.ro b.Kids.n b.Kids.xs)]] (B r) := by intro a b r h; first | exact ih0 h | exact ih0 _ _ _ h
    refine Pure.enter (Fr.of 0 _) Tryz.func11 rfl (Fr.of_ok _) rfl rfl ?_
    refine go_in ?_
    unfold m_laneref1_SameCond at h
    refine go hΓ 2 rfl ?_
    refine eo_box rfl rfl rfl rfl (Nat.le_of_ble_eq_true rfl) ?_
    refine eo_box rfl rfl rfl rfl (Nat.le_of_ble_eq_true rfl) ?_
    refine go_ops hΓ 11 rfl ?_
    refine o_cut 6 [(2, .ptr 0 0), (3, .ptr 1 0), (4, B false), (16, B (((a.Kind : Int) == b.Kind) && ((a.Name : Str) == b.Name)))] [.box 32 [I a.Kind, S a.Name, S a.Op, I a.Value.Kind, I a.Value.Number, S a.Value.Words, I a.Value.Version.1, I a.Value.Version.2.1, I a.Value.Version.2.2.1, I a.Value.Version.2.2.2, .d (.ro a.Kids.n a.Kids.xs)], .box 32 [I b.Kind, S b.Name, S b.Op, I b.Value.Kind, I b.Value.Number, S b.Value.Words, I b.Value.Version.1, I b.Value.Version.2.1, I b.Value.Version.2.2.1, I b.Value.Version.2.2.2, .d (.ro b.Kids.n b.Kids.xs)]] ?_ ?_
    · refine eo_gsplit rfl rfl (fun hb => ?_) (fun hb => ?_)
      · refine go_ops hΓ 7 rfl ?_
        exact ⟨⟨rfl, rfl, rfl, get_b rfl (and_t hb), trivial⟩, [], rfl, .inl rfl⟩
      · refine go_ops hΓ 7 rfl ?_
        exact ⟨⟨rfl, rfl, rfl, get_b rfl (and_f hb), trivial⟩, [], rfl, .inl rfl⟩
    · refine go_ops hΓ 1 rfl ?_
      refine o_cut 6 [(2, .ptr 0 0), (3, .ptr 1 0), (4, B false), (23, B ((((a.Kind : Int) == b.Kind) && ((a.Name : Str) == b.Name)) && ((a.Op : Str) == b.Op)))] [.box 32 [I a.Kind, S a.Name, S a.Op, I a.Value.Kind, I a.Value.Number, S a.Value.Words, I a.Value.Version.1, I a.Value.Version.2.1, I a.Value.Version.2.2.1, I a.Value.Version.2.2.2, .d (.ro a.Kids.n a.Kids.xs)], .box 32 [I b.Kind, S b.Name, S b.Op, I b.Value.Kind, I b.Value.Number, S b.Value.Words, I b.Value.Version.1, I b.Value.Version.2.1, I b.Value.Version.2.2.1, I b.Value.Version.2.2.2, .d (.ro b.Kids.n b.Kids.xs)]] ?_ ?_
      · refine eo_gsplit rfl rfl (fun hb => ?_) (fun hb => ?_)
        · refine go_ops hΓ 7 rfl ?_
          exact ⟨⟨rfl, rfl, rfl, get_b rfl (and_t hb), trivial⟩, [], rfl, .inl rfl⟩
        · refine go_ops hΓ 7 rfl ?_
          exact ⟨⟨rfl, rfl, rfl, get_b rfl (and_f hb), trivial⟩, [], rfl, .inl rfl⟩
      · refine go_ops hΓ 1 rfl ?_
        refine o_cut 6 [(2, .ptr 0 0), (3, .ptr 1 0), (4, B false), (30, B (((((a.Kind : Int) == b.Kind) && ((a.Name : Str) == b.Name)) && ((a.Op : Str) == b.Op)) && (((a.Value.Kind : Int) == b.Value.Kind) && (((a.Value.Number : Int) == b.Value.Number) && (((a.Value.Words : Str) == b.Value.Words) && (decide (([a.Value.Version.1, a.Value.Version.2.1, a.Value.Version.2.2.1, a.Value.Version.2.2.2] : List Int) = [b.Value.Version.1, b.Value.Version.2.1, b.Value.Version.2.2.1, b.Value.Version.2.2.2]) && true))))))] [.box 32 [I a.Kind, S a.Name, S a.Op, I a.Value.Kind, I a.Value.Number, S a.Value.Words, I a.Value.Version.1, I a.Value.Version.2.1, I a.Value.Version.2.2.1, I a.Value.Version.2.2.2, .d (.ro a.Kids.n a.Kids.xs)], .box 32 [I b.Kind, S b.Name, S b.Op, I b.Value.Kind, I b.Value.Number, S b.Value.Words, I b.Value.Version.1, I b.Value.Version.2.1, I b.Value.Version.2.2.1, I b.Value.Version.2.2.2, .d (.ro b.Kids.n b.Kids.xs)]] ?_ ?_
        · refine eo_gsplit rfl rfl (fun hb => ?_) (fun hb => ?_)
          · refine go_ops hΓ 4 rfl ?_
            refine eo_guard rfl ?_
            refine eo_o rfl (op_eqSA hΓ [29] (b := (((a.Value.Kind : Int) == b.Value.Kind) && (((a.Value.Number : Int) == b.Value.Number) && (((a.Value.Words : Str) == b.Value.Words) && (decide (([a.Value.Version.1, a.Value.Version.2.1, a.Value.Version.2.2.1, a.Value.Version.2.2.2] : List Int) = [b.Value.Version.1, b.Value.Version.2.1, b.Value.Version.2.2.1, b.Value.Version.2.2.2]) && true))))) (by kernel_rfl) (by kernel_rfl) rfl rfl rfl) ?_
            refine go_ops hΓ 2 rfl ?_
            exact ⟨⟨rfl, rfl, rfl, get_b rfl (and_t hb), trivial⟩, [], rfl, .inl rfl⟩
          · refine go_ops hΓ 7 rfl ?_
            exact ⟨⟨rfl, rfl, rfl, get_b rfl (and_f hb), trivial⟩, [], rfl, .inl rfl⟩
        · refine go_ops hΓ 1 rfl ?_
          obtain ⟨q1, hq1, h2⟩ := bi_ok h
          refine o_cut 6 [(4, B false), (37, B q1)] [.box 32 [I a.Kind, S a.Name, S a.Op, I a.Value.Kind, I a.Value.Number, S a.Value.Words, I a.Value.Version.1, I a.Value.Version.2.1, I a.Value.Version.2.2.1, I a.Value.Version.2.2.2, .d (.ro a.Kids.n a.Kids.xs)], .box 32 [I b.Kind, S b.Name, S b.Op, I b.Value.Kind, I b.Value.Number, S b.Value.Words, I b.Value.Version.1, I b.Value.Version.2.1, I b.Value.Version.2.2.1, I b.Value.Version.2.2.2, .d (.ro b.Kids.n b.Kids.xs)]] ?_ ?_
          · refine eo_gsplit rfl rfl (fun hb => ?_) (fun hb => ?_)
            · have h3 := cT hq1 hb
              obtain ⟨l4, hl4, h5⟩ := bi_ok h3
              refine go_ops hΓ 1 rfl ?_
              refine eo_guard rfl ?_
              refine eo_o rfl (op_le (pst_ok hΓ (g := .d (.ro a.Kids.n a.Kids.xs)) rfl) (G.Le.unk dk_api_Cond hl4)) ?_
              obtain ⟨l6, hl6, h7⟩ := bi_ok h5
              refine go_ops hΓ 1 rfl ?_
              refine eo_guard rfl ?_
              refine eo_o rfl (op_le (pst_ok hΓ (g := .d (.ro b.Kids.n b.Kids.xs)) rfl) (G.Le.unk dk_api_Cond hl6)) ?_
              obtain ⟨y8, hy8, h9⟩ := bi_ok h7
              refine eo_guard rfl ?_
              refine eo_callP (callable Tryz.func88 rfl rfl) (c_slices_EqualFunc_api_Cond_api_Cond_api_Cond_api_Cond ih hy8) rfl (Nat.le_of_ble_eq_true rfl) rfl rfl rfl rfl rfl ?_
              refine go_ops hΓ 2 rfl ?_
              obtain rfl := Option.some.inj h9
              exact ⟨⟨rfl, rfl, trivial⟩, [], rfl, .inl rfl⟩
            · have h10 := cF hq1 hb
              refine go_ops hΓ 7 rfl ?_
              obtain rfl := Option.some.inj h10
              exact ⟨⟨rfl, rfl, trivial⟩, [], rfl, .inl rfl⟩
          · refine go_ops hΓ 4 rfl ?_
            obtain rfl := Option.some.inj h2
            exact fin_pure hΓ (.inr rfl) rfl rfl
theorem c_lanelaw1_postured {k : Nat} {r : Bool} (h : m_lanelaw1_postured k = some r) : Pure Tryz.prog 12 [] (B r) := by
  refine Pure.enter (Fr.of 0 _) Tryz.func12 rfl (Fr.of_ok _) rfl rfl ?_
  refine go_in ?_
  unfold m_lanelaw1_postured at h
  obtain ⟨y1, hy1, h2⟩ := bi_ok h
  refine go hΓ 7 rfl ?_
  refine eo_callP (callable Tryz.func9 rfl rfl) (c_posture_Parse hy1) rfl (Nat.le_of_ble_eq_true rfl) rfl rfl rfl rfl rfl ?_
  refine go_ops hΓ 4 rfl ?_
  refine eo_alloc hΓ rfl rfl rfl (Nat.le_of_ble_eq_true rfl) ?_
  refine eo_store hΓ rfl rfl rfl rfl rfl rfl rfl rfl (Nat.le_of_ble_eq_true rfl) ?_
  refine eo_hp [.box 32 [I y1.1.Kind, S y1.1.Name, S y1.1.Op, I y1.1.Value.Kind, I y1.1.Value.Number, S y1.1.Value.Words, I y1.1.Value.Version.1, I y1.1.Value.Version.2.1, I y1.1.Value.Version.2.2.1, I y1.1.Value.Version.2.2.2, .d (.ro y1.1.Kids.n y1.1.Kids.xs)]] rfl ?_
  refine go_ops hΓ 9 rfl ?_
  refine o_cut 4 [(0, B false), (1, .ptr 0 0), (15, B (((y1.2.2 : Int) == 0) && ((y1.1.Kind : Int) == 1)))] [.box 32 [I y1.1.Kind, S y1.1.Name, S y1.1.Op, I y1.1.Value.Kind, I y1.1.Value.Number, S y1.1.Value.Words, I y1.1.Value.Version.1, I y1.1.Value.Version.2.1, I y1.1.Value.Version.2.2.1, I y1.1.Value.Version.2.2.2, .d (.ro y1.1.Kids.n y1.1.Kids.xs)]] ?_ ?_
  · refine eo_gsplit rfl rfl (fun hb => ?_) (fun hb => ?_)
    · refine go_ops hΓ 5 rfl ?_
      exact ⟨⟨rfl, rfl, get_b rfl (and_t hb), trivial⟩, [], rfl, .inl rfl⟩
    · refine go_ops hΓ 5 rfl ?_
      exact ⟨⟨rfl, rfl, get_b rfl (and_f hb), trivial⟩, [], rfl, .inl rfl⟩
  · refine go_ops hΓ 1 rfl ?_
    refine o_cut 4 [(0, B false), (20, B ((((y1.2.2 : Int) == 0) && ((y1.1.Kind : Int) == 1)) && ((y1.1.Name : Str) == [97])))] [.box 32 [I y1.1.Kind, S y1.1.Name, S y1.1.Op, I y1.1.Value.Kind, I y1.1.Value.Number, S y1.1.Value.Words, I y1.1.Value.Version.1, I y1.1.Value.Version.2.1, I y1.1.Value.Version.2.2.1, I y1.1.Value.Version.2.2.2, .d (.ro y1.1.Kids.n y1.1.Kids.xs)]] ?_ ?_
    · refine eo_gsplit rfl rfl (fun hb => ?_) (fun hb => ?_)
      · refine go_ops hΓ 5 rfl ?_
        exact ⟨⟨rfl, get_b rfl (and_t hb), trivial⟩, [], rfl, .inl rfl⟩
      · refine go_ops hΓ 5 rfl ?_
        exact ⟨⟨rfl, get_b rfl (and_f hb), trivial⟩, [], rfl, .inl rfl⟩
    · refine go_ops hΓ 4 rfl ?_
      obtain rfl := Option.some.inj h2
      exact fin_pure hΓ (.inr rfl) rfl rfl
set_option maxHeartbeats 8000000 in
theorem c_lanelaw1_CondsRead {k : Nat} {l : List Int} {r : Bool} (h : m_lanelaw1_CondsRead k l = some r) : Pure Tryz.prog 3 [.d (Sl (eN .i64) l)] (B r) := by
  refine Pure.enter (Fr.of 0 _) Tryz.func3 rfl (Fr.of_ok _) rfl rfl ?_
  refine go_in ?_
  unfold m_lanelaw1_CondsRead at h
  refine go hΓ 8 rfl ?_
  refine eo_build hΓ (gs := [.d (Sl (eN .i64) l), I 0]) rfl rfl rfl rfl rfl rfl rfl ?_
  refine eo_box rfl rfl rfl rfl (Nat.le_of_ble_eq_true rfl) ?_
  obtain ⟨y1, hy1, h2⟩ := bi_ok h
  refine go_ops hΓ 6 rfl ?_
  refine eo_callF [0] (S y1.1) [.box 25 [.d (Sl (eN .i64) y1.2.L), I y1.2.v_at]] (callable Tryz.func8 rfl rfl) (c_lanemake_Stream_CondString hy1) rfl (Nat.le_of_ble_eq_true rfl) rfl rfl rfl rfl rfl rfl rfl rfl rfl rfl ?_
  obtain ⟨y3, hy3, h4⟩ := bi_ok h2
  refine go_ops hΓ 6 rfl ?_
  refine eo_callP (callable Tryz.func9 rfl rfl) (c_posture_Parse hy3) rfl (Nat.le_of_ble_eq_true rfl) rfl rfl rfl rfl rfl ?_
  refine go_ops hΓ 4 rfl ?_
  refine eo_alloc hΓ rfl rfl rfl (Nat.le_of_ble_eq_true rfl) ?_
  refine eo_store hΓ rfl rfl rfl rfl rfl rfl rfl rfl (Nat.le_of_ble_eq_true rfl) ?_
  refine eo_hp [.box 25 [.d (Sl (eN .i64) y1.2.L), I y1.2.v_at], .box 32 [I y3.1.Kind, S y3.1.Name, S y3.1.Op, I y3.1.Value.Kind, I y3.1.Value.Number, S y3.1.Value.Words, I y3.1.Value.Version.1, I y3.1.Value.Version.2.1, I y3.1.Value.Version.2.2.1, I y3.1.Value.Version.2.2.2, .d (.ro y3.1.Kids.n y3.1.Kids.xs)]] rfl ?_
  obtain ⟨y5, hy5, h6⟩ := bi_ok h4
  refine go_ops hΓ 7 rfl ?_
  refine eo_callP (callable Tryz.func10 rfl rfl) (c_laneref1_CondParse hy5) rfl (Nat.le_of_ble_eq_true rfl) rfl rfl rfl rfl rfl ?_
  refine go_ops hΓ 4 rfl ?_
  refine eo_alloc hΓ rfl rfl rfl (Nat.le_of_ble_eq_true rfl) ?_
  refine eo_store hΓ rfl rfl rfl rfl rfl rfl rfl rfl (Nat.le_of_ble_eq_true rfl) ?_
  refine eo_hp [.box 25 [.d (Sl (eN .i64) y1.2.L), I y1.2.v_at], .box 32 [I y3.1.Kind, S y3.1.Name, S y3.1.Op, I y3.1.Value.Kind, I y3.1.Value.Number, S y3.1.Value.Words, I y3.1.Value.Version.1, I y3.1.Value.Version.2.1, I y3.1.Value.Version.2.2.1, I y3.1.Value.Version.2.2.2, .d (.ro y3.1.Kids.n y3.1.Kids.xs)], .box 32 [I y5.1.Kind, S y5.1.Name, S y5.1.Op, I y5.1.Value.Kind, I y5.1.Value.Number, S y5.1.Value.Words, I y5.1.Value.Version.1, I y5.1.Value.Version.2.1, I y5.1.Value.Version.2.2.1, I y5.1.Value.Version.2.2.2, .d (.ro y5.1.Kids.n y5.1.Kids.xs)]] rfl ?_
  refine go_ops hΓ 10 rfl ?_
  refine o_cut 4 [(2, B false), (5, .ptr 1 0), (8, .ptr 2 0), (35, B (((y3.2.2 : Int) == y5.2.2) && ((y3.2.1 : Int) == y5.2.1)))] [.box 25 [.d (Sl (eN .i64) y1.2.L), I y1.2.v_at], .box 32 [I y3.1.Kind, S y3.1.Name, S y3.1.Op, I y3.1.Value.Kind, I y3.1.Value.Number, S y3.1.Value.Words, I y3.1.Value.Version.1, I y3.1.Value.Version.2.1, I y3.1.Value.Version.2.2.1, I y3.1.Value.Version.2.2.2, .d (.ro y3.1.Kids.n y3.1.Kids.xs)], .box 32 [I y5.1.Kind, S y5.1.Name, S y5.1.Op, I y5.1.Value.Kind, I y5.1.Value.Number, S y5.1.Value.Words, I y5.1.Value.Version.1, I y5.1.Value.Version.2.1, I y5.1.Value.Version.2.2.1, I y5.1.Value.Version.2.2.2, .d (.ro y5.1.Kids.n y5.1.Kids.xs)]] ?_ ?_
  · refine eo_gsplit rfl rfl (fun hb => ?_) (fun hb => ?_)
    · refine go_ops hΓ 5 rfl ?_
      exact ⟨⟨rfl, rfl, rfl, get_b rfl (and_t hb), trivial⟩, [], rfl, .inl rfl⟩
    · refine go_ops hΓ 5 rfl ?_
      exact ⟨⟨rfl, rfl, rfl, get_b rfl (and_f hb), trivial⟩, [], rfl, .inl rfl⟩
  · refine go_ops hΓ 1 rfl ?_
    obtain ⟨q7, hq7, h8⟩ := bi_ok h6
    refine o_cut 4 [(2, B false), (40, B q7)] [.box 25 [.d (Sl (eN .i64) y1.2.L), I y1.2.v_at], .box 32 [I y3.1.Kind, S y3.1.Name, S y3.1.Op, I y3.1.Value.Kind, I y3.1.Value.Number, S y3.1.Value.Words, I y3.1.Value.Version.1, I y3.1.Value.Version.2.1, I y3.1.Value.Version.2.2.1, I y3.1.Value.Version.2.2.2, .d (.ro y3.1.Kids.n y3.1.Kids.xs)], .box 32 [I y5.1.Kind, S y5.1.Name, S y5.1.Op, I y5.1.Value.Kind, I y5.1.Value.Number, S y5.1.Value.Words, I y5.1.Value.Version.1, I y5.1.Value.Version.2.1, I y5.1.Value.Version.2.2.1, I y5.1.Value.Version.2.2.2, .d (.ro y5.1.Kids.n y5.1.Kids.xs)]] ?_ ?_
    · refine eo_gsplit rfl rfl (fun hb => ?_) (fun hb => ?_)
      · have h9 := cT hq7 hb
        obtain ⟨y10, hy10, h11⟩ := bi_ok h9
        refine go_ops hΓ 2 rfl ?_
        refine eo_guard rfl ?_
        refine eo_callP (callable Tryz.func11 rfl rfl) (c_laneref1_SameCond hy10) rfl (Nat.le_of_ble_eq_true rfl) rfl rfl rfl rfl rfl ?_
        refine go_ops hΓ 2 rfl ?_
        obtain rfl := Option.some.inj h11
        exact ⟨⟨rfl, rfl, trivial⟩, [], rfl, .inl rfl⟩
      · have h12 := cF hq7 hb
        refine go_ops hΓ 5 rfl ?_
        obtain rfl := Option.some.inj h12
        exact ⟨⟨rfl, rfl, trivial⟩, [], rfl, .inl rfl⟩
    · refine go_ops hΓ 1 rfl ?_
      obtain ⟨q13, hq13, h14⟩ := bi_ok h8
      refine o_cut 2 [(2, B false), (43, B q13)] [.box 25 [.d (Sl (eN .i64) y1.2.L), I y1.2.v_at], .box 32 [I y3.1.Kind, S y3.1.Name, S y3.1.Op, I y3.1.Value.Kind, I y3.1.Value.Number, S y3.1.Value.Words, I y3.1.Value.Version.1, I y3.1.Value.Version.2.1, I y3.1.Value.Version.2.2.1, I y3.1.Value.Version.2.2.2, .d (.ro y3.1.Kids.n y3.1.Kids.xs)], .box 32 [I y5.1.Kind, S y5.1.Name, S y5.1.Op, I y5.1.Value.Kind, I y5.1.Value.Number, S y5.1.Value.Words, I y5.1.Value.Version.1, I y5.1.Value.Version.2.1, I y5.1.Value.Version.2.2.1, I y5.1.Value.Version.2.2.2, .d (.ro y5.1.Kids.n y5.1.Kids.xs)]] ?_ ?_
      · refine eo_gsplit rfl rfl (fun hb => ?_) (fun hb => ?_)
        · have h15 := cT hq13 hb
          obtain ⟨y16, hy16, h17⟩ := bi_ok h15
          refine eo_guard rfl ?_
          refine eo_callP (callable Tryz.func12 rfl rfl) (c_lanelaw1_postured hy16) rfl (Nat.le_of_ble_eq_true rfl) rfl rfl rfl rfl rfl ?_
          refine go_ops hΓ 2 rfl ?_
          obtain rfl := Option.some.inj h17
          exact ⟨⟨rfl, rfl, trivial⟩, [], rfl, .inl rfl⟩
        · have h18 := cF hq13 hb
          refine go_ops hΓ 3 rfl ?_
          obtain rfl := Option.some.inj h18
          exact ⟨⟨rfl, rfl, trivial⟩, [], rfl, .inl rfl⟩
      · refine go_ops hΓ 4 rfl ?_
        obtain rfl := Option.some.inj h14
        exact fin_pure hΓ (.inr rfl) rfl rfl
end Go.Proofs.YthhdojhbohfmnaaGreatDoor
