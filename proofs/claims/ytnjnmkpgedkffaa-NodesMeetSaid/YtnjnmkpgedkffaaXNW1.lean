/-
  The functions compute their models.
-/
import Derived.Test.YtnjnmkpgedkffaaXNM
import Derived.Test.YtnjnmkpgedkffaaGt
import Derived.Test.YtnjnmkpgedkffaaStrC
set_option linter.unusedVariables false
set_option linter.unusedSimpArgs false
set_option maxRecDepth 100000
namespace Go.Proofs.Ytnjnmkpgedkffaa
open Go.Gk
abbrev e_lanemake_Stream (x : T_lanemake_Stream) : List D := [Sl (eN .i64) x.L, .v (.int .i64 x.v_at)]
abbrev e_api_Addr (x : T_api_Addr) : List D := [.v (.bool x.Six), .v (.int .u64 x.Hi), .v (.int .u64 x.Lo)]
abbrev e_api_Nat (x : T_api_Nat) : List D := [.v (.int .i64 x.Maps), .v (.int .i64 x.Lets), .v (.int .i64 x.Timeout), .v (.int .i64 x.First), .v (.int .i64 x.Ports), .v (.bool x.Outer.Six), .v (.int .u64 x.Outer.Hi), .v (.int .u64 x.Outer.Lo)]
abbrev e_api_Spot (x : T_api_Spot) : List D := [.v (.bool x.Addr.Six), .v (.int .u64 x.Addr.Hi), .v (.int .u64 x.Addr.Lo), .v (.int .i64 x.Port)]
abbrev e_route_entry (x : T_route_entry) : List D := [.v (.bool x.inner.Addr.Six), .v (.int .u64 x.inner.Addr.Hi), .v (.int .u64 x.inner.Addr.Lo), .v (.int .i64 x.inner.Port), .v (.int .i64 x.port), .v (.bool x.dep.Addr.Six), .v (.int .u64 x.dep.Addr.Hi), .v (.int .u64 x.dep.Addr.Lo), .v (.int .i64 x.dep.Port), .v (.int .i64 x.last), Slt 45 4 e_api_Spot x.sent]
abbrev e_route_Translator (x : T_route_Translator) : List D := [.v (.int .i64 x.nat.Maps), .v (.int .i64 x.nat.Lets), .v (.int .i64 x.nat.Timeout), .v (.int .i64 x.nat.First), .v (.int .i64 x.nat.Ports), .v (.bool x.nat.Outer.Six), .v (.int .u64 x.nat.Outer.Hi), .v (.int .u64 x.nat.Outer.Lo), .v (.int .i64 x.now), .v (.int .i64 x.v_next), Sl e_route_entry x.list]
abbrev e_api_Punched (x : T_api_Punched) : List D := [.v (.int .i64 x.A), .v (.int .i64 x.v_B)]
abbrev e_api_Link (x : T_api_Link) : List D := [.v (.string ⟨x.A.toArray⟩), .v (.string ⟨x.v_B.toArray⟩), .v (.int .i64 x.Millis)]
abbrev e_route_step (x : T_route_step) : List D := [.v (.string ⟨x.to.toArray⟩), .v (.int .i64 x.millis)]
abbrev e_route_far (x : T_route_far) : List D := [.v (.int .i64 x.millis), .v (.int .i64 x.links)]
abbrev e_laneref1_sent (x : T_laneref1_sent) : List D := [.v (.int .i64 x.v_at), .v (.bool x.v_from.Addr.Six), .v (.int .u64 x.v_from.Addr.Hi), .v (.int .u64 x.v_from.Addr.Lo), .v (.int .i64 x.v_from.Port), .v (.bool x.to.Addr.Six), .v (.int .u64 x.to.Addr.Hi), .v (.int .u64 x.to.Addr.Lo), .v (.int .i64 x.to.Port), .v (.int .i64 x.port)]
abbrev e_laneref1_Translator (x : T_laneref1_Translator) : List D := [.v (.int .i64 x.n.Maps), .v (.int .i64 x.n.Lets), .v (.int .i64 x.n.Timeout), .v (.int .i64 x.n.First), .v (.int .i64 x.n.Ports), .v (.bool x.n.Outer.Six), .v (.int .u64 x.n.Outer.Hi), .v (.int .u64 x.n.Outer.Lo), Sl e_laneref1_sent x.out, .v (.int .i64 x.last), .v (.int .i64 x.now)]
theorem c_lanemake_Below {x : Int} {n : Int} {r : Int} (h : m_lanemake_Below x n = some r) : Pure Try.prog 32 [I x, I n] (I r) := by
  refine Pure.enter (Fr.of 0 _) Try.func32 rfl (Fr.of_ok _) rfl rfl ?_
  refine go_in ?_
  unfold m_lanemake_Below at h
  refine go hΓ 12 rfl ?_
  refine j_cond rfl (fun hb => ?_) (fun hb => ?_)
  · have h1 := cT h hb
    refine go hΓ 7 rfl ?_
    obtain rfl := Option.some.inj h1
    exact fin_pure hΓ (.inr rfl) rfl rfl
  · have h2 := cF h hb
    obtain ⟨y3, hy3, h4⟩ := bi_ok h2
    refine go hΓ 6 rfl ?_
    refine eo_o rfl (op_remZ hy3 rfl rfl) ?_
    obtain ⟨q5, hq5, h6⟩ := bi_ok h4
    refine go_ops hΓ 10 rfl ?_
    refine j_cutNZ [(0, I q5)] [] ?_ ?_
    · refine j_cond rfl (fun hb => ?_) (fun hb => ?_)
      · have h7 := cT hq5 hb
        refine go hΓ 6 rfl ?_
        obtain rfl := Option.some.inj h7
        exact ⟨⟨rfl, trivial⟩, [], rfl, .inl rfl⟩
      · have h8 := cF hq5 hb
        refine go hΓ 1 rfl ?_
        obtain rfl := Option.some.inj h8
        exact ⟨⟨rfl, trivial⟩, [], rfl, .inl rfl⟩
    · refine go hΓ 8 rfl ?_
      obtain rfl := Option.some.inj h6
      exact fin_pure hΓ (.inr rfl) rfl rfl
theorem c_lanemake_Stream_Next {s : T_lanemake_Stream} {n : Int} {r : Int × T_lanemake_Stream} (h : m_lanemake_Stream_Next s n = some r) : EC Try.prog 10 [.ptr 0 0, I n] [.box 25 [.d (Sl (eN .i64) s.L), I s.v_at]] fun g hp' => g = I r.1 ∧ hp' = [.box 25 [.d (Sl (eN .i64) r.2.L), I r.2.v_at]] := by
  refine ec_enter (Fr.of 0 _) Try.func10 rfl (Fr.of_ok _) (Nat.le_of_ble_eq_true rfl) fun _ => ?_
  refine go_in ?_
  unfold m_lanemake_Stream_Next at h
  refine go hΓ 14 rfl ?_
  refine eo_store hΓ rfl rfl rfl rfl rfl rfl rfl rfl (Nat.le_of_ble_eq_true rfl) ?_
  refine eo_hp [.box 25 [.d (Sl (eN .i64) s.L), I (wi (s.v_at + 1))]] rfl ?_
  refine go_ops hΓ 13 rfl ?_
  refine j_cond rfl (fun hb => ?_) (fun hb => ?_)
  · have h1 := cT h hb
    obtain ⟨y2, hy2, h3⟩ := bi_ok h1
    refine go hΓ 8 rfl ?_
    refine eo_callP (callable Try.func32 rfl rfl) (c_lanemake_Below hy2) rfl (Nat.le_of_ble_eq_true rfl) rfl rfl rfl rfl rfl ?_
    refine go_ops hΓ 5 rfl ?_
    obtain rfl := Option.some.inj h3
    exact fin_objs hΓ [] (.inr rfl) rfl rfl rfl rfl (.inl rfl)
  · have h4 := cF h hb
    refine go hΓ 3 rfl ?_
    refine j_draw hmix (by kernel_rfl) ?_
    obtain ⟨y5, hy5, h6⟩ := bi_ok h4
    refine go hΓ 10 rfl ?_
    refine gl_o rfl (op_remZ hy5 rfl rfl) ?_
    refine go_draw hΓ 4 rfl ?_
    refine j_draw hmix (by kernel_rfl) ?_
    obtain ⟨y7, hy7, h8⟩ := bi_ok h6
    refine go hΓ 10 rfl ?_
    refine gl_o rfl (op_quoZ hy7 rfl rfl) ?_
    obtain ⟨x9, hx9, h10⟩ := bi_ok h8
    refine go_draw hΓ 10 rfl ?_
    refine eo_o rfl (op_elemZ hΓ (enc := (eN .i64)) hx9 rfl rfl rfl rfl rfl (fun _ => rfl)) ?_
    obtain ⟨y11, hy11, h12⟩ := bi_ok h10
    refine go_ops hΓ 1 rfl ?_
    refine eo_callP (callable Try.func32 rfl rfl) (c_lanemake_Below hy11) rfl (Nat.le_of_ble_eq_true rfl) rfl rfl rfl rfl rfl ?_
    obtain ⟨y13, hy13, h14⟩ := bi_ok h12
    refine go_ops hΓ 6 rfl ?_
    refine eo_callP (callable Try.func32 rfl rfl) (c_lanemake_Below hy13) rfl (Nat.le_of_ble_eq_true rfl) rfl rfl rfl rfl rfl ?_
    refine go_ops hΓ 4 rfl ?_
    obtain rfl := Option.some.inj h14
    exact fin_objs hΓ [] (.inr rfl) rfl rfl rfl rfl (.inl rfl)
theorem c_lanemake_Stream_Range {s : T_lanemake_Stream} {low : Int} {high : Int} {r : Int × T_lanemake_Stream} (h : m_lanemake_Stream_Range s low high = some r) : EC Try.prog 13 [.ptr 0 0, I low, I high] [.box 25 [.d (Sl (eN .i64) s.L), I s.v_at]] fun g hp' => g = I r.1 ∧ hp' = [.box 25 [.d (Sl (eN .i64) r.2.L), I r.2.v_at]] := by
  refine ec_enter (Fr.of 0 _) Try.func13 rfl (Fr.of_ok _) (Nat.le_of_ble_eq_true rfl) fun _ => ?_
  refine go_in ?_
  unfold m_lanemake_Stream_Range at h
  refine go hΓ 13 rfl ?_
  refine j_cond rfl (fun hb => ?_) (fun hb => ?_)
  · have h1 := cT h hb
    refine go hΓ 8 rfl ?_
    obtain rfl := Option.some.inj h1
    exact fin_objs hΓ [] (.inr rfl) rfl rfl rfl rfl (.inl rfl)
  · have h2 := cF h hb
    obtain ⟨y3, hy3, h4⟩ := bi_ok h2
    refine go hΓ 10 rfl ?_
    refine eo_callF [0] (I y3.1) [.box 25 [.d (Sl (eN .i64) y3.2.L), I y3.2.v_at]] (callable Try.func10 rfl rfl) (c_lanemake_Stream_Next hy3) rfl (Nat.le_of_ble_eq_true rfl) rfl rfl rfl rfl rfl rfl rfl rfl rfl rfl ?_
    refine go_ops hΓ 5 rfl ?_
    obtain rfl := Option.some.inj h4
    exact fin_objs hΓ [] (.inr rfl) rfl rfl rfl rfl (.inl rfl)
theorem c_lanemake_Stream_Pick {s : T_lanemake_Stream} {l : List Int} {r : Int × T_lanemake_Stream} (h : m_lanemake_Stream_Pick s l = some r) : EC Try.prog 11 [.ptr 0 0, .d (Sl (eN .i64) l)] [.box 25 [.d (Sl (eN .i64) s.L), I s.v_at]] fun g hp' => g = I r.1 ∧ hp' = [.box 25 [.d (Sl (eN .i64) r.2.L), I r.2.v_at]] := by
  refine ec_enter (Fr.of 0 _) Try.func11 rfl (Fr.of_ok _) (Nat.le_of_ble_eq_true rfl) fun _ => ?_
  refine go_in ?_
  unfold m_lanemake_Stream_Pick at h
  obtain ⟨y1, hy1, h2⟩ := bi_ok h
  refine go hΓ 11 rfl ?_
  refine eo_callF [0] (I y1.1) [.box 25 [.d (Sl (eN .i64) y1.2.L), I y1.2.v_at]] (callable Try.func10 rfl rfl) (c_lanemake_Stream_Next hy1) rfl (Nat.le_of_ble_eq_true rfl) rfl rfl rfl rfl rfl rfl rfl rfl rfl rfl ?_
  obtain ⟨x3, hx3, h4⟩ := bi_ok h2
  refine eo_o rfl (op_elemZ hΓ (enc := (eN .i64)) hx3 rfl rfl rfl rfl rfl (fun _ => rfl)) ?_
  refine go_ops hΓ 5 rfl ?_
  obtain rfl := Option.some.inj h4
  exact fin_objs hΓ [] (.inr rfl) rfl rfl rfl rfl (.inl rfl)
theorem c_lanemake_at {n : Int} {r : T_api_Addr} (h : m_lanemake_at n = some r) : Pure Try.prog 24 [I n] (.agg [B r.Six, U r.Hi, U r.Lo]) := by
  refine Pure.enter (Fr.of 0 _) Try.func24 rfl (Fr.of_ok _) rfl rfl ?_
  refine go_in ?_
  unfold m_lanemake_at at h
  refine go hΓ 2 rfl ?_
  refine eo_alloc hΓ rfl rfl rfl (Nat.le_of_ble_eq_true rfl) ?_
  refine go_ops hΓ 7 rfl ?_
  refine eo_build hΓ (gs := [B false, U 0, .d (.v (.int .u64 (IntKind.u64.wrap (1681915904 + (IntKind.u64.wrap (n))))))]) rfl rfl rfl rfl rfl rfl rfl ?_
  refine eo_store hΓ rfl rfl rfl rfl rfl rfl rfl rfl (Nat.le_of_ble_eq_true rfl) ?_
  refine eo_hp [.box 28 [B false, U 0, .d (.v (.int .u64 (IntKind.u64.wrap (1681915904 + (IntKind.u64.wrap (n))))))]] rfl ?_
  refine go_ops hΓ 3 rfl ?_
  obtain rfl := Option.some.inj h
  exact fin_pure hΓ (.inr rfl) rfl rfl
theorem c_lanemake_Stream_Flip {s : T_lanemake_Stream} {n : Int} {r : Bool × T_lanemake_Stream} (h : m_lanemake_Stream_Flip s n = some r) : EC Try.prog 12 [.ptr 0 0, I n] [.box 25 [.d (Sl (eN .i64) s.L), I s.v_at]] fun g hp' => g = B r.1 ∧ hp' = [.box 25 [.d (Sl (eN .i64) r.2.L), I r.2.v_at]] := by
  refine ec_enter (Fr.of 0 _) Try.func12 rfl (Fr.of_ok _) (Nat.le_of_ble_eq_true rfl) fun _ => ?_
  refine go_in ?_
  unfold m_lanemake_Stream_Flip at h
  obtain ⟨y1, hy1, h2⟩ := bi_ok h
  refine go hΓ 9 rfl ?_
  refine eo_callF [0] (I y1.1) [.box 25 [.d (Sl (eN .i64) y1.2.L), I y1.2.v_at]] (callable Try.func10 rfl rfl) (c_lanemake_Stream_Next hy1) rfl (Nat.le_of_ble_eq_true rfl) rfl rfl rfl rfl rfl rfl rfl rfl rfl rfl ?_
  refine go_ops hΓ 5 rfl ?_
  obtain rfl := Option.some.inj h2
  exact fin_objs hΓ [] (.inr rfl) rfl rfl rfl rfl (.inl rfl)
theorem c_lanemake_Stream_Odd {s : T_lanemake_Stream} {low : Int} {high : Int} {r : Int × T_lanemake_Stream} (h : m_lanemake_Stream_Odd s low high = some r) : EC Try.prog 25 [.ptr 0 0, I low, I high] [.box 25 [.d (Sl (eN .i64) s.L), I s.v_at]] fun g hp' => g = I r.1 ∧ hp' = [.box 25 [.d (Sl (eN .i64) r.2.L), I r.2.v_at]] := by
  refine ec_enter (Fr.of 0 _) Try.func25 rfl (Fr.of_ok _) (Nat.le_of_ble_eq_true rfl) fun _ => ?_
  refine go_in ?_
  unfold m_lanemake_Stream_Odd at h
  obtain ⟨y1, hy1, h2⟩ := bi_ok h
  refine go hΓ 9 rfl ?_
  refine eo_callF [0] (B y1.1) [.box 25 [.d (Sl (eN .i64) y1.2.L), I y1.2.v_at]] (callable Try.func12 rfl rfl) (c_lanemake_Stream_Flip hy1) rfl (Nat.le_of_ble_eq_true rfl) rfl rfl rfl rfl rfl rfl rfl rfl rfl rfl ?_
  refine go_ops hΓ 2 rfl ?_
  refine j_cond rfl (fun hb => ?_) (fun hb => ?_)
  · have h3 := cT h2 hb
    refine go hΓ 9 rfl ?_
    refine eo_litT hΓ (enc := (eN .i64)) [wi (low - 1), wi (high + 1), low, high, -1099511627776, 1099511627776] rfl rfl rfl rfl rfl rfl rfl rfl rfl rfl rfl rfl (Nat.le_of_ble_eq_true rfl) ?_
    obtain ⟨y4, hy4, h5⟩ := bi_ok h3
    refine eo_callF [0] (I y4.1) [.box 25 [.d (Sl (eN .i64) y4.2.L), I y4.2.v_at]] (callable Try.func11 rfl rfl) (c_lanemake_Stream_Pick hy4) rfl (Nat.le_of_ble_eq_true rfl) rfl rfl rfl rfl rfl rfl rfl rfl rfl rfl ?_
    refine go_ops hΓ 5 rfl ?_
    obtain rfl := Option.some.inj h5
    exact fin_objs hΓ [] (.inr rfl) rfl rfl rfl rfl (.inl rfl)
  · have h6 := cF h2 hb
    obtain ⟨y7, hy7, h8⟩ := bi_ok h6
    refine go hΓ 7 rfl ?_
    refine eo_callF [0] (I y7.1) [.box 25 [.d (Sl (eN .i64) y7.2.L), I y7.2.v_at]] (callable Try.func13 rfl rfl) (c_lanemake_Stream_Range hy7) rfl (Nat.le_of_ble_eq_true rfl) rfl rfl rfl rfl rfl rfl rfl rfl rfl rfl ?_
    refine go_ops hΓ 4 rfl ?_
    obtain rfl := Option.some.inj h8
    exact fin_objs hΓ [] (.inr rfl) rfl rfl rfl rfl (.inl rfl)
set_option maxHeartbeats 8000000 in
theorem c_lanemake_Stream_Addr {s : T_lanemake_Stream} {r : T_api_Addr × T_lanemake_Stream} (h : m_lanemake_Stream_Addr s = some r) : EC Try.prog 58 [.ptr 0 0] [.box 25 [.d (Sl (eN .i64) s.L), I s.v_at]] fun g hp' => g = .agg [B r.1.Six, U r.1.Hi, U r.1.Lo] ∧ hp' = [.box 25 [.d (Sl (eN .i64) r.2.L), I r.2.v_at]] := by
  refine ec_enter (Fr.of 0 _) Try.func58 rfl (Fr.of_ok _) (Nat.le_of_ble_eq_true rfl) fun _ => ?_
  refine go_in ?_
  unfold m_lanemake_Stream_Addr at h
  refine go hΓ 2 rfl ?_
  refine eo_alloc hΓ rfl rfl rfl (Nat.le_of_ble_eq_true rfl) ?_
  obtain ⟨y1, hy1, h2⟩ := bi_ok h
  refine go_ops hΓ 6 rfl ?_
  refine eo_callF [0] (I y1.1) [.box 25 [.d (Sl (eN .i64) y1.2.L), I y1.2.v_at], .box 28 [B false, U 0, U 0]] (callable Try.func10 rfl rfl) (c_lanemake_Stream_Next hy1) rfl (Nat.le_of_ble_eq_true rfl) rfl rfl rfl rfl rfl rfl rfl rfl rfl rfl ?_
  refine go_ops hΓ 9 rfl ?_
  refine j_cond rfl (fun hb => ?_) (fun hb => ?_)
  · have h3 := cT h2 hb
    refine go hΓ 1 rfl ?_
    refine j_drawE [] [] [2, 7, 11] [] hmix (by kernel_rfl) (by kernel_rfl) trivial (Nat.le_of_ble_eq_true rfl) ?_
    refine ge_litT hΓ (enc := (eN .u64)) [0, 18230571291595767808, 2306139568115548160, 9223372036854775808, 18446744073709551615] rfl rfl rfl rfl rfl rfl rfl rfl rfl rfl rfl rfl ?_
    obtain ⟨y4, hy4, h5⟩ := bi_ok h3
    refine go_E hΓ 1 rfl ?_
    refine ge_h [.box 25 [.d (Sl (eN .i64) y4.2.L), I y4.2.v_at], .box 28 [B false, U 0, U 0]] rfl rfl rfl (st_st trivial) (qte_callF [0] (I y4.1) [.box 25 [.d (Sl (eN .i64) y4.2.L), I y4.2.v_at], .box 28 [B false, U 0, U 0]] (callable Try.func10 rfl rfl) (c_lanemake_Stream_Next hy4) rfl rfl rfl rfl rfl rfl rfl rfl rfl rfl) ?_
    obtain ⟨x6, hx6, h7⟩ := bi_ok h5
    refine ge_q rfl (.inl rfl) (fun _ _ => qte_of_qt (qt_p (op_elemZ hΓ (enc := (eN .u64)) hx6 rfl rfl rfl rfl rfl (fun _ => rfl)))) ?_
    refine go_E hΓ 1 rfl ?_
    refine ge_litT hΓ (enc := (eN .u64)) [0, 1, 2, 4294967296, 18446744073709551615] rfl rfl rfl rfl rfl rfl rfl rfl rfl rfl rfl rfl ?_
    obtain ⟨y8, hy8, h9⟩ := bi_ok h7
    refine go_E hΓ 1 rfl ?_
    refine ge_h [.box 25 [.d (Sl (eN .i64) y8.2.L), I y8.2.v_at], .box 28 [B false, U 0, U 0]] rfl rfl rfl (st_st trivial) (qte_callF [0] (I y8.1) [.box 25 [.d (Sl (eN .i64) y8.2.L), I y8.2.v_at], .box 28 [B false, U 0, U 0]] (callable Try.func10 rfl rfl) (c_lanemake_Stream_Next hy8) rfl rfl rfl rfl rfl rfl rfl rfl rfl rfl) ?_
    obtain ⟨x10, hx10, h11⟩ := bi_ok h9
    refine ge_q rfl (.inl rfl) (fun _ _ => qte_of_qt (qt_p (op_elemZ hΓ (enc := (eN .u64)) hx10 rfl rfl rfl rfl rfl (fun _ => rfl)))) ?_
    refine go_E hΓ 1 rfl ?_
    refine ge_q rfl (.inl rfl) (fun _ _ => qte_of_qt (qt_p (op_build hΓ (gs := [B true, U x6, U x10]) rfl rfl rfl rfl rfl rfl))) ?_
    refine ge_h0 [.box 25 [.d (Sl (eN .i64) y8.2.L), I y8.2.v_at], .box 28 [B true, U x6, U x10]] rfl rfl (st_st trivial) (qte_u (opu_store2 hΓ rfl rfl rfl rfl rfl rfl rfl rfl rfl)) ?_
    refine ge_fin ?_
    refine go hΓ 4 rfl ?_
    obtain rfl := Option.some.inj h11
    exact fin_objs hΓ [_] (.inr rfl) rfl rfl rfl rfl (.inr ⟨HB.mk rfl, rfl⟩)
  · have h12 := cF h2 hb
    refine go hΓ 6 rfl ?_
    refine j_cond rfl (fun hb => ?_) (fun hb => ?_)
    · have h13 := cT h12 hb
      refine go hΓ 2 rfl ?_
      refine eo_litT hΓ (enc := (eN .u64)) [0, 1, 4294967295, 2130706433, 3232235521] rfl rfl rfl rfl rfl rfl rfl rfl rfl rfl rfl rfl (Nat.le_of_ble_eq_true rfl) ?_
      obtain ⟨y14, hy14, h15⟩ := bi_ok h13
      refine go_ops hΓ 1 rfl ?_
      refine eo_callF [0] (I y14.1) [.box 25 [.d (Sl (eN .i64) y14.2.L), I y14.2.v_at], .box 28 [B false, U 0, U 0]] (callable Try.func10 rfl rfl) (c_lanemake_Stream_Next hy14) rfl (Nat.le_of_ble_eq_true rfl) rfl rfl rfl rfl rfl rfl rfl rfl rfl rfl ?_
      obtain ⟨x16, hx16, h17⟩ := bi_ok h15
      refine eo_o rfl (op_elemZ hΓ (enc := (eN .u64)) hx16 rfl rfl rfl rfl rfl (fun _ => rfl)) ?_
      refine go_ops hΓ 1 rfl ?_
      refine eo_build hΓ (gs := [B false, U 0, U x16]) rfl rfl rfl rfl rfl rfl rfl ?_
      refine eo_store hΓ rfl rfl rfl rfl rfl rfl rfl rfl (Nat.le_of_ble_eq_true rfl) ?_
      refine eo_hp [.box 25 [.d (Sl (eN .i64) y14.2.L), I y14.2.v_at], .box 28 [B false, U 0, U x16]] rfl ?_
      refine go_ops hΓ 5 rfl ?_
      obtain rfl := Option.some.inj h17
      exact fin_objs hΓ [_] (.inr rfl) rfl rfl rfl rfl (.inr ⟨HB.mk rfl, rfl⟩)
    · have h18 := cF h12 hb
      refine go hΓ 6 rfl ?_
      refine j_cond rfl (fun hb => ?_) (fun hb => ?_)
      · have h19 := cT h18 hb
        obtain ⟨y20, hy20, h21⟩ := bi_ok h19
        refine go hΓ 3 rfl ?_
        refine eo_callF [0] (I y20.1) [.box 25 [.d (Sl (eN .i64) y20.2.L), I y20.2.v_at], .box 28 [B false, U 0, U 0]] (callable Try.func13 rfl rfl) (c_lanemake_Stream_Range hy20) rfl (Nat.le_of_ble_eq_true rfl) rfl rfl rfl rfl rfl rfl rfl rfl rfl rfl ?_
        obtain ⟨y22, hy22, h23⟩ := bi_ok h21
        refine go_ops hΓ 2 rfl ?_
        refine eo_o rfl (op_remZ hy22 rfl rfl) ?_
        refine eo_build hΓ (gs := [B false, U 0, U y22]) rfl rfl rfl rfl rfl rfl rfl ?_
        refine eo_store hΓ rfl rfl rfl rfl rfl rfl rfl rfl (Nat.le_of_ble_eq_true rfl) ?_
        refine eo_hp [.box 25 [.d (Sl (eN .i64) y20.2.L), I y20.2.v_at], .box 28 [B false, U 0, U y22]] rfl ?_
        refine go_ops hΓ 5 rfl ?_
        obtain rfl := Option.some.inj h23
        exact fin_objs hΓ [_] (.inr rfl) rfl rfl rfl rfl (.inr ⟨HB.mk rfl, rfl⟩)
      · have h24 := cF h18 hb
        obtain ⟨y25, hy25, h26⟩ := bi_ok h24
        refine go hΓ 6 rfl ?_
        refine eo_callF [0] (I y25.1) [.box 25 [.d (Sl (eN .i64) y25.2.L), I y25.2.v_at], .box 28 [B false, U 0, U 0]] (callable Try.func13 rfl rfl) (c_lanemake_Stream_Range hy25) rfl (Nat.le_of_ble_eq_true rfl) rfl rfl rfl rfl rfl rfl rfl rfl rfl rfl ?_
        refine go_ops hΓ 2 rfl ?_
        refine eo_build hΓ (gs := [B false, U 0, .d (.v (.int .u64 (IntKind.u64.wrap (167772160 + (IntKind.u64.wrap (y25.1))))))]) rfl rfl rfl rfl rfl rfl rfl ?_
        refine eo_store hΓ rfl rfl rfl rfl rfl rfl rfl rfl (Nat.le_of_ble_eq_true rfl) ?_
        refine eo_hp [.box 25 [.d (Sl (eN .i64) y25.2.L), I y25.2.v_at], .box 28 [B false, U 0, .d (.v (.int .u64 (IntKind.u64.wrap (167772160 + (IntKind.u64.wrap (y25.1))))))]] rfl ?_
        refine go_ops hΓ 3 rfl ?_
        obtain rfl := Option.some.inj h26
        exact fin_objs hΓ [_] (.inr rfl) rfl rfl rfl rfl (.inr ⟨HB.mk rfl, rfl⟩)
theorem c_lanemake_Stream_Raw {s : T_lanemake_Stream} {r : T_api_Addr × T_lanemake_Stream} (h : m_lanemake_Stream_Raw s = some r) : EC Try.prog 26 [.ptr 0 0] [.box 25 [.d (Sl (eN .i64) s.L), I s.v_at]] fun g hp' => g = .agg [B r.1.Six, U r.1.Hi, U r.1.Lo] ∧ hp' = [.box 25 [.d (Sl (eN .i64) r.2.L), I r.2.v_at]] := by
  refine ec_enter (Fr.of 0 _) Try.func26 rfl (Fr.of_ok _) (Nat.le_of_ble_eq_true rfl) fun _ => ?_
  refine go_in ?_
  unfold m_lanemake_Stream_Raw at h
  refine go hΓ 2 rfl ?_
  refine eo_alloc hΓ rfl rfl rfl (Nat.le_of_ble_eq_true rfl) ?_
  obtain ⟨y1, hy1, h2⟩ := bi_ok h
  refine go_ops hΓ 5 rfl ?_
  refine eo_callF [0] (.agg [B y1.1.Six, U y1.1.Hi, U y1.1.Lo]) [.box 25 [.d (Sl (eN .i64) y1.2.L), I y1.2.v_at], .box 28 [B false, U 0, U 0]] (callable Try.func58 rfl rfl) (c_lanemake_Stream_Addr hy1) rfl (Nat.le_of_ble_eq_true rfl) rfl rfl rfl rfl rfl rfl rfl rfl rfl rfl ?_
  refine eo_alloc hΓ rfl rfl rfl (Nat.le_of_ble_eq_true rfl) ?_
  refine eo_store hΓ rfl rfl rfl rfl rfl rfl rfl rfl (Nat.le_of_ble_eq_true rfl) ?_
  refine eo_hp [.box 25 [.d (Sl (eN .i64) y1.2.L), I y1.2.v_at], .box 28 [B false, U 0, U 0], .box 28 [B y1.1.Six, U y1.1.Hi, U y1.1.Lo]] rfl ?_
  obtain ⟨y3, hy3, h4⟩ := bi_ok h2
  refine go_ops hΓ 6 rfl ?_
  refine eo_callF [0] (B y3.1) [.box 25 [.d (Sl (eN .i64) y3.2.L), I y3.2.v_at], .box 28 [B false, U 0, U 0], .box 28 [B y1.1.Six, U y1.1.Hi, U y1.1.Lo]] (callable Try.func12 rfl rfl) (c_lanemake_Stream_Flip hy3) rfl (Nat.le_of_ble_eq_true rfl) rfl rfl rfl rfl rfl rfl rfl rfl rfl rfl ?_
  refine go_ops hΓ 2 rfl ?_
  refine j_cond rfl (fun hb => ?_) (fun hb => ?_)
  · have h5 := cT h4 hb
    obtain ⟨y6, hy6, h7⟩ := bi_ok h5
    refine go hΓ 3 rfl ?_
    refine eo_callF [0] (I y6.1) [.box 25 [.d (Sl (eN .i64) y6.2.L), I y6.2.v_at], .box 28 [B false, U 0, U 0], .box 28 [B y1.1.Six, U y1.1.Hi, U y1.1.Lo]] (callable Try.func10 rfl rfl) (c_lanemake_Stream_Next hy6) rfl (Nat.le_of_ble_eq_true rfl) rfl rfl rfl rfl rfl rfl rfl rfl rfl rfl ?_
    refine go_ops hΓ 1 rfl ?_
    refine eo_litT hΓ (enc := (eN .u64)) [4294967296, 5, 1099511627776] rfl rfl rfl rfl rfl rfl rfl rfl rfl rfl rfl rfl (Nat.le_of_ble_eq_true rfl) ?_
    obtain ⟨y8, hy8, h9⟩ := bi_ok h7
    refine go_ops hΓ 1 rfl ?_
    refine eo_callF [0] (I y8.1) [.box 25 [.d (Sl (eN .i64) y8.2.L), I y8.2.v_at], .box 28 [B false, U 0, U 0], .box 28 [B y1.1.Six, U y1.1.Hi, U y1.1.Lo]] (callable Try.func10 rfl rfl) (c_lanemake_Stream_Next hy8) rfl (Nat.le_of_ble_eq_true rfl) rfl rfl rfl rfl rfl rfl rfl rfl rfl rfl ?_
    obtain ⟨x10, hx10, h11⟩ := bi_ok h9
    refine eo_o rfl (op_elemZ hΓ (enc := (eN .u64)) hx10 rfl rfl rfl rfl rfl (fun _ => rfl)) ?_
    refine go_ops hΓ 1 rfl ?_
    refine eo_build hΓ (gs := [B false, .d (.v (.int .u64 (IntKind.u64.wrap (y6.1)))), U x10]) rfl rfl rfl rfl rfl rfl rfl ?_
    refine eo_store hΓ rfl rfl rfl rfl rfl rfl rfl rfl (Nat.le_of_ble_eq_true rfl) ?_
    refine eo_hp [.box 25 [.d (Sl (eN .i64) y8.2.L), I y8.2.v_at], .box 28 [B false, .d (.v (.int .u64 (IntKind.u64.wrap (y6.1)))), U x10], .box 28 [B y1.1.Six, U y1.1.Hi, U y1.1.Lo]] rfl ?_
    refine go_ops hΓ 4 rfl ?_
    obtain rfl := Option.some.inj h11
    exact fin_objs hΓ [_, _] (.inr rfl) rfl rfl rfl rfl (.inr ⟨HB.mk rfl, rfl⟩)
  · have h12 := cF h4 hb
    refine go hΓ 5 rfl ?_
    refine eo_store hΓ rfl rfl rfl rfl rfl rfl rfl rfl (Nat.le_of_ble_eq_true rfl) ?_
    refine eo_hp [.box 25 [.d (Sl (eN .i64) y3.2.L), I y3.2.v_at], .box 28 [B y1.1.Six, U y1.1.Hi, U y1.1.Lo], .box 28 [B y1.1.Six, U y1.1.Hi, U y1.1.Lo]] rfl ?_
    refine go_ops hΓ 3 rfl ?_
    obtain rfl := Option.some.inj h12
    exact fin_objs hΓ [_, _] (.inr rfl) rfl rfl rfl rfl (.inr ⟨HB.mk rfl, rfl⟩)
set_option maxHeartbeats 8000000 in
theorem c_lanemake_Stream_Nat {s : T_lanemake_Stream} {r : T_api_Nat × T_lanemake_Stream} (h : m_lanemake_Stream_Nat s = some r) : EC Try.prog 5 [.ptr 0 0] [.box 25 [.d (Sl (eN .i64) s.L), I s.v_at]] fun g hp' => g = .agg [I r.1.Maps, I r.1.Lets, I r.1.Timeout, I r.1.First, I r.1.Ports, B r.1.Outer.Six, U r.1.Outer.Hi, U r.1.Outer.Lo] ∧ hp' = [.box 25 [.d (Sl (eN .i64) r.2.L), I r.2.v_at]] := by
  refine ec_enter (Fr.of 0 _) Try.func5 rfl (Fr.of_ok _) (Nat.le_of_ble_eq_true rfl) fun _ => ?_
  refine go_in ?_
  unfold m_lanemake_Stream_Nat at h
  refine go hΓ 2 rfl ?_
  refine eo_alloc hΓ rfl rfl rfl (Nat.le_of_ble_eq_true rfl) ?_
  obtain ⟨y1, hy1, h2⟩ := bi_ok h
  refine go_ops hΓ 5 rfl ?_
  refine eo_callF [0] (I y1.1) [.box 25 [.d (Sl (eN .i64) y1.2.L), I y1.2.v_at], .box 30 [I 0, I 0, I 0, I 0, I 0, B false, U 0, U 0]] (callable Try.func13 rfl rfl) (c_lanemake_Stream_Range hy1) rfl (Nat.le_of_ble_eq_true rfl) rfl rfl rfl rfl rfl rfl rfl rfl rfl rfl ?_
  obtain ⟨y3, hy3, h4⟩ := bi_ok h2
  refine go_ops hΓ 1 rfl ?_
  refine eo_callF [0] (I y3.1) [.box 25 [.d (Sl (eN .i64) y3.2.L), I y3.2.v_at], .box 30 [I 0, I 0, I 0, I 0, I 0, B false, U 0, U 0]] (callable Try.func13 rfl rfl) (c_lanemake_Stream_Range hy3) rfl (Nat.le_of_ble_eq_true rfl) rfl rfl rfl rfl rfl rfl rfl rfl rfl rfl ?_
  refine go_ops hΓ 1 rfl ?_
  refine eo_litT hΓ (enc := (eN .i64)) [1, 2, 5, 30] rfl rfl rfl rfl rfl rfl rfl rfl rfl rfl rfl rfl (Nat.le_of_ble_eq_true rfl) ?_
  obtain ⟨y5, hy5, h6⟩ := bi_ok h4
  refine eo_callF [0] (I y5.1) [.box 25 [.d (Sl (eN .i64) y5.2.L), I y5.2.v_at], .box 30 [I 0, I 0, I 0, I 0, I 0, B false, U 0, U 0]] (callable Try.func11 rfl rfl) (c_lanemake_Stream_Pick hy5) rfl (Nat.le_of_ble_eq_true rfl) rfl rfl rfl rfl rfl rfl rfl rfl rfl rfl ?_
  refine go_ops hΓ 1 rfl ?_
  refine eo_litT hΓ (enc := (eN .i64)) [1, 5000, 65530] rfl rfl rfl rfl rfl rfl rfl rfl rfl rfl rfl rfl (Nat.le_of_ble_eq_true rfl) ?_
  obtain ⟨y7, hy7, h8⟩ := bi_ok h6
  refine eo_callF [0] (I y7.1) [.box 25 [.d (Sl (eN .i64) y7.2.L), I y7.2.v_at], .box 30 [I 0, I 0, I 0, I 0, I 0, B false, U 0, U 0]] (callable Try.func11 rfl rfl) (c_lanemake_Stream_Pick hy7) rfl (Nat.le_of_ble_eq_true rfl) rfl rfl rfl rfl rfl rfl rfl rfl rfl rfl ?_
  refine go_ops hΓ 1 rfl ?_
  refine eo_litT hΓ (enc := (eN .i64)) [1, 2, 3, 6] rfl rfl rfl rfl rfl rfl rfl rfl rfl rfl rfl rfl (Nat.le_of_ble_eq_true rfl) ?_
  obtain ⟨y9, hy9, h10⟩ := bi_ok h8
  refine eo_callF [0] (I y9.1) [.box 25 [.d (Sl (eN .i64) y9.2.L), I y9.2.v_at], .box 30 [I 0, I 0, I 0, I 0, I 0, B false, U 0, U 0]] (callable Try.func11 rfl rfl) (c_lanemake_Stream_Pick hy9) rfl (Nat.le_of_ble_eq_true rfl) rfl rfl rfl rfl rfl rfl rfl rfl rfl rfl ?_
  obtain ⟨y11, hy11, h12⟩ := bi_ok h10
  refine go_ops hΓ 1 rfl ?_
  refine eo_callF [0] (I y11.1) [.box 25 [.d (Sl (eN .i64) y11.2.L), I y11.2.v_at], .box 30 [I 0, I 0, I 0, I 0, I 0, B false, U 0, U 0]] (callable Try.func13 rfl rfl) (c_lanemake_Stream_Range hy11) rfl (Nat.le_of_ble_eq_true rfl) rfl rfl rfl rfl rfl rfl rfl rfl rfl rfl ?_
  obtain ⟨y13, hy13, h14⟩ := bi_ok h12
  refine eo_callP (callable Try.func24 rfl rfl) (c_lanemake_at hy13) rfl (Nat.le_of_ble_eq_true rfl) rfl rfl rfl rfl rfl ?_
  refine eo_build hΓ (gs := [I y1.1, I y3.1, I y5.1, I y7.1, I y9.1, B y13.Six, U y13.Hi, U y13.Lo]) rfl rfl rfl rfl rfl rfl rfl ?_
  refine eo_alloc hΓ rfl rfl rfl (Nat.le_of_ble_eq_true rfl) ?_
  refine eo_store hΓ rfl rfl rfl rfl rfl rfl rfl rfl (Nat.le_of_ble_eq_true rfl) ?_
  refine eo_hp [.box 25 [.d (Sl (eN .i64) y11.2.L), I y11.2.v_at], .box 30 [I 0, I 0, I 0, I 0, I 0, B false, U 0, U 0], .box 30 [I y1.1, I y3.1, I y5.1, I y7.1, I y9.1, B y13.Six, U y13.Hi, U y13.Lo]] rfl ?_
  obtain ⟨y15, hy15, h16⟩ := bi_ok h14
  refine go_ops hΓ 6 rfl ?_
  refine eo_callF [0] (B y15.1) [.box 25 [.d (Sl (eN .i64) y15.2.L), I y15.2.v_at], .box 30 [I 0, I 0, I 0, I 0, I 0, B false, U 0, U 0], .box 30 [I y1.1, I y3.1, I y5.1, I y7.1, I y9.1, B y13.Six, U y13.Hi, U y13.Lo]] (callable Try.func12 rfl rfl) (c_lanemake_Stream_Flip hy15) rfl (Nat.le_of_ble_eq_true rfl) rfl rfl rfl rfl rfl rfl rfl rfl rfl rfl ?_
  obtain ⟨q17, hq17, h18⟩ := bi_ok h16
  refine go_ops hΓ 2 rfl ?_
  refine j_cutNZ [(2, .ptr 1 0), (3, .ptr 2 0)] [.box 25 [.d (Sl (eN .i64) q17.1.L), I q17.1.v_at], .box 30 [I 0, I 0, I 0, I 0, I 0, B false, U 0, U 0], .box 30 [I q17.2.Maps, I q17.2.Lets, I q17.2.Timeout, I q17.2.First, I q17.2.Ports, B q17.2.Outer.Six, U q17.2.Outer.Hi, U q17.2.Outer.Lo]] ?_ ?_
  · refine j_cond rfl (fun hb => ?_) (fun hb => ?_)
    · have h19 := cT hq17 hb
      obtain ⟨y20, hy20, h21⟩ := bi_ok h19
      refine go hΓ 2 rfl ?_
      refine eo_callF [0] (I y20.1) [.box 25 [.d (Sl (eN .i64) y20.2.L), I y20.2.v_at], .box 30 [I 0, I 0, I 0, I 0, I 0, B false, U 0, U 0], .box 30 [I y1.1, I y3.1, I y5.1, I y7.1, I y9.1, B y13.Six, U y13.Hi, U y13.Lo]] (callable Try.func25 rfl rfl) (c_lanemake_Stream_Odd hy20) rfl (Nat.le_of_ble_eq_true rfl) rfl rfl rfl rfl rfl rfl rfl rfl rfl rfl ?_
      obtain ⟨y22, hy22, h23⟩ := bi_ok h21
      refine go_ops hΓ 1 rfl ?_
      refine eo_callF [0] (I y22.1) [.box 25 [.d (Sl (eN .i64) y22.2.L), I y22.2.v_at], .box 30 [I 0, I 0, I 0, I 0, I 0, B false, U 0, U 0], .box 30 [I y1.1, I y3.1, I y5.1, I y7.1, I y9.1, B y13.Six, U y13.Hi, U y13.Lo]] (callable Try.func25 rfl rfl) (c_lanemake_Stream_Odd hy22) rfl (Nat.le_of_ble_eq_true rfl) rfl rfl rfl rfl rfl rfl rfl rfl rfl rfl ?_
      obtain ⟨y24, hy24, h25⟩ := bi_ok h23
      refine go_ops hΓ 1 rfl ?_
      refine eo_callF [0] (I y24.1) [.box 25 [.d (Sl (eN .i64) y24.2.L), I y24.2.v_at], .box 30 [I 0, I 0, I 0, I 0, I 0, B false, U 0, U 0], .box 30 [I y1.1, I y3.1, I y5.1, I y7.1, I y9.1, B y13.Six, U y13.Hi, U y13.Lo]] (callable Try.func25 rfl rfl) (c_lanemake_Stream_Odd hy24) rfl (Nat.le_of_ble_eq_true rfl) rfl rfl rfl rfl rfl rfl rfl rfl rfl rfl ?_
      obtain ⟨y26, hy26, h27⟩ := bi_ok h25
      refine go_ops hΓ 1 rfl ?_
      refine eo_callF [0] (I y26.1) [.box 25 [.d (Sl (eN .i64) y26.2.L), I y26.2.v_at], .box 30 [I 0, I 0, I 0, I 0, I 0, B false, U 0, U 0], .box 30 [I y1.1, I y3.1, I y5.1, I y7.1, I y9.1, B y13.Six, U y13.Hi, U y13.Lo]] (callable Try.func25 rfl rfl) (c_lanemake_Stream_Odd hy26) rfl (Nat.le_of_ble_eq_true rfl) rfl rfl rfl rfl rfl rfl rfl rfl rfl rfl ?_
      obtain ⟨y28, hy28, h29⟩ := bi_ok h27
      refine go_ops hΓ 1 rfl ?_
      refine eo_callF [0] (.agg [B y28.1.Six, U y28.1.Hi, U y28.1.Lo]) [.box 25 [.d (Sl (eN .i64) y28.2.L), I y28.2.v_at], .box 30 [I 0, I 0, I 0, I 0, I 0, B false, U 0, U 0], .box 30 [I y1.1, I y3.1, I y5.1, I y7.1, I y9.1, B y13.Six, U y13.Hi, U y13.Lo]] (callable Try.func26 rfl rfl) (c_lanemake_Stream_Raw hy28) rfl (Nat.le_of_ble_eq_true rfl) rfl rfl rfl rfl rfl rfl rfl rfl rfl rfl ?_
      refine go_ops hΓ 1 rfl ?_
      refine eo_store hΓ rfl rfl rfl rfl rfl rfl rfl rfl (Nat.le_of_ble_eq_true rfl) ?_
      refine eo_hp [.box 25 [.d (Sl (eN .i64) y28.2.L), I y28.2.v_at], .box 30 [I 0, I 0, I 0, I 0, I 0, B false, U 0, U 0], .box 30 [I y20.1, I y3.1, I y5.1, I y7.1, I y9.1, B y13.Six, U y13.Hi, U y13.Lo]] rfl ?_
      refine go_ops hΓ 1 rfl ?_
      refine eo_store hΓ rfl rfl rfl rfl rfl rfl rfl rfl (Nat.le_of_ble_eq_true rfl) ?_
      refine eo_hp [.box 25 [.d (Sl (eN .i64) y28.2.L), I y28.2.v_at], .box 30 [I 0, I 0, I 0, I 0, I 0, B false, U 0, U 0], .box 30 [I y20.1, I y22.1, I y5.1, I y7.1, I y9.1, B y13.Six, U y13.Hi, U y13.Lo]] rfl ?_
      refine go_ops hΓ 1 rfl ?_
      refine eo_store hΓ rfl rfl rfl rfl rfl rfl rfl rfl (Nat.le_of_ble_eq_true rfl) ?_
      refine eo_hp [.box 25 [.d (Sl (eN .i64) y28.2.L), I y28.2.v_at], .box 30 [I 0, I 0, I 0, I 0, I 0, B false, U 0, U 0], .box 30 [I y20.1, I y22.1, I y24.1, I y7.1, I y9.1, B y13.Six, U y13.Hi, U y13.Lo]] rfl ?_
      refine go_ops hΓ 1 rfl ?_
      refine eo_store hΓ rfl rfl rfl rfl rfl rfl rfl rfl (Nat.le_of_ble_eq_true rfl) ?_
      refine eo_hp [.box 25 [.d (Sl (eN .i64) y28.2.L), I y28.2.v_at], .box 30 [I 0, I 0, I 0, I 0, I 0, B false, U 0, U 0], .box 30 [I y20.1, I y22.1, I y24.1, I y26.1, I y9.1, B y13.Six, U y13.Hi, U y13.Lo]] rfl ?_
      refine go_ops hΓ 1 rfl ?_
      refine eo_store hΓ rfl rfl rfl rfl rfl rfl rfl rfl (Nat.le_of_ble_eq_true rfl) ?_
      refine eo_hp [.box 25 [.d (Sl (eN .i64) y28.2.L), I y28.2.v_at], .box 30 [I 0, I 0, I 0, I 0, I 0, B false, U 0, U 0], .box 30 [I y20.1, I y22.1, I y24.1, I y26.1, I y9.1, B y28.1.Six, U y28.1.Hi, U y28.1.Lo]] rfl ?_
      refine go_ops hΓ 1 rfl ?_
      obtain rfl := Option.some.inj h29
      exact ⟨⟨rfl, rfl, trivial⟩, [], rfl, .inl rfl⟩
    · have h30 := cF hq17 hb
      refine go hΓ 1 rfl ?_
      obtain rfl := Option.some.inj h30
      exact ⟨⟨rfl, rfl, trivial⟩, [], rfl, .inl rfl⟩
  · refine go hΓ 4 rfl ?_
    refine eo_store hΓ rfl rfl rfl rfl rfl rfl rfl rfl (Nat.le_of_ble_eq_true rfl) ?_
    refine eo_hp [.box 25 [.d (Sl (eN .i64) q17.1.L), I q17.1.v_at], .box 30 [I q17.2.Maps, I q17.2.Lets, I q17.2.Timeout, I q17.2.First, I q17.2.Ports, B q17.2.Outer.Six, U q17.2.Outer.Hi, U q17.2.Outer.Lo], .box 30 [I q17.2.Maps, I q17.2.Lets, I q17.2.Timeout, I q17.2.First, I q17.2.Ports, B q17.2.Outer.Six, U q17.2.Outer.Hi, U q17.2.Outer.Lo]] rfl ?_
    refine go_ops hΓ 3 rfl ?_
    obtain rfl := Option.some.inj h18
    exact fin_objs hΓ [_, _] (.inr rfl) rfl rfl rfl rfl (.inr ⟨HB.mk rfl, rfl⟩)
theorem c_kit_Outside {n : Int} {low : Int} {high : Int} {r : Bool} (h : m_kit_Outside n low high = some r) : Pure Try.prog 53 [I n, I low, I high] (B r) := by
  refine Pure.enter (Fr.of 0 _) Try.func53 rfl (Fr.of_ok _) rfl rfl ?_
  refine go_in ?_
  unfold m_kit_Outside at h
  refine go hΓ 11 rfl ?_
  refine o_cut 4 [(6, B false), (14, B ((decide ((n : Int) < low)) || (decide ((n : Int) > high))))] [] ?_ ?_
  · refine eo_gsplit rfl rfl (fun hb => ?_) (fun hb => ?_)
    · refine go_ops hΓ 5 rfl ?_
      exact ⟨⟨rfl, get_b rfl (or_t hb), trivial⟩, [], rfl, .inl rfl⟩
    · refine go_ops hΓ 5 rfl ?_
      exact ⟨⟨rfl, get_b rfl (or_f hb), trivial⟩, [], rfl, .inl rfl⟩
  · refine go_ops hΓ 4 rfl ?_
    obtain rfl := Option.some.inj h
    exact fin_pure hΓ (.inr rfl) rfl rfl
theorem c_addr_CheckAddr {a : T_api_Addr} {r : Int} (h : m_addr_CheckAddr a = some r) : Pure Try.prog 59 [.agg [B a.Six, U a.Hi, U a.Lo]] (I r) := by
  refine Pure.enter (Fr.of 0 _) Try.func59 rfl (Fr.of_ok _) rfl rfl ?_
  refine go_in ?_
  unfold m_addr_CheckAddr at h
  refine go hΓ 2 rfl ?_
  refine eo_box rfl rfl rfl rfl (Nat.le_of_ble_eq_true rfl) ?_
  refine go_ops hΓ 10 rfl ?_
  refine o_cut 9 [(15, B ((!a.Six) && (((a.Hi : Int) != 0) || (decide ((a.Lo : Int) ≥ 4294967296)))))] [.box 28 [B a.Six, U a.Hi, U a.Lo]] ?_ ?_
  · refine eo_gsplit rfl rfl (fun hb => ?_) (fun hb => ?_)
    · refine go_ops hΓ 4 rfl ?_
      refine o_cut 4 [(6, B true), (14, B (((a.Hi : Int) != 0) || (decide ((a.Lo : Int) ≥ 4294967296))))] [.box 28 [B a.Six, U a.Hi, U a.Lo]] ?_ ?_
      · refine eo_gsplit rfl rfl (fun hb => ?_) (fun hb => ?_)
        · refine go_ops hΓ 5 rfl ?_
          exact ⟨⟨rfl, get_b rfl (or_t hb), trivial⟩, [], rfl, .inl rfl⟩
        · refine go_ops hΓ 5 rfl ?_
          exact ⟨⟨rfl, get_b rfl (or_f hb), trivial⟩, [], rfl, .inl rfl⟩
      · refine go_ops hΓ 2 rfl ?_
        exact ⟨⟨get_b rfl (and_t hb), trivial⟩, [], rfl, .inl rfl⟩
    · refine go_ops hΓ 10 rfl ?_
      exact ⟨⟨get_b rfl (and_f hb), trivial⟩, [], rfl, .inl rfl⟩
  · refine go_ops hΓ 2 rfl ?_
    refine j_cond rfl (fun hb => ?_) (fun hb => ?_)
    · have h1 := cT h hb
      refine go hΓ 7 rfl ?_
      obtain rfl := Option.some.inj h1
      exact fin_pure hΓ (.inr rfl) rfl rfl
    · have h2 := cF h hb
      refine go hΓ 8 rfl ?_
      obtain rfl := Option.some.inj h2
      exact fin_pure hΓ (.inr rfl) rfl rfl
set_option maxHeartbeats 8000000 in
theorem c_route_natFault {n : T_api_Nat} {r : Int} (h : m_route_natFault n = some r) : Pure Try.prog 27 [.agg [I n.Maps, I n.Lets, I n.Timeout, I n.First, I n.Ports, B n.Outer.Six, U n.Outer.Hi, U n.Outer.Lo]] (I r) := by
  refine Pure.enter (Fr.of 0 _) Try.func27 rfl (Fr.of_ok _) rfl rfl ?_
  refine go_in ?_
  unfold m_route_natFault at h
  refine go hΓ 2 rfl ?_
  refine eo_box rfl rfl rfl rfl (Nat.le_of_ble_eq_true rfl) ?_
  obtain ⟨y1, hy1, h2⟩ := bi_ok h
  refine go_ops hΓ 8 rfl ?_
  refine eo_callP (callable Try.func53 rfl rfl) (c_kit_Outside hy1) rfl (Nat.le_of_ble_eq_true rfl) rfl rfl rfl rfl rfl ?_
  refine go_ops hΓ 1 rfl ?_
  obtain ⟨q3, hq3, h4⟩ := bi_ok h2
  refine o_cut 4 [(1, .ptr 0 0), (10, B q3)] [.box 30 [I n.Maps, I n.Lets, I n.Timeout, I n.First, I n.Ports, B n.Outer.Six, U n.Outer.Hi, U n.Outer.Lo]] ?_ ?_
  · refine eo_gsplit rfl rfl (fun hb => ?_) (fun hb => ?_)
    · have h5 := cT hq3 hb
      refine go_ops hΓ 5 rfl ?_
      obtain rfl := Option.some.inj h5
      exact ⟨⟨rfl, rfl, trivial⟩, [], rfl, .inl rfl⟩
    · have h6 := cF hq3 hb
      obtain ⟨y7, hy7, h8⟩ := bi_ok h6
      refine go_ops hΓ 2 rfl ?_
      refine eo_guard rfl ?_
      refine eo_callP (callable Try.func53 rfl rfl) (c_kit_Outside hy7) rfl (Nat.le_of_ble_eq_true rfl) rfl rfl rfl rfl rfl ?_
      refine go_ops hΓ 2 rfl ?_
      obtain rfl := Option.some.inj h8
      exact ⟨⟨rfl, rfl, trivial⟩, [], rfl, .inl rfl⟩
  · refine go_ops hΓ 2 rfl ?_
    refine j_cond rfl (fun hb => ?_) (fun hb => ?_)
    · have h9 := cT h4 hb
      refine go hΓ 7 rfl ?_
      obtain rfl := Option.some.inj h9
      exact fin_pure hΓ (.inr rfl) rfl rfl
    · have h10 := cF h4 hb
      obtain ⟨y11, hy11, h12⟩ := bi_ok h10
      refine go hΓ 7 rfl ?_
      refine eo_callP (callable Try.func53 rfl rfl) (c_kit_Outside hy11) rfl (Nat.le_of_ble_eq_true rfl) rfl rfl rfl rfl rfl ?_
      refine go_ops hΓ 1 rfl ?_
      obtain ⟨q13, hq13, h14⟩ := bi_ok h12
      refine o_cut 4 [(1, .ptr 0 0), (18, B q13)] [.box 30 [I n.Maps, I n.Lets, I n.Timeout, I n.First, I n.Ports, B n.Outer.Six, U n.Outer.Hi, U n.Outer.Lo]] ?_ ?_
      · refine eo_gsplit rfl rfl (fun hb => ?_) (fun hb => ?_)
        · have h15 := cT hq13 hb
          refine go_ops hΓ 5 rfl ?_
          obtain rfl := Option.some.inj h15
          exact ⟨⟨rfl, rfl, trivial⟩, [], rfl, .inl rfl⟩
        · have h16 := cF hq13 hb
          obtain ⟨y17, hy17, h18⟩ := bi_ok h16
          refine go_ops hΓ 2 rfl ?_
          refine eo_guard rfl ?_
          refine eo_callP (callable Try.func53 rfl rfl) (c_kit_Outside hy17) rfl (Nat.le_of_ble_eq_true rfl) rfl rfl rfl rfl rfl ?_
          refine go_ops hΓ 2 rfl ?_
          obtain rfl := Option.some.inj h18
          exact ⟨⟨rfl, rfl, trivial⟩, [], rfl, .inl rfl⟩
      · refine go_ops hΓ 1 rfl ?_
        obtain ⟨q19, hq19, h20⟩ := bi_ok h14
        refine o_cut 7 [(1, .ptr 0 0), (26, B q19)] [.box 30 [I n.Maps, I n.Lets, I n.Timeout, I n.First, I n.Ports, B n.Outer.Six, U n.Outer.Hi, U n.Outer.Lo]] ?_ ?_
        · refine eo_gsplit rfl rfl (fun hb => ?_) (fun hb => ?_)
          · have h21 := cT hq19 hb
            refine go_ops hΓ 8 rfl ?_
            obtain rfl := Option.some.inj h21
            exact ⟨⟨rfl, rfl, trivial⟩, [], rfl, .inl rfl⟩
          · have h22 := cF hq19 hb
            obtain ⟨y23, hy23, h24⟩ := bi_ok h22
            refine go_ops hΓ 5 rfl ?_
            refine eo_guard rfl ?_
            refine eo_callP (callable Try.func53 rfl rfl) (c_kit_Outside hy23) rfl (Nat.le_of_ble_eq_true rfl) rfl rfl rfl rfl rfl ?_
            refine go_ops hΓ 2 rfl ?_
            obtain rfl := Option.some.inj h24
            exact ⟨⟨rfl, rfl, trivial⟩, [], rfl, .inl rfl⟩
        · refine go_ops hΓ 2 rfl ?_
          refine j_cond rfl (fun hb => ?_) (fun hb => ?_)
          · have h25 := cT h20 hb
            refine go hΓ 7 rfl ?_
            obtain rfl := Option.some.inj h25
            exact fin_pure hΓ (.inr rfl) rfl rfl
          · have h26 := cF h20 hb
            obtain ⟨y27, hy27, h28⟩ := bi_ok h26
            refine go hΓ 6 rfl ?_
            refine eo_callP (callable Try.func59 rfl rfl) (c_addr_CheckAddr hy27) rfl (Nat.le_of_ble_eq_true rfl) rfl rfl rfl rfl rfl ?_
            refine go_ops hΓ 4 rfl ?_
            obtain rfl := Option.some.inj h28
            exact fin_pure hΓ (.inr rfl) rfl rfl
theorem c_route_inner {r : T_api_Spot} (h : m_route_inner = some r) : Pure Try.prog 54 [] (.agg [B r.Addr.Six, U r.Addr.Hi, U r.Addr.Lo, I r.Port]) := by
  refine Pure.enter (Fr.of 0 _) Try.func54 rfl (Fr.of_ok _) rfl rfl ?_
  refine go_in ?_
  unfold m_route_inner at h
  refine go hΓ 2 rfl ?_
  refine eo_alloc hΓ rfl rfl rfl (Nat.le_of_ble_eq_true rfl) ?_
  refine go_ops hΓ 4 rfl ?_
  refine eo_build hΓ (gs := [B false, U 0, U 167772161]) rfl rfl rfl rfl rfl rfl rfl ?_
  refine eo_build hΓ (gs := [B false, U 0, U 167772161, I 1000]) rfl rfl rfl rfl rfl rfl rfl ?_
  refine eo_store hΓ rfl rfl rfl rfl rfl rfl rfl rfl (Nat.le_of_ble_eq_true rfl) ?_
  refine eo_hp [.box 45 [B false, U 0, U 167772161, I 1000]] rfl ?_
  refine go_ops hΓ 3 rfl ?_
  obtain rfl := Option.some.inj h
  exact fin_pure hΓ (.inr rfl) rfl rfl
theorem c_kit_IsMoment {n : Int} {r : Bool} (h : m_kit_IsMoment n = some r) : Pure Try.prog 83 [I n] (B r) := by
  refine Pure.enter (Fr.of 0 _) Try.func83 rfl (Fr.of_ok _) rfl rfl ?_
  refine go_in ?_
  unfold m_kit_IsMoment at h
  refine go hΓ 10 rfl ?_
  refine o_cut 3 [(2, B false), (8, B ((decide ((n : Int) ≥ 0)) && (decide ((n : Int) < 345686400))))] [] ?_ ?_
  · refine eo_gsplit rfl rfl (fun hb => ?_) (fun hb => ?_)
    · refine go_ops hΓ 4 rfl ?_
      exact ⟨⟨rfl, get_b rfl (and_t hb), trivial⟩, [], rfl, .inl rfl⟩
    · refine go_ops hΓ 4 rfl ?_
      exact ⟨⟨rfl, get_b rfl (and_f hb), trivial⟩, [], rfl, .inl rfl⟩
  · refine go_ops hΓ 4 rfl ?_
    obtain rfl := Option.some.inj h
    exact fin_pure hΓ (.inr rfl) rfl rfl
theorem c_route_momentFault {v_at : Int} {r : Int} (h : m_route_momentFault v_at = some r) : Pure Try.prog 63 [I v_at] (I r) := by
  refine Pure.enter (Fr.of 0 _) Try.func63 rfl (Fr.of_ok _) rfl rfl ?_
  refine go_in ?_
  unfold m_route_momentFault at h
  obtain ⟨y1, hy1, h2⟩ := bi_ok h
  refine go hΓ 9 rfl ?_
  refine eo_callP (callable Try.func83 rfl rfl) (c_kit_IsMoment hy1) rfl (Nat.le_of_ble_eq_true rfl) rfl rfl rfl rfl rfl ?_
  refine go_ops hΓ 3 rfl ?_
  refine j_cond rfl (fun hb => ?_) (fun hb => ?_)
  · have h3 := cT h2 hb
    refine go hΓ 7 rfl ?_
    obtain rfl := Option.some.inj h3
    exact fin_pure hΓ (.inr rfl) rfl rfl
  · have h4 := cF h2 hb
    refine go hΓ 8 rfl ?_
    obtain rfl := Option.some.inj h4
    exact fin_pure hΓ (.inr rfl) rfl rfl
theorem c_route_Translator_timeFault {t : T_route_Translator} {v_at : Int} {r : Int} (h : m_route_Translator_timeFault t v_at = some r) : EC Try.prog 33 [.ptr 1 0, I v_at] [.row 86 11 t.list.length (t.list.flatMap e_route_entry), .box 64 [I t.nat.Maps, I t.nat.Lets, I t.nat.Timeout, I t.nat.First, I t.nat.Ports, B t.nat.Outer.Six, U t.nat.Outer.Hi, U t.nat.Outer.Lo, I t.now, I t.v_next, .sl 0 t.list.length]] fun g hp' => g = I r ∧ hp' = [.row 86 11 t.list.length (t.list.flatMap e_route_entry), .box 64 [I t.nat.Maps, I t.nat.Lets, I t.nat.Timeout, I t.nat.First, I t.nat.Ports, B t.nat.Outer.Six, U t.nat.Outer.Hi, U t.nat.Outer.Lo, I t.now, I t.v_next, .sl 0 t.list.length]] := by
  refine ec_enter (Fr.of 0 _) Try.func33 rfl (Fr.of_ok _) (Nat.le_of_ble_eq_true rfl) fun _ => ?_
  refine go_in ?_
  unfold m_route_Translator_timeFault at h
  obtain ⟨y1, hy1, h2⟩ := bi_ok h
  refine go hΓ 9 rfl ?_
  refine eo_callP (callable Try.func63 rfl rfl) (c_route_momentFault hy1) rfl (Nat.le_of_ble_eq_true rfl) rfl rfl rfl rfl rfl ?_
  refine go_ops hΓ 9 rfl ?_
  refine j_cond rfl (fun hb => ?_) (fun hb => ?_)
  · have h3 := cT h2 hb
    refine go hΓ 8 rfl ?_
    obtain rfl := Option.some.inj h3
    exact fin_objs hΓ [] (.inr rfl) rfl rfl rfl rfl (.inl rfl)
  · have h4 := cF h2 hb
    refine go hΓ 13 rfl ?_
    refine j_cond rfl (fun hb => ?_) (fun hb => ?_)
    · have h5 := cT h4 hb
      refine go hΓ 7 rfl ?_
      obtain rfl := Option.some.inj h5
      exact fin_objs hΓ [] (.inr rfl) rfl rfl rfl rfl (.inl rfl)
    · have h6 := cF h4 hb
      refine go hΓ 8 rfl ?_
      obtain rfl := Option.some.inj h6
      exact fin_objs hΓ [] (.inr rfl) rfl rfl rfl rfl (.inl rfl)
theorem c_route_portFault {n : Int} {r : Int} (h : m_route_portFault n = some r) : Pure Try.prog 48 [I n] (I r) := by
  refine Pure.enter (Fr.of 0 _) Try.func48 rfl (Fr.of_ok _) rfl rfl ?_
  refine go_in ?_
  unfold m_route_portFault at h
  obtain ⟨y1, hy1, h2⟩ := bi_ok h
  refine go hΓ 9 rfl ?_
  refine eo_callP (callable Try.func53 rfl rfl) (c_kit_Outside hy1) rfl (Nat.le_of_ble_eq_true rfl) rfl rfl rfl rfl rfl ?_
  refine go_ops hΓ 2 rfl ?_
  refine j_cond rfl (fun hb => ?_) (fun hb => ?_)
  · have h3 := cT h2 hb
    refine go hΓ 7 rfl ?_
    obtain rfl := Option.some.inj h3
    exact fin_pure hΓ (.inr rfl) rfl rfl
  · have h4 := cF h2 hb
    refine go hΓ 8 rfl ?_
    obtain rfl := Option.some.inj h4
    exact fin_pure hΓ (.inr rfl) rfl rfl
theorem c_route_spotFault {s : T_api_Spot} {r : Int} (h : m_route_spotFault s = some r) : Pure Try.prog 34 [.agg [B s.Addr.Six, U s.Addr.Hi, U s.Addr.Lo, I s.Port]] (I r) := by
  refine Pure.enter (Fr.of 0 _) Try.func34 rfl (Fr.of_ok _) rfl rfl ?_
  refine go_in ?_
  unfold m_route_spotFault at h
  refine go hΓ 2 rfl ?_
  refine eo_box rfl rfl rfl rfl (Nat.le_of_ble_eq_true rfl) ?_
  obtain ⟨y1, hy1, h2⟩ := bi_ok h
  refine go_ops hΓ 8 rfl ?_
  refine eo_callP (callable Try.func59 rfl rfl) (c_addr_CheckAddr hy1) rfl (Nat.le_of_ble_eq_true rfl) rfl rfl rfl rfl rfl ?_
  refine go_ops hΓ 9 rfl ?_
  refine j_cond rfl (fun hb => ?_) (fun hb => ?_)
  · have h3 := cT h2 hb
    refine go hΓ 8 rfl ?_
    obtain rfl := Option.some.inj h3
    exact fin_pure hΓ (.inr rfl) rfl rfl
  · have h4 := cF h2 hb
    obtain ⟨y5, hy5, h6⟩ := bi_ok h4
    refine go hΓ 6 rfl ?_
    refine eo_callP (callable Try.func48 rfl rfl) (c_route_portFault hy5) rfl (Nat.le_of_ble_eq_true rfl) rfl rfl rfl rfl rfl ?_
    refine go_ops hΓ 4 rfl ?_
    obtain rfl := Option.some.inj h6
    exact fin_pure hΓ (.inr rfl) rfl rfl
theorem c_route_Translator_lasting {t : T_route_Translator} {v_at : Int} {r : Int} (h : m_route_Translator_lasting t v_at = some r) : EC Try.prog 35 [.ptr 1 0, I v_at] [.row 86 11 t.list.length (t.list.flatMap e_route_entry), .box 64 [I t.nat.Maps, I t.nat.Lets, I t.nat.Timeout, I t.nat.First, I t.nat.Ports, B t.nat.Outer.Six, U t.nat.Outer.Hi, U t.nat.Outer.Lo, I t.now, I t.v_next, .sl 0 t.list.length]] fun g hp' => g = I r ∧ hp' = [.row 86 11 t.list.length (t.list.flatMap e_route_entry), .box 64 [I t.nat.Maps, I t.nat.Lets, I t.nat.Timeout, I t.nat.First, I t.nat.Ports, B t.nat.Outer.Six, U t.nat.Outer.Hi, U t.nat.Outer.Lo, I t.now, I t.v_next, .sl 0 t.list.length]] := by
  refine ec_enter (Fr.of 0 _) Try.func35 rfl (Fr.of_ok _) (Nat.le_of_ble_eq_true rfl) fun _ => ?_
  refine go_in ?_
  unfold m_route_Translator_lasting at h
  refine go hΓ 21 rfl ?_
  obtain ⟨q4, hq4, h5⟩ := bi_ok h
  obtain ⟨hb7, h8⟩ := gd_ok hq4
  replace hb7 := of_decide_eq_true hb7
  refine j_cutNZ [(5, I q4)] [.row 86 11 t.list.length (t.list.flatMap e_route_entry), .box 64 [I t.nat.Maps, I t.nat.Lets, I t.nat.Timeout, I t.nat.First, I t.nat.Ports, B t.nat.Outer.Six, U t.nat.Outer.Hi, U t.nat.Outer.Lo, I t.now, I t.v_next, .sl 0 t.list.length]] ?_ ?_
  · refine go hΓ 1 rfl ?_
    refine j_rangeG h8 (fun i1 s2 => [(0, .ptr 1 0), (1, I v_at), (5, I s2), (11, .sl 0 t.list.length), (12, I (t.list.length : Int)), (13, I (i1 : Int))]) (fun s2 => [.row 86 11 t.list.length (t.list.flatMap e_route_entry), .box 64 [I t.nat.Maps, I t.nat.Lets, I t.nat.Timeout, I t.nat.First, I t.nat.Ports, B t.nat.Outer.Six, U t.nat.Outer.Hi, U t.nat.Outer.Lo, I t.now, I t.v_next, .sl 0 t.list.length]]) ⟨⟨rfl, rfl, rfl, rfl, rfl, rfl, trivial⟩, [], rfl, .inl rfl⟩ (fun i1 s2 y12 hlt hy10 => ?_) (fun hge => ?_)
    · refine go hΓ 6 rfl ?_
      refine j_condT rfl (decide_eq_true hlt) ?_
      obtain ⟨x13, hx13, h14⟩ := bi_ok hy10
      have hj15 := getZ_at hx13
      refine go hΓ 6 rfl ?_
      refine eo_o rfl (op_elemRowZ hΓ hx13 rfl rfl rfl rfl rfl rfl) ?_
      refine eo_o rfl (op_loadRowZ hΓ (enc := e_route_entry) ((i1 : Int).toNat) 0 hj15 rfl rfl rfl rfl (fun _ => rfl) (g := .agg [B x13.inner.Addr.Six, U x13.inner.Addr.Hi, U x13.inner.Addr.Lo, I x13.inner.Port, I x13.port, B x13.dep.Addr.Six, U x13.dep.Addr.Hi, U x13.dep.Addr.Lo, I x13.dep.Port, I x13.last, .d (Slt 45 4 e_api_Spot x13.sent)]) rfl) ?_
      refine eo_s (Nat.le_of_ble_eq_true rfl) (nblt.1 rfl) (ops_allocT hΓ [10] [B false, U 0, U 0, I 0, I 0, B false, U 0, U 0, I 0, I 0, .d (Slt 45 4 e_api_Spot (1, []))] (hi := show Γ 86 = some ⟨_, _, _, _⟩ from rfl) rfl ⟨.refl _, .refl _, .refl _, .refl _, .refl _, .refl _, .refl _, .refl _, .refl _, .refl _, G.Le.tagN, trivial⟩) ?_
      refine eo_hp [.row 86 11 t.list.length (t.list.flatMap e_route_entry), .box 64 [I t.nat.Maps, I t.nat.Lets, I t.nat.Timeout, I t.nat.First, I t.nat.Ports, B t.nat.Outer.Six, U t.nat.Outer.Hi, U t.nat.Outer.Lo, I t.now, I t.v_next, .sl 0 t.list.length], .box 86 [B false, U 0, U 0, I 0, I 0, B false, U 0, U 0, I 0, I 0, .d (Slt 45 4 e_api_Spot (1, []))]] rfl ?_
      refine eo_store hΓ rfl rfl rfl rfl rfl rfl rfl rfl (Nat.le_of_ble_eq_true rfl) ?_
      refine eo_hp [.row 86 11 t.list.length (t.list.flatMap e_route_entry), .box 64 [I t.nat.Maps, I t.nat.Lets, I t.nat.Timeout, I t.nat.First, I t.nat.Ports, B t.nat.Outer.Six, U t.nat.Outer.Hi, U t.nat.Outer.Lo, I t.now, I t.v_next, .sl 0 t.list.length], .box 86 [B x13.inner.Addr.Six, U x13.inner.Addr.Hi, U x13.inner.Addr.Lo, I x13.inner.Port, I x13.port, B x13.dep.Addr.Six, U x13.dep.Addr.Hi, U x13.dep.Addr.Lo, I x13.dep.Port, I x13.last, .d (Slt 45 4 e_api_Spot x13.sent)]] rfl ?_
      refine go_ops hΓ 3 rfl ?_
      refine j_draw hmix (by kernel_rfl) ?_
      refine go hΓ 12 rfl ?_
      refine j_cond rfl (fun hb => ?_) (fun hb => ?_)
      · have h16 := cT h14 hb
        refine go hΓ 11 rfl ?_
        obtain rfl := Option.some.inj h16
        exact ⟨⟨rfl, rfl, rfl, rfl, rfl, get_eq rfl (w64_succ (by omega)), trivial⟩, [_], rfl, .inr ⟨HB.mk rfl, FB.mk rfl, (Nat.le_of_ble_eq_true rfl)⟩⟩
      · have h17 := cF h14 hb
        refine go hΓ 7 rfl ?_
        obtain rfl := Option.some.inj h17
        exact ⟨⟨rfl, rfl, rfl, rfl, rfl, get_eq rfl (w64_succ (by omega)), trivial⟩, [_], rfl, .inr ⟨HB.mk rfl, FB.mk rfl, (Nat.le_of_ble_eq_true rfl)⟩⟩
    · refine go hΓ 6 rfl ?_
      refine j_condF rfl (decide_eq_false hge) ?_
      refine go hΓ 4 rfl ?_
      exact ⟨⟨rfl, trivial⟩, [], rfl, .inl rfl⟩
  · refine go hΓ 8 rfl ?_
    obtain rfl := Option.some.inj h5
    exact fin_objs hΓ [] (.inr rfl) rfl rfl rfl rfl (.inl rfl)
theorem c_route_seen {s : T_api_Spot} {sees : Int} {r : T_api_Spot} (h : m_route_seen s sees = some r) : Pure Try.prog 39 [.agg [B s.Addr.Six, U s.Addr.Hi, U s.Addr.Lo, I s.Port], I sees] (.agg [B r.Addr.Six, U r.Addr.Hi, U r.Addr.Lo, I r.Port]) := by
  refine Pure.enter (Fr.of 0 _) Try.func39 rfl (Fr.of_ok _) rfl rfl ?_
  refine go_in ?_
  unfold m_route_seen at h
  refine go hΓ 2 rfl ?_
  refine eo_box rfl rfl rfl rfl (Nat.le_of_ble_eq_true rfl) ?_
  refine eo_alloc hΓ rfl rfl rfl (Nat.le_of_ble_eq_true rfl) ?_
  refine go_ops hΓ 15 rfl ?_
  refine j_cond rfl (fun hb => ?_) (fun hb => ?_)
  · have h1 := cT h hb
    refine go hΓ 2 rfl ?_
    refine eo_build hΓ (gs := [B false, U 0, U 0, I 0]) rfl rfl rfl rfl rfl rfl rfl ?_
    refine eo_store hΓ rfl rfl rfl rfl rfl rfl rfl rfl (Nat.le_of_ble_eq_true rfl) ?_
    refine eo_hp [.box 45 [B s.Addr.Six, U s.Addr.Hi, U s.Addr.Lo, I s.Port], .box 45 [B false, U 0, U 0, I 0]] rfl ?_
    refine go_ops hΓ 5 rfl ?_
    obtain rfl := Option.some.inj h1
    exact fin_pure hΓ (.inr rfl) rfl rfl
  · have h2 := cF h hb
    refine go hΓ 6 rfl ?_
    refine j_cond rfl (fun hb => ?_) (fun hb => ?_)
    · have h3 := cT h2 hb
      refine go hΓ 4 rfl ?_
      refine eo_build hΓ (gs := [B s.Addr.Six, U s.Addr.Hi, U s.Addr.Lo, I 0]) rfl rfl rfl rfl rfl rfl rfl ?_
      refine eo_store hΓ rfl rfl rfl rfl rfl rfl rfl rfl (Nat.le_of_ble_eq_true rfl) ?_
      refine eo_hp [.box 45 [B s.Addr.Six, U s.Addr.Hi, U s.Addr.Lo, I s.Port], .box 45 [B s.Addr.Six, U s.Addr.Hi, U s.Addr.Lo, I 0]] rfl ?_
      refine go_ops hΓ 5 rfl ?_
      obtain rfl := Option.some.inj h3
      exact fin_pure hΓ (.inr rfl) rfl rfl
    · have h4 := cF h2 hb
      refine go hΓ 6 rfl ?_
      refine eo_store hΓ rfl rfl rfl rfl rfl rfl rfl rfl (Nat.le_of_ble_eq_true rfl) ?_
      refine eo_hp [.box 45 [B s.Addr.Six, U s.Addr.Hi, U s.Addr.Lo, I s.Port], .box 45 [B s.Addr.Six, U s.Addr.Hi, U s.Addr.Lo, I s.Port]] rfl ?_
      refine go_ops hΓ 3 rfl ?_
      obtain rfl := Option.some.inj h4
      exact fin_pure hΓ (.inr rfl) rfl rfl
theorem c_route_Translator_find_1 {x : T_route_entry} {x2 : T_api_Spot} {x3 : T_api_Spot} {x4 : Int} {x5 : T_route_Translator} {r : Bool} (h : m_route_Translator_find_1 x x2 x3 x4 x5 = some r) : EC Try.prog 65 [.agg [B x.inner.Addr.Six, U x.inner.Addr.Hi, U x.inner.Addr.Lo, I x.inner.Port, I x.port, B x.dep.Addr.Six, U x.dep.Addr.Hi, U x.dep.Addr.Lo, I x.dep.Port, I x.last, .d (Slt 45 4 e_api_Spot x.sent)], .ptr 0 0, .ptr 1 0, .ptr 2 0, .ptr 5 0] [.box 45 [B x2.Addr.Six, U x2.Addr.Hi, U x2.Addr.Lo, I x2.Port], .box 45 [B x3.Addr.Six, U x3.Addr.Hi, U x3.Addr.Lo, I x3.Port], .box 3 [I x4], .row 86 11 x5.list.length (x5.list.flatMap e_route_entry), .box 64 [I x5.nat.Maps, I x5.nat.Lets, I x5.nat.Timeout, I x5.nat.First, I x5.nat.Ports, B x5.nat.Outer.Six, U x5.nat.Outer.Hi, U x5.nat.Outer.Lo, I x5.now, I x5.v_next, .sl 3 x5.list.length], .box 32 [.ptr 4 0]] fun g hp' => g = B r ∧ hp' = [.box 45 [B x2.Addr.Six, U x2.Addr.Hi, U x2.Addr.Lo, I x2.Port], .box 45 [B x3.Addr.Six, U x3.Addr.Hi, U x3.Addr.Lo, I x3.Port], .box 3 [I x4], .row 86 11 x5.list.length (x5.list.flatMap e_route_entry), .box 64 [I x5.nat.Maps, I x5.nat.Lets, I x5.nat.Timeout, I x5.nat.First, I x5.nat.Ports, B x5.nat.Outer.Six, U x5.nat.Outer.Hi, U x5.nat.Outer.Lo, I x5.now, I x5.v_next, .sl 3 x5.list.length], .box 32 [.ptr 4 0]] := by
  refine ec_enter (Fr.of 0 _) Try.func65 rfl (Fr.of_ok _) (Nat.le_of_ble_eq_true rfl) fun _ => ?_
  refine go_in ?_
  unfold m_route_Translator_find_1 at h
  refine go hΓ 2 rfl ?_
  refine eo_box rfl rfl rfl rfl (Nat.le_of_ble_eq_true rfl) ?_
  obtain ⟨q1, hq1, h2⟩ := bi_ok h
  refine go_ops hΓ 4 rfl ?_
  refine j_cutNZ [(6, B q1)] [.box 45 [B x2.Addr.Six, U x2.Addr.Hi, U x2.Addr.Lo, I x2.Port], .box 45 [B x3.Addr.Six, U x3.Addr.Hi, U x3.Addr.Lo, I x3.Port], .box 3 [I x4], .row 86 11 x5.list.length (x5.list.flatMap e_route_entry), .box 64 [I x5.nat.Maps, I x5.nat.Lets, I x5.nat.Timeout, I x5.nat.First, I x5.nat.Ports, B x5.nat.Outer.Six, U x5.nat.Outer.Hi, U x5.nat.Outer.Lo, I x5.now, I x5.v_next, .sl 3 x5.list.length], .box 32 [.ptr 4 0], .box 86 [B x.inner.Addr.Six, U x.inner.Addr.Hi, U x.inner.Addr.Lo, I x.inner.Port, I x.port, B x.dep.Addr.Six, U x.dep.Addr.Hi, U x.dep.Addr.Lo, I x.dep.Port, I x.last, .d (Slt 45 4 e_api_Spot x.sent)]] ?_ ?_
  · refine j_draw hmix (by kernel_rfl) ?_
    refine go hΓ 3 rfl ?_
    refine gl_o rfl (op_eqS hΓ [45, 28] (b := ((((x.inner.Addr.Six : Bool) == x2.Addr.Six) && (((x.inner.Addr.Hi : Int) == x2.Addr.Hi) && (((x.inner.Addr.Lo : Int) == x2.Addr.Lo) && true))) && (((x.inner.Port : Int) == x2.Port) && true))) (by kernel_rfl) (by kernel_rfl) rfl rfl rfl) ?_
    refine go_draw hΓ 1 rfl ?_
    refine gl_gsplit rfl rfl (fun hb => ?_) (fun hb => ?_)
    · have h3 := cT hq1 hb
      refine go_draw hΓ 3 rfl ?_
      refine gl_og rfl rfl (op_eqS hΓ [45, 28] (b := ((((x.dep.Addr.Six : Bool) == x3.Addr.Six) && (((x.dep.Addr.Hi : Int) == x3.Addr.Hi) && (((x.dep.Addr.Lo : Int) == x3.Addr.Lo) && true))) && (((x.dep.Port : Int) == x3.Port) && true))) (by kernel_rfl) (by kernel_rfl) rfl rfl rfl) ?_
      refine go_draw hΓ 2 rfl ?_
      refine gl_gsplit rfl rfl (fun hb => ?_) (fun hb => ?_)
      · have h4 := cT h3 hb
        refine go_draw hΓ 13 rfl ?_
        obtain rfl := Option.some.inj h4
        exact ⟨⟨rfl, trivial⟩, [], rfl, .inl rfl⟩
      · have h5 := cF h3 hb
        refine go_draw hΓ 13 rfl ?_
        obtain rfl := Option.some.inj h5
        exact ⟨⟨rfl, trivial⟩, [], rfl, .inl rfl⟩
    · have h6 := cF hq1 hb
      refine go_draw hΓ 19 rfl ?_
      obtain rfl := Option.some.inj h6
      exact ⟨⟨rfl, trivial⟩, [], rfl, .inl rfl⟩
  · refine go hΓ 2 rfl ?_
    obtain rfl := Option.some.inj h2
    exact fin_objs hΓ [_] (.inr rfl) rfl rfl rfl rfl (.inr ⟨HB.mk rfl, rfl⟩)
theorem c_slices_IndexFunc_route_entry_route_entry {f : T_api_Spot} {f2 : T_api_Spot} {f3 : Int} {f4 : T_route_Translator} {r : Int} (h : m_slices_IndexFunc_route_entry_route_entry f f2 f3 f4 = some r) : EC Try.prog 64 [.sl 3 f4.list.length, .fn (.func 65) [] [.ptr 0 0, .ptr 1 0, .ptr 2 0, .ptr 5 0]] [.box 45 [B f.Addr.Six, U f.Addr.Hi, U f.Addr.Lo, I f.Port], .box 45 [B f2.Addr.Six, U f2.Addr.Hi, U f2.Addr.Lo, I f2.Port], .box 3 [I f3], .row 86 11 f4.list.length (f4.list.flatMap e_route_entry), .box 64 [I f4.nat.Maps, I f4.nat.Lets, I f4.nat.Timeout, I f4.nat.First, I f4.nat.Ports, B f4.nat.Outer.Six, U f4.nat.Outer.Hi, U f4.nat.Outer.Lo, I f4.now, I f4.v_next, .sl 3 f4.list.length], .box 32 [.ptr 4 0]] fun g hp' => g = I r ∧ hp' = [.box 45 [B f.Addr.Six, U f.Addr.Hi, U f.Addr.Lo, I f.Port], .box 45 [B f2.Addr.Six, U f2.Addr.Hi, U f2.Addr.Lo, I f2.Port], .box 3 [I f3], .row 86 11 f4.list.length (f4.list.flatMap e_route_entry), .box 64 [I f4.nat.Maps, I f4.nat.Lets, I f4.nat.Timeout, I f4.nat.First, I f4.nat.Ports, B f4.nat.Outer.Six, U f4.nat.Outer.Hi, U f4.nat.Outer.Lo, I f4.now, I f4.v_next, .sl 3 f4.list.length], .box 32 [.ptr 4 0]] := by
  refine ec_enter (Fr.of 0 _) Try.func64 rfl (Fr.of_ok _) (Nat.le_of_ble_eq_true rfl) fun _ => ?_
  refine go_in ?_
  unfold m_slices_IndexFunc_route_entry_route_entry at h
  refine go hΓ 13 rfl ?_
  obtain ⟨q4, hq4, h5⟩ := bi_ok h
  obtain ⟨hb7, h8⟩ := gd_ok hq4
  replace hb7 := of_decide_eq_true hb7
  refine j_cutEZ (R := fun a6 => q4 = .go a6) (fun a6 => []) (fun a6 => [.box 45 [B f.Addr.Six, U f.Addr.Hi, U f.Addr.Lo, I f.Port], .box 45 [B f2.Addr.Six, U f2.Addr.Hi, U f2.Addr.Lo, I f2.Port], .box 3 [I f3], .row 86 11 f4.list.length (f4.list.flatMap e_route_entry), .box 64 [I f4.nat.Maps, I f4.nat.Lets, I f4.nat.Timeout, I f4.nat.First, I f4.nat.Ports, B f4.nat.Outer.Six, U f4.nat.Outer.Hi, U f4.nat.Outer.Lo, I f4.now, I f4.v_next, .sl 3 f4.list.length], .box 32 [.ptr 4 0]]) ?_ ?_
  · refine go hΓ 1 rfl ?_
    refine j_rangeI h8 (fun i1 s2 => [(0, .sl 3 f4.list.length), (1, .fn (.func 65) [] [.ptr 0 0, .ptr 1 0, .ptr 2 0, .ptr 5 0]), (7, I (f4.list.length : Int)), (8, I (i1 : Int))]) (fun s2 => [.box 45 [B f.Addr.Six, U f.Addr.Hi, U f.Addr.Lo, I f.Port], .box 45 [B f2.Addr.Six, U f2.Addr.Hi, U f2.Addr.Lo, I f2.Port], .box 3 [I f3], .row 86 11 f4.list.length (f4.list.flatMap e_route_entry), .box 64 [I f4.nat.Maps, I f4.nat.Lets, I f4.nat.Timeout, I f4.nat.First, I f4.nat.Ports, B f4.nat.Outer.Six, U f4.nat.Outer.Hi, U f4.nat.Outer.Lo, I f4.now, I f4.v_next, .sl 3 f4.list.length], .box 32 [.ptr 4 0]]) ⟨⟨rfl, rfl, rfl, rfl, trivial⟩, [], rfl, .inl rfl⟩ (fun i1 s2 y12 hlt hy10 hout11 => ?_) (fun s2 hgo hge => ?_)
    · refine go hΓ 6 rfl ?_
      refine j_condT rfl (decide_eq_true hlt) ?_
      obtain ⟨x13, hx13, h14⟩ := bi_ok hy10
      have hj15 := getZ_at hx13
      refine go hΓ 15 rfl ?_
      refine eo_o rfl (op_elemRowZ hΓ hx13 rfl rfl rfl rfl rfl rfl) ?_
      refine eo_o rfl (op_loadRowZ hΓ (enc := e_route_entry) ((i1 : Int).toNat) 0 hj15 rfl rfl rfl rfl (fun _ => rfl) (g := .agg [B x13.inner.Addr.Six, U x13.inner.Addr.Hi, U x13.inner.Addr.Lo, I x13.inner.Port, I x13.port, B x13.dep.Addr.Six, U x13.dep.Addr.Hi, U x13.dep.Addr.Lo, I x13.dep.Port, I x13.last, .d (Slt 45 4 e_api_Spot x13.sent)]) rfl) ?_
      obtain ⟨y16, hy16, h17⟩ := bi_ok h14
      refine eo_callF [0, 1, 2, 3, 4, 5] (B y16) [.box 45 [B f.Addr.Six, U f.Addr.Hi, U f.Addr.Lo, I f.Port], .box 45 [B f2.Addr.Six, U f2.Addr.Hi, U f2.Addr.Lo, I f2.Port], .box 3 [I f3], .row 86 11 f4.list.length (f4.list.flatMap e_route_entry), .box 64 [I f4.nat.Maps, I f4.nat.Lets, I f4.nat.Timeout, I f4.nat.First, I f4.nat.Ports, B f4.nat.Outer.Six, U f4.nat.Outer.Hi, U f4.nat.Outer.Lo, I f4.now, I f4.v_next, .sl 3 f4.list.length], .box 32 [.ptr 4 0]] (callable Try.func65 rfl rfl) (c_route_Translator_find_1 hy16) rfl (Nat.le_of_ble_eq_true rfl) rfl rfl rfl rfl rfl rfl rfl rfl rfl rfl ?_
      refine go_ops hΓ 2 rfl ?_
      refine j_cond rfl (fun hb => ?_) (fun hb => ?_)
      · have h18 := cT h17 hb
        refine go hΓ 9 rfl ?_
        obtain ⟨v19, hv19, h20⟩ := bi_ok h18
        obtain rfl := Option.some.inj h20
        obtain rfl := hout11 _ rfl
        obtain rfl := Option.some.inj h5
        refine go hΓ 4 rfl ?_
        obtain rfl := Option.some.inj hv19
        exact fin_objs hΓ [] (.inr rfl) rfl rfl rfl rfl (.inl rfl)
      · have h21 := cF h17 hb
        refine go hΓ 7 rfl ?_
        obtain rfl := Option.some.inj h21
        exact ⟨_, rfl, ⟨⟨rfl, rfl, rfl, get_eq rfl (w64_succ (by omega)), trivial⟩, [], rfl, .inl rfl⟩⟩
    · subst hgo
      refine go hΓ 6 rfl ?_
      refine j_condF rfl (decide_eq_false hge) ?_
      refine go hΓ 4 rfl ?_
      exact ⟨_, rfl, ⟨trivial, [], rfl, .inl rfl⟩⟩
  · intro a6 ha
    subst ha
    replace h5 := goI_l h5
    refine go hΓ 7 rfl ?_
    obtain rfl := Option.some.inj h5
    exact fin_objs hΓ [] (.inr rfl) rfl rfl rfl rfl (.inl rfl)
theorem c_route_Translator_find {t : T_route_Translator} {v_at : Int} {v_from : T_api_Spot} {to : T_api_Spot} {r : Int} (h : m_route_Translator_find t v_at v_from to = some r) : EC Try.prog 36 [.ptr 1 0, I v_at, .agg [B v_from.Addr.Six, U v_from.Addr.Hi, U v_from.Addr.Lo, I v_from.Port], .agg [B to.Addr.Six, U to.Addr.Hi, U to.Addr.Lo, I to.Port]] [.row 86 11 t.list.length (t.list.flatMap e_route_entry), .box 64 [I t.nat.Maps, I t.nat.Lets, I t.nat.Timeout, I t.nat.First, I t.nat.Ports, B t.nat.Outer.Six, U t.nat.Outer.Hi, U t.nat.Outer.Lo, I t.now, I t.v_next, .sl 0 t.list.length]] fun g hp' => g = I r ∧ hp' = [.row 86 11 t.list.length (t.list.flatMap e_route_entry), .box 64 [I t.nat.Maps, I t.nat.Lets, I t.nat.Timeout, I t.nat.First, I t.nat.Ports, B t.nat.Outer.Six, U t.nat.Outer.Hi, U t.nat.Outer.Lo, I t.now, I t.v_next, .sl 0 t.list.length]] := by
  refine ec_enter (Fr.of 0 _) Try.func36 rfl (Fr.of_ok _) (Nat.le_of_ble_eq_true rfl) fun _ => ?_
  refine go_in ?_
  unfold m_route_Translator_find at h
  refine go hΓ 2 rfl ?_
  refine eo_box rfl rfl rfl rfl (Nat.le_of_ble_eq_true rfl) ?_
  refine eo_box rfl rfl rfl rfl (Nat.le_of_ble_eq_true rfl) ?_
  refine eo_box rfl rfl rfl rfl (Nat.le_of_ble_eq_true rfl) ?_
  refine eo_box rfl rfl rfl rfl (Nat.le_of_ble_eq_true rfl) ?_
  refine go_ops hΓ 4 rfl ?_
  refine j_drawE [.dead, .box 64 [I t.nat.Maps, I t.nat.Lets, I t.nat.Timeout, I t.nat.First, I t.nat.Ports, B t.nat.Outer.Six, U t.nat.Outer.Hi, U t.nat.Outer.Lo, I t.now, I t.v_next, .sl 0 t.list.length], .box 32 [.ptr 1 0], .dead, .dead, .box 45 [B to.Addr.Six, U to.Addr.Hi, U to.Addr.Lo, I to.Port]] [0, 1, 5] [7, 8] [] hmix (by kernel_rfl) (by kernel_rfl) ⟨rfl, rfl, rfl, trivial⟩ (Nat.le_of_ble_eq_true rfl) ?_
  obtain ⟨y1, hy1, h2⟩ := bi_ok h
  refine go_E hΓ 6 rfl ?_
  refine ge_callP (callable Try.func39 rfl rfl) (c_route_seen hy1) rfl rfl rfl rfl rfl rfl ?_
  refine ge_h [.row 86 11 t.list.length (t.list.flatMap e_route_entry), .box 64 [I t.nat.Maps, I t.nat.Lets, I t.nat.Timeout, I t.nat.First, I t.nat.Ports, B t.nat.Outer.Six, U t.nat.Outer.Hi, U t.nat.Outer.Lo, I t.now, I t.v_next, .sl 0 t.list.length], .box 32 [.ptr 1 0], .box 3 [I v_at], .box 45 [B v_from.Addr.Six, U v_from.Addr.Hi, U v_from.Addr.Lo, I v_from.Port], .box 45 [B to.Addr.Six, U to.Addr.Hi, U to.Addr.Lo, I to.Port], .box 45 [B false, U 0, U 0, I 0]] rfl rfl rfl (st_st ⟨rfl, rfl, rfl, trivial⟩) (qte_s (ops_alloc hΓ (hi := show Γ 45 = some ⟨_, _, _, _⟩ from rfl) rfl)) ?_
  refine ge_h0 [.row 86 11 t.list.length (t.list.flatMap e_route_entry), .box 64 [I t.nat.Maps, I t.nat.Lets, I t.nat.Timeout, I t.nat.First, I t.nat.Ports, B t.nat.Outer.Six, U t.nat.Outer.Hi, U t.nat.Outer.Lo, I t.now, I t.v_next, .sl 0 t.list.length], .box 32 [.ptr 1 0], .box 3 [I v_at], .box 45 [B v_from.Addr.Six, U v_from.Addr.Hi, U v_from.Addr.Lo, I v_from.Port], .box 45 [B to.Addr.Six, U to.Addr.Hi, U to.Addr.Lo, I to.Port], .box 45 [B y1.Addr.Six, U y1.Addr.Hi, U y1.Addr.Lo, I y1.Port]] rfl rfl (st_st ⟨rfl, rfl, rfl, trivial⟩) (qte_u (opu_store2 hΓ rfl rfl rfl rfl rfl rfl rfl rfl rfl)) ?_
  refine ge_fin ?_
  obtain ⟨y3, hy3, h4⟩ := bi_ok h2
  refine go hΓ 8 rfl ?_
  refine eo_callF [4, 6, 3, 0, 1, 2] (I y3) [.row 86 11 t.list.length (t.list.flatMap e_route_entry), .box 64 [I t.nat.Maps, I t.nat.Lets, I t.nat.Timeout, I t.nat.First, I t.nat.Ports, B t.nat.Outer.Six, U t.nat.Outer.Hi, U t.nat.Outer.Lo, I t.now, I t.v_next, .sl 0 t.list.length], .box 32 [.ptr 1 0], .box 3 [I v_at], .box 45 [B v_from.Addr.Six, U v_from.Addr.Hi, U v_from.Addr.Lo, I v_from.Port], .box 45 [B to.Addr.Six, U to.Addr.Hi, U to.Addr.Lo, I to.Port], .box 45 [B y1.Addr.Six, U y1.Addr.Hi, U y1.Addr.Lo, I y1.Port]] (callable Try.func64 rfl rfl) (c_slices_IndexFunc_route_entry_route_entry hy3) rfl (Nat.le_of_ble_eq_true rfl) rfl rfl rfl rfl rfl rfl rfl rfl rfl rfl ?_
  refine go_ops hΓ 4 rfl ?_
  obtain rfl := Option.some.inj h4
  exact fin_objs hΓ [_, _, _, _, _] (.inr rfl) rfl rfl rfl rfl (.inr ⟨HB.mk rfl, rfl⟩)
theorem c_route_Translator_pass_1 {x : T_route_entry} {x2 : Int} {x3 : T_route_Translator} {r : Bool} (h : m_route_Translator_pass_1 x x2 x3 = some r) : EC Try.prog 67 [.agg [B x.inner.Addr.Six, U x.inner.Addr.Hi, U x.inner.Addr.Lo, I x.inner.Port, I x.port, B x.dep.Addr.Six, U x.dep.Addr.Hi, U x.dep.Addr.Lo, I x.dep.Port, I x.last, .d (Slt 45 4 e_api_Spot x.sent)], .ptr 0 0, .ptr 2 0] [.box 3 [I x2], .box 64 [I x3.nat.Maps, I x3.nat.Lets, I x3.nat.Timeout, I x3.nat.First, I x3.nat.Ports, B x3.nat.Outer.Six, U x3.nat.Outer.Hi, U x3.nat.Outer.Lo, I x3.now, I x3.v_next, .junk], .box 32 [.ptr 1 0]] fun g hp' => g = B r ∧ hp' = [.box 3 [I x2], .box 64 [I x3.nat.Maps, I x3.nat.Lets, I x3.nat.Timeout, I x3.nat.First, I x3.nat.Ports, B x3.nat.Outer.Six, U x3.nat.Outer.Hi, U x3.nat.Outer.Lo, I x3.now, I x3.v_next, .junk], .box 32 [.ptr 1 0]] := by
  refine ec_enter (Fr.of 0 _) Try.func67 rfl (Fr.of_ok _) (Nat.le_of_ble_eq_true rfl) fun _ => ?_
  refine go_in ?_
  unfold m_route_Translator_pass_1 at h
  refine go hΓ 2 rfl ?_
  refine eo_box rfl rfl rfl rfl (Nat.le_of_ble_eq_true rfl) ?_
  refine go_ops hΓ 4 rfl ?_
  refine j_draw hmix (by kernel_rfl) ?_
  refine go hΓ 14 rfl ?_
  obtain rfl := Option.some.inj h
  exact fin_objs hΓ [_] (.inr rfl) rfl rfl rfl rfl (.inr ⟨HB.mk rfl, rfl⟩)
theorem c_slices_IndexFunc_route_entry_route_entry_2 {s : List T_route_entry} {f : Int} {f2 : T_route_Translator} {r : Int} (h : m_slices_IndexFunc_route_entry_route_entry_2 s f f2 = some r) : EC Try.prog 64 [.sl 0 s.length, .fn (.func 67) [] [.ptr 1 0, .ptr 3 0]] [.row 86 11 s.length (s.flatMap e_route_entry), .box 3 [I f], .box 64 [I f2.nat.Maps, I f2.nat.Lets, I f2.nat.Timeout, I f2.nat.First, I f2.nat.Ports, B f2.nat.Outer.Six, U f2.nat.Outer.Hi, U f2.nat.Outer.Lo, I f2.now, I f2.v_next, .junk], .box 32 [.ptr 2 0]] fun g hp' => g = I r ∧ hp' = [.row 86 11 s.length (s.flatMap e_route_entry), .box 3 [I f], .box 64 [I f2.nat.Maps, I f2.nat.Lets, I f2.nat.Timeout, I f2.nat.First, I f2.nat.Ports, B f2.nat.Outer.Six, U f2.nat.Outer.Hi, U f2.nat.Outer.Lo, I f2.now, I f2.v_next, .junk], .box 32 [.ptr 2 0]] := by
  refine ec_enter (Fr.of 0 _) Try.func64 rfl (Fr.of_ok _) (Nat.le_of_ble_eq_true rfl) fun _ => ?_
  refine go_in ?_
  unfold m_slices_IndexFunc_route_entry_route_entry_2 at h
  refine go hΓ 13 rfl ?_
  obtain ⟨q4, hq4, h5⟩ := bi_ok h
  obtain ⟨hb7, h8⟩ := gd_ok hq4
  replace hb7 := of_decide_eq_true hb7
  refine j_cutEZ (R := fun a6 => q4 = .go a6) (fun a6 => []) (fun a6 => [.row 86 11 s.length (s.flatMap e_route_entry), .box 3 [I f], .box 64 [I f2.nat.Maps, I f2.nat.Lets, I f2.nat.Timeout, I f2.nat.First, I f2.nat.Ports, B f2.nat.Outer.Six, U f2.nat.Outer.Hi, U f2.nat.Outer.Lo, I f2.now, I f2.v_next, .junk], .box 32 [.ptr 2 0]]) ?_ ?_
  · refine go hΓ 1 rfl ?_
    refine j_rangeI h8 (fun i1 s2 => [(0, .sl 0 s.length), (1, .fn (.func 67) [] [.ptr 1 0, .ptr 3 0]), (7, I (s.length : Int)), (8, I (i1 : Int))]) (fun s2 => [.row 86 11 s.length (s.flatMap e_route_entry), .box 3 [I f], .box 64 [I f2.nat.Maps, I f2.nat.Lets, I f2.nat.Timeout, I f2.nat.First, I f2.nat.Ports, B f2.nat.Outer.Six, U f2.nat.Outer.Hi, U f2.nat.Outer.Lo, I f2.now, I f2.v_next, .junk], .box 32 [.ptr 2 0]]) ⟨⟨rfl, rfl, rfl, rfl, trivial⟩, [], rfl, .inl rfl⟩ (fun i1 s2 y12 hlt hy10 hout11 => ?_) (fun s2 hgo hge => ?_)
    · refine go hΓ 6 rfl ?_
      refine j_condT rfl (decide_eq_true hlt) ?_
      obtain ⟨x13, hx13, h14⟩ := bi_ok hy10
      have hj15 := getZ_at hx13
      refine go hΓ 15 rfl ?_
      refine eo_o rfl (op_elemRowZ hΓ hx13 rfl rfl rfl rfl rfl rfl) ?_
      refine eo_o rfl (op_loadRowZ hΓ (enc := e_route_entry) ((i1 : Int).toNat) 0 hj15 rfl rfl rfl rfl (fun _ => rfl) (g := .agg [B x13.inner.Addr.Six, U x13.inner.Addr.Hi, U x13.inner.Addr.Lo, I x13.inner.Port, I x13.port, B x13.dep.Addr.Six, U x13.dep.Addr.Hi, U x13.dep.Addr.Lo, I x13.dep.Port, I x13.last, .d (Slt 45 4 e_api_Spot x13.sent)]) rfl) ?_
      obtain ⟨y16, hy16, h17⟩ := bi_ok h14
      refine eo_callF [1, 2, 3] (B y16) [.row 86 11 s.length (s.flatMap e_route_entry), .box 3 [I f], .box 64 [I f2.nat.Maps, I f2.nat.Lets, I f2.nat.Timeout, I f2.nat.First, I f2.nat.Ports, B f2.nat.Outer.Six, U f2.nat.Outer.Hi, U f2.nat.Outer.Lo, I f2.now, I f2.v_next, .junk], .box 32 [.ptr 2 0]] (callable Try.func67 rfl rfl) (c_route_Translator_pass_1 hy16) rfl (Nat.le_of_ble_eq_true rfl) rfl rfl rfl rfl rfl rfl rfl rfl rfl rfl ?_
      refine go_ops hΓ 2 rfl ?_
      refine j_cond rfl (fun hb => ?_) (fun hb => ?_)
      · have h18 := cT h17 hb
        refine go hΓ 9 rfl ?_
        obtain ⟨v19, hv19, h20⟩ := bi_ok h18
        obtain rfl := Option.some.inj h20
        obtain rfl := hout11 _ rfl
        obtain rfl := Option.some.inj h5
        refine go hΓ 4 rfl ?_
        obtain rfl := Option.some.inj hv19
        exact fin_objs hΓ [] (.inr rfl) rfl rfl rfl rfl (.inl rfl)
      · have h21 := cF h17 hb
        refine go hΓ 7 rfl ?_
        obtain rfl := Option.some.inj h21
        exact ⟨_, rfl, ⟨⟨rfl, rfl, rfl, get_eq rfl (w64_succ (by omega)), trivial⟩, [], rfl, .inl rfl⟩⟩
    · subst hgo
      refine go hΓ 6 rfl ?_
      refine j_condF rfl (decide_eq_false hge) ?_
      refine go hΓ 4 rfl ?_
      exact ⟨_, rfl, ⟨trivial, [], rfl, .inl rfl⟩⟩
  · intro a6 ha
    subst ha
    replace h5 := goI_l h5
    refine go hΓ 7 rfl ?_
    obtain rfl := Option.some.inj h5
    exact fin_objs hΓ [] (.inr rfl) rfl rfl rfl rfl (.inl rfl)
set_option maxHeartbeats 8000000 in
theorem c_slices_DeleteFunc_route_entry_route_entry {k : Nat} {s : List T_route_entry} {f : Int} {f2 : T_route_Translator} {r : List T_route_entry} (h : m_slices_DeleteFunc_route_entry_route_entry k s f f2 = some r) : EC Try.prog 66 [.sl 0 s.length, .fn (.func 67) [] [.ptr 1 0, .ptr 3 0]] [.row 86 11 s.length (s.flatMap e_route_entry), .box 3 [I f], .box 64 [I f2.nat.Maps, I f2.nat.Lets, I f2.nat.Timeout, I f2.nat.First, I f2.nat.Ports, B f2.nat.Outer.Six, U f2.nat.Outer.Hi, U f2.nat.Outer.Lo, I f2.now, I f2.v_next, .junk], .box 32 [.ptr 2 0]] fun g hp' => g = .sl 0 r.length ∧ hp' = [.row 86 11 r.length (r.flatMap e_route_entry), .box 3 [I f], .box 64 [I f2.nat.Maps, I f2.nat.Lets, I f2.nat.Timeout, I f2.nat.First, I f2.nat.Ports, B f2.nat.Outer.Six, U f2.nat.Outer.Hi, U f2.nat.Outer.Lo, I f2.now, I f2.v_next, .junk], .box 32 [.ptr 2 0]] := by
  refine ec_enter (Fr.of 0 _) Try.func66 rfl (Fr.of_ok _) (Nat.le_of_ble_eq_true rfl) fun _ => ?_
  refine go_in ?_
  unfold m_slices_DeleteFunc_route_entry_route_entry at h
  refine go hΓ 2 rfl ?_
  refine eo_nilOwn (t := 0) 86 11 rfl (Nat.le_of_ble_eq_true rfl) ?_
  obtain ⟨y1, hy1, h2⟩ := bi_ok h
  refine go_ops hΓ 6 rfl ?_
  refine eo_callF [0, 1, 2, 3] (I y1) [.row 86 11 s.length (s.flatMap e_route_entry), .box 3 [I f], .box 64 [I f2.nat.Maps, I f2.nat.Lets, I f2.nat.Timeout, I f2.nat.First, I f2.nat.Ports, B f2.nat.Outer.Six, U f2.nat.Outer.Hi, U f2.nat.Outer.Lo, I f2.now, I f2.v_next, .junk], .box 32 [.ptr 2 0], .row 86 11 ([] : List T_route_entry).length (([] : List T_route_entry).flatMap e_route_entry)] (callable Try.func64 rfl rfl) (c_slices_IndexFunc_route_entry_route_entry_2 hy1) rfl (Nat.le_of_ble_eq_true rfl) rfl rfl rfl rfl rfl rfl rfl rfl rfl rfl ?_
  refine go_ops hΓ 10 rfl ?_
  refine j_cond rfl (fun hb => ?_) (fun hb => ?_)
  · have h3 := cT h2 hb
    refine go hΓ 8 rfl ?_
    obtain rfl := Option.some.inj h3
    exact fin_objs hΓ [_] (.inr rfl) rfl rfl rfl rfl (.inr ⟨HB.mk rfl, rfl⟩)
  · have h4 := cF h2 hb
    refine go hΓ 10 rfl ?_
    obtain ⟨q8, hq8, h9⟩ := bi_ok h4
    refine j_cutNZ [(0, .sl 0 q8.1.length), (5, I q8.2)] [.row 86 11 q8.1.length (q8.1.flatMap e_route_entry), .box 3 [I f], .box 64 [I f2.nat.Maps, I f2.nat.Lets, I f2.nat.Timeout, I f2.nat.First, I f2.nat.Ports, B f2.nat.Outer.Six, U f2.nat.Outer.Hi, U f2.nat.Outer.Lo, I f2.now, I f2.v_next, .junk], .box 32 [.ptr 2 0], .row 86 11 ([] : List T_route_entry).length (([] : List T_route_entry).flatMap e_route_entry)] ?_ ?_
    · refine go hΓ 1 rfl ?_
      refine j_loop hq8 (fun s6 => [(0, .sl 0 s6.1.length), (1, .fn (.func 67) [] [.ptr 1 0, .ptr 3 0]), (5, I s6.2.1), (6, I s6.2.2)]) (fun s6 => [.row 86 11 s6.1.length (s6.1.flatMap e_route_entry), .box 3 [I f], .box 64 [I f2.nat.Maps, I f2.nat.Lets, I f2.nat.Timeout, I f2.nat.First, I f2.nat.Ports, B f2.nat.Outer.Six, U f2.nat.Outer.Hi, U f2.nat.Outer.Lo, I f2.now, I f2.v_next, .junk], .box 32 [.ptr 2 0], .row 86 11 ([] : List T_route_entry).length (([] : List T_route_entry).flatMap e_route_entry)]) ⟨⟨rfl, rfl, rfl, rfl, trivial⟩, [], rfl, .inl rfl⟩ (fun s6 y14 hy12 hout13 => ?_)
      refine go hΓ 9 rfl ?_
      refine j_cond rfl (fun hb => ?_) (fun hb => ?_)
      · have h15 := cT hy12 hb
        obtain ⟨x16, hx16, h17⟩ := bi_ok h15
        have hj18 := getZ_at hx16
        refine go hΓ 8 rfl ?_
        refine eo_o rfl (op_elemRowZ hΓ hx16 rfl rfl rfl rfl rfl rfl) ?_
        refine eo_o rfl (op_loadRowZ hΓ (enc := e_route_entry) s6.2.2.toNat 0 hj18 rfl rfl rfl rfl (fun _ => rfl) (g := .agg [B x16.inner.Addr.Six, U x16.inner.Addr.Hi, U x16.inner.Addr.Lo, I x16.inner.Port, I x16.port, B x16.dep.Addr.Six, U x16.dep.Addr.Hi, U x16.dep.Addr.Lo, I x16.dep.Port, I x16.last, .d (Slt 45 4 e_api_Spot x16.sent)]) rfl) ?_
        refine eo_s (Nat.le_of_ble_eq_true rfl) (nblt.1 rfl) (ops_allocT hΓ [10] [B false, U 0, U 0, I 0, I 0, B false, U 0, U 0, I 0, I 0, .d (Slt 45 4 e_api_Spot (1, []))] (hi := show Γ 86 = some ⟨_, _, _, _⟩ from rfl) rfl ⟨.refl _, .refl _, .refl _, .refl _, .refl _, .refl _, .refl _, .refl _, .refl _, .refl _, G.Le.tagN, trivial⟩) ?_
        refine eo_hp [.row 86 11 s6.1.length (s6.1.flatMap e_route_entry), .box 3 [I f], .box 64 [I f2.nat.Maps, I f2.nat.Lets, I f2.nat.Timeout, I f2.nat.First, I f2.nat.Ports, B f2.nat.Outer.Six, U f2.nat.Outer.Hi, U f2.nat.Outer.Lo, I f2.now, I f2.v_next, .junk], .box 32 [.ptr 2 0], .row 86 11 ([] : List T_route_entry).length (([] : List T_route_entry).flatMap e_route_entry), .box 86 [B false, U 0, U 0, I 0, I 0, B false, U 0, U 0, I 0, I 0, .d (Slt 45 4 e_api_Spot (1, []))]] rfl ?_
        refine eo_store hΓ rfl rfl rfl rfl rfl rfl rfl rfl (Nat.le_of_ble_eq_true rfl) ?_
        refine eo_hp [.row 86 11 s6.1.length (s6.1.flatMap e_route_entry), .box 3 [I f], .box 64 [I f2.nat.Maps, I f2.nat.Lets, I f2.nat.Timeout, I f2.nat.First, I f2.nat.Ports, B f2.nat.Outer.Six, U f2.nat.Outer.Hi, U f2.nat.Outer.Lo, I f2.now, I f2.v_next, .junk], .box 32 [.ptr 2 0], .row 86 11 ([] : List T_route_entry).length (([] : List T_route_entry).flatMap e_route_entry), .box 86 [B x16.inner.Addr.Six, U x16.inner.Addr.Hi, U x16.inner.Addr.Lo, I x16.inner.Port, I x16.port, B x16.dep.Addr.Six, U x16.dep.Addr.Hi, U x16.dep.Addr.Lo, I x16.dep.Port, I x16.last, .d (Slt 45 4 e_api_Spot x16.sent)]] rfl ?_
        obtain ⟨y19, hy19, h20⟩ := bi_ok h17
        refine go_ops hΓ 6 rfl ?_
        refine eo_callF [1, 2, 3] (B y19) [.row 86 11 s6.1.length (s6.1.flatMap e_route_entry), .box 3 [I f], .box 64 [I f2.nat.Maps, I f2.nat.Lets, I f2.nat.Timeout, I f2.nat.First, I f2.nat.Ports, B f2.nat.Outer.Six, U f2.nat.Outer.Hi, U f2.nat.Outer.Lo, I f2.now, I f2.v_next, .junk], .box 32 [.ptr 2 0], .row 86 11 ([] : List T_route_entry).length (([] : List T_route_entry).flatMap e_route_entry), .box 86 [B x16.inner.Addr.Six, U x16.inner.Addr.Hi, U x16.inner.Addr.Lo, I x16.inner.Port, I x16.port, B x16.dep.Addr.Six, U x16.dep.Addr.Hi, U x16.dep.Addr.Lo, I x16.dep.Port, I x16.last, .d (Slt 45 4 e_api_Spot x16.sent)]] (callable Try.func67 rfl rfl) (c_route_Translator_pass_1 hy19) rfl (Nat.le_of_ble_eq_true rfl) rfl rfl rfl rfl rfl rfl rfl rfl rfl rfl ?_
        refine go_ops hΓ 3 rfl ?_
        refine j_cond rfl (fun hb => ?_) (fun hb => ?_)
        · have h21 := cT h20 hb
          obtain ⟨x22, hx22, h23⟩ := bi_ok h21
          have hj24 := getZ_at hx22
          refine go hΓ 5 rfl ?_
          refine eo_o rfl (op_elemRowZ hΓ hx22 rfl rfl rfl rfl rfl rfl) ?_
          refine eo_storeRowZ hΓ (enc := e_route_entry) (z' := x16) s6.2.1.toNat 0 hj24 rfl rfl rfl rfl (fun _ => rfl) rfl rfl rfl rfl rfl rfl (Nat.le_of_ble_eq_true rfl) ?_
          refine eo_hp [.row 86 11 (s6.1.set s6.2.1.toNat x16).length ((s6.1.set s6.2.1.toNat x16).flatMap e_route_entry), .box 3 [I f], .box 64 [I f2.nat.Maps, I f2.nat.Lets, I f2.nat.Timeout, I f2.nat.First, I f2.nat.Ports, B f2.nat.Outer.Six, U f2.nat.Outer.Hi, U f2.nat.Outer.Lo, I f2.now, I f2.v_next, .junk], .box 32 [.ptr 2 0], .row 86 11 ([] : List T_route_entry).length (([] : List T_route_entry).flatMap e_route_entry), .box 86 [B x16.inner.Addr.Six, U x16.inner.Addr.Hi, U x16.inner.Addr.Lo, I x16.inner.Port, I x16.port, B x16.dep.Addr.Six, U x16.dep.Addr.Hi, U x16.dep.Addr.Lo, I x16.dep.Port, I x16.last, .d (Slt 45 4 e_api_Spot x16.sent)]] rfl ?_
          refine eo_relen 0 (n' := (s6.1.set s6.2.1.toNat x16).length) rfl List.length_set.symm ?_
          refine go_ops hΓ 14 rfl ?_
          obtain rfl := Option.some.inj h23
          exact ⟨_, rfl, ⟨⟨rfl, rfl, rfl, rfl, trivial⟩, [_], rfl, .inr ⟨HB.mk rfl, FB.mk rfl, (Nat.le_of_ble_eq_true rfl)⟩⟩⟩
        · have h25 := cF h20 hb
          refine go hΓ 8 rfl ?_
          obtain rfl := Option.some.inj h25
          exact ⟨_, rfl, ⟨⟨rfl, rfl, rfl, rfl, trivial⟩, [_], rfl, .inr ⟨HB.mk rfl, FB.mk rfl, (Nat.le_of_ble_eq_true rfl)⟩⟩⟩
      · have h26 := cF hy12 hb
        refine go hΓ 4 rfl ?_
        obtain rfl := Option.some.inj h26
        obtain rfl := hout13 _ rfl
        exact ⟨⟨rfl, rfl, trivial⟩, [], rfl, .inl rfl⟩
    · obtain ⟨z27, hz27, h28⟩ := bi_ok h9
      refine go hΓ 5 rfl ?_
      refine eo_o rfl (op_viewI hΓ hz27 rfl rfl rfl rfl rfl rfl) ?_
      refine eo_s0 (Nat.le_of_ble_eq_true rfl) (ops_clearT hΓ (enc := e_route_entry) (a := q8.2) hz27 rfl rfl rfl rfl rfl rfl rfl rfl rfl rfl (fun _ => rfl)) ?_
      refine go_ops hΓ 6 rfl ?_
      refine eo_subCut hΓ hz27 rfl rfl rfl rfl rfl rfl rfl rfl ?_
      refine go_ops hΓ 4 rfl ?_
      obtain rfl := Option.some.inj h28
      exact fin_objs hΓ [_] (.inr rfl) rfl rfl rfl rfl (.inr ⟨HB.mk rfl, rfl⟩)
theorem c_route_Translator_pass {k : Nat} {t : T_route_Translator} {v_at : Int} {r : T_route_Translator} (h : m_route_Translator_pass k t v_at = some r) : EC Try.prog 37 [.ptr 1 0, I v_at] [.row 86 11 t.list.length (t.list.flatMap e_route_entry), .box 64 [I t.nat.Maps, I t.nat.Lets, I t.nat.Timeout, I t.nat.First, I t.nat.Ports, B t.nat.Outer.Six, U t.nat.Outer.Hi, U t.nat.Outer.Lo, I t.now, I t.v_next, .sl 0 t.list.length]] fun g hp' => g = .tup [] ∧ hp' = [.row 86 11 r.list.length (r.list.flatMap e_route_entry), .box 64 [I r.nat.Maps, I r.nat.Lets, I r.nat.Timeout, I r.nat.First, I r.nat.Ports, B r.nat.Outer.Six, U r.nat.Outer.Hi, U r.nat.Outer.Lo, I r.now, I r.v_next, .sl 0 r.list.length]] := by
  refine ec_enterC (Fr.of 0 _) Try.func37 rfl (Fr.of_ok _) (Nat.le_of_ble_eq_true rfl) fun _ => ?_
  refine go_in ?_
  unfold m_route_Translator_pass at h
  refine go hΓ 2 rfl ?_
  refine eo_box rfl rfl rfl rfl (Nat.le_of_ble_eq_true rfl) ?_
  refine eo_box rfl rfl rfl rfl (Nat.le_of_ble_eq_true rfl) ?_
  refine go_ops hΓ 8 rfl ?_
  refine eo_store hΓ rfl rfl rfl rfl rfl rfl rfl rfl (Nat.le_of_ble_eq_true rfl) ?_
  refine eo_hp [.row 86 11 t.list.length (t.list.flatMap e_route_entry), .box 64 [I t.nat.Maps, I t.nat.Lets, I t.nat.Timeout, I t.nat.First, I t.nat.Ports, B t.nat.Outer.Six, U t.nat.Outer.Hi, U t.nat.Outer.Lo, I v_at, I t.v_next, .sl 0 t.list.length], .box 32 [.ptr 1 0], .box 3 [I v_at]] rfl ?_
  refine go_ops hΓ 2 rfl ?_
  refine j_drawE [.dead, .dead, .box 32 [.ptr 1 0]] [0, 1] [4, 6, 9] [] hmix (by kernel_rfl) (by kernel_rfl) ⟨rfl, trivial⟩ (Nat.le_of_ble_eq_true rfl) ?_
  refine go_E hΓ 4 rfl ?_
  refine ge_h [.row 86 11 t.list.length (t.list.flatMap e_route_entry), .box 64 [I t.nat.Maps, I t.nat.Lets, I t.nat.Timeout, I t.nat.First, I t.nat.Ports, B t.nat.Outer.Six, U t.nat.Outer.Hi, U t.nat.Outer.Lo, I v_at, I t.v_next, .sl 0 t.list.length], .box 32 [.ptr 1 0], .box 3 [I v_at]] rfl rfl rfl (st_st ⟨rfl, trivial⟩) (qte_of_qt (qt_p (pst_ok hΓ rfl))) ?_
  obtain ⟨y1, hy1, h2⟩ := bi_ok h
  refine go_E hΓ 1 rfl ?_
  refine ge_h [.row 86 11 y1.length (y1.flatMap e_route_entry), .box 64 [I t.nat.Maps, I t.nat.Lets, I t.nat.Timeout, I t.nat.First, I t.nat.Ports, B t.nat.Outer.Six, U t.nat.Outer.Hi, U t.nat.Outer.Lo, I v_at, I t.v_next, .junk], .box 32 [.ptr 1 0], .box 3 [I v_at]] rfl rfl rfl (st_st ⟨rfl, trivial⟩) (qte_forg 0 (qte_callF [0, 3, 1, 2] (.sl 0 y1.length) [.row 86 11 y1.length (y1.flatMap e_route_entry), .box 64 [I t.nat.Maps, I t.nat.Lets, I t.nat.Timeout, I t.nat.First, I t.nat.Ports, B t.nat.Outer.Six, U t.nat.Outer.Hi, U t.nat.Outer.Lo, I v_at, I t.v_next, .junk], .box 32 [.ptr 1 0], .box 3 [I v_at]] (callable Try.func66 rfl rfl) (c_slices_DeleteFunc_route_entry_route_entry hy1) rfl rfl rfl rfl rfl rfl rfl rfl rfl rfl)) ?_
  refine go_E hΓ 2 rfl ?_
  refine ge_h0 [.row 86 11 y1.length (y1.flatMap e_route_entry), .box 64 [I t.nat.Maps, I t.nat.Lets, I t.nat.Timeout, I t.nat.First, I t.nat.Ports, B t.nat.Outer.Six, U t.nat.Outer.Hi, U t.nat.Outer.Lo, I v_at, I t.v_next, .sl 0 y1.length], .box 32 [.ptr 1 0], .box 3 [I v_at]] rfl rfl (st_st ⟨rfl, trivial⟩) (qte_u (opu_store2 hΓ rfl rfl rfl rfl rfl rfl rfl rfl rfl)) ?_
  refine ge_fin ?_
  refine cv_here ?_
  obtain rfl := Option.some.inj h2
  exact fin_objs hΓ [_, _] (.inl rfl) rfl rfl rfl rfl (.inr ⟨HB.mk rfl, rfl⟩)
theorem c_route_Translator_free_1 {x : T_route_entry} {x2 : Int} {r : Bool} (h : m_route_Translator_free_1 x x2 = some r) : EC Try.prog 69 [.agg [B x.inner.Addr.Six, U x.inner.Addr.Hi, U x.inner.Addr.Lo, I x.inner.Port, I x.port, B x.dep.Addr.Six, U x.dep.Addr.Hi, U x.dep.Addr.Lo, I x.dep.Port, I x.last, .d (Slt 45 4 e_api_Spot x.sent)], .ptr 0 0] [.box 3 [I x2]] fun g hp' => g = B r ∧ hp' = [.box 3 [I x2]] := by
  refine ec_enter (Fr.of 0 _) Try.func69 rfl (Fr.of_ok _) (Nat.le_of_ble_eq_true rfl) fun _ => ?_
  refine go_in ?_
  unfold m_route_Translator_free_1 at h
  refine go hΓ 2 rfl ?_
  refine eo_box rfl rfl rfl rfl (Nat.le_of_ble_eq_true rfl) ?_
  refine go_ops hΓ 13 rfl ?_
  obtain rfl := Option.some.inj h
  exact fin_objs hΓ [_] (.inr rfl) rfl rfl rfl rfl (.inr ⟨HB.mk rfl, rfl⟩)
theorem c_slices_IndexFunc_route_entry_route_entry_3 {s : List T_route_entry} {f : Int} {r : Int} (h : m_slices_IndexFunc_route_entry_route_entry_3 s f = some r) : EC Try.prog 64 [.sl 0 s.length, .fn (.func 69) [] [.ptr 1 0]] [.row 86 11 s.length (s.flatMap e_route_entry), .box 3 [I f]] fun g hp' => g = I r ∧ hp' = [.row 86 11 s.length (s.flatMap e_route_entry), .box 3 [I f]] := by
  refine ec_enter (Fr.of 0 _) Try.func64 rfl (Fr.of_ok _) (Nat.le_of_ble_eq_true rfl) fun _ => ?_
  refine go_in ?_
  unfold m_slices_IndexFunc_route_entry_route_entry_3 at h
  refine go hΓ 13 rfl ?_
  obtain ⟨q4, hq4, h5⟩ := bi_ok h
  obtain ⟨hb7, h8⟩ := gd_ok hq4
  replace hb7 := of_decide_eq_true hb7
  refine j_cutEZ (R := fun a6 => q4 = .go a6) (fun a6 => []) (fun a6 => [.row 86 11 s.length (s.flatMap e_route_entry), .box 3 [I f]]) ?_ ?_
  · refine go hΓ 1 rfl ?_
    refine j_rangeI h8 (fun i1 s2 => [(0, .sl 0 s.length), (1, .fn (.func 69) [] [.ptr 1 0]), (7, I (s.length : Int)), (8, I (i1 : Int))]) (fun s2 => [.row 86 11 s.length (s.flatMap e_route_entry), .box 3 [I f]]) ⟨⟨rfl, rfl, rfl, rfl, trivial⟩, [], rfl, .inl rfl⟩ (fun i1 s2 y12 hlt hy10 hout11 => ?_) (fun s2 hgo hge => ?_)
    · refine go hΓ 6 rfl ?_
      refine j_condT rfl (decide_eq_true hlt) ?_
      obtain ⟨x13, hx13, h14⟩ := bi_ok hy10
      have hj15 := getZ_at hx13
      refine go hΓ 15 rfl ?_
      refine eo_o rfl (op_elemRowZ hΓ hx13 rfl rfl rfl rfl rfl rfl) ?_
      refine eo_o rfl (op_loadRowZ hΓ (enc := e_route_entry) ((i1 : Int).toNat) 0 hj15 rfl rfl rfl rfl (fun _ => rfl) (g := .agg [B x13.inner.Addr.Six, U x13.inner.Addr.Hi, U x13.inner.Addr.Lo, I x13.inner.Port, I x13.port, B x13.dep.Addr.Six, U x13.dep.Addr.Hi, U x13.dep.Addr.Lo, I x13.dep.Port, I x13.last, .d (Slt 45 4 e_api_Spot x13.sent)]) rfl) ?_
      obtain ⟨y16, hy16, h17⟩ := bi_ok h14
      refine eo_callF [1] (B y16) [.row 86 11 s.length (s.flatMap e_route_entry), .box 3 [I f]] (callable Try.func69 rfl rfl) (c_route_Translator_free_1 hy16) rfl (Nat.le_of_ble_eq_true rfl) rfl rfl rfl rfl rfl rfl rfl rfl rfl rfl ?_
      refine go_ops hΓ 2 rfl ?_
      refine j_cond rfl (fun hb => ?_) (fun hb => ?_)
      · have h18 := cT h17 hb
        refine go hΓ 9 rfl ?_
        obtain ⟨v19, hv19, h20⟩ := bi_ok h18
        obtain rfl := Option.some.inj h20
        obtain rfl := hout11 _ rfl
        obtain rfl := Option.some.inj h5
        refine go hΓ 4 rfl ?_
        obtain rfl := Option.some.inj hv19
        exact fin_objs hΓ [] (.inr rfl) rfl rfl rfl rfl (.inl rfl)
      · have h21 := cF h17 hb
        refine go hΓ 7 rfl ?_
        obtain rfl := Option.some.inj h21
        exact ⟨_, rfl, ⟨⟨rfl, rfl, rfl, get_eq rfl (w64_succ (by omega)), trivial⟩, [], rfl, .inl rfl⟩⟩
    · subst hgo
      refine go hΓ 6 rfl ?_
      refine j_condF rfl (decide_eq_false hge) ?_
      refine go hΓ 4 rfl ?_
      exact ⟨_, rfl, ⟨trivial, [], rfl, .inl rfl⟩⟩
  · intro a6 ha
    subst ha
    replace h5 := goI_l h5
    refine go hΓ 7 rfl ?_
    obtain rfl := Option.some.inj h5
    exact fin_objs hΓ [] (.inr rfl) rfl rfl rfl rfl (.inl rfl)
theorem c_slices_ContainsFunc_route_entry_route_entry {s : List T_route_entry} {f : Int} {r : Bool} (h : m_slices_ContainsFunc_route_entry_route_entry s f = some r) : EC Try.prog 68 [.sl 0 s.length, .fn (.func 69) [] [.ptr 1 0]] [.row 86 11 s.length (s.flatMap e_route_entry), .box 3 [I f]] fun g hp' => g = B r ∧ hp' = [.row 86 11 s.length (s.flatMap e_route_entry), .box 3 [I f]] := by
  refine ec_enter (Fr.of 0 _) Try.func68 rfl (Fr.of_ok _) (Nat.le_of_ble_eq_true rfl) fun _ => ?_
  refine go_in ?_
  unfold m_slices_ContainsFunc_route_entry_route_entry at h
  obtain ⟨y1, hy1, h2⟩ := bi_ok h
  refine go hΓ 9 rfl ?_
  refine eo_callF [0, 1] (I y1) [.row 86 11 s.length (s.flatMap e_route_entry), .box 3 [I f]] (callable Try.func64 rfl rfl) (c_slices_IndexFunc_route_entry_route_entry_3 hy1) rfl (Nat.le_of_ble_eq_true rfl) rfl rfl rfl rfl rfl rfl rfl rfl rfl rfl ?_
  refine go_ops hΓ 5 rfl ?_
  obtain rfl := Option.some.inj h2
  exact fin_objs hΓ [] (.inr rfl) rfl rfl rfl rfl (.inl rfl)
theorem c_route_Translator_after {t : T_route_Translator} {port : Int} {r : Int} (h : m_route_Translator_after t port = some r) : EC Try.prog 70 [.ptr 1 0, I port] [.row 86 11 t.list.length (t.list.flatMap e_route_entry), .box 64 [I t.nat.Maps, I t.nat.Lets, I t.nat.Timeout, I t.nat.First, I t.nat.Ports, B t.nat.Outer.Six, U t.nat.Outer.Hi, U t.nat.Outer.Lo, I t.now, I t.v_next, .sl 0 t.list.length]] fun g hp' => g = I r ∧ hp' = [.row 86 11 t.list.length (t.list.flatMap e_route_entry), .box 64 [I t.nat.Maps, I t.nat.Lets, I t.nat.Timeout, I t.nat.First, I t.nat.Ports, B t.nat.Outer.Six, U t.nat.Outer.Hi, U t.nat.Outer.Lo, I t.now, I t.v_next, .sl 0 t.list.length]] := by
  refine ec_enter (Fr.of 0 _) Try.func70 rfl (Fr.of_ok _) (Nat.le_of_ble_eq_true rfl) fun _ => ?_
  refine go_in ?_
  unfold m_route_Translator_after at h
  refine go hΓ 7 rfl ?_
  refine j_draw hmix (by kernel_rfl) ?_
  refine go hΓ 16 rfl ?_
  refine j_cond rfl (fun hb => ?_) (fun hb => ?_)
  · have h1 := cT h hb
    refine go hΓ 12 rfl ?_
    obtain rfl := Option.some.inj h1
    exact fin_objs hΓ [] (.inr rfl) rfl rfl rfl rfl (.inl rfl)
  · have h2 := cF h hb
    refine go hΓ 10 rfl ?_
    obtain rfl := Option.some.inj h2
    exact fin_objs hΓ [] (.inr rfl) rfl rfl rfl rfl (.inl rfl)
theorem c_route_Translator_free {k : Nat} {t : T_route_Translator} {r : Int × T_route_Translator} (h : m_route_Translator_free k t = some r) : EC Try.prog 38 [.ptr 1 0] [.row 86 11 t.list.length (t.list.flatMap e_route_entry), .box 64 [I t.nat.Maps, I t.nat.Lets, I t.nat.Timeout, I t.nat.First, I t.nat.Ports, B t.nat.Outer.Six, U t.nat.Outer.Hi, U t.nat.Outer.Lo, I t.now, I t.v_next, .sl 0 t.list.length]] fun g hp' => g = I r.1 ∧ hp' = [.row 86 11 r.2.list.length (r.2.list.flatMap e_route_entry), .box 64 [I r.2.nat.Maps, I r.2.nat.Lets, I r.2.nat.Timeout, I r.2.nat.First, I r.2.nat.Ports, B r.2.nat.Outer.Six, U r.2.nat.Outer.Hi, U r.2.nat.Outer.Lo, I r.2.now, I r.2.v_next, .sl 0 r.2.list.length]] := by
  refine ec_enterC (Fr.of 0 _) Try.func38 rfl (Fr.of_ok _) (Nat.le_of_ble_eq_true rfl) fun _ => ?_
  refine go_in ?_
  unfold m_route_Translator_free at h
  refine go hΓ 11 rfl ?_
  refine eo_alloc hΓ rfl rfl rfl (Nat.le_of_ble_eq_true rfl) ?_
  refine eo_store hΓ rfl rfl rfl rfl rfl rfl rfl rfl (Nat.le_of_ble_eq_true rfl) ?_
  refine eo_hp [.row 86 11 t.list.length (t.list.flatMap e_route_entry), .box 64 [I t.nat.Maps, I t.nat.Lets, I t.nat.Timeout, I t.nat.First, I t.nat.Ports, B t.nat.Outer.Six, U t.nat.Outer.Hi, U t.nat.Outer.Lo, I t.now, I t.v_next, .sl 0 t.list.length], .box 3 [I t.v_next]] rfl ?_
  refine go_ops hΓ 3 rfl ?_
  obtain ⟨q4, hq4, h5⟩ := bi_ok h
  refine j_cutNZ [(0, .ptr 1 0), (3, .ptr 2 0)] [.row 86 11 t.list.length (t.list.flatMap e_route_entry), .box 64 [I t.nat.Maps, I t.nat.Lets, I t.nat.Timeout, I t.nat.First, I t.nat.Ports, B t.nat.Outer.Six, U t.nat.Outer.Hi, U t.nat.Outer.Lo, I t.now, I t.v_next, .sl 0 t.list.length], .box 3 [I q4]] ?_ ?_
  · refine go hΓ 1 rfl ?_
    refine j_loop hq4 (fun s2 => [(0, .ptr 1 0), (3, .ptr 2 0)]) (fun s2 => [.row 86 11 t.list.length (t.list.flatMap e_route_entry), .box 64 [I t.nat.Maps, I t.nat.Lets, I t.nat.Timeout, I t.nat.First, I t.nat.Ports, B t.nat.Outer.Six, U t.nat.Outer.Hi, U t.nat.Outer.Lo, I t.now, I t.v_next, .sl 0 t.list.length], .box 3 [I s2]]) ⟨⟨rfl, rfl, trivial⟩, [], rfl, .inl rfl⟩ (fun s2 y10 hy8 hout9 => ?_)
    obtain ⟨y11, hy11, h12⟩ := bi_ok hy8
    refine go hΓ 8 rfl ?_
    refine eo_callF [0, 2] (B y11) [.row 86 11 t.list.length (t.list.flatMap e_route_entry), .box 64 [I t.nat.Maps, I t.nat.Lets, I t.nat.Timeout, I t.nat.First, I t.nat.Ports, B t.nat.Outer.Six, U t.nat.Outer.Hi, U t.nat.Outer.Lo, I t.now, I t.v_next, .sl 0 t.list.length], .box 3 [I s2]] (callable Try.func68 rfl rfl) (c_slices_ContainsFunc_route_entry_route_entry hy11) rfl (Nat.le_of_ble_eq_true rfl) rfl rfl rfl rfl rfl rfl rfl rfl rfl rfl ?_
    refine go_ops hΓ 2 rfl ?_
    refine j_cond rfl (fun hb => ?_) (fun hb => ?_)
    · have h13 := cT h12 hb
      obtain ⟨y14, hy14, h15⟩ := bi_ok h13
      refine go hΓ 6 rfl ?_
      refine eo_callF [0, 1] (I y14) [.row 86 11 t.list.length (t.list.flatMap e_route_entry), .box 64 [I t.nat.Maps, I t.nat.Lets, I t.nat.Timeout, I t.nat.First, I t.nat.Ports, B t.nat.Outer.Six, U t.nat.Outer.Hi, U t.nat.Outer.Lo, I t.now, I t.v_next, .sl 0 t.list.length], .box 3 [I s2]] (callable Try.func70 rfl rfl) (c_route_Translator_after hy14) rfl (Nat.le_of_ble_eq_true rfl) rfl rfl rfl rfl rfl rfl rfl rfl rfl rfl ?_
      refine eo_store hΓ rfl rfl rfl rfl rfl rfl rfl rfl (Nat.le_of_ble_eq_true rfl) ?_
      refine eo_hp [.row 86 11 t.list.length (t.list.flatMap e_route_entry), .box 64 [I t.nat.Maps, I t.nat.Lets, I t.nat.Timeout, I t.nat.First, I t.nat.Ports, B t.nat.Outer.Six, U t.nat.Outer.Hi, U t.nat.Outer.Lo, I t.now, I t.v_next, .sl 0 t.list.length], .box 3 [I y14]] rfl ?_
      refine go_ops hΓ 2 rfl ?_
      obtain rfl := Option.some.inj h15
      exact ⟨_, rfl, ⟨⟨rfl, rfl, trivial⟩, [], rfl, .inl rfl⟩⟩
    · have h16 := cF h12 hb
      refine go hΓ 4 rfl ?_
      obtain rfl := Option.some.inj h16
      obtain rfl := hout9 _ rfl
      exact ⟨⟨rfl, rfl, trivial⟩, [], rfl, .inl rfl⟩
  · obtain ⟨y17, hy17, h18⟩ := bi_ok h5
    refine go hΓ 6 rfl ?_
    refine eo_callF [0, 1] (I y17) [.row 86 11 t.list.length (t.list.flatMap e_route_entry), .box 64 [I t.nat.Maps, I t.nat.Lets, I t.nat.Timeout, I t.nat.First, I t.nat.Ports, B t.nat.Outer.Six, U t.nat.Outer.Hi, U t.nat.Outer.Lo, I t.now, I t.v_next, .sl 0 t.list.length], .box 3 [I q4]] (callable Try.func70 rfl rfl) (c_route_Translator_after hy17) rfl (Nat.le_of_ble_eq_true rfl) rfl rfl rfl rfl rfl rfl rfl rfl rfl rfl ?_
    refine go_ops hΓ 2 rfl ?_
    refine eo_store hΓ rfl rfl rfl rfl rfl rfl rfl rfl (Nat.le_of_ble_eq_true rfl) ?_
    refine eo_hp [.row 86 11 t.list.length (t.list.flatMap e_route_entry), .box 64 [I t.nat.Maps, I t.nat.Lets, I t.nat.Timeout, I t.nat.First, I t.nat.Ports, B t.nat.Outer.Six, U t.nat.Outer.Hi, U t.nat.Outer.Lo, I t.now, I y17, .sl 0 t.list.length], .box 3 [I q4]] rfl ?_
    refine go_ops hΓ 9 rfl ?_
    refine cv_here ?_
    obtain rfl := Option.some.inj h18
    exact fin_objs hΓ [_] (.inr rfl) rfl rfl rfl rfl (.inr ⟨HB.mk rfl, rfl⟩)
theorem c_slices_Index_api_Spot_api_Spot {s : List T_api_Spot} {v : T_api_Spot} {r : Int} (h : m_slices_Index_api_Spot_api_Spot s v = some r) : Pure Try.prog 71 [.d (Sl e_api_Spot s), .agg [B v.Addr.Six, U v.Addr.Hi, U v.Addr.Lo, I v.Port]] (I r) := by
  refine Pure.enter (Fr.of 0 _) Try.func71 rfl (Fr.of_ok _) rfl rfl ?_
  refine go_in ?_
  unfold m_slices_Index_api_Spot_api_Spot at h
  refine go hΓ 2 rfl ?_
  refine eo_box rfl rfl rfl rfl (Nat.le_of_ble_eq_true rfl) ?_
  refine go_ops hΓ 11 rfl ?_
  obtain ⟨q4, hq4, h5⟩ := bi_ok h
  refine j_bound 0 rfl fun hb7 => ?_
  refine j_cutEZ (R := fun a6 => q4 = .go a6) (fun a6 => []) (fun a6 => [.box 45 [B v.Addr.Six, U v.Addr.Hi, U v.Addr.Lo, I v.Port]]) ?_ ?_
  · refine go hΓ 1 rfl ?_
    refine j_range s hq4 (fun i1 s2 => [(0, .d (Sl e_api_Spot s)), (3, .ptr 0 0), (7, I (s.length : Int)), (8, I (i1 : Int))]) (fun s2 => [.box 45 [B v.Addr.Six, U v.Addr.Hi, U v.Addr.Lo, I v.Port]]) ⟨⟨rfl, rfl, rfl, rfl, trivial⟩, [], rfl, .inl rfl⟩ (fun i1 x3 s2 y11 hx8 hlt hy9 hout10 => ?_) (fun s2 hgo => ?_)
    · refine go hΓ 6 rfl ?_
      refine j_condT rfl (decide_eq_true (Int.ofNat_lt.2 hlt)) ?_
      refine go hΓ 11 rfl ?_
      refine j_draw hmix (by kernel_rfl) ?_
      refine go hΓ 3 rfl ?_
      refine gl_o rfl (op_elemZ hΓ (enc := e_api_Spot) (getZ_nat hx8) rfl rfl rfl rfl rfl (fun _ => rfl)) ?_
      refine go_draw hΓ 1 rfl ?_
      refine gl_o rfl (op_eqS hΓ [45, 28] (b := ((((v.Addr.Six : Bool) == x3.Addr.Six) && (((v.Addr.Hi : Int) == x3.Addr.Hi) && (((v.Addr.Lo : Int) == x3.Addr.Lo) && true))) && (((v.Port : Int) == x3.Port) && true))) (by kernel_rfl) (by kernel_rfl) rfl rfl rfl) ?_
      refine go_draw hΓ 2 rfl ?_
      refine j_cond rfl (fun hb => ?_) (fun hb => ?_)
      · have h12 := cT hy9 hb
        refine go hΓ 9 rfl ?_
        obtain ⟨v13, hv13, h14⟩ := bi_ok h12
        obtain rfl := Option.some.inj h14
        obtain rfl := hout10 _ rfl
        obtain rfl := Option.some.inj h5
        refine go hΓ 4 rfl ?_
        obtain rfl := Option.some.inj hv13
        exact fin_pure hΓ (.inr rfl) rfl rfl
      · have h15 := cF hy9 hb
        refine go hΓ 7 rfl ?_
        obtain rfl := Option.some.inj h15
        exact ⟨_, rfl, ⟨⟨rfl, rfl, rfl, get_eq rfl (w64_succ (Nat.lt_of_lt_of_le hlt hb7)), trivial⟩, [], rfl, .inl rfl⟩⟩
    · subst hgo
      refine go hΓ 6 rfl ?_
      refine j_condF rfl (decide_eq_false (Int.lt_irrefl _)) ?_
      refine go hΓ 4 rfl ?_
      exact ⟨_, rfl, ⟨trivial, [], rfl, .inl rfl⟩⟩
  · intro a6 ha
    subst ha
    replace h5 := goI_l h5
    refine go hΓ 7 rfl ?_
    obtain rfl := Option.some.inj h5
    exact fin_pure hΓ (.inr rfl) rfl rfl
theorem c_slices_Contains_api_Spot_api_Spot {s : List T_api_Spot} {v : T_api_Spot} {r : Bool} (h : m_slices_Contains_api_Spot_api_Spot s v = some r) : Pure Try.prog 40 [.d (Sl e_api_Spot s), .agg [B v.Addr.Six, U v.Addr.Hi, U v.Addr.Lo, I v.Port]] (B r) := by
  refine Pure.enter (Fr.of 0 _) Try.func40 rfl (Fr.of_ok _) rfl rfl ?_
  refine go_in ?_
  unfold m_slices_Contains_api_Spot_api_Spot at h
  refine go hΓ 2 rfl ?_
  refine eo_box rfl rfl rfl rfl (Nat.le_of_ble_eq_true rfl) ?_
  obtain ⟨y1, hy1, h2⟩ := bi_ok h
  refine go_ops hΓ 7 rfl ?_
  refine eo_callP (callable Try.func71 rfl rfl) (c_slices_Index_api_Spot_api_Spot hy1) rfl (Nat.le_of_ble_eq_true rfl) rfl rfl rfl rfl rfl ?_
  refine go_ops hΓ 5 rfl ?_
  obtain rfl := Option.some.inj h2
  exact fin_pure hΓ (.inr rfl) rfl rfl
set_option maxHeartbeats 8000000 in
theorem c_route_Translator_Out {k : Nat} {t : T_route_Translator} {v_at : Int} {v_from : T_api_Spot} {to : T_api_Spot} {al : List Bool} {r : T_api_Spot × Int × T_route_Translator × (List Bool)} (h : m_route_Translator_Out k t v_at v_from to al = some r) : EC Try.prog 15 [.ptr 1 0, I v_at, .agg [B v_from.Addr.Six, U v_from.Addr.Hi, U v_from.Addr.Lo, I v_from.Port], .agg [B to.Addr.Six, U to.Addr.Hi, U to.Addr.Lo, I to.Port]] [.row 86 11 t.list.length (t.list.flatMap e_route_entry), .box 64 [I t.nat.Maps, I t.nat.Lets, I t.nat.Timeout, I t.nat.First, I t.nat.Ports, B t.nat.Outer.Six, U t.nat.Outer.Hi, U t.nat.Outer.Lo, I t.now, I t.v_next, .sl 0 t.list.length], .bag al] fun g hp' => g = .tup [.agg [B r.1.Addr.Six, U r.1.Addr.Hi, U r.1.Addr.Lo, I r.1.Port], I r.2.1] ∧ hp' = [.dead, .box 64 [I r.2.2.1.nat.Maps, I r.2.2.1.nat.Lets, I r.2.2.1.nat.Timeout, I r.2.2.1.nat.First, I r.2.2.1.nat.Ports, B r.2.2.1.nat.Outer.Six, U r.2.2.1.nat.Outer.Hi, U r.2.2.1.nat.Outer.Lo, I r.2.2.1.now, I r.2.2.1.v_next, .sl 3 r.2.2.1.list.length], .bag r.2.2.2, .row 86 11 r.2.2.1.list.length (r.2.2.1.list.flatMap e_route_entry)] := by
  refine ec_enterC (Fr.of 0 _) Try.func15 rfl (Fr.of_ok _) (Nat.le_of_ble_eq_true rfl) fun _ => ?_
  refine go_in ?_
  unfold m_route_Translator_Out at h
  refine j_name (Nat.le_of_ble_eq_true rfl) ?_
  refine j_move 0 3 [.dead, .box 64 [I t.nat.Maps, I t.nat.Lets, I t.nat.Timeout, I t.nat.First, I t.nat.Ports, B t.nat.Outer.Six, U t.nat.Outer.Hi, U t.nat.Outer.Lo, I t.now, I t.v_next, .sl 3 t.list.length], .bag al, .row 86 11 t.list.length (t.list.flatMap e_route_entry)] rfl rfl rfl rfl rfl rfl ?_
  refine go hΓ 2 rfl ?_
  refine eo_box rfl rfl rfl rfl (Nat.le_of_ble_eq_true rfl) ?_
  refine eo_box rfl rfl rfl rfl (Nat.le_of_ble_eq_true rfl) ?_
  refine eo_alloc hΓ rfl rfl rfl (Nat.le_of_ble_eq_true rfl) ?_
  obtain ⟨y1, hy1, h2⟩ := bi_ok h
  refine go_ops hΓ 8 rfl ?_
  refine eo_callF [3, 1] (I y1) [.dead, .box 64 [I t.nat.Maps, I t.nat.Lets, I t.nat.Timeout, I t.nat.First, I t.nat.Ports, B t.nat.Outer.Six, U t.nat.Outer.Hi, U t.nat.Outer.Lo, I t.now, I t.v_next, .sl 3 t.list.length], .bag al, .row 86 11 t.list.length (t.list.flatMap e_route_entry), .box 45 [B v_from.Addr.Six, U v_from.Addr.Hi, U v_from.Addr.Lo, I v_from.Port], .box 45 [B to.Addr.Six, U to.Addr.Hi, U to.Addr.Lo, I to.Port], .box 45 [B false, U 0, U 0, I 0]] (callable Try.func33 rfl rfl) (c_route_Translator_timeFault hy1) rfl (Nat.le_of_ble_eq_true rfl) rfl rfl rfl rfl rfl rfl rfl rfl rfl rfl ?_
  refine go_ops hΓ 9 rfl ?_
  refine j_cond rfl (fun hb => ?_) (fun hb => ?_)
  · have h3 := cT h2 hb
    refine go hΓ 2 rfl ?_
    refine eo_build hΓ (gs := [B false, U 0, U 0, I 0]) rfl rfl rfl rfl rfl rfl rfl ?_
    refine go_ops hΓ 1 rfl ?_
    refine eo_store hΓ rfl rfl rfl rfl rfl rfl rfl rfl (Nat.le_of_ble_eq_true rfl) ?_
    refine eo_hp [.dead, .box 64 [I t.nat.Maps, I t.nat.Lets, I t.nat.Timeout, I t.nat.First, I t.nat.Ports, B t.nat.Outer.Six, U t.nat.Outer.Hi, U t.nat.Outer.Lo, I t.now, I t.v_next, .sl 3 t.list.length], .bag al, .row 86 11 t.list.length (t.list.flatMap e_route_entry), .box 45 [B v_from.Addr.Six, U v_from.Addr.Hi, U v_from.Addr.Lo, I v_from.Port], .box 45 [B to.Addr.Six, U to.Addr.Hi, U to.Addr.Lo, I to.Port], .box 45 [B false, U 0, U 0, I 0]] rfl ?_
    refine go_ops hΓ 5 rfl ?_
    refine cv_here ?_
    obtain rfl := Option.some.inj h3
    exact fin_objs hΓ [_, _, _] (.inr rfl) rfl rfl rfl rfl (.inr ⟨HB.mk rfl, rfl⟩)
  · have h4 := cF h2 hb
    refine go hΓ 7 rfl ?_
    refine eo_o rfl (op_buildA hΓ (gs := [B v_from.Addr.Six, U v_from.Addr.Hi, U v_from.Addr.Lo, I v_from.Port, B to.Addr.Six, U to.Addr.Hi, U to.Addr.Lo, I to.Port]) rfl rfl rfl rfl rfl rfl) ?_
    refine go_ops hΓ 3 rfl ?_
    obtain ⟨q8, hq8, h9⟩ := bi_ok h4
    refine j_cutEZ (R := fun a10 => q8 = .inl a10) (fun a10 => [(0, .ptr 1 0), (1, I v_at), (6, .ptr 4 0), (7, .ptr 5 0), (8, .ptr 6 0)]) (fun a10 => [.dead, .box 64 [I t.nat.Maps, I t.nat.Lets, I t.nat.Timeout, I t.nat.First, I t.nat.Ports, B t.nat.Outer.Six, U t.nat.Outer.Hi, U t.nat.Outer.Lo, I t.now, I t.v_next, .sl 3 t.list.length], .bag al, .row 86 11 t.list.length (t.list.flatMap e_route_entry), .box 45 [B v_from.Addr.Six, U v_from.Addr.Hi, U v_from.Addr.Lo, I v_from.Port], .box 45 [B to.Addr.Six, U to.Addr.Hi, U to.Addr.Lo, I to.Port], .box 45 [B false, U 0, U 0, I 0]]) ?_ ?_
    · refine go hΓ 1 rfl ?_
      refine j_loop hq8 (fun s6 => [(0, .ptr 1 0), (1, I v_at), (6, .ptr 4 0), (7, .ptr 5 0), (8, .ptr 6 0), (27, .agg [B v_from.Addr.Six, U v_from.Addr.Hi, U v_from.Addr.Lo, I v_from.Port, B to.Addr.Six, U to.Addr.Hi, U to.Addr.Lo, I to.Port]), (28, I s6)]) (fun s6 => [.dead, .box 64 [I t.nat.Maps, I t.nat.Lets, I t.nat.Timeout, I t.nat.First, I t.nat.Ports, B t.nat.Outer.Six, U t.nat.Outer.Hi, U t.nat.Outer.Lo, I t.now, I t.v_next, .sl 3 t.list.length], .bag al, .row 86 11 t.list.length (t.list.flatMap e_route_entry), .box 45 [B v_from.Addr.Six, U v_from.Addr.Hi, U v_from.Addr.Lo, I v_from.Port], .box 45 [B to.Addr.Six, U to.Addr.Hi, U to.Addr.Lo, I to.Port], .box 45 [B false, U 0, U 0, I 0]]) ⟨⟨rfl, rfl, rfl, rfl, rfl, rfl, rfl, trivial⟩, [], rfl, .inl rfl⟩ (fun s6 y14 hy12 hout13 => ?_)
      refine go hΓ 6 rfl ?_
      refine j_cond rfl (fun hb => ?_) (fun hb => ?_)
      · have h15 := cT hy12 hb
        obtain ⟨x16, hx16, h17⟩ := bi_ok h15
        refine go hΓ 6 rfl ?_
        refine eo_o rfl (op_indexArrZ hΓ (enc := e_api_Spot) [v_from, to] hx16 rfl rfl rfl rfl rfl rfl rfl (fun _ => rfl) rfl) ?_
        refine eo_alloc hΓ rfl rfl rfl (Nat.le_of_ble_eq_true rfl) ?_
        refine eo_store hΓ rfl rfl rfl rfl rfl rfl rfl rfl (Nat.le_of_ble_eq_true rfl) ?_
        refine eo_hp [.dead, .box 64 [I t.nat.Maps, I t.nat.Lets, I t.nat.Timeout, I t.nat.First, I t.nat.Ports, B t.nat.Outer.Six, U t.nat.Outer.Hi, U t.nat.Outer.Lo, I t.now, I t.v_next, .sl 3 t.list.length], .bag al, .row 86 11 t.list.length (t.list.flatMap e_route_entry), .box 45 [B v_from.Addr.Six, U v_from.Addr.Hi, U v_from.Addr.Lo, I v_from.Port], .box 45 [B to.Addr.Six, U to.Addr.Hi, U to.Addr.Lo, I to.Port], .box 45 [B false, U 0, U 0, I 0], .box 45 [B x16.Addr.Six, U x16.Addr.Hi, U x16.Addr.Lo, I x16.Port]] rfl ?_
        obtain ⟨y18, hy18, h19⟩ := bi_ok h17
        refine go_ops hΓ 5 rfl ?_
        refine eo_callP (callable Try.func34 rfl rfl) (c_route_spotFault hy18) rfl (Nat.le_of_ble_eq_true rfl) rfl rfl rfl rfl rfl ?_
        refine go_ops hΓ 9 rfl ?_
        refine j_cond rfl (fun hb => ?_) (fun hb => ?_)
        · have h20 := cT h19 hb
          refine go hΓ 2 rfl ?_
          refine eo_build hΓ (gs := [B false, U 0, U 0, I 0]) rfl rfl rfl rfl rfl rfl rfl ?_
          refine go_ops hΓ 1 rfl ?_
          refine eo_store hΓ rfl rfl rfl rfl rfl rfl rfl rfl (Nat.le_of_ble_eq_true rfl) ?_
          refine eo_hp [.dead, .box 64 [I t.nat.Maps, I t.nat.Lets, I t.nat.Timeout, I t.nat.First, I t.nat.Ports, B t.nat.Outer.Six, U t.nat.Outer.Hi, U t.nat.Outer.Lo, I t.now, I t.v_next, .sl 3 t.list.length], .bag al, .row 86 11 t.list.length (t.list.flatMap e_route_entry), .box 45 [B v_from.Addr.Six, U v_from.Addr.Hi, U v_from.Addr.Lo, I v_from.Port], .box 45 [B to.Addr.Six, U to.Addr.Hi, U to.Addr.Lo, I to.Port], .box 45 [B false, U 0, U 0, I 0], .box 45 [B x16.Addr.Six, U x16.Addr.Hi, U x16.Addr.Lo, I x16.Port]] rfl ?_
          refine go_ops hΓ 6 rfl ?_
          obtain ⟨v21, hv21, h22⟩ := bi_ok h20
          obtain rfl := Option.some.inj h22
          obtain rfl := hout13 _ rfl
          obtain rfl := Option.some.inj h9
          refine go hΓ 4 rfl ?_
          refine cv_here ?_
          obtain rfl := Option.some.inj hv21
          exact fin_objs hΓ [_, _, _, _] (.inr rfl) rfl rfl rfl rfl (.inr ⟨HB.mk rfl, rfl⟩)
        · have h23 := cF h19 hb
          refine go hΓ 7 rfl ?_
          obtain rfl := Option.some.inj h23
          exact ⟨_, rfl, ⟨⟨rfl, rfl, rfl, rfl, rfl, rfl, rfl, trivial⟩, [_], rfl, .inr ⟨HB.mk rfl, FB.mk rfl, (Nat.le_of_ble_eq_true rfl)⟩⟩⟩
      · have h24 := cF hy12 hb
        refine go hΓ 4 rfl ?_
        obtain rfl := Option.some.inj h24
        obtain rfl := hout13 _ rfl
        exact ⟨_, rfl, ⟨⟨rfl, rfl, rfl, rfl, rfl, trivial⟩, [], rfl, .inl rfl⟩⟩
    · intro a10 ha
      subst ha
      replace h9 := orI_l h9
      obtain ⟨y25, hy25, h26⟩ := bi_ok h9
      refine go hΓ 6 rfl ?_
      refine eo_callF [3, 1] (I y25) [.dead, .box 64 [I t.nat.Maps, I t.nat.Lets, I t.nat.Timeout, I t.nat.First, I t.nat.Ports, B t.nat.Outer.Six, U t.nat.Outer.Hi, U t.nat.Outer.Lo, I t.now, I t.v_next, .sl 3 t.list.length], .bag al, .row 86 11 t.list.length (t.list.flatMap e_route_entry), .box 45 [B v_from.Addr.Six, U v_from.Addr.Hi, U v_from.Addr.Lo, I v_from.Port], .box 45 [B to.Addr.Six, U to.Addr.Hi, U to.Addr.Lo, I to.Port], .box 45 [B false, U 0, U 0, I 0]] (callable Try.func35 rfl rfl) (c_route_Translator_lasting hy25) rfl (Nat.le_of_ble_eq_true rfl) rfl rfl rfl rfl rfl rfl rfl rfl rfl rfl ?_
      obtain ⟨y27, hy27, h28⟩ := bi_ok h26
      refine go_ops hΓ 9 rfl ?_
      refine eo_callF [3, 1] (I y27) [.dead, .box 64 [I t.nat.Maps, I t.nat.Lets, I t.nat.Timeout, I t.nat.First, I t.nat.Ports, B t.nat.Outer.Six, U t.nat.Outer.Hi, U t.nat.Outer.Lo, I t.now, I t.v_next, .sl 3 t.list.length], .bag al, .row 86 11 t.list.length (t.list.flatMap e_route_entry), .box 45 [B v_from.Addr.Six, U v_from.Addr.Hi, U v_from.Addr.Lo, I v_from.Port], .box 45 [B to.Addr.Six, U to.Addr.Hi, U to.Addr.Lo, I to.Port], .box 45 [B false, U 0, U 0, I 0]] (callable Try.func36 rfl rfl) (c_route_Translator_find hy27) rfl (Nat.le_of_ble_eq_true rfl) rfl rfl rfl rfl rfl rfl rfl rfl rfl rfl ?_
      refine go_ops hΓ 2 rfl ?_
      refine o_cut 12 [(0, .ptr 1 0), (1, I v_at), (6, .ptr 4 0), (7, .ptr 5 0), (8, .ptr 6 0), (59, B ((decide ((y27 : Int) < 0)) && ((decide ((y25 : Int) ≥ t.nat.Ports)) || (decide ((y25 : Int) ≥ 2000)))))] [.dead, .box 64 [I t.nat.Maps, I t.nat.Lets, I t.nat.Timeout, I t.nat.First, I t.nat.Ports, B t.nat.Outer.Six, U t.nat.Outer.Hi, U t.nat.Outer.Lo, I t.now, I t.v_next, .sl 3 t.list.length], .bag al, .row 86 11 t.list.length (t.list.flatMap e_route_entry), .box 45 [B v_from.Addr.Six, U v_from.Addr.Hi, U v_from.Addr.Lo, I v_from.Port], .box 45 [B to.Addr.Six, U to.Addr.Hi, U to.Addr.Lo, I to.Port], .box 45 [B false, U 0, U 0, I 0]] ?_ ?_
      · refine eo_gsplit rfl rfl (fun hb => ?_) (fun hb => ?_)
        · refine go_ops hΓ 8 rfl ?_
          refine o_cut 3 [(0, .ptr 1 0), (1, I v_at), (6, .ptr 4 0), (7, .ptr 5 0), (8, .ptr 6 0), (47, B true), (58, B ((decide ((y25 : Int) ≥ t.nat.Ports)) || (decide ((y25 : Int) ≥ 2000))))] [.dead, .box 64 [I t.nat.Maps, I t.nat.Lets, I t.nat.Timeout, I t.nat.First, I t.nat.Ports, B t.nat.Outer.Six, U t.nat.Outer.Hi, U t.nat.Outer.Lo, I t.now, I t.v_next, .sl 3 t.list.length], .bag al, .row 86 11 t.list.length (t.list.flatMap e_route_entry), .box 45 [B v_from.Addr.Six, U v_from.Addr.Hi, U v_from.Addr.Lo, I v_from.Port], .box 45 [B to.Addr.Six, U to.Addr.Hi, U to.Addr.Lo, I to.Port], .box 45 [B false, U 0, U 0, I 0]] ?_ ?_
          · refine eo_gsplit rfl rfl (fun hb => ?_) (fun hb => ?_)
            · refine go_ops hΓ 4 rfl ?_
              exact ⟨⟨rfl, rfl, rfl, rfl, rfl, rfl, get_b rfl (or_t hb), trivial⟩, [], rfl, .inl rfl⟩
            · refine go_ops hΓ 4 rfl ?_
              exact ⟨⟨rfl, rfl, rfl, rfl, rfl, rfl, get_b rfl (or_f hb), trivial⟩, [], rfl, .inl rfl⟩
          · refine go_ops hΓ 2 rfl ?_
            exact ⟨⟨rfl, rfl, rfl, rfl, rfl, get_b rfl (and_t hb), trivial⟩, [], rfl, .inl rfl⟩
        · refine go_ops hΓ 13 rfl ?_
          exact ⟨⟨rfl, rfl, rfl, rfl, rfl, get_b rfl (and_f hb), trivial⟩, [], rfl, .inl rfl⟩
      · refine go_ops hΓ 2 rfl ?_
        refine j_cond rfl (fun hb => ?_) (fun hb => ?_)
        · have h29 := cT h28 hb
          refine go hΓ 2 rfl ?_
          refine eo_build hΓ (gs := [B false, U 0, U 0, I 0]) rfl rfl rfl rfl rfl rfl rfl ?_
          refine eo_store hΓ rfl rfl rfl rfl rfl rfl rfl rfl (Nat.le_of_ble_eq_true rfl) ?_
          refine eo_hp [.dead, .box 64 [I t.nat.Maps, I t.nat.Lets, I t.nat.Timeout, I t.nat.First, I t.nat.Ports, B t.nat.Outer.Six, U t.nat.Outer.Hi, U t.nat.Outer.Lo, I t.now, I t.v_next, .sl 3 t.list.length], .bag al, .row 86 11 t.list.length (t.list.flatMap e_route_entry), .box 45 [B v_from.Addr.Six, U v_from.Addr.Hi, U v_from.Addr.Lo, I v_from.Port], .box 45 [B to.Addr.Six, U to.Addr.Hi, U to.Addr.Lo, I to.Port], .box 45 [B false, U 0, U 0, I 0]] rfl ?_
          refine go_ops hΓ 5 rfl ?_
          refine cv_here ?_
          obtain rfl := Option.some.inj h29
          exact fin_objs hΓ [_, _, _] (.inr rfl) rfl rfl rfl rfl (.inr ⟨HB.mk rfl, rfl⟩)
        · have h30 := cF h28 hb
          obtain ⟨y31, hy31, h32⟩ := bi_ok h30
          refine go hΓ 6 rfl ?_
          refine eo_callF [3, 1] (.tup []) [.dead, .box 64 [I y31.nat.Maps, I y31.nat.Lets, I y31.nat.Timeout, I y31.nat.First, I y31.nat.Ports, B y31.nat.Outer.Six, U y31.nat.Outer.Hi, U y31.nat.Outer.Lo, I y31.now, I y31.v_next, .sl 3 y31.list.length], .bag al, .row 86 11 y31.list.length (y31.list.flatMap e_route_entry), .box 45 [B v_from.Addr.Six, U v_from.Addr.Hi, U v_from.Addr.Lo, I v_from.Port], .box 45 [B to.Addr.Six, U to.Addr.Hi, U to.Addr.Lo, I to.Port], .box 45 [B false, U 0, U 0, I 0]] (callable Try.func37 rfl rfl) (c_route_Translator_pass hy31) rfl (Nat.le_of_ble_eq_true rfl) rfl rfl rfl rfl rfl rfl rfl rfl rfl rfl ?_
          obtain ⟨y33, hy33, h34⟩ := bi_ok h32
          refine go_ops hΓ 8 rfl ?_
          refine eo_callF [3, 1] (I y33) [.dead, .box 64 [I y31.nat.Maps, I y31.nat.Lets, I y31.nat.Timeout, I y31.nat.First, I y31.nat.Ports, B y31.nat.Outer.Six, U y31.nat.Outer.Hi, U y31.nat.Outer.Lo, I y31.now, I y31.v_next, .sl 3 y31.list.length], .bag al, .row 86 11 y31.list.length (y31.list.flatMap e_route_entry), .box 45 [B v_from.Addr.Six, U v_from.Addr.Hi, U v_from.Addr.Lo, I v_from.Port], .box 45 [B to.Addr.Six, U to.Addr.Hi, U to.Addr.Lo, I to.Port], .box 45 [B false, U 0, U 0, I 0]] (callable Try.func36 rfl rfl) (c_route_Translator_find hy33) rfl (Nat.le_of_ble_eq_true rfl) rfl rfl rfl rfl rfl rfl rfl rfl rfl rfl ?_
          obtain ⟨q35, hq35, h36⟩ := bi_ok h34
          refine go_ops hΓ 10 rfl ?_
          refine j_cutNC [(0, .ptr 1 0), (1, I v_at), (7, .ptr 5 0), (8, .ptr 6 0), (15, I q35.2.2.2.2.2.2.2.2.2.2.2)] [.dead, .box 64 [I q35.1, I q35.2.1, I q35.2.2.1, I q35.2.2.2.1, I q35.2.2.2.2.1, B q35.2.2.2.2.2.1, U q35.2.2.2.2.2.2.1, U q35.2.2.2.2.2.2.2.1, I q35.2.2.2.2.2.2.2.2.1, I q35.2.2.2.2.2.2.2.2.2.1, .sl 3 q35.2.2.2.2.2.2.2.2.2.2.1.length], .bag al, .row 86 11 q35.2.2.2.2.2.2.2.2.2.2.1.length (q35.2.2.2.2.2.2.2.2.2.2.1.flatMap e_route_entry), .box 45 [B v_from.Addr.Six, U v_from.Addr.Hi, U v_from.Addr.Lo, I v_from.Port], .box 45 [B to.Addr.Six, U to.Addr.Hi, U to.Addr.Lo, I to.Port], .box 45 [B false, U 0, U 0, I 0]] ?_ ?_
          · refine j_cond rfl (fun hb => ?_) (fun hb => ?_)
            · have h37 := cT hq35 hb
              obtain ⟨y38, hy38, h39⟩ := bi_ok h37
              refine go hΓ 13 rfl ?_
              refine eo_callF [3, 1] (I y38.1) [.dead, .box 64 [I y38.2.nat.Maps, I y38.2.nat.Lets, I y38.2.nat.Timeout, I y38.2.nat.First, I y38.2.nat.Ports, B y38.2.nat.Outer.Six, U y38.2.nat.Outer.Hi, U y38.2.nat.Outer.Lo, I y38.2.now, I y38.2.v_next, .sl 3 y38.2.list.length], .bag al, .row 86 11 y38.2.list.length (y38.2.list.flatMap e_route_entry), .box 45 [B v_from.Addr.Six, U v_from.Addr.Hi, U v_from.Addr.Lo, I v_from.Port], .box 45 [B to.Addr.Six, U to.Addr.Hi, U to.Addr.Lo, I to.Port], .box 45 [B false, U 0, U 0, I 0]] (callable Try.func38 rfl rfl) (c_route_Translator_free hy38) rfl (Nat.le_of_ble_eq_true rfl) rfl rfl rfl rfl rfl rfl rfl rfl rfl rfl ?_
              refine go_ops hΓ 3 rfl ?_
              refine j_drawE [.dead, .box 64 [I y38.2.nat.Maps, I y38.2.nat.Lets, I y38.2.nat.Timeout, I y38.2.nat.First, I y38.2.nat.Ports, B y38.2.nat.Outer.Six, U y38.2.nat.Outer.Hi, U y38.2.nat.Outer.Lo, I y38.2.now, I y38.2.v_next, .sl 3 y38.2.list.length], .dead, .dead, .box 45 [B v_from.Addr.Six, U v_from.Addr.Hi, U v_from.Addr.Lo, I v_from.Port], .box 45 [B to.Addr.Six, U to.Addr.Hi, U to.Addr.Lo, I to.Port]] [4, 5, 7, 12] [16, 19] [16, 19] hmix (by kernel_rfl) (by kernel_rfl) ⟨rfl, rfl, rfl, trivial⟩ (Nat.le_of_ble_eq_true rfl) ?_
              obtain ⟨y40, hy40, h41⟩ := bi_ok h39
              refine go_E hΓ 13 rfl ?_
              refine ge_callP (callable Try.func39 rfl rfl) (c_route_seen hy40) rfl rfl rfl rfl rfl rfl ?_
              refine ge_q rfl (.inl rfl) (fun _ _ => qte_of_qt (qt_p (op_le (op_buildX hΓ [10] (gs := [B v_from.Addr.Six, U v_from.Addr.Hi, U v_from.Addr.Lo, I v_from.Port, I y38.1, B y40.Addr.Six, U y40.Addr.Hi, U y40.Addr.Lo, I y40.Port, I 0, .d (.v (.slice none 0 0))]) rfl rfl rfl rfl rfl rfl) (g' := .agg [B v_from.Addr.Six, U v_from.Addr.Hi, U v_from.Addr.Lo, I v_from.Port, I y38.1, B y40.Addr.Six, U y40.Addr.Hi, U y40.Addr.Lo, I y40.Port, I 0, .d (Slt 45 4 e_api_Spot (1, []))]) (G.Le.agg ⟨.refl _, .refl _, .refl _, .refl _, .refl _, .refl _, .refl _, .refl _, .refl _, .refl _, G.Le.tagN, trivial⟩)))) ?_
              refine ge_litT hΓ (enc := e_route_entry) [(⟨v_from, y38.1, y40, 0, (1, [])⟩ : T_route_entry)] rfl rfl rfl rfl rfl rfl rfl rfl rfl rfl rfl rfl ?_
              obtain ⟨y42, hy42, h43⟩ := bi_ok h41
              refine ge_h [.dead, .box 64 [I y38.2.nat.Maps, I y38.2.nat.Lets, I y38.2.nat.Timeout, I y38.2.nat.First, I y38.2.nat.Ports, B y38.2.nat.Outer.Six, U y38.2.nat.Outer.Hi, U y38.2.nat.Outer.Lo, I y38.2.now, I y38.2.v_next, .junk], .bag al, .dead, .box 45 [B v_from.Addr.Six, U v_from.Addr.Hi, U v_from.Addr.Lo, I v_from.Port], .box 45 [B to.Addr.Six, U to.Addr.Hi, U to.Addr.Lo, I to.Port], .box 45 [B false, U 0, U 0, I 0], .row 86 11 y42.length (y42.flatMap e_route_entry)] rfl rfl rfl (brk_st rfl) (qte_s (ops_forg 3 (ops_appendT hΓ (enc := e_route_entry) (id := 3) (h2 := show Γ 86 = some ⟨_, 11, _, _⟩ from rfl) hy42 rfl rfl rfl rfl rfl rfl rfl rfl (fun _ => rfl) rfl))) ?_
              refine go_E hΓ 2 rfl ?_
              refine ge_h0 [.dead, .box 64 [I y38.2.nat.Maps, I y38.2.nat.Lets, I y38.2.nat.Timeout, I y38.2.nat.First, I y38.2.nat.Ports, B y38.2.nat.Outer.Six, U y38.2.nat.Outer.Hi, U y38.2.nat.Outer.Lo, I y38.2.now, I y38.2.v_next, .sl 7 y42.length], .bag al, .dead, .box 45 [B v_from.Addr.Six, U v_from.Addr.Hi, U v_from.Addr.Lo, I v_from.Port], .box 45 [B to.Addr.Six, U to.Addr.Hi, U to.Addr.Lo, I to.Port], .box 45 [B false, U 0, U 0, I 0], .row 86 11 y42.length (y42.flatMap e_route_entry)] rfl rfl (brk_st rfl) (qte_u (opu_store2 hΓ rfl rfl rfl rfl rfl rfl rfl rfl rfl)) ?_
              refine ge_fin ?_
              refine cv_move 7 3 [.dead, .box 64 [I y38.2.nat.Maps, I y38.2.nat.Lets, I y38.2.nat.Timeout, I y38.2.nat.First, I y38.2.nat.Ports, B y38.2.nat.Outer.Six, U y38.2.nat.Outer.Hi, U y38.2.nat.Outer.Lo, I y38.2.now, I y38.2.v_next, .sl 3 y42.length], .bag al, .row 86 11 y42.length (y42.flatMap e_route_entry), .box 45 [B v_from.Addr.Six, U v_from.Addr.Hi, U v_from.Addr.Lo, I v_from.Port], .box 45 [B to.Addr.Six, U to.Addr.Hi, U to.Addr.Lo, I to.Port], .box 45 [B false, U 0, U 0, I 0], .dead] rfl rfl rfl rfl rfl rfl ?_
              refine cv_here ?_
              obtain rfl := Option.some.inj h43
              exact ⟨⟨rfl, rfl, rfl, rfl, rfl, trivial⟩, [_], rfl, .inr ⟨HB.mk rfl, FB.mk rfl, (Nat.le_of_ble_eq_true rfl)⟩⟩
            · have h44 := cF hq35 hb
              refine go hΓ 1 rfl ?_
              refine cv_here ?_
              obtain rfl := Option.some.inj h44
              exact ⟨⟨rfl, rfl, rfl, rfl, rfl, trivial⟩, [], rfl, .inl rfl⟩
          · obtain ⟨x45, hx45, h46⟩ := bi_ok h36
            have hj47 := getZ_at hx45
            refine go hΓ 8 rfl ?_
            refine eo_o rfl (op_elemRowZ hΓ hx45 rfl rfl rfl rfl rfl rfl) ?_
            refine go_ops hΓ 9 rfl ?_
            refine eo_storeRowZ hΓ (enc := e_route_entry) (z' := (⟨x45.inner, x45.port, x45.dep, v_at, x45.sent⟩ : T_route_entry)) q35.2.2.2.2.2.2.2.2.2.2.2.toNat 9 hj47 rfl rfl rfl rfl (fun _ => rfl) rfl rfl rfl rfl rfl rfl (Nat.le_of_ble_eq_true rfl) ?_
            refine eo_hp [.dead, .box 64 [I q35.1, I q35.2.1, I q35.2.2.1, I q35.2.2.2.1, I q35.2.2.2.2.1, B q35.2.2.2.2.2.1, U q35.2.2.2.2.2.2.1, U q35.2.2.2.2.2.2.2.1, I q35.2.2.2.2.2.2.2.2.1, I q35.2.2.2.2.2.2.2.2.2.1, .sl 3 q35.2.2.2.2.2.2.2.2.2.2.1.length], .bag al, .row 86 11 (q35.2.2.2.2.2.2.2.2.2.2.1.set q35.2.2.2.2.2.2.2.2.2.2.2.toNat (⟨x45.inner, x45.port, x45.dep, v_at, x45.sent⟩ : T_route_entry)).length ((q35.2.2.2.2.2.2.2.2.2.2.1.set q35.2.2.2.2.2.2.2.2.2.2.2.toNat (⟨x45.inner, x45.port, x45.dep, v_at, x45.sent⟩ : T_route_entry)).flatMap e_route_entry), .box 45 [B v_from.Addr.Six, U v_from.Addr.Hi, U v_from.Addr.Lo, I v_from.Port], .box 45 [B to.Addr.Six, U to.Addr.Hi, U to.Addr.Lo, I to.Port], .box 45 [B false, U 0, U 0, I 0]] rfl ?_
            refine eo_hp [.dead, .box 64 [I q35.1, I q35.2.1, I q35.2.2.1, I q35.2.2.2.1, I q35.2.2.2.2.1, B q35.2.2.2.2.2.1, U q35.2.2.2.2.2.2.1, U q35.2.2.2.2.2.2.2.1, I q35.2.2.2.2.2.2.2.2.1, I q35.2.2.2.2.2.2.2.2.2.1, .sl 3 (q35.2.2.2.2.2.2.2.2.2.2.1.set q35.2.2.2.2.2.2.2.2.2.2.2.toNat (⟨x45.inner, x45.port, x45.dep, v_at, x45.sent⟩ : T_route_entry)).length], .bag al, .row 86 11 (q35.2.2.2.2.2.2.2.2.2.2.1.set q35.2.2.2.2.2.2.2.2.2.2.2.toNat (⟨x45.inner, x45.port, x45.dep, v_at, x45.sent⟩ : T_route_entry)).length ((q35.2.2.2.2.2.2.2.2.2.2.1.set q35.2.2.2.2.2.2.2.2.2.2.2.toNat (⟨x45.inner, x45.port, x45.dep, v_at, x45.sent⟩ : T_route_entry)).flatMap e_route_entry), .box 45 [B v_from.Addr.Six, U v_from.Addr.Hi, U v_from.Addr.Lo, I v_from.Port], .box 45 [B to.Addr.Six, U to.Addr.Hi, U to.Addr.Lo, I to.Port], .box 45 [B false, U 0, U 0, I 0]] (by simp only [List.length_set]) ?_
            have hj48 := set_at (y := (⟨x45.inner, x45.port, x45.dep, v_at, x45.sent⟩ : T_route_entry)) hj47
            refine go_ops hΓ 4 rfl ?_
            refine j_draw hmix (by kernel_rfl) ?_
            refine go hΓ 3 rfl ?_
            refine gl_o rfl (op_le (op_loadRowZ hΓ (enc := e_route_entry) q35.2.2.2.2.2.2.2.2.2.2.2.toNat 10 hj48 rfl rfl rfl rfl (fun _ => rfl) (g := .d (Slt 45 4 e_api_Spot ((⟨x45.inner, x45.port, x45.dep, v_at, x45.sent⟩ : T_route_entry).sent))) rfl) G.Le.unt) ?_
            obtain ⟨y49, hy49, h50⟩ := bi_ok h46
            refine go_draw hΓ 1 rfl ?_
            refine gl_callP (callable Try.func40 rfl rfl) (c_slices_Contains_api_Spot_api_Spot hy49) rfl rfl rfl rfl rfl rfl ?_
            obtain ⟨q51, hq51, h52⟩ := bi_ok h50
            refine go_draw hΓ 3 rfl ?_
            refine j_cutNC [(0, .ptr 1 0), (8, .ptr 6 0), (17, .ptr 3 (q35.2.2.2.2.2.2.2.2.2.2.2.toNat * 11))] [.dead, .box 64 [I q35.1, I q35.2.1, I q35.2.2.1, I q35.2.2.2.1, I q35.2.2.2.2.1, B q35.2.2.2.2.2.1, U q35.2.2.2.2.2.2.1, U q35.2.2.2.2.2.2.2.1, I q35.2.2.2.2.2.2.2.2.1, I q35.2.2.2.2.2.2.2.2.2.1, .sl 3 q51.2.length], .bag q51.1, .row 86 11 q51.2.length (q51.2.flatMap e_route_entry), .box 45 [B v_from.Addr.Six, U v_from.Addr.Hi, U v_from.Addr.Lo, I v_from.Port], .box 45 [B to.Addr.Six, U to.Addr.Hi, U to.Addr.Lo, I to.Port], .box 45 [B false, U 0, U 0, I 0]] ?_ ?_
            · refine j_cond rfl (fun hb => ?_) (fun hb => ?_)
              · have h53 := cT hq51 hb
                refine j_drawE [.dead, .dead, .dead, .row 86 11 (q35.2.2.2.2.2.2.2.2.2.2.1.set q35.2.2.2.2.2.2.2.2.2.2.2.toNat (⟨x45.inner, x45.port, x45.dep, v_at, x45.sent⟩ : T_route_entry)).length ((q35.2.2.2.2.2.2.2.2.2.2.1.set q35.2.2.2.2.2.2.2.2.2.2.2.toNat (⟨x45.inner, x45.port, x45.dep, v_at, x45.sent⟩ : T_route_entry)).flatMap e_route_entry), .dead, .box 45 [B to.Addr.Six, U to.Addr.Hi, U to.Addr.Lo, I to.Port]] [4, 5] [7, 10] [10] hmix (by kernel_rfl) (by kernel_rfl) ⟨rfl, rfl, trivial⟩ (Nat.le_of_ble_eq_true rfl) ?_
                refine go_E hΓ 4 rfl ?_
                refine ge_p rfl (fun hp hs => op_loadRowZ hΓ (enc := e_route_entry) q35.2.2.2.2.2.2.2.2.2.2.2.toNat 10 hj48 rfl rfl rfl (hs 3 _ rfl rfl) (fun _ => rfl) (g := .d (Slt 45 4 e_api_Spot ((⟨x45.inner, x45.port, x45.dep, v_at, x45.sent⟩ : T_route_entry).sent))) rfl) rfl ?_
                refine go_E hΓ 1 rfl ?_
                refine ge_litT hΓ (enc := e_api_Spot) [to] rfl rfl rfl rfl rfl rfl rfl rfl rfl rfl rfl rfl ?_
                obtain ⟨y54, hy54, h55⟩ := bi_ok h53
                refine ge_h [.dead, .box 64 [I q35.1, I q35.2.1, I q35.2.2.1, I q35.2.2.2.1, I q35.2.2.2.2.1, B q35.2.2.2.2.2.1, U q35.2.2.2.2.2.2.1, U q35.2.2.2.2.2.2.2.1, I q35.2.2.2.2.2.2.2.2.1, I q35.2.2.2.2.2.2.2.2.2.1, .sl 3 (q35.2.2.2.2.2.2.2.2.2.2.1.set q35.2.2.2.2.2.2.2.2.2.2.2.toNat (⟨x45.inner, x45.port, x45.dep, v_at, x45.sent⟩ : T_route_entry)).length], .bag y54.2, .row 86 11 (q35.2.2.2.2.2.2.2.2.2.2.1.set q35.2.2.2.2.2.2.2.2.2.2.2.toNat (⟨x45.inner, x45.port, x45.dep, v_at, x45.sent⟩ : T_route_entry)).length ((q35.2.2.2.2.2.2.2.2.2.2.1.set q35.2.2.2.2.2.2.2.2.2.2.2.toNat (⟨x45.inner, x45.port, x45.dep, v_at, x45.sent⟩ : T_route_entry)).flatMap e_route_entry), .box 45 [B v_from.Addr.Six, U v_from.Addr.Hi, U v_from.Addr.Lo, I v_from.Port], .box 45 [B to.Addr.Six, U to.Addr.Hi, U to.Addr.Lo, I to.Port], .box 45 [B false, U 0, U 0, I 0]] rfl rfl rfl (st_st ⟨rfl, rfl, trivial⟩) (qte_s (ops_appT hΓ (enc := e_api_Spot) (bg := 2) hy54 rfl rfl rfl rfl rfl rfl rfl rfl (fun _ => rfl) rfl rfl)) ?_
                refine go_E hΓ 2 rfl ?_
                refine ge_h0 [.dead, .box 64 [I q35.1, I q35.2.1, I q35.2.2.1, I q35.2.2.2.1, I q35.2.2.2.2.1, B q35.2.2.2.2.2.1, U q35.2.2.2.2.2.2.1, U q35.2.2.2.2.2.2.2.1, I q35.2.2.2.2.2.2.2.2.1, I q35.2.2.2.2.2.2.2.2.2.1, .sl 3 (q35.2.2.2.2.2.2.2.2.2.2.1.set q35.2.2.2.2.2.2.2.2.2.2.2.toNat (⟨x45.inner, x45.port, x45.dep, v_at, x45.sent⟩ : T_route_entry)).length], .bag y54.2, .row 86 11 ((q35.2.2.2.2.2.2.2.2.2.2.1.set q35.2.2.2.2.2.2.2.2.2.2.2.toNat (⟨x45.inner, x45.port, x45.dep, v_at, x45.sent⟩ : T_route_entry)).set q35.2.2.2.2.2.2.2.2.2.2.2.toNat (⟨(⟨(((⟨x45.inner, x45.port, x45.dep, v_at, x45.sent⟩ : T_route_entry).inner).Addr), ((⟨x45.inner, x45.port, x45.dep, v_at, x45.sent⟩ : T_route_entry).inner).Port⟩ : T_api_Spot), (⟨x45.inner, x45.port, x45.dep, v_at, x45.sent⟩ : T_route_entry).port, (⟨(((⟨x45.inner, x45.port, x45.dep, v_at, x45.sent⟩ : T_route_entry).dep).Addr), ((⟨x45.inner, x45.port, x45.dep, v_at, x45.sent⟩ : T_route_entry).dep).Port⟩ : T_api_Spot), (⟨x45.inner, x45.port, x45.dep, v_at, x45.sent⟩ : T_route_entry).last, y54.1⟩ : T_route_entry)).length (((q35.2.2.2.2.2.2.2.2.2.2.1.set q35.2.2.2.2.2.2.2.2.2.2.2.toNat (⟨x45.inner, x45.port, x45.dep, v_at, x45.sent⟩ : T_route_entry)).set q35.2.2.2.2.2.2.2.2.2.2.2.toNat (⟨(⟨(((⟨x45.inner, x45.port, x45.dep, v_at, x45.sent⟩ : T_route_entry).inner).Addr), ((⟨x45.inner, x45.port, x45.dep, v_at, x45.sent⟩ : T_route_entry).inner).Port⟩ : T_api_Spot), (⟨x45.inner, x45.port, x45.dep, v_at, x45.sent⟩ : T_route_entry).port, (⟨(((⟨x45.inner, x45.port, x45.dep, v_at, x45.sent⟩ : T_route_entry).dep).Addr), ((⟨x45.inner, x45.port, x45.dep, v_at, x45.sent⟩ : T_route_entry).dep).Port⟩ : T_api_Spot), (⟨x45.inner, x45.port, x45.dep, v_at, x45.sent⟩ : T_route_entry).last, y54.1⟩ : T_route_entry)).flatMap e_route_entry), .box 45 [B v_from.Addr.Six, U v_from.Addr.Hi, U v_from.Addr.Lo, I v_from.Port], .box 45 [B to.Addr.Six, U to.Addr.Hi, U to.Addr.Lo, I to.Port], .box 45 [B false, U 0, U 0, I 0]] rfl rfl (brk_st rfl) (qte_u (opu_storeRowZ hΓ (enc := e_route_entry) (z' := (⟨(⟨(((⟨x45.inner, x45.port, x45.dep, v_at, x45.sent⟩ : T_route_entry).inner).Addr), ((⟨x45.inner, x45.port, x45.dep, v_at, x45.sent⟩ : T_route_entry).inner).Port⟩ : T_api_Spot), (⟨x45.inner, x45.port, x45.dep, v_at, x45.sent⟩ : T_route_entry).port, (⟨(((⟨x45.inner, x45.port, x45.dep, v_at, x45.sent⟩ : T_route_entry).dep).Addr), ((⟨x45.inner, x45.port, x45.dep, v_at, x45.sent⟩ : T_route_entry).dep).Port⟩ : T_api_Spot), (⟨x45.inner, x45.port, x45.dep, v_at, x45.sent⟩ : T_route_entry).last, y54.1⟩ : T_route_entry)) q35.2.2.2.2.2.2.2.2.2.2.2.toNat 10 hj48 rfl rfl rfl rfl (fun _ => rfl) rfl rfl rfl rfl rfl rfl rfl)) ?_
                refine ge_fin ?_
                refine cv_hp [.dead, .box 64 [I q35.1, I q35.2.1, I q35.2.2.1, I q35.2.2.2.1, I q35.2.2.2.2.1, B q35.2.2.2.2.2.1, U q35.2.2.2.2.2.2.1, U q35.2.2.2.2.2.2.2.1, I q35.2.2.2.2.2.2.2.2.1, I q35.2.2.2.2.2.2.2.2.2.1, .sl 3 ((q35.2.2.2.2.2.2.2.2.2.2.1.set q35.2.2.2.2.2.2.2.2.2.2.2.toNat (⟨x45.inner, x45.port, x45.dep, v_at, x45.sent⟩ : T_route_entry)).set q35.2.2.2.2.2.2.2.2.2.2.2.toNat (⟨(⟨(((⟨x45.inner, x45.port, x45.dep, v_at, x45.sent⟩ : T_route_entry).inner).Addr), ((⟨x45.inner, x45.port, x45.dep, v_at, x45.sent⟩ : T_route_entry).inner).Port⟩ : T_api_Spot), (⟨x45.inner, x45.port, x45.dep, v_at, x45.sent⟩ : T_route_entry).port, (⟨(((⟨x45.inner, x45.port, x45.dep, v_at, x45.sent⟩ : T_route_entry).dep).Addr), ((⟨x45.inner, x45.port, x45.dep, v_at, x45.sent⟩ : T_route_entry).dep).Port⟩ : T_api_Spot), (⟨x45.inner, x45.port, x45.dep, v_at, x45.sent⟩ : T_route_entry).last, y54.1⟩ : T_route_entry)).length], .bag y54.2, .row 86 11 ((q35.2.2.2.2.2.2.2.2.2.2.1.set q35.2.2.2.2.2.2.2.2.2.2.2.toNat (⟨x45.inner, x45.port, x45.dep, v_at, x45.sent⟩ : T_route_entry)).set q35.2.2.2.2.2.2.2.2.2.2.2.toNat (⟨(⟨(((⟨x45.inner, x45.port, x45.dep, v_at, x45.sent⟩ : T_route_entry).inner).Addr), ((⟨x45.inner, x45.port, x45.dep, v_at, x45.sent⟩ : T_route_entry).inner).Port⟩ : T_api_Spot), (⟨x45.inner, x45.port, x45.dep, v_at, x45.sent⟩ : T_route_entry).port, (⟨(((⟨x45.inner, x45.port, x45.dep, v_at, x45.sent⟩ : T_route_entry).dep).Addr), ((⟨x45.inner, x45.port, x45.dep, v_at, x45.sent⟩ : T_route_entry).dep).Port⟩ : T_api_Spot), (⟨x45.inner, x45.port, x45.dep, v_at, x45.sent⟩ : T_route_entry).last, y54.1⟩ : T_route_entry)).length (((q35.2.2.2.2.2.2.2.2.2.2.1.set q35.2.2.2.2.2.2.2.2.2.2.2.toNat (⟨x45.inner, x45.port, x45.dep, v_at, x45.sent⟩ : T_route_entry)).set q35.2.2.2.2.2.2.2.2.2.2.2.toNat (⟨(⟨(((⟨x45.inner, x45.port, x45.dep, v_at, x45.sent⟩ : T_route_entry).inner).Addr), ((⟨x45.inner, x45.port, x45.dep, v_at, x45.sent⟩ : T_route_entry).inner).Port⟩ : T_api_Spot), (⟨x45.inner, x45.port, x45.dep, v_at, x45.sent⟩ : T_route_entry).port, (⟨(((⟨x45.inner, x45.port, x45.dep, v_at, x45.sent⟩ : T_route_entry).dep).Addr), ((⟨x45.inner, x45.port, x45.dep, v_at, x45.sent⟩ : T_route_entry).dep).Port⟩ : T_api_Spot), (⟨x45.inner, x45.port, x45.dep, v_at, x45.sent⟩ : T_route_entry).last, y54.1⟩ : T_route_entry)).flatMap e_route_entry), .box 45 [B v_from.Addr.Six, U v_from.Addr.Hi, U v_from.Addr.Lo, I v_from.Port], .box 45 [B to.Addr.Six, U to.Addr.Hi, U to.Addr.Lo, I to.Port], .box 45 [B false, U 0, U 0, I 0]] (by simp only [List.length_set]) ?_
                refine cv_here ?_
                obtain rfl := Option.some.inj h55
                exact ⟨⟨rfl, rfl, rfl, trivial⟩, [], rfl, .inl rfl⟩
              · have h56 := cF hq51 hb
                refine go hΓ 1 rfl ?_
                refine cv_here ?_
                obtain rfl := Option.some.inj h56
                exact ⟨⟨rfl, rfl, rfl, trivial⟩, [], rfl, .inl rfl⟩
            · refine go hΓ 2 rfl ?_
              refine j_drawE [.dead, .box 64 [I q35.1, I q35.2.1, I q35.2.2.1, I q35.2.2.2.1, I q35.2.2.2.2.1, B q35.2.2.2.2.2.1, U q35.2.2.2.2.2.2.1, U q35.2.2.2.2.2.2.2.1, I q35.2.2.2.2.2.2.2.2.1, I q35.2.2.2.2.2.2.2.2.2.1, .sl 3 q51.2.length], .dead, .row 86 11 q51.2.length (q51.2.flatMap e_route_entry)] [4, 8] [10] [] hmix (by kernel_rfl) (by kernel_rfl) ⟨rfl, rfl, trivial⟩ (Nat.le_of_ble_eq_true rfl) ?_
              obtain ⟨x57, hx57, h58⟩ := bi_ok h52
              have hj59 : q51.2[q35.2.2.2.2.2.2.2.2.2.2.2.toNat]? = some x57 := hx57
              refine go_E hΓ 8 rfl ?_
              refine ge_p rfl (fun hp hs => op_loadRowZ hΓ (enc := e_route_entry) q35.2.2.2.2.2.2.2.2.2.2.2.toNat 4 hj59 rfl rfl rfl (hs 3 _ rfl rfl) (fun _ => rfl) (g := I x57.port) rfl) rfl ?_
              refine ge_q rfl (.inl rfl) (fun _ _ => qte_of_qt (qt_p (op_build hΓ (gs := [B q35.2.2.2.2.2.1, U q35.2.2.2.2.2.2.1, U q35.2.2.2.2.2.2.2.1, I x57.port]) rfl rfl rfl rfl rfl rfl))) ?_
              refine ge_h0 [.dead, .box 64 [I q35.1, I q35.2.1, I q35.2.2.1, I q35.2.2.2.1, I q35.2.2.2.2.1, B q35.2.2.2.2.2.1, U q35.2.2.2.2.2.2.1, U q35.2.2.2.2.2.2.2.1, I q35.2.2.2.2.2.2.2.2.1, I q35.2.2.2.2.2.2.2.2.2.1, .sl 3 q51.2.length], .bag q51.1, .row 86 11 q51.2.length (q51.2.flatMap e_route_entry), .box 45 [B v_from.Addr.Six, U v_from.Addr.Hi, U v_from.Addr.Lo, I v_from.Port], .box 45 [B to.Addr.Six, U to.Addr.Hi, U to.Addr.Lo, I to.Port], .box 45 [B q35.2.2.2.2.2.1, U q35.2.2.2.2.2.2.1, U q35.2.2.2.2.2.2.2.1, I x57.port]] rfl rfl (st_st ⟨rfl, rfl, trivial⟩) (qte_u (opu_store2 hΓ rfl rfl rfl rfl rfl rfl rfl rfl rfl)) ?_
              refine go_E hΓ 1 rfl ?_
              refine ge_fin ?_
              refine go hΓ 2 rfl ?_
              refine cv_here ?_
              obtain rfl := Option.some.inj h58
              exact fin_objs hΓ [_, _, _] (.inr rfl) rfl rfl rfl rfl (.inr ⟨HB.mk rfl, rfl⟩)
theorem c_route_Translator_In_1 {s : T_api_Spot} {x : T_route_Translator} {x2 : T_api_Spot} {r : Bool} (h : m_route_Translator_In_1 s x x2 = some r) : EC Try.prog 50 [.agg [B s.Addr.Six, U s.Addr.Hi, U s.Addr.Lo, I s.Port], .ptr 2 0, .ptr 3 0] [.row 86 11 x.list.length (x.list.flatMap e_route_entry), .box 64 [I x.nat.Maps, I x.nat.Lets, I x.nat.Timeout, I x.nat.First, I x.nat.Ports, B x.nat.Outer.Six, U x.nat.Outer.Hi, U x.nat.Outer.Lo, I x.now, I x.v_next, .sl 0 x.list.length], .box 32 [.ptr 1 0], .box 45 [B x2.Addr.Six, U x2.Addr.Hi, U x2.Addr.Lo, I x2.Port]] fun g hp' => g = B r ∧ hp' = [.row 86 11 x.list.length (x.list.flatMap e_route_entry), .box 64 [I x.nat.Maps, I x.nat.Lets, I x.nat.Timeout, I x.nat.First, I x.nat.Ports, B x.nat.Outer.Six, U x.nat.Outer.Hi, U x.nat.Outer.Lo, I x.now, I x.v_next, .sl 0 x.list.length], .box 32 [.ptr 1 0], .box 45 [B x2.Addr.Six, U x2.Addr.Hi, U x2.Addr.Lo, I x2.Port]] := by
  refine ec_enter (Fr.of 0 _) Try.func50 rfl (Fr.of_ok _) (Nat.le_of_ble_eq_true rfl) fun _ => ?_
  refine go_in ?_
  unfold m_route_Translator_In_1 at h
  refine go hΓ 2 rfl ?_
  refine eo_box rfl rfl rfl rfl (Nat.le_of_ble_eq_true rfl) ?_
  refine go_ops hΓ 4 rfl ?_
  refine j_draw hmix (by kernel_rfl) ?_
  obtain ⟨y1, hy1, h2⟩ := bi_ok h
  refine go hΓ 6 rfl ?_
  refine gl_callP (callable Try.func39 rfl rfl) (c_route_seen hy1) rfl rfl rfl rfl rfl rfl ?_
  obtain ⟨y3, hy3, h4⟩ := bi_ok h2
  refine go_draw hΓ 6 rfl ?_
  refine gl_callP (callable Try.func39 rfl rfl) (c_route_seen hy3) rfl rfl rfl rfl rfl rfl ?_
  refine gl_o rfl (op_eqS hΓ [45, 28] (b := ((((y1.Addr.Six : Bool) == y3.Addr.Six) && (((y1.Addr.Hi : Int) == y3.Addr.Hi) && (((y1.Addr.Lo : Int) == y3.Addr.Lo) && true))) && (((y1.Port : Int) == y3.Port) && true))) (by kernel_rfl) (by kernel_rfl) rfl rfl rfl) ?_
  refine go_draw hΓ 4 rfl ?_
  obtain rfl := Option.some.inj h4
  exact fin_objs hΓ [_] (.inr rfl) rfl rfl rfl rfl (.inr ⟨HB.mk rfl, rfl⟩)
theorem c_slices_IndexFunc_api_Spot_api_Spot {s : List T_api_Spot} {f : T_route_Translator} {f2 : T_api_Spot} {r : Int} (h : m_slices_IndexFunc_api_Spot_api_Spot s f f2 = some r) : EC Try.prog 77 [.d (Sl e_api_Spot s), .fn (.func 50) [] [.ptr 2 0, .ptr 3 0]] [.row 86 11 f.list.length (f.list.flatMap e_route_entry), .box 64 [I f.nat.Maps, I f.nat.Lets, I f.nat.Timeout, I f.nat.First, I f.nat.Ports, B f.nat.Outer.Six, U f.nat.Outer.Hi, U f.nat.Outer.Lo, I f.now, I f.v_next, .sl 0 f.list.length], .box 32 [.ptr 1 0], .box 45 [B f2.Addr.Six, U f2.Addr.Hi, U f2.Addr.Lo, I f2.Port]] fun g hp' => g = I r ∧ hp' = [.row 86 11 f.list.length (f.list.flatMap e_route_entry), .box 64 [I f.nat.Maps, I f.nat.Lets, I f.nat.Timeout, I f.nat.First, I f.nat.Ports, B f.nat.Outer.Six, U f.nat.Outer.Hi, U f.nat.Outer.Lo, I f.now, I f.v_next, .sl 0 f.list.length], .box 32 [.ptr 1 0], .box 45 [B f2.Addr.Six, U f2.Addr.Hi, U f2.Addr.Lo, I f2.Port]] := by
  refine ec_enter (Fr.of 0 _) Try.func77 rfl (Fr.of_ok _) (Nat.le_of_ble_eq_true rfl) fun _ => ?_
  refine go_in ?_
  unfold m_slices_IndexFunc_api_Spot_api_Spot at h
  refine go hΓ 13 rfl ?_
  obtain ⟨q4, hq4, h5⟩ := bi_ok h
  refine j_bound 0 rfl fun hb7 => ?_
  refine j_cutEZ (R := fun a6 => q4 = .go a6) (fun a6 => []) (fun a6 => [.row 86 11 f.list.length (f.list.flatMap e_route_entry), .box 64 [I f.nat.Maps, I f.nat.Lets, I f.nat.Timeout, I f.nat.First, I f.nat.Ports, B f.nat.Outer.Six, U f.nat.Outer.Hi, U f.nat.Outer.Lo, I f.now, I f.v_next, .sl 0 f.list.length], .box 32 [.ptr 1 0], .box 45 [B f2.Addr.Six, U f2.Addr.Hi, U f2.Addr.Lo, I f2.Port]]) ?_ ?_
  · refine go hΓ 1 rfl ?_
    refine j_range s hq4 (fun i1 s2 => [(0, .d (Sl e_api_Spot s)), (1, .fn (.func 50) [] [.ptr 2 0, .ptr 3 0]), (7, I (s.length : Int)), (8, I (i1 : Int))]) (fun s2 => [.row 86 11 f.list.length (f.list.flatMap e_route_entry), .box 64 [I f.nat.Maps, I f.nat.Lets, I f.nat.Timeout, I f.nat.First, I f.nat.Ports, B f.nat.Outer.Six, U f.nat.Outer.Hi, U f.nat.Outer.Lo, I f.now, I f.v_next, .sl 0 f.list.length], .box 32 [.ptr 1 0], .box 45 [B f2.Addr.Six, U f2.Addr.Hi, U f2.Addr.Lo, I f2.Port]]) ⟨⟨rfl, rfl, rfl, rfl, trivial⟩, [], rfl, .inl rfl⟩ (fun i1 x3 s2 y11 hx8 hlt hy9 hout10 => ?_) (fun s2 hgo => ?_)
    · refine go hΓ 6 rfl ?_
      refine j_condT rfl (decide_eq_true (Int.ofNat_lt.2 hlt)) ?_
      refine go hΓ 15 rfl ?_
      refine eo_o rfl (op_elemZ hΓ (enc := e_api_Spot) (getZ_nat hx8) rfl rfl rfl rfl rfl (fun _ => rfl)) ?_
      obtain ⟨y12, hy12, h13⟩ := bi_ok hy9
      refine go_ops hΓ 1 rfl ?_
      refine eo_callF [0, 1, 2, 3] (B y12) [.row 86 11 f.list.length (f.list.flatMap e_route_entry), .box 64 [I f.nat.Maps, I f.nat.Lets, I f.nat.Timeout, I f.nat.First, I f.nat.Ports, B f.nat.Outer.Six, U f.nat.Outer.Hi, U f.nat.Outer.Lo, I f.now, I f.v_next, .sl 0 f.list.length], .box 32 [.ptr 1 0], .box 45 [B f2.Addr.Six, U f2.Addr.Hi, U f2.Addr.Lo, I f2.Port]] (callable Try.func50 rfl rfl) (c_route_Translator_In_1 hy12) rfl (Nat.le_of_ble_eq_true rfl) rfl rfl rfl rfl rfl rfl rfl rfl rfl rfl ?_
      refine go_ops hΓ 2 rfl ?_
      refine j_cond rfl (fun hb => ?_) (fun hb => ?_)
      · have h14 := cT h13 hb
        refine go hΓ 9 rfl ?_
        obtain ⟨v15, hv15, h16⟩ := bi_ok h14
        obtain rfl := Option.some.inj h16
        obtain rfl := hout10 _ rfl
        obtain rfl := Option.some.inj h5
        refine go hΓ 4 rfl ?_
        obtain rfl := Option.some.inj hv15
        exact fin_objs hΓ [] (.inr rfl) rfl rfl rfl rfl (.inl rfl)
      · have h17 := cF h13 hb
        refine go hΓ 7 rfl ?_
        obtain rfl := Option.some.inj h17
        exact ⟨_, rfl, ⟨⟨rfl, rfl, rfl, get_eq rfl (w64_succ (Nat.lt_of_lt_of_le hlt hb7)), trivial⟩, [], rfl, .inl rfl⟩⟩
    · subst hgo
      refine go hΓ 6 rfl ?_
      refine j_condF rfl (decide_eq_false (Int.lt_irrefl _)) ?_
      refine go hΓ 4 rfl ?_
      exact ⟨_, rfl, ⟨trivial, [], rfl, .inl rfl⟩⟩
  · intro a6 ha
    subst ha
    replace h5 := goI_l h5
    refine go hΓ 7 rfl ?_
    obtain rfl := Option.some.inj h5
    exact fin_objs hΓ [] (.inr rfl) rfl rfl rfl rfl (.inl rfl)
theorem c_slices_ContainsFunc_api_Spot_api_Spot {s : List T_api_Spot} {f : T_route_Translator} {f2 : T_api_Spot} {r : Bool} (h : m_slices_ContainsFunc_api_Spot_api_Spot s f f2 = some r) : EC Try.prog 49 [.d (Sl e_api_Spot s), .fn (.func 50) [] [.ptr 2 0, .ptr 3 0]] [.row 86 11 f.list.length (f.list.flatMap e_route_entry), .box 64 [I f.nat.Maps, I f.nat.Lets, I f.nat.Timeout, I f.nat.First, I f.nat.Ports, B f.nat.Outer.Six, U f.nat.Outer.Hi, U f.nat.Outer.Lo, I f.now, I f.v_next, .sl 0 f.list.length], .box 32 [.ptr 1 0], .box 45 [B f2.Addr.Six, U f2.Addr.Hi, U f2.Addr.Lo, I f2.Port]] fun g hp' => g = B r ∧ hp' = [.row 86 11 f.list.length (f.list.flatMap e_route_entry), .box 64 [I f.nat.Maps, I f.nat.Lets, I f.nat.Timeout, I f.nat.First, I f.nat.Ports, B f.nat.Outer.Six, U f.nat.Outer.Hi, U f.nat.Outer.Lo, I f.now, I f.v_next, .sl 0 f.list.length], .box 32 [.ptr 1 0], .box 45 [B f2.Addr.Six, U f2.Addr.Hi, U f2.Addr.Lo, I f2.Port]] := by
  refine ec_enter (Fr.of 0 _) Try.func49 rfl (Fr.of_ok _) (Nat.le_of_ble_eq_true rfl) fun _ => ?_
  refine go_in ?_
  unfold m_slices_ContainsFunc_api_Spot_api_Spot at h
  obtain ⟨y1, hy1, h2⟩ := bi_ok h
  refine go hΓ 9 rfl ?_
  refine eo_callF [0, 1, 2, 3] (I y1) [.row 86 11 f.list.length (f.list.flatMap e_route_entry), .box 64 [I f.nat.Maps, I f.nat.Lets, I f.nat.Timeout, I f.nat.First, I f.nat.Ports, B f.nat.Outer.Six, U f.nat.Outer.Hi, U f.nat.Outer.Lo, I f.now, I f.v_next, .sl 0 f.list.length], .box 32 [.ptr 1 0], .box 45 [B f2.Addr.Six, U f2.Addr.Hi, U f2.Addr.Lo, I f2.Port]] (callable Try.func77 rfl rfl) (c_slices_IndexFunc_api_Spot_api_Spot hy1) rfl (Nat.le_of_ble_eq_true rfl) rfl rfl rfl rfl rfl rfl rfl rfl rfl rfl ?_
  refine go_ops hΓ 5 rfl ?_
  obtain rfl := Option.some.inj h2
  exact fin_objs hΓ [] (.inr rfl) rfl rfl rfl rfl (.inl rfl)
set_option maxHeartbeats 8000000 in
theorem c_route_Translator_In {k : Nat} {t : T_route_Translator} {v_at : Int} {v_from : T_api_Spot} {port : Int} {r : T_api_Spot × Bool × Int × T_route_Translator} (h : m_route_Translator_In k t v_at v_from port = some r) : EC Try.prog 17 [.ptr 1 0, I v_at, .agg [B v_from.Addr.Six, U v_from.Addr.Hi, U v_from.Addr.Lo, I v_from.Port], I port] [.row 86 11 t.list.length (t.list.flatMap e_route_entry), .box 64 [I t.nat.Maps, I t.nat.Lets, I t.nat.Timeout, I t.nat.First, I t.nat.Ports, B t.nat.Outer.Six, U t.nat.Outer.Hi, U t.nat.Outer.Lo, I t.now, I t.v_next, .sl 0 t.list.length]] fun g hp' => g = .tup [.agg [B r.1.Addr.Six, U r.1.Addr.Hi, U r.1.Addr.Lo, I r.1.Port], B r.2.1, I r.2.2.1] ∧ hp' = [.row 86 11 r.2.2.2.list.length (r.2.2.2.list.flatMap e_route_entry), .box 64 [I r.2.2.2.nat.Maps, I r.2.2.2.nat.Lets, I r.2.2.2.nat.Timeout, I r.2.2.2.nat.First, I r.2.2.2.nat.Ports, B r.2.2.2.nat.Outer.Six, U r.2.2.2.nat.Outer.Hi, U r.2.2.2.nat.Outer.Lo, I r.2.2.2.now, I r.2.2.2.v_next, .sl 0 r.2.2.2.list.length]] := by
  refine ec_enterC (Fr.of 0 _) Try.func17 rfl (Fr.of_ok _) (Nat.le_of_ble_eq_true rfl) fun _ => ?_
  refine go_in ?_
  unfold m_route_Translator_In at h
  refine go hΓ 2 rfl ?_
  refine eo_box rfl rfl rfl rfl (Nat.le_of_ble_eq_true rfl) ?_
  refine eo_box rfl rfl rfl rfl (Nat.le_of_ble_eq_true rfl) ?_
  refine eo_alloc hΓ rfl rfl rfl (Nat.le_of_ble_eq_true rfl) ?_
  obtain ⟨y1, hy1, h2⟩ := bi_ok h
  refine go_ops hΓ 9 rfl ?_
  refine eo_callF [0, 1] (I y1) [.row 86 11 t.list.length (t.list.flatMap e_route_entry), .box 64 [I t.nat.Maps, I t.nat.Lets, I t.nat.Timeout, I t.nat.First, I t.nat.Ports, B t.nat.Outer.Six, U t.nat.Outer.Hi, U t.nat.Outer.Lo, I t.now, I t.v_next, .sl 0 t.list.length], .box 32 [.ptr 1 0], .box 45 [B v_from.Addr.Six, U v_from.Addr.Hi, U v_from.Addr.Lo, I v_from.Port], .box 45 [B false, U 0, U 0, I 0]] (callable Try.func33 rfl rfl) (c_route_Translator_timeFault hy1) rfl (Nat.le_of_ble_eq_true rfl) rfl rfl rfl rfl rfl rfl rfl rfl rfl rfl ?_
  refine go_ops hΓ 9 rfl ?_
  refine j_cond rfl (fun hb => ?_) (fun hb => ?_)
  · have h3 := cT h2 hb
    refine go hΓ 2 rfl ?_
    refine eo_build hΓ (gs := [B false, U 0, U 0, I 0]) rfl rfl rfl rfl rfl rfl rfl ?_
    refine go_ops hΓ 1 rfl ?_
    refine eo_store hΓ rfl rfl rfl rfl rfl rfl rfl rfl (Nat.le_of_ble_eq_true rfl) ?_
    refine eo_hp [.row 86 11 t.list.length (t.list.flatMap e_route_entry), .box 64 [I t.nat.Maps, I t.nat.Lets, I t.nat.Timeout, I t.nat.First, I t.nat.Ports, B t.nat.Outer.Six, U t.nat.Outer.Hi, U t.nat.Outer.Lo, I t.now, I t.v_next, .sl 0 t.list.length], .box 32 [.ptr 1 0], .box 45 [B v_from.Addr.Six, U v_from.Addr.Hi, U v_from.Addr.Lo, I v_from.Port], .box 45 [B false, U 0, U 0, I 0]] rfl ?_
    refine go_ops hΓ 6 rfl ?_
    refine cv_here ?_
    obtain rfl := Option.some.inj h3
    exact fin_objs hΓ [_, _, _] (.inr rfl) rfl rfl rfl rfl (.inr ⟨HB.mk rfl, rfl⟩)
  · have h4 := cF h2 hb
    obtain ⟨y5, hy5, h6⟩ := bi_ok h4
    refine go hΓ 6 rfl ?_
    refine eo_callP (callable Try.func34 rfl rfl) (c_route_spotFault hy5) rfl (Nat.le_of_ble_eq_true rfl) rfl rfl rfl rfl rfl ?_
    refine go_ops hΓ 9 rfl ?_
    refine j_cond rfl (fun hb => ?_) (fun hb => ?_)
    · have h7 := cT h6 hb
      refine go hΓ 2 rfl ?_
      refine eo_build hΓ (gs := [B false, U 0, U 0, I 0]) rfl rfl rfl rfl rfl rfl rfl ?_
      refine go_ops hΓ 1 rfl ?_
      refine eo_store hΓ rfl rfl rfl rfl rfl rfl rfl rfl (Nat.le_of_ble_eq_true rfl) ?_
      refine eo_hp [.row 86 11 t.list.length (t.list.flatMap e_route_entry), .box 64 [I t.nat.Maps, I t.nat.Lets, I t.nat.Timeout, I t.nat.First, I t.nat.Ports, B t.nat.Outer.Six, U t.nat.Outer.Hi, U t.nat.Outer.Lo, I t.now, I t.v_next, .sl 0 t.list.length], .box 32 [.ptr 1 0], .box 45 [B v_from.Addr.Six, U v_from.Addr.Hi, U v_from.Addr.Lo, I v_from.Port], .box 45 [B false, U 0, U 0, I 0]] rfl ?_
      refine go_ops hΓ 6 rfl ?_
      refine cv_here ?_
      obtain rfl := Option.some.inj h7
      exact fin_objs hΓ [_, _, _] (.inr rfl) rfl rfl rfl rfl (.inr ⟨HB.mk rfl, rfl⟩)
    · have h8 := cF h6 hb
      obtain ⟨y9, hy9, h10⟩ := bi_ok h8
      refine go hΓ 6 rfl ?_
      refine eo_callP (callable Try.func48 rfl rfl) (c_route_portFault hy9) rfl (Nat.le_of_ble_eq_true rfl) rfl rfl rfl rfl rfl ?_
      refine go_ops hΓ 9 rfl ?_
      refine j_cond rfl (fun hb => ?_) (fun hb => ?_)
      · have h11 := cT h10 hb
        refine go hΓ 2 rfl ?_
        refine eo_build hΓ (gs := [B false, U 0, U 0, I 0]) rfl rfl rfl rfl rfl rfl rfl ?_
        refine go_ops hΓ 1 rfl ?_
        refine eo_store hΓ rfl rfl rfl rfl rfl rfl rfl rfl (Nat.le_of_ble_eq_true rfl) ?_
        refine eo_hp [.row 86 11 t.list.length (t.list.flatMap e_route_entry), .box 64 [I t.nat.Maps, I t.nat.Lets, I t.nat.Timeout, I t.nat.First, I t.nat.Ports, B t.nat.Outer.Six, U t.nat.Outer.Hi, U t.nat.Outer.Lo, I t.now, I t.v_next, .sl 0 t.list.length], .box 32 [.ptr 1 0], .box 45 [B v_from.Addr.Six, U v_from.Addr.Hi, U v_from.Addr.Lo, I v_from.Port], .box 45 [B false, U 0, U 0, I 0]] rfl ?_
        refine go_ops hΓ 6 rfl ?_
        refine cv_here ?_
        obtain rfl := Option.some.inj h11
        exact fin_objs hΓ [_, _, _] (.inr rfl) rfl rfl rfl rfl (.inr ⟨HB.mk rfl, rfl⟩)
      · have h12 := cF h10 hb
        obtain ⟨y13, hy13, h14⟩ := bi_ok h12
        refine go hΓ 6 rfl ?_
        refine eo_callF [0, 1] (.tup []) [.row 86 11 y13.list.length (y13.list.flatMap e_route_entry), .box 64 [I y13.nat.Maps, I y13.nat.Lets, I y13.nat.Timeout, I y13.nat.First, I y13.nat.Ports, B y13.nat.Outer.Six, U y13.nat.Outer.Hi, U y13.nat.Outer.Lo, I y13.now, I y13.v_next, .sl 0 y13.list.length], .box 32 [.ptr 1 0], .box 45 [B v_from.Addr.Six, U v_from.Addr.Hi, U v_from.Addr.Lo, I v_from.Port], .box 45 [B false, U 0, U 0, I 0]] (callable Try.func37 rfl rfl) (c_route_Translator_pass hy13) rfl (Nat.le_of_ble_eq_true rfl) rfl rfl rfl rfl rfl rfl rfl rfl rfl rfl ?_
        refine go_ops hΓ 13 rfl ?_
        obtain ⟨q18, hq18, h19⟩ := bi_ok h14
        obtain ⟨hb21, h22⟩ := gd_ok hq18
        replace hb21 := of_decide_eq_true hb21
        refine j_cutEZ (R := fun a20 => q18 = .go a20) (fun a20 => [(8, .ptr 4 0)]) (fun a20 => [.row 86 11 y13.list.length (y13.list.flatMap e_route_entry), .box 64 [I y13.nat.Maps, I y13.nat.Lets, I y13.nat.Timeout, I y13.nat.First, I y13.nat.Ports, B y13.nat.Outer.Six, U y13.nat.Outer.Hi, U y13.nat.Outer.Lo, I y13.now, I y13.v_next, .sl 0 y13.list.length], .box 32 [.ptr 1 0], .box 45 [B v_from.Addr.Six, U v_from.Addr.Hi, U v_from.Addr.Lo, I v_from.Port], .box 45 [B false, U 0, U 0, I 0]]) ?_ ?_
        · refine go hΓ 1 rfl ?_
          refine j_rangeI h22 (fun i15 s16 => [(3, I port), (4, .ptr 2 0), (6, .ptr 3 0), (8, .ptr 4 0), (42, .sl 0 y13.list.length), (43, I (y13.list.length : Int)), (44, I (i15 : Int))]) (fun s16 => [.row 86 11 y13.list.length (y13.list.flatMap e_route_entry), .box 64 [I y13.nat.Maps, I y13.nat.Lets, I y13.nat.Timeout, I y13.nat.First, I y13.nat.Ports, B y13.nat.Outer.Six, U y13.nat.Outer.Hi, U y13.nat.Outer.Lo, I y13.now, I y13.v_next, .sl 0 y13.list.length], .box 32 [.ptr 1 0], .box 45 [B v_from.Addr.Six, U v_from.Addr.Hi, U v_from.Addr.Lo, I v_from.Port], .box 45 [B false, U 0, U 0, I 0]]) ⟨⟨rfl, rfl, rfl, rfl, rfl, rfl, rfl, trivial⟩, [], rfl, .inl rfl⟩ (fun i15 s16 y26 hlt hy24 hout25 => ?_) (fun s16 hgo hge => ?_)
          · refine go hΓ 6 rfl ?_
            refine j_condT rfl (decide_eq_true hlt) ?_
            obtain ⟨x27, hx27, h28⟩ := bi_ok hy24
            have hj29 := getZ_at hx27
            refine go hΓ 6 rfl ?_
            refine eo_o rfl (op_elemRowZ hΓ hx27 rfl rfl rfl rfl rfl rfl) ?_
            refine eo_o rfl (op_loadRowZ hΓ (enc := e_route_entry) ((i15 : Int).toNat) 0 hj29 rfl rfl rfl rfl (fun _ => rfl) (g := .agg [B x27.inner.Addr.Six, U x27.inner.Addr.Hi, U x27.inner.Addr.Lo, I x27.inner.Port, I x27.port, B x27.dep.Addr.Six, U x27.dep.Addr.Hi, U x27.dep.Addr.Lo, I x27.dep.Port, I x27.last, .d (Slt 45 4 e_api_Spot x27.sent)]) rfl) ?_
            refine eo_s (Nat.le_of_ble_eq_true rfl) (nblt.1 rfl) (ops_allocT hΓ [10] [B false, U 0, U 0, I 0, I 0, B false, U 0, U 0, I 0, I 0, .d (Slt 45 4 e_api_Spot (1, []))] (hi := show Γ 86 = some ⟨_, _, _, _⟩ from rfl) rfl ⟨.refl _, .refl _, .refl _, .refl _, .refl _, .refl _, .refl _, .refl _, .refl _, .refl _, G.Le.tagN, trivial⟩) ?_
            refine eo_hp [.row 86 11 y13.list.length (y13.list.flatMap e_route_entry), .box 64 [I y13.nat.Maps, I y13.nat.Lets, I y13.nat.Timeout, I y13.nat.First, I y13.nat.Ports, B y13.nat.Outer.Six, U y13.nat.Outer.Hi, U y13.nat.Outer.Lo, I y13.now, I y13.v_next, .sl 0 y13.list.length], .box 32 [.ptr 1 0], .box 45 [B v_from.Addr.Six, U v_from.Addr.Hi, U v_from.Addr.Lo, I v_from.Port], .box 45 [B false, U 0, U 0, I 0], .box 86 [B false, U 0, U 0, I 0, I 0, B false, U 0, U 0, I 0, I 0, .d (Slt 45 4 e_api_Spot (1, []))]] rfl ?_
            refine eo_store hΓ rfl rfl rfl rfl rfl rfl rfl rfl (Nat.le_of_ble_eq_true rfl) ?_
            refine eo_hp [.row 86 11 y13.list.length (y13.list.flatMap e_route_entry), .box 64 [I y13.nat.Maps, I y13.nat.Lets, I y13.nat.Timeout, I y13.nat.First, I y13.nat.Ports, B y13.nat.Outer.Six, U y13.nat.Outer.Hi, U y13.nat.Outer.Lo, I y13.now, I y13.v_next, .sl 0 y13.list.length], .box 32 [.ptr 1 0], .box 45 [B v_from.Addr.Six, U v_from.Addr.Hi, U v_from.Addr.Lo, I v_from.Port], .box 45 [B false, U 0, U 0, I 0], .box 86 [B x27.inner.Addr.Six, U x27.inner.Addr.Hi, U x27.inner.Addr.Lo, I x27.inner.Port, I x27.port, B x27.dep.Addr.Six, U x27.dep.Addr.Hi, U x27.dep.Addr.Lo, I x27.dep.Port, I x27.last, .d (Slt 45 4 e_api_Spot x27.sent)]] rfl ?_
            refine go_ops hΓ 11 rfl ?_
            refine j_cond rfl (fun hb => ?_) (fun hb => ?_)
            · have h30 := cT h28 hb
              refine go hΓ 8 rfl ?_
              obtain rfl := Option.some.inj h30
              exact ⟨_, rfl, ⟨⟨rfl, rfl, rfl, rfl, rfl, rfl, get_eq rfl (w64_succ (by omega)), trivial⟩, [_], rfl, .inr ⟨HB.mk rfl, FB.mk rfl, (Nat.le_of_ble_eq_true rfl)⟩⟩⟩
            · have h31 := cF h28 hb
              refine go hΓ 11 rfl ?_
              obtain ⟨q32, hq32, h33⟩ := bi_ok h31
              refine o_cut 5 [(3, I port), (4, .ptr 2 0), (6, .ptr 3 0), (8, .ptr 4 0), (15, .ptr 5 0), (42, .sl 0 y13.list.length), (43, I (y13.list.length : Int)), (44, I (i15 : Int)), (63, B q32)] [.row 86 11 y13.list.length (y13.list.flatMap e_route_entry), .box 64 [I y13.nat.Maps, I y13.nat.Lets, I y13.nat.Timeout, I y13.nat.First, I y13.nat.Ports, B y13.nat.Outer.Six, U y13.nat.Outer.Hi, U y13.nat.Outer.Lo, I y13.now, I y13.v_next, .sl 0 y13.list.length], .box 32 [.ptr 1 0], .box 45 [B v_from.Addr.Six, U v_from.Addr.Hi, U v_from.Addr.Lo, I v_from.Port], .box 45 [B false, U 0, U 0, I 0], .box 86 [B x27.inner.Addr.Six, U x27.inner.Addr.Hi, U x27.inner.Addr.Lo, I x27.inner.Port, I x27.port, B x27.dep.Addr.Six, U x27.dep.Addr.Hi, U x27.dep.Addr.Lo, I x27.dep.Port, I x27.last, .d (Slt 45 4 e_api_Spot x27.sent)]] ?_ ?_
              · refine eo_gsplit rfl rfl (fun hb => ?_) (fun hb => ?_)
                · have h34 := cT hq32 hb
                  refine go_ops hΓ 6 rfl ?_
                  obtain rfl := Option.some.inj h34
                  exact ⟨⟨rfl, rfl, rfl, rfl, rfl, rfl, rfl, rfl, rfl, trivial⟩, [], rfl, .inl rfl⟩
                · have h35 := cF hq32 hb
                  refine go_ops hΓ 1 rfl ?_
                  refine eo_guard rfl ?_
                  refine eo_o rfl (op_le (pst_ok hΓ (g := .d (Slt 45 4 e_api_Spot x27.sent)) rfl) G.Le.unt) ?_
                  obtain ⟨y36, hy36, h37⟩ := bi_ok h35
                  refine go_ops hΓ 1 rfl ?_
                  refine eo_guard rfl ?_
                  refine eo_callF [0, 1, 2, 3] (B y36) [.row 86 11 y13.list.length (y13.list.flatMap e_route_entry), .box 64 [I y13.nat.Maps, I y13.nat.Lets, I y13.nat.Timeout, I y13.nat.First, I y13.nat.Ports, B y13.nat.Outer.Six, U y13.nat.Outer.Hi, U y13.nat.Outer.Lo, I y13.now, I y13.v_next, .sl 0 y13.list.length], .box 32 [.ptr 1 0], .box 45 [B v_from.Addr.Six, U v_from.Addr.Hi, U v_from.Addr.Lo, I v_from.Port], .box 45 [B false, U 0, U 0, I 0], .box 86 [B x27.inner.Addr.Six, U x27.inner.Addr.Hi, U x27.inner.Addr.Lo, I x27.inner.Port, I x27.port, B x27.dep.Addr.Six, U x27.dep.Addr.Hi, U x27.dep.Addr.Lo, I x27.dep.Port, I x27.last, .d (Slt 45 4 e_api_Spot x27.sent)]] (callable Try.func49 rfl rfl) (c_slices_ContainsFunc_api_Spot_api_Spot hy36) rfl (Nat.le_of_ble_eq_true rfl) rfl rfl rfl rfl rfl rfl rfl rfl rfl rfl ?_
                  refine go_ops hΓ 2 rfl ?_
                  obtain rfl := Option.some.inj h37
                  exact ⟨⟨rfl, rfl, rfl, rfl, rfl, rfl, rfl, rfl, rfl, trivial⟩, [], rfl, .inl rfl⟩
              · refine go_ops hΓ 8 rfl ?_
                refine j_cond rfl (fun hb => ?_) (fun hb => ?_)
                · have h38 := cT h33 hb
                  refine go hΓ 4 rfl ?_
                  refine eo_store hΓ rfl rfl rfl rfl rfl rfl rfl rfl (Nat.le_of_ble_eq_true rfl) ?_
                  refine eo_hp [.row 86 11 y13.list.length (y13.list.flatMap e_route_entry), .box 64 [I y13.nat.Maps, I y13.nat.Lets, I y13.nat.Timeout, I y13.nat.First, I y13.nat.Ports, B y13.nat.Outer.Six, U y13.nat.Outer.Hi, U y13.nat.Outer.Lo, I y13.now, I y13.v_next, .sl 0 y13.list.length], .box 32 [.ptr 1 0], .box 45 [B v_from.Addr.Six, U v_from.Addr.Hi, U v_from.Addr.Lo, I v_from.Port], .box 45 [B x27.inner.Addr.Six, U x27.inner.Addr.Hi, U x27.inner.Addr.Lo, I x27.inner.Port], .box 86 [B x27.inner.Addr.Six, U x27.inner.Addr.Hi, U x27.inner.Addr.Lo, I x27.inner.Port, I x27.port, B x27.dep.Addr.Six, U x27.dep.Addr.Hi, U x27.dep.Addr.Lo, I x27.dep.Port, I x27.last, .d (Slt 45 4 e_api_Spot x27.sent)]] rfl ?_
                  refine go_ops hΓ 7 rfl ?_
                  obtain ⟨v39, hv39, h40⟩ := bi_ok h38
                  obtain rfl := Option.some.inj h40
                  obtain rfl := hout25 _ rfl
                  obtain rfl := Option.some.inj h19
                  refine go hΓ 4 rfl ?_
                  refine cv_here ?_
                  obtain rfl := Option.some.inj hv39
                  exact fin_objs hΓ [_, _, _, _] (.inr rfl) rfl rfl rfl rfl (.inr ⟨HB.mk rfl, rfl⟩)
                · have h41 := cF h33 hb
                  refine go hΓ 7 rfl ?_
                  obtain rfl := Option.some.inj h41
                  exact ⟨_, rfl, ⟨⟨rfl, rfl, rfl, rfl, rfl, rfl, get_eq rfl (w64_succ (by omega)), trivial⟩, [_], rfl, .inr ⟨HB.mk rfl, FB.mk rfl, (Nat.le_of_ble_eq_true rfl)⟩⟩⟩
          · subst hgo
            refine go hΓ 6 rfl ?_
            refine j_condF rfl (decide_eq_false hge) ?_
            refine go hΓ 4 rfl ?_
            exact ⟨_, rfl, ⟨⟨rfl, trivial⟩, [], rfl, .inl rfl⟩⟩
        · intro a20 ha
          subst ha
          replace h19 := goI_l h19
          refine go hΓ 3 rfl ?_
          refine eo_build hΓ (gs := [B false, U 0, U 0, I 0]) rfl rfl rfl rfl rfl rfl rfl ?_
          refine eo_store hΓ rfl rfl rfl rfl rfl rfl rfl rfl (Nat.le_of_ble_eq_true rfl) ?_
          refine eo_hp [.row 86 11 y13.list.length (y13.list.flatMap e_route_entry), .box 64 [I y13.nat.Maps, I y13.nat.Lets, I y13.nat.Timeout, I y13.nat.First, I y13.nat.Ports, B y13.nat.Outer.Six, U y13.nat.Outer.Hi, U y13.nat.Outer.Lo, I y13.now, I y13.v_next, .sl 0 y13.list.length], .box 32 [.ptr 1 0], .box 45 [B v_from.Addr.Six, U v_from.Addr.Hi, U v_from.Addr.Lo, I v_from.Port], .box 45 [B false, U 0, U 0, I 0]] rfl ?_
          refine go_ops hΓ 5 rfl ?_
          refine cv_here ?_
          obtain rfl := Option.some.inj h19
          exact fin_objs hΓ [_, _, _] (.inr rfl) rfl rfl rfl rfl (.inr ⟨HB.mk rfl, rfl⟩)
set_option maxHeartbeats 8000000 in
theorem c_route_peer_turn {k : Nat} {p : T_route_peer} {o : T_route_peer} {v_at : Int} {al : List Bool} {r : T_route_peer × T_route_peer × (List Bool)} (h : m_route_peer_turn k p o v_at al = some r) : EC Try.prog 55 [.ptr 3 0, .ptr 7 0, I v_at] [.row 86 11 p.t.list.length (p.t.list.flatMap e_route_entry), .box 64 [I p.t.nat.Maps, I p.t.nat.Lets, I p.t.nat.Timeout, I p.t.nat.First, I p.t.nat.Ports, B p.t.nat.Outer.Six, U p.t.nat.Outer.Hi, U p.t.nat.Outer.Lo, I p.t.now, I p.t.v_next, .sl 0 p.t.list.length], .row 45 4 p.knows.length (p.knows.flatMap e_api_Spot), .box 104 [.ptr 1 0, .sl 2 p.knows.length, I p.heard], .row 86 11 o.t.list.length (o.t.list.flatMap e_route_entry), .box 64 [I o.t.nat.Maps, I o.t.nat.Lets, I o.t.nat.Timeout, I o.t.nat.First, I o.t.nat.Ports, B o.t.nat.Outer.Six, U o.t.nat.Outer.Hi, U o.t.nat.Outer.Lo, I o.t.now, I o.t.v_next, .sl 4 o.t.list.length], .row 45 4 o.knows.length (o.knows.flatMap e_api_Spot), .box 104 [.ptr 5 0, .sl 6 o.knows.length, I o.heard], .bag al] fun g hp' => g = .tup [] ∧ hp' = [.dead, .box 64 [I r.1.t.nat.Maps, I r.1.t.nat.Lets, I r.1.t.nat.Timeout, I r.1.t.nat.First, I r.1.t.nat.Ports, B r.1.t.nat.Outer.Six, U r.1.t.nat.Outer.Hi, U r.1.t.nat.Outer.Lo, I r.1.t.now, I r.1.t.v_next, .sl 9 r.1.t.list.length], .dead, .box 104 [.ptr 1 0, .sl 10 r.1.knows.length, I r.1.heard], .dead, .box 64 [I r.2.1.t.nat.Maps, I r.2.1.t.nat.Lets, I r.2.1.t.nat.Timeout, I r.2.1.t.nat.First, I r.2.1.t.nat.Ports, B r.2.1.t.nat.Outer.Six, U r.2.1.t.nat.Outer.Hi, U r.2.1.t.nat.Outer.Lo, I r.2.1.t.now, I r.2.1.t.v_next, .sl 11 r.2.1.t.list.length], .dead, .box 104 [.ptr 5 0, .sl 12 r.2.1.knows.length, I r.2.1.heard], .bag r.2.2, .row 86 11 r.1.t.list.length (r.1.t.list.flatMap e_route_entry), .row 45 4 r.1.knows.length (r.1.knows.flatMap e_api_Spot), .row 86 11 r.2.1.t.list.length (r.2.1.t.list.flatMap e_route_entry), .row 45 4 r.2.1.knows.length (r.2.1.knows.flatMap e_api_Spot)] := by
  refine ec_enterC (Fr.of 0 _) Try.func55 rfl (Fr.of_ok _) (Nat.le_of_ble_eq_true rfl) fun _ => ?_
  refine go_in ?_
  unfold m_route_peer_turn at h
  refine j_name (Nat.le_of_ble_eq_true rfl) ?_
  refine j_move 0 9 [.dead, .box 64 [I p.t.nat.Maps, I p.t.nat.Lets, I p.t.nat.Timeout, I p.t.nat.First, I p.t.nat.Ports, B p.t.nat.Outer.Six, U p.t.nat.Outer.Hi, U p.t.nat.Outer.Lo, I p.t.now, I p.t.v_next, .sl 9 p.t.list.length], .row 45 4 p.knows.length (p.knows.flatMap e_api_Spot), .box 104 [.ptr 1 0, .sl 2 p.knows.length, I p.heard], .row 86 11 o.t.list.length (o.t.list.flatMap e_route_entry), .box 64 [I o.t.nat.Maps, I o.t.nat.Lets, I o.t.nat.Timeout, I o.t.nat.First, I o.t.nat.Ports, B o.t.nat.Outer.Six, U o.t.nat.Outer.Hi, U o.t.nat.Outer.Lo, I o.t.now, I o.t.v_next, .sl 4 o.t.list.length], .row 45 4 o.knows.length (o.knows.flatMap e_api_Spot), .box 104 [.ptr 5 0, .sl 6 o.knows.length, I o.heard], .bag al, .row 86 11 p.t.list.length (p.t.list.flatMap e_route_entry)] rfl rfl rfl rfl rfl rfl ?_
  refine j_name (Nat.le_of_ble_eq_true rfl) ?_
  refine j_move 2 10 [.dead, .box 64 [I p.t.nat.Maps, I p.t.nat.Lets, I p.t.nat.Timeout, I p.t.nat.First, I p.t.nat.Ports, B p.t.nat.Outer.Six, U p.t.nat.Outer.Hi, U p.t.nat.Outer.Lo, I p.t.now, I p.t.v_next, .sl 9 p.t.list.length], .dead, .box 104 [.ptr 1 0, .sl 10 p.knows.length, I p.heard], .row 86 11 o.t.list.length (o.t.list.flatMap e_route_entry), .box 64 [I o.t.nat.Maps, I o.t.nat.Lets, I o.t.nat.Timeout, I o.t.nat.First, I o.t.nat.Ports, B o.t.nat.Outer.Six, U o.t.nat.Outer.Hi, U o.t.nat.Outer.Lo, I o.t.now, I o.t.v_next, .sl 4 o.t.list.length], .row 45 4 o.knows.length (o.knows.flatMap e_api_Spot), .box 104 [.ptr 5 0, .sl 6 o.knows.length, I o.heard], .bag al, .row 86 11 p.t.list.length (p.t.list.flatMap e_route_entry), .row 45 4 p.knows.length (p.knows.flatMap e_api_Spot)] rfl rfl rfl rfl rfl rfl ?_
  refine j_name (Nat.le_of_ble_eq_true rfl) ?_
  refine j_move 4 11 [.dead, .box 64 [I p.t.nat.Maps, I p.t.nat.Lets, I p.t.nat.Timeout, I p.t.nat.First, I p.t.nat.Ports, B p.t.nat.Outer.Six, U p.t.nat.Outer.Hi, U p.t.nat.Outer.Lo, I p.t.now, I p.t.v_next, .sl 9 p.t.list.length], .dead, .box 104 [.ptr 1 0, .sl 10 p.knows.length, I p.heard], .dead, .box 64 [I o.t.nat.Maps, I o.t.nat.Lets, I o.t.nat.Timeout, I o.t.nat.First, I o.t.nat.Ports, B o.t.nat.Outer.Six, U o.t.nat.Outer.Hi, U o.t.nat.Outer.Lo, I o.t.now, I o.t.v_next, .sl 11 o.t.list.length], .row 45 4 o.knows.length (o.knows.flatMap e_api_Spot), .box 104 [.ptr 5 0, .sl 6 o.knows.length, I o.heard], .bag al, .row 86 11 p.t.list.length (p.t.list.flatMap e_route_entry), .row 45 4 p.knows.length (p.knows.flatMap e_api_Spot), .row 86 11 o.t.list.length (o.t.list.flatMap e_route_entry)] rfl rfl rfl rfl rfl rfl ?_
  refine j_name (Nat.le_of_ble_eq_true rfl) ?_
  refine j_move 6 12 [.dead, .box 64 [I p.t.nat.Maps, I p.t.nat.Lets, I p.t.nat.Timeout, I p.t.nat.First, I p.t.nat.Ports, B p.t.nat.Outer.Six, U p.t.nat.Outer.Hi, U p.t.nat.Outer.Lo, I p.t.now, I p.t.v_next, .sl 9 p.t.list.length], .dead, .box 104 [.ptr 1 0, .sl 10 p.knows.length, I p.heard], .dead, .box 64 [I o.t.nat.Maps, I o.t.nat.Lets, I o.t.nat.Timeout, I o.t.nat.First, I o.t.nat.Ports, B o.t.nat.Outer.Six, U o.t.nat.Outer.Hi, U o.t.nat.Outer.Lo, I o.t.now, I o.t.v_next, .sl 11 o.t.list.length], .dead, .box 104 [.ptr 5 0, .sl 12 o.knows.length, I o.heard], .bag al, .row 86 11 p.t.list.length (p.t.list.flatMap e_route_entry), .row 45 4 p.knows.length (p.knows.flatMap e_api_Spot), .row 86 11 o.t.list.length (o.t.list.flatMap e_route_entry), .row 45 4 o.knows.length (o.knows.flatMap e_api_Spot)] rfl rfl rfl rfl rfl rfl ?_
  refine go hΓ 10 rfl ?_
  obtain ⟨q4, hq4, h5⟩ := bi_ok h
  obtain ⟨hb7, h8⟩ := gd_ok hq4
  replace hb7 := of_decide_eq_true hb7
  refine j_cutNZ [] [.dead, .box 64 [I q4.1, I q4.2.1, I q4.2.2.1, I q4.2.2.2.1, I q4.2.2.2.2.1, B q4.2.2.2.2.2.1, U q4.2.2.2.2.2.2.1, U q4.2.2.2.2.2.2.2.1, I q4.2.2.2.2.2.2.2.2.1, I q4.2.2.2.2.2.2.2.2.2.1, .sl 9 q4.2.2.2.2.2.2.2.2.2.2.2.2.2.2.2.2.2.2.2.2.2.2.1.length], .dead, .box 104 [.ptr 1 0, .sl 10 p.knows.length, I p.heard], .dead, .box 64 [I q4.2.2.2.2.2.2.2.2.2.2.1, I q4.2.2.2.2.2.2.2.2.2.2.2.1, I q4.2.2.2.2.2.2.2.2.2.2.2.2.1, I q4.2.2.2.2.2.2.2.2.2.2.2.2.2.1, I q4.2.2.2.2.2.2.2.2.2.2.2.2.2.2.1, B q4.2.2.2.2.2.2.2.2.2.2.2.2.2.2.2.1, U q4.2.2.2.2.2.2.2.2.2.2.2.2.2.2.2.2.1, U q4.2.2.2.2.2.2.2.2.2.2.2.2.2.2.2.2.2.1, I q4.2.2.2.2.2.2.2.2.2.2.2.2.2.2.2.2.2.2.1, I q4.2.2.2.2.2.2.2.2.2.2.2.2.2.2.2.2.2.2.2.1, .sl 11 q4.2.2.2.2.2.2.2.2.2.2.2.2.2.2.2.2.2.2.2.2.2.2.2.1.length], .dead, .box 104 [.ptr 5 0, .sl 12 q4.2.2.2.2.2.2.2.2.2.2.2.2.2.2.2.2.2.2.2.2.2.2.2.2.length, I q4.2.2.2.2.2.2.2.2.2.2.2.2.2.2.2.2.2.2.2.2.1], .bag q4.2.2.2.2.2.2.2.2.2.2.2.2.2.2.2.2.2.2.2.2.2.1, .row 86 11 q4.2.2.2.2.2.2.2.2.2.2.2.2.2.2.2.2.2.2.2.2.2.2.1.length (q4.2.2.2.2.2.2.2.2.2.2.2.2.2.2.2.2.2.2.2.2.2.2.1.flatMap e_route_entry), .row 45 4 p.knows.length (p.knows.flatMap e_api_Spot), .row 86 11 q4.2.2.2.2.2.2.2.2.2.2.2.2.2.2.2.2.2.2.2.2.2.2.2.1.length (q4.2.2.2.2.2.2.2.2.2.2.2.2.2.2.2.2.2.2.2.2.2.2.2.1.flatMap e_route_entry), .row 45 4 q4.2.2.2.2.2.2.2.2.2.2.2.2.2.2.2.2.2.2.2.2.2.2.2.2.length (q4.2.2.2.2.2.2.2.2.2.2.2.2.2.2.2.2.2.2.2.2.2.2.2.2.flatMap e_api_Spot)] ?_ ?_
  · refine go hΓ 1 rfl ?_
    refine j_rangeG h8 (fun i1 s2 => [(0, .ptr 3 0), (1, .ptr 7 0), (2, I v_at), (16, .sl 10 p.knows.length), (17, I (p.knows.length : Int)), (18, I (i1 : Int))]) (fun s2 => [.dead, .box 64 [I s2.1, I s2.2.1, I s2.2.2.1, I s2.2.2.2.1, I s2.2.2.2.2.1, B s2.2.2.2.2.2.1, U s2.2.2.2.2.2.2.1, U s2.2.2.2.2.2.2.2.1, I s2.2.2.2.2.2.2.2.2.1, I s2.2.2.2.2.2.2.2.2.2.1, .sl 9 s2.2.2.2.2.2.2.2.2.2.2.2.2.2.2.2.2.2.2.2.2.2.2.1.length], .dead, .box 104 [.ptr 1 0, .sl 10 p.knows.length, I p.heard], .dead, .box 64 [I s2.2.2.2.2.2.2.2.2.2.2.1, I s2.2.2.2.2.2.2.2.2.2.2.2.1, I s2.2.2.2.2.2.2.2.2.2.2.2.2.1, I s2.2.2.2.2.2.2.2.2.2.2.2.2.2.1, I s2.2.2.2.2.2.2.2.2.2.2.2.2.2.2.1, B s2.2.2.2.2.2.2.2.2.2.2.2.2.2.2.2.1, U s2.2.2.2.2.2.2.2.2.2.2.2.2.2.2.2.2.1, U s2.2.2.2.2.2.2.2.2.2.2.2.2.2.2.2.2.2.1, I s2.2.2.2.2.2.2.2.2.2.2.2.2.2.2.2.2.2.2.1, I s2.2.2.2.2.2.2.2.2.2.2.2.2.2.2.2.2.2.2.2.1, .sl 11 s2.2.2.2.2.2.2.2.2.2.2.2.2.2.2.2.2.2.2.2.2.2.2.2.1.length], .dead, .box 104 [.ptr 5 0, .sl 12 s2.2.2.2.2.2.2.2.2.2.2.2.2.2.2.2.2.2.2.2.2.2.2.2.2.length, I s2.2.2.2.2.2.2.2.2.2.2.2.2.2.2.2.2.2.2.2.2.1], .bag s2.2.2.2.2.2.2.2.2.2.2.2.2.2.2.2.2.2.2.2.2.2.1, .row 86 11 s2.2.2.2.2.2.2.2.2.2.2.2.2.2.2.2.2.2.2.2.2.2.2.1.length (s2.2.2.2.2.2.2.2.2.2.2.2.2.2.2.2.2.2.2.2.2.2.2.1.flatMap e_route_entry), .row 45 4 p.knows.length (p.knows.flatMap e_api_Spot), .row 86 11 s2.2.2.2.2.2.2.2.2.2.2.2.2.2.2.2.2.2.2.2.2.2.2.2.1.length (s2.2.2.2.2.2.2.2.2.2.2.2.2.2.2.2.2.2.2.2.2.2.2.2.1.flatMap e_route_entry), .row 45 4 s2.2.2.2.2.2.2.2.2.2.2.2.2.2.2.2.2.2.2.2.2.2.2.2.2.length (s2.2.2.2.2.2.2.2.2.2.2.2.2.2.2.2.2.2.2.2.2.2.2.2.2.flatMap e_api_Spot)]) ⟨⟨rfl, rfl, rfl, rfl, rfl, rfl, trivial⟩, [], rfl, .inl rfl⟩ (fun i1 s2 y12 hlt hy10 => ?_) (fun hge => ?_)
    · refine go hΓ 6 rfl ?_
      refine j_condT rfl (decide_eq_true hlt) ?_
      obtain ⟨x13, hx13, h14⟩ := bi_ok hy10
      have hj15 := getZ_at hx13
      refine go hΓ 6 rfl ?_
      refine eo_o rfl (op_elemRowZ hΓ hx13 rfl rfl rfl rfl rfl rfl) ?_
      refine eo_o rfl (op_loadRowZ hΓ (enc := e_api_Spot) ((i1 : Int).toNat) 0 hj15 rfl rfl rfl rfl (fun _ => rfl) (g := .agg [B x13.Addr.Six, U x13.Addr.Hi, U x13.Addr.Lo, I x13.Port]) rfl) ?_
      refine eo_alloc hΓ rfl rfl rfl (Nat.le_of_ble_eq_true rfl) ?_
      refine eo_store hΓ rfl rfl rfl rfl rfl rfl rfl rfl (Nat.le_of_ble_eq_true rfl) ?_
      refine eo_hp [.dead, .box 64 [I s2.1, I s2.2.1, I s2.2.2.1, I s2.2.2.2.1, I s2.2.2.2.2.1, B s2.2.2.2.2.2.1, U s2.2.2.2.2.2.2.1, U s2.2.2.2.2.2.2.2.1, I s2.2.2.2.2.2.2.2.2.1, I s2.2.2.2.2.2.2.2.2.2.1, .sl 9 s2.2.2.2.2.2.2.2.2.2.2.2.2.2.2.2.2.2.2.2.2.2.2.1.length], .dead, .box 104 [.ptr 1 0, .sl 10 p.knows.length, I p.heard], .dead, .box 64 [I s2.2.2.2.2.2.2.2.2.2.2.1, I s2.2.2.2.2.2.2.2.2.2.2.2.1, I s2.2.2.2.2.2.2.2.2.2.2.2.2.1, I s2.2.2.2.2.2.2.2.2.2.2.2.2.2.1, I s2.2.2.2.2.2.2.2.2.2.2.2.2.2.2.1, B s2.2.2.2.2.2.2.2.2.2.2.2.2.2.2.2.1, U s2.2.2.2.2.2.2.2.2.2.2.2.2.2.2.2.2.1, U s2.2.2.2.2.2.2.2.2.2.2.2.2.2.2.2.2.2.1, I s2.2.2.2.2.2.2.2.2.2.2.2.2.2.2.2.2.2.2.1, I s2.2.2.2.2.2.2.2.2.2.2.2.2.2.2.2.2.2.2.2.1, .sl 11 s2.2.2.2.2.2.2.2.2.2.2.2.2.2.2.2.2.2.2.2.2.2.2.2.1.length], .dead, .box 104 [.ptr 5 0, .sl 12 s2.2.2.2.2.2.2.2.2.2.2.2.2.2.2.2.2.2.2.2.2.2.2.2.2.length, I s2.2.2.2.2.2.2.2.2.2.2.2.2.2.2.2.2.2.2.2.2.1], .bag s2.2.2.2.2.2.2.2.2.2.2.2.2.2.2.2.2.2.2.2.2.2.1, .row 86 11 s2.2.2.2.2.2.2.2.2.2.2.2.2.2.2.2.2.2.2.2.2.2.2.1.length (s2.2.2.2.2.2.2.2.2.2.2.2.2.2.2.2.2.2.2.2.2.2.2.1.flatMap e_route_entry), .row 45 4 p.knows.length (p.knows.flatMap e_api_Spot), .row 86 11 s2.2.2.2.2.2.2.2.2.2.2.2.2.2.2.2.2.2.2.2.2.2.2.2.1.length (s2.2.2.2.2.2.2.2.2.2.2.2.2.2.2.2.2.2.2.2.2.2.2.2.1.flatMap e_route_entry), .row 45 4 s2.2.2.2.2.2.2.2.2.2.2.2.2.2.2.2.2.2.2.2.2.2.2.2.2.length (s2.2.2.2.2.2.2.2.2.2.2.2.2.2.2.2.2.2.2.2.2.2.2.2.2.flatMap e_api_Spot), .box 45 [B x13.Addr.Six, U x13.Addr.Hi, U x13.Addr.Lo, I x13.Port]] rfl ?_
      refine go_ops hΓ 3 rfl ?_
      refine j_drawE [.dead, .dead, .dead, .box 104 [.ptr 1 0, .sl 10 p.knows.length, I p.heard], .dead, .dead, .dead, .dead, .dead, .dead, .dead, .dead, .dead, .box 45 [B x13.Addr.Six, U x13.Addr.Hi, U x13.Addr.Lo, I x13.Port]] [3, 6] [7, 12] [13011] hmix (by kernel_rfl) (by kernel_rfl) ⟨rfl, rfl, trivial⟩ (Nat.le_of_ble_eq_true rfl) ?_
      obtain ⟨y16, hy16, h17⟩ := bi_ok h14
      refine go_E hΓ 5 rfl ?_
      refine ge_callP (callable Try.func54 rfl rfl) (c_route_inner hy16) rfl rfl rfl rfl rfl rfl ?_
      obtain ⟨y18, hy18, h19⟩ := bi_ok h17
      refine go_E hΓ 1 rfl ?_
      refine ge_h [.dead, .box 64 [I y18.2.2.1.nat.Maps, I y18.2.2.1.nat.Lets, I y18.2.2.1.nat.Timeout, I y18.2.2.1.nat.First, I y18.2.2.1.nat.Ports, B y18.2.2.1.nat.Outer.Six, U y18.2.2.1.nat.Outer.Hi, U y18.2.2.1.nat.Outer.Lo, I y18.2.2.1.now, I y18.2.2.1.v_next, .sl 14 y18.2.2.1.list.length], .dead, .box 104 [.ptr 1 0, .sl 10 p.knows.length, I p.heard], .dead, .box 64 [I s2.2.2.2.2.2.2.2.2.2.2.1, I s2.2.2.2.2.2.2.2.2.2.2.2.1, I s2.2.2.2.2.2.2.2.2.2.2.2.2.1, I s2.2.2.2.2.2.2.2.2.2.2.2.2.2.1, I s2.2.2.2.2.2.2.2.2.2.2.2.2.2.2.1, B s2.2.2.2.2.2.2.2.2.2.2.2.2.2.2.2.1, U s2.2.2.2.2.2.2.2.2.2.2.2.2.2.2.2.2.1, U s2.2.2.2.2.2.2.2.2.2.2.2.2.2.2.2.2.2.1, I s2.2.2.2.2.2.2.2.2.2.2.2.2.2.2.2.2.2.2.1, I s2.2.2.2.2.2.2.2.2.2.2.2.2.2.2.2.2.2.2.2.1, .sl 11 s2.2.2.2.2.2.2.2.2.2.2.2.2.2.2.2.2.2.2.2.2.2.2.2.1.length], .dead, .box 104 [.ptr 5 0, .sl 12 s2.2.2.2.2.2.2.2.2.2.2.2.2.2.2.2.2.2.2.2.2.2.2.2.2.length, I s2.2.2.2.2.2.2.2.2.2.2.2.2.2.2.2.2.2.2.2.2.1], .bag y18.2.2.2, .dead, .row 45 4 p.knows.length (p.knows.flatMap e_api_Spot), .row 86 11 s2.2.2.2.2.2.2.2.2.2.2.2.2.2.2.2.2.2.2.2.2.2.2.2.1.length (s2.2.2.2.2.2.2.2.2.2.2.2.2.2.2.2.2.2.2.2.2.2.2.2.1.flatMap e_route_entry), .row 45 4 s2.2.2.2.2.2.2.2.2.2.2.2.2.2.2.2.2.2.2.2.2.2.2.2.2.length (s2.2.2.2.2.2.2.2.2.2.2.2.2.2.2.2.2.2.2.2.2.2.2.2.2.flatMap e_api_Spot), .box 45 [B x13.Addr.Six, U x13.Addr.Hi, U x13.Addr.Lo, I x13.Port], .row 86 11 y18.2.2.1.list.length (y18.2.2.1.list.flatMap e_route_entry)] rfl rfl rfl (st_st ⟨rfl, rfl, trivial⟩) (qte_callF [9, 1, 8] (.tup [.agg [B y18.1.Addr.Six, U y18.1.Addr.Hi, U y18.1.Addr.Lo, I y18.1.Port], I y18.2.1]) [.dead, .box 64 [I y18.2.2.1.nat.Maps, I y18.2.2.1.nat.Lets, I y18.2.2.1.nat.Timeout, I y18.2.2.1.nat.First, I y18.2.2.1.nat.Ports, B y18.2.2.1.nat.Outer.Six, U y18.2.2.1.nat.Outer.Hi, U y18.2.2.1.nat.Outer.Lo, I y18.2.2.1.now, I y18.2.2.1.v_next, .sl 14 y18.2.2.1.list.length], .dead, .box 104 [.ptr 1 0, .sl 10 p.knows.length, I p.heard], .dead, .box 64 [I s2.2.2.2.2.2.2.2.2.2.2.1, I s2.2.2.2.2.2.2.2.2.2.2.2.1, I s2.2.2.2.2.2.2.2.2.2.2.2.2.1, I s2.2.2.2.2.2.2.2.2.2.2.2.2.2.1, I s2.2.2.2.2.2.2.2.2.2.2.2.2.2.2.1, B s2.2.2.2.2.2.2.2.2.2.2.2.2.2.2.2.1, U s2.2.2.2.2.2.2.2.2.2.2.2.2.2.2.2.2.1, U s2.2.2.2.2.2.2.2.2.2.2.2.2.2.2.2.2.2.1, I s2.2.2.2.2.2.2.2.2.2.2.2.2.2.2.2.2.2.2.1, I s2.2.2.2.2.2.2.2.2.2.2.2.2.2.2.2.2.2.2.2.1, .sl 11 s2.2.2.2.2.2.2.2.2.2.2.2.2.2.2.2.2.2.2.2.2.2.2.2.1.length], .dead, .box 104 [.ptr 5 0, .sl 12 s2.2.2.2.2.2.2.2.2.2.2.2.2.2.2.2.2.2.2.2.2.2.2.2.2.length, I s2.2.2.2.2.2.2.2.2.2.2.2.2.2.2.2.2.2.2.2.2.1], .bag y18.2.2.2, .dead, .row 45 4 p.knows.length (p.knows.flatMap e_api_Spot), .row 86 11 s2.2.2.2.2.2.2.2.2.2.2.2.2.2.2.2.2.2.2.2.2.2.2.2.1.length (s2.2.2.2.2.2.2.2.2.2.2.2.2.2.2.2.2.2.2.2.2.2.2.2.1.flatMap e_route_entry), .row 45 4 s2.2.2.2.2.2.2.2.2.2.2.2.2.2.2.2.2.2.2.2.2.2.2.2.2.length (s2.2.2.2.2.2.2.2.2.2.2.2.2.2.2.2.2.2.2.2.2.2.2.2.2.flatMap e_api_Spot), .box 45 [B x13.Addr.Six, U x13.Addr.Hi, U x13.Addr.Lo, I x13.Port], .row 86 11 y18.2.2.1.list.length (y18.2.2.1.list.flatMap e_route_entry)] (callable Try.func15 rfl rfl) (c_route_Translator_Out hy18) rfl rfl rfl rfl rfl rfl rfl rfl rfl rfl) ?_
      refine go_E hΓ 3 rfl ?_
      refine ge_new hΓ 12 (i := _) rfl rfl rfl rfl ?_
      refine ge_fill hΓ 11 8 [] [B false, U 0, U 0, I 0] [.dead, .box 64 [I y18.2.2.1.nat.Maps, I y18.2.2.1.nat.Lets, I y18.2.2.1.nat.Timeout, I y18.2.2.1.nat.First, I y18.2.2.1.nat.Ports, B y18.2.2.1.nat.Outer.Six, U y18.2.2.1.nat.Outer.Hi, U y18.2.2.1.nat.Outer.Lo, I y18.2.2.1.now, I y18.2.2.1.v_next, .sl 14 y18.2.2.1.list.length], .dead, .box 104 [.ptr 1 0, .sl 10 p.knows.length, I p.heard], .dead, .box 64 [I s2.2.2.2.2.2.2.2.2.2.2.1, I s2.2.2.2.2.2.2.2.2.2.2.2.1, I s2.2.2.2.2.2.2.2.2.2.2.2.2.1, I s2.2.2.2.2.2.2.2.2.2.2.2.2.2.1, I s2.2.2.2.2.2.2.2.2.2.2.2.2.2.2.1, B s2.2.2.2.2.2.2.2.2.2.2.2.2.2.2.2.1, U s2.2.2.2.2.2.2.2.2.2.2.2.2.2.2.2.2.1, U s2.2.2.2.2.2.2.2.2.2.2.2.2.2.2.2.2.2.1, I s2.2.2.2.2.2.2.2.2.2.2.2.2.2.2.2.2.2.2.1, I s2.2.2.2.2.2.2.2.2.2.2.2.2.2.2.2.2.2.2.2.1, .sl 11 s2.2.2.2.2.2.2.2.2.2.2.2.2.2.2.2.2.2.2.2.2.2.2.2.1.length], .dead, .box 104 [.ptr 5 0, .sl 12 s2.2.2.2.2.2.2.2.2.2.2.2.2.2.2.2.2.2.2.2.2.2.2.2.2.length, I s2.2.2.2.2.2.2.2.2.2.2.2.2.2.2.2.2.2.2.2.2.1], .bag y18.2.2.2, .dead, .row 45 4 p.knows.length (p.knows.flatMap e_api_Spot), .row 86 11 s2.2.2.2.2.2.2.2.2.2.2.2.2.2.2.2.2.2.2.2.2.2.2.2.1.length (s2.2.2.2.2.2.2.2.2.2.2.2.2.2.2.2.2.2.2.2.2.2.2.2.1.flatMap e_route_entry), .row 45 4 s2.2.2.2.2.2.2.2.2.2.2.2.2.2.2.2.2.2.2.2.2.2.2.2.2.length (s2.2.2.2.2.2.2.2.2.2.2.2.2.2.2.2.2.2.2.2.2.2.2.2.2.flatMap e_api_Spot), .box 45 [B x13.Addr.Six, U x13.Addr.Hi, U x13.Addr.Lo, I x13.Port], .row 86 11 y18.2.2.1.list.length (y18.2.2.1.list.flatMap e_route_entry), .box 45 [B y18.1.Addr.Six, U y18.1.Addr.Hi, U y18.1.Addr.Lo, I y18.1.Port]] rfl rfl rfl (show Γ 45 = some ⟨_, _, _, _⟩ from rfl) rfl ⟨.refl _, .refl _, .refl _, .refl _, trivial⟩ rfl rfl rfl rfl (st_st ⟨rfl, rfl, trivial⟩) (qte_u (opu_store2 hΓ rfl rfl rfl rfl rfl rfl rfl rfl rfl)) ?_
      refine go_E hΓ 1 rfl ?_
      refine ge_fin ?_
      refine go hΓ 1 rfl ?_
      refine j_move 14 9 [.dead, .box 64 [I y18.2.2.1.nat.Maps, I y18.2.2.1.nat.Lets, I y18.2.2.1.nat.Timeout, I y18.2.2.1.nat.First, I y18.2.2.1.nat.Ports, B y18.2.2.1.nat.Outer.Six, U y18.2.2.1.nat.Outer.Hi, U y18.2.2.1.nat.Outer.Lo, I y18.2.2.1.now, I y18.2.2.1.v_next, .sl 9 y18.2.2.1.list.length], .dead, .box 104 [.ptr 1 0, .sl 10 p.knows.length, I p.heard], .dead, .box 64 [I s2.2.2.2.2.2.2.2.2.2.2.1, I s2.2.2.2.2.2.2.2.2.2.2.2.1, I s2.2.2.2.2.2.2.2.2.2.2.2.2.1, I s2.2.2.2.2.2.2.2.2.2.2.2.2.2.1, I s2.2.2.2.2.2.2.2.2.2.2.2.2.2.2.1, B s2.2.2.2.2.2.2.2.2.2.2.2.2.2.2.2.1, U s2.2.2.2.2.2.2.2.2.2.2.2.2.2.2.2.2.1, U s2.2.2.2.2.2.2.2.2.2.2.2.2.2.2.2.2.2.1, I s2.2.2.2.2.2.2.2.2.2.2.2.2.2.2.2.2.2.2.1, I s2.2.2.2.2.2.2.2.2.2.2.2.2.2.2.2.2.2.2.2.1, .sl 11 s2.2.2.2.2.2.2.2.2.2.2.2.2.2.2.2.2.2.2.2.2.2.2.2.1.length], .dead, .box 104 [.ptr 5 0, .sl 12 s2.2.2.2.2.2.2.2.2.2.2.2.2.2.2.2.2.2.2.2.2.2.2.2.2.length, I s2.2.2.2.2.2.2.2.2.2.2.2.2.2.2.2.2.2.2.2.2.1], .bag y18.2.2.2, .row 86 11 y18.2.2.1.list.length (y18.2.2.1.list.flatMap e_route_entry), .row 45 4 p.knows.length (p.knows.flatMap e_api_Spot), .row 86 11 s2.2.2.2.2.2.2.2.2.2.2.2.2.2.2.2.2.2.2.2.2.2.2.2.1.length (s2.2.2.2.2.2.2.2.2.2.2.2.2.2.2.2.2.2.2.2.2.2.2.2.1.flatMap e_route_entry), .row 45 4 s2.2.2.2.2.2.2.2.2.2.2.2.2.2.2.2.2.2.2.2.2.2.2.2.2.length (s2.2.2.2.2.2.2.2.2.2.2.2.2.2.2.2.2.2.2.2.2.2.2.2.2.flatMap e_api_Spot), .box 45 [B x13.Addr.Six, U x13.Addr.Hi, U x13.Addr.Lo, I x13.Port], .dead, .box 45 [B y18.1.Addr.Six, U y18.1.Addr.Hi, U y18.1.Addr.Lo, I y18.1.Port]] rfl rfl rfl rfl rfl rfl ?_
      refine go hΓ 7 rfl ?_
      refine j_cond rfl (fun hb => ?_) (fun hb => ?_)
      · have h20 := cT h19 hb
        refine go hΓ 8 rfl ?_
        obtain rfl := Option.some.inj h20
        exact ⟨⟨rfl, rfl, rfl, rfl, rfl, get_eq rfl (w64_succ (by omega)), trivial⟩, [_, _, _], rfl, .inr ⟨HB.mk rfl, FB.mk rfl, (Nat.le_of_ble_eq_true rfl)⟩⟩
      · have h21 := cF h19 hb
        refine go hΓ 4 rfl ?_
        refine j_drawE [.dead, .dead, .dead, .dead, .dead, .dead, .dead, .box 104 [.ptr 5 0, .sl 12 s2.2.2.2.2.2.2.2.2.2.2.2.2.2.2.2.2.2.2.2.2.2.2.2.2.length, I s2.2.2.2.2.2.2.2.2.2.2.2.2.2.2.2.2.2.2.2.2.1], .dead, .dead, .dead, .dead, .dead, .box 45 [B x13.Addr.Six, U x13.Addr.Hi, U x13.Addr.Lo, I x13.Port], .dead, .box 45 [B y18.1.Addr.Six, U y18.1.Addr.Hi, U y18.1.Addr.Lo, I y18.1.Port]] [3, 5, 7] [8, 14] [15013] hmix (by kernel_rfl) (by kernel_rfl) ⟨rfl, rfl, rfl, trivial⟩ (Nat.le_of_ble_eq_true rfl) ?_
        obtain ⟨y22, hy22, h23⟩ := bi_ok h21
        refine go_E hΓ 8 rfl ?_
        refine ge_h [.dead, .box 64 [I y18.2.2.1.nat.Maps, I y18.2.2.1.nat.Lets, I y18.2.2.1.nat.Timeout, I y18.2.2.1.nat.First, I y18.2.2.1.nat.Ports, B y18.2.2.1.nat.Outer.Six, U y18.2.2.1.nat.Outer.Hi, U y18.2.2.1.nat.Outer.Lo, I y18.2.2.1.now, I y18.2.2.1.v_next, .sl 9 y18.2.2.1.list.length], .dead, .box 104 [.ptr 1 0, .sl 10 p.knows.length, I p.heard], .dead, .box 64 [I y22.2.2.2.nat.Maps, I y22.2.2.2.nat.Lets, I y22.2.2.2.nat.Timeout, I y22.2.2.2.nat.First, I y22.2.2.2.nat.Ports, B y22.2.2.2.nat.Outer.Six, U y22.2.2.2.nat.Outer.Hi, U y22.2.2.2.nat.Outer.Lo, I y22.2.2.2.now, I y22.2.2.2.v_next, .sl 11 y22.2.2.2.list.length], .dead, .box 104 [.ptr 5 0, .sl 12 s2.2.2.2.2.2.2.2.2.2.2.2.2.2.2.2.2.2.2.2.2.2.2.2.2.length, I s2.2.2.2.2.2.2.2.2.2.2.2.2.2.2.2.2.2.2.2.2.1], .bag y18.2.2.2, .row 86 11 y18.2.2.1.list.length (y18.2.2.1.list.flatMap e_route_entry), .row 45 4 p.knows.length (p.knows.flatMap e_api_Spot), .row 86 11 y22.2.2.2.list.length (y22.2.2.2.list.flatMap e_route_entry), .row 45 4 s2.2.2.2.2.2.2.2.2.2.2.2.2.2.2.2.2.2.2.2.2.2.2.2.2.length (s2.2.2.2.2.2.2.2.2.2.2.2.2.2.2.2.2.2.2.2.2.2.2.2.2.flatMap e_api_Spot), .box 45 [B x13.Addr.Six, U x13.Addr.Hi, U x13.Addr.Lo, I x13.Port], .dead, .box 45 [B y18.1.Addr.Six, U y18.1.Addr.Hi, U y18.1.Addr.Lo, I y18.1.Port]] rfl rfl rfl (st_st ⟨rfl, rfl, rfl, trivial⟩) (qte_callF [11, 5] (.tup [.agg [B y22.1.Addr.Six, U y22.1.Addr.Hi, U y22.1.Addr.Lo, I y22.1.Port], B y22.2.1, I y22.2.2.1]) [.dead, .box 64 [I y18.2.2.1.nat.Maps, I y18.2.2.1.nat.Lets, I y18.2.2.1.nat.Timeout, I y18.2.2.1.nat.First, I y18.2.2.1.nat.Ports, B y18.2.2.1.nat.Outer.Six, U y18.2.2.1.nat.Outer.Hi, U y18.2.2.1.nat.Outer.Lo, I y18.2.2.1.now, I y18.2.2.1.v_next, .sl 9 y18.2.2.1.list.length], .dead, .box 104 [.ptr 1 0, .sl 10 p.knows.length, I p.heard], .dead, .box 64 [I y22.2.2.2.nat.Maps, I y22.2.2.2.nat.Lets, I y22.2.2.2.nat.Timeout, I y22.2.2.2.nat.First, I y22.2.2.2.nat.Ports, B y22.2.2.2.nat.Outer.Six, U y22.2.2.2.nat.Outer.Hi, U y22.2.2.2.nat.Outer.Lo, I y22.2.2.2.now, I y22.2.2.2.v_next, .sl 11 y22.2.2.2.list.length], .dead, .box 104 [.ptr 5 0, .sl 12 s2.2.2.2.2.2.2.2.2.2.2.2.2.2.2.2.2.2.2.2.2.2.2.2.2.length, I s2.2.2.2.2.2.2.2.2.2.2.2.2.2.2.2.2.2.2.2.2.1], .bag y18.2.2.2, .row 86 11 y18.2.2.1.list.length (y18.2.2.1.list.flatMap e_route_entry), .row 45 4 p.knows.length (p.knows.flatMap e_api_Spot), .row 86 11 y22.2.2.2.list.length (y22.2.2.2.list.flatMap e_route_entry), .row 45 4 s2.2.2.2.2.2.2.2.2.2.2.2.2.2.2.2.2.2.2.2.2.2.2.2.2.length (s2.2.2.2.2.2.2.2.2.2.2.2.2.2.2.2.2.2.2.2.2.2.2.2.2.flatMap e_api_Spot), .box 45 [B x13.Addr.Six, U x13.Addr.Hi, U x13.Addr.Lo, I x13.Port], .dead, .box 45 [B y18.1.Addr.Six, U y18.1.Addr.Hi, U y18.1.Addr.Lo, I y18.1.Port]] (callable Try.func17 rfl rfl) (c_route_Translator_In hy22) rfl rfl rfl rfl rfl rfl rfl rfl rfl rfl) ?_
        refine go_E hΓ 4 rfl ?_
        refine ge_new hΓ 14 (i := _) rfl rfl rfl rfl ?_
        refine ge_fill hΓ 13 10 [] [B false, U 0, U 0, I 0] [.dead, .box 64 [I y18.2.2.1.nat.Maps, I y18.2.2.1.nat.Lets, I y18.2.2.1.nat.Timeout, I y18.2.2.1.nat.First, I y18.2.2.1.nat.Ports, B y18.2.2.1.nat.Outer.Six, U y18.2.2.1.nat.Outer.Hi, U y18.2.2.1.nat.Outer.Lo, I y18.2.2.1.now, I y18.2.2.1.v_next, .sl 9 y18.2.2.1.list.length], .dead, .box 104 [.ptr 1 0, .sl 10 p.knows.length, I p.heard], .dead, .box 64 [I y22.2.2.2.nat.Maps, I y22.2.2.2.nat.Lets, I y22.2.2.2.nat.Timeout, I y22.2.2.2.nat.First, I y22.2.2.2.nat.Ports, B y22.2.2.2.nat.Outer.Six, U y22.2.2.2.nat.Outer.Hi, U y22.2.2.2.nat.Outer.Lo, I y22.2.2.2.now, I y22.2.2.2.v_next, .sl 11 y22.2.2.2.list.length], .dead, .box 104 [.ptr 5 0, .sl 12 s2.2.2.2.2.2.2.2.2.2.2.2.2.2.2.2.2.2.2.2.2.2.2.2.2.length, I s2.2.2.2.2.2.2.2.2.2.2.2.2.2.2.2.2.2.2.2.2.1], .bag y18.2.2.2, .row 86 11 y18.2.2.1.list.length (y18.2.2.1.list.flatMap e_route_entry), .row 45 4 p.knows.length (p.knows.flatMap e_api_Spot), .row 86 11 y22.2.2.2.list.length (y22.2.2.2.list.flatMap e_route_entry), .row 45 4 s2.2.2.2.2.2.2.2.2.2.2.2.2.2.2.2.2.2.2.2.2.2.2.2.2.length (s2.2.2.2.2.2.2.2.2.2.2.2.2.2.2.2.2.2.2.2.2.2.2.2.2.flatMap e_api_Spot), .box 45 [B x13.Addr.Six, U x13.Addr.Hi, U x13.Addr.Lo, I x13.Port], .dead, .box 45 [B y18.1.Addr.Six, U y18.1.Addr.Hi, U y18.1.Addr.Lo, I y18.1.Port], .box 45 [B y22.1.Addr.Six, U y22.1.Addr.Hi, U y22.1.Addr.Lo, I y22.1.Port]] rfl rfl rfl (show Γ 45 = some ⟨_, _, _, _⟩ from rfl) rfl ⟨.refl _, .refl _, .refl _, .refl _, trivial⟩ rfl rfl rfl rfl (st_st ⟨rfl, rfl, rfl, trivial⟩) (qte_u (opu_store2 hΓ rfl rfl rfl rfl rfl rfl rfl rfl rfl)) ?_
        refine go_E hΓ 2 rfl ?_
        refine ge_fin ?_
        refine go hΓ 7 rfl ?_
        refine j_cond rfl (fun hb => ?_) (fun hb => ?_)
        · have h24 := cT h23 hb
          refine go hΓ 8 rfl ?_
          obtain rfl := Option.some.inj h24
          exact ⟨⟨rfl, rfl, rfl, rfl, rfl, get_eq rfl (w64_succ (by omega)), trivial⟩, [_, _, _, _], rfl, .inr ⟨HB.mk rfl, FB.mk rfl, (Nat.le_of_ble_eq_true rfl)⟩⟩
        · have h25 := cF h23 hb
          obtain ⟨q26, hq26, h27⟩ := bi_ok h25
          refine go hΓ 12 rfl ?_
          refine j_cutNZ [(0, .ptr 3 0), (1, .ptr 7 0), (2, I v_at), (8, .ptr 15 0), (16, .sl 10 p.knows.length), (17, I (p.knows.length : Int)), (18, I (i1 : Int))] [.dead, .box 64 [I y18.2.2.1.nat.Maps, I y18.2.2.1.nat.Lets, I y18.2.2.1.nat.Timeout, I y18.2.2.1.nat.First, I y18.2.2.1.nat.Ports, B y18.2.2.1.nat.Outer.Six, U y18.2.2.1.nat.Outer.Hi, U y18.2.2.1.nat.Outer.Lo, I y18.2.2.1.now, I y18.2.2.1.v_next, .sl 9 y18.2.2.1.list.length], .dead, .box 104 [.ptr 1 0, .sl 10 p.knows.length, I p.heard], .dead, .box 64 [I y22.2.2.2.nat.Maps, I y22.2.2.2.nat.Lets, I y22.2.2.2.nat.Timeout, I y22.2.2.2.nat.First, I y22.2.2.2.nat.Ports, B y22.2.2.2.nat.Outer.Six, U y22.2.2.2.nat.Outer.Hi, U y22.2.2.2.nat.Outer.Lo, I y22.2.2.2.now, I y22.2.2.2.v_next, .sl 11 y22.2.2.2.list.length], .dead, .box 104 [.ptr 5 0, .sl 12 s2.2.2.2.2.2.2.2.2.2.2.2.2.2.2.2.2.2.2.2.2.2.2.2.2.length, I q26], .bag y18.2.2.2, .row 86 11 y18.2.2.1.list.length (y18.2.2.1.list.flatMap e_route_entry), .row 45 4 p.knows.length (p.knows.flatMap e_api_Spot), .row 86 11 y22.2.2.2.list.length (y22.2.2.2.list.flatMap e_route_entry), .row 45 4 s2.2.2.2.2.2.2.2.2.2.2.2.2.2.2.2.2.2.2.2.2.2.2.2.2.length (s2.2.2.2.2.2.2.2.2.2.2.2.2.2.2.2.2.2.2.2.2.2.2.2.2.flatMap e_api_Spot), .box 45 [B x13.Addr.Six, U x13.Addr.Hi, U x13.Addr.Lo, I x13.Port], .dead, .box 45 [B y18.1.Addr.Six, U y18.1.Addr.Hi, U y18.1.Addr.Lo, I y18.1.Port], .box 45 [B y22.1.Addr.Six, U y22.1.Addr.Hi, U y22.1.Addr.Lo, I y22.1.Port]] ?_ ?_
          · refine j_cond rfl (fun hb => ?_) (fun hb => ?_)
            · have h28 := cT hq26 hb
              refine go hΓ 5 rfl ?_
              refine eo_store hΓ rfl rfl rfl rfl rfl rfl rfl rfl (Nat.le_of_ble_eq_true rfl) ?_
              refine eo_hp [.dead, .box 64 [I y18.2.2.1.nat.Maps, I y18.2.2.1.nat.Lets, I y18.2.2.1.nat.Timeout, I y18.2.2.1.nat.First, I y18.2.2.1.nat.Ports, B y18.2.2.1.nat.Outer.Six, U y18.2.2.1.nat.Outer.Hi, U y18.2.2.1.nat.Outer.Lo, I y18.2.2.1.now, I y18.2.2.1.v_next, .sl 9 y18.2.2.1.list.length], .dead, .box 104 [.ptr 1 0, .sl 10 p.knows.length, I p.heard], .dead, .box 64 [I y22.2.2.2.nat.Maps, I y22.2.2.2.nat.Lets, I y22.2.2.2.nat.Timeout, I y22.2.2.2.nat.First, I y22.2.2.2.nat.Ports, B y22.2.2.2.nat.Outer.Six, U y22.2.2.2.nat.Outer.Hi, U y22.2.2.2.nat.Outer.Lo, I y22.2.2.2.now, I y22.2.2.2.v_next, .sl 11 y22.2.2.2.list.length], .dead, .box 104 [.ptr 5 0, .sl 12 s2.2.2.2.2.2.2.2.2.2.2.2.2.2.2.2.2.2.2.2.2.2.2.2.2.length, I v_at], .bag y18.2.2.2, .row 86 11 y18.2.2.1.list.length (y18.2.2.1.list.flatMap e_route_entry), .row 45 4 p.knows.length (p.knows.flatMap e_api_Spot), .row 86 11 y22.2.2.2.list.length (y22.2.2.2.list.flatMap e_route_entry), .row 45 4 s2.2.2.2.2.2.2.2.2.2.2.2.2.2.2.2.2.2.2.2.2.2.2.2.2.length (s2.2.2.2.2.2.2.2.2.2.2.2.2.2.2.2.2.2.2.2.2.2.2.2.2.flatMap e_api_Spot), .box 45 [B x13.Addr.Six, U x13.Addr.Hi, U x13.Addr.Lo, I x13.Port], .dead, .box 45 [B y18.1.Addr.Six, U y18.1.Addr.Hi, U y18.1.Addr.Lo, I y18.1.Port], .box 45 [B y22.1.Addr.Six, U y22.1.Addr.Hi, U y22.1.Addr.Lo, I y22.1.Port]] rfl ?_
              refine go_ops hΓ 1 rfl ?_
              obtain rfl := Option.some.inj h28
              exact ⟨⟨rfl, rfl, rfl, rfl, rfl, rfl, rfl, trivial⟩, [], rfl, .inl rfl⟩
            · have h29 := cF hq26 hb
              refine go hΓ 1 rfl ?_
              obtain rfl := Option.some.inj h29
              exact ⟨⟨rfl, rfl, rfl, rfl, rfl, rfl, rfl, trivial⟩, [], rfl, .inl rfl⟩
          · refine go hΓ 2 rfl ?_
            refine j_drawE [.dead, .dead, .dead, .dead, .dead, .dead, .dead, .box 104 [.ptr 5 0, .sl 12 s2.2.2.2.2.2.2.2.2.2.2.2.2.2.2.2.2.2.2.2.2.2.2.2.2.length, I q26], .dead, .dead, .dead, .dead, .dead, .dead, .dead, .box 45 [B y18.1.Addr.Six, U y18.1.Addr.Hi, U y18.1.Addr.Lo, I y18.1.Port]] [3, 4] [5] [] hmix (by kernel_rfl) (by kernel_rfl) ⟨rfl, rfl, trivial⟩ (Nat.le_of_ble_eq_true rfl) ?_
            obtain ⟨y30, hy30, h31⟩ := bi_ok h27
            refine go_E hΓ 5 rfl ?_
            refine ge_h [.dead, .box 64 [I y18.2.2.1.nat.Maps, I y18.2.2.1.nat.Lets, I y18.2.2.1.nat.Timeout, I y18.2.2.1.nat.First, I y18.2.2.1.nat.Ports, B y18.2.2.1.nat.Outer.Six, U y18.2.2.1.nat.Outer.Hi, U y18.2.2.1.nat.Outer.Lo, I y18.2.2.1.now, I y18.2.2.1.v_next, .sl 9 y18.2.2.1.list.length], .dead, .box 104 [.ptr 1 0, .sl 10 p.knows.length, I p.heard], .dead, .box 64 [I y22.2.2.2.nat.Maps, I y22.2.2.2.nat.Lets, I y22.2.2.2.nat.Timeout, I y22.2.2.2.nat.First, I y22.2.2.2.nat.Ports, B y22.2.2.2.nat.Outer.Six, U y22.2.2.2.nat.Outer.Hi, U y22.2.2.2.nat.Outer.Lo, I y22.2.2.2.now, I y22.2.2.2.v_next, .sl 11 y22.2.2.2.list.length], .dead, .box 104 [.ptr 5 0, .sl 12 s2.2.2.2.2.2.2.2.2.2.2.2.2.2.2.2.2.2.2.2.2.2.2.2.2.length, I q26], .bag y18.2.2.2, .row 86 11 y18.2.2.1.list.length (y18.2.2.1.list.flatMap e_route_entry), .row 45 4 p.knows.length (p.knows.flatMap e_api_Spot), .row 86 11 y22.2.2.2.list.length (y22.2.2.2.list.flatMap e_route_entry), .row 45 4 s2.2.2.2.2.2.2.2.2.2.2.2.2.2.2.2.2.2.2.2.2.2.2.2.2.length (s2.2.2.2.2.2.2.2.2.2.2.2.2.2.2.2.2.2.2.2.2.2.2.2.2.flatMap e_api_Spot), .box 45 [B x13.Addr.Six, U x13.Addr.Hi, U x13.Addr.Lo, I x13.Port], .dead, .box 45 [B y18.1.Addr.Six, U y18.1.Addr.Hi, U y18.1.Addr.Lo, I y18.1.Port], .box 45 [B y22.1.Addr.Six, U y22.1.Addr.Hi, U y22.1.Addr.Lo, I y22.1.Port]] rfl rfl rfl (st_st ⟨rfl, rfl, trivial⟩) (qte_lend (callable Try.func40 rfl rfl) (c_slices_Contains_api_Spot_api_Spot hy30) rfl rfl rfl rfl rfl) ?_
            refine go_E hΓ 1 rfl ?_
            refine ge_fin ?_
            refine go hΓ 1 rfl ?_
            refine j_cond rfl (fun hb => ?_) (fun hb => ?_)
            · have h32 := cT h31 hb
              refine j_drawE [.dead, .dead, .dead, .dead, .dead, .dead, .dead, .box 104 [.ptr 5 0, .sl 12 s2.2.2.2.2.2.2.2.2.2.2.2.2.2.2.2.2.2.2.2.2.2.2.2.2.length, I q26], .dead, .dead, .dead, .dead, .dead, .dead, .dead, .box 45 [B y18.1.Addr.Six, U y18.1.Addr.Hi, U y18.1.Addr.Lo, I y18.1.Port]] [4, 5] [7, 10] [7, 10] hmix (by kernel_rfl) (by kernel_rfl) ⟨rfl, rfl, trivial⟩ (Nat.le_of_ble_eq_true rfl) ?_
              refine go_E hΓ 6 rfl ?_
              refine ge_litT hΓ (enc := e_api_Spot) [y18.1] rfl rfl rfl rfl rfl rfl rfl rfl rfl rfl rfl rfl ?_
              obtain ⟨y33, hy33, h34⟩ := bi_ok h32
              refine ge_h [.dead, .box 64 [I y18.2.2.1.nat.Maps, I y18.2.2.1.nat.Lets, I y18.2.2.1.nat.Timeout, I y18.2.2.1.nat.First, I y18.2.2.1.nat.Ports, B y18.2.2.1.nat.Outer.Six, U y18.2.2.1.nat.Outer.Hi, U y18.2.2.1.nat.Outer.Lo, I y18.2.2.1.now, I y18.2.2.1.v_next, .sl 9 y18.2.2.1.list.length], .dead, .box 104 [.ptr 1 0, .sl 10 p.knows.length, I p.heard], .dead, .box 64 [I y22.2.2.2.nat.Maps, I y22.2.2.2.nat.Lets, I y22.2.2.2.nat.Timeout, I y22.2.2.2.nat.First, I y22.2.2.2.nat.Ports, B y22.2.2.2.nat.Outer.Six, U y22.2.2.2.nat.Outer.Hi, U y22.2.2.2.nat.Outer.Lo, I y22.2.2.2.now, I y22.2.2.2.v_next, .sl 11 y22.2.2.2.list.length], .dead, .box 104 [.ptr 5 0, .junk, I q26], .bag y18.2.2.2, .row 86 11 y18.2.2.1.list.length (y18.2.2.1.list.flatMap e_route_entry), .row 45 4 p.knows.length (p.knows.flatMap e_api_Spot), .row 86 11 y22.2.2.2.list.length (y22.2.2.2.list.flatMap e_route_entry), .dead, .box 45 [B x13.Addr.Six, U x13.Addr.Hi, U x13.Addr.Lo, I x13.Port], .dead, .box 45 [B y18.1.Addr.Six, U y18.1.Addr.Hi, U y18.1.Addr.Lo, I y18.1.Port], .box 45 [B y22.1.Addr.Six, U y22.1.Addr.Hi, U y22.1.Addr.Lo, I y22.1.Port], .row 45 4 y33.length (y33.flatMap e_api_Spot)] rfl rfl rfl (brk_st rfl) (qte_s (ops_forg 12 (ops_appendT hΓ (enc := e_api_Spot) (id := 12) (h2 := show Γ 45 = some ⟨_, 4, _, _⟩ from rfl) hy33 rfl rfl rfl rfl rfl rfl rfl rfl (fun _ => rfl) rfl))) ?_
              refine go_E hΓ 2 rfl ?_
              refine ge_h0 [.dead, .box 64 [I y18.2.2.1.nat.Maps, I y18.2.2.1.nat.Lets, I y18.2.2.1.nat.Timeout, I y18.2.2.1.nat.First, I y18.2.2.1.nat.Ports, B y18.2.2.1.nat.Outer.Six, U y18.2.2.1.nat.Outer.Hi, U y18.2.2.1.nat.Outer.Lo, I y18.2.2.1.now, I y18.2.2.1.v_next, .sl 9 y18.2.2.1.list.length], .dead, .box 104 [.ptr 1 0, .sl 10 p.knows.length, I p.heard], .dead, .box 64 [I y22.2.2.2.nat.Maps, I y22.2.2.2.nat.Lets, I y22.2.2.2.nat.Timeout, I y22.2.2.2.nat.First, I y22.2.2.2.nat.Ports, B y22.2.2.2.nat.Outer.Six, U y22.2.2.2.nat.Outer.Hi, U y22.2.2.2.nat.Outer.Lo, I y22.2.2.2.now, I y22.2.2.2.v_next, .sl 11 y22.2.2.2.list.length], .dead, .box 104 [.ptr 5 0, .sl 17 y33.length, I q26], .bag y18.2.2.2, .row 86 11 y18.2.2.1.list.length (y18.2.2.1.list.flatMap e_route_entry), .row 45 4 p.knows.length (p.knows.flatMap e_api_Spot), .row 86 11 y22.2.2.2.list.length (y22.2.2.2.list.flatMap e_route_entry), .dead, .box 45 [B x13.Addr.Six, U x13.Addr.Hi, U x13.Addr.Lo, I x13.Port], .dead, .box 45 [B y18.1.Addr.Six, U y18.1.Addr.Hi, U y18.1.Addr.Lo, I y18.1.Port], .box 45 [B y22.1.Addr.Six, U y22.1.Addr.Hi, U y22.1.Addr.Lo, I y22.1.Port], .row 45 4 y33.length (y33.flatMap e_api_Spot)] rfl rfl (brk_st rfl) (qte_u (opu_store2 hΓ rfl rfl rfl rfl rfl rfl rfl rfl rfl)) ?_
              refine ge_fin ?_
              refine go hΓ 2 rfl ?_
              refine j_move 17 12 [.dead, .box 64 [I y18.2.2.1.nat.Maps, I y18.2.2.1.nat.Lets, I y18.2.2.1.nat.Timeout, I y18.2.2.1.nat.First, I y18.2.2.1.nat.Ports, B y18.2.2.1.nat.Outer.Six, U y18.2.2.1.nat.Outer.Hi, U y18.2.2.1.nat.Outer.Lo, I y18.2.2.1.now, I y18.2.2.1.v_next, .sl 9 y18.2.2.1.list.length], .dead, .box 104 [.ptr 1 0, .sl 10 p.knows.length, I p.heard], .dead, .box 64 [I y22.2.2.2.nat.Maps, I y22.2.2.2.nat.Lets, I y22.2.2.2.nat.Timeout, I y22.2.2.2.nat.First, I y22.2.2.2.nat.Ports, B y22.2.2.2.nat.Outer.Six, U y22.2.2.2.nat.Outer.Hi, U y22.2.2.2.nat.Outer.Lo, I y22.2.2.2.now, I y22.2.2.2.v_next, .sl 11 y22.2.2.2.list.length], .dead, .box 104 [.ptr 5 0, .sl 12 y33.length, I q26], .bag y18.2.2.2, .row 86 11 y18.2.2.1.list.length (y18.2.2.1.list.flatMap e_route_entry), .row 45 4 p.knows.length (p.knows.flatMap e_api_Spot), .row 86 11 y22.2.2.2.list.length (y22.2.2.2.list.flatMap e_route_entry), .row 45 4 y33.length (y33.flatMap e_api_Spot), .box 45 [B x13.Addr.Six, U x13.Addr.Hi, U x13.Addr.Lo, I x13.Port], .dead, .box 45 [B y18.1.Addr.Six, U y18.1.Addr.Hi, U y18.1.Addr.Lo, I y18.1.Port], .box 45 [B y22.1.Addr.Six, U y22.1.Addr.Hi, U y22.1.Addr.Lo, I y22.1.Port], .dead] rfl rfl rfl rfl rfl rfl ?_
              refine go hΓ 4 rfl ?_
              obtain rfl := Option.some.inj h34
              exact ⟨⟨rfl, rfl, rfl, rfl, rfl, get_eq rfl (w64_succ (by omega)), trivial⟩, [_, _, _, _, _], rfl, .inr ⟨HB.mk rfl, FB.mk rfl, (Nat.le_of_ble_eq_true rfl)⟩⟩
            · have h35 := cF h31 hb
              refine go hΓ 7 rfl ?_
              obtain rfl := Option.some.inj h35
              exact ⟨⟨rfl, rfl, rfl, rfl, rfl, get_eq rfl (w64_succ (by omega)), trivial⟩, [_, _, _, _], rfl, .inr ⟨HB.mk rfl, FB.mk rfl, (Nat.le_of_ble_eq_true rfl)⟩⟩
    · refine go hΓ 6 rfl ?_
      refine j_condF rfl (decide_eq_false hge) ?_
      refine go hΓ 4 rfl ?_
      exact ⟨trivial, [], rfl, .inl rfl⟩
  · refine cv_here ?_
    obtain rfl := Option.some.inj h5
    exact fin_objs hΓ [] (.inl rfl) rfl rfl rfl rfl (.inl rfl)
end Go.Proofs.Ytnjnmkpgedkffaa
