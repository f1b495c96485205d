/-
  The functions compute their models.
-/
import Derived.Test.YtffmljbfffojlaaGreatDoorXAM
import Derived.Test.YtffmljbfffojlaaGreatDoorGt
import Derived.Test.YtffmljbfffojlaaGreatDoorStr
import Derived.Test.YtffmljbfffojlaaGreatDoorStr4
import Derived.Test.YtffmljbfffojlaaGreatDoorStr5
import Derived.Test.YtffmljbfffojlaaGreatDoorStr6
set_option linter.unusedVariables false
set_option linter.unusedSimpArgs false
set_option maxRecDepth 100000
namespace Go.Proofs.YtffmljbfffojlaaGreatDoor
open Go.Gk
abbrev e_lanemake_Stream (x : T_lanemake_Stream) : List D := [Sl (eN .i64) x.L, .v (.int .i64 x.v_at)]
abbrev e_api_Addr (x : T_api_Addr) : List D := [.v (.bool x.Six), .v (.int .u64 x.Hi), .v (.int .u64 x.Lo)]
theorem c_lanemake_Below {x : Int} {n : Int} {r : Int} (h : m_lanemake_Below x n = some r) : Pure Tryz.prog 57 [I x, I n] (I r) := by
  refine Pure.enter (Fr.of 0 _) Tryz.func57 rfl (Fr.of_ok _) rfl rfl ?_
  refine go_in ?_
  unfold m_lanemake_Below at h
  refine go hΓ 12 rfl ?_
  refine j_cond rfl (fun hb => ?_) (fun hb => ?_)
  · have h1 := cT h hb
    refine go hΓ 7 rfl ?_
    obtain rfl := Option.some.inj h1
    exact fin_pure hΓ (.inr rfl) rfl rfl
  · have h2 := cF h hb
    obtain ⟨y3, hy3, h4⟩ := bi_ok h2
    refine go hΓ 6 rfl ?_
    refine eo_o rfl (op_remZ hy3 rfl rfl) ?_
    obtain ⟨q5, hq5, h6⟩ := bi_ok h4
    refine go_ops hΓ 10 rfl ?_
    refine j_cutNZ [(0, I q5)] [] ?_ ?_
    · refine j_cond rfl (fun hb => ?_) (fun hb => ?_)
      · have h7 := cT hq5 hb
        refine go hΓ 6 rfl ?_
        obtain rfl := Option.some.inj h7
        exact ⟨⟨rfl, trivial⟩, [], rfl, .inl rfl⟩
      · have h8 := cF hq5 hb
        refine go hΓ 1 rfl ?_
        obtain rfl := Option.some.inj h8
        exact ⟨⟨rfl, trivial⟩, [], rfl, .inl rfl⟩
    · refine go hΓ 8 rfl ?_
      obtain rfl := Option.some.inj h6
      exact fin_pure hΓ (.inr rfl) rfl rfl
theorem c_lanemake_Stream_Next {s : T_lanemake_Stream} {n : Int} {r : Int × T_lanemake_Stream} (h : m_lanemake_Stream_Next s n = some r) : EC Tryz.prog 24 [.ptr 0 0, I n] [.box 25 [.d (Sl (eN .i64) s.L), I s.v_at]] fun g hp' => g = I r.1 ∧ hp' = [.box 25 [.d (Sl (eN .i64) r.2.L), I r.2.v_at]] := by
  refine ec_enter (Fr.of 0 _) Tryz.func24 rfl (Fr.of_ok _) (Nat.le_of_ble_eq_true rfl) fun _ => ?_
  refine go_in ?_
  unfold m_lanemake_Stream_Next at h
  refine go hΓ 14 rfl ?_
  refine eo_store hΓ rfl rfl rfl rfl rfl rfl rfl rfl (Nat.le_of_ble_eq_true rfl) ?_
  refine eo_hp [.box 25 [.d (Sl (eN .i64) s.L), I (wi (s.v_at + 1))]] rfl ?_
  refine go_ops hΓ 13 rfl ?_
  refine j_cond rfl (fun hb => ?_) (fun hb => ?_)
  · have h1 := cT h hb
    obtain ⟨y2, hy2, h3⟩ := bi_ok h1
    refine go hΓ 8 rfl ?_
    refine eo_callP (callable Tryz.func57 rfl rfl) (c_lanemake_Below hy2) rfl (Nat.le_of_ble_eq_true rfl) rfl rfl rfl rfl rfl ?_
    refine go_ops hΓ 5 rfl ?_
    obtain rfl := Option.some.inj h3
    exact fin_objs hΓ [] (.inr rfl) rfl rfl rfl rfl (.inl rfl)
  · have h4 := cF h hb
    refine go hΓ 3 rfl ?_
    refine j_draw hmix (by kernel_rfl) ?_
    obtain ⟨y5, hy5, h6⟩ := bi_ok h4
    refine go hΓ 10 rfl ?_
    refine gl_o rfl (op_remZ hy5 rfl rfl) ?_
    refine go_draw hΓ 4 rfl ?_
    refine j_draw hmix (by kernel_rfl) ?_
    obtain ⟨y7, hy7, h8⟩ := bi_ok h6
    refine go hΓ 10 rfl ?_
    refine gl_o rfl (op_quoZ hy7 rfl rfl) ?_
    obtain ⟨x9, hx9, h10⟩ := bi_ok h8
    refine go_draw hΓ 10 rfl ?_
    refine eo_o rfl (op_elemZ hΓ (enc := (eN .i64)) hx9 rfl rfl rfl rfl rfl (fun _ => rfl)) ?_
    obtain ⟨y11, hy11, h12⟩ := bi_ok h10
    refine go_ops hΓ 1 rfl ?_
    refine eo_callP (callable Tryz.func57 rfl rfl) (c_lanemake_Below hy11) rfl (Nat.le_of_ble_eq_true rfl) rfl rfl rfl rfl rfl ?_
    obtain ⟨y13, hy13, h14⟩ := bi_ok h12
    refine go_ops hΓ 6 rfl ?_
    refine eo_callP (callable Tryz.func57 rfl rfl) (c_lanemake_Below hy13) rfl (Nat.le_of_ble_eq_true rfl) rfl rfl rfl rfl rfl ?_
    refine go_ops hΓ 4 rfl ?_
    obtain rfl := Option.some.inj h14
    exact fin_objs hΓ [] (.inr rfl) rfl rfl rfl rfl (.inl rfl)
theorem c_lanemake_Stream_Range {s : T_lanemake_Stream} {low : Int} {high : Int} {r : Int × T_lanemake_Stream} (h : m_lanemake_Stream_Range s low high = some r) : EC Tryz.prog 28 [.ptr 0 0, I low, I high] [.box 25 [.d (Sl (eN .i64) s.L), I s.v_at]] fun g hp' => g = I r.1 ∧ hp' = [.box 25 [.d (Sl (eN .i64) r.2.L), I r.2.v_at]] := by
  refine ec_enter (Fr.of 0 _) Tryz.func28 rfl (Fr.of_ok _) (Nat.le_of_ble_eq_true rfl) fun _ => ?_
  refine go_in ?_
  unfold m_lanemake_Stream_Range at h
  refine go hΓ 13 rfl ?_
  refine j_cond rfl (fun hb => ?_) (fun hb => ?_)
  · have h1 := cT h hb
    refine go hΓ 8 rfl ?_
    obtain rfl := Option.some.inj h1
    exact fin_objs hΓ [] (.inr rfl) rfl rfl rfl rfl (.inl rfl)
  · have h2 := cF h hb
    obtain ⟨y3, hy3, h4⟩ := bi_ok h2
    refine go hΓ 10 rfl ?_
    refine eo_callF [0] (I y3.1) [.box 25 [.d (Sl (eN .i64) y3.2.L), I y3.2.v_at]] (callable Tryz.func24 rfl rfl) (c_lanemake_Stream_Next hy3) rfl (Nat.le_of_ble_eq_true rfl) rfl rfl rfl rfl rfl rfl rfl rfl rfl rfl ?_
    refine go_ops hΓ 5 rfl ?_
    obtain rfl := Option.some.inj h4
    exact fin_objs hΓ [] (.inr rfl) rfl rfl rfl rfl (.inl rfl)
set_option maxHeartbeats 8000000 in
theorem c_lanemake_Stream_Addr {s : T_lanemake_Stream} {r : T_api_Addr × T_lanemake_Stream} (h : m_lanemake_Stream_Addr s = some r) : EC Tryz.prog 9 [.ptr 0 0] [.box 25 [.d (Sl (eN .i64) s.L), I s.v_at]] fun g hp' => g = .agg [B r.1.Six, U r.1.Hi, U r.1.Lo] ∧ hp' = [.box 25 [.d (Sl (eN .i64) r.2.L), I r.2.v_at]] := by
  refine ec_enter (Fr.of 0 _) Tryz.func9 rfl (Fr.of_ok _) (Nat.le_of_ble_eq_true rfl) fun _ => ?_
  refine go_in ?_
  unfold m_lanemake_Stream_Addr at h
  refine go hΓ 2 rfl ?_
  refine eo_alloc hΓ rfl rfl rfl (Nat.le_of_ble_eq_true rfl) ?_
  obtain ⟨y1, hy1, h2⟩ := bi_ok h
  refine go_ops hΓ 6 rfl ?_
  refine eo_callF [0] (I y1.1) [.box 25 [.d (Sl (eN .i64) y1.2.L), I y1.2.v_at], .box 28 [B false, U 0, U 0]] (callable Tryz.func24 rfl rfl) (c_lanemake_Stream_Next hy1) rfl (Nat.le_of_ble_eq_true rfl) rfl rfl rfl rfl rfl rfl rfl rfl rfl rfl ?_
  refine go_ops hΓ 9 rfl ?_
  refine j_cond rfl (fun hb => ?_) (fun hb => ?_)
  · have h3 := cT h2 hb
    refine go hΓ 1 rfl ?_
    refine j_drawE [] [] [2, 7, 11] [] hmix (by kernel_rfl) (by kernel_rfl) trivial (Nat.le_of_ble_eq_true rfl) ?_
    refine ge_litT hΓ (enc := (eN .u64)) [0, 18230571291595767808, 2306139568115548160, 9223372036854775808, 18446744073709551615] rfl rfl rfl rfl rfl rfl rfl rfl rfl rfl rfl rfl ?_
    obtain ⟨y4, hy4, h5⟩ := bi_ok h3
    refine go_E hΓ 1 rfl ?_
    refine ge_h [.box 25 [.d (Sl (eN .i64) y4.2.L), I y4.2.v_at], .box 28 [B false, U 0, U 0]] rfl rfl rfl (st_st trivial) (qte_callF [0] (I y4.1) [.box 25 [.d (Sl (eN .i64) y4.2.L), I y4.2.v_at], .box 28 [B false, U 0, U 0]] (callable Tryz.func24 rfl rfl) (c_lanemake_Stream_Next hy4) rfl rfl rfl rfl rfl rfl rfl rfl rfl rfl) ?_
    obtain ⟨x6, hx6, h7⟩ := bi_ok h5
    refine ge_q rfl (.inl rfl) (fun _ _ => qte_of_qt (qt_p (op_elemZ hΓ (enc := (eN .u64)) hx6 rfl rfl rfl rfl rfl (fun _ => rfl)))) ?_
    refine go_E hΓ 1 rfl ?_
    refine ge_litT hΓ (enc := (eN .u64)) [0, 1, 2, 4294967296, 18446744073709551615] rfl rfl rfl rfl rfl rfl rfl rfl rfl rfl rfl rfl ?_
    obtain ⟨y8, hy8, h9⟩ := bi_ok h7
    refine go_E hΓ 1 rfl ?_
    refine ge_h [.box 25 [.d (Sl (eN .i64) y8.2.L), I y8.2.v_at], .box 28 [B false, U 0, U 0]] rfl rfl rfl (st_st trivial) (qte_callF [0] (I y8.1) [.box 25 [.d (Sl (eN .i64) y8.2.L), I y8.2.v_at], .box 28 [B false, U 0, U 0]] (callable Tryz.func24 rfl rfl) (c_lanemake_Stream_Next hy8) rfl rfl rfl rfl rfl rfl rfl rfl rfl rfl) ?_
    obtain ⟨x10, hx10, h11⟩ := bi_ok h9
    refine ge_q rfl (.inl rfl) (fun _ _ => qte_of_qt (qt_p (op_elemZ hΓ (enc := (eN .u64)) hx10 rfl rfl rfl rfl rfl (fun _ => rfl)))) ?_
    refine go_E hΓ 1 rfl ?_
    refine ge_q rfl (.inl rfl) (fun _ _ => qte_of_qt (qt_p (op_build hΓ (gs := [B true, U x6, U x10]) rfl rfl rfl rfl rfl rfl))) ?_
    refine ge_h0 [.box 25 [.d (Sl (eN .i64) y8.2.L), I y8.2.v_at], .box 28 [B true, U x6, U x10]] rfl rfl (st_st trivial) (qte_u (opu_store2 hΓ rfl rfl rfl rfl rfl rfl rfl rfl rfl)) ?_
    refine ge_fin ?_
    refine go hΓ 4 rfl ?_
    obtain rfl := Option.some.inj h11
    exact fin_objs hΓ [_] (.inr rfl) rfl rfl rfl rfl (.inr ⟨HB.mk rfl, rfl⟩)
  · have h12 := cF h2 hb
    refine go hΓ 6 rfl ?_
    refine j_cond rfl (fun hb => ?_) (fun hb => ?_)
    · have h13 := cT h12 hb
      refine go hΓ 2 rfl ?_
      refine eo_litT hΓ (enc := (eN .u64)) [0, 1, 4294967295, 2130706433, 3232235521] rfl rfl rfl rfl rfl rfl rfl rfl rfl rfl rfl rfl (Nat.le_of_ble_eq_true rfl) ?_
      obtain ⟨y14, hy14, h15⟩ := bi_ok h13
      refine go_ops hΓ 1 rfl ?_
      refine eo_callF [0] (I y14.1) [.box 25 [.d (Sl (eN .i64) y14.2.L), I y14.2.v_at], .box 28 [B false, U 0, U 0]] (callable Tryz.func24 rfl rfl) (c_lanemake_Stream_Next hy14) rfl (Nat.le_of_ble_eq_true rfl) rfl rfl rfl rfl rfl rfl rfl rfl rfl rfl ?_
      obtain ⟨x16, hx16, h17⟩ := bi_ok h15
      refine eo_o rfl (op_elemZ hΓ (enc := (eN .u64)) hx16 rfl rfl rfl rfl rfl (fun _ => rfl)) ?_
      refine go_ops hΓ 1 rfl ?_
      refine eo_build hΓ (gs := [B false, U 0, U x16]) rfl rfl rfl rfl rfl rfl rfl ?_
      refine eo_store hΓ rfl rfl rfl rfl rfl rfl rfl rfl (Nat.le_of_ble_eq_true rfl) ?_
      refine eo_hp [.box 25 [.d (Sl (eN .i64) y14.2.L), I y14.2.v_at], .box 28 [B false, U 0, U x16]] rfl ?_
      refine go_ops hΓ 5 rfl ?_
      obtain rfl := Option.some.inj h17
      exact fin_objs hΓ [_] (.inr rfl) rfl rfl rfl rfl (.inr ⟨HB.mk rfl, rfl⟩)
    · have h18 := cF h12 hb
      refine go hΓ 6 rfl ?_
      refine j_cond rfl (fun hb => ?_) (fun hb => ?_)
      · have h19 := cT h18 hb
        obtain ⟨y20, hy20, h21⟩ := bi_ok h19
        refine go hΓ 3 rfl ?_
        refine eo_callF [0] (I y20.1) [.box 25 [.d (Sl (eN .i64) y20.2.L), I y20.2.v_at], .box 28 [B false, U 0, U 0]] (callable Tryz.func28 rfl rfl) (c_lanemake_Stream_Range hy20) rfl (Nat.le_of_ble_eq_true rfl) rfl rfl rfl rfl rfl rfl rfl rfl rfl rfl ?_
        obtain ⟨y22, hy22, h23⟩ := bi_ok h21
        refine go_ops hΓ 2 rfl ?_
        refine eo_o rfl (op_remZ hy22 rfl rfl) ?_
        refine eo_build hΓ (gs := [B false, U 0, U y22]) rfl rfl rfl rfl rfl rfl rfl ?_
        refine eo_store hΓ rfl rfl rfl rfl rfl rfl rfl rfl (Nat.le_of_ble_eq_true rfl) ?_
        refine eo_hp [.box 25 [.d (Sl (eN .i64) y20.2.L), I y20.2.v_at], .box 28 [B false, U 0, U y22]] rfl ?_
        refine go_ops hΓ 5 rfl ?_
        obtain rfl := Option.some.inj h23
        exact fin_objs hΓ [_] (.inr rfl) rfl rfl rfl rfl (.inr ⟨HB.mk rfl, rfl⟩)
      · have h24 := cF h18 hb
        obtain ⟨y25, hy25, h26⟩ := bi_ok h24
        refine go hΓ 6 rfl ?_
        refine eo_callF [0] (I y25.1) [.box 25 [.d (Sl (eN .i64) y25.2.L), I y25.2.v_at], .box 28 [B false, U 0, U 0]] (callable Tryz.func28 rfl rfl) (c_lanemake_Stream_Range hy25) rfl (Nat.le_of_ble_eq_true rfl) rfl rfl rfl rfl rfl rfl rfl rfl rfl rfl ?_
        refine go_ops hΓ 2 rfl ?_
        refine eo_build hΓ (gs := [B false, U 0, U (IntKind.u64.wrap (167772160 + (IntKind.u64.wrap (y25.1))))]) rfl rfl rfl rfl rfl rfl rfl ?_
        refine eo_store hΓ rfl rfl rfl rfl rfl rfl rfl rfl (Nat.le_of_ble_eq_true rfl) ?_
        refine eo_hp [.box 25 [.d (Sl (eN .i64) y25.2.L), I y25.2.v_at], .box 28 [B false, U 0, U (IntKind.u64.wrap (167772160 + (IntKind.u64.wrap (y25.1))))]] rfl ?_
        refine go_ops hΓ 3 rfl ?_
        obtain rfl := Option.some.inj h26
        exact fin_objs hΓ [_] (.inr rfl) rfl rfl rfl rfl (.inr ⟨HB.mk rfl, rfl⟩)
theorem c_lanemake_Stream_Flip {s : T_lanemake_Stream} {n : Int} {r : Bool × T_lanemake_Stream} (h : m_lanemake_Stream_Flip s n = some r) : EC Tryz.prog 10 [.ptr 0 0, I n] [.box 25 [.d (Sl (eN .i64) s.L), I s.v_at]] fun g hp' => g = B r.1 ∧ hp' = [.box 25 [.d (Sl (eN .i64) r.2.L), I r.2.v_at]] := by
  refine ec_enter (Fr.of 0 _) Tryz.func10 rfl (Fr.of_ok _) (Nat.le_of_ble_eq_true rfl) fun _ => ?_
  refine go_in ?_
  unfold m_lanemake_Stream_Flip at h
  obtain ⟨y1, hy1, h2⟩ := bi_ok h
  refine go hΓ 9 rfl ?_
  refine eo_callF [0] (I y1.1) [.box 25 [.d (Sl (eN .i64) y1.2.L), I y1.2.v_at]] (callable Tryz.func24 rfl rfl) (c_lanemake_Stream_Next hy1) rfl (Nat.le_of_ble_eq_true rfl) rfl rfl rfl rfl rfl rfl rfl rfl rfl rfl ?_
  refine go_ops hΓ 5 rfl ?_
  obtain rfl := Option.some.inj h2
  exact fin_objs hΓ [] (.inr rfl) rfl rfl rfl rfl (.inl rfl)
theorem c_lanemake_Stream_Raw {s : T_lanemake_Stream} {r : T_api_Addr × T_lanemake_Stream} (h : m_lanemake_Stream_Raw s = some r) : EC Tryz.prog 5 [.ptr 0 0] [.box 25 [.d (Sl (eN .i64) s.L), I s.v_at]] fun g hp' => g = .agg [B r.1.Six, U r.1.Hi, U r.1.Lo] ∧ hp' = [.box 25 [.d (Sl (eN .i64) r.2.L), I r.2.v_at]] := by
  refine ec_enter (Fr.of 0 _) Tryz.func5 rfl (Fr.of_ok _) (Nat.le_of_ble_eq_true rfl) fun _ => ?_
  refine go_in ?_
  unfold m_lanemake_Stream_Raw at h
  refine go hΓ 2 rfl ?_
  refine eo_alloc hΓ rfl rfl rfl (Nat.le_of_ble_eq_true rfl) ?_
  obtain ⟨y1, hy1, h2⟩ := bi_ok h
  refine go_ops hΓ 5 rfl ?_
  refine eo_callF [0] (.agg [B y1.1.Six, U y1.1.Hi, U y1.1.Lo]) [.box 25 [.d (Sl (eN .i64) y1.2.L), I y1.2.v_at], .box 28 [B false, U 0, U 0]] (callable Tryz.func9 rfl rfl) (c_lanemake_Stream_Addr hy1) rfl (Nat.le_of_ble_eq_true rfl) rfl rfl rfl rfl rfl rfl rfl rfl rfl rfl ?_
  refine eo_alloc hΓ rfl rfl rfl (Nat.le_of_ble_eq_true rfl) ?_
  refine eo_store hΓ rfl rfl rfl rfl rfl rfl rfl rfl (Nat.le_of_ble_eq_true rfl) ?_
  refine eo_hp [.box 25 [.d (Sl (eN .i64) y1.2.L), I y1.2.v_at], .box 28 [B false, U 0, U 0], .box 28 [B y1.1.Six, U y1.1.Hi, U y1.1.Lo]] rfl ?_
  obtain ⟨y3, hy3, h4⟩ := bi_ok h2
  refine go_ops hΓ 6 rfl ?_
  refine eo_callF [0] (B y3.1) [.box 25 [.d (Sl (eN .i64) y3.2.L), I y3.2.v_at], .box 28 [B false, U 0, U 0], .box 28 [B y1.1.Six, U y1.1.Hi, U y1.1.Lo]] (callable Tryz.func10 rfl rfl) (c_lanemake_Stream_Flip hy3) rfl (Nat.le_of_ble_eq_true rfl) rfl rfl rfl rfl rfl rfl rfl rfl rfl rfl ?_
  refine go_ops hΓ 2 rfl ?_
  refine j_cond rfl (fun hb => ?_) (fun hb => ?_)
  · have h5 := cT h4 hb
    obtain ⟨y6, hy6, h7⟩ := bi_ok h5
    refine go hΓ 3 rfl ?_
    refine eo_callF [0] (I y6.1) [.box 25 [.d (Sl (eN .i64) y6.2.L), I y6.2.v_at], .box 28 [B false, U 0, U 0], .box 28 [B y1.1.Six, U y1.1.Hi, U y1.1.Lo]] (callable Tryz.func24 rfl rfl) (c_lanemake_Stream_Next hy6) rfl (Nat.le_of_ble_eq_true rfl) rfl rfl rfl rfl rfl rfl rfl rfl rfl rfl ?_
    refine go_ops hΓ 1 rfl ?_
    refine eo_litT hΓ (enc := (eN .u64)) [4294967296, 5, 1099511627776] rfl rfl rfl rfl rfl rfl rfl rfl rfl rfl rfl rfl (Nat.le_of_ble_eq_true rfl) ?_
    obtain ⟨y8, hy8, h9⟩ := bi_ok h7
    refine go_ops hΓ 1 rfl ?_
    refine eo_callF [0] (I y8.1) [.box 25 [.d (Sl (eN .i64) y8.2.L), I y8.2.v_at], .box 28 [B false, U 0, U 0], .box 28 [B y1.1.Six, U y1.1.Hi, U y1.1.Lo]] (callable Tryz.func24 rfl rfl) (c_lanemake_Stream_Next hy8) rfl (Nat.le_of_ble_eq_true rfl) rfl rfl rfl rfl rfl rfl rfl rfl rfl rfl ?_
    obtain ⟨x10, hx10, h11⟩ := bi_ok h9
    refine eo_o rfl (op_elemZ hΓ (enc := (eN .u64)) hx10 rfl rfl rfl rfl rfl (fun _ => rfl)) ?_
    refine go_ops hΓ 1 rfl ?_
    refine eo_build hΓ (gs := [B false, U (IntKind.u64.wrap (y6.1)), U x10]) rfl rfl rfl rfl rfl rfl rfl ?_
    refine eo_store hΓ rfl rfl rfl rfl rfl rfl rfl rfl (Nat.le_of_ble_eq_true rfl) ?_
    refine eo_hp [.box 25 [.d (Sl (eN .i64) y8.2.L), I y8.2.v_at], .box 28 [B false, U (IntKind.u64.wrap (y6.1)), U x10], .box 28 [B y1.1.Six, U y1.1.Hi, U y1.1.Lo]] rfl ?_
    refine go_ops hΓ 4 rfl ?_
    obtain rfl := Option.some.inj h11
    exact fin_objs hΓ [_, _] (.inr rfl) rfl rfl rfl rfl (.inr ⟨HB.mk rfl, rfl⟩)
  · have h12 := cF h4 hb
    refine go hΓ 5 rfl ?_
    refine eo_store hΓ rfl rfl rfl rfl rfl rfl rfl rfl (Nat.le_of_ble_eq_true rfl) ?_
    refine eo_hp [.box 25 [.d (Sl (eN .i64) y3.2.L), I y3.2.v_at], .box 28 [B y1.1.Six, U y1.1.Hi, U y1.1.Lo], .box 28 [B y1.1.Six, U y1.1.Hi, U y1.1.Lo]] rfl ?_
    refine go_ops hΓ 3 rfl ?_
    obtain rfl := Option.some.inj h12
    exact fin_objs hΓ [_, _] (.inr rfl) rfl rfl rfl rfl (.inr ⟨HB.mk rfl, rfl⟩)
theorem c_addr_CheckAddr {a : T_api_Addr} {r : Int} (h : m_addr_CheckAddr a = some r) : Pure Tryz.prog 25 [.agg [B a.Six, U a.Hi, U a.Lo]] (I r) := by
  refine Pure.enter (Fr.of 0 _) Tryz.func25 rfl (Fr.of_ok _) rfl rfl ?_
  refine go_in ?_
  unfold m_addr_CheckAddr at h
  refine go hΓ 2 rfl ?_
  refine eo_box rfl rfl rfl rfl (Nat.le_of_ble_eq_true rfl) ?_
  refine go_ops hΓ 10 rfl ?_
  refine o_cut 9 [(15, B ((!a.Six) && (((a.Hi : Int) != 0) || (decide ((a.Lo : Int) ≥ 4294967296)))))] [.box 28 [B a.Six, U a.Hi, U a.Lo]] ?_ ?_
  · refine eo_gsplit rfl rfl (fun hb => ?_) (fun hb => ?_)
    · refine go_ops hΓ 4 rfl ?_
      refine o_cut 4 [(6, B true), (14, B (((a.Hi : Int) != 0) || (decide ((a.Lo : Int) ≥ 4294967296))))] [.box 28 [B a.Six, U a.Hi, U a.Lo]] ?_ ?_
      · refine eo_gsplit rfl rfl (fun hb => ?_) (fun hb => ?_)
        · refine go_ops hΓ 5 rfl ?_
          exact ⟨⟨rfl, get_b rfl (or_t hb), trivial⟩, [], rfl, .inl rfl⟩
        · refine go_ops hΓ 5 rfl ?_
          exact ⟨⟨rfl, get_b rfl (or_f hb), trivial⟩, [], rfl, .inl rfl⟩
      · refine go_ops hΓ 2 rfl ?_
        exact ⟨⟨get_b rfl (and_t hb), trivial⟩, [], rfl, .inl rfl⟩
    · refine go_ops hΓ 10 rfl ?_
      exact ⟨⟨get_b rfl (and_f hb), trivial⟩, [], rfl, .inl rfl⟩
  · refine go_ops hΓ 2 rfl ?_
    refine j_cond rfl (fun hb => ?_) (fun hb => ?_)
    · have h1 := cT h hb
      refine go hΓ 7 rfl ?_
      obtain rfl := Option.some.inj h1
      exact fin_pure hΓ (.inr rfl) rfl rfl
    · have h2 := cF h hb
      refine go hΓ 8 rfl ?_
      obtain rfl := Option.some.inj h2
      exact fin_pure hΓ (.inr rfl) rfl rfl
set_option maxHeartbeats 8000000 in
theorem c_name_back {k : Nat} {a : T_api_Addr} {r : Str} (h : m_name_back k a = some r) : Pure Tryz.prog 26 [.agg [B a.Six, U a.Hi, U a.Lo]] (S r) := by
  refine Pure.enter (Fr.of 0 _) Tryz.func26 rfl (Fr.of_ok _) rfl rfl ?_
  refine go_in ?_
  unfold m_name_back at h
  refine go hΓ 2 rfl ?_
  refine eo_box rfl rfl rfl rfl (Nat.le_of_ble_eq_true rfl) ?_
  refine go_ops hΓ 5 rfl ?_
  refine eo_nilOwn (t := 0) 9 1 rfl (Nat.le_of_ble_eq_true rfl) ?_
  refine go_ops hΓ 10 rfl ?_
  refine j_cond rfl (fun hb => ?_) (fun hb => ?_)
  · have h1 := cT h hb
    refine go hΓ 6 rfl ?_
    obtain ⟨q5, hq5, h6⟩ := bi_ok h1
    refine j_cutNZ [(3, .sl 1 q5.length)] [.box 28 [B a.Six, U a.Hi, U a.Lo], .row 9 1 q5.length (q5.flatMap eS)] ?_ ?_
    · refine go hΓ 1 rfl ?_
      refine j_loop hq5 (fun s3 => [(1, .ptr 0 0), (3, .sl 1 s3.1.length), (11, I s3.2)]) (fun s3 => [.box 28 [B a.Six, U a.Hi, U a.Lo], .row 9 1 s3.1.length (s3.1.flatMap eS)]) ⟨⟨rfl, rfl, rfl, trivial⟩, [], rfl, .inl rfl⟩ (fun s3 y11 hy9 hout10 => ?_)
      refine go hΓ 6 rfl ?_
      refine j_cond rfl (fun hb => ?_) (fun hb => ?_)
      · have h12 := cT hy9 hb
        obtain ⟨y13, hy13, h14⟩ := bi_ok h12
        refine go hΓ 16 rfl ?_
        refine eo_o rfl (op_shrZ hy13 rfl rfl) ?_
        obtain ⟨y15, hy15, h16⟩ := bi_ok h14
        refine go_ops hΓ 1 rfl ?_
        refine eo_callP (callable Tryz.func58 rfl rfl) (c_strconv_FormatUint hy15) rfl (Nat.le_of_ble_eq_true rfl) rfl rfl rfl rfl rfl ?_
        refine eo_litT hΓ (enc := eS) [y15] rfl rfl rfl rfl rfl rfl rfl rfl rfl rfl rfl rfl (Nat.le_of_ble_eq_true rfl) ?_
        obtain ⟨y17, hy17, h18⟩ := bi_ok h16
        refine eo_appendT hΓ (enc := eS) hy17 rfl rfl rfl rfl rfl rfl rfl rfl rfl (fun _ => rfl) rfl rfl rfl rfl ?_
        refine go_ops hΓ 8 rfl ?_
        obtain rfl := Option.some.inj h18
        exact ⟨_, rfl, ⟨⟨rfl, rfl, rfl, trivial⟩, [], rfl, .inl rfl⟩⟩
      · have h19 := cF hy9 hb
        refine go hΓ 4 rfl ?_
        obtain rfl := Option.some.inj h19
        obtain rfl := hout10 _ rfl
        exact ⟨⟨rfl, trivial⟩, [], rfl, .inl rfl⟩
    · obtain ⟨y20, hy20, h21⟩ := bi_ok h6
      refine go hΓ 4 rfl ?_
      refine eo_callL (callable Tryz.func59 rfl rfl) (c_strings_Join hy20) rfl (Nat.le_of_ble_eq_true rfl) rfl rfl rfl rfl rfl ?_
      obtain ⟨y22, hy22, h23⟩ := bi_ok h21
      refine eo_o rfl (op_catZ hy22 rfl rfl) ?_
      refine go_ops hΓ 5 rfl ?_
      obtain rfl := Option.some.inj h23
      exact fin_pure hΓ (.inr rfl) rfl rfl
  · have h24 := cF h hb
    refine go hΓ 9 rfl ?_
    refine eo_o rfl (op_buildA hΓ (gs := [U a.Lo, U a.Hi]) rfl rfl rfl rfl rfl rfl) ?_
    refine go_ops hΓ 3 rfl ?_
    obtain ⟨q28, hq28, h29⟩ := bi_ok h24
    refine j_cutNZ [(3, .sl 1 q28.length)] [.box 28 [B a.Six, U a.Hi, U a.Lo], .row 9 1 q28.length (q28.flatMap eS)] ?_ ?_
    · refine go hΓ 1 rfl ?_
      refine j_loop hq28 (fun s26 => [(3, .sl 1 s26.1.length), (32, .agg [U a.Lo, U a.Hi]), (33, I s26.2)]) (fun s26 => [.box 28 [B a.Six, U a.Hi, U a.Lo], .row 9 1 s26.1.length (s26.1.flatMap eS)]) ⟨⟨rfl, rfl, rfl, trivial⟩, [], rfl, .inl rfl⟩ (fun s26 y34 hy32 hout33 => ?_)
      refine go hΓ 6 rfl ?_
      refine j_cond rfl (fun hb => ?_) (fun hb => ?_)
      · have h35 := cT hy32 hb
        obtain ⟨x36, hx36, h37⟩ := bi_ok h35
        refine go hΓ 6 rfl ?_
        refine eo_o rfl (op_indexArrZ hΓ (enc := (eN .u64)) [a.Lo, a.Hi] hx36 rfl rfl rfl rfl rfl rfl rfl (fun _ => rfl) rfl) ?_
        refine go_ops hΓ 8 rfl ?_
        obtain ⟨q41, hq41, h42⟩ := bi_ok h37
        refine j_cutNZ [(3, .sl 1 q41.length), (32, .agg [U a.Lo, U a.Hi]), (33, I s26.2)] [.box 28 [B a.Six, U a.Hi, U a.Lo], .row 9 1 q41.length (q41.flatMap eS)] ?_ ?_
        · refine go hΓ 1 rfl ?_
          refine j_loop hq41 (fun s39 => [(3, .sl 1 s39.1.length), (6, U x36), (32, .agg [U a.Lo, U a.Hi]), (33, I s26.2), (36, I s39.2)]) (fun s39 => [.box 28 [B a.Six, U a.Hi, U a.Lo], .row 9 1 s39.1.length (s39.1.flatMap eS)]) ⟨⟨rfl, rfl, rfl, rfl, rfl, trivial⟩, [], rfl, .inl rfl⟩ (fun s39 y47 hy45 hout46 => ?_)
          refine go hΓ 6 rfl ?_
          refine j_cond rfl (fun hb => ?_) (fun hb => ?_)
          · have h48 := cT hy45 hb
            obtain ⟨y49, hy49, h50⟩ := bi_ok h48
            refine go hΓ 15 rfl ?_
            refine eo_o rfl (op_shrZ hy49 rfl rfl) ?_
            obtain ⟨y51, hy51, h52⟩ := bi_ok h50
            refine go_ops hΓ 1 rfl ?_
            refine eo_callP (callable Tryz.func58 rfl rfl) (c_strconv_FormatUint hy51) rfl (Nat.le_of_ble_eq_true rfl) rfl rfl rfl rfl rfl ?_
            refine eo_litT hΓ (enc := eS) [y51] rfl rfl rfl rfl rfl rfl rfl rfl rfl rfl rfl rfl (Nat.le_of_ble_eq_true rfl) ?_
            obtain ⟨y53, hy53, h54⟩ := bi_ok h52
            refine eo_appendT hΓ (enc := eS) hy53 rfl rfl rfl rfl rfl rfl rfl rfl rfl (fun _ => rfl) rfl rfl rfl rfl ?_
            refine go_ops hΓ 8 rfl ?_
            obtain rfl := Option.some.inj h54
            exact ⟨_, rfl, ⟨⟨rfl, rfl, rfl, rfl, rfl, trivial⟩, [], rfl, .inl rfl⟩⟩
          · have h55 := cF hy45 hb
            refine go hΓ 4 rfl ?_
            obtain rfl := Option.some.inj h55
            obtain rfl := hout46 _ rfl
            exact ⟨⟨rfl, rfl, rfl, trivial⟩, [], rfl, .inl rfl⟩
        · refine go hΓ 6 rfl ?_
          obtain rfl := Option.some.inj h42
          exact ⟨_, rfl, ⟨⟨rfl, rfl, rfl, trivial⟩, [], rfl, .inl rfl⟩⟩
      · have h56 := cF hy32 hb
        refine go hΓ 4 rfl ?_
        obtain rfl := Option.some.inj h56
        obtain rfl := hout33 _ rfl
        exact ⟨⟨rfl, trivial⟩, [], rfl, .inl rfl⟩
    · obtain ⟨y57, hy57, h58⟩ := bi_ok h29
      refine go hΓ 4 rfl ?_
      refine eo_callL (callable Tryz.func59 rfl rfl) (c_strings_Join hy57) rfl (Nat.le_of_ble_eq_true rfl) rfl rfl rfl rfl rfl ?_
      obtain ⟨y59, hy59, h60⟩ := bi_ok h58
      refine eo_o rfl (op_catZ hy59 rfl rfl) ?_
      refine go_ops hΓ 4 rfl ?_
      obtain rfl := Option.some.inj h60
      exact fin_pure hΓ (.inr rfl) rfl rfl
theorem c_name_Back {k : Nat} {a : T_api_Addr} {r : Str × Int} (h : m_name_Back k a = some r) : Pure Tryz.prog 6 [.agg [B a.Six, U a.Hi, U a.Lo]] (.tup [S r.1, I r.2]) := by
  refine Pure.enter (Fr.of 0 _) Tryz.func6 rfl (Fr.of_ok _) rfl rfl ?_
  refine go_in ?_
  unfold m_name_Back at h
  refine go hΓ 2 rfl ?_
  refine eo_box rfl rfl rfl rfl (Nat.le_of_ble_eq_true rfl) ?_
  obtain ⟨y1, hy1, h2⟩ := bi_ok h
  refine go_ops hΓ 8 rfl ?_
  refine eo_callP (callable Tryz.func25 rfl rfl) (c_addr_CheckAddr hy1) rfl (Nat.le_of_ble_eq_true rfl) rfl rfl rfl rfl rfl ?_
  refine go_ops hΓ 9 rfl ?_
  refine j_cond rfl (fun hb => ?_) (fun hb => ?_)
  · have h3 := cT h2 hb
    refine go hΓ 9 rfl ?_
    obtain rfl := Option.some.inj h3
    exact fin_pure hΓ (.inr rfl) rfl rfl
  · have h4 := cF h2 hb
    obtain ⟨y5, hy5, h6⟩ := bi_ok h4
    refine go hΓ 5 rfl ?_
    refine eo_callP (callable Tryz.func26 rfl rfl) (c_name_back hy5) rfl (Nat.le_of_ble_eq_true rfl) rfl rfl rfl rfl rfl ?_
    refine go_ops hΓ 5 rfl ?_
    obtain rfl := Option.some.inj h6
    exact fin_pure hΓ (.inr rfl) rfl rfl
theorem c_laneref2_AddrFault {a : T_api_Addr} {r : Int} (h : m_laneref2_AddrFault a = some r) : Pure Tryz.prog 7 [.agg [B a.Six, U a.Hi, U a.Lo]] (I r) := by
  refine Pure.enter (Fr.of 0 _) Tryz.func7 rfl (Fr.of_ok _) rfl rfl ?_
  refine go_in ?_
  unfold m_laneref2_AddrFault at h
  refine go hΓ 2 rfl ?_
  refine eo_box rfl rfl rfl rfl (Nat.le_of_ble_eq_true rfl) ?_
  refine go_ops hΓ 10 rfl ?_
  refine o_cut 9 [(15, B ((!a.Six) && ((decide ((a.Hi : Int) > 0)) || (decide ((a.Lo : Int) > 4294967295)))))] [.box 28 [B a.Six, U a.Hi, U a.Lo]] ?_ ?_
  · refine eo_gsplit rfl rfl (fun hb => ?_) (fun hb => ?_)
    · refine go_ops hΓ 4 rfl ?_
      refine o_cut 4 [(6, B true), (14, B ((decide ((a.Hi : Int) > 0)) || (decide ((a.Lo : Int) > 4294967295))))] [.box 28 [B a.Six, U a.Hi, U a.Lo]] ?_ ?_
      · refine eo_gsplit rfl rfl (fun hb => ?_) (fun hb => ?_)
        · refine go_ops hΓ 5 rfl ?_
          exact ⟨⟨rfl, get_b rfl (or_t hb), trivial⟩, [], rfl, .inl rfl⟩
        · refine go_ops hΓ 5 rfl ?_
          exact ⟨⟨rfl, get_b rfl (or_f hb), trivial⟩, [], rfl, .inl rfl⟩
      · refine go_ops hΓ 2 rfl ?_
        exact ⟨⟨get_b rfl (and_t hb), trivial⟩, [], rfl, .inl rfl⟩
    · refine go_ops hΓ 10 rfl ?_
      exact ⟨⟨get_b rfl (and_f hb), trivial⟩, [], rfl, .inl rfl⟩
  · refine go_ops hΓ 2 rfl ?_
    refine j_cond rfl (fun hb => ?_) (fun hb => ?_)
    · have h1 := cT h hb
      refine go hΓ 7 rfl ?_
      obtain rfl := Option.some.inj h1
      exact fin_pure hΓ (.inr rfl) rfl rfl
    · have h2 := cF h hb
      refine go hΓ 8 rfl ?_
      obtain rfl := Option.some.inj h2
      exact fin_pure hΓ (.inr rfl) rfl rfl
set_option maxHeartbeats 8000000 in
theorem c_laneref1_BackName {k : Nat} {a : T_api_Addr} {r : Str} (h : m_laneref1_BackName k a = some r) : Pure Tryz.prog 8 [.agg [B a.Six, U a.Hi, U a.Lo]] (S r) := by
  refine Pure.enter (Fr.of 0 _) Tryz.func8 rfl (Fr.of_ok _) rfl rfl ?_
  refine go_in ?_
  unfold m_laneref1_BackName at h
  refine go hΓ 2 rfl ?_
  refine eo_box rfl rfl rfl rfl (Nat.le_of_ble_eq_true rfl) ?_
  refine go_ops hΓ 16 rfl ?_
  refine j_cond rfl (fun hb => ?_) (fun hb => ?_)
  · have h1 := cT h hb
    refine go hΓ 6 rfl ?_
    obtain ⟨q5, hq5, h6⟩ := bi_ok h1
    refine j_cutNZ [(3, S q5)] [.box 28 [B a.Six, U a.Hi, U a.Lo]] ?_ ?_
    · refine go hΓ 1 rfl ?_
      refine j_loop hq5 (fun s3 => [(1, .ptr 0 0), (3, S s3.1), (11, I s3.2)]) (fun s3 => [.box 28 [B a.Six, U a.Hi, U a.Lo]]) ⟨⟨rfl, rfl, rfl, trivial⟩, [], rfl, .inl rfl⟩ (fun s3 y11 hy9 hout10 => ?_)
      refine go hΓ 6 rfl ?_
      refine j_cond rfl (fun hb => ?_) (fun hb => ?_)
      · have h12 := cT hy9 hb
        obtain ⟨y13, hy13, h14⟩ := bi_ok h12
        refine go hΓ 16 rfl ?_
        refine eo_o rfl (op_shrZ hy13 rfl rfl) ?_
        obtain ⟨y15, hy15, h16⟩ := bi_ok h14
        refine go_ops hΓ 2 rfl ?_
        refine eo_callP (callable Tryz.func27 rfl rfl) (c_strconv_Itoa hy15) rfl (Nat.le_of_ble_eq_true rfl) rfl rfl rfl rfl rfl ?_
        obtain ⟨y17, hy17, h18⟩ := bi_ok h16
        refine eo_o rfl (op_catZ hy17 rfl rfl) ?_
        obtain ⟨y19, hy19, h20⟩ := bi_ok h18
        refine eo_o rfl (op_catZ hy19 rfl rfl) ?_
        refine go_ops hΓ 8 rfl ?_
        obtain rfl := Option.some.inj h20
        exact ⟨_, rfl, ⟨⟨rfl, rfl, rfl, trivial⟩, [], rfl, .inl rfl⟩⟩
      · have h21 := cF hy9 hb
        refine go hΓ 4 rfl ?_
        obtain rfl := Option.some.inj h21
        obtain rfl := hout10 _ rfl
        exact ⟨⟨rfl, trivial⟩, [], rfl, .inl rfl⟩
    · obtain ⟨y22, hy22, h23⟩ := bi_ok h6
      refine go hΓ 4 rfl ?_
      refine eo_o rfl (op_catZ hy22 rfl rfl) ?_
      refine go_ops hΓ 5 rfl ?_
      obtain rfl := Option.some.inj h23
      exact fin_pure hΓ (.inr rfl) rfl rfl
  · have h24 := cF h hb
    refine go hΓ 9 rfl ?_
    refine eo_litT hΓ (enc := (eN .u64)) [a.Lo, a.Hi] rfl rfl rfl rfl rfl rfl rfl rfl rfl rfl rfl rfl (Nat.le_of_ble_eq_true rfl) ?_
    refine go_ops hΓ 4 rfl ?_
    obtain ⟨q28, hq28, h29⟩ := bi_ok h24
    refine j_bound 32 rfl fun hb31 => ?_
    refine j_cutNZ [(3, S q28)] [.box 28 [B a.Six, U a.Hi, U a.Lo]] ?_ ?_
    · refine go hΓ 1 rfl ?_
      refine j_rangeF [a.Lo, a.Hi] hq28 (fun i25 s26 => [(3, S s26), (32, .d (Sl (eN .u64) [a.Lo, a.Hi])), (33, I ([a.Lo, a.Hi].length : Int)), (34, I (i25 : Int))]) (fun s26 => [.box 28 [B a.Six, U a.Hi, U a.Lo]]) ⟨⟨rfl, rfl, rfl, rfl, trivial⟩, [], rfl, .inl rfl⟩ (fun i25 x27 s26 y35 hx32 hlt hy33 => ?_) (?_)
      · refine go hΓ 6 rfl ?_
        refine j_condT rfl (decide_eq_true (Int.ofNat_lt.2 hlt)) ?_
        refine go hΓ 6 rfl ?_
        refine eo_o rfl (op_elemZ hΓ (enc := (eN .u64)) (getZ_nat hx32) rfl rfl rfl rfl rfl (fun _ => rfl)) ?_
        refine go_ops hΓ 9 rfl ?_
        obtain ⟨q39, hq39, h40⟩ := bi_ok hy33
        refine j_cutNZ [(3, S q39), (32, .d (Sl (eN .u64) [a.Lo, a.Hi])), (33, I ([a.Lo, a.Hi].length : Int)), (34, I (i25 : Int))] [.box 28 [B a.Six, U a.Hi, U a.Lo]] ?_ ?_
        · refine go hΓ 1 rfl ?_
          refine j_loop hq39 (fun s37 => [(3, S s37.1), (6, U x27), (32, .d (Sl (eN .u64) [a.Lo, a.Hi])), (33, I ([a.Lo, a.Hi].length : Int)), (34, I (i25 : Int)), (38, I s37.2)]) (fun s37 => [.box 28 [B a.Six, U a.Hi, U a.Lo]]) ⟨⟨rfl, rfl, rfl, rfl, rfl, rfl, trivial⟩, [], rfl, .inl rfl⟩ (fun s37 y45 hy43 hout44 => ?_)
          refine go hΓ 6 rfl ?_
          refine j_cond rfl (fun hb => ?_) (fun hb => ?_)
          · have h46 := cT hy43 hb
            obtain ⟨y47, hy47, h48⟩ := bi_ok h46
            refine go hΓ 15 rfl ?_
            refine eo_o rfl (op_shrZ hy47 rfl rfl) ?_
            obtain ⟨c49, hc49, h50⟩ := bi_ok h48
            refine go_ops hΓ 1 rfl ?_
            refine eo_o rfl (op_byteZ hΓ hc49 rfl rfl rfl rfl) ?_
            refine eo_o rfl (op_runeS hΓ rfl rfl rfl rfl rfl) ?_
            obtain ⟨y51, hy51, h52⟩ := bi_ok h50
            refine eo_o rfl (op_catZ hy51 rfl rfl) ?_
            obtain ⟨y53, hy53, h54⟩ := bi_ok h52
            refine eo_o rfl (op_catZ hy53 rfl rfl) ?_
            refine go_ops hΓ 8 rfl ?_
            obtain rfl := Option.some.inj h54
            exact ⟨_, rfl, ⟨⟨rfl, rfl, rfl, rfl, rfl, rfl, trivial⟩, [], rfl, .inl rfl⟩⟩
          · have h55 := cF hy43 hb
            refine go hΓ 4 rfl ?_
            obtain rfl := Option.some.inj h55
            obtain rfl := hout44 _ rfl
            exact ⟨⟨rfl, rfl, rfl, rfl, trivial⟩, [], rfl, .inl rfl⟩
        · refine go hΓ 6 rfl ?_
          obtain rfl := Option.some.inj h40
          exact ⟨⟨rfl, rfl, rfl, get_eq rfl (w64_succ (Nat.lt_of_lt_of_le hlt hb31)), trivial⟩, [], rfl, .inl rfl⟩
      · refine go hΓ 6 rfl ?_
        refine j_condF rfl (decide_eq_false (Int.lt_irrefl _)) ?_
        refine go hΓ 4 rfl ?_
        exact ⟨⟨rfl, trivial⟩, [], rfl, .inl rfl⟩
    · obtain ⟨y56, hy56, h57⟩ := bi_ok h29
      refine go hΓ 4 rfl ?_
      refine eo_o rfl (op_catZ hy56 rfl rfl) ?_
      refine go_ops hΓ 4 rfl ?_
      obtain rfl := Option.some.inj h57
      exact fin_pure hΓ (.inr rfl) rfl rfl
set_option maxHeartbeats 8000000 in
theorem c_lanemake_Stream_Changed {s : T_lanemake_Stream} {t : Str} {v_with : Str} {r : Str × T_lanemake_Stream} (h : m_lanemake_Stream_Changed s t v_with = some r) : EC Tryz.prog 11 [.ptr 0 0, S t, S v_with] [.box 25 [.d (Sl (eN .i64) s.L), I s.v_at]] fun g hp' => g = S r.1 ∧ hp' = [.box 25 [.d (Sl (eN .i64) r.2.L), I r.2.v_at]] := by
  refine ec_enter (Fr.of 0 _) Tryz.func11 rfl (Fr.of_ok _) (Nat.le_of_ble_eq_true rfl) fun _ => ?_
  refine go_in ?_
  unfold m_lanemake_Stream_Changed at h
  refine go hΓ 11 rfl ?_
  refine o_cut 3 [(0, .ptr 0 0), (1, S t), (2, S v_with), (14, B (((t : Str) == []) || ((v_with : Str) == [])))] [.box 25 [.d (Sl (eN .i64) s.L), I s.v_at]] ?_ ?_
  · refine eo_gsplit rfl rfl (fun hb => ?_) (fun hb => ?_)
    · refine go_ops hΓ 4 rfl ?_
      exact ⟨⟨rfl, rfl, rfl, get_b rfl (or_t hb), trivial⟩, [], rfl, .inl rfl⟩
    · refine go_ops hΓ 4 rfl ?_
      exact ⟨⟨rfl, rfl, rfl, get_b rfl (or_f hb), trivial⟩, [], rfl, .inl rfl⟩
  · refine go_ops hΓ 2 rfl ?_
    refine j_cond rfl (fun hb => ?_) (fun hb => ?_)
    · have h1 := cT h hb
      refine go hΓ 8 rfl ?_
      obtain rfl := Option.some.inj h1
      exact fin_objs hΓ [] (.inr rfl) rfl rfl rfl rfl (.inl rfl)
    · have h2 := cF h hb
      obtain ⟨y3, hy3, h4⟩ := bi_ok h2
      refine go hΓ 7 rfl ?_
      refine eo_callF [0] (I y3.1) [.box 25 [.d (Sl (eN .i64) y3.2.L), I y3.2.v_at]] (callable Tryz.func24 rfl rfl) (c_lanemake_Stream_Next hy3) rfl (Nat.le_of_ble_eq_true rfl) rfl rfl rfl rfl rfl rfl rfl rfl rfl rfl ?_
      obtain ⟨y5, hy5, h6⟩ := bi_ok h4
      refine go_ops hΓ 9 rfl ?_
      refine eo_callF [0] (I y5.1) [.box 25 [.d (Sl (eN .i64) y5.2.L), I y5.2.v_at]] (callable Tryz.func24 rfl rfl) (c_lanemake_Stream_Next hy5) rfl (Nat.le_of_ble_eq_true rfl) rfl rfl rfl rfl rfl rfl rfl rfl rfl rfl ?_
      obtain ⟨c7, hc7, h8⟩ := bi_ok h6
      refine eo_o rfl (op_byteZ hΓ hc7 rfl rfl rfl rfl) ?_
      obtain ⟨y9, hy9, h10⟩ := bi_ok h8
      refine go_ops hΓ 7 rfl ?_
      refine eo_callF [0] (I y9.1) [.box 25 [.d (Sl (eN .i64) y9.2.L), I y9.2.v_at]] (callable Tryz.func24 rfl rfl) (c_lanemake_Stream_Next hy9) rfl (Nat.le_of_ble_eq_true rfl) rfl rfl rfl rfl rfl rfl rfl rfl rfl rfl ?_
      refine go_ops hΓ 9 rfl ?_
      refine j_cond rfl (fun hb => ?_) (fun hb => ?_)
      · have h11 := cT h10 hb
        refine go hΓ 1 rfl ?_
        refine j_draw hmix (by kernel_rfl) ?_
        obtain ⟨z12, hz12, h13⟩ := bi_ok h11
        refine go hΓ 2 rfl ?_
        refine gl_o rfl (op_subZ hΓ hz12 rfl rfl rfl rfl rfl) ?_
        refine go_draw hΓ 2 rfl ?_
        refine gl_o rfl (op_runeS hΓ rfl rfl rfl rfl rfl) ?_
        obtain ⟨y14, hy14, h15⟩ := bi_ok h13
        refine gl_o rfl (op_catZ hy14 rfl rfl) ?_
        obtain ⟨z16, hz16, h17⟩ := bi_ok h15
        refine go_draw hΓ 3 rfl ?_
        refine gl_o rfl (op_subZ hΓ hz16 rfl rfl rfl rfl rfl) ?_
        obtain ⟨y18, hy18, h19⟩ := bi_ok h17
        refine gl_o rfl (op_catZ hy18 rfl rfl) ?_
        refine go_draw hΓ 6 rfl ?_
        obtain rfl := Option.some.inj h19
        exact fin_objs hΓ [] (.inr rfl) rfl rfl rfl rfl (.inl rfl)
      · have h20 := cF h10 hb
        refine go hΓ 6 rfl ?_
        refine j_cond rfl (fun hb => ?_) (fun hb => ?_)
        · have h21 := cT h20 hb
          refine go hΓ 1 rfl ?_
          refine j_draw hmix (by kernel_rfl) ?_
          obtain ⟨z22, hz22, h23⟩ := bi_ok h21
          refine go hΓ 2 rfl ?_
          refine gl_o rfl (op_subZ hΓ hz22 rfl rfl rfl rfl rfl) ?_
          refine go_draw hΓ 2 rfl ?_
          refine gl_o rfl (op_runeS hΓ rfl rfl rfl rfl rfl) ?_
          obtain ⟨y24, hy24, h25⟩ := bi_ok h23
          refine gl_o rfl (op_catZ hy24 rfl rfl) ?_
          obtain ⟨z26, hz26, h27⟩ := bi_ok h25
          refine go_draw hΓ 2 rfl ?_
          refine gl_o rfl (op_subZ hΓ hz26 rfl rfl rfl rfl rfl) ?_
          obtain ⟨y28, hy28, h29⟩ := bi_ok h27
          refine gl_o rfl (op_catZ hy28 rfl rfl) ?_
          refine go_draw hΓ 6 rfl ?_
          obtain rfl := Option.some.inj h29
          exact fin_objs hΓ [] (.inr rfl) rfl rfl rfl rfl (.inl rfl)
        · have h30 := cF h20 hb
          refine go hΓ 4 rfl ?_
          refine j_draw hmix (by kernel_rfl) ?_
          obtain ⟨z31, hz31, h32⟩ := bi_ok h30
          refine go hΓ 2 rfl ?_
          refine gl_o rfl (op_subZ hΓ hz31 rfl rfl rfl rfl rfl) ?_
          obtain ⟨z33, hz33, h34⟩ := bi_ok h32
          refine go_draw hΓ 3 rfl ?_
          refine gl_o rfl (op_subZ hΓ hz33 rfl rfl rfl rfl rfl) ?_
          obtain ⟨y35, hy35, h36⟩ := bi_ok h34
          refine gl_o rfl (op_catZ hy35 rfl rfl) ?_
          refine go_draw hΓ 4 rfl ?_
          obtain rfl := Option.some.inj h36
          exact fin_objs hΓ [] (.inr rfl) rfl rfl rfl rfl (.inl rfl)
theorem c_name_isLetter {c : Int} {r : Bool} (h : m_name_isLetter c = some r) : Pure Tryz.prog 68 [.d (.v (.int .u8 c))] (B r) := by
  refine Pure.enter (Fr.of 0 _) Tryz.func68 rfl (Fr.of_ok _) rfl rfl ?_
  refine go_in ?_
  unfold m_name_isLetter at h
  refine go hΓ 10 rfl ?_
  refine o_cut 3 [(0, .d (.v (.int .u8 c))), (2, B false), (8, B ((decide ((c : Int) ≥ 97)) && (decide ((c : Int) ≤ 122))))] [] ?_ ?_
  · refine eo_gsplit rfl rfl (fun hb => ?_) (fun hb => ?_)
    · refine go_ops hΓ 4 rfl ?_
      exact ⟨⟨rfl, rfl, get_b rfl (and_t hb), trivial⟩, [], rfl, .inl rfl⟩
    · refine go_ops hΓ 4 rfl ?_
      exact ⟨⟨rfl, rfl, get_b rfl (and_f hb), trivial⟩, [], rfl, .inl rfl⟩
  · refine go_ops hΓ 1 rfl ?_
    refine o_cut 7 [(2, B false), (16, B (((decide ((c : Int) ≥ 97)) && (decide ((c : Int) ≤ 122))) || ((decide ((c : Int) ≥ 48)) && (decide ((c : Int) ≤ 57)))))] [] ?_ ?_
    · refine eo_gsplit rfl rfl (fun hb => ?_) (fun hb => ?_)
      · refine go_ops hΓ 8 rfl ?_
        exact ⟨⟨rfl, get_b rfl (or_t hb), trivial⟩, [], rfl, .inl rfl⟩
      · refine go_ops hΓ 3 rfl ?_
        refine o_cut 3 [(2, B false), (9, B false), (15, B ((decide ((c : Int) ≥ 48)) && (decide ((c : Int) ≤ 57))))] [] ?_ ?_
        · refine eo_gsplit rfl rfl (fun hb => ?_) (fun hb => ?_)
          · refine go_ops hΓ 4 rfl ?_
            exact ⟨⟨rfl, rfl, get_b rfl (and_t hb), trivial⟩, [], rfl, .inl rfl⟩
          · refine go_ops hΓ 4 rfl ?_
            exact ⟨⟨rfl, rfl, get_b rfl (and_f hb), trivial⟩, [], rfl, .inl rfl⟩
        · refine go_ops hΓ 2 rfl ?_
          exact ⟨⟨rfl, get_b rfl (or_f hb), trivial⟩, [], rfl, .inl rfl⟩
    · refine go_ops hΓ 4 rfl ?_
      obtain rfl := Option.some.inj h
      exact fin_pure hΓ (.inr rfl) rfl rfl
theorem c_name_isLabel {k : Nat} {s : Str} {r : Bool} (h : m_name_isLabel k s = some r) : Pure Tryz.prog 61 [S s] (B r) := by
  induction k generalizing s r with
  | zero => unfold m_name_isLabel at h; cases h
  | succ k ih0 =>
    have ih : ∀ {s : Str} {r : Bool}, m_name_isLabel k s = some r → Pure Tryz.prog 61 [S s] (B r) := by intro s r h; first | exact ih0 h | exact ih0 _ _ h
    refine Pure.enter (Fr.of 0 _) Tryz.func61 rfl (Fr.of_ok _) rfl rfl ?_
    refine go_in ?_
    unfold m_name_isLabel at h
    obtain ⟨y1, hy1, h2⟩ := bi_ok h
    refine go hΓ 9 rfl ?_
    refine eo_callP (callable Tryz.func94 rfl rfl) (c_strings_CutPrefix hy1) rfl (Nat.le_of_ble_eq_true rfl) rfl rfl rfl rfl rfl ?_
    refine go_ops hΓ 12 rfl ?_
    refine j_cond rfl (fun hb => ?_) (fun hb => ?_)
    · have h3 := cT h2 hb
      obtain ⟨y4, hy4, h5⟩ := bi_ok h3
      refine go hΓ 3 rfl ?_
      refine eo_callP (callable Tryz.func95 rfl rfl) (c_strings_HasPrefix hy4) rfl (Nat.le_of_ble_eq_true rfl) rfl rfl rfl rfl rfl ?_
      refine go_ops hΓ 2 rfl ?_
      obtain ⟨q6, hq6, h7⟩ := bi_ok h5
      refine o_cut 3 [(0, S s), (2, B false), (18, B q6)] [] ?_ ?_
      · refine eo_gsplit rfl rfl (fun hb => ?_) (fun hb => ?_)
        · have h8 := cT hq6 hb
          obtain ⟨y9, hy9, h10⟩ := bi_ok h8
          refine go_ops hΓ 1 rfl ?_
          refine eo_guard rfl ?_
          refine eo_callP (callable Tryz.func61 rfl rfl) (ih hy9) rfl (Nat.le_of_ble_eq_true rfl) rfl rfl rfl rfl rfl ?_
          refine go_ops hΓ 2 rfl ?_
          obtain rfl := Option.some.inj h10
          exact ⟨⟨rfl, rfl, rfl, trivial⟩, [], rfl, .inl rfl⟩
        · have h11 := cF hq6 hb
          refine go_ops hΓ 4 rfl ?_
          obtain rfl := Option.some.inj h11
          exact ⟨⟨rfl, rfl, rfl, trivial⟩, [], rfl, .inl rfl⟩
      · refine go_ops hΓ 1 rfl ?_
        refine o_cut 4 [(2, B false), (23, B (q6 && (decide (((s.length : Int) : Int) ≤ 63))))] [] ?_ ?_
        · refine eo_gsplit rfl rfl (fun hb => ?_) (fun hb => ?_)
          · refine go_ops hΓ 5 rfl ?_
            exact ⟨⟨rfl, get_b rfl (and_t hb), trivial⟩, [], rfl, .inl rfl⟩
          · refine go_ops hΓ 5 rfl ?_
            exact ⟨⟨rfl, get_b rfl (and_f hb), trivial⟩, [], rfl, .inl rfl⟩
        · refine go_ops hΓ 5 rfl ?_
          obtain rfl := Option.some.inj h7
          exact fin_pure hΓ (.inr rfl) rfl rfl
    · have h12 := cF h2 hb
      refine go hΓ 10 rfl ?_
      obtain ⟨q16, hq16, h17⟩ := bi_ok h12
      obtain ⟨hb19, h20⟩ := gd_ok hq16
      replace hb19 := of_decide_eq_true hb19
      refine j_cutEZ (R := fun a18 => q16 = .go a18) (fun a18 => [(0, S s)]) (fun a18 => []) ?_ ?_
      · refine go hΓ 1 rfl ?_
        refine j_rangeI h20 (fun i13 s14 => [(0, S s), (25, I (s.length : Int)), (26, I (i13 : Int))]) (fun s14 => []) ⟨⟨rfl, rfl, rfl, trivial⟩, [], rfl, .inl rfl⟩ (fun i13 s14 y24 hlt hy22 hout23 => ?_) (fun s14 hgo hge => ?_)
        · refine go hΓ 6 rfl ?_
          refine j_condT rfl (decide_eq_true hlt) ?_
          obtain ⟨c25, hc25, h26⟩ := bi_ok hy22
          refine go hΓ 14 rfl ?_
          refine eo_o rfl (op_byteZ hΓ hc25 rfl rfl rfl rfl) ?_
          obtain ⟨y27, hy27, h28⟩ := bi_ok h26
          refine eo_callP (callable Tryz.func68 rfl rfl) (c_name_isLetter hy27) rfl (Nat.le_of_ble_eq_true rfl) rfl rfl rfl rfl rfl ?_
          refine go_ops hΓ 2 rfl ?_
          obtain ⟨q29, hq29, h30⟩ := bi_ok h28
          refine o_cut 5 [(0, S s), (25, I (s.length : Int)), (26, I (i13 : Int)), (39, B q29)] [] ?_ ?_
          · refine eo_gsplit rfl rfl (fun hb => ?_) (fun hb => ?_)
            · have h31 := cT hq29 hb
              obtain ⟨c32, hc32, h33⟩ := bi_ok h31
              refine go_ops hΓ 2 rfl ?_
              refine eo_guard rfl ?_
              refine eo_o rfl (op_byteZ hΓ hc32 rfl rfl rfl rfl) ?_
              refine go_ops hΓ 3 rfl ?_
              obtain rfl := Option.some.inj h33
              exact ⟨⟨rfl, rfl, rfl, rfl, trivial⟩, [], rfl, .inl rfl⟩
            · have h34 := cF hq29 hb
              refine go_ops hΓ 6 rfl ?_
              obtain rfl := Option.some.inj h34
              exact ⟨⟨rfl, rfl, rfl, rfl, trivial⟩, [], rfl, .inl rfl⟩
          · refine go_ops hΓ 2 rfl ?_
            refine j_cond rfl (fun hb => ?_) (fun hb => ?_)
            · have h35 := cT h30 hb
              refine go hΓ 8 rfl ?_
              obtain ⟨v36, hv36, h37⟩ := bi_ok h35
              obtain rfl := Option.some.inj h37
              obtain rfl := hout23 _ rfl
              obtain rfl := Option.some.inj h17
              refine go hΓ 4 rfl ?_
              obtain rfl := Option.some.inj hv36
              exact fin_pure hΓ (.inr rfl) rfl rfl
            · have h38 := cF h30 hb
              refine go hΓ 7 rfl ?_
              obtain rfl := Option.some.inj h38
              exact ⟨_, rfl, ⟨⟨rfl, rfl, get_eq rfl (w64_succ (by omega)), trivial⟩, [], rfl, .inl rfl⟩⟩
        · subst hgo
          refine go hΓ 6 rfl ?_
          refine j_condF rfl (decide_eq_false hge) ?_
          refine go hΓ 4 rfl ?_
          exact ⟨_, rfl, ⟨⟨rfl, trivial⟩, [], rfl, .inl rfl⟩⟩
      · intro a18 ha
        subst ha
        replace h17 := goI_l h17
        refine go hΓ 6 rfl ?_
        refine o_cut 4 [(0, S s), (47, B ((!((s : Str) == [])) && (decide (((s.length : Int) : Int) ≤ 63))))] [] ?_ ?_
        · refine eo_gsplit rfl rfl (fun hb => ?_) (fun hb => ?_)
          · refine go_ops hΓ 5 rfl ?_
            exact ⟨⟨rfl, get_b rfl (and_t hb), trivial⟩, [], rfl, .inl rfl⟩
          · refine go_ops hΓ 5 rfl ?_
            exact ⟨⟨rfl, get_b rfl (and_f hb), trivial⟩, [], rfl, .inl rfl⟩
        · refine go_ops hΓ 1 rfl ?_
          obtain ⟨q39, hq39, h40⟩ := bi_ok h17
          refine o_cut 4 [(0, S s), (52, B q39)] [] ?_ ?_
          · refine eo_gsplit rfl rfl (fun hb => ?_) (fun hb => ?_)
            · have h41 := cT hq39 hb
              obtain ⟨c42, hc42, h43⟩ := bi_ok h41
              refine go_ops hΓ 1 rfl ?_
              refine eo_guard rfl ?_
              refine eo_o rfl (op_byteZ hΓ hc42 rfl rfl rfl rfl) ?_
              refine go_ops hΓ 3 rfl ?_
              obtain rfl := Option.some.inj h43
              exact ⟨⟨rfl, rfl, trivial⟩, [], rfl, .inl rfl⟩
            · have h44 := cF hq39 hb
              refine go_ops hΓ 5 rfl ?_
              obtain rfl := Option.some.inj h44
              exact ⟨⟨rfl, rfl, trivial⟩, [], rfl, .inl rfl⟩
          · refine go_ops hΓ 1 rfl ?_
            obtain ⟨q45, hq45, h46⟩ := bi_ok h40
            refine o_cut 7 [(60, B q45)] [] ?_ ?_
            · refine eo_gsplit rfl rfl (fun hb => ?_) (fun hb => ?_)
              · have h47 := cT hq45 hb
                obtain ⟨c48, hc48, h49⟩ := bi_ok h47
                refine go_ops hΓ 4 rfl ?_
                refine eo_guard rfl ?_
                refine eo_o rfl (op_byteZ hΓ hc48 rfl rfl rfl rfl) ?_
                refine go_ops hΓ 3 rfl ?_
                obtain rfl := Option.some.inj h49
                exact ⟨⟨rfl, trivial⟩, [], rfl, .inl rfl⟩
              · have h50 := cF hq45 hb
                refine go_ops hΓ 8 rfl ?_
                obtain rfl := Option.some.inj h50
                exact ⟨⟨rfl, trivial⟩, [], rfl, .inl rfl⟩
            · refine go_ops hΓ 4 rfl ?_
              obtain rfl := Option.some.inj h46
              exact fin_pure hΓ (.inr rfl) rfl rfl
theorem c_name_CheckDomain {k : Nat} {s : Str} {r : Int} (h : m_name_CheckDomain k s = some r) : Pure Tryz.prog 29 [S s] (I r) := by
  refine Pure.enter (Fr.of 0 _) Tryz.func29 rfl (Fr.of_ok _) rfl rfl ?_
  refine go_in ?_
  unfold m_name_CheckDomain at h
  refine go hΓ 13 rfl ?_
  refine j_cond rfl (fun hb => ?_) (fun hb => ?_)
  · have h1 := cT h hb
    refine go hΓ 7 rfl ?_
    obtain rfl := Option.some.inj h1
    exact fin_pure hΓ (.inr rfl) rfl rfl
  · have h2 := cF h hb
    obtain ⟨y3, hy3, h4⟩ := bi_ok h2
    refine go hΓ 6 rfl ?_
    refine eo_callP (callable Tryz.func31 rfl rfl) (Pure.rows (c_strings_Split hy3) rfl rfl) rfl (Nat.le_of_ble_eq_true rfl) rfl rfl rfl rfl rfl ?_
    refine go_ops hΓ 4 rfl ?_
    obtain ⟨q8, hq8, h9⟩ := bi_ok h4
    refine j_bound 9 rfl fun hb11 => ?_
    refine j_cutEZ (R := fun a10 => q8 = .go a10) (fun a10 => []) (fun a10 => []) ?_ ?_
    · refine go hΓ 1 rfl ?_
      refine j_range y3 hq8 (fun i5 s6 => [(9, .d (Sl eS y3)), (10, I (y3.length : Int)), (11, I (i5 : Int))]) (fun s6 => []) ⟨⟨rfl, rfl, rfl, trivial⟩, [], rfl, .inl rfl⟩ (fun i5 x7 s6 y15 hx12 hlt hy13 hout14 => ?_) (fun s6 hgo => ?_)
      · refine go hΓ 6 rfl ?_
        refine j_condT rfl (decide_eq_true (Int.ofNat_lt.2 hlt)) ?_
        refine go hΓ 6 rfl ?_
        refine eo_o rfl (op_elemZ hΓ (enc := eS) (getZ_nat hx12) rfl rfl rfl rfl rfl (fun _ => rfl)) ?_
        obtain ⟨y16, hy16, h17⟩ := bi_ok hy13
        refine go_ops hΓ 7 rfl ?_
        refine eo_callP (callable Tryz.func61 rfl rfl) (c_name_isLabel hy16) rfl (Nat.le_of_ble_eq_true rfl) rfl rfl rfl rfl rfl ?_
        refine go_ops hΓ 3 rfl ?_
        refine j_cond rfl (fun hb => ?_) (fun hb => ?_)
        · have h18 := cT h17 hb
          refine go hΓ 8 rfl ?_
          obtain ⟨v19, hv19, h20⟩ := bi_ok h18
          obtain rfl := Option.some.inj h20
          obtain rfl := hout14 _ rfl
          obtain rfl := Option.some.inj h9
          refine go hΓ 4 rfl ?_
          obtain rfl := Option.some.inj hv19
          exact fin_pure hΓ (.inr rfl) rfl rfl
        · have h21 := cF h17 hb
          refine go hΓ 7 rfl ?_
          obtain rfl := Option.some.inj h21
          exact ⟨_, rfl, ⟨⟨rfl, rfl, get_eq rfl (w64_succ (Nat.lt_of_lt_of_le hlt hb11)), trivial⟩, [], rfl, .inl rfl⟩⟩
      · subst hgo
        refine go hΓ 6 rfl ?_
        refine j_condF rfl (decide_eq_false (Int.lt_irrefl _)) ?_
        refine go hΓ 4 rfl ?_
        exact ⟨_, rfl, ⟨trivial, [], rfl, .inl rfl⟩⟩
    · intro a10 ha
      subst ha
      replace h9 := goI_l h9
      refine go hΓ 7 rfl ?_
      obtain rfl := Option.some.inj h9
      exact fin_pure hΓ (.inr rfl) rfl rfl
theorem c_internal_stringslite_HasSuffix {s : Str} {suffix : Str} {r : Bool} (h : m_internal_stringslite_HasSuffix s suffix = some r) : Pure Tryz.prog 96 [S s, S suffix] (B r) := by
  refine Pure.enter (Fr.of 0 _) Tryz.func96 rfl (Fr.of_ok _) rfl rfl ?_
  refine go_in ?_
  unfold m_internal_stringslite_HasSuffix at h
  refine go hΓ 13 rfl ?_
  obtain ⟨q1, hq1, h2⟩ := bi_ok h
  refine o_cut 10 [(4, B false), (20, B q1)] [] ?_ ?_
  · refine eo_gsplit rfl rfl (fun hb => ?_) (fun hb => ?_)
    · have h3 := cT hq1 hb
      obtain ⟨z4, hz4, h5⟩ := bi_ok h3
      refine go_ops hΓ 6 rfl ?_
      refine eo_guard rfl ?_
      refine eo_o rfl (op_subZ hΓ hz4 rfl rfl rfl rfl rfl) ?_
      refine go_ops hΓ 4 rfl ?_
      obtain rfl := Option.some.inj h5
      exact ⟨⟨rfl, rfl, trivial⟩, [], rfl, .inl rfl⟩
    · have h6 := cF hq1 hb
      refine go_ops hΓ 11 rfl ?_
      obtain rfl := Option.some.inj h6
      exact ⟨⟨rfl, rfl, trivial⟩, [], rfl, .inl rfl⟩
  · refine go_ops hΓ 4 rfl ?_
    obtain rfl := Option.some.inj h2
    exact fin_pure hΓ (.inr rfl) rfl rfl
theorem c_internal_stringslite_CutSuffix {s : Str} {suffix : Str} {r : Str × Bool} (h : m_internal_stringslite_CutSuffix s suffix = some r) : Pure Tryz.prog 62 [S s, S suffix] (.tup [S r.1, B r.2]) := by
  refine Pure.enter (Fr.of 0 _) Tryz.func62 rfl (Fr.of_ok _) rfl rfl ?_
  refine go_in ?_
  unfold m_internal_stringslite_CutSuffix at h
  obtain ⟨y1, hy1, h2⟩ := bi_ok h
  refine go hΓ 11 rfl ?_
  refine eo_callP (callable Tryz.func96 rfl rfl) (c_internal_stringslite_HasSuffix hy1) rfl (Nat.le_of_ble_eq_true rfl) rfl rfl rfl rfl rfl ?_
  refine go_ops hΓ 3 rfl ?_
  refine j_cond rfl (fun hb => ?_) (fun hb => ?_)
  · have h3 := cT h2 hb
    refine go hΓ 9 rfl ?_
    obtain rfl := Option.some.inj h3
    exact fin_pure hΓ (.inr rfl) rfl rfl
  · have h4 := cF h2 hb
    obtain ⟨z5, hz5, h6⟩ := bi_ok h4
    refine go hΓ 10 rfl ?_
    refine eo_o rfl (op_subZ hΓ hz5 rfl rfl rfl rfl rfl) ?_
    refine go_ops hΓ 5 rfl ?_
    obtain rfl := Option.some.inj h6
    exact fin_pure hΓ (.inr rfl) rfl rfl
theorem c_strings_CutSuffix {s : Str} {suffix : Str} {r : Str × Bool} (h : m_strings_CutSuffix s suffix = some r) : Pure Tryz.prog 30 [S s, S suffix] (.tup [S r.1, B r.2]) := by
  refine Pure.enter (Fr.of 0 _) Tryz.func30 rfl (Fr.of_ok _) rfl rfl ?_
  refine go_in ?_
  unfold m_strings_CutSuffix at h
  obtain ⟨y1, hy1, h2⟩ := bi_ok h
  refine go hΓ 10 rfl ?_
  refine eo_callP (callable Tryz.func62 rfl rfl) (c_internal_stringslite_CutSuffix hy1) rfl (Nat.le_of_ble_eq_true rfl) rfl rfl rfl rfl rfl ?_
  refine go_ops hΓ 7 rfl ?_
  obtain rfl := Option.some.inj h2
  exact fin_pure hΓ (.inr rfl) rfl rfl
theorem c_slices_Reverse_string_string {k : Nat} {s : List Str} {r : List Str} (h : m_slices_Reverse_string_string k s = some r) : EC Tryz.prog 32 [.sl 0 s.length] [.row 9 1 s.length (s.flatMap eS)] fun g hp' => g = .tup [] ∧ hp' = [.row 9 1 r.length (r.flatMap eS)] := by
  refine ec_enter (Fr.of 0 _) Tryz.func32 rfl (Fr.of_ok _) (Nat.le_of_ble_eq_true rfl) fun _ => ?_
  refine go_in ?_
  unfold m_slices_Reverse_string_string at h
  refine go hΓ 9 rfl ?_
  obtain ⟨q4, hq4, h5⟩ := bi_ok h
  refine j_cutNZ [] [.row 9 1 q4.length (q4.flatMap eS)] ?_ ?_
  · refine go hΓ 1 rfl ?_
    refine j_loop hq4 (fun s2 => [(0, .sl 0 s2.1.length), (2, I s2.2.1), (3, I s2.2.2)]) (fun s2 => [.row 9 1 s2.1.length (s2.1.flatMap eS)]) ⟨⟨rfl, rfl, rfl, trivial⟩, [], rfl, .inl rfl⟩ (fun s2 y10 hy8 hout9 => ?_)
    refine go hΓ 8 rfl ?_
    refine j_cond rfl (fun hb => ?_) (fun hb => ?_)
    · have h11 := cT hy8 hb
      refine go hΓ 4 rfl ?_
      refine j_drawE [.row 9 1 s2.1.length (s2.1.flatMap eS)] [7, 11] [13, 15] [13, 15] hmix (by kernel_rfl) (by kernel_rfl) ⟨rfl, trivial⟩ (Nat.le_of_ble_eq_true rfl) ?_
      obtain ⟨x12, hx12, h13⟩ := bi_ok h11
      have hj14 := getZ_at hx12
      refine go_E hΓ 6 rfl ?_
      refine ge_q rfl (.inl rfl) (fun _ _ => qte_of_qt (qt_p (op_elemRowZ hΓ hx12 rfl rfl rfl rfl rfl rfl))) ?_
      refine ge_p rfl (fun hp hs => op_loadRowZ hΓ (enc := eS) s2.2.2.toNat 0 hj14 rfl rfl rfl (hs 0 _ rfl rfl) (fun _ => rfl) (g := S x12) rfl) rfl ?_
      obtain ⟨x15, hx15, h16⟩ := bi_ok h13
      have hj17 := getZ_at hx15
      refine go_E hΓ 2 rfl ?_
      refine ge_q rfl (.inl rfl) (fun _ _ => qte_of_qt (qt_p (op_elemRowZ hΓ hx15 rfl rfl rfl rfl rfl rfl))) ?_
      refine ge_p rfl (fun hp hs => op_loadRowZ hΓ (enc := eS) s2.2.1.toNat 0 hj17 rfl rfl rfl (hs 0 _ rfl rfl) (fun _ => rfl) (g := S x15) rfl) rfl ?_
      obtain ⟨x18, hx18, h19⟩ := bi_ok h16
      have hj20 := getZ_at hx18
      refine ge_q rfl (.inl rfl) (fun _ _ => qte_of_qt (qt_p (op_elemRowZ hΓ hx18 rfl rfl rfl rfl rfl rfl))) ?_
      refine ge_h0 [.row 9 1 (s2.1.set s2.2.1.toNat x12).length ((s2.1.set s2.2.1.toNat x12).flatMap eS)] rfl rfl (brk_st rfl) (qte_u (opu_setRowZ hΓ (enc := eS) (z' := x12) s2.2.1.toNat (by have := (List.getElem?_eq_some_iff.1 hj20).1; simpa using this) rfl rfl rfl rfl (fun _ => rfl) rfl rfl rfl rfl rfl)) ?_
      obtain ⟨x21, hx21, h22⟩ := bi_ok h19
      have hj23 := getZ_at hx21
      refine ge_q rfl (.inl rfl) (fun _ _ => qte_of_qt (qt_p (op_elemRowZ hΓ hx21 rfl rfl rfl rfl rfl rfl))) ?_
      obtain ⟨x24, hx24, h25⟩ := bi_ok h22
      have hj26 : (s2.1.set s2.2.1.toNat x12)[s2.2.2.toNat]? = some x24 := hx24
      refine ge_h0 [.row 9 1 ((s2.1.set s2.2.1.toNat x12).set s2.2.2.toNat x15).length (((s2.1.set s2.2.1.toNat x12).set s2.2.2.toNat x15).flatMap eS)] rfl rfl (brk_st rfl) (qte_u (opu_setRowZ hΓ (enc := eS) (z' := x15) s2.2.2.toNat (by have := (List.getElem?_eq_some_iff.1 hj26).1; simpa using this) rfl rfl rfl rfl (fun _ => rfl) rfl rfl rfl rfl rfl)) ?_
      refine ge_fin ?_
      refine go hΓ 2 rfl ?_
      refine j_relen 0 (n' := ((s2.1.set s2.2.1.toNat x12).set s2.2.2.toNat x15).length) rfl (by simp) ?_
      refine j_relen 14 (n' := ((s2.1.set s2.2.1.toNat x12).set s2.2.2.toNat x15).length) rfl (by simp) ?_
      refine j_relen 16 (n' := ((s2.1.set s2.2.1.toNat x12).set s2.2.2.toNat x15).length) rfl (by simp) ?_
      refine j_relen 18 (n' := ((s2.1.set s2.2.1.toNat x12).set s2.2.2.toNat x15).length) rfl (by simp) ?_
      refine j_relen 22 (n' := ((s2.1.set s2.2.1.toNat x12).set s2.2.2.toNat x15).length) rfl (by simp) ?_
      refine go hΓ 8 rfl ?_
      obtain rfl := Option.some.inj h25
      exact ⟨_, rfl, ⟨⟨rfl, rfl, rfl, trivial⟩, [], rfl, .inl rfl⟩⟩
    · have h27 := cF hy8 hb
      refine go hΓ 4 rfl ?_
      obtain rfl := Option.some.inj h27
      obtain rfl := hout9 _ rfl
      exact ⟨trivial, [], rfl, .inl rfl⟩
  · obtain rfl := Option.some.inj h5
    exact fin_objs hΓ [] (.inl rfl) rfl rfl rfl rfl (.inl rfl)
set_option maxHeartbeats 8000000 in
theorem c_name_BackTo {k : Nat} {name : Str} {r : T_api_Addr × Bool × Int} (h : m_name_BackTo k name = some r) : Pure Tryz.prog 12 [S name] (.tup [.agg [B r.1.Six, U r.1.Hi, U r.1.Lo], B r.2.1, I r.2.2]) := by
  refine Pure.enter (Fr.of 0 _) Tryz.func12 rfl (Fr.of_ok _) rfl rfl ?_
  refine go_in ?_
  unfold m_name_BackTo at h
  refine go hΓ 2 rfl ?_
  refine eo_alloc hΓ rfl rfl rfl (Nat.le_of_ble_eq_true rfl) ?_
  obtain ⟨y1, hy1, h2⟩ := bi_ok h
  refine go_ops hΓ 8 rfl ?_
  refine eo_callP (callable Tryz.func29 rfl rfl) (c_name_CheckDomain hy1) rfl (Nat.le_of_ble_eq_true rfl) rfl rfl rfl rfl rfl ?_
  refine go_ops hΓ 9 rfl ?_
  refine j_cond rfl (fun hb => ?_) (fun hb => ?_)
  · have h3 := cT h2 hb
    refine go hΓ 2 rfl ?_
    refine eo_build hΓ (gs := [B false, U 0, U 0]) rfl rfl rfl rfl rfl rfl rfl ?_
    refine go_ops hΓ 1 rfl ?_
    refine eo_store hΓ rfl rfl rfl rfl rfl rfl rfl rfl (Nat.le_of_ble_eq_true rfl) ?_
    refine eo_hp [.box 28 [B false, U 0, U 0]] rfl ?_
    refine go_ops hΓ 6 rfl ?_
    obtain rfl := Option.some.inj h3
    exact fin_pure hΓ (.inr rfl) rfl rfl
  · have h4 := cF h2 hb
    obtain ⟨y5, hy5, h6⟩ := bi_ok h4
    refine go hΓ 5 rfl ?_
    refine eo_callP (callable Tryz.func30 rfl rfl) (c_strings_CutSuffix hy5) rfl (Nat.le_of_ble_eq_true rfl) rfl rfl rfl rfl rfl ?_
    obtain ⟨q7, hq7, h8⟩ := bi_ok h6
    refine go_ops hΓ 14 rfl ?_
    refine j_cutNZ [(0, S name), (2, .ptr 0 0), (6, S q7), (7, B y5.2)] [.box 28 [B false, U 0, U 0]] ?_ ?_
    · refine j_cond rfl (fun hb => ?_) (fun hb => ?_)
      · have h9 := cT hq7 hb
        obtain ⟨y10, hy10, h11⟩ := bi_ok h9
        refine go hΓ 2 rfl ?_
        refine eo_callP (callable Tryz.func30 rfl rfl) (c_strings_CutSuffix hy10) rfl (Nat.le_of_ble_eq_true rfl) rfl rfl rfl rfl rfl ?_
        refine go_ops hΓ 5 rfl ?_
        obtain rfl := Option.some.inj h11
        exact ⟨⟨rfl, rfl, rfl, rfl, trivial⟩, [], rfl, .inl rfl⟩
      · have h12 := cF hq7 hb
        refine go hΓ 1 rfl ?_
        obtain rfl := Option.some.inj h12
        exact ⟨⟨rfl, rfl, rfl, rfl, trivial⟩, [], rfl, .inl rfl⟩
    · obtain ⟨y13, hy13, h14⟩ := bi_ok h8
      refine go hΓ 4 rfl ?_
      refine eo_callF [] (.sl 1 y13.length) [.box 28 [B false, U 0, U 0], .row 9 1 y13.length (y13.flatMap eS)] (callable Tryz.func31 rfl rfl) (c_strings_Split hy13) rfl (Nat.le_of_ble_eq_true rfl) rfl rfl rfl rfl rfl rfl rfl rfl rfl rfl ?_
      obtain ⟨y15, hy15, h16⟩ := bi_ok h14
      refine go_ops hΓ 6 rfl ?_
      refine eo_callF [1] (.tup []) [.box 28 [B false, U 0, U 0], .row 9 1 y15.length (y15.flatMap eS)] (callable Tryz.func32 rfl rfl) (c_slices_Reverse_string_string hy15) rfl (Nat.le_of_ble_eq_true rfl) rfl rfl rfl rfl rfl rfl rfl rfl rfl rfl ?_
      obtain ⟨hg18, h17⟩ := gd_ok h16
      refine eo_relen 8 rfl (of_decide_eq_true hg18).symm ?_
      obtain ⟨q19, hq19, h20⟩ := bi_ok h17
      refine go_ops hΓ 14 rfl ?_
      refine j_cutNZ [(0, S name), (2, .ptr 0 0), (7, B y5.2), (8, .sl 1 y15.length), (9, I q19.1), (10, I q19.2)] [.box 28 [B false, U 0, U 0], .row 9 1 y15.length (y15.flatMap eS)] ?_ ?_
      · refine j_cond rfl (fun hb => ?_) (fun hb => ?_)
        · have h21 := cT hq19 hb
          refine go hΓ 4 rfl ?_
          obtain rfl := Option.some.inj h21
          exact ⟨⟨rfl, rfl, rfl, rfl, rfl, rfl, trivial⟩, [], rfl, .inl rfl⟩
        · have h22 := cF hq19 hb
          refine go hΓ 1 rfl ?_
          obtain rfl := Option.some.inj h22
          exact ⟨⟨rfl, rfl, rfl, rfl, rfl, rfl, trivial⟩, [], rfl, .inl rfl⟩
      · refine go hΓ 4 rfl ?_
        refine eo_build hΓ (gs := [B y5.2, U 0, U 0]) rfl rfl rfl rfl rfl rfl rfl ?_
        refine eo_alloc hΓ rfl rfl rfl (Nat.le_of_ble_eq_true rfl) ?_
        refine eo_store hΓ rfl rfl rfl rfl rfl rfl rfl rfl (Nat.le_of_ble_eq_true rfl) ?_
        refine eo_hp [.box 28 [B false, U 0, U 0], .row 9 1 y15.length (y15.flatMap eS), .box 28 [B y5.2, U 0, U 0]] rfl ?_
        refine go_ops hΓ 10 rfl ?_
        obtain ⟨q26, hq26, h27⟩ := bi_ok h20
        obtain ⟨hb29, h30⟩ := gd_ok hq26
        replace hb29 := of_decide_eq_true hb29
        refine j_cutEZ (R := fun a28 => q26 = .go a28) (fun a28 => [(0, S name), (2, .ptr 0 0), (11, .ptr 2 0)]) (fun a28 => [.box 28 [B false, U 0, U 0], .row 9 1 y15.length (y15.flatMap eS), .box 28 [B a28.Six, U a28.Hi, U a28.Lo]]) ?_ ?_
        · refine go hΓ 1 rfl ?_
          refine j_rangeI h30 (fun i23 s24 => [(0, S name), (2, .ptr 0 0), (9, I q19.1), (10, I q19.2), (11, .ptr 2 0), (41, .sl 1 y15.length), (42, I (y15.length : Int)), (43, I (i23 : Int))]) (fun s24 => [.box 28 [B false, U 0, U 0], .row 9 1 y15.length (y15.flatMap eS), .box 28 [B s24.Six, U s24.Hi, U s24.Lo]]) ⟨⟨rfl, rfl, rfl, rfl, rfl, rfl, rfl, rfl, trivial⟩, [], rfl, .inl rfl⟩ (fun i23 s24 y34 hlt hy32 hout33 => ?_) (fun s24 hgo hge => ?_)
          · refine go hΓ 6 rfl ?_
            refine j_condT rfl (decide_eq_true hlt) ?_
            obtain ⟨x35, hx35, h36⟩ := bi_ok hy32
            have hj37 := getZ_at hx35
            refine go hΓ 6 rfl ?_
            refine eo_o rfl (op_elemRowZ hΓ hx35 rfl rfl rfl rfl rfl rfl) ?_
            refine eo_o rfl (op_loadRowZ hΓ (enc := eS) ((i23 : Int).toNat) 0 hj37 rfl rfl rfl rfl (fun _ => rfl) (g := S x35) rfl) ?_
            obtain ⟨y38, hy38, h39⟩ := bi_ok h36
            refine go_ops hΓ 8 rfl ?_
            rcases y38 with _ | z40
            · refine eo_callErr (callable Tryz.func33 rfl rfl) (c_strconv_ParseUint_none hy38) rfl (Nat.le_of_ble_eq_true rfl) rfl rfl rfl rfl fun et41 ex42 => ?_
              refine go_ops hΓ 11 rfl ?_
              refine eo_o rfl (op_ifaceNot2 hΓ rfl rfl rfl rfl) ?_
              refine go_ops hΓ 5 rfl ?_
              refine eo_build hΓ (gs := [B false, U 0, U 0]) rfl rfl rfl rfl rfl rfl rfl ?_
              refine eo_store hΓ rfl rfl rfl rfl rfl rfl rfl rfl (Nat.le_of_ble_eq_true rfl) ?_
              refine eo_hp [.box 28 [B false, U 0, U 0], .row 9 1 y15.length (y15.flatMap eS), .box 28 [B s24.Six, U s24.Hi, U s24.Lo]] rfl ?_
              refine go_ops hΓ 8 rfl ?_
              obtain ⟨v43, hv43, h44⟩ := bi_ok h39
              obtain rfl := Option.some.inj h44
              obtain rfl := hout33 _ rfl
              obtain rfl := Option.some.inj h27
              refine go hΓ 4 rfl ?_
              obtain rfl := Option.some.inj hv43
              exact fin_pure hΓ (.inr rfl) rfl rfl
            · refine eo_callP (callable Tryz.func33 rfl rfl) (c_strconv_ParseUint_some hy38) rfl (Nat.le_of_ble_eq_true rfl) rfl rfl rfl rfl rfl ?_
              refine go_ops hΓ 11 rfl ?_
              refine eo_o rfl (op_ifaceNilE2 hΓ rfl rfl rfl rfl) ?_
              refine go_ops hΓ 5 rfl ?_
              refine j_drawE [.dead, .dead, .box 28 [B s24.Six, U s24.Hi, U s24.Lo]] [1, 5, 11] [17, 19] [17, 19] hmix (by kernel_rfl) (by kernel_rfl) ⟨rfl, trivial⟩ (Nat.le_of_ble_eq_true rfl) ?_
              obtain ⟨y45, hy45, h46⟩ := bi_ok h39
              refine go_E hΓ 3 rfl ?_
              refine ge_q rfl (.inl rfl) (fun _ _ => qte_of_qt (qt_p (op_shlZ hy45 rfl rfl))) ?_
              obtain ⟨y47, hy47, h48⟩ := bi_ok h46
              refine go_E hΓ 4 rfl ?_
              refine ge_q rfl (.inl rfl) (fun _ _ => qte_of_qt (qt_p (op_shrZ hy47 rfl rfl))) ?_
              obtain ⟨y49, hy49, h50⟩ := bi_ok h48
              refine go_E hΓ 4 rfl ?_
              refine ge_q rfl (.inl rfl) (fun _ _ => qte_of_qt (qt_p (op_shlZ hy49 rfl rfl))) ?_
              refine go_E hΓ 3 rfl ?_
              refine ge_h0 [.box 28 [B false, U 0, U 0], .row 9 1 y15.length (y15.flatMap eS), .box 28 [B s24.Six, U (bitsV .or .u64 y45 y47), U s24.Lo]] rfl rfl (brk_st rfl) (qte_u (opu_store2 hΓ rfl rfl rfl rfl rfl rfl rfl rfl rfl)) ?_
              refine go_E hΓ 1 rfl ?_
              refine ge_h0 [.box 28 [B false, U 0, U 0], .row 9 1 y15.length (y15.flatMap eS), .box 28 [B s24.Six, U (bitsV .or .u64 y45 y47), U (bitsV .or .u64 y49 z40)]] rfl rfl (brk_st rfl) (qte_u (opu_store2 hΓ rfl rfl rfl rfl rfl rfl rfl rfl rfl)) ?_
              refine ge_fin ?_
              refine go hΓ 6 rfl ?_
              obtain rfl := Option.some.inj h50
              exact ⟨_, rfl, ⟨⟨rfl, rfl, rfl, rfl, rfl, rfl, rfl, get_eq rfl (w64_succ (by omega)), trivial⟩, [], rfl, .inl rfl⟩⟩
          · subst hgo
            refine go hΓ 6 rfl ?_
            refine j_condF rfl (decide_eq_false hge) ?_
            refine go hΓ 4 rfl ?_
            exact ⟨_, rfl, ⟨⟨rfl, rfl, rfl, trivial⟩, [], rfl, .inl rfl⟩⟩
        · intro a28 ha
          subst ha
          replace h27 := goI_l h27
          obtain ⟨y51, hy51, h52⟩ := bi_ok h27
          refine go hΓ 5 rfl ?_
          refine eo_callP (callable Tryz.func25 rfl rfl) (c_addr_CheckAddr hy51) rfl (Nat.le_of_ble_eq_true rfl) rfl rfl rfl rfl rfl ?_
          refine go_ops hΓ 2 rfl ?_
          obtain ⟨q53, hq53, h54⟩ := bi_ok h52
          refine o_cut 5 [(2, .ptr 0 0), (11, .ptr 2 0), (84, B q53)] [.box 28 [B false, U 0, U 0], .row 9 1 y15.length (y15.flatMap eS), .box 28 [B a28.Six, U a28.Hi, U a28.Lo]] ?_ ?_
          · refine eo_gsplit rfl rfl (fun hb => ?_) (fun hb => ?_)
            · have h55 := cT hq53 hb
              refine go_ops hΓ 6 rfl ?_
              obtain rfl := Option.some.inj h55
              exact ⟨⟨rfl, rfl, rfl, trivial⟩, [], rfl, .inl rfl⟩
            · have h56 := cF hq53 hb
              obtain ⟨y57, hy57, h58⟩ := bi_ok h56
              refine go_ops hΓ 1 rfl ?_
              refine eo_guard rfl ?_
              refine eo_callP (callable Tryz.func26 rfl rfl) (c_name_back hy57) rfl (Nat.le_of_ble_eq_true rfl) rfl rfl rfl rfl rfl ?_
              refine go_ops hΓ 4 rfl ?_
              obtain rfl := Option.some.inj h58
              exact ⟨⟨rfl, rfl, rfl, trivial⟩, [], rfl, .inl rfl⟩
          · refine go_ops hΓ 2 rfl ?_
            refine j_cond rfl (fun hb => ?_) (fun hb => ?_)
            · have h59 := cT h54 hb
              refine go hΓ 2 rfl ?_
              refine eo_build hΓ (gs := [B false, U 0, U 0]) rfl rfl rfl rfl rfl rfl rfl ?_
              refine eo_store hΓ rfl rfl rfl rfl rfl rfl rfl rfl (Nat.le_of_ble_eq_true rfl) ?_
              refine eo_hp [.box 28 [B false, U 0, U 0], .row 9 1 y15.length (y15.flatMap eS), .box 28 [B a28.Six, U a28.Hi, U a28.Lo]] rfl ?_
              refine go_ops hΓ 6 rfl ?_
              obtain rfl := Option.some.inj h59
              exact fin_pure hΓ (.inr rfl) rfl rfl
            · have h60 := cF h54 hb
              refine go hΓ 5 rfl ?_
              refine eo_store hΓ rfl rfl rfl rfl rfl rfl rfl rfl (Nat.le_of_ble_eq_true rfl) ?_
              refine eo_hp [.box 28 [B a28.Six, U a28.Hi, U a28.Lo], .row 9 1 y15.length (y15.flatMap eS), .box 28 [B a28.Six, U a28.Hi, U a28.Lo]] rfl ?_
              refine go_ops hΓ 5 rfl ?_
              obtain rfl := Option.some.inj h60
              exact fin_pure hΓ (.inr rfl) rfl rfl
set_option maxHeartbeats 8000000 in
theorem c_laneref1_LabelForm {s : Str} {r : Bool} (h : m_laneref1_LabelForm s = some r) : Pure Tryz.prog 34 [S s] (B r) := by
  refine Pure.enter (Fr.of 0 _) Tryz.func34 rfl (Fr.of_ok _) rfl rfl ?_
  refine go_in ?_
  unfold m_laneref1_LabelForm at h
  refine go hΓ 13 rfl ?_
  refine j_cond rfl (fun hb => ?_) (fun hb => ?_)
  · have h1 := cT h hb
    refine go hΓ 7 rfl ?_
    obtain rfl := Option.some.inj h1
    exact fin_pure hΓ (.inr rfl) rfl rfl
  · have h2 := cF h hb
    obtain ⟨y3, hy3, h4⟩ := bi_ok h2
    refine go hΓ 5 rfl ?_
    refine eo_callP (callable Tryz.func66 rfl rfl) (c_strings_TrimPrefix hy3) rfl (Nat.le_of_ble_eq_true rfl) rfl rfl rfl rfl rfl ?_
    refine go_ops hΓ 8 rfl ?_
    obtain ⟨q5, hq5, h6⟩ := bi_ok h4
    refine o_cut 4 [(0, S y3), (2, B false), (14, B q5)] [] ?_ ?_
    · refine eo_gsplit rfl rfl (fun hb => ?_) (fun hb => ?_)
      · have h7 := cT hq5 hb
        obtain ⟨y8, hy8, h9⟩ := bi_ok h7
        refine go_ops hΓ 1 rfl ?_
        refine eo_guard rfl ?_
        refine eo_callP (callable Tryz.func67 rfl rfl) (c_strings_Trim hy8) rfl (Nat.le_of_ble_eq_true rfl) rfl rfl rfl rfl rfl ?_
        refine go_ops hΓ 3 rfl ?_
        obtain rfl := Option.some.inj h9
        exact ⟨⟨rfl, rfl, rfl, trivial⟩, [], rfl, .inl rfl⟩
      · have h10 := cF hq5 hb
        refine go_ops hΓ 5 rfl ?_
        obtain rfl := Option.some.inj h10
        exact ⟨⟨rfl, rfl, rfl, trivial⟩, [], rfl, .inl rfl⟩
    · refine go_ops hΓ 1 rfl ?_
      obtain ⟨q11, hq11, h12⟩ := bi_ok h6
      refine o_cut 4 [(0, S y3), (2, B false), (19, B q11)] [] ?_ ?_
      · refine eo_gsplit rfl rfl (fun hb => ?_) (fun hb => ?_)
        · have h13 := cT hq11 hb
          obtain ⟨c14, hc14, h15⟩ := bi_ok h13
          refine go_ops hΓ 1 rfl ?_
          refine eo_guard rfl ?_
          refine eo_o rfl (op_byteZ hΓ hc14 rfl rfl rfl rfl) ?_
          refine go_ops hΓ 3 rfl ?_
          obtain rfl := Option.some.inj h15
          exact ⟨⟨rfl, rfl, rfl, trivial⟩, [], rfl, .inl rfl⟩
        · have h16 := cF hq11 hb
          refine go_ops hΓ 5 rfl ?_
          obtain rfl := Option.some.inj h16
          exact ⟨⟨rfl, rfl, rfl, trivial⟩, [], rfl, .inl rfl⟩
      · refine go_ops hΓ 1 rfl ?_
        obtain ⟨q17, hq17, h18⟩ := bi_ok h12
        refine o_cut 7 [(2, B false), (27, B q17)] [] ?_ ?_
        · refine eo_gsplit rfl rfl (fun hb => ?_) (fun hb => ?_)
          · have h19 := cT hq17 hb
            obtain ⟨c20, hc20, h21⟩ := bi_ok h19
            refine go_ops hΓ 4 rfl ?_
            refine eo_guard rfl ?_
            refine eo_o rfl (op_byteZ hΓ hc20 rfl rfl rfl rfl) ?_
            refine go_ops hΓ 3 rfl ?_
            obtain rfl := Option.some.inj h21
            exact ⟨⟨rfl, rfl, trivial⟩, [], rfl, .inl rfl⟩
          · have h22 := cF hq17 hb
            refine go_ops hΓ 8 rfl ?_
            obtain rfl := Option.some.inj h22
            exact ⟨⟨rfl, rfl, trivial⟩, [], rfl, .inl rfl⟩
        · refine go_ops hΓ 4 rfl ?_
          obtain rfl := Option.some.inj h18
          exact fin_pure hΓ (.inr rfl) rfl rfl
theorem c_laneref1_DomainFault {s : Str} {r : Int} (h : m_laneref1_DomainFault s = some r) : Pure Tryz.prog 13 [S s] (I r) := by
  refine Pure.enter (Fr.of 0 _) Tryz.func13 rfl (Fr.of_ok _) rfl rfl ?_
  refine go_in ?_
  unfold m_laneref1_DomainFault at h
  refine go hΓ 13 rfl ?_
  refine j_cond rfl (fun hb => ?_) (fun hb => ?_)
  · have h1 := cT h hb
    refine go hΓ 7 rfl ?_
    obtain rfl := Option.some.inj h1
    exact fin_pure hΓ (.inr rfl) rfl rfl
  · have h2 := cF h hb
    obtain ⟨y3, hy3, h4⟩ := bi_ok h2
    refine go hΓ 6 rfl ?_
    refine eo_callP (callable Tryz.func31 rfl rfl) (Pure.rows (c_strings_Split hy3) rfl rfl) rfl (Nat.le_of_ble_eq_true rfl) rfl rfl rfl rfl rfl ?_
    refine go_ops hΓ 4 rfl ?_
    obtain ⟨q8, hq8, h9⟩ := bi_ok h4
    refine j_bound 9 rfl fun hb11 => ?_
    refine j_cutEZ (R := fun a10 => q8 = .go a10) (fun a10 => []) (fun a10 => []) ?_ ?_
    · refine go hΓ 1 rfl ?_
      refine j_range y3 hq8 (fun i5 s6 => [(9, .d (Sl eS y3)), (10, I (y3.length : Int)), (11, I (i5 : Int))]) (fun s6 => []) ⟨⟨rfl, rfl, rfl, trivial⟩, [], rfl, .inl rfl⟩ (fun i5 x7 s6 y15 hx12 hlt hy13 hout14 => ?_) (fun s6 hgo => ?_)
      · refine go hΓ 6 rfl ?_
        refine j_condT rfl (decide_eq_true (Int.ofNat_lt.2 hlt)) ?_
        refine go hΓ 6 rfl ?_
        refine eo_o rfl (op_elemZ hΓ (enc := eS) (getZ_nat hx12) rfl rfl rfl rfl rfl (fun _ => rfl)) ?_
        obtain ⟨y16, hy16, h17⟩ := bi_ok hy13
        refine go_ops hΓ 7 rfl ?_
        refine eo_callP (callable Tryz.func34 rfl rfl) (c_laneref1_LabelForm hy16) rfl (Nat.le_of_ble_eq_true rfl) rfl rfl rfl rfl rfl ?_
        refine go_ops hΓ 3 rfl ?_
        refine j_cond rfl (fun hb => ?_) (fun hb => ?_)
        · have h18 := cT h17 hb
          refine go hΓ 8 rfl ?_
          obtain ⟨v19, hv19, h20⟩ := bi_ok h18
          obtain rfl := Option.some.inj h20
          obtain rfl := hout14 _ rfl
          obtain rfl := Option.some.inj h9
          refine go hΓ 4 rfl ?_
          obtain rfl := Option.some.inj hv19
          exact fin_pure hΓ (.inr rfl) rfl rfl
        · have h21 := cF h17 hb
          refine go hΓ 7 rfl ?_
          obtain rfl := Option.some.inj h21
          exact ⟨_, rfl, ⟨⟨rfl, rfl, get_eq rfl (w64_succ (Nat.lt_of_lt_of_le hlt hb11)), trivial⟩, [], rfl, .inl rfl⟩⟩
      · subst hgo
        refine go hΓ 6 rfl ?_
        refine j_condF rfl (decide_eq_false (Int.lt_irrefl _)) ?_
        refine go hΓ 4 rfl ?_
        exact ⟨_, rfl, ⟨trivial, [], rfl, .inl rfl⟩⟩
    · intro a10 ha
      subst ha
      replace h9 := goI_l h9
      refine go hΓ 7 rfl ?_
      obtain rfl := Option.some.inj h9
      exact fin_pure hΓ (.inr rfl) rfl rfl
set_option maxHeartbeats 8000000 in
theorem c_name_Label {s : Str} {r : Str} (h : m_name_Label s = some r) : Pure Tryz.prog 35 [S s] (S r) := by
  refine Pure.enter (Fr.of 0 _) Tryz.func35 rfl (Fr.of_ok _) rfl rfl ?_
  refine go_in ?_
  unfold m_name_Label at h
  refine go hΓ 7 rfl ?_
  refine eo_nilOwn (t := 0) 5 1 rfl (Nat.le_of_ble_eq_true rfl) ?_
  refine go_ops hΓ 10 rfl ?_
  obtain ⟨q4, hq4, h5⟩ := bi_ok h
  obtain ⟨hb7, h8⟩ := gd_ok hq4
  replace hb7 := of_decide_eq_true hb7
  refine j_cutNZ [(3, .sl 0 q4.length)] [.row 5 1 q4.length (q4.flatMap (eN .u8))] ?_ ?_
  · refine go hΓ 1 rfl ?_
    refine j_rangeG h8 (fun i1 s2 => [(0, S s), (3, .sl 0 s2.length), (8, I (s.length : Int)), (9, I (i1 : Int))]) (fun s2 => [.row 5 1 s2.length (s2.flatMap (eN .u8))]) ⟨⟨rfl, rfl, rfl, rfl, trivial⟩, [], rfl, .inl rfl⟩ (fun i1 s2 y12 hlt hy10 => ?_) (fun hge => ?_)
    · refine go hΓ 6 rfl ?_
      refine j_condT rfl (decide_eq_true hlt) ?_
      obtain ⟨c13, hc13, h14⟩ := bi_ok hy10
      refine go hΓ 14 rfl ?_
      refine eo_o rfl (op_byteZ hΓ hc13 rfl rfl rfl rfl) ?_
      refine go_ops hΓ 9 rfl ?_
      refine o_cut 3 [(0, S s), (3, .sl 0 s2.length), (5, .d (.v (.int .u8 (c13.toNat : Int)))), (8, I (s.length : Int)), (9, I (i1 : Int)), (20, B ((decide (((c13.toNat : Int) : Int) ≥ 65)) && (decide (((c13.toNat : Int) : Int) ≤ 90))))] [.row 5 1 s2.length (s2.flatMap (eN .u8))] ?_ ?_
      · refine eo_gsplit rfl rfl (fun hb => ?_) (fun hb => ?_)
        · refine go_ops hΓ 4 rfl ?_
          exact ⟨⟨rfl, rfl, rfl, rfl, rfl, get_b rfl (and_t hb), trivial⟩, [], rfl, .inl rfl⟩
        · refine go_ops hΓ 4 rfl ?_
          exact ⟨⟨rfl, rfl, rfl, rfl, rfl, get_b rfl (and_f hb), trivial⟩, [], rfl, .inl rfl⟩
      · obtain ⟨q15, hq15, h16⟩ := bi_ok h14
        refine go_ops hΓ 2 rfl ?_
        refine j_cutNZ [(0, S s), (3, .sl 0 s2.length), (5, .d (.v (.int .u8 q15))), (8, I (s.length : Int)), (9, I (i1 : Int))] [.row 5 1 s2.length (s2.flatMap (eN .u8))] ?_ ?_
        · refine j_cond rfl (fun hb => ?_) (fun hb => ?_)
          · have h17 := cT hq15 hb
            refine go hΓ 5 rfl ?_
            obtain rfl := Option.some.inj h17
            exact ⟨⟨rfl, rfl, rfl, rfl, rfl, trivial⟩, [], rfl, .inl rfl⟩
          · have h18 := cF hq15 hb
            refine go hΓ 1 rfl ?_
            obtain rfl := Option.some.inj h18
            exact ⟨⟨rfl, rfl, rfl, rfl, rfl, trivial⟩, [], rfl, .inl rfl⟩
        · obtain ⟨y19, hy19, h20⟩ := bi_ok h16
          refine go hΓ 5 rfl ?_
          refine eo_callP (callable Tryz.func68 rfl rfl) (c_name_isLetter hy19) rfl (Nat.le_of_ble_eq_true rfl) rfl rfl rfl rfl rfl ?_
          refine go_ops hΓ 3 rfl ?_
          refine j_cond rfl (fun hb => ?_) (fun hb => ?_)
          · have h21 := cT h20 hb
            refine go hΓ 3 rfl ?_
            refine eo_litT hΓ (enc := (eN .u8)) [q15] rfl rfl rfl rfl rfl rfl rfl rfl rfl rfl rfl rfl (Nat.le_of_ble_eq_true rfl) ?_
            obtain ⟨y22, hy22, h23⟩ := bi_ok h21
            refine eo_appendT hΓ (enc := (eN .u8)) hy22 rfl rfl rfl rfl rfl rfl rfl rfl rfl (fun _ => rfl) rfl rfl rfl rfl ?_
            refine go_ops hΓ 9 rfl ?_
            obtain rfl := Option.some.inj h23
            exact ⟨⟨rfl, rfl, rfl, get_eq rfl (w64_succ (by omega)), trivial⟩, [], rfl, .inl rfl⟩
          · have h24 := cF h20 hb
            refine go hΓ 6 rfl ?_
            obtain ⟨q25, hq25, h26⟩ := bi_ok h24
            refine o_cut 8 [(0, S s), (3, .sl 0 s2.length), (8, I (s.length : Int)), (9, I (i1 : Int)), (42, B q25)] [.row 5 1 s2.length (s2.flatMap (eN .u8))] ?_ ?_
            · refine eo_gsplit rfl rfl (fun hb => ?_) (fun hb => ?_)
              · have h27 := cT hq25 hb
                refine go_ops hΓ 9 rfl ?_
                obtain rfl := Option.some.inj h27
                exact ⟨⟨rfl, rfl, rfl, rfl, rfl, trivial⟩, [], rfl, .inl rfl⟩
              · have h28 := cF hq25 hb
                obtain ⟨x29, hx29, h30⟩ := bi_ok h28
                have hj31 := getZ_at hx29
                refine go_ops hΓ 4 rfl ?_
                refine eo_guard rfl ?_
                refine eo_o rfl (op_elemRowZ hΓ hx29 rfl rfl rfl rfl rfl rfl) ?_
                refine eo_guard rfl ?_
                refine eo_o rfl (op_loadRowZ hΓ (enc := (eN .u8)) ((wi ((s2.length : Int) - 1)).toNat) 0 hj31 rfl rfl rfl rfl (fun _ => rfl) (g := .d (.v (.int .u8 x29))) rfl) ?_
                refine go_ops hΓ 3 rfl ?_
                obtain rfl := Option.some.inj h30
                exact ⟨⟨rfl, rfl, rfl, rfl, rfl, trivial⟩, [], rfl, .inl rfl⟩
            · refine go_ops hΓ 3 rfl ?_
              refine j_cond rfl (fun hb => ?_) (fun hb => ?_)
              · have h32 := cT h26 hb
                refine go hΓ 2 rfl ?_
                refine eo_litT hΓ (enc := (eN .u8)) [45] rfl rfl rfl rfl rfl rfl rfl rfl rfl rfl rfl rfl (Nat.le_of_ble_eq_true rfl) ?_
                obtain ⟨y33, hy33, h34⟩ := bi_ok h32
                refine eo_appendT hΓ (enc := (eN .u8)) hy33 rfl rfl rfl rfl rfl rfl rfl rfl rfl (fun _ => rfl) rfl rfl rfl rfl ?_
                refine go_ops hΓ 9 rfl ?_
                obtain rfl := Option.some.inj h34
                exact ⟨⟨rfl, rfl, rfl, get_eq rfl (w64_succ (by omega)), trivial⟩, [], rfl, .inl rfl⟩
              · have h35 := cF h26 hb
                refine go hΓ 8 rfl ?_
                obtain rfl := Option.some.inj h35
                exact ⟨⟨rfl, rfl, rfl, get_eq rfl (w64_succ (by omega)), trivial⟩, [], rfl, .inl rfl⟩
    · refine go hΓ 6 rfl ?_
      refine j_condF rfl (decide_eq_false hge) ?_
      refine go hΓ 4 rfl ?_
      exact ⟨⟨rfl, trivial⟩, [], rfl, .inl rfl⟩
  · obtain ⟨z36, hz36, h37⟩ := bi_ok h5
    refine go hΓ 7 rfl ?_
    refine eo_subRowZ hΓ (enc := (eN .u8)) hz36 rfl rfl rfl rfl rfl rfl rfl rfl (fun _ => rfl) rfl (Nat.le_of_ble_eq_true rfl) ?_
    obtain ⟨y38, hy38, h39⟩ := bi_ok h37
    refine eo_o rfl (op_strRowZ hΓ hy38 rfl rfl rfl rfl rfl rfl rfl rfl rfl) ?_
    obtain ⟨y40, hy40, h41⟩ := bi_ok h39
    refine eo_callP (callable Tryz.func67 rfl rfl) (c_strings_Trim hy40) rfl (Nat.le_of_ble_eq_true rfl) rfl rfl rfl rfl rfl ?_
    refine go_ops hΓ 10 rfl ?_
    refine j_cond rfl (fun hb => ?_) (fun hb => ?_)
    · have h42 := cT h41 hb
      refine go hΓ 7 rfl ?_
      obtain rfl := Option.some.inj h42
      exact fin_pure hΓ (.inr rfl) rfl rfl
    · have h43 := cF h41 hb
      refine go hΓ 9 rfl ?_
      obtain rfl := Option.some.inj h43
      exact fin_pure hΓ (.inr rfl) rfl rfl
theorem c_lanelaw1_named {k : Nat} {r : Bool} (h : m_lanelaw1_named k = some r) : Pure Tryz.prog 14 [] (B r) := by
  refine Pure.enter (Fr.of 0 _) Tryz.func14 rfl (Fr.of_ok _) rfl rfl ?_
  refine go_in ?_
  unfold m_lanelaw1_named at h
  obtain ⟨y1, hy1, h2⟩ := bi_ok h
  refine go hΓ 7 rfl ?_
  refine eo_callP (callable Tryz.func35 rfl rfl) (c_name_Label hy1) rfl (Nat.le_of_ble_eq_true rfl) rfl rfl rfl rfl rfl ?_
  refine go_ops hΓ 2 rfl ?_
  obtain ⟨q3, hq3, h4⟩ := bi_ok h2
  refine o_cut 3 [(0, B false), (6, B q3)] [] ?_ ?_
  · refine eo_gsplit rfl rfl (fun hb => ?_) (fun hb => ?_)
    · have h5 := cT hq3 hb
      obtain ⟨y6, hy6, h7⟩ := bi_ok h5
      refine eo_guard rfl ?_
      refine eo_callP (callable Tryz.func29 rfl rfl) (c_name_CheckDomain hy6) rfl (Nat.le_of_ble_eq_true rfl) rfl rfl rfl rfl rfl ?_
      refine go_ops hΓ 3 rfl ?_
      obtain rfl := Option.some.inj h7
      exact ⟨⟨rfl, rfl, trivial⟩, [], rfl, .inl rfl⟩
    · have h8 := cF hq3 hb
      refine go_ops hΓ 4 rfl ?_
      obtain rfl := Option.some.inj h8
      exact ⟨⟨rfl, rfl, trivial⟩, [], rfl, .inl rfl⟩
  · refine go_ops hΓ 4 rfl ?_
    obtain rfl := Option.some.inj h4
    exact fin_pure hΓ (.inr rfl) rfl rfl
theorem c_laneref2_only {s : Str} {v_some : Str} {r : Bool} (h : m_laneref2_only s v_some = some r) : Pure Tryz.prog 69 [S s, S v_some] (B r) := by
  refine Pure.enter (Fr.of 0 _) Tryz.func69 rfl (Fr.of_ok _) rfl rfl ?_
  refine go_in ?_
  unfold m_laneref2_only at h
  obtain ⟨y1, hy1, h2⟩ := bi_ok h
  refine go hΓ 9 rfl ?_
  refine eo_callP (callable Tryz.func67 rfl rfl) (c_strings_Trim hy1) rfl (Nat.le_of_ble_eq_true rfl) rfl rfl rfl rfl rfl ?_
  refine go_ops hΓ 5 rfl ?_
  obtain rfl := Option.some.inj h2
  exact fin_pure hΓ (.inr rfl) rfl rfl
theorem c_laneref2_Number {s : Str} {most : Int} {r : Int × Bool} (h : m_laneref2_Number s most = some r) : Pure Tryz.prog 36 [S s, I most] (.tup [I r.1, B r.2]) := by
  refine Pure.enter (Fr.of 0 _) Tryz.func36 rfl (Fr.of_ok _) rfl rfl ?_
  refine go_in ?_
  unfold m_laneref2_Number at h
  obtain ⟨y1, hy1, h2⟩ := bi_ok h
  refine go hΓ 9 rfl ?_
  refine eo_callP (callable Tryz.func66 rfl rfl) (c_strings_TrimPrefix hy1) rfl (Nat.le_of_ble_eq_true rfl) rfl rfl rfl rfl rfl ?_
  refine go_ops hΓ 9 rfl ?_
  refine o_cut 5 [(0, S s), (6, S y1), (18, B (((y1 : Str) == []) || (decide (((y1.length : Int) : Int) > most))))] [] ?_ ?_
  · refine eo_gsplit rfl rfl (fun hb => ?_) (fun hb => ?_)
    · refine go_ops hΓ 6 rfl ?_
      exact ⟨⟨rfl, rfl, get_b rfl (or_t hb), trivial⟩, [], rfl, .inl rfl⟩
    · refine go_ops hΓ 6 rfl ?_
      exact ⟨⟨rfl, rfl, get_b rfl (or_f hb), trivial⟩, [], rfl, .inl rfl⟩
  · refine go_ops hΓ 1 rfl ?_
    obtain ⟨q3, hq3, h4⟩ := bi_ok h2
    refine o_cut 4 [(0, S s), (23, B q3)] [] ?_ ?_
    · refine eo_gsplit rfl rfl (fun hb => ?_) (fun hb => ?_)
      · have h5 := cT hq3 hb
        refine go_ops hΓ 5 rfl ?_
        obtain rfl := Option.some.inj h5
        exact ⟨⟨rfl, rfl, trivial⟩, [], rfl, .inl rfl⟩
      · have h6 := cF hq3 hb
        obtain ⟨y7, hy7, h8⟩ := bi_ok h6
        refine go_ops hΓ 1 rfl ?_
        refine eo_guard rfl ?_
        refine eo_callP (callable Tryz.func69 rfl rfl) (c_laneref2_only hy7) rfl (Nat.le_of_ble_eq_true rfl) rfl rfl rfl rfl rfl ?_
        refine go_ops hΓ 3 rfl ?_
        obtain rfl := Option.some.inj h8
        exact ⟨⟨rfl, rfl, trivial⟩, [], rfl, .inl rfl⟩
    · refine go_ops hΓ 2 rfl ?_
      refine j_cond rfl (fun hb => ?_) (fun hb => ?_)
      · have h9 := cT h4 hb
        refine go hΓ 8 rfl ?_
        obtain rfl := Option.some.inj h9
        exact fin_pure hΓ (.inr rfl) rfl rfl
      · have h10 := cF h4 hb
        obtain ⟨y11, hy11, h12⟩ := bi_ok h10
        refine go hΓ 5 rfl ?_
        refine eo_callP (callable Tryz.func70 rfl rfl) (c_strconv_Atoi hy11) rfl (Nat.le_of_ble_eq_true rfl) rfl rfl rfl rfl rfl ?_
        refine go_ops hΓ 11 rfl ?_
        refine eo_o rfl (op_ifaceNilE1 hΓ rfl rfl rfl rfl) ?_
        obtain ⟨y13, hy13, h14⟩ := bi_ok h12
        refine go_ops hΓ 2 rfl ?_
        refine eo_guard rfl ?_
        refine eo_callP (callable Tryz.func27 rfl rfl) (c_strconv_Itoa hy13) rfl (Nat.le_of_ble_eq_true rfl) rfl rfl rfl rfl rfl ?_
        refine go_ops hΓ 8 rfl ?_
        obtain rfl := Option.some.inj h14
        exact fin_pure hΓ (.inr rfl) rfl rfl
set_option maxHeartbeats 8000000 in
theorem c_laneref1_AddrOfBack {k : Nat} {name : Str} {r : T_api_Addr × Bool} (h : m_laneref1_AddrOfBack k name = some r) : Pure Tryz.prog 15 [S name] (.tup [.agg [B r.1.Six, U r.1.Hi, U r.1.Lo], B r.2]) := by
  refine Pure.enter (Fr.of 0 _) Tryz.func15 rfl (Fr.of_ok _) rfl rfl ?_
  refine go_in ?_
  unfold m_laneref1_AddrOfBack at h
  refine go hΓ 2 rfl ?_
  refine eo_alloc hΓ rfl rfl rfl (Nat.le_of_ble_eq_true rfl) ?_
  obtain ⟨y1, hy1, h2⟩ := bi_ok h
  refine go_ops hΓ 6 rfl ?_
  refine eo_callP (callable Tryz.func31 rfl rfl) (Pure.rows (c_strings_Split hy1) rfl rfl) rfl (Nat.le_of_ble_eq_true rfl) rfl rfl rfl rfl rfl ?_
  refine go_ops hΓ 5 rfl ?_
  refine eo_alloc hΓ rfl rfl rfl (Nat.le_of_ble_eq_true rfl) ?_
  obtain ⟨q3, hq3, h4⟩ := bi_ok h2
  refine go_ops hΓ 9 rfl ?_
  refine j_cutSZ (q := q3) (fun a5 => [(0, S name), (2, .ptr 0 0), (5, .ptr 1 0)]) (fun a5 => [.box 28 [B false, U 0, U 0], .box 28 [B a5.Six, U a5.Hi, U a5.Lo]]) ?_ ?_
  · refine go hΓ 7 rfl ?_
    refine j_cond rfl (fun hb => ?_) (fun hb => ?_)
    · have h6 := cT hq3 hb
      refine go hΓ 5 rfl ?_
      obtain ⟨q10, hq10, h11⟩ := bi_ok h6
      refine j_cutNZ [(0, S name), (2, .ptr 0 0), (5, .ptr 1 0)] [.box 28 [B false, U 0, U 0], .box 28 [B false, U 0, U q10]] ?_ ?_
      · refine go hΓ 1 rfl ?_
        refine j_loop hq10 (fun s8 => [(0, S name), (2, .ptr 0 0), (4, .d (Sl eS y1)), (5, .ptr 1 0), (18, I s8.2)]) (fun s8 => [.box 28 [B false, U 0, U 0], .box 28 [B false, U 0, U s8.1]]) ⟨⟨rfl, rfl, rfl, rfl, rfl, trivial⟩, [], rfl, .inl rfl⟩ (fun s8 y16 hy14 hout15 => ?_)
        refine go hΓ 6 rfl ?_
        refine j_cond rfl (fun hb => ?_) (fun hb => ?_)
        · have h17 := cT hy14 hb
          obtain ⟨x18, hx18, h19⟩ := bi_ok h17
          refine go hΓ 14 rfl ?_
          refine eo_o rfl (op_elemZ hΓ (enc := eS) hx18 rfl rfl rfl rfl rfl (fun _ => rfl)) ?_
          obtain ⟨y20, hy20, h21⟩ := bi_ok h19
          refine go_ops hΓ 1 rfl ?_
          refine eo_callP (callable Tryz.func36 rfl rfl) (c_laneref2_Number hy20) rfl (Nat.le_of_ble_eq_true rfl) rfl rfl rfl rfl rfl ?_
          refine go_ops hΓ 7 rfl ?_
          refine j_drawE [.dead, .box 28 [B false, U 0, U s8.1]] [1] [10] [10] hmix (by kernel_rfl) (by kernel_rfl) ⟨rfl, trivial⟩ (Nat.le_of_ble_eq_true rfl) ?_
          obtain ⟨y22, hy22, h23⟩ := bi_ok h21
          refine go_E hΓ 7 rfl ?_
          refine ge_q rfl (.inl rfl) (fun _ _ => qte_of_qt (qt_p (op_shlZ hy22 rfl rfl))) ?_
          refine go_E hΓ 2 rfl ?_
          refine ge_h0 [.box 28 [B false, U 0, U 0], .box 28 [B false, U 0, U (bitsV .or .u64 s8.1 y22)]] rfl rfl (brk_st rfl) (qte_u (opu_store2 hΓ rfl rfl rfl rfl rfl rfl rfl rfl rfl)) ?_
          refine ge_fin ?_
          refine go hΓ 6 rfl ?_
          obtain rfl := Option.some.inj h23
          exact ⟨_, rfl, ⟨⟨rfl, rfl, rfl, rfl, rfl, trivial⟩, [], rfl, .inl rfl⟩⟩
        · have h24 := cF hy14 hb
          refine go hΓ 4 rfl ?_
          obtain rfl := Option.some.inj h24
          obtain rfl := hout15 _ rfl
          exact ⟨⟨rfl, rfl, rfl, trivial⟩, [], rfl, .inl rfl⟩
      · refine go hΓ 1 rfl ?_
        obtain rfl := Option.some.inj h11
        exact ⟨_, rfl, ⟨⟨rfl, rfl, rfl, trivial⟩, [], rfl, .inl rfl⟩⟩
    · have h25 := cF hq3 hb
      refine go hΓ 6 rfl ?_
      refine j_cond rfl (fun hb => ?_) (fun hb => ?_)
      · have h26 := cT h25 hb
        refine go hΓ 3 rfl ?_
        refine eo_store hΓ rfl rfl rfl rfl rfl rfl rfl rfl (Nat.le_of_ble_eq_true rfl) ?_
        refine eo_hp [.box 28 [B false, U 0, U 0], .box 28 [B true, U 0, U 0]] rfl ?_
        refine go_ops hΓ 7 rfl ?_
        obtain ⟨q30, hq30, h31⟩ := bi_ok h26
        refine j_cutNZ [(0, S name), (2, .ptr 0 0), (5, .ptr 1 0)] [.box 28 [B false, U 0, U 0], .box 28 [B q30.Six, U q30.Hi, U q30.Lo]] ?_ ?_
        · refine go hΓ 1 rfl ?_
          refine j_loop hq30 (fun s28 => [(0, S name), (2, .ptr 0 0), (4, .d (Sl eS y1)), (5, .ptr 1 0), (43, I s28.2.2)]) (fun s28 => [.box 28 [B false, U 0, U 0], .box 28 [B true, U s28.1, U s28.2.1]]) ⟨⟨rfl, rfl, rfl, rfl, rfl, trivial⟩, [], rfl, .inl rfl⟩ (fun s28 y36 hy34 hout35 => ?_)
          refine go hΓ 6 rfl ?_
          refine j_cond rfl (fun hb => ?_) (fun hb => ?_)
          · have h37 := cT hy34 hb
            obtain ⟨x38, hx38, h39⟩ := bi_ok h37
            refine go hΓ 14 rfl ?_
            refine eo_o rfl (op_elemZ hΓ (enc := eS) hx38 rfl rfl rfl rfl rfl (fun _ => rfl)) ?_
            obtain ⟨y40, hy40, h41⟩ := bi_ok h39
            refine go_ops hΓ 1 rfl ?_
            refine eo_callP (callable Tryz.func37 rfl rfl) (c_strings_Index hy40) rfl (Nat.le_of_ble_eq_true rfl) rfl rfl rfl rfl rfl ?_
            refine go_ops hΓ 11 rfl ?_
            refine j_cond rfl (fun hb => ?_) (fun hb => ?_)
            · have h42 := cT h41 hb
              refine j_drawE [.dead, .box 28 [B true, U s28.1, U s28.2.1]] [1] [8] [8] hmix (by kernel_rfl) (by kernel_rfl) ⟨rfl, trivial⟩ (Nat.le_of_ble_eq_true rfl) ?_
              obtain ⟨y43, hy43, h44⟩ := bi_ok h42
              refine go_E hΓ 5 rfl ?_
              refine ge_q rfl (.inl rfl) (fun _ _ => qte_of_qt (qt_p (op_shlZ hy43 rfl rfl))) ?_
              refine go_E hΓ 2 rfl ?_
              refine ge_h0 [.box 28 [B false, U 0, U 0], .box 28 [B true, U s28.1, U (bitsV .or .u64 s28.2.1 y43)]] rfl rfl (brk_st rfl) (qte_u (opu_store2 hΓ rfl rfl rfl rfl rfl rfl rfl rfl rfl)) ?_
              refine ge_fin ?_
              refine go hΓ 6 rfl ?_
              obtain rfl := Option.some.inj h44
              exact ⟨_, rfl, ⟨⟨rfl, rfl, rfl, rfl, rfl, trivial⟩, [], rfl, .inl rfl⟩⟩
            · have h45 := cF h41 hb
              refine j_drawE [.dead, .box 28 [B true, U s28.1, U s28.2.1]] [1] [9] [9] hmix (by kernel_rfl) (by kernel_rfl) ⟨rfl, trivial⟩ (Nat.le_of_ble_eq_true rfl) ?_
              obtain ⟨y46, hy46, h47⟩ := bi_ok h45
              refine go_E hΓ 6 rfl ?_
              refine ge_q rfl (.inl rfl) (fun _ _ => qte_of_qt (qt_p (op_shlZ hy46 rfl rfl))) ?_
              refine go_E hΓ 2 rfl ?_
              refine ge_h0 [.box 28 [B false, U 0, U 0], .box 28 [B true, U (bitsV .or .u64 s28.1 y46), U s28.2.1]] rfl rfl (brk_st rfl) (qte_u (opu_store2 hΓ rfl rfl rfl rfl rfl rfl rfl rfl rfl)) ?_
              refine ge_fin ?_
              refine go hΓ 6 rfl ?_
              obtain rfl := Option.some.inj h47
              exact ⟨_, rfl, ⟨⟨rfl, rfl, rfl, rfl, rfl, trivial⟩, [], rfl, .inl rfl⟩⟩
          · have h48 := cF hy34 hb
            refine go hΓ 4 rfl ?_
            obtain rfl := Option.some.inj h48
            obtain rfl := hout35 _ rfl
            exact ⟨⟨rfl, rfl, rfl, trivial⟩, [], rfl, .inl rfl⟩
        · refine go hΓ 1 rfl ?_
          obtain rfl := Option.some.inj h31
          exact ⟨_, rfl, ⟨⟨rfl, rfl, rfl, trivial⟩, [], rfl, .inl rfl⟩⟩
      · have h49 := cF h25 hb
        refine go hΓ 2 rfl ?_
        refine eo_build hΓ (gs := [B false, U 0, U 0]) rfl rfl rfl rfl rfl rfl rfl ?_
        refine eo_store hΓ rfl rfl rfl rfl rfl rfl rfl rfl (Nat.le_of_ble_eq_true rfl) ?_
        refine eo_hp [.box 28 [B false, U 0, U 0], .box 28 [B false, U 0, U 0]] rfl ?_
        refine go_ops hΓ 5 rfl ?_
        obtain ⟨v50, hv50, h51⟩ := bi_ok h49
        obtain rfl := Option.some.inj h51
        obtain rfl := Option.some.inj h4
        refine go hΓ 2 rfl ?_
        obtain rfl := Option.some.inj hv50
        exact fin_pure hΓ (.inr rfl) rfl rfl
  · intro a5 ha
    subst ha
    replace h4 := orI_l h4
    obtain ⟨y52, hy52, h53⟩ := bi_ok h4
    refine go hΓ 5 rfl ?_
    refine eo_callP (callable Tryz.func8 rfl rfl) (c_laneref1_BackName hy52) rfl (Nat.le_of_ble_eq_true rfl) rfl rfl rfl rfl rfl ?_
    refine go_ops hΓ 4 rfl ?_
    refine j_cond rfl (fun hb => ?_) (fun hb => ?_)
    · have h54 := cT h53 hb
      refine go hΓ 2 rfl ?_
      refine eo_build hΓ (gs := [B false, U 0, U 0]) rfl rfl rfl rfl rfl rfl rfl ?_
      refine eo_store hΓ rfl rfl rfl rfl rfl rfl rfl rfl (Nat.le_of_ble_eq_true rfl) ?_
      refine eo_hp [.box 28 [B false, U 0, U 0], .box 28 [B a5.Six, U a5.Hi, U a5.Lo]] rfl ?_
      refine go_ops hΓ 5 rfl ?_
      obtain rfl := Option.some.inj h54
      exact fin_pure hΓ (.inr rfl) rfl rfl
    · have h55 := cF h53 hb
      refine go hΓ 5 rfl ?_
      refine eo_store hΓ rfl rfl rfl rfl rfl rfl rfl rfl (Nat.le_of_ble_eq_true rfl) ?_
      refine eo_hp [.box 28 [B a5.Six, U a5.Hi, U a5.Lo], .box 28 [B a5.Six, U a5.Hi, U a5.Lo]] rfl ?_
      refine go_ops hΓ 4 rfl ?_
      obtain rfl := Option.some.inj h55
      exact fin_pure hΓ (.inr rfl) rfl rfl
set_option maxHeartbeats 8000000 in
theorem c_lanelaw1_AddressesNamed {k : Nat} {l : List Int} {r : Bool} (h : m_lanelaw1_AddressesNamed k l = some r) : Pure Tryz.prog 3 [.d (Sl (eN .i64) l)] (B r) := by
  refine Pure.enter (Fr.of 0 _) Tryz.func3 rfl (Fr.of_ok _) rfl rfl ?_
  refine go_in ?_
  unfold m_lanelaw1_AddressesNamed at h
  refine go hΓ 8 rfl ?_
  refine eo_build hΓ (gs := [.d (Sl (eN .i64) l), I 0]) rfl rfl rfl rfl rfl rfl rfl ?_
  refine eo_box rfl rfl rfl rfl (Nat.le_of_ble_eq_true rfl) ?_
  obtain ⟨y1, hy1, h2⟩ := bi_ok h
  refine go_ops hΓ 6 rfl ?_
  refine eo_callF [0] (.agg [B y1.1.Six, U y1.1.Hi, U y1.1.Lo]) [.box 25 [.d (Sl (eN .i64) y1.2.L), I y1.2.v_at]] (callable Tryz.func5 rfl rfl) (c_lanemake_Stream_Raw hy1) rfl (Nat.le_of_ble_eq_true rfl) rfl rfl rfl rfl rfl rfl rfl rfl rfl rfl ?_
  refine eo_alloc hΓ rfl rfl rfl (Nat.le_of_ble_eq_true rfl) ?_
  refine eo_store hΓ rfl rfl rfl rfl rfl rfl rfl rfl (Nat.le_of_ble_eq_true rfl) ?_
  refine eo_hp [.box 25 [.d (Sl (eN .i64) y1.2.L), I y1.2.v_at], .box 28 [B y1.1.Six, U y1.1.Hi, U y1.1.Lo]] rfl ?_
  obtain ⟨y3, hy3, h4⟩ := bi_ok h2
  refine go_ops hΓ 5 rfl ?_
  refine eo_callP (callable Tryz.func6 rfl rfl) (c_name_Back hy3) rfl (Nat.le_of_ble_eq_true rfl) rfl rfl rfl rfl rfl ?_
  obtain ⟨y5, hy5, h6⟩ := bi_ok h4
  refine go_ops hΓ 11 rfl ?_
  refine eo_callP (callable Tryz.func7 rfl rfl) (c_laneref2_AddrFault hy5) rfl (Nat.le_of_ble_eq_true rfl) rfl rfl rfl rfl rfl ?_
  refine go_ops hΓ 9 rfl ?_
  obtain ⟨q7, hq7, h8⟩ := bi_ok h6
  refine o_cut 9 [(3, .ptr 0 0), (5, S y3.1), (7, I y5), (39, B q7)] [.box 25 [.d (Sl (eN .i64) y1.2.L), I y1.2.v_at], .box 28 [B y1.1.Six, U y1.1.Hi, U y1.1.Lo]] ?_ ?_
  · refine eo_gsplit rfl rfl (fun hb => ?_) (fun hb => ?_)
    · have h9 := cT hq7 hb
      refine go_ops hΓ 10 rfl ?_
      obtain rfl := Option.some.inj h9
      exact ⟨⟨rfl, rfl, rfl, rfl, trivial⟩, [], rfl, .inl rfl⟩
    · have h10 := cF hq7 hb
      refine go_ops hΓ 3 rfl ?_
      obtain ⟨q11, hq11, h12⟩ := bi_ok h10
      refine o_cut 5 [(3, .ptr 0 0), (5, S y3.1), (7, I y5), (30, B false), (38, B q11)] [.box 25 [.d (Sl (eN .i64) y1.2.L), I y1.2.v_at], .box 28 [B y1.1.Six, U y1.1.Hi, U y1.1.Lo]] ?_ ?_
      · refine eo_gsplit rfl rfl (fun hb => ?_) (fun hb => ?_)
        · have h13 := cT hq11 hb
          obtain ⟨y14, hy14, h15⟩ := bi_ok h13
          refine go_ops hΓ 2 rfl ?_
          refine eo_guard rfl ?_
          refine eo_callP (callable Tryz.func8 rfl rfl) (c_laneref1_BackName hy14) rfl (Nat.le_of_ble_eq_true rfl) rfl rfl rfl rfl rfl ?_
          refine go_ops hΓ 3 rfl ?_
          obtain rfl := Option.some.inj h15
          exact ⟨⟨rfl, rfl, rfl, rfl, rfl, trivial⟩, [], rfl, .inl rfl⟩
        · have h16 := cF hq11 hb
          refine go_ops hΓ 6 rfl ?_
          obtain rfl := Option.some.inj h16
          exact ⟨⟨rfl, rfl, rfl, rfl, rfl, trivial⟩, [], rfl, .inl rfl⟩
      · refine go_ops hΓ 2 rfl ?_
        obtain rfl := Option.some.inj h12
        exact ⟨⟨rfl, rfl, rfl, rfl, trivial⟩, [], rfl, .inl rfl⟩
  · refine go_ops hΓ 1 rfl ?_
    refine o_cut 7 [(3, .ptr 0 0), (47, B (q7 || (((y5 : Int) != 0) && (!((y3.1 : Str) == [])))))] [.box 25 [.d (Sl (eN .i64) y1.2.L), I y1.2.v_at], .box 28 [B y1.1.Six, U y1.1.Hi, U y1.1.Lo]] ?_ ?_
    · refine eo_gsplit rfl rfl (fun hb => ?_) (fun hb => ?_)
      · refine go_ops hΓ 8 rfl ?_
        exact ⟨⟨rfl, get_b rfl (or_t hb), trivial⟩, [], rfl, .inl rfl⟩
      · refine go_ops hΓ 3 rfl ?_
        refine o_cut 3 [(3, .ptr 0 0), (40, B false), (46, B (((y5 : Int) != 0) && (!((y3.1 : Str) == []))))] [.box 25 [.d (Sl (eN .i64) y1.2.L), I y1.2.v_at], .box 28 [B y1.1.Six, U y1.1.Hi, U y1.1.Lo]] ?_ ?_
        · refine eo_gsplit rfl rfl (fun hb => ?_) (fun hb => ?_)
          · refine go_ops hΓ 4 rfl ?_
            exact ⟨⟨rfl, rfl, get_b rfl (and_t hb), trivial⟩, [], rfl, .inl rfl⟩
          · refine go_ops hΓ 4 rfl ?_
            exact ⟨⟨rfl, rfl, get_b rfl (and_f hb), trivial⟩, [], rfl, .inl rfl⟩
        · refine go_ops hΓ 2 rfl ?_
          exact ⟨⟨rfl, get_b rfl (or_f hb), trivial⟩, [], rfl, .inl rfl⟩
    · refine go_ops hΓ 2 rfl ?_
      refine j_cond rfl (fun hb => ?_) (fun hb => ?_)
      · have h17 := cT h8 hb
        refine go hΓ 7 rfl ?_
        obtain rfl := Option.some.inj h17
        exact fin_pure hΓ (.inr rfl) rfl rfl
      · have h18 := cF h8 hb
        obtain ⟨y19, hy19, h20⟩ := bi_ok h18
        refine go hΓ 5 rfl ?_
        refine eo_callF [0] (.agg [B y19.1.Six, U y19.1.Hi, U y19.1.Lo]) [.box 25 [.d (Sl (eN .i64) y19.2.L), I y19.2.v_at], .box 28 [B y1.1.Six, U y1.1.Hi, U y1.1.Lo]] (callable Tryz.func9 rfl rfl) (c_lanemake_Stream_Addr hy19) rfl (Nat.le_of_ble_eq_true rfl) rfl rfl rfl rfl rfl rfl rfl rfl rfl rfl ?_
        obtain ⟨y21, hy21, h22⟩ := bi_ok h20
        refine eo_callP (callable Tryz.func8 rfl rfl) (c_laneref1_BackName hy21) rfl (Nat.le_of_ble_eq_true rfl) rfl rfl rfl rfl rfl ?_
        obtain ⟨y23, hy23, h24⟩ := bi_ok h22
        refine go_ops hΓ 7 rfl ?_
        refine eo_callF [0] (B y23.1) [.box 25 [.d (Sl (eN .i64) y23.2.L), I y23.2.v_at], .box 28 [B y1.1.Six, U y1.1.Hi, U y1.1.Lo]] (callable Tryz.func10 rfl rfl) (c_lanemake_Stream_Flip hy23) rfl (Nat.le_of_ble_eq_true rfl) rfl rfl rfl rfl rfl rfl rfl rfl rfl rfl ?_
        obtain ⟨q25, hq25, h26⟩ := bi_ok h24
        refine go_ops hΓ 2 rfl ?_
        refine j_cutNZ [(8, S q25.2)] [.box 25 [.d (Sl (eN .i64) q25.1.L), I q25.1.v_at], .box 28 [B y1.1.Six, U y1.1.Hi, U y1.1.Lo]] ?_ ?_
        · refine j_cond rfl (fun hb => ?_) (fun hb => ?_)
          · have h27 := cT hq25 hb
            obtain ⟨y28, hy28, h29⟩ := bi_ok h27
            refine go hΓ 3 rfl ?_
            refine eo_callF [0] (S y28.1) [.box 25 [.d (Sl (eN .i64) y28.2.L), I y28.2.v_at], .box 28 [B y1.1.Six, U y1.1.Hi, U y1.1.Lo]] (callable Tryz.func11 rfl rfl) (c_lanemake_Stream_Changed hy28) rfl (Nat.le_of_ble_eq_true rfl) rfl rfl rfl rfl rfl rfl rfl rfl rfl rfl ?_
            refine go_ops hΓ 2 rfl ?_
            obtain rfl := Option.some.inj h29
            exact ⟨⟨rfl, trivial⟩, [], rfl, .inl rfl⟩
          · have h30 := cF hq25 hb
            refine go hΓ 1 rfl ?_
            obtain rfl := Option.some.inj h30
            exact ⟨⟨rfl, trivial⟩, [], rfl, .inl rfl⟩
        · obtain ⟨y31, hy31, h32⟩ := bi_ok h26
          refine go hΓ 4 rfl ?_
          refine eo_callP (callable Tryz.func12 rfl rfl) (c_name_BackTo hy31) rfl (Nat.le_of_ble_eq_true rfl) rfl rfl rfl rfl rfl ?_
          refine go_ops hΓ 4 rfl ?_
          refine eo_alloc hΓ rfl rfl rfl (Nat.le_of_ble_eq_true rfl) ?_
          refine eo_store hΓ rfl rfl rfl rfl rfl rfl rfl rfl (Nat.le_of_ble_eq_true rfl) ?_
          refine eo_hp [.box 25 [.d (Sl (eN .i64) q25.1.L), I q25.1.v_at], .box 28 [B y1.1.Six, U y1.1.Hi, U y1.1.Lo], .box 28 [B y31.1.Six, U y31.1.Hi, U y31.1.Lo]] rfl ?_
          obtain ⟨y33, hy33, h34⟩ := bi_ok h32
          refine go_ops hΓ 8 rfl ?_
          refine eo_callP (callable Tryz.func13 rfl rfl) (c_laneref1_DomainFault hy33) rfl (Nat.le_of_ble_eq_true rfl) rfl rfl rfl rfl rfl ?_
          refine go_ops hΓ 9 rfl ?_
          refine j_cond rfl (fun hb => ?_) (fun hb => ?_)
          · have h35 := cT h34 hb
            refine go hΓ 6 rfl ?_
            refine o_cut 3 [(9, .ptr 2 0), (72, B (((y31.2.2 : Int) == y33) && (!y31.2.1)))] [.box 25 [.d (Sl (eN .i64) q25.1.L), I q25.1.v_at], .box 28 [B y1.1.Six, U y1.1.Hi, U y1.1.Lo], .box 28 [B y31.1.Six, U y31.1.Hi, U y31.1.Lo]] ?_ ?_
            · refine eo_gsplit rfl rfl (fun hb => ?_) (fun hb => ?_)
              · refine go_ops hΓ 4 rfl ?_
                exact ⟨⟨rfl, get_b rfl (and_t hb), trivial⟩, [], rfl, .inl rfl⟩
              · refine go_ops hΓ 4 rfl ?_
                exact ⟨⟨rfl, get_b rfl (and_f hb), trivial⟩, [], rfl, .inl rfl⟩
            · refine go_ops hΓ 1 rfl ?_
              refine o_cut 4 [(77, B ((((y31.2.2 : Int) == y33) && (!y31.2.1)) && (((y31.1.Six : Bool) == false) && (((y31.1.Hi : Int) == 0) && (((y31.1.Lo : Int) == 0) && true)))))] [.box 25 [.d (Sl (eN .i64) q25.1.L), I q25.1.v_at], .box 28 [B y1.1.Six, U y1.1.Hi, U y1.1.Lo], .box 28 [B y31.1.Six, U y31.1.Hi, U y31.1.Lo]] ?_ ?_
              · refine eo_gsplit rfl rfl (fun hb => ?_) (fun hb => ?_)
                · refine go_ops hΓ 1 rfl ?_
                  refine eo_guard rfl ?_
                  refine eo_build hΓ (gs := [B false, U 0, U 0]) rfl rfl rfl rfl rfl rfl rfl ?_
                  refine eo_guard rfl ?_
                  refine eo_o rfl (op_eqS hΓ [28] (b := (((y31.1.Six : Bool) == false) && (((y31.1.Hi : Int) == 0) && (((y31.1.Lo : Int) == 0) && true)))) (by kernel_rfl) (by kernel_rfl) rfl rfl rfl) ?_
                  refine go_ops hΓ 2 rfl ?_
                  exact ⟨⟨get_b rfl (and_t hb), trivial⟩, [], rfl, .inl rfl⟩
                · refine go_ops hΓ 5 rfl ?_
                  exact ⟨⟨get_b rfl (and_f hb), trivial⟩, [], rfl, .inl rfl⟩
              · refine go_ops hΓ 1 rfl ?_
                obtain ⟨q36, hq36, h37⟩ := bi_ok h35
                refine o_cut 2 [(80, B q36)] [.box 25 [.d (Sl (eN .i64) q25.1.L), I q25.1.v_at], .box 28 [B y1.1.Six, U y1.1.Hi, U y1.1.Lo], .box 28 [B y31.1.Six, U y31.1.Hi, U y31.1.Lo]] ?_ ?_
                · refine eo_gsplit rfl rfl (fun hb => ?_) (fun hb => ?_)
                  · have h38 := cT hq36 hb
                    obtain ⟨y39, hy39, h40⟩ := bi_ok h38
                    refine eo_guard rfl ?_
                    refine eo_callP (callable Tryz.func14 rfl rfl) (c_lanelaw1_named hy39) rfl (Nat.le_of_ble_eq_true rfl) rfl rfl rfl rfl rfl ?_
                    refine go_ops hΓ 2 rfl ?_
                    obtain rfl := Option.some.inj h40
                    exact ⟨⟨rfl, trivial⟩, [], rfl, .inl rfl⟩
                  · have h41 := cF hq36 hb
                    refine go_ops hΓ 3 rfl ?_
                    obtain rfl := Option.some.inj h41
                    exact ⟨⟨rfl, trivial⟩, [], rfl, .inl rfl⟩
                · refine go_ops hΓ 5 rfl ?_
                  obtain rfl := Option.some.inj h37
                  exact fin_pure hΓ (.inr rfl) rfl rfl
          · have h42 := cF h34 hb
            obtain ⟨y43, hy43, h44⟩ := bi_ok h42
            refine go hΓ 5 rfl ?_
            refine eo_callP (callable Tryz.func15 rfl rfl) (c_laneref1_AddrOfBack hy43) rfl (Nat.le_of_ble_eq_true rfl) rfl rfl rfl rfl rfl ?_
            refine go_ops hΓ 3 rfl ?_
            refine eo_alloc hΓ rfl rfl rfl (Nat.le_of_ble_eq_true rfl) ?_
            refine eo_store hΓ rfl rfl rfl rfl rfl rfl rfl rfl (Nat.le_of_ble_eq_true rfl) ?_
            refine eo_hp [.box 25 [.d (Sl (eN .i64) q25.1.L), I q25.1.v_at], .box 28 [B y1.1.Six, U y1.1.Hi, U y1.1.Lo], .box 28 [B y31.1.Six, U y31.1.Hi, U y31.1.Lo], .box 28 [B y43.1.Six, U y43.1.Hi, U y43.1.Lo]] rfl ?_
            refine go_ops hΓ 8 rfl ?_
            refine o_cut 4 [(10, B y31.2.1), (14, B y43.2), (92, B (((y31.2.2 : Int) == 0) && (((y31.1.Six : Bool) == y43.1.Six) && (((y31.1.Hi : Int) == y43.1.Hi) && (((y31.1.Lo : Int) == y43.1.Lo) && true)))))] [.box 25 [.d (Sl (eN .i64) q25.1.L), I q25.1.v_at], .box 28 [B y1.1.Six, U y1.1.Hi, U y1.1.Lo], .box 28 [B y31.1.Six, U y31.1.Hi, U y31.1.Lo], .box 28 [B y43.1.Six, U y43.1.Hi, U y43.1.Lo]] ?_ ?_
            · refine eo_gsplit rfl rfl (fun hb => ?_) (fun hb => ?_)
              · refine go_ops hΓ 2 rfl ?_
                refine eo_guard rfl ?_
                refine eo_o rfl (op_eqS hΓ [28] (b := (((y31.1.Six : Bool) == y43.1.Six) && (((y31.1.Hi : Int) == y43.1.Hi) && (((y31.1.Lo : Int) == y43.1.Lo) && true)))) (by kernel_rfl) (by kernel_rfl) rfl rfl rfl) ?_
                refine go_ops hΓ 2 rfl ?_
                exact ⟨⟨rfl, rfl, get_b rfl (and_t hb), trivial⟩, [], rfl, .inl rfl⟩
              · refine go_ops hΓ 5 rfl ?_
                exact ⟨⟨rfl, rfl, get_b rfl (and_f hb), trivial⟩, [], rfl, .inl rfl⟩
            · refine go_ops hΓ 1 rfl ?_
              refine o_cut 4 [(97, B ((((y31.2.2 : Int) == 0) && (((y31.1.Six : Bool) == y43.1.Six) && (((y31.1.Hi : Int) == y43.1.Hi) && (((y31.1.Lo : Int) == y43.1.Lo) && true)))) && ((y31.2.1 : Bool) == y43.2)))] [.box 25 [.d (Sl (eN .i64) q25.1.L), I q25.1.v_at], .box 28 [B y1.1.Six, U y1.1.Hi, U y1.1.Lo], .box 28 [B y31.1.Six, U y31.1.Hi, U y31.1.Lo], .box 28 [B y43.1.Six, U y43.1.Hi, U y43.1.Lo]] ?_ ?_
              · refine eo_gsplit rfl rfl (fun hb => ?_) (fun hb => ?_)
                · refine go_ops hΓ 5 rfl ?_
                  exact ⟨⟨get_b rfl (and_t hb), trivial⟩, [], rfl, .inl rfl⟩
                · refine go_ops hΓ 5 rfl ?_
                  exact ⟨⟨get_b rfl (and_f hb), trivial⟩, [], rfl, .inl rfl⟩
              · refine go_ops hΓ 1 rfl ?_
                obtain ⟨q45, hq45, h46⟩ := bi_ok h44
                refine o_cut 2 [(100, B q45)] [.box 25 [.d (Sl (eN .i64) q25.1.L), I q25.1.v_at], .box 28 [B y1.1.Six, U y1.1.Hi, U y1.1.Lo], .box 28 [B y31.1.Six, U y31.1.Hi, U y31.1.Lo], .box 28 [B y43.1.Six, U y43.1.Hi, U y43.1.Lo]] ?_ ?_
                · refine eo_gsplit rfl rfl (fun hb => ?_) (fun hb => ?_)
                  · have h47 := cT hq45 hb
                    obtain ⟨y48, hy48, h49⟩ := bi_ok h47
                    refine eo_guard rfl ?_
                    refine eo_callP (callable Tryz.func14 rfl rfl) (c_lanelaw1_named hy48) rfl (Nat.le_of_ble_eq_true rfl) rfl rfl rfl rfl rfl ?_
                    refine go_ops hΓ 2 rfl ?_
                    obtain rfl := Option.some.inj h49
                    exact ⟨⟨rfl, trivial⟩, [], rfl, .inl rfl⟩
                  · have h50 := cF hq45 hb
                    refine go_ops hΓ 3 rfl ?_
                    obtain rfl := Option.some.inj h50
                    exact ⟨⟨rfl, trivial⟩, [], rfl, .inl rfl⟩
                · refine go_ops hΓ 4 rfl ?_
                  obtain rfl := Option.some.inj h46
                  exact fin_pure hΓ (.inr rfl) rfl rfl
end Go.Proofs.YtffmljbfffojlaaGreatDoor
