/-
  The functions compute their models.
-/
import Derived.Test.YtnjnmkpgedkffaaGreatDoorXWM
import Derived.Test.YtnjnmkpgedkffaaGreatDoorGt
import Derived.Test.YtnjnmkpgedkffaaGreatDoorStrR
set_option linter.unusedVariables false
set_option linter.unusedSimpArgs false
set_option maxRecDepth 100000
namespace Go.Proofs.YtnjnmkpgedkffaaGreatDoor
open Go.Gk
abbrev e_lanemake_Stream (x : T_lanemake_Stream) : List D := [Sl (eN .i64) x.L, .v (.int .i64 x.v_at)]
abbrev e_api_Addr (x : T_api_Addr) : List D := [.v (.bool x.Six), .v (.int .u64 x.Hi), .v (.int .u64 x.Lo)]
abbrev e_api_Prefix (x : T_api_Prefix) : List D := [.v (.bool x.Addr.Six), .v (.int .u64 x.Addr.Hi), .v (.int .u64 x.Addr.Lo), .v (.int .i64 x.Bits)]
abbrev e_api_Router (x : T_api_Router) : List D := [.v (.bool x.Prefix.Addr.Six), .v (.int .u64 x.Prefix.Addr.Hi), .v (.int .u64 x.Prefix.Addr.Lo), .v (.int .i64 x.Prefix.Bits), .v (.string ⟨x.Node.toArray⟩), .v (.int .i64 x.Weight)]
abbrev e_api_Health (x : T_api_Health) : List D := [.v (.int .i64 x.At), .v (.string ⟨x.Node.toArray⟩), .v (.bool x.Up)]
abbrev e_api_Lead (x : T_api_Lead) : List D := [.v (.bool x.Prefix.Addr.Six), .v (.int .u64 x.Prefix.Addr.Hi), .v (.int .u64 x.Prefix.Addr.Lo), .v (.int .i64 x.Prefix.Bits), .v (.string ⟨x.Node.toArray⟩)]
abbrev e_route_group (x : T_route_group) : List D := [.v (.bool x.v_prefix.Addr.Six), .v (.int .u64 x.v_prefix.Addr.Hi), .v (.int .u64 x.v_prefix.Addr.Lo), .v (.int .i64 x.v_prefix.Bits), Slt 69 6 e_api_Router x.list]
abbrev e_api_Turn (x : T_api_Turn) : List D := [.v (.string ⟨x.Who.toArray⟩), .v (.int .i64 x.From), .v (.int .i64 x.To)]
abbrev e_api_Link (x : T_api_Link) : List D := [.v (.string ⟨x.A.toArray⟩), .v (.string ⟨x.v_B.toArray⟩), .v (.int .i64 x.Millis)]
abbrev e_route_step (x : T_route_step) : List D := [.v (.string ⟨x.v_to.toArray⟩), .v (.int .i64 x.millis)]
abbrev e_route_far (x : T_route_far) : List D := [.v (.int .i64 x.millis), .v (.int .i64 x.links)]
abbrev e_api_Window (x : T_api_Window) : List D := [.v (.int .i64 x.From), .v (.int .i64 x.To)]
theorem c_lanemake_Below {x : Int} {n : Int} {r : Int} (h : m_lanemake_Below x n = some r) : Pure Tryz.prog 80 [I x, I n] (I r) := by
  refine Pure.enter (Fr.of 0 _) Tryz.func80 rfl (Fr.of_ok _) rfl rfl ?_
  refine go_in ?_
  unfold m_lanemake_Below at h
  refine go hΓ 12 rfl ?_
  refine j_cond rfl (fun hb => ?_) (fun hb => ?_)
  · have h1 := cT h hb
    refine go hΓ 7 rfl ?_
    obtain rfl := Option.some.inj h1
    exact fin_pure hΓ (.inr rfl) rfl rfl
  · have h2 := cF h hb
    obtain ⟨y3, hy3, h4⟩ := bi_ok h2
    refine go hΓ 6 rfl ?_
    refine eo_o rfl (op_remZ hy3 rfl rfl) ?_
    obtain ⟨q5, hq5, h6⟩ := bi_ok h4
    refine go_ops hΓ 10 rfl ?_
    refine j_cutNZ [(0, I q5)] [] ?_ ?_
    · refine j_cond rfl (fun hb => ?_) (fun hb => ?_)
      · have h7 := cT hq5 hb
        refine go hΓ 6 rfl ?_
        obtain rfl := Option.some.inj h7
        exact ⟨⟨rfl, trivial⟩, [], rfl, .inl rfl⟩
      · have h8 := cF hq5 hb
        refine go hΓ 1 rfl ?_
        obtain rfl := Option.some.inj h8
        exact ⟨⟨rfl, trivial⟩, [], rfl, .inl rfl⟩
    · refine go hΓ 8 rfl ?_
      obtain rfl := Option.some.inj h6
      exact fin_pure hΓ (.inr rfl) rfl rfl
theorem c_lanemake_Stream_Next {s : T_lanemake_Stream} {n : Int} {r : Int × T_lanemake_Stream} (h : m_lanemake_Stream_Next s n = some r) : EC Tryz.prog 29 [.ptr 0 0, I n] [.box 25 [.d (Sl (eN .i64) s.L), I s.v_at]] fun g hp' => g = I r.1 ∧ hp' = [.box 25 [.d (Sl (eN .i64) r.2.L), I r.2.v_at]] := by
  refine ec_enter (Fr.of 0 _) Tryz.func29 rfl (Fr.of_ok _) (Nat.le_of_ble_eq_true rfl) fun _ => ?_
  refine go_in ?_
  unfold m_lanemake_Stream_Next at h
  refine go hΓ 14 rfl ?_
  refine eo_store hΓ rfl rfl rfl rfl rfl rfl rfl rfl (Nat.le_of_ble_eq_true rfl) ?_
  refine eo_hp [.box 25 [.d (Sl (eN .i64) s.L), I (wi (s.v_at + 1))]] rfl ?_
  refine go_ops hΓ 13 rfl ?_
  refine j_cond rfl (fun hb => ?_) (fun hb => ?_)
  · have h1 := cT h hb
    obtain ⟨y2, hy2, h3⟩ := bi_ok h1
    refine go hΓ 8 rfl ?_
    refine eo_callP (callable Tryz.func80 rfl rfl) (c_lanemake_Below hy2) rfl (Nat.le_of_ble_eq_true rfl) rfl rfl rfl rfl rfl ?_
    refine go_ops hΓ 5 rfl ?_
    obtain rfl := Option.some.inj h3
    exact fin_objs hΓ [] (.inr rfl) rfl rfl rfl rfl (.inl rfl)
  · have h4 := cF h hb
    refine go hΓ 3 rfl ?_
    refine j_draw hmix (by kernel_rfl) ?_
    obtain ⟨y5, hy5, h6⟩ := bi_ok h4
    refine go hΓ 10 rfl ?_
    refine gl_o rfl (op_remZ hy5 rfl rfl) ?_
    refine go_draw hΓ 4 rfl ?_
    refine j_draw hmix (by kernel_rfl) ?_
    obtain ⟨y7, hy7, h8⟩ := bi_ok h6
    refine go hΓ 10 rfl ?_
    refine gl_o rfl (op_quoZ hy7 rfl rfl) ?_
    obtain ⟨x9, hx9, h10⟩ := bi_ok h8
    refine go_draw hΓ 10 rfl ?_
    refine eo_o rfl (op_elemZ hΓ (enc := (eN .i64)) hx9 rfl rfl rfl rfl rfl (fun _ => rfl)) ?_
    obtain ⟨y11, hy11, h12⟩ := bi_ok h10
    refine go_ops hΓ 1 rfl ?_
    refine eo_callP (callable Tryz.func80 rfl rfl) (c_lanemake_Below hy11) rfl (Nat.le_of_ble_eq_true rfl) rfl rfl rfl rfl rfl ?_
    obtain ⟨y13, hy13, h14⟩ := bi_ok h12
    refine go_ops hΓ 6 rfl ?_
    refine eo_callP (callable Tryz.func80 rfl rfl) (c_lanemake_Below hy13) rfl (Nat.le_of_ble_eq_true rfl) rfl rfl rfl rfl rfl ?_
    refine go_ops hΓ 4 rfl ?_
    obtain rfl := Option.some.inj h14
    exact fin_objs hΓ [] (.inr rfl) rfl rfl rfl rfl (.inl rfl)
theorem c_lanemake_Stream_Flip {s : T_lanemake_Stream} {n : Int} {r : Bool × T_lanemake_Stream} (h : m_lanemake_Stream_Flip s n = some r) : EC Tryz.prog 11 [.ptr 0 0, I n] [.box 25 [.d (Sl (eN .i64) s.L), I s.v_at]] fun g hp' => g = B r.1 ∧ hp' = [.box 25 [.d (Sl (eN .i64) r.2.L), I r.2.v_at]] := by
  refine ec_enter (Fr.of 0 _) Tryz.func11 rfl (Fr.of_ok _) (Nat.le_of_ble_eq_true rfl) fun _ => ?_
  refine go_in ?_
  unfold m_lanemake_Stream_Flip at h
  obtain ⟨y1, hy1, h2⟩ := bi_ok h
  refine go hΓ 9 rfl ?_
  refine eo_callF [0] (I y1.1) [.box 25 [.d (Sl (eN .i64) y1.2.L), I y1.2.v_at]] (callable Tryz.func29 rfl rfl) (c_lanemake_Stream_Next hy1) rfl (Nat.le_of_ble_eq_true rfl) rfl rfl rfl rfl rfl rfl rfl rfl rfl rfl ?_
  refine go_ops hΓ 5 rfl ?_
  obtain rfl := Option.some.inj h2
  exact fin_objs hΓ [] (.inr rfl) rfl rfl rfl rfl (.inl rfl)
theorem c_lanemake_Stream_Pick {s : T_lanemake_Stream} {l : List Int} {r : Int × T_lanemake_Stream} (h : m_lanemake_Stream_Pick s l = some r) : EC Tryz.prog 54 [.ptr 0 0, .d (Sl (eN .i64) l)] [.box 25 [.d (Sl (eN .i64) s.L), I s.v_at]] fun g hp' => g = I r.1 ∧ hp' = [.box 25 [.d (Sl (eN .i64) r.2.L), I r.2.v_at]] := by
  refine ec_enter (Fr.of 0 _) Tryz.func54 rfl (Fr.of_ok _) (Nat.le_of_ble_eq_true rfl) fun _ => ?_
  refine go_in ?_
  unfold m_lanemake_Stream_Pick at h
  obtain ⟨y1, hy1, h2⟩ := bi_ok h
  refine go hΓ 11 rfl ?_
  refine eo_callF [0] (I y1.1) [.box 25 [.d (Sl (eN .i64) y1.2.L), I y1.2.v_at]] (callable Tryz.func29 rfl rfl) (c_lanemake_Stream_Next hy1) rfl (Nat.le_of_ble_eq_true rfl) rfl rfl rfl rfl rfl rfl rfl rfl rfl rfl ?_
  obtain ⟨x3, hx3, h4⟩ := bi_ok h2
  refine eo_o rfl (op_elemZ hΓ (enc := (eN .i64)) hx3 rfl rfl rfl rfl rfl (fun _ => rfl)) ?_
  refine go_ops hΓ 5 rfl ?_
  obtain rfl := Option.some.inj h4
  exact fin_objs hΓ [] (.inr rfl) rfl rfl rfl rfl (.inl rfl)
theorem c_lanemake_Stream_Range {s : T_lanemake_Stream} {low : Int} {high : Int} {r : Int × T_lanemake_Stream} (h : m_lanemake_Stream_Range s low high = some r) : EC Tryz.prog 8 [.ptr 0 0, I low, I high] [.box 25 [.d (Sl (eN .i64) s.L), I s.v_at]] fun g hp' => g = I r.1 ∧ hp' = [.box 25 [.d (Sl (eN .i64) r.2.L), I r.2.v_at]] := by
  refine ec_enter (Fr.of 0 _) Tryz.func8 rfl (Fr.of_ok _) (Nat.le_of_ble_eq_true rfl) fun _ => ?_
  refine go_in ?_
  unfold m_lanemake_Stream_Range at h
  refine go hΓ 13 rfl ?_
  refine j_cond rfl (fun hb => ?_) (fun hb => ?_)
  · have h1 := cT h hb
    refine go hΓ 8 rfl ?_
    obtain rfl := Option.some.inj h1
    exact fin_objs hΓ [] (.inr rfl) rfl rfl rfl rfl (.inl rfl)
  · have h2 := cF h hb
    obtain ⟨y3, hy3, h4⟩ := bi_ok h2
    refine go hΓ 10 rfl ?_
    refine eo_callF [0] (I y3.1) [.box 25 [.d (Sl (eN .i64) y3.2.L), I y3.2.v_at]] (callable Tryz.func29 rfl rfl) (c_lanemake_Stream_Next hy3) rfl (Nat.le_of_ble_eq_true rfl) rfl rfl rfl rfl rfl rfl rfl rfl rfl rfl ?_
    refine go_ops hΓ 5 rfl ?_
    obtain rfl := Option.some.inj h4
    exact fin_objs hΓ [] (.inr rfl) rfl rfl rfl rfl (.inl rfl)
theorem c_lanemake_Stream_Addr {s : T_lanemake_Stream} {r : T_api_Addr × T_lanemake_Stream} (h : m_lanemake_Stream_Addr s = some r) : EC Tryz.prog 56 [.ptr 0 0] [.box 25 [.d (Sl (eN .i64) s.L), I s.v_at]] fun g hp' => g = .agg [B r.1.Six, .d (.v (.int .u64 r.1.Hi)), .d (.v (.int .u64 r.1.Lo))] ∧ hp' = [.box 25 [.d (Sl (eN .i64) r.2.L), I r.2.v_at]] := by
  refine ec_enter (Fr.of 0 _) Tryz.func56 rfl (Fr.of_ok _) (Nat.le_of_ble_eq_true rfl) fun _ => ?_
  refine go_in ?_
  unfold m_lanemake_Stream_Addr at h
  refine go hΓ 2 rfl ?_
  refine eo_alloc hΓ rfl rfl rfl (Nat.le_of_ble_eq_true rfl) ?_
  obtain ⟨y1, hy1, h2⟩ := bi_ok h
  refine go_ops hΓ 6 rfl ?_
  refine eo_callF [0] (I y1.1) [.box 25 [.d (Sl (eN .i64) y1.2.L), I y1.2.v_at], .box 34 [B false, .d (.v (.int .u64 0)), .d (.v (.int .u64 0))]] (callable Tryz.func29 rfl rfl) (c_lanemake_Stream_Next hy1) rfl (Nat.le_of_ble_eq_true rfl) rfl rfl rfl rfl rfl rfl rfl rfl rfl rfl ?_
  refine go_ops hΓ 9 rfl ?_
  refine j_cond rfl (fun hb => ?_) (fun hb => ?_)
  · have h3 := cT h2 hb
    refine go hΓ 1 rfl ?_
    refine j_drawE [] [] [2, 7, 11] [] hmix (by kernel_rfl) (by kernel_rfl) trivial (Nat.le_of_ble_eq_true rfl) ?_
    refine ge_litT hΓ (enc := (eN .u64)) [0, 18230571291595767808, 2306139568115548160, 9223372036854775808, 18446744073709551615] rfl rfl rfl rfl rfl rfl rfl rfl rfl rfl rfl rfl ?_
    obtain ⟨y4, hy4, h5⟩ := bi_ok h3
    refine go_E hΓ 1 rfl ?_
    refine ge_h [.box 25 [.d (Sl (eN .i64) y4.2.L), I y4.2.v_at], .box 34 [B false, .d (.v (.int .u64 0)), .d (.v (.int .u64 0))]] rfl rfl rfl (st_st trivial) (qte_callF [0] (I y4.1) [.box 25 [.d (Sl (eN .i64) y4.2.L), I y4.2.v_at], .box 34 [B false, .d (.v (.int .u64 0)), .d (.v (.int .u64 0))]] (callable Tryz.func29 rfl rfl) (c_lanemake_Stream_Next hy4) rfl rfl rfl rfl rfl rfl rfl rfl rfl rfl) ?_
    obtain ⟨x6, hx6, h7⟩ := bi_ok h5
    refine ge_q rfl (.inl rfl) (fun _ _ => qte_of_qt (qt_p (op_elemZ hΓ (enc := (eN .u64)) hx6 rfl rfl rfl rfl rfl (fun _ => rfl)))) ?_
    refine go_E hΓ 1 rfl ?_
    refine ge_litT hΓ (enc := (eN .u64)) [0, 1, 2, 4294967296, 18446744073709551615] rfl rfl rfl rfl rfl rfl rfl rfl rfl rfl rfl rfl ?_
    obtain ⟨y8, hy8, h9⟩ := bi_ok h7
    refine go_E hΓ 1 rfl ?_
    refine ge_h [.box 25 [.d (Sl (eN .i64) y8.2.L), I y8.2.v_at], .box 34 [B false, .d (.v (.int .u64 0)), .d (.v (.int .u64 0))]] rfl rfl rfl (st_st trivial) (qte_callF [0] (I y8.1) [.box 25 [.d (Sl (eN .i64) y8.2.L), I y8.2.v_at], .box 34 [B false, .d (.v (.int .u64 0)), .d (.v (.int .u64 0))]] (callable Tryz.func29 rfl rfl) (c_lanemake_Stream_Next hy8) rfl rfl rfl rfl rfl rfl rfl rfl rfl rfl) ?_
    obtain ⟨x10, hx10, h11⟩ := bi_ok h9
    refine ge_q rfl (.inl rfl) (fun _ _ => qte_of_qt (qt_p (op_elemZ hΓ (enc := (eN .u64)) hx10 rfl rfl rfl rfl rfl (fun _ => rfl)))) ?_
    refine go_E hΓ 1 rfl ?_
    refine ge_q rfl (.inl rfl) (fun _ _ => qte_of_qt (qt_p (op_build hΓ (gs := [B true, .d (.v (.int .u64 x6)), .d (.v (.int .u64 x10))]) rfl rfl rfl rfl rfl rfl))) ?_
    refine ge_h0 [.box 25 [.d (Sl (eN .i64) y8.2.L), I y8.2.v_at], .box 34 [B true, .d (.v (.int .u64 x6)), .d (.v (.int .u64 x10))]] rfl rfl (st_st trivial) (qte_u (opu_store2 hΓ rfl rfl rfl rfl rfl rfl rfl rfl rfl)) ?_
    refine ge_fin ?_
    refine go hΓ 4 rfl ?_
    obtain rfl := Option.some.inj h11
    exact fin_objs hΓ [_] (.inr rfl) rfl rfl rfl rfl (.inr ⟨HB.mk rfl, rfl⟩)
  · have h12 := cF h2 hb
    refine go hΓ 6 rfl ?_
    refine j_cond rfl (fun hb => ?_) (fun hb => ?_)
    · have h13 := cT h12 hb
      refine go hΓ 2 rfl ?_
      refine eo_litT hΓ (enc := (eN .u64)) [0, 1, 4294967295, 2130706433, 3232235521] rfl rfl rfl rfl rfl rfl rfl rfl rfl rfl rfl rfl (Nat.le_of_ble_eq_true rfl) ?_
      obtain ⟨y14, hy14, h15⟩ := bi_ok h13
      refine go_ops hΓ 1 rfl ?_
      refine eo_callF [0] (I y14.1) [.box 25 [.d (Sl (eN .i64) y14.2.L), I y14.2.v_at], .box 34 [B false, .d (.v (.int .u64 0)), .d (.v (.int .u64 0))]] (callable Tryz.func29 rfl rfl) (c_lanemake_Stream_Next hy14) rfl (Nat.le_of_ble_eq_true rfl) rfl rfl rfl rfl rfl rfl rfl rfl rfl rfl ?_
      obtain ⟨x16, hx16, h17⟩ := bi_ok h15
      refine eo_o rfl (op_elemZ hΓ (enc := (eN .u64)) hx16 rfl rfl rfl rfl rfl (fun _ => rfl)) ?_
      refine go_ops hΓ 1 rfl ?_
      refine eo_build hΓ (gs := [B false, .d (.v (.int .u64 0)), .d (.v (.int .u64 x16))]) rfl rfl rfl rfl rfl rfl rfl ?_
      refine eo_store hΓ rfl rfl rfl rfl rfl rfl rfl rfl (Nat.le_of_ble_eq_true rfl) ?_
      refine eo_hp [.box 25 [.d (Sl (eN .i64) y14.2.L), I y14.2.v_at], .box 34 [B false, .d (.v (.int .u64 0)), .d (.v (.int .u64 x16))]] rfl ?_
      refine go_ops hΓ 5 rfl ?_
      obtain rfl := Option.some.inj h17
      exact fin_objs hΓ [_] (.inr rfl) rfl rfl rfl rfl (.inr ⟨HB.mk rfl, rfl⟩)
    · have h18 := cF h12 hb
      refine go hΓ 6 rfl ?_
      refine j_cond rfl (fun hb => ?_) (fun hb => ?_)
      · have h19 := cT h18 hb
        obtain ⟨y20, hy20, h21⟩ := bi_ok h19
        refine go hΓ 3 rfl ?_
        refine eo_callF [0] (I y20.1) [.box 25 [.d (Sl (eN .i64) y20.2.L), I y20.2.v_at], .box 34 [B false, .d (.v (.int .u64 0)), .d (.v (.int .u64 0))]] (callable Tryz.func8 rfl rfl) (c_lanemake_Stream_Range hy20) rfl (Nat.le_of_ble_eq_true rfl) rfl rfl rfl rfl rfl rfl rfl rfl rfl rfl ?_
        obtain ⟨y22, hy22, h23⟩ := bi_ok h21
        refine go_ops hΓ 2 rfl ?_
        refine eo_o rfl (op_remZ hy22 rfl rfl) ?_
        refine eo_build hΓ (gs := [B false, .d (.v (.int .u64 0)), .d (.v (.int .u64 y22))]) rfl rfl rfl rfl rfl rfl rfl ?_
        refine eo_store hΓ rfl rfl rfl rfl rfl rfl rfl rfl (Nat.le_of_ble_eq_true rfl) ?_
        refine eo_hp [.box 25 [.d (Sl (eN .i64) y20.2.L), I y20.2.v_at], .box 34 [B false, .d (.v (.int .u64 0)), .d (.v (.int .u64 y22))]] rfl ?_
        refine go_ops hΓ 5 rfl ?_
        obtain rfl := Option.some.inj h23
        exact fin_objs hΓ [_] (.inr rfl) rfl rfl rfl rfl (.inr ⟨HB.mk rfl, rfl⟩)
      · have h24 := cF h18 hb
        obtain ⟨y25, hy25, h26⟩ := bi_ok h24
        refine go hΓ 6 rfl ?_
        refine eo_callF [0] (I y25.1) [.box 25 [.d (Sl (eN .i64) y25.2.L), I y25.2.v_at], .box 34 [B false, .d (.v (.int .u64 0)), .d (.v (.int .u64 0))]] (callable Tryz.func8 rfl rfl) (c_lanemake_Stream_Range hy25) rfl (Nat.le_of_ble_eq_true rfl) rfl rfl rfl rfl rfl rfl rfl rfl rfl rfl ?_
        refine go_ops hΓ 2 rfl ?_
        refine eo_build hΓ (gs := [B false, .d (.v (.int .u64 0)), .d (.v (.int .u64 (IntKind.u64.wrap (167772160 + (IntKind.u64.wrap (y25.1))))))]) rfl rfl rfl rfl rfl rfl rfl ?_
        refine eo_store hΓ rfl rfl rfl rfl rfl rfl rfl rfl (Nat.le_of_ble_eq_true rfl) ?_
        refine eo_hp [.box 25 [.d (Sl (eN .i64) y25.2.L), I y25.2.v_at], .box 34 [B false, .d (.v (.int .u64 0)), .d (.v (.int .u64 (IntKind.u64.wrap (167772160 + (IntKind.u64.wrap (y25.1))))))]] rfl ?_
        refine go_ops hΓ 3 rfl ?_
        obtain rfl := Option.some.inj h26
        exact fin_objs hΓ [_] (.inr rfl) rfl rfl rfl rfl (.inr ⟨HB.mk rfl, rfl⟩)
theorem c_laneref2_of {k : Nat} {a : T_api_Addr} {r : (Int × Int × Int × Int × Int × Int × Int × Int × Int)} (h : m_laneref2_of k a = some r) : Pure Tryz.prog 97 [.agg [B a.Six, .d (.v (.int .u64 a.Hi)), .d (.v (.int .u64 a.Lo))]] (.agg [I r.1, I r.2.1, I r.2.2.1, I r.2.2.2.1, I r.2.2.2.2.1, I r.2.2.2.2.2.1, I r.2.2.2.2.2.2.1, I r.2.2.2.2.2.2.2.1, I r.2.2.2.2.2.2.2.2]) := by
  refine Pure.enter (Fr.of 0 _) Tryz.func97 rfl (Fr.of_ok _) rfl rfl ?_
  refine go_in ?_
  unfold m_laneref2_of at h
  refine go hΓ 2 rfl ?_
  refine eo_box rfl rfl rfl rfl (Nat.le_of_ble_eq_true rfl) ?_
  refine eo_alloc hΓ rfl rfl rfl (Nat.le_of_ble_eq_true rfl) ?_
  refine go_ops hΓ 4 rfl ?_
  refine eo_alloc hΓ rfl rfl rfl (Nat.le_of_ble_eq_true rfl) ?_
  refine go_ops hΓ 8 rfl ?_
  obtain ⟨q4, hq4, h5⟩ := bi_ok h
  refine j_cutNZ [(1, .ptr 0 0), (2, .ptr 1 0), (3, .ptr 2 0)] [.box 34 [B a.Six, .d (.v (.int .u64 a.Hi)), .d (.v (.int .u64 a.Lo))], .box 132 [I 0, I 0, I 0, I 0, I 0, I 0, I 0, I 0, I 0], .box 132 [I q4.1, I q4.2.1, I q4.2.2.1, I q4.2.2.2.1, I q4.2.2.2.2.1, I q4.2.2.2.2.2.1, I q4.2.2.2.2.2.2.1, I q4.2.2.2.2.2.2.2.1, I q4.2.2.2.2.2.2.2.2]] ?_ ?_
  · refine go hΓ 1 rfl ?_
    refine j_loop hq4 (fun s2 => [(1, .ptr 0 0), (2, .ptr 1 0), (3, .ptr 2 0), (5, I s2.2.2.2.2.2.2.2.2.2)]) (fun s2 => [.box 34 [B a.Six, .d (.v (.int .u64 a.Hi)), .d (.v (.int .u64 a.Lo))], .box 132 [I 0, I 0, I 0, I 0, I 0, I 0, I 0, I 0, I 0], .box 132 [I s2.1, I s2.2.1, I s2.2.2.1, I s2.2.2.2.1, I s2.2.2.2.2.1, I s2.2.2.2.2.2.1, I s2.2.2.2.2.2.2.1, I s2.2.2.2.2.2.2.2.1, I s2.2.2.2.2.2.2.2.2.1]]) ⟨⟨rfl, rfl, rfl, rfl, trivial⟩, [], rfl, .inl rfl⟩ (fun s2 y10 hy8 hout9 => ?_)
    refine go hΓ 6 rfl ?_
    refine j_cond rfl (fun hb => ?_) (fun hb => ?_)
    · have h11 := cT hy8 hb
      obtain ⟨y12, hy12, h13⟩ := bi_ok h11
      refine go hΓ 17 rfl ?_
      refine eo_o rfl (op_shrZ hy12 rfl rfl) ?_
      obtain ⟨x14, hx14, h15⟩ := bi_ok h13
      refine go_ops hΓ 2 rfl ?_
      refine eo_o rfl (op_elemArr hΓ hx14 rfl rfl rfl rfl rfl rfl) ?_
      refine eo_u (Nat.le_of_ble_eq_true rfl) (opu_setArr hΓ (l := ([s2.1, s2.2.1, s2.2.2.1, s2.2.2.2.1, s2.2.2.2.2.1, s2.2.2.2.2.2.1, s2.2.2.2.2.2.2.1, s2.2.2.2.2.2.2.2.1, s2.2.2.2.2.2.2.2.2.1] : List Int)) (v := (wi (bitsV .and .u64 y12 65535))) (f := fun z => .d (.v (.int .i64 z))) hx14 rfl rfl rfl rfl rfl rfl rfl rfl rfl rfl) ?_
      refine eo_hp [.box 34 [B a.Six, .d (.v (.int .u64 a.Hi)), .d (.v (.int .u64 a.Lo))], .box 132 [I 0, I 0, I 0, I 0, I 0, I 0, I 0, I 0, I 0], .box 132 [I (updA s2.2.2.2.2.2.2.2.2.2 0 (wi (bitsV .and .u64 y12 65535)) s2.1), I (updA s2.2.2.2.2.2.2.2.2.2 1 (wi (bitsV .and .u64 y12 65535)) s2.2.1), I (updA s2.2.2.2.2.2.2.2.2.2 2 (wi (bitsV .and .u64 y12 65535)) s2.2.2.1), I (updA s2.2.2.2.2.2.2.2.2.2 3 (wi (bitsV .and .u64 y12 65535)) s2.2.2.2.1), I (updA s2.2.2.2.2.2.2.2.2.2 4 (wi (bitsV .and .u64 y12 65535)) s2.2.2.2.2.1), I (updA s2.2.2.2.2.2.2.2.2.2 5 (wi (bitsV .and .u64 y12 65535)) s2.2.2.2.2.2.1), I (updA s2.2.2.2.2.2.2.2.2.2 6 (wi (bitsV .and .u64 y12 65535)) s2.2.2.2.2.2.2.1), I (updA s2.2.2.2.2.2.2.2.2.2 7 (wi (bitsV .and .u64 y12 65535)) s2.2.2.2.2.2.2.2.1), I (updA s2.2.2.2.2.2.2.2.2.2 8 (wi (bitsV .and .u64 y12 65535)) s2.2.2.2.2.2.2.2.2.1)]] rfl ?_
      obtain ⟨y16, hy16, h17⟩ := bi_ok h15
      refine go_ops hΓ 9 rfl ?_
      refine eo_o rfl (op_shrZ hy16 rfl rfl) ?_
      obtain ⟨x18, hx18, h19⟩ := bi_ok h17
      refine go_ops hΓ 2 rfl ?_
      refine eo_o rfl (op_elemArr hΓ hx18 rfl rfl rfl rfl rfl rfl) ?_
      refine eo_u (Nat.le_of_ble_eq_true rfl) (opu_setArr hΓ (l := ([updA s2.2.2.2.2.2.2.2.2.2 0 (wi (bitsV .and .u64 y12 65535)) s2.1, updA s2.2.2.2.2.2.2.2.2.2 1 (wi (bitsV .and .u64 y12 65535)) s2.2.1, updA s2.2.2.2.2.2.2.2.2.2 2 (wi (bitsV .and .u64 y12 65535)) s2.2.2.1, updA s2.2.2.2.2.2.2.2.2.2 3 (wi (bitsV .and .u64 y12 65535)) s2.2.2.2.1, updA s2.2.2.2.2.2.2.2.2.2 4 (wi (bitsV .and .u64 y12 65535)) s2.2.2.2.2.1, updA s2.2.2.2.2.2.2.2.2.2 5 (wi (bitsV .and .u64 y12 65535)) s2.2.2.2.2.2.1, updA s2.2.2.2.2.2.2.2.2.2 6 (wi (bitsV .and .u64 y12 65535)) s2.2.2.2.2.2.2.1, updA s2.2.2.2.2.2.2.2.2.2 7 (wi (bitsV .and .u64 y12 65535)) s2.2.2.2.2.2.2.2.1, updA s2.2.2.2.2.2.2.2.2.2 8 (wi (bitsV .and .u64 y12 65535)) s2.2.2.2.2.2.2.2.2.1] : List Int)) (v := (wi (bitsV .and .u64 y16 65535))) (f := fun z => .d (.v (.int .i64 z))) hx18 rfl rfl rfl rfl rfl rfl rfl rfl rfl rfl) ?_
      refine eo_hp [.box 34 [B a.Six, .d (.v (.int .u64 a.Hi)), .d (.v (.int .u64 a.Lo))], .box 132 [I 0, I 0, I 0, I 0, I 0, I 0, I 0, I 0, I 0], .box 132 [I (updA (wi (4 + s2.2.2.2.2.2.2.2.2.2)) 0 (wi (bitsV .and .u64 y16 65535)) (updA s2.2.2.2.2.2.2.2.2.2 0 (wi (bitsV .and .u64 y12 65535)) s2.1)), I (updA (wi (4 + s2.2.2.2.2.2.2.2.2.2)) 1 (wi (bitsV .and .u64 y16 65535)) (updA s2.2.2.2.2.2.2.2.2.2 1 (wi (bitsV .and .u64 y12 65535)) s2.2.1)), I (updA (wi (4 + s2.2.2.2.2.2.2.2.2.2)) 2 (wi (bitsV .and .u64 y16 65535)) (updA s2.2.2.2.2.2.2.2.2.2 2 (wi (bitsV .and .u64 y12 65535)) s2.2.2.1)), I (updA (wi (4 + s2.2.2.2.2.2.2.2.2.2)) 3 (wi (bitsV .and .u64 y16 65535)) (updA s2.2.2.2.2.2.2.2.2.2 3 (wi (bitsV .and .u64 y12 65535)) s2.2.2.2.1)), I (updA (wi (4 + s2.2.2.2.2.2.2.2.2.2)) 4 (wi (bitsV .and .u64 y16 65535)) (updA s2.2.2.2.2.2.2.2.2.2 4 (wi (bitsV .and .u64 y12 65535)) s2.2.2.2.2.1)), I (updA (wi (4 + s2.2.2.2.2.2.2.2.2.2)) 5 (wi (bitsV .and .u64 y16 65535)) (updA s2.2.2.2.2.2.2.2.2.2 5 (wi (bitsV .and .u64 y12 65535)) s2.2.2.2.2.2.1)), I (updA (wi (4 + s2.2.2.2.2.2.2.2.2.2)) 6 (wi (bitsV .and .u64 y16 65535)) (updA s2.2.2.2.2.2.2.2.2.2 6 (wi (bitsV .and .u64 y12 65535)) s2.2.2.2.2.2.2.1)), I (updA (wi (4 + s2.2.2.2.2.2.2.2.2.2)) 7 (wi (bitsV .and .u64 y16 65535)) (updA s2.2.2.2.2.2.2.2.2.2 7 (wi (bitsV .and .u64 y12 65535)) s2.2.2.2.2.2.2.2.1)), I (updA (wi (4 + s2.2.2.2.2.2.2.2.2.2)) 8 (wi (bitsV .and .u64 y16 65535)) (updA s2.2.2.2.2.2.2.2.2.2 8 (wi (bitsV .and .u64 y12 65535)) s2.2.2.2.2.2.2.2.2.1))]] rfl ?_
      refine go_ops hΓ 7 rfl ?_
      obtain rfl := Option.some.inj h19
      exact ⟨_, rfl, ⟨⟨rfl, rfl, rfl, rfl, trivial⟩, [], rfl, .inl rfl⟩⟩
    · have h20 := cF hy8 hb
      refine go hΓ 4 rfl ?_
      obtain rfl := Option.some.inj h20
      obtain rfl := hout9 _ rfl
      exact ⟨⟨rfl, rfl, rfl, trivial⟩, [], rfl, .inl rfl⟩
  · obtain ⟨q21, hq21, h22⟩ := bi_ok h5
    refine go hΓ 8 rfl ?_
    refine j_cutNZ [(2, .ptr 1 0), (3, .ptr 2 0)] [.box 34 [B a.Six, .d (.v (.int .u64 a.Hi)), .d (.v (.int .u64 a.Lo))], .box 132 [I 0, I 0, I 0, I 0, I 0, I 0, I 0, I 0, I 0], .box 132 [I q4.1, I q4.2.1, I q4.2.2.1, I q4.2.2.2.1, I q4.2.2.2.2.1, I q4.2.2.2.2.2.1, I q4.2.2.2.2.2.2.1, I q4.2.2.2.2.2.2.2.1, I q21]] ?_ ?_
    · refine j_cond rfl (fun hb => ?_) (fun hb => ?_)
      · have h23 := cT hq21 hb
        refine go hΓ 1 rfl ?_
        refine eo_o rfl (op_elemArr hΓ (l := List.replicate 9 ()) (z := ()) rfl rfl rfl rfl rfl rfl rfl) ?_
        refine eo_store hΓ rfl rfl rfl rfl rfl rfl rfl rfl (Nat.le_of_ble_eq_true rfl) ?_
        refine eo_hp [.box 34 [B a.Six, .d (.v (.int .u64 a.Hi)), .d (.v (.int .u64 a.Lo))], .box 132 [I 0, I 0, I 0, I 0, I 0, I 0, I 0, I 0, I 0], .box 132 [I q4.1, I q4.2.1, I q4.2.2.1, I q4.2.2.2.1, I q4.2.2.2.2.1, I q4.2.2.2.2.2.1, I q4.2.2.2.2.2.2.1, I q4.2.2.2.2.2.2.2.1, I 1]] rfl ?_
        refine go_ops hΓ 1 rfl ?_
        obtain rfl := Option.some.inj h23
        exact ⟨⟨rfl, rfl, trivial⟩, [], rfl, .inl rfl⟩
      · have h24 := cF hq21 hb
        refine go hΓ 1 rfl ?_
        obtain rfl := Option.some.inj h24
        exact ⟨⟨rfl, rfl, trivial⟩, [], rfl, .inl rfl⟩
    · refine go hΓ 4 rfl ?_
      refine eo_store hΓ rfl rfl rfl rfl rfl rfl rfl rfl (Nat.le_of_ble_eq_true rfl) ?_
      refine eo_hp [.box 34 [B a.Six, .d (.v (.int .u64 a.Hi)), .d (.v (.int .u64 a.Lo))], .box 132 [I q4.1, I q4.2.1, I q4.2.2.1, I q4.2.2.2.1, I q4.2.2.2.2.1, I q4.2.2.2.2.2.1, I q4.2.2.2.2.2.2.1, I q4.2.2.2.2.2.2.2.1, I q21], .box 132 [I q4.1, I q4.2.1, I q4.2.2.1, I q4.2.2.2.1, I q4.2.2.2.2.1, I q4.2.2.2.2.2.1, I q4.2.2.2.2.2.2.1, I q4.2.2.2.2.2.2.2.1, I q21]] rfl ?_
      refine go_ops hΓ 3 rfl ?_
      obtain rfl := Option.some.inj h22
      exact fin_pure hΓ (.inr rfl) rfl rfl
theorem c_laneref2_length {a : T_api_Addr} {r : Int} (h : m_laneref2_length a = some r) : Pure Tryz.prog 95 [.agg [B a.Six, .d (.v (.int .u64 a.Hi)), .d (.v (.int .u64 a.Lo))]] (I r) := by
  refine Pure.enter (Fr.of 0 _) Tryz.func95 rfl (Fr.of_ok _) rfl rfl ?_
  refine go_in ?_
  unfold m_laneref2_length at h
  refine go hΓ 2 rfl ?_
  refine eo_box rfl rfl rfl rfl (Nat.le_of_ble_eq_true rfl) ?_
  refine go_ops hΓ 10 rfl ?_
  refine j_cond rfl (fun hb => ?_) (fun hb => ?_)
  · have h1 := cT h hb
    refine go hΓ 7 rfl ?_
    obtain rfl := Option.some.inj h1
    exact fin_pure hΓ (.inr rfl) rfl rfl
  · have h2 := cF h hb
    refine go hΓ 8 rfl ?_
    obtain rfl := Option.some.inj h2
    exact fin_pure hΓ (.inr rfl) rfl rfl
theorem c_laneref2_firstOf {k : Nat} {a : T_api_Addr} {bits : Int} {r : (Int × Int × Int × Int × Int × Int × Int × Int × Int)} (h : m_laneref2_firstOf k a bits = some r) : Pure Tryz.prog 96 [.agg [B a.Six, .d (.v (.int .u64 a.Hi)), .d (.v (.int .u64 a.Lo))], I bits] (.agg [I r.1, I r.2.1, I r.2.2.1, I r.2.2.2.1, I r.2.2.2.2.1, I r.2.2.2.2.2.1, I r.2.2.2.2.2.2.1, I r.2.2.2.2.2.2.2.1, I r.2.2.2.2.2.2.2.2]) := by
  refine Pure.enter (Fr.of 0 _) Tryz.func96 rfl (Fr.of_ok _) rfl rfl ?_
  refine go_in ?_
  unfold m_laneref2_firstOf at h
  refine go hΓ 2 rfl ?_
  refine eo_box rfl rfl rfl rfl (Nat.le_of_ble_eq_true rfl) ?_
  refine eo_alloc hΓ rfl rfl rfl (Nat.le_of_ble_eq_true rfl) ?_
  obtain ⟨y1, hy1, h2⟩ := bi_ok h
  refine go_ops hΓ 5 rfl ?_
  refine eo_callP (callable Tryz.func97 rfl rfl) (c_laneref2_of hy1) rfl (Nat.le_of_ble_eq_true rfl) rfl rfl rfl rfl rfl ?_
  refine eo_alloc hΓ rfl rfl rfl (Nat.le_of_ble_eq_true rfl) ?_
  refine eo_store hΓ rfl rfl rfl rfl rfl rfl rfl rfl (Nat.le_of_ble_eq_true rfl) ?_
  refine eo_hp [.box 34 [B a.Six, .d (.v (.int .u64 a.Hi)), .d (.v (.int .u64 a.Lo))], .box 132 [I 0, I 0, I 0, I 0, I 0, I 0, I 0, I 0, I 0], .box 132 [I y1.1, I y1.2.1, I y1.2.2.1, I y1.2.2.2.1, I y1.2.2.2.2.1, I y1.2.2.2.2.2.1, I y1.2.2.2.2.2.2.1, I y1.2.2.2.2.2.2.2.1, I y1.2.2.2.2.2.2.2.2]] rfl ?_
  obtain ⟨y3, hy3, h4⟩ := bi_ok h2
  refine go_ops hΓ 6 rfl ?_
  refine eo_callP (callable Tryz.func95 rfl rfl) (c_laneref2_length hy3) rfl (Nat.le_of_ble_eq_true rfl) rfl rfl rfl rfl rfl ?_
  refine go_ops hΓ 5 rfl ?_
  obtain ⟨q8, hq8, h9⟩ := bi_ok h4
  obtain ⟨hb11, h12⟩ := gd_ok hq8
  replace hb11 := of_decide_eq_true hb11
  refine j_cutNZ [(4, .ptr 1 0), (5, .ptr 2 0)] [.box 34 [B a.Six, .d (.v (.int .u64 a.Hi)), .d (.v (.int .u64 a.Lo))], .box 132 [I 0, I 0, I 0, I 0, I 0, I 0, I 0, I 0, I 0], .box 132 [I q8.1, I q8.2.1, I q8.2.2.1, I q8.2.2.2.1, I q8.2.2.2.2.1, I q8.2.2.2.2.2.1, I q8.2.2.2.2.2.2.1, I q8.2.2.2.2.2.2.2.1, I q8.2.2.2.2.2.2.2.2]] ?_ ?_
  · refine go hΓ 1 rfl ?_
    refine j_rangeG h12 (fun i5 s6 => [(4, .ptr 1 0), (5, .ptr 2 0), (12, I (wi (y3 - bits))), (13, I (i5 : Int))]) (fun s6 => [.box 34 [B a.Six, .d (.v (.int .u64 a.Hi)), .d (.v (.int .u64 a.Lo))], .box 132 [I 0, I 0, I 0, I 0, I 0, I 0, I 0, I 0, I 0], .box 132 [I s6.1, I s6.2.1, I s6.2.2.1, I s6.2.2.2.1, I s6.2.2.2.2.1, I s6.2.2.2.2.2.1, I s6.2.2.2.2.2.2.1, I s6.2.2.2.2.2.2.2.1, I s6.2.2.2.2.2.2.2.2]]) ⟨⟨rfl, rfl, rfl, rfl, trivial⟩, [], rfl, .inl rfl⟩ (fun i5 s6 y16 hlt hy14 => ?_) (fun hge => ?_)
    · refine go hΓ 6 rfl ?_
      refine j_condT rfl (decide_eq_true hlt) ?_
      refine go hΓ 10 rfl ?_
      refine j_drawE [.dead, .dead, .box 132 [I s6.1, I s6.2.1, I s6.2.2.1, I s6.2.2.2.1, I s6.2.2.2.2.1, I s6.2.2.2.2.2.1, I s6.2.2.2.2.2.2.1, I s6.2.2.2.2.2.2.2.1, I s6.2.2.2.2.2.2.2.2]] [3] [9] [9] hmix (by kernel_rfl) (by kernel_rfl) ⟨rfl, trivial⟩ (Nat.le_of_ble_eq_true rfl) ?_
      obtain ⟨y17, hy17, h18⟩ := bi_ok hy14
      refine go_E hΓ 1 rfl ?_
      refine ge_q rfl (.inl rfl) (fun _ _ => qte_of_qt (qt_p (op_quoZ hy17 rfl rfl))) ?_
      obtain ⟨x19, hx19, h20⟩ := bi_ok h18
      refine ge_q rfl (.inl rfl) (fun _ _ => qte_of_qt (qt_p (op_elemArr hΓ hx19 rfl rfl rfl rfl rfl rfl))) ?_
      refine ge_p rfl (fun hp hs => op_loadArr hΓ (f := fun z => .d (.v (.int .i64 z))) hx19 rfl rfl rfl rfl (hs 2 _ rfl rfl) rfl) rfl ?_
      obtain ⟨y21, hy21, h22⟩ := bi_ok h20
      refine go_E hΓ 1 rfl ?_
      refine ge_q rfl (.inl rfl) (fun _ _ => qte_of_qt (qt_p (op_remZ hy21 rfl rfl))) ?_
      obtain ⟨y23, hy23, h24⟩ := bi_ok h22
      refine ge_q rfl (.inl rfl) (fun _ _ => qte_of_qt (qt_p (op_shlZ hy23 rfl rfl))) ?_
      obtain ⟨x25, hx25, h26⟩ := bi_ok h24
      refine go_E hΓ 1 rfl ?_
      refine ge_q rfl (.inl rfl) (fun _ _ => qte_of_qt (qt_p (op_elemArr hΓ hx25 rfl rfl rfl rfl rfl rfl))) ?_
      refine ge_h0 [.box 34 [B a.Six, .d (.v (.int .u64 a.Hi)), .d (.v (.int .u64 a.Lo))], .box 132 [I 0, I 0, I 0, I 0, I 0, I 0, I 0, I 0, I 0], .box 132 [I (updA y17 0 (bitsV .andNot .i64 x19 y23) s6.1), I (updA y17 1 (bitsV .andNot .i64 x19 y23) s6.2.1), I (updA y17 2 (bitsV .andNot .i64 x19 y23) s6.2.2.1), I (updA y17 3 (bitsV .andNot .i64 x19 y23) s6.2.2.2.1), I (updA y17 4 (bitsV .andNot .i64 x19 y23) s6.2.2.2.2.1), I (updA y17 5 (bitsV .andNot .i64 x19 y23) s6.2.2.2.2.2.1), I (updA y17 6 (bitsV .andNot .i64 x19 y23) s6.2.2.2.2.2.2.1), I (updA y17 7 (bitsV .andNot .i64 x19 y23) s6.2.2.2.2.2.2.2.1), I (updA y17 8 (bitsV .andNot .i64 x19 y23) s6.2.2.2.2.2.2.2.2)]] rfl rfl (brk_st rfl) (qte_u (opu_setArr hΓ (l := ([s6.1, s6.2.1, s6.2.2.1, s6.2.2.2.1, s6.2.2.2.2.1, s6.2.2.2.2.2.1, s6.2.2.2.2.2.2.1, s6.2.2.2.2.2.2.2.1, s6.2.2.2.2.2.2.2.2] : List Int)) (v := (bitsV .andNot .i64 x19 y23)) (f := fun z => .d (.v (.int .i64 z))) hx25 rfl rfl rfl rfl rfl rfl rfl rfl rfl rfl)) ?_
      refine ge_fin ?_
      refine go hΓ 6 rfl ?_
      obtain rfl := Option.some.inj h26
      exact ⟨⟨rfl, rfl, rfl, get_eq rfl (w64_succ (by omega)), trivial⟩, [], rfl, .inl rfl⟩
    · refine go hΓ 6 rfl ?_
      refine j_condF rfl (decide_eq_false hge) ?_
      refine go hΓ 4 rfl ?_
      exact ⟨⟨rfl, rfl, trivial⟩, [], rfl, .inl rfl⟩
  · refine go hΓ 4 rfl ?_
    refine eo_store hΓ rfl rfl rfl rfl rfl rfl rfl rfl (Nat.le_of_ble_eq_true rfl) ?_
    refine eo_hp [.box 34 [B a.Six, .d (.v (.int .u64 a.Hi)), .d (.v (.int .u64 a.Lo))], .box 132 [I q8.1, I q8.2.1, I q8.2.2.1, I q8.2.2.2.1, I q8.2.2.2.2.1, I q8.2.2.2.2.2.1, I q8.2.2.2.2.2.2.1, I q8.2.2.2.2.2.2.2.1, I q8.2.2.2.2.2.2.2.2], .box 132 [I q8.1, I q8.2.1, I q8.2.2.1, I q8.2.2.2.1, I q8.2.2.2.2.1, I q8.2.2.2.2.2.1, I q8.2.2.2.2.2.2.1, I q8.2.2.2.2.2.2.2.1, I q8.2.2.2.2.2.2.2.2]] rfl ?_
    refine go_ops hΓ 3 rfl ?_
    obtain rfl := Option.some.inj h9
    exact fin_pure hΓ (.inr rfl) rfl rfl
theorem c_laneref2_wide_addr {k : Nat} {w : (Int × Int × Int × Int × Int × Int × Int × Int × Int)} {r : T_api_Addr} (h : m_laneref2_wide_addr k w = some r) : Pure Tryz.prog 154 [.agg [I w.1, I w.2.1, I w.2.2.1, I w.2.2.2.1, I w.2.2.2.2.1, I w.2.2.2.2.2.1, I w.2.2.2.2.2.2.1, I w.2.2.2.2.2.2.2.1, I w.2.2.2.2.2.2.2.2]] (.agg [B r.Six, .d (.v (.int .u64 r.Hi)), .d (.v (.int .u64 r.Lo))]) := by
  refine Pure.enter (Fr.of 0 _) Tryz.func154 rfl (Fr.of_ok _) rfl rfl ?_
  refine go_in ?_
  unfold m_laneref2_wide_addr at h
  refine go hΓ 2 rfl ?_
  refine eo_box rfl rfl rfl rfl (Nat.le_of_ble_eq_true rfl) ?_
  refine eo_alloc hΓ rfl rfl rfl (Nat.le_of_ble_eq_true rfl) ?_
  refine go_ops hΓ 4 rfl ?_
  refine eo_alloc hΓ rfl rfl rfl (Nat.le_of_ble_eq_true rfl) ?_
  refine go_ops hΓ 8 rfl ?_
  obtain ⟨q4, hq4, h5⟩ := bi_ok h
  refine j_cutNZ [(1, .ptr 0 0), (2, .ptr 1 0), (3, .ptr 2 0)] [.box 132 [I w.1, I w.2.1, I w.2.2.1, I w.2.2.2.1, I w.2.2.2.2.1, I w.2.2.2.2.2.1, I w.2.2.2.2.2.2.1, I w.2.2.2.2.2.2.2.1, I w.2.2.2.2.2.2.2.2], .box 34 [B false, .d (.v (.int .u64 0)), .d (.v (.int .u64 0))], .box 34 [B q4.Six, .d (.v (.int .u64 q4.Hi)), .d (.v (.int .u64 q4.Lo))]] ?_ ?_
  · refine go hΓ 1 rfl ?_
    refine j_loop hq4 (fun s2 => [(1, .ptr 0 0), (2, .ptr 1 0), (3, .ptr 2 0), (5, I s2.2)]) (fun s2 => [.box 132 [I w.1, I w.2.1, I w.2.2.1, I w.2.2.2.1, I w.2.2.2.2.1, I w.2.2.2.2.2.1, I w.2.2.2.2.2.2.1, I w.2.2.2.2.2.2.2.1, I w.2.2.2.2.2.2.2.2], .box 34 [B false, .d (.v (.int .u64 0)), .d (.v (.int .u64 0))], .box 34 [B s2.1.Six, .d (.v (.int .u64 s2.1.Hi)), .d (.v (.int .u64 s2.1.Lo))]]) ⟨⟨rfl, rfl, rfl, rfl, trivial⟩, [], rfl, .inl rfl⟩ (fun s2 y10 hy8 hout9 => ?_)
    refine go hΓ 6 rfl ?_
    refine j_cond rfl (fun hb => ?_) (fun hb => ?_)
    · have h11 := cT hy8 hb
      refine go hΓ 11 rfl ?_
      refine j_drawE [.box 132 [I w.1, I w.2.1, I w.2.2.1, I w.2.2.2.1, I w.2.2.2.2.1, I w.2.2.2.2.2.1, I w.2.2.2.2.2.2.1, I w.2.2.2.2.2.2.2.1, I w.2.2.2.2.2.2.2.2], .dead, .box 34 [B s2.1.Six, .d (.v (.int .u64 s2.1.Hi)), .d (.v (.int .u64 s2.1.Lo))]] [1, 4] [11] [11] hmix (by kernel_rfl) (by kernel_rfl) ⟨rfl, rfl, trivial⟩ (Nat.le_of_ble_eq_true rfl) ?_
      obtain ⟨x12, hx12, h13⟩ := bi_ok h11
      refine go_E hΓ 3 rfl ?_
      refine ge_q rfl (.inl rfl) (fun _ _ => qte_of_qt (qt_p (op_elemArr hΓ hx12 rfl rfl rfl rfl rfl rfl))) ?_
      refine ge_p rfl (fun hp hs => op_loadArr hΓ (f := fun z => .d (.v (.int .i64 z))) hx12 rfl rfl rfl rfl (hs 0 _ rfl rfl) rfl) rfl ?_
      obtain ⟨y14, hy14, h15⟩ := bi_ok h13
      refine go_E hΓ 3 rfl ?_
      refine ge_q rfl (.inl rfl) (fun _ _ => qte_of_qt (qt_p (op_shlZ hy14 rfl rfl))) ?_
      refine go_E hΓ 2 rfl ?_
      refine ge_h0 [.box 132 [I w.1, I w.2.1, I w.2.2.1, I w.2.2.2.1, I w.2.2.2.2.1, I w.2.2.2.2.2.1, I w.2.2.2.2.2.2.1, I w.2.2.2.2.2.2.2.1, I w.2.2.2.2.2.2.2.2], .box 34 [B false, .d (.v (.int .u64 0)), .d (.v (.int .u64 0))], .box 34 [B s2.1.Six, .d (.v (.int .u64 s2.1.Hi)), .d (.v (.int .u64 (bitsV .or .u64 s2.1.Lo y14)))]] rfl rfl (brk_st rfl) (qte_u (opu_store2 hΓ rfl rfl rfl rfl rfl rfl rfl rfl rfl)) ?_
      refine ge_fin ?_
      refine go hΓ 1 rfl ?_
      refine j_drawE [.box 132 [I w.1, I w.2.1, I w.2.2.1, I w.2.2.2.1, I w.2.2.2.2.1, I w.2.2.2.2.2.1, I w.2.2.2.2.2.2.1, I w.2.2.2.2.2.2.2.1, I w.2.2.2.2.2.2.2.2], .dead, .box 34 [B s2.1.Six, .d (.v (.int .u64 s2.1.Hi)), .d (.v (.int .u64 (bitsV .or .u64 s2.1.Lo y14)))]] [1, 5] [12] [12] hmix (by kernel_rfl) (by kernel_rfl) ⟨rfl, rfl, trivial⟩ (Nat.le_of_ble_eq_true rfl) ?_
      obtain ⟨x16, hx16, h17⟩ := bi_ok h15
      refine go_E hΓ 4 rfl ?_
      refine ge_q rfl (.inl rfl) (fun _ _ => qte_of_qt (qt_p (op_elemArr hΓ hx16 rfl rfl rfl rfl rfl rfl))) ?_
      refine ge_p rfl (fun hp hs => op_loadArr hΓ (f := fun z => .d (.v (.int .i64 z))) hx16 rfl rfl rfl rfl (hs 0 _ rfl rfl) rfl) rfl ?_
      obtain ⟨y18, hy18, h19⟩ := bi_ok h17
      refine go_E hΓ 3 rfl ?_
      refine ge_q rfl (.inl rfl) (fun _ _ => qte_of_qt (qt_p (op_shlZ hy18 rfl rfl))) ?_
      refine go_E hΓ 2 rfl ?_
      refine ge_h0 [.box 132 [I w.1, I w.2.1, I w.2.2.1, I w.2.2.2.1, I w.2.2.2.2.1, I w.2.2.2.2.2.1, I w.2.2.2.2.2.2.1, I w.2.2.2.2.2.2.2.1, I w.2.2.2.2.2.2.2.2], .box 34 [B false, .d (.v (.int .u64 0)), .d (.v (.int .u64 0))], .box 34 [B s2.1.Six, .d (.v (.int .u64 (bitsV .or .u64 s2.1.Hi y18))), .d (.v (.int .u64 (bitsV .or .u64 s2.1.Lo y14)))]] rfl rfl (brk_st rfl) (qte_u (opu_store2 hΓ rfl rfl rfl rfl rfl rfl rfl rfl rfl)) ?_
      refine ge_fin ?_
      refine go hΓ 6 rfl ?_
      obtain rfl := Option.some.inj h19
      exact ⟨_, rfl, ⟨⟨rfl, rfl, rfl, rfl, trivial⟩, [], rfl, .inl rfl⟩⟩
    · have h20 := cF hy8 hb
      refine go hΓ 4 rfl ?_
      obtain rfl := Option.some.inj h20
      obtain rfl := hout9 _ rfl
      exact ⟨⟨rfl, rfl, rfl, trivial⟩, [], rfl, .inl rfl⟩
  · refine go hΓ 3 rfl ?_
    refine eo_o rfl (op_elemArr hΓ (l := List.replicate 9 ()) (z := ()) rfl rfl rfl rfl rfl rfl rfl) ?_
    refine go_ops hΓ 3 rfl ?_
    refine eo_store hΓ rfl rfl rfl rfl rfl rfl rfl rfl (Nat.le_of_ble_eq_true rfl) ?_
    refine eo_hp [.box 132 [I w.1, I w.2.1, I w.2.2.1, I w.2.2.2.1, I w.2.2.2.2.1, I w.2.2.2.2.2.1, I w.2.2.2.2.2.2.1, I w.2.2.2.2.2.2.2.1, I w.2.2.2.2.2.2.2.2], .box 34 [B false, .d (.v (.int .u64 0)), .d (.v (.int .u64 0))], .box 34 [B (decide ((w.2.2.2.2.2.2.2.2 : Int) > 0)), .d (.v (.int .u64 q4.Hi)), .d (.v (.int .u64 q4.Lo))]] rfl ?_
    refine go_ops hΓ 5 rfl ?_
    refine eo_store hΓ rfl rfl rfl rfl rfl rfl rfl rfl (Nat.le_of_ble_eq_true rfl) ?_
    refine eo_hp [.box 132 [I w.1, I w.2.1, I w.2.2.1, I w.2.2.2.1, I w.2.2.2.2.1, I w.2.2.2.2.2.1, I w.2.2.2.2.2.2.1, I w.2.2.2.2.2.2.2.1, I w.2.2.2.2.2.2.2.2], .box 34 [B (decide ((w.2.2.2.2.2.2.2.2 : Int) > 0)), .d (.v (.int .u64 q4.Hi)), .d (.v (.int .u64 q4.Lo))], .box 34 [B (decide ((w.2.2.2.2.2.2.2.2 : Int) > 0)), .d (.v (.int .u64 q4.Hi)), .d (.v (.int .u64 q4.Lo))]] rfl ?_
    refine go_ops hΓ 3 rfl ?_
    obtain rfl := Option.some.inj h5
    exact fin_pure hΓ (.inr rfl) rfl rfl
theorem c_laneref2_MaskOf {k : Nat} {a : T_api_Addr} {bits : Int} {r : T_api_Prefix} (h : m_laneref2_MaskOf k a bits = some r) : Pure Tryz.prog 128 [.agg [B a.Six, .d (.v (.int .u64 a.Hi)), .d (.v (.int .u64 a.Lo))], I bits] (.agg [B r.Addr.Six, .d (.v (.int .u64 r.Addr.Hi)), .d (.v (.int .u64 r.Addr.Lo)), I r.Bits]) := by
  refine Pure.enter (Fr.of 0 _) Tryz.func128 rfl (Fr.of_ok _) rfl rfl ?_
  refine go_in ?_
  unfold m_laneref2_MaskOf at h
  refine go hΓ 2 rfl ?_
  refine eo_box rfl rfl rfl rfl (Nat.le_of_ble_eq_true rfl) ?_
  refine eo_alloc hΓ rfl rfl rfl (Nat.le_of_ble_eq_true rfl) ?_
  obtain ⟨y1, hy1, h2⟩ := bi_ok h
  refine go_ops hΓ 6 rfl ?_
  refine eo_callP (callable Tryz.func96 rfl rfl) (c_laneref2_firstOf hy1) rfl (Nat.le_of_ble_eq_true rfl) rfl rfl rfl rfl rfl ?_
  obtain ⟨y3, hy3, h4⟩ := bi_ok h2
  refine eo_callP (callable Tryz.func154 rfl rfl) (c_laneref2_wide_addr hy3) rfl (Nat.le_of_ble_eq_true rfl) rfl rfl rfl rfl rfl ?_
  refine go_ops hΓ 1 rfl ?_
  refine eo_build hΓ (gs := [B y3.Six, .d (.v (.int .u64 y3.Hi)), .d (.v (.int .u64 y3.Lo)), I bits]) rfl rfl rfl rfl rfl rfl rfl ?_
  refine eo_store hΓ rfl rfl rfl rfl rfl rfl rfl rfl (Nat.le_of_ble_eq_true rfl) ?_
  refine eo_hp [.box 34 [B a.Six, .d (.v (.int .u64 a.Hi)), .d (.v (.int .u64 a.Lo))], .box 42 [B y3.Six, .d (.v (.int .u64 y3.Hi)), .d (.v (.int .u64 y3.Lo)), I bits]] rfl ?_
  refine go_ops hΓ 3 rfl ?_
  obtain rfl := Option.some.inj h4
  exact fin_pure hΓ (.inr rfl) rfl rfl
theorem c_lanemake_Stream_RightPrefix {k : Nat} {s : T_lanemake_Stream} {r : T_api_Prefix × T_lanemake_Stream} (h : m_lanemake_Stream_RightPrefix k s = some r) : EC Tryz.prog 79 [.ptr 0 0] [.box 25 [.d (Sl (eN .i64) s.L), I s.v_at]] fun g hp' => g = .agg [B r.1.Addr.Six, .d (.v (.int .u64 r.1.Addr.Hi)), .d (.v (.int .u64 r.1.Addr.Lo)), I r.1.Bits] ∧ hp' = [.box 25 [.d (Sl (eN .i64) r.2.L), I r.2.v_at]] := by
  refine ec_enter (Fr.of 0 _) Tryz.func79 rfl (Fr.of_ok _) (Nat.le_of_ble_eq_true rfl) fun _ => ?_
  refine go_in ?_
  unfold m_lanemake_Stream_RightPrefix at h
  refine go hΓ 2 rfl ?_
  refine eo_alloc hΓ rfl rfl rfl (Nat.le_of_ble_eq_true rfl) ?_
  obtain ⟨y1, hy1, h2⟩ := bi_ok h
  refine go_ops hΓ 5 rfl ?_
  refine eo_callF [0] (.agg [B y1.1.Six, .d (.v (.int .u64 y1.1.Hi)), .d (.v (.int .u64 y1.1.Lo))]) [.box 25 [.d (Sl (eN .i64) y1.2.L), I y1.2.v_at], .box 42 [B false, .d (.v (.int .u64 0)), .d (.v (.int .u64 0)), I 0]] (callable Tryz.func56 rfl rfl) (c_lanemake_Stream_Addr hy1) rfl (Nat.le_of_ble_eq_true rfl) rfl rfl rfl rfl rfl rfl rfl rfl rfl rfl ?_
  refine eo_alloc hΓ rfl rfl rfl (Nat.le_of_ble_eq_true rfl) ?_
  refine eo_store hΓ rfl rfl rfl rfl rfl rfl rfl rfl (Nat.le_of_ble_eq_true rfl) ?_
  refine eo_hp [.box 25 [.d (Sl (eN .i64) y1.2.L), I y1.2.v_at], .box 42 [B false, .d (.v (.int .u64 0)), .d (.v (.int .u64 0)), I 0], .box 34 [B y1.1.Six, .d (.v (.int .u64 y1.1.Hi)), .d (.v (.int .u64 y1.1.Lo))]] rfl ?_
  refine go_ops hΓ 5 rfl ?_
  refine eo_litT hΓ (enc := (eN .i64)) [0, 8, 24, 27, 28, 29, 30, 31, 32] rfl rfl rfl rfl rfl rfl rfl rfl rfl rfl rfl rfl (Nat.le_of_ble_eq_true rfl) ?_
  obtain ⟨y3, hy3, h4⟩ := bi_ok h2
  refine eo_callF [0] (I y3.1) [.box 25 [.d (Sl (eN .i64) y3.2.L), I y3.2.v_at], .box 42 [B false, .d (.v (.int .u64 0)), .d (.v (.int .u64 0)), I 0], .box 34 [B y1.1.Six, .d (.v (.int .u64 y1.1.Hi)), .d (.v (.int .u64 y1.1.Lo))]] (callable Tryz.func54 rfl rfl) (c_lanemake_Stream_Pick hy3) rfl (Nat.le_of_ble_eq_true rfl) rfl rfl rfl rfl rfl rfl rfl rfl rfl rfl ?_
  obtain ⟨q5, hq5, h6⟩ := bi_ok h4
  refine go_ops hΓ 10 rfl ?_
  refine j_cutNZ [(2, .ptr 1 0), (3, .ptr 2 0), (4, I q5.2)] [.box 25 [.d (Sl (eN .i64) q5.1.L), I q5.1.v_at], .box 42 [B false, .d (.v (.int .u64 0)), .d (.v (.int .u64 0)), I 0], .box 34 [B y1.1.Six, .d (.v (.int .u64 y1.1.Hi)), .d (.v (.int .u64 y1.1.Lo))]] ?_ ?_
  · refine j_cond rfl (fun hb => ?_) (fun hb => ?_)
    · have h7 := cT hq5 hb
      refine go hΓ 2 rfl ?_
      refine eo_litT hΓ (enc := (eN .i64)) [0, 8, 32, 48, 63, 64, 65, 96, 127, 128] rfl rfl rfl rfl rfl rfl rfl rfl rfl rfl rfl rfl (Nat.le_of_ble_eq_true rfl) ?_
      obtain ⟨y8, hy8, h9⟩ := bi_ok h7
      refine eo_callF [0] (I y8.1) [.box 25 [.d (Sl (eN .i64) y8.2.L), I y8.2.v_at], .box 42 [B false, .d (.v (.int .u64 0)), .d (.v (.int .u64 0)), I 0], .box 34 [B y1.1.Six, .d (.v (.int .u64 y1.1.Hi)), .d (.v (.int .u64 y1.1.Lo))]] (callable Tryz.func54 rfl rfl) (c_lanemake_Stream_Pick hy8) rfl (Nat.le_of_ble_eq_true rfl) rfl rfl rfl rfl rfl rfl rfl rfl rfl rfl ?_
      refine go_ops hΓ 2 rfl ?_
      obtain rfl := Option.some.inj h9
      exact ⟨⟨rfl, rfl, rfl, trivial⟩, [], rfl, .inl rfl⟩
    · have h10 := cF hq5 hb
      refine go hΓ 1 rfl ?_
      obtain rfl := Option.some.inj h10
      exact ⟨⟨rfl, rfl, rfl, trivial⟩, [], rfl, .inl rfl⟩
  · obtain ⟨y11, hy11, h12⟩ := bi_ok h6
    refine go hΓ 5 rfl ?_
    refine eo_callP (callable Tryz.func128 rfl rfl) (c_laneref2_MaskOf hy11) rfl (Nat.le_of_ble_eq_true rfl) rfl rfl rfl rfl rfl ?_
    refine eo_store hΓ rfl rfl rfl rfl rfl rfl rfl rfl (Nat.le_of_ble_eq_true rfl) ?_
    refine eo_hp [.box 25 [.d (Sl (eN .i64) q5.1.L), I q5.1.v_at], .box 42 [B y11.Addr.Six, .d (.v (.int .u64 y11.Addr.Hi)), .d (.v (.int .u64 y11.Addr.Lo)), I y11.Bits], .box 34 [B y1.1.Six, .d (.v (.int .u64 y1.1.Hi)), .d (.v (.int .u64 y1.1.Lo))]] rfl ?_
    refine go_ops hΓ 3 rfl ?_
    obtain rfl := Option.some.inj h12
    exact fin_objs hΓ [_, _] (.inr rfl) rfl rfl rfl rfl (.inr ⟨HB.mk rfl, rfl⟩)
theorem c_lanemake_Stream_Raw {s : T_lanemake_Stream} {r : T_api_Addr × T_lanemake_Stream} (h : m_lanemake_Stream_Raw s = some r) : EC Tryz.prog 10 [.ptr 0 0] [.box 25 [.d (Sl (eN .i64) s.L), I s.v_at]] fun g hp' => g = .agg [B r.1.Six, .d (.v (.int .u64 r.1.Hi)), .d (.v (.int .u64 r.1.Lo))] ∧ hp' = [.box 25 [.d (Sl (eN .i64) r.2.L), I r.2.v_at]] := by
  refine ec_enter (Fr.of 0 _) Tryz.func10 rfl (Fr.of_ok _) (Nat.le_of_ble_eq_true rfl) fun _ => ?_
  refine go_in ?_
  unfold m_lanemake_Stream_Raw at h
  refine go hΓ 2 rfl ?_
  refine eo_alloc hΓ rfl rfl rfl (Nat.le_of_ble_eq_true rfl) ?_
  obtain ⟨y1, hy1, h2⟩ := bi_ok h
  refine go_ops hΓ 5 rfl ?_
  refine eo_callF [0] (.agg [B y1.1.Six, .d (.v (.int .u64 y1.1.Hi)), .d (.v (.int .u64 y1.1.Lo))]) [.box 25 [.d (Sl (eN .i64) y1.2.L), I y1.2.v_at], .box 34 [B false, .d (.v (.int .u64 0)), .d (.v (.int .u64 0))]] (callable Tryz.func56 rfl rfl) (c_lanemake_Stream_Addr hy1) rfl (Nat.le_of_ble_eq_true rfl) rfl rfl rfl rfl rfl rfl rfl rfl rfl rfl ?_
  refine eo_alloc hΓ rfl rfl rfl (Nat.le_of_ble_eq_true rfl) ?_
  refine eo_store hΓ rfl rfl rfl rfl rfl rfl rfl rfl (Nat.le_of_ble_eq_true rfl) ?_
  refine eo_hp [.box 25 [.d (Sl (eN .i64) y1.2.L), I y1.2.v_at], .box 34 [B false, .d (.v (.int .u64 0)), .d (.v (.int .u64 0))], .box 34 [B y1.1.Six, .d (.v (.int .u64 y1.1.Hi)), .d (.v (.int .u64 y1.1.Lo))]] rfl ?_
  obtain ⟨y3, hy3, h4⟩ := bi_ok h2
  refine go_ops hΓ 6 rfl ?_
  refine eo_callF [0] (B y3.1) [.box 25 [.d (Sl (eN .i64) y3.2.L), I y3.2.v_at], .box 34 [B false, .d (.v (.int .u64 0)), .d (.v (.int .u64 0))], .box 34 [B y1.1.Six, .d (.v (.int .u64 y1.1.Hi)), .d (.v (.int .u64 y1.1.Lo))]] (callable Tryz.func11 rfl rfl) (c_lanemake_Stream_Flip hy3) rfl (Nat.le_of_ble_eq_true rfl) rfl rfl rfl rfl rfl rfl rfl rfl rfl rfl ?_
  refine go_ops hΓ 2 rfl ?_
  refine j_cond rfl (fun hb => ?_) (fun hb => ?_)
  · have h5 := cT h4 hb
    obtain ⟨y6, hy6, h7⟩ := bi_ok h5
    refine go hΓ 3 rfl ?_
    refine eo_callF [0] (I y6.1) [.box 25 [.d (Sl (eN .i64) y6.2.L), I y6.2.v_at], .box 34 [B false, .d (.v (.int .u64 0)), .d (.v (.int .u64 0))], .box 34 [B y1.1.Six, .d (.v (.int .u64 y1.1.Hi)), .d (.v (.int .u64 y1.1.Lo))]] (callable Tryz.func29 rfl rfl) (c_lanemake_Stream_Next hy6) rfl (Nat.le_of_ble_eq_true rfl) rfl rfl rfl rfl rfl rfl rfl rfl rfl rfl ?_
    refine go_ops hΓ 1 rfl ?_
    refine eo_litT hΓ (enc := (eN .u64)) [4294967296, 5, 1099511627776] rfl rfl rfl rfl rfl rfl rfl rfl rfl rfl rfl rfl (Nat.le_of_ble_eq_true rfl) ?_
    obtain ⟨y8, hy8, h9⟩ := bi_ok h7
    refine go_ops hΓ 1 rfl ?_
    refine eo_callF [0] (I y8.1) [.box 25 [.d (Sl (eN .i64) y8.2.L), I y8.2.v_at], .box 34 [B false, .d (.v (.int .u64 0)), .d (.v (.int .u64 0))], .box 34 [B y1.1.Six, .d (.v (.int .u64 y1.1.Hi)), .d (.v (.int .u64 y1.1.Lo))]] (callable Tryz.func29 rfl rfl) (c_lanemake_Stream_Next hy8) rfl (Nat.le_of_ble_eq_true rfl) rfl rfl rfl rfl rfl rfl rfl rfl rfl rfl ?_
    obtain ⟨x10, hx10, h11⟩ := bi_ok h9
    refine eo_o rfl (op_elemZ hΓ (enc := (eN .u64)) hx10 rfl rfl rfl rfl rfl (fun _ => rfl)) ?_
    refine go_ops hΓ 1 rfl ?_
    refine eo_build hΓ (gs := [B false, .d (.v (.int .u64 (IntKind.u64.wrap (y6.1)))), .d (.v (.int .u64 x10))]) rfl rfl rfl rfl rfl rfl rfl ?_
    refine eo_store hΓ rfl rfl rfl rfl rfl rfl rfl rfl (Nat.le_of_ble_eq_true rfl) ?_
    refine eo_hp [.box 25 [.d (Sl (eN .i64) y8.2.L), I y8.2.v_at], .box 34 [B false, .d (.v (.int .u64 (IntKind.u64.wrap (y6.1)))), .d (.v (.int .u64 x10))], .box 34 [B y1.1.Six, .d (.v (.int .u64 y1.1.Hi)), .d (.v (.int .u64 y1.1.Lo))]] rfl ?_
    refine go_ops hΓ 4 rfl ?_
    obtain rfl := Option.some.inj h11
    exact fin_objs hΓ [_, _] (.inr rfl) rfl rfl rfl rfl (.inr ⟨HB.mk rfl, rfl⟩)
  · have h12 := cF h4 hb
    refine go hΓ 5 rfl ?_
    refine eo_store hΓ rfl rfl rfl rfl rfl rfl rfl rfl (Nat.le_of_ble_eq_true rfl) ?_
    refine eo_hp [.box 25 [.d (Sl (eN .i64) y3.2.L), I y3.2.v_at], .box 34 [B y1.1.Six, .d (.v (.int .u64 y1.1.Hi)), .d (.v (.int .u64 y1.1.Lo))], .box 34 [B y1.1.Six, .d (.v (.int .u64 y1.1.Hi)), .d (.v (.int .u64 y1.1.Lo))]] rfl ?_
    refine go_ops hΓ 3 rfl ?_
    obtain rfl := Option.some.inj h12
    exact fin_objs hΓ [_, _] (.inr rfl) rfl rfl rfl rfl (.inr ⟨HB.mk rfl, rfl⟩)
theorem c_lanemake_Stream_Odd {s : T_lanemake_Stream} {low : Int} {high : Int} {r : Int × T_lanemake_Stream} (h : m_lanemake_Stream_Odd s low high = some r) : EC Tryz.prog 55 [.ptr 0 0, I low, I high] [.box 25 [.d (Sl (eN .i64) s.L), I s.v_at]] fun g hp' => g = I r.1 ∧ hp' = [.box 25 [.d (Sl (eN .i64) r.2.L), I r.2.v_at]] := by
  refine ec_enter (Fr.of 0 _) Tryz.func55 rfl (Fr.of_ok _) (Nat.le_of_ble_eq_true rfl) fun _ => ?_
  refine go_in ?_
  unfold m_lanemake_Stream_Odd at h
  obtain ⟨y1, hy1, h2⟩ := bi_ok h
  refine go hΓ 9 rfl ?_
  refine eo_callF [0] (B y1.1) [.box 25 [.d (Sl (eN .i64) y1.2.L), I y1.2.v_at]] (callable Tryz.func11 rfl rfl) (c_lanemake_Stream_Flip hy1) rfl (Nat.le_of_ble_eq_true rfl) rfl rfl rfl rfl rfl rfl rfl rfl rfl rfl ?_
  refine go_ops hΓ 2 rfl ?_
  refine j_cond rfl (fun hb => ?_) (fun hb => ?_)
  · have h3 := cT h2 hb
    refine go hΓ 9 rfl ?_
    refine eo_litT hΓ (enc := (eN .i64)) [wi (low - 1), wi (high + 1), low, high, -1099511627776, 1099511627776] rfl rfl rfl rfl rfl rfl rfl rfl rfl rfl rfl rfl (Nat.le_of_ble_eq_true rfl) ?_
    obtain ⟨y4, hy4, h5⟩ := bi_ok h3
    refine eo_callF [0] (I y4.1) [.box 25 [.d (Sl (eN .i64) y4.2.L), I y4.2.v_at]] (callable Tryz.func54 rfl rfl) (c_lanemake_Stream_Pick hy4) rfl (Nat.le_of_ble_eq_true rfl) rfl rfl rfl rfl rfl rfl rfl rfl rfl rfl ?_
    refine go_ops hΓ 5 rfl ?_
    obtain rfl := Option.some.inj h5
    exact fin_objs hΓ [] (.inr rfl) rfl rfl rfl rfl (.inl rfl)
  · have h6 := cF h2 hb
    obtain ⟨y7, hy7, h8⟩ := bi_ok h6
    refine go hΓ 7 rfl ?_
    refine eo_callF [0] (I y7.1) [.box 25 [.d (Sl (eN .i64) y7.2.L), I y7.2.v_at]] (callable Tryz.func8 rfl rfl) (c_lanemake_Stream_Range hy7) rfl (Nat.le_of_ble_eq_true rfl) rfl rfl rfl rfl rfl rfl rfl rfl rfl rfl ?_
    refine go_ops hΓ 4 rfl ?_
    obtain rfl := Option.some.inj h8
    exact fin_objs hΓ [] (.inr rfl) rfl rfl rfl rfl (.inl rfl)
theorem c_lanemake_Stream_Prefix {k : Nat} {s : T_lanemake_Stream} {r : T_api_Prefix × T_lanemake_Stream} (h : m_lanemake_Stream_Prefix k s = some r) : EC Tryz.prog 28 [.ptr 0 0] [.box 25 [.d (Sl (eN .i64) s.L), I s.v_at]] fun g hp' => g = .agg [B r.1.Addr.Six, .d (.v (.int .u64 r.1.Addr.Hi)), .d (.v (.int .u64 r.1.Addr.Lo)), I r.1.Bits] ∧ hp' = [.box 25 [.d (Sl (eN .i64) r.2.L), I r.2.v_at]] := by
  refine ec_enter (Fr.of 0 _) Tryz.func28 rfl (Fr.of_ok _) (Nat.le_of_ble_eq_true rfl) fun _ => ?_
  refine go_in ?_
  unfold m_lanemake_Stream_Prefix at h
  refine go hΓ 2 rfl ?_
  refine eo_alloc hΓ rfl rfl rfl (Nat.le_of_ble_eq_true rfl) ?_
  obtain ⟨y1, hy1, h2⟩ := bi_ok h
  refine go_ops hΓ 5 rfl ?_
  refine eo_callF [0] (.agg [B y1.1.Addr.Six, .d (.v (.int .u64 y1.1.Addr.Hi)), .d (.v (.int .u64 y1.1.Addr.Lo)), I y1.1.Bits]) [.box 25 [.d (Sl (eN .i64) y1.2.L), I y1.2.v_at], .box 42 [B false, .d (.v (.int .u64 0)), .d (.v (.int .u64 0)), I 0]] (callable Tryz.func79 rfl rfl) (c_lanemake_Stream_RightPrefix hy1) rfl (Nat.le_of_ble_eq_true rfl) rfl rfl rfl rfl rfl rfl rfl rfl rfl rfl ?_
  refine eo_alloc hΓ rfl rfl rfl (Nat.le_of_ble_eq_true rfl) ?_
  refine eo_store hΓ rfl rfl rfl rfl rfl rfl rfl rfl (Nat.le_of_ble_eq_true rfl) ?_
  refine eo_hp [.box 25 [.d (Sl (eN .i64) y1.2.L), I y1.2.v_at], .box 42 [B false, .d (.v (.int .u64 0)), .d (.v (.int .u64 0)), I 0], .box 42 [B y1.1.Addr.Six, .d (.v (.int .u64 y1.1.Addr.Hi)), .d (.v (.int .u64 y1.1.Addr.Lo)), I y1.1.Bits]] rfl ?_
  obtain ⟨y3, hy3, h4⟩ := bi_ok h2
  refine go_ops hΓ 6 rfl ?_
  refine eo_callF [0] (B y3.1) [.box 25 [.d (Sl (eN .i64) y3.2.L), I y3.2.v_at], .box 42 [B false, .d (.v (.int .u64 0)), .d (.v (.int .u64 0)), I 0], .box 42 [B y1.1.Addr.Six, .d (.v (.int .u64 y1.1.Addr.Hi)), .d (.v (.int .u64 y1.1.Addr.Lo)), I y1.1.Bits]] (callable Tryz.func11 rfl rfl) (c_lanemake_Stream_Flip hy3) rfl (Nat.le_of_ble_eq_true rfl) rfl rfl rfl rfl rfl rfl rfl rfl rfl rfl ?_
  obtain ⟨q5, hq5, h6⟩ := bi_ok h4
  refine go_ops hΓ 2 rfl ?_
  refine j_cutNZ [(2, .ptr 1 0), (3, .ptr 2 0)] [.box 25 [.d (Sl (eN .i64) q5.1.L), I q5.1.v_at], .box 42 [B false, .d (.v (.int .u64 0)), .d (.v (.int .u64 0)), I 0], .box 42 [B q5.2.Addr.Six, .d (.v (.int .u64 q5.2.Addr.Hi)), .d (.v (.int .u64 q5.2.Addr.Lo)), I q5.2.Bits]] ?_ ?_
  · refine j_cond rfl (fun hb => ?_) (fun hb => ?_)
    · have h7 := cT hq5 hb
      obtain ⟨y8, hy8, h9⟩ := bi_ok h7
      refine go hΓ 2 rfl ?_
      refine eo_callF [0] (.agg [B y8.1.Six, .d (.v (.int .u64 y8.1.Hi)), .d (.v (.int .u64 y8.1.Lo))]) [.box 25 [.d (Sl (eN .i64) y8.2.L), I y8.2.v_at], .box 42 [B false, .d (.v (.int .u64 0)), .d (.v (.int .u64 0)), I 0], .box 42 [B y1.1.Addr.Six, .d (.v (.int .u64 y1.1.Addr.Hi)), .d (.v (.int .u64 y1.1.Addr.Lo)), I y1.1.Bits]] (callable Tryz.func10 rfl rfl) (c_lanemake_Stream_Raw hy8) rfl (Nat.le_of_ble_eq_true rfl) rfl rfl rfl rfl rfl rfl rfl rfl rfl rfl ?_
      obtain ⟨y10, hy10, h11⟩ := bi_ok h9
      refine go_ops hΓ 1 rfl ?_
      refine eo_callF [0] (I y10.1) [.box 25 [.d (Sl (eN .i64) y10.2.L), I y10.2.v_at], .box 42 [B false, .d (.v (.int .u64 0)), .d (.v (.int .u64 0)), I 0], .box 42 [B y1.1.Addr.Six, .d (.v (.int .u64 y1.1.Addr.Hi)), .d (.v (.int .u64 y1.1.Addr.Lo)), I y1.1.Bits]] (callable Tryz.func55 rfl rfl) (c_lanemake_Stream_Odd hy10) rfl (Nat.le_of_ble_eq_true rfl) rfl rfl rfl rfl rfl rfl rfl rfl rfl rfl ?_
      refine eo_build hΓ (gs := [B y8.1.Six, .d (.v (.int .u64 y8.1.Hi)), .d (.v (.int .u64 y8.1.Lo)), I y10.1]) rfl rfl rfl rfl rfl rfl rfl ?_
      refine eo_store hΓ rfl rfl rfl rfl rfl rfl rfl rfl (Nat.le_of_ble_eq_true rfl) ?_
      refine eo_hp [.box 25 [.d (Sl (eN .i64) y10.2.L), I y10.2.v_at], .box 42 [B false, .d (.v (.int .u64 0)), .d (.v (.int .u64 0)), I 0], .box 42 [B y8.1.Six, .d (.v (.int .u64 y8.1.Hi)), .d (.v (.int .u64 y8.1.Lo)), I y10.1]] rfl ?_
      refine go_ops hΓ 1 rfl ?_
      obtain rfl := Option.some.inj h11
      exact ⟨⟨rfl, rfl, trivial⟩, [], rfl, .inl rfl⟩
    · have h12 := cF hq5 hb
      refine go hΓ 1 rfl ?_
      obtain rfl := Option.some.inj h12
      exact ⟨⟨rfl, rfl, trivial⟩, [], rfl, .inl rfl⟩
  · refine go hΓ 4 rfl ?_
    refine eo_store hΓ rfl rfl rfl rfl rfl rfl rfl rfl (Nat.le_of_ble_eq_true rfl) ?_
    refine eo_hp [.box 25 [.d (Sl (eN .i64) q5.1.L), I q5.1.v_at], .box 42 [B q5.2.Addr.Six, .d (.v (.int .u64 q5.2.Addr.Hi)), .d (.v (.int .u64 q5.2.Addr.Lo)), I q5.2.Bits], .box 42 [B q5.2.Addr.Six, .d (.v (.int .u64 q5.2.Addr.Hi)), .d (.v (.int .u64 q5.2.Addr.Lo)), I q5.2.Bits]] rfl ?_
    refine go_ops hΓ 3 rfl ?_
    obtain rfl := Option.some.inj h6
    exact fin_objs hΓ [_, _] (.inr rfl) rfl rfl rfl rfl (.inr ⟨HB.mk rfl, rfl⟩)
theorem c_lanemake_Stream_Some {s : T_lanemake_Stream} {l : List Str} {r : Str × T_lanemake_Stream} (h : m_lanemake_Stream_Some s l = some r) : EC Tryz.prog 27 [.ptr 0 0, .d (Sl eS l)] [.box 25 [.d (Sl (eN .i64) s.L), I s.v_at]] fun g hp' => g = S r.1 ∧ hp' = [.box 25 [.d (Sl (eN .i64) r.2.L), I r.2.v_at]] := by
  refine ec_enter (Fr.of 0 _) Tryz.func27 rfl (Fr.of_ok _) (Nat.le_of_ble_eq_true rfl) fun _ => ?_
  refine go_in ?_
  unfold m_lanemake_Stream_Some at h
  obtain ⟨y1, hy1, h2⟩ := bi_ok h
  refine go hΓ 11 rfl ?_
  refine eo_callF [0] (I y1.1) [.box 25 [.d (Sl (eN .i64) y1.2.L), I y1.2.v_at]] (callable Tryz.func29 rfl rfl) (c_lanemake_Stream_Next hy1) rfl (Nat.le_of_ble_eq_true rfl) rfl rfl rfl rfl rfl rfl rfl rfl rfl rfl ?_
  obtain ⟨x3, hx3, h4⟩ := bi_ok h2
  refine eo_o rfl (op_elemZ hΓ (enc := eS) hx3 rfl rfl rfl rfl rfl (fun _ => rfl)) ?_
  refine go_ops hΓ 5 rfl ?_
  obtain rfl := Option.some.inj h4
  exact fin_objs hΓ [] (.inr rfl) rfl rfl rfl rfl (.inl rfl)
theorem c_lanemake_Stream_Routers {k : Nat} {s : T_lanemake_Stream} {r : (List T_api_Router) × T_lanemake_Stream} (h : m_lanemake_Stream_Routers k s = some r) : EC Tryz.prog 6 [.ptr 0 0] [.box 25 [.d (Sl (eN .i64) s.L), I s.v_at]] fun g hp' => g = .sl 1 r.1.length ∧ hp' = [.box 25 [.d (Sl (eN .i64) r.2.L), I r.2.v_at], .row 69 6 r.1.length (r.1.flatMap e_api_Router)] := by
  refine ec_enterC (Fr.of 0 _) Tryz.func6 rfl (Fr.of_ok _) (Nat.le_of_ble_eq_true rfl) fun _ => ?_
  refine go_in ?_
  unfold m_lanemake_Stream_Routers at h
  refine go hΓ 7 rfl ?_
  refine eo_nilOwn (t := 0) 69 6 rfl (Nat.le_of_ble_eq_true rfl) ?_
  refine go_ops hΓ 5 rfl ?_
  refine eo_build hΓ (gs := [B false, .d (.v (.int .u64 0)), .d (.v (.int .u64 0)), I 0]) rfl rfl rfl rfl rfl rfl rfl ?_
  refine eo_build hΓ (gs := [B false, .d (.v (.int .u64 0)), .d (.v (.int .u64 167772160))]) rfl rfl rfl rfl rfl rfl rfl ?_
  refine eo_build hΓ (gs := [B false, .d (.v (.int .u64 0)), .d (.v (.int .u64 167772160)), I 8]) rfl rfl rfl rfl rfl rfl rfl ?_
  refine eo_build hΓ (gs := [B false, .d (.v (.int .u64 0)), .d (.v (.int .u64 167772160))]) rfl rfl rfl rfl rfl rfl rfl ?_
  refine eo_build hΓ (gs := [B false, .d (.v (.int .u64 0)), .d (.v (.int .u64 167772160)), I 16]) rfl rfl rfl rfl rfl rfl rfl ?_
  refine eo_build hΓ (gs := [B true, .d (.v (.int .u64 0)), .d (.v (.int .u64 0))]) rfl rfl rfl rfl rfl rfl rfl ?_
  refine eo_build hΓ (gs := [B true, .d (.v (.int .u64 0)), .d (.v (.int .u64 0)), I 0]) rfl rfl rfl rfl rfl rfl rfl ?_
  refine eo_litT hΓ (enc := e_api_Prefix) [(⟨(⟨false, 0, 0⟩ : T_api_Addr), 0⟩ : T_api_Prefix), (⟨(⟨false, 0, 167772160⟩ : T_api_Addr), 8⟩ : T_api_Prefix), (⟨(⟨false, 0, 167772160⟩ : T_api_Addr), 16⟩ : T_api_Prefix), (⟨(⟨true, 0, 0⟩ : T_api_Addr), 0⟩ : T_api_Prefix)] rfl rfl rfl rfl rfl rfl rfl rfl rfl rfl rfl rfl (Nat.le_of_ble_eq_true rfl) ?_
  refine go_ops hΓ 4 rfl ?_
  obtain ⟨q4, hq4, h5⟩ := bi_ok h
  refine j_bound 15 rfl fun hb7 => ?_
  refine j_cutNZ [(0, .ptr 0 0), (3, .sl 1 q4.2.length)] [.box 25 [.d (Sl (eN .i64) q4.1.L), I q4.1.v_at], .row 69 6 q4.2.length (q4.2.flatMap e_api_Router)] ?_ ?_
  · refine go hΓ 1 rfl ?_
    refine j_rangeF [(⟨(⟨false, 0, 0⟩ : T_api_Addr), 0⟩ : T_api_Prefix), (⟨(⟨false, 0, 167772160⟩ : T_api_Addr), 8⟩ : T_api_Prefix), (⟨(⟨false, 0, 167772160⟩ : T_api_Addr), 16⟩ : T_api_Prefix), (⟨(⟨true, 0, 0⟩ : T_api_Addr), 0⟩ : T_api_Prefix)] hq4 (fun i1 s2 => [(0, .ptr 0 0), (3, .sl 1 s2.2.length), (15, .d (Sl e_api_Prefix [(⟨(⟨false, 0, 0⟩ : T_api_Addr), 0⟩ : T_api_Prefix), (⟨(⟨false, 0, 167772160⟩ : T_api_Addr), 8⟩ : T_api_Prefix), (⟨(⟨false, 0, 167772160⟩ : T_api_Addr), 16⟩ : T_api_Prefix), (⟨(⟨true, 0, 0⟩ : T_api_Addr), 0⟩ : T_api_Prefix)])), (16, I ([(⟨(⟨false, 0, 0⟩ : T_api_Addr), 0⟩ : T_api_Prefix), (⟨(⟨false, 0, 167772160⟩ : T_api_Addr), 8⟩ : T_api_Prefix), (⟨(⟨false, 0, 167772160⟩ : T_api_Addr), 16⟩ : T_api_Prefix), (⟨(⟨true, 0, 0⟩ : T_api_Addr), 0⟩ : T_api_Prefix)].length : Int)), (17, I (i1 : Int))]) (fun s2 => [.box 25 [.d (Sl (eN .i64) s2.1.L), I s2.1.v_at], .row 69 6 s2.2.length (s2.2.flatMap e_api_Router)]) ⟨⟨rfl, rfl, rfl, rfl, rfl, trivial⟩, [], rfl, .inl rfl⟩ (fun i1 x3 s2 y11 hx8 hlt hy9 => ?_) (?_)
    · refine go hΓ 6 rfl ?_
      refine j_condT rfl (decide_eq_true (Int.ofNat_lt.2 hlt)) ?_
      refine go hΓ 6 rfl ?_
      refine eo_o rfl (op_elemZ hΓ (enc := e_api_Prefix) (getZ_nat hx8) rfl rfl rfl rfl rfl (fun _ => rfl)) ?_
      refine go_ops hΓ 1 rfl ?_
      refine eo_alloc hΓ rfl rfl rfl (Nat.le_of_ble_eq_true rfl) ?_
      refine eo_store hΓ rfl rfl rfl rfl rfl rfl rfl rfl (Nat.le_of_ble_eq_true rfl) ?_
      refine eo_hp [.box 25 [.d (Sl (eN .i64) s2.1.L), I s2.1.v_at], .row 69 6 s2.2.length (s2.2.flatMap e_api_Router), .box 42 [B x3.Addr.Six, .d (.v (.int .u64 x3.Addr.Hi)), .d (.v (.int .u64 x3.Addr.Lo)), I x3.Bits]] rfl ?_
      refine go_ops hΓ 4 rfl ?_
      refine eo_litT hΓ (enc := eS) [[110, 97], [110, 98], [110, 99], [110, 100]] rfl rfl rfl rfl rfl rfl rfl rfl rfl rfl rfl rfl (Nat.le_of_ble_eq_true rfl) ?_
      refine go_ops hΓ 4 rfl ?_
      obtain ⟨q15, hq15, h16⟩ := bi_ok hy9
      refine j_bound 21 rfl fun hb18 => ?_
      refine j_cutNZ [(0, .ptr 0 0), (3, .sl 1 q15.2.length), (15, .d (Sl e_api_Prefix [(⟨(⟨false, 0, 0⟩ : T_api_Addr), 0⟩ : T_api_Prefix), (⟨(⟨false, 0, 167772160⟩ : T_api_Addr), 8⟩ : T_api_Prefix), (⟨(⟨false, 0, 167772160⟩ : T_api_Addr), 16⟩ : T_api_Prefix), (⟨(⟨true, 0, 0⟩ : T_api_Addr), 0⟩ : T_api_Prefix)])), (16, I ([(⟨(⟨false, 0, 0⟩ : T_api_Addr), 0⟩ : T_api_Prefix), (⟨(⟨false, 0, 167772160⟩ : T_api_Addr), 8⟩ : T_api_Prefix), (⟨(⟨false, 0, 167772160⟩ : T_api_Addr), 16⟩ : T_api_Prefix), (⟨(⟨true, 0, 0⟩ : T_api_Addr), 0⟩ : T_api_Prefix)].length : Int)), (17, I (i1 : Int))] [.box 25 [.d (Sl (eN .i64) q15.1.L), I q15.1.v_at], .row 69 6 q15.2.length (q15.2.flatMap e_api_Router), .box 42 [B x3.Addr.Six, .d (.v (.int .u64 x3.Addr.Hi)), .d (.v (.int .u64 x3.Addr.Lo)), I x3.Bits]] ?_ ?_
      · refine go hΓ 1 rfl ?_
        refine j_rangeF [[110, 97], [110, 98], [110, 99], [110, 100]] hq15 (fun i12 s13 => [(0, .ptr 0 0), (3, .sl 1 s13.2.length), (5, .ptr 2 0), (15, .d (Sl e_api_Prefix [(⟨(⟨false, 0, 0⟩ : T_api_Addr), 0⟩ : T_api_Prefix), (⟨(⟨false, 0, 167772160⟩ : T_api_Addr), 8⟩ : T_api_Prefix), (⟨(⟨false, 0, 167772160⟩ : T_api_Addr), 16⟩ : T_api_Prefix), (⟨(⟨true, 0, 0⟩ : T_api_Addr), 0⟩ : T_api_Prefix)])), (16, I ([(⟨(⟨false, 0, 0⟩ : T_api_Addr), 0⟩ : T_api_Prefix), (⟨(⟨false, 0, 167772160⟩ : T_api_Addr), 8⟩ : T_api_Prefix), (⟨(⟨false, 0, 167772160⟩ : T_api_Addr), 16⟩ : T_api_Prefix), (⟨(⟨true, 0, 0⟩ : T_api_Addr), 0⟩ : T_api_Prefix)].length : Int)), (17, I (i1 : Int)), (21, .d (Sl eS [[110, 97], [110, 98], [110, 99], [110, 100]])), (22, I ([[110, 97], [110, 98], [110, 99], [110, 100]].length : Int)), (23, I (i12 : Int))]) (fun s13 => [.box 25 [.d (Sl (eN .i64) s13.1.L), I s13.1.v_at], .row 69 6 s13.2.length (s13.2.flatMap e_api_Router), .box 42 [B x3.Addr.Six, .d (.v (.int .u64 x3.Addr.Hi)), .d (.v (.int .u64 x3.Addr.Lo)), I x3.Bits]]) ⟨⟨rfl, rfl, rfl, rfl, rfl, rfl, rfl, rfl, rfl, trivial⟩, [], rfl, .inl rfl⟩ (fun i12 x14 s13 y22 hx19 hlt hy20 => ?_) (?_)
        · refine go hΓ 6 rfl ?_
          refine j_condT rfl (decide_eq_true (Int.ofNat_lt.2 hlt)) ?_
          refine go hΓ 6 rfl ?_
          refine eo_o rfl (op_elemZ hΓ (enc := eS) (getZ_nat hx19) rfl rfl rfl rfl rfl (fun _ => rfl)) ?_
          obtain ⟨y23, hy23, h24⟩ := bi_ok hy20
          refine go_ops hΓ 7 rfl ?_
          refine eo_callF [0] (B y23.1) [.box 25 [.d (Sl (eN .i64) y23.2.L), I y23.2.v_at], .row 69 6 s13.2.length (s13.2.flatMap e_api_Router), .box 42 [B x3.Addr.Six, .d (.v (.int .u64 x3.Addr.Hi)), .d (.v (.int .u64 x3.Addr.Lo)), I x3.Bits]] (callable Tryz.func11 rfl rfl) (c_lanemake_Stream_Flip hy23) rfl (Nat.le_of_ble_eq_true rfl) rfl rfl rfl rfl rfl rfl rfl rfl rfl rfl ?_
          refine go_ops hΓ 2 rfl ?_
          refine j_cond rfl (fun hb => ?_) (fun hb => ?_)
          · have h25 := cT h24 hb
            refine j_drawE [.dead, .dead, .box 42 [B x3.Addr.Six, .d (.v (.int .u64 x3.Addr.Hi)), .d (.v (.int .u64 x3.Addr.Lo)), I x3.Bits]] [1] [5, 8] [] hmix (by kernel_rfl) (by kernel_rfl) ⟨rfl, trivial⟩ (Nat.le_of_ble_eq_true rfl) ?_
            refine go_E hΓ 4 rfl ?_
            refine ge_litT hΓ (enc := (eN .i64)) [0, 5, 5, 9] rfl rfl rfl rfl rfl rfl rfl rfl rfl rfl rfl rfl ?_
            obtain ⟨y26, hy26, h27⟩ := bi_ok h25
            refine ge_h [.box 25 [.d (Sl (eN .i64) y26.2.L), I y26.2.v_at], .row 69 6 s13.2.length (s13.2.flatMap e_api_Router), .box 42 [B x3.Addr.Six, .d (.v (.int .u64 x3.Addr.Hi)), .d (.v (.int .u64 x3.Addr.Lo)), I x3.Bits]] rfl rfl rfl (st_st ⟨rfl, trivial⟩) (qte_callF [0] (I y26.1) [.box 25 [.d (Sl (eN .i64) y26.2.L), I y26.2.v_at], .row 69 6 s13.2.length (s13.2.flatMap e_api_Router), .box 42 [B x3.Addr.Six, .d (.v (.int .u64 x3.Addr.Hi)), .d (.v (.int .u64 x3.Addr.Lo)), I x3.Bits]] (callable Tryz.func54 rfl rfl) (c_lanemake_Stream_Pick hy26) rfl rfl rfl rfl rfl rfl rfl rfl rfl rfl) ?_
            refine ge_q rfl (.inl rfl) (fun _ _ => qte_of_qt (qt_p (op_build hΓ (gs := [B x3.Addr.Six, .d (.v (.int .u64 x3.Addr.Hi)), .d (.v (.int .u64 x3.Addr.Lo)), I x3.Bits, S x14, I y26.1]) rfl rfl rfl rfl rfl rfl))) ?_
            refine ge_litT hΓ (enc := e_api_Router) [(⟨x3, x14, y26.1⟩ : T_api_Router)] rfl rfl rfl rfl rfl rfl rfl rfl rfl rfl rfl rfl ?_
            obtain ⟨y28, hy28, h29⟩ := bi_ok h27
            refine ge_h [.box 25 [.d (Sl (eN .i64) y26.2.L), I y26.2.v_at], .dead, .box 42 [B x3.Addr.Six, .d (.v (.int .u64 x3.Addr.Hi)), .d (.v (.int .u64 x3.Addr.Lo)), I x3.Bits], .row 69 6 y28.length (y28.flatMap e_api_Router)] rfl rfl rfl (st_st ⟨rfl, trivial⟩) (qte_s (ops_appendT hΓ (enc := e_api_Router) (id := 1) (h2 := show Γ 69 = some ⟨_, 6, _, _⟩ from rfl) hy28 rfl rfl rfl rfl rfl rfl rfl rfl (fun _ => rfl) rfl)) ?_
            refine go_E hΓ 1 rfl ?_
            refine ge_fin ?_
            refine go hΓ 2 rfl ?_
            refine j_move 3 1 [.box 25 [.d (Sl (eN .i64) y26.2.L), I y26.2.v_at], .row 69 6 y28.length (y28.flatMap e_api_Router), .box 42 [B x3.Addr.Six, .d (.v (.int .u64 x3.Addr.Hi)), .d (.v (.int .u64 x3.Addr.Lo)), I x3.Bits], .dead] rfl rfl rfl rfl rfl rfl ?_
            refine go hΓ 4 rfl ?_
            obtain rfl := Option.some.inj h29
            exact ⟨⟨rfl, rfl, rfl, rfl, rfl, rfl, rfl, rfl, get_eq rfl (w64_succ (Nat.lt_of_lt_of_le hlt hb18)), trivial⟩, [_], rfl, .inr ⟨HB.mk rfl, FB.mk rfl, (Nat.le_of_ble_eq_true rfl)⟩⟩
          · have h30 := cF h24 hb
            refine go hΓ 7 rfl ?_
            obtain rfl := Option.some.inj h30
            exact ⟨⟨rfl, rfl, rfl, rfl, rfl, rfl, rfl, rfl, get_eq rfl (w64_succ (Nat.lt_of_lt_of_le hlt hb18)), trivial⟩, [], rfl, .inl rfl⟩
        · refine go hΓ 6 rfl ?_
          refine j_condF rfl (decide_eq_false (Int.lt_irrefl _)) ?_
          refine go hΓ 4 rfl ?_
          exact ⟨⟨rfl, rfl, rfl, rfl, rfl, trivial⟩, [], rfl, .inl rfl⟩
      · refine go hΓ 6 rfl ?_
        obtain rfl := Option.some.inj h16
        exact ⟨⟨rfl, rfl, rfl, rfl, get_eq rfl (w64_succ (Nat.lt_of_lt_of_le hlt hb7)), trivial⟩, [_], rfl, .inr ⟨HB.mk rfl, FB.mk rfl, (Nat.le_of_ble_eq_true rfl)⟩⟩
    · refine go hΓ 6 rfl ?_
      refine j_condF rfl (decide_eq_false (Int.lt_irrefl _)) ?_
      refine go hΓ 4 rfl ?_
      exact ⟨⟨rfl, rfl, trivial⟩, [], rfl, .inl rfl⟩
  · obtain ⟨y31, hy31, h32⟩ := bi_ok h5
    refine go hΓ 5 rfl ?_
    refine eo_callF [0] (B y31.1) [.box 25 [.d (Sl (eN .i64) y31.2.L), I y31.2.v_at], .row 69 6 q4.2.length (q4.2.flatMap e_api_Router)] (callable Tryz.func11 rfl rfl) (c_lanemake_Stream_Flip hy31) rfl (Nat.le_of_ble_eq_true rfl) rfl rfl rfl rfl rfl rfl rfl rfl rfl rfl ?_
    obtain ⟨q33, hq33, h34⟩ := bi_ok h32
    refine go_ops hΓ 2 rfl ?_
    refine j_cutNZ [(3, .sl 1 q33.2.length)] [.box 25 [.d (Sl (eN .i64) q33.1.L), I q33.1.v_at], .row 69 6 q33.2.length (q33.2.flatMap e_api_Router)] ?_ ?_
    · refine j_cond rfl (fun hb => ?_) (fun hb => ?_)
      · have h35 := cT hq33 hb
        obtain ⟨y36, hy36, h37⟩ := bi_ok h35
        refine go hΓ 3 rfl ?_
        refine eo_callF [0] (.agg [B y36.1.Addr.Six, .d (.v (.int .u64 y36.1.Addr.Hi)), .d (.v (.int .u64 y36.1.Addr.Lo)), I y36.1.Bits]) [.box 25 [.d (Sl (eN .i64) y36.2.L), I y36.2.v_at], .row 69 6 q4.2.length (q4.2.flatMap e_api_Router)] (callable Tryz.func28 rfl rfl) (c_lanemake_Stream_Prefix hy36) rfl (Nat.le_of_ble_eq_true rfl) rfl rfl rfl rfl rfl rfl rfl rfl rfl rfl ?_
        refine go_ops hΓ 1 rfl ?_
        refine eo_litT hΓ (enc := eS) [[], [110, 97]] rfl rfl rfl rfl rfl rfl rfl rfl rfl rfl rfl rfl (Nat.le_of_ble_eq_true rfl) ?_
        obtain ⟨y38, hy38, h39⟩ := bi_ok h37
        refine eo_callF [0] (S y38.1) [.box 25 [.d (Sl (eN .i64) y38.2.L), I y38.2.v_at], .row 69 6 q4.2.length (q4.2.flatMap e_api_Router)] (callable Tryz.func27 rfl rfl) (c_lanemake_Stream_Some hy38) rfl (Nat.le_of_ble_eq_true rfl) rfl rfl rfl rfl rfl rfl rfl rfl rfl rfl ?_
        obtain ⟨y40, hy40, h41⟩ := bi_ok h39
        refine go_ops hΓ 1 rfl ?_
        refine eo_callF [0] (I y40.1) [.box 25 [.d (Sl (eN .i64) y40.2.L), I y40.2.v_at], .row 69 6 q4.2.length (q4.2.flatMap e_api_Router)] (callable Tryz.func55 rfl rfl) (c_lanemake_Stream_Odd hy40) rfl (Nat.le_of_ble_eq_true rfl) rfl rfl rfl rfl rfl rfl rfl rfl rfl rfl ?_
        refine eo_build hΓ (gs := [B y36.1.Addr.Six, .d (.v (.int .u64 y36.1.Addr.Hi)), .d (.v (.int .u64 y36.1.Addr.Lo)), I y36.1.Bits, S y38.1, I y40.1]) rfl rfl rfl rfl rfl rfl rfl ?_
        refine eo_litT hΓ (enc := e_api_Router) [(⟨y36.1, y38.1, y40.1⟩ : T_api_Router)] rfl rfl rfl rfl rfl rfl rfl rfl rfl rfl rfl rfl (Nat.le_of_ble_eq_true rfl) ?_
        obtain ⟨y42, hy42, h43⟩ := bi_ok h41
        refine eo_appendT hΓ (enc := e_api_Router) hy42 rfl rfl rfl rfl rfl rfl rfl rfl rfl (fun _ => rfl) rfl rfl rfl rfl ?_
        refine go_ops hΓ 2 rfl ?_
        obtain rfl := Option.some.inj h43
        exact ⟨⟨rfl, trivial⟩, [], rfl, .inl rfl⟩
      · have h44 := cF hq33 hb
        refine go hΓ 1 rfl ?_
        obtain rfl := Option.some.inj h44
        exact ⟨⟨rfl, trivial⟩, [], rfl, .inl rfl⟩
    · refine go hΓ 8 rfl ?_
      refine cv_here ?_
      obtain rfl := Option.some.inj h34
      exact fin_objs hΓ [] (.inr rfl) rfl rfl rfl rfl (.inl rfl)
theorem c_lanemake_Stream_HealthLog {s : T_lanemake_Stream} {many : Int} {r : (List T_api_Health) × T_lanemake_Stream} (h : m_lanemake_Stream_HealthLog s many = some r) : EC Tryz.prog 7 [.ptr 0 0, I many] [.box 25 [.d (Sl (eN .i64) s.L), I s.v_at]] fun g hp' => g = .sl 1 r.1.length ∧ hp' = [.box 25 [.d (Sl (eN .i64) r.2.L), I r.2.v_at], .row 103 3 r.1.length (r.1.flatMap e_api_Health)] := by
  refine ec_enterC (Fr.of 0 _) Tryz.func7 rfl (Fr.of_ok _) (Nat.le_of_ble_eq_true rfl) fun _ => ?_
  refine go_in ?_
  unfold m_lanemake_Stream_HealthLog at h
  refine go hΓ 7 rfl ?_
  refine eo_nilOwn (t := 0) 103 3 rfl (Nat.le_of_ble_eq_true rfl) ?_
  refine go_ops hΓ 14 rfl ?_
  obtain ⟨q4, hq4, h5⟩ := bi_ok h
  obtain ⟨hb7, h8⟩ := gd_ok hq4
  replace hb7 := of_decide_eq_true hb7
  refine j_cutNZ [(0, .ptr 0 0), (5, .sl 1 q4.2.1.length)] [.box 25 [.d (Sl (eN .i64) q4.1.L), I q4.1.v_at], .row 103 3 q4.2.1.length (q4.2.1.flatMap e_api_Health)] ?_ ?_
  · refine go hΓ 1 rfl ?_
    refine j_rangeG h8 (fun i1 s2 => [(0, .ptr 0 0), (5, .sl 1 s2.2.1.length), (6, I s2.2.2), (9, I many), (10, I (i1 : Int))]) (fun s2 => [.box 25 [.d (Sl (eN .i64) s2.1.L), I s2.1.v_at], .row 103 3 s2.2.1.length (s2.2.1.flatMap e_api_Health)]) ⟨⟨rfl, rfl, rfl, rfl, rfl, trivial⟩, [], rfl, .inl rfl⟩ (fun i1 s2 y12 hlt hy10 => ?_) (fun hge => ?_)
    · refine go hΓ 6 rfl ?_
      refine j_condT rfl (decide_eq_true hlt) ?_
      refine go hΓ 8 rfl ?_
      refine eo_litT hΓ (enc := (eN .i64)) [0, 1, 10, 30] rfl rfl rfl rfl rfl rfl rfl rfl rfl rfl rfl rfl (Nat.le_of_ble_eq_true rfl) ?_
      obtain ⟨y13, hy13, h14⟩ := bi_ok hy10
      refine eo_callF [0] (I y13.1) [.box 25 [.d (Sl (eN .i64) y13.2.L), I y13.2.v_at], .row 103 3 s2.2.1.length (s2.2.1.flatMap e_api_Health)] (callable Tryz.func54 rfl rfl) (c_lanemake_Stream_Pick hy13) rfl (Nat.le_of_ble_eq_true rfl) rfl rfl rfl rfl rfl rfl rfl rfl rfl rfl ?_
      refine go_ops hΓ 8 rfl ?_
      refine eo_litT hΓ (enc := eS) [[110, 97], [110, 98], [110, 99], [110, 100]] rfl rfl rfl rfl rfl rfl rfl rfl rfl rfl rfl rfl (Nat.le_of_ble_eq_true rfl) ?_
      obtain ⟨y15, hy15, h16⟩ := bi_ok h14
      refine eo_callF [0] (S y15.1) [.box 25 [.d (Sl (eN .i64) y15.2.L), I y15.2.v_at], .row 103 3 s2.2.1.length (s2.2.1.flatMap e_api_Health)] (callable Tryz.func27 rfl rfl) (c_lanemake_Stream_Some hy15) rfl (Nat.le_of_ble_eq_true rfl) rfl rfl rfl rfl rfl rfl rfl rfl rfl rfl ?_
      obtain ⟨y17, hy17, h18⟩ := bi_ok h16
      refine go_ops hΓ 1 rfl ?_
      refine eo_callF [0] (B y17.1) [.box 25 [.d (Sl (eN .i64) y17.2.L), I y17.2.v_at], .row 103 3 s2.2.1.length (s2.2.1.flatMap e_api_Health)] (callable Tryz.func11 rfl rfl) (c_lanemake_Stream_Flip hy17) rfl (Nat.le_of_ble_eq_true rfl) rfl rfl rfl rfl rfl rfl rfl rfl rfl rfl ?_
      refine go_ops hΓ 1 rfl ?_
      refine eo_build hΓ (gs := [I (wi (s2.2.2 + y13.1)), S y15.1, B (!y17.1)]) rfl rfl rfl rfl rfl rfl rfl ?_
      refine eo_alloc hΓ rfl rfl rfl (Nat.le_of_ble_eq_true rfl) ?_
      refine eo_store hΓ rfl rfl rfl rfl rfl rfl rfl rfl (Nat.le_of_ble_eq_true rfl) ?_
      refine eo_hp [.box 25 [.d (Sl (eN .i64) y17.2.L), I y17.2.v_at], .row 103 3 s2.2.1.length (s2.2.1.flatMap e_api_Health), .box 103 [I (wi (s2.2.2 + y13.1)), S y15.1, B (!y17.1)]] rfl ?_
      obtain ⟨q19, hq19, h20⟩ := bi_ok h18
      refine go_ops hΓ 11 rfl ?_
      refine j_cutNZ [(0, .ptr 0 0), (5, .sl 1 s2.2.1.length), (6, I (wi (s2.2.2 + y13.1))), (7, .ptr 2 0), (9, I many), (10, I (i1 : Int)), (49, B q19)] [.box 25 [.d (Sl (eN .i64) y17.2.L), I y17.2.v_at], .row 103 3 s2.2.1.length (s2.2.1.flatMap e_api_Health), .box 103 [I (wi (s2.2.2 + y13.1)), S y15.1, B (!y17.1)]] ?_ ?_
      · refine j_draw hmix (by kernel_rfl) ?_
        refine go hΓ 3 rfl ?_
        refine gl_gsplit rfl rfl (fun hb => ?_) (fun hb => ?_)
        · have h21 := cT hq19 hb
          obtain ⟨x22, hx22, h23⟩ := bi_ok h21
          have hj24 := getZ_at hx22
          refine go_draw hΓ 3 rfl ?_
          refine gl_og rfl rfl (op_elemRowZ hΓ hx22 rfl rfl rfl rfl rfl rfl) ?_
          refine go_draw hΓ 1 rfl ?_
          refine gl_og rfl rfl (op_loadRowZ hΓ (enc := e_api_Health) ((wi ((s2.2.1.length : Int) - 1)).toNat) 0 hj24 rfl rfl rfl rfl (fun _ => rfl) (g := I x22.At) rfl) ?_
          refine go_draw hΓ 4 rfl ?_
          refine gl_gsplit rfl rfl (fun hb => ?_) (fun hb => ?_)
          · have h25 := cT h23 hb
            obtain ⟨x26, hx26, h27⟩ := bi_ok h25
            have hj28 := getZ_at hx26
            refine go_draw hΓ 3 rfl ?_
            refine gl_og rfl rfl (op_elemRowZ hΓ hx26 rfl rfl rfl rfl rfl rfl) ?_
            refine go_draw hΓ 1 rfl ?_
            refine gl_og rfl rfl (op_loadRowZ hΓ (enc := e_api_Health) ((wi ((s2.2.1.length : Int) - 1)).toNat) 1 hj28 rfl rfl rfl rfl (fun _ => rfl) (g := S x26.Node) rfl) ?_
            refine go_draw hΓ 5 rfl ?_
            obtain rfl := Option.some.inj h27
            exact ⟨⟨rfl, rfl, rfl, rfl, rfl, rfl, rfl, trivial⟩, [], rfl, .inl rfl⟩
          · have h29 := cF h23 hb
            refine go_draw hΓ 11 rfl ?_
            obtain rfl := Option.some.inj h29
            exact ⟨⟨rfl, rfl, rfl, rfl, rfl, rfl, rfl, trivial⟩, [], rfl, .inl rfl⟩
        · have h30 := cF hq19 hb
          refine go_draw hΓ 21 rfl ?_
          obtain rfl := Option.some.inj h30
          exact ⟨⟨rfl, rfl, rfl, rfl, rfl, rfl, rfl, trivial⟩, [], rfl, .inl rfl⟩
      · obtain ⟨q31, hq31, h32⟩ := bi_ok h20
        refine go hΓ 1 rfl ?_
        refine j_cutNZ [(0, .ptr 0 0), (5, .sl 1 s2.2.1.length), (6, I q31.2), (7, .ptr 2 0), (9, I many), (10, I (i1 : Int))] [.box 25 [.d (Sl (eN .i64) y17.2.L), I y17.2.v_at], .row 103 3 s2.2.1.length (s2.2.1.flatMap e_api_Health), .box 103 [I q31.1, S y15.1, B (!y17.1)]] ?_ ?_
        · refine j_cond rfl (fun hb => ?_) (fun hb => ?_)
          · have h33 := cT hq31 hb
            refine go hΓ 10 rfl ?_
            refine eo_store hΓ rfl rfl rfl rfl rfl rfl rfl rfl (Nat.le_of_ble_eq_true rfl) ?_
            refine eo_hp [.box 25 [.d (Sl (eN .i64) y17.2.L), I y17.2.v_at], .row 103 3 s2.2.1.length (s2.2.1.flatMap e_api_Health), .box 103 [I (wi ((wi (s2.2.2 + y13.1)) + 1)), S y15.1, B (!y17.1)]] rfl ?_
            refine go_ops hΓ 1 rfl ?_
            obtain rfl := Option.some.inj h33
            exact ⟨⟨rfl, rfl, rfl, rfl, rfl, rfl, trivial⟩, [], rfl, .inl rfl⟩
          · have h34 := cF hq31 hb
            refine go hΓ 1 rfl ?_
            obtain rfl := Option.some.inj h34
            exact ⟨⟨rfl, rfl, rfl, rfl, rfl, rfl, trivial⟩, [], rfl, .inl rfl⟩
        · refine go hΓ 4 rfl ?_
          refine eo_litT hΓ (enc := e_api_Health) [(⟨q31.1, y15.1, !y17.1⟩ : T_api_Health)] rfl rfl rfl rfl rfl rfl rfl rfl rfl rfl rfl rfl (Nat.le_of_ble_eq_true rfl) ?_
          obtain ⟨y35, hy35, h36⟩ := bi_ok h32
          refine eo_appendT hΓ (enc := e_api_Health) hy35 rfl rfl rfl rfl rfl rfl rfl rfl rfl (fun _ => rfl) rfl rfl rfl rfl ?_
          refine go_ops hΓ 8 rfl ?_
          obtain rfl := Option.some.inj h36
          exact ⟨⟨rfl, rfl, rfl, rfl, get_eq rfl (w64_succ (by omega)), trivial⟩, [_], rfl, .inr ⟨HB.mk rfl, FB.mk rfl, (Nat.le_of_ble_eq_true rfl)⟩⟩
    · refine go hΓ 6 rfl ?_
      refine j_condF rfl (decide_eq_false hge) ?_
      refine go hΓ 4 rfl ?_
      exact ⟨⟨rfl, rfl, trivial⟩, [], rfl, .inl rfl⟩
  · obtain ⟨y37, hy37, h38⟩ := bi_ok h5
    refine go hΓ 5 rfl ?_
    refine eo_callF [0] (B y37.1) [.box 25 [.d (Sl (eN .i64) y37.2.L), I y37.2.v_at], .row 103 3 q4.2.1.length (q4.2.1.flatMap e_api_Health)] (callable Tryz.func11 rfl rfl) (c_lanemake_Stream_Flip hy37) rfl (Nat.le_of_ble_eq_true rfl) rfl rfl rfl rfl rfl rfl rfl rfl rfl rfl ?_
    obtain ⟨q39, hq39, h40⟩ := bi_ok h38
    refine go_ops hΓ 2 rfl ?_
    refine j_cutNZ [(5, .sl 1 q39.2.length)] [.box 25 [.d (Sl (eN .i64) q39.1.L), I q39.1.v_at], .row 103 3 q39.2.length (q39.2.flatMap e_api_Health)] ?_ ?_
    · refine j_cond rfl (fun hb => ?_) (fun hb => ?_)
      · have h41 := cT hq39 hb
        refine go hΓ 3 rfl ?_
        refine eo_litT hΓ (enc := (eN .i64)) [-1, 345686400, 0] rfl rfl rfl rfl rfl rfl rfl rfl rfl rfl rfl rfl (Nat.le_of_ble_eq_true rfl) ?_
        obtain ⟨y42, hy42, h43⟩ := bi_ok h41
        refine eo_callF [0] (I y42.1) [.box 25 [.d (Sl (eN .i64) y42.2.L), I y42.2.v_at], .row 103 3 q4.2.1.length (q4.2.1.flatMap e_api_Health)] (callable Tryz.func54 rfl rfl) (c_lanemake_Stream_Pick hy42) rfl (Nat.le_of_ble_eq_true rfl) rfl rfl rfl rfl rfl rfl rfl rfl rfl rfl ?_
        refine go_ops hΓ 1 rfl ?_
        refine eo_litT hΓ (enc := eS) [[], [110, 97]] rfl rfl rfl rfl rfl rfl rfl rfl rfl rfl rfl rfl (Nat.le_of_ble_eq_true rfl) ?_
        obtain ⟨y44, hy44, h45⟩ := bi_ok h43
        refine eo_callF [0] (S y44.1) [.box 25 [.d (Sl (eN .i64) y44.2.L), I y44.2.v_at], .row 103 3 q4.2.1.length (q4.2.1.flatMap e_api_Health)] (callable Tryz.func27 rfl rfl) (c_lanemake_Stream_Some hy44) rfl (Nat.le_of_ble_eq_true rfl) rfl rfl rfl rfl rfl rfl rfl rfl rfl rfl ?_
        refine eo_build hΓ (gs := [I y42.1, S y44.1, B false]) rfl rfl rfl rfl rfl rfl rfl ?_
        refine eo_litT hΓ (enc := e_api_Health) [(⟨y42.1, y44.1, false⟩ : T_api_Health)] rfl rfl rfl rfl rfl rfl rfl rfl rfl rfl rfl rfl (Nat.le_of_ble_eq_true rfl) ?_
        obtain ⟨y46, hy46, h47⟩ := bi_ok h45
        refine eo_appendT hΓ (enc := e_api_Health) hy46 rfl rfl rfl rfl rfl rfl rfl rfl rfl (fun _ => rfl) rfl rfl rfl rfl ?_
        refine go_ops hΓ 2 rfl ?_
        obtain rfl := Option.some.inj h47
        exact ⟨⟨rfl, trivial⟩, [], rfl, .inl rfl⟩
      · have h48 := cF hq39 hb
        refine go hΓ 1 rfl ?_
        obtain rfl := Option.some.inj h48
        exact ⟨⟨rfl, trivial⟩, [], rfl, .inl rfl⟩
    · refine go hΓ 8 rfl ?_
      refine cv_here ?_
      obtain rfl := Option.some.inj h40
      exact fin_objs hΓ [] (.inr rfl) rfl rfl rfl rfl (.inl rfl)
theorem c_lanemake_Stream_Time {s : T_lanemake_Stream} {r : Int × T_lanemake_Stream} (h : m_lanemake_Stream_Time s = some r) : EC Tryz.prog 9 [.ptr 0 0] [.box 25 [.d (Sl (eN .i64) s.L), I s.v_at]] fun g hp' => g = I r.1 ∧ hp' = [.box 25 [.d (Sl (eN .i64) r.2.L), I r.2.v_at]] := by
  refine ec_enter (Fr.of 0 _) Tryz.func9 rfl (Fr.of_ok _) (Nat.le_of_ble_eq_true rfl) fun _ => ?_
  refine go_in ?_
  unfold m_lanemake_Stream_Time at h
  obtain ⟨y1, hy1, h2⟩ := bi_ok h
  refine go hΓ 9 rfl ?_
  refine eo_callF [0] (I y1.1) [.box 25 [.d (Sl (eN .i64) y1.2.L), I y1.2.v_at]] (callable Tryz.func29 rfl rfl) (c_lanemake_Stream_Next hy1) rfl (Nat.le_of_ble_eq_true rfl) rfl rfl rfl rfl rfl rfl rfl rfl rfl rfl ?_
  obtain ⟨y3, hy3, h4⟩ := bi_ok h2
  refine go_ops hΓ 1 rfl ?_
  refine eo_callF [0] (I y3.1) [.box 25 [.d (Sl (eN .i64) y3.2.L), I y3.2.v_at]] (callable Tryz.func29 rfl rfl) (c_lanemake_Stream_Next hy3) rfl (Nat.le_of_ble_eq_true rfl) rfl rfl rfl rfl rfl rfl rfl rfl rfl rfl ?_
  refine go_ops hΓ 1 rfl ?_
  refine eo_litT hΓ (enc := (eN .i64)) [345686399, -1, 345686400] rfl rfl rfl rfl rfl rfl rfl rfl rfl rfl rfl rfl (Nat.le_of_ble_eq_true rfl) ?_
  obtain ⟨y5, hy5, h6⟩ := bi_ok h4
  refine eo_callF [0] (I y5.1) [.box 25 [.d (Sl (eN .i64) y5.2.L), I y5.2.v_at]] (callable Tryz.func54 rfl rfl) (c_lanemake_Stream_Pick hy5) rfl (Nat.le_of_ble_eq_true rfl) rfl rfl rfl rfl rfl rfl rfl rfl rfl rfl ?_
  refine eo_litT hΓ (enc := (eN .i64)) [0, 5, 20, 40, 60, 80, 120, y1.1, y3.1, y5.1] rfl rfl rfl rfl rfl rfl rfl rfl rfl rfl rfl rfl (Nat.le_of_ble_eq_true rfl) ?_
  obtain ⟨y7, hy7, h8⟩ := bi_ok h6
  refine eo_callF [0] (I y7.1) [.box 25 [.d (Sl (eN .i64) y7.2.L), I y7.2.v_at]] (callable Tryz.func54 rfl rfl) (c_lanemake_Stream_Pick hy7) rfl (Nat.le_of_ble_eq_true rfl) rfl rfl rfl rfl rfl rfl rfl rfl rfl rfl ?_
  refine go_ops hΓ 4 rfl ?_
  obtain rfl := Option.some.inj h8
  exact fin_objs hΓ [] (.inr rfl) rfl rfl rfl rfl (.inl rfl)
theorem c_addr_CheckAddr {a : T_api_Addr} {r : Int} (h : m_addr_CheckAddr a = some r) : Pure Tryz.prog 60 [.agg [B a.Six, .d (.v (.int .u64 a.Hi)), .d (.v (.int .u64 a.Lo))]] (I r) := by
  refine Pure.enter (Fr.of 0 _) Tryz.func60 rfl (Fr.of_ok _) rfl rfl ?_
  refine go_in ?_
  unfold m_addr_CheckAddr at h
  refine go hΓ 2 rfl ?_
  refine eo_box rfl rfl rfl rfl (Nat.le_of_ble_eq_true rfl) ?_
  refine go_ops hΓ 10 rfl ?_
  refine o_cut 9 [(15, B ((!a.Six) && (((a.Hi : Int) != 0) || (decide ((a.Lo : Int) ≥ 4294967296)))))] [.box 34 [B a.Six, .d (.v (.int .u64 a.Hi)), .d (.v (.int .u64 a.Lo))]] ?_ ?_
  · refine eo_gsplit rfl rfl (fun hb => ?_) (fun hb => ?_)
    · refine go_ops hΓ 4 rfl ?_
      refine o_cut 4 [(6, B true), (14, B (((a.Hi : Int) != 0) || (decide ((a.Lo : Int) ≥ 4294967296))))] [.box 34 [B a.Six, .d (.v (.int .u64 a.Hi)), .d (.v (.int .u64 a.Lo))]] ?_ ?_
      · refine eo_gsplit rfl rfl (fun hb => ?_) (fun hb => ?_)
        · refine go_ops hΓ 5 rfl ?_
          exact ⟨⟨rfl, get_b rfl (or_t hb), trivial⟩, [], rfl, .inl rfl⟩
        · refine go_ops hΓ 5 rfl ?_
          exact ⟨⟨rfl, get_b rfl (or_f hb), trivial⟩, [], rfl, .inl rfl⟩
      · refine go_ops hΓ 2 rfl ?_
        exact ⟨⟨get_b rfl (and_t hb), trivial⟩, [], rfl, .inl rfl⟩
    · refine go_ops hΓ 10 rfl ?_
      exact ⟨⟨get_b rfl (and_f hb), trivial⟩, [], rfl, .inl rfl⟩
  · refine go_ops hΓ 2 rfl ?_
    refine j_cond rfl (fun hb => ?_) (fun hb => ?_)
    · have h1 := cT h hb
      refine go hΓ 7 rfl ?_
      obtain rfl := Option.some.inj h1
      exact fin_pure hΓ (.inr rfl) rfl rfl
    · have h2 := cF h hb
      refine go hΓ 8 rfl ?_
      obtain rfl := Option.some.inj h2
      exact fin_pure hΓ (.inr rfl) rfl rfl
theorem c_span_Length {a : T_api_Addr} {r : Int} (h : m_span_Length a = some r) : Pure Tryz.prog 129 [.agg [B a.Six, .d (.v (.int .u64 a.Hi)), .d (.v (.int .u64 a.Lo))]] (I r) := by
  refine Pure.enter (Fr.of 0 _) Tryz.func129 rfl (Fr.of_ok _) rfl rfl ?_
  refine go_in ?_
  unfold m_span_Length at h
  refine go hΓ 2 rfl ?_
  refine eo_box rfl rfl rfl rfl (Nat.le_of_ble_eq_true rfl) ?_
  refine go_ops hΓ 10 rfl ?_
  refine j_cond rfl (fun hb => ?_) (fun hb => ?_)
  · have h1 := cT h hb
    refine go hΓ 7 rfl ?_
    obtain rfl := Option.some.inj h1
    exact fin_pure hΓ (.inr rfl) rfl rfl
  · have h2 := cF h hb
    refine go hΓ 8 rfl ?_
    obtain rfl := Option.some.inj h2
    exact fin_pure hΓ (.inr rfl) rfl rfl
theorem c_kit_Outside {n : Int} {low : Int} {high : Int} {r : Bool} (h : m_kit_Outside n low high = some r) : Pure Tryz.prog 83 [I n, I low, I high] (B r) := by
  refine Pure.enter (Fr.of 0 _) Tryz.func83 rfl (Fr.of_ok _) rfl rfl ?_
  refine go_in ?_
  unfold m_kit_Outside at h
  refine go hΓ 11 rfl ?_
  refine o_cut 4 [(6, B false), (14, B ((decide ((n : Int) < low)) || (decide ((n : Int) > high))))] [] ?_ ?_
  · refine eo_gsplit rfl rfl (fun hb => ?_) (fun hb => ?_)
    · refine go_ops hΓ 5 rfl ?_
      exact ⟨⟨rfl, get_b rfl (or_t hb), trivial⟩, [], rfl, .inl rfl⟩
    · refine go_ops hΓ 5 rfl ?_
      exact ⟨⟨rfl, get_b rfl (or_f hb), trivial⟩, [], rfl, .inl rfl⟩
  · refine go_ops hΓ 4 rfl ?_
    obtain rfl := Option.some.inj h
    exact fin_pure hΓ (.inr rfl) rfl rfl
theorem c_span_low {n : Int} {r : Int × Int} (h : m_span_low n = some r) : Pure Tryz.prog 146 [I n] (.tup [.d (.v (.int .u64 r.1)), .d (.v (.int .u64 r.2))]) := by
  refine Pure.enter (Fr.of 0 _) Tryz.func146 rfl (Fr.of_ok _) rfl rfl ?_
  refine go_in ?_
  unfold m_span_low at h
  refine go hΓ 15 rfl ?_
  refine j_cond rfl (fun hb => ?_) (fun hb => ?_)
  · have h1 := cT h hb
    refine go hΓ 9 rfl ?_
    obtain rfl := Option.some.inj h1
    exact fin_pure hΓ (.inr rfl) rfl rfl
  · have h2 := cF h hb
    refine go hΓ 7 rfl ?_
    refine j_cond rfl (fun hb => ?_) (fun hb => ?_)
    · have h3 := cT h2 hb
      obtain ⟨y4, hy4, h5⟩ := bi_ok h3
      refine go hΓ 4 rfl ?_
      refine eo_o rfl (op_shlZ hy4 rfl rfl) ?_
      refine go_ops hΓ 8 rfl ?_
      obtain rfl := Option.some.inj h5
      exact fin_pure hΓ (.inr rfl) rfl rfl
    · have h6 := cF h2 hb
      refine go hΓ 7 rfl ?_
      refine j_cond rfl (fun hb => ?_) (fun hb => ?_)
      · have h7 := cT h6 hb
        refine go hΓ 9 rfl ?_
        obtain rfl := Option.some.inj h7
        exact fin_pure hΓ (.inr rfl) rfl rfl
      · have h8 := cF h6 hb
        refine go hΓ 4 rfl ?_
        refine j_draw hmix (by kernel_rfl) ?_
        obtain ⟨y9, hy9, h10⟩ := bi_ok h8
        refine go hΓ 1 rfl ?_
        refine gl_o rfl (op_shlZ hy9 rfl rfl) ?_
        refine go_draw hΓ 6 rfl ?_
        obtain rfl := Option.some.inj h10
        exact fin_pure hΓ (.inr rfl) rfl rfl
theorem c_span_Masked {a : T_api_Addr} {n : Int} {r : T_api_Addr} (h : m_span_Masked a n = some r) : Pure Tryz.prog 116 [.agg [B a.Six, .d (.v (.int .u64 a.Hi)), .d (.v (.int .u64 a.Lo))], I n] (.agg [B r.Six, .d (.v (.int .u64 r.Hi)), .d (.v (.int .u64 r.Lo))]) := by
  refine Pure.enter (Fr.of 0 _) Tryz.func116 rfl (Fr.of_ok _) rfl rfl ?_
  refine go_in ?_
  unfold m_span_Masked at h
  refine go hΓ 2 rfl ?_
  refine eo_box rfl rfl rfl rfl (Nat.le_of_ble_eq_true rfl) ?_
  refine eo_alloc hΓ rfl rfl rfl (Nat.le_of_ble_eq_true rfl) ?_
  obtain ⟨y1, hy1, h2⟩ := bi_ok h
  refine go_ops hΓ 5 rfl ?_
  refine eo_callP (callable Tryz.func129 rfl rfl) (c_span_Length hy1) rfl (Nat.le_of_ble_eq_true rfl) rfl rfl rfl rfl rfl ?_
  obtain ⟨y3, hy3, h4⟩ := bi_ok h2
  refine go_ops hΓ 2 rfl ?_
  refine eo_callP (callable Tryz.func146 rfl rfl) (c_span_low hy3) rfl (Nat.le_of_ble_eq_true rfl) rfl rfl rfl rfl rfl ?_
  refine go_ops hΓ 14 rfl ?_
  refine eo_store hΓ rfl rfl rfl rfl rfl rfl rfl rfl (Nat.le_of_ble_eq_true rfl) ?_
  refine eo_hp [.box 34 [B a.Six, .d (.v (.int .u64 (bitsV .andNot .u64 a.Hi y3.1))), .d (.v (.int .u64 a.Lo))], .box 34 [B false, .d (.v (.int .u64 0)), .d (.v (.int .u64 0))]] rfl ?_
  refine go_ops hΓ 9 rfl ?_
  refine eo_store hΓ rfl rfl rfl rfl rfl rfl rfl rfl (Nat.le_of_ble_eq_true rfl) ?_
  refine eo_hp [.box 34 [B a.Six, .d (.v (.int .u64 (bitsV .andNot .u64 a.Hi y3.1))), .d (.v (.int .u64 (bitsV .andNot .u64 a.Lo y3.2)))], .box 34 [B false, .d (.v (.int .u64 0)), .d (.v (.int .u64 0))]] rfl ?_
  refine go_ops hΓ 5 rfl ?_
  refine eo_store hΓ rfl rfl rfl rfl rfl rfl rfl rfl (Nat.le_of_ble_eq_true rfl) ?_
  refine eo_hp [.box 34 [B a.Six, .d (.v (.int .u64 (bitsV .andNot .u64 a.Hi y3.1))), .d (.v (.int .u64 (bitsV .andNot .u64 a.Lo y3.2)))], .box 34 [B a.Six, .d (.v (.int .u64 (bitsV .andNot .u64 a.Hi y3.1))), .d (.v (.int .u64 (bitsV .andNot .u64 a.Lo y3.2)))]] rfl ?_
  refine go_ops hΓ 3 rfl ?_
  obtain rfl := Option.some.inj h4
  exact fin_pure hΓ (.inr rfl) rfl rfl
theorem c_addr_CheckPrefix {p : T_api_Prefix} {r : Int} (h : m_addr_CheckPrefix p = some r) : Pure Tryz.prog 81 [.agg [B p.Addr.Six, .d (.v (.int .u64 p.Addr.Hi)), .d (.v (.int .u64 p.Addr.Lo)), I p.Bits]] (I r) := by
  refine Pure.enter (Fr.of 0 _) Tryz.func81 rfl (Fr.of_ok _) rfl rfl ?_
  refine go_in ?_
  unfold m_addr_CheckPrefix at h
  refine go hΓ 2 rfl ?_
  refine eo_box rfl rfl rfl rfl (Nat.le_of_ble_eq_true rfl) ?_
  obtain ⟨y1, hy1, h2⟩ := bi_ok h
  refine go_ops hΓ 9 rfl ?_
  refine eo_callP (callable Tryz.func60 rfl rfl) (c_addr_CheckAddr hy1) rfl (Nat.le_of_ble_eq_true rfl) rfl rfl rfl rfl rfl ?_
  refine go_ops hΓ 4 rfl ?_
  refine j_cond rfl (fun hb => ?_) (fun hb => ?_)
  · have h3 := cT h2 hb
    refine go hΓ 8 rfl ?_
    obtain rfl := Option.some.inj h3
    exact fin_pure hΓ (.inr rfl) rfl rfl
  · have h4 := cF h2 hb
    refine go hΓ 1 rfl ?_
    refine j_draw hmix (by kernel_rfl) ?_
    obtain ⟨y5, hy5, h6⟩ := bi_ok h4
    refine go hΓ 4 rfl ?_
    refine gl_callP (callable Tryz.func129 rfl rfl) (c_span_Length hy5) rfl rfl rfl rfl rfl rfl ?_
    obtain ⟨y7, hy7, h8⟩ := bi_ok h6
    refine gl_callP (callable Tryz.func83 rfl rfl) (c_kit_Outside hy7) rfl rfl rfl rfl rfl rfl ?_
    refine go_draw hΓ 3 rfl ?_
    refine j_cond rfl (fun hb => ?_) (fun hb => ?_)
    · have h9 := cT h8 hb
      refine go hΓ 8 rfl ?_
      obtain rfl := Option.some.inj h9
      exact fin_pure hΓ (.inr rfl) rfl rfl
    · have h10 := cF h8 hb
      refine go hΓ 1 rfl ?_
      refine j_draw hmix (by kernel_rfl) ?_
      obtain ⟨y11, hy11, h12⟩ := bi_ok h10
      refine go hΓ 4 rfl ?_
      refine gl_callP (callable Tryz.func116 rfl rfl) (c_span_Masked hy11) rfl rfl rfl rfl rfl rfl ?_
      refine go_draw hΓ 2 rfl ?_
      refine gl_o rfl (op_neS hΓ [34] (b := (((y11.Six : Bool) == p.Addr.Six) && (((y11.Hi : Int) == p.Addr.Hi) && (((y11.Lo : Int) == p.Addr.Lo) && true)))) (by kernel_rfl) (by kernel_rfl) rfl rfl rfl) ?_
      refine go_draw hΓ 3 rfl ?_
      refine j_cond rfl (fun hb => ?_) (fun hb => ?_)
      · have h13 := cT h12 hb
        refine go hΓ 8 rfl ?_
        obtain rfl := Option.some.inj h13
        exact fin_pure hΓ (.inr rfl) rfl rfl
      · have h14 := cF h12 hb
        refine go hΓ 9 rfl ?_
        obtain rfl := Option.some.inj h14
        exact fin_pure hΓ (.inr rfl) rfl rfl
theorem c_kit_IsKey {k : Nat} {s : Str} {r : Bool} (h : m_kit_IsKey k s = some r) : Pure Tryz.prog 82 [S s] (B r) := by
  refine Pure.enter (Fr.of 0 _) Tryz.func82 rfl (Fr.of_ok _) rfl rfl ?_
  refine go_in ?_
  unfold m_kit_IsKey at h
  refine go hΓ 11 rfl ?_
  obtain ⟨q4, hq4, h5⟩ := bi_ok h
  refine j_cutEZ (R := fun a6 => q4 = .inl a6) (fun a6 => [(0, S s)]) (fun a6 => []) ?_ ?_
  · refine go hΓ 1 rfl ?_
    refine j_loop hq4 (fun s2 => [(0, S s), (3, I s2)]) (fun s2 => []) ⟨⟨rfl, rfl, trivial⟩, [], rfl, .inl rfl⟩ (fun s2 y10 hy8 hout9 => ?_)
    refine go hΓ 9 rfl ?_
    refine j_cond rfl (fun hb => ?_) (fun hb => ?_)
    · have h11 := cT hy8 hb
      obtain ⟨c12, hc12, h13⟩ := bi_ok h11
      refine go hΓ 8 rfl ?_
      refine eo_o rfl (op_byteZ hΓ hc12 rfl rfl rfl rfl) ?_
      refine go_ops hΓ 8 rfl ?_
      refine o_cut 3 [(0, S s), (3, I s2), (4, .d (.v (.int .u8 (c12.toNat : Int)))), (19, B ((decide (((c12.toNat : Int) : Int) ≥ 97)) && (decide (((c12.toNat : Int) : Int) ≤ 122))))] [] ?_ ?_
      · refine eo_gsplit rfl rfl (fun hb => ?_) (fun hb => ?_)
        · refine go_ops hΓ 4 rfl ?_
          exact ⟨⟨rfl, rfl, rfl, get_b rfl (and_t hb), trivial⟩, [], rfl, .inl rfl⟩
        · refine go_ops hΓ 4 rfl ?_
          exact ⟨⟨rfl, rfl, rfl, get_b rfl (and_f hb), trivial⟩, [], rfl, .inl rfl⟩
      · refine go_ops hΓ 1 rfl ?_
        refine o_cut 19 [(0, S s), (3, I s2), (39, B (((decide (((c12.toNat : Int) : Int) ≥ 97)) && (decide (((c12.toNat : Int) : Int) ≤ 122))) || ((decide ((s2 : Int) > 0)) && ((((decide (((c12.toNat : Int) : Int) ≥ 48)) && (decide (((c12.toNat : Int) : Int) ≤ 57))) || (((c12.toNat : Int) : Int) == 45)) || (((c12.toNat : Int) : Int) == 95)))))] [] ?_ ?_
        · refine eo_gsplit rfl rfl (fun hb => ?_) (fun hb => ?_)
          · refine go_ops hΓ 20 rfl ?_
            exact ⟨⟨rfl, rfl, get_b rfl (or_t hb), trivial⟩, [], rfl, .inl rfl⟩
          · refine go_ops hΓ 3 rfl ?_
            refine o_cut 15 [(0, S s), (3, I s2), (20, B false), (38, B ((decide ((s2 : Int) > 0)) && ((((decide (((c12.toNat : Int) : Int) ≥ 48)) && (decide (((c12.toNat : Int) : Int) ≤ 57))) || (((c12.toNat : Int) : Int) == 45)) || (((c12.toNat : Int) : Int) == 95))))] [] ?_ ?_
            · refine eo_gsplit rfl rfl (fun hb => ?_) (fun hb => ?_)
              · refine go_ops hΓ 3 rfl ?_
                refine o_cut 3 [(0, S s), (3, I s2), (4, .d (.v (.int .u8 (c12.toNat : Int)))), (20, B false), (23, B true), (29, B ((decide (((c12.toNat : Int) : Int) ≥ 48)) && (decide (((c12.toNat : Int) : Int) ≤ 57))))] [] ?_ ?_
                · refine eo_gsplit rfl rfl (fun hb => ?_) (fun hb => ?_)
                  · refine go_ops hΓ 4 rfl ?_
                    exact ⟨⟨rfl, rfl, rfl, rfl, rfl, get_b rfl (and_t hb), trivial⟩, [], rfl, .inl rfl⟩
                  · refine go_ops hΓ 4 rfl ?_
                    exact ⟨⟨rfl, rfl, rfl, rfl, rfl, get_b rfl (and_f hb), trivial⟩, [], rfl, .inl rfl⟩
                · refine go_ops hΓ 1 rfl ?_
                  refine o_cut 3 [(0, S s), (3, I s2), (4, .d (.v (.int .u8 (c12.toNat : Int)))), (20, B false), (23, B true), (33, B (((decide (((c12.toNat : Int) : Int) ≥ 48)) && (decide (((c12.toNat : Int) : Int) ≤ 57))) || (((c12.toNat : Int) : Int) == 45)))] [] ?_ ?_
                  · refine eo_gsplit rfl rfl (fun hb => ?_) (fun hb => ?_)
                    · refine go_ops hΓ 4 rfl ?_
                      exact ⟨⟨rfl, rfl, rfl, rfl, rfl, get_b rfl (or_t hb), trivial⟩, [], rfl, .inl rfl⟩
                    · refine go_ops hΓ 4 rfl ?_
                      exact ⟨⟨rfl, rfl, rfl, rfl, rfl, get_b rfl (or_f hb), trivial⟩, [], rfl, .inl rfl⟩
                  · refine go_ops hΓ 1 rfl ?_
                    refine o_cut 3 [(0, S s), (3, I s2), (20, B false), (23, B true), (37, B ((((decide (((c12.toNat : Int) : Int) ≥ 48)) && (decide (((c12.toNat : Int) : Int) ≤ 57))) || (((c12.toNat : Int) : Int) == 45)) || (((c12.toNat : Int) : Int) == 95)))] [] ?_ ?_
                    · refine eo_gsplit rfl rfl (fun hb => ?_) (fun hb => ?_)
                      · refine go_ops hΓ 4 rfl ?_
                        exact ⟨⟨rfl, rfl, rfl, rfl, get_b rfl (or_t hb), trivial⟩, [], rfl, .inl rfl⟩
                      · refine go_ops hΓ 4 rfl ?_
                        exact ⟨⟨rfl, rfl, rfl, rfl, get_b rfl (or_f hb), trivial⟩, [], rfl, .inl rfl⟩
                    · refine go_ops hΓ 2 rfl ?_
                      exact ⟨⟨rfl, rfl, rfl, get_b rfl (and_t hb), trivial⟩, [], rfl, .inl rfl⟩
              · refine go_ops hΓ 16 rfl ?_
                exact ⟨⟨rfl, rfl, rfl, get_b rfl (and_f hb), trivial⟩, [], rfl, .inl rfl⟩
            · refine go_ops hΓ 2 rfl ?_
              exact ⟨⟨rfl, rfl, get_b rfl (or_f hb), trivial⟩, [], rfl, .inl rfl⟩
        · refine go_ops hΓ 3 rfl ?_
          refine j_cond rfl (fun hb => ?_) (fun hb => ?_)
          · have h14 := cT h13 hb
            refine go hΓ 8 rfl ?_
            obtain ⟨v15, hv15, h16⟩ := bi_ok h14
            obtain rfl := Option.some.inj h16
            obtain rfl := hout9 _ rfl
            obtain rfl := Option.some.inj h5
            refine go hΓ 4 rfl ?_
            obtain rfl := Option.some.inj hv15
            exact fin_pure hΓ (.inr rfl) rfl rfl
          · have h17 := cF h13 hb
            refine go hΓ 8 rfl ?_
            obtain rfl := Option.some.inj h17
            exact ⟨_, rfl, ⟨⟨rfl, rfl, trivial⟩, [], rfl, .inl rfl⟩⟩
    · have h18 := cF hy8 hb
      refine go hΓ 4 rfl ?_
      obtain rfl := Option.some.inj h18
      obtain rfl := hout9 _ rfl
      exact ⟨_, rfl, ⟨⟨rfl, trivial⟩, [], rfl, .inl rfl⟩⟩
  · intro a6 ha
    subst ha
    replace h5 := orI_l h5
    refine go hΓ 6 rfl ?_
    refine o_cut 4 [(47, B ((!((s : Str) == [])) && (decide (((s.length : Int) : Int) ≤ 40))))] [] ?_ ?_
    · refine eo_gsplit rfl rfl (fun hb => ?_) (fun hb => ?_)
      · refine go_ops hΓ 5 rfl ?_
        exact ⟨⟨get_b rfl (and_t hb), trivial⟩, [], rfl, .inl rfl⟩
      · refine go_ops hΓ 5 rfl ?_
        exact ⟨⟨get_b rfl (and_f hb), trivial⟩, [], rfl, .inl rfl⟩
    · refine go_ops hΓ 4 rfl ?_
      obtain rfl := Option.some.inj h5
      exact fin_pure hΓ (.inr rfl) rfl rfl
theorem c_cmp_isNaN_uint64 {x : Int} {r : Bool} (h : m_cmp_isNaN_uint64 x = some r) : Pure Tryz.prog 223 [.d (.v (.int .u64 x))] (B r) := by
  refine Pure.enter (Fr.of 0 _) Tryz.func223 rfl (Fr.of_ok _) rfl rfl ?_
  refine go_in ?_
  unfold m_cmp_isNaN_uint64 at h
  refine go hΓ 14 rfl ?_
  obtain rfl := Option.some.inj h
  exact fin_pure hΓ (.inr rfl) rfl rfl
theorem c_cmp_Compare_uint64 {x : Int} {y : Int} {r : Int} (h : m_cmp_Compare_uint64 x y = some r) : Pure Tryz.prog 184 [.d (.v (.int .u64 x)), .d (.v (.int .u64 y))] (I r) := by
  refine Pure.enter (Fr.of 0 _) Tryz.func184 rfl (Fr.of_ok _) rfl rfl ?_
  refine go_in ?_
  unfold m_cmp_Compare_uint64 at h
  obtain ⟨y1, hy1, h2⟩ := bi_ok h
  refine go hΓ 8 rfl ?_
  refine eo_callP (callable Tryz.func223 rfl rfl) (c_cmp_isNaN_uint64 hy1) rfl (Nat.le_of_ble_eq_true rfl) rfl rfl rfl rfl rfl ?_
  obtain ⟨y3, hy3, h4⟩ := bi_ok h2
  refine go_ops hΓ 6 rfl ?_
  refine eo_callP (callable Tryz.func223 rfl rfl) (c_cmp_isNaN_uint64 hy3) rfl (Nat.le_of_ble_eq_true rfl) rfl rfl rfl rfl rfl ?_
  refine go_ops hΓ 9 rfl ?_
  refine j_cond rfl (fun hb => ?_) (fun hb => ?_)
  · have h5 := cT h4 hb
    refine go hΓ 6 rfl ?_
    refine j_cond rfl (fun hb => ?_) (fun hb => ?_)
    · have h6 := cT h5 hb
      refine go hΓ 8 rfl ?_
      obtain rfl := Option.some.inj h6
      exact fin_pure hΓ (.inr rfl) rfl rfl
    · have h7 := cF h5 hb
      refine go hΓ 9 rfl ?_
      obtain rfl := Option.some.inj h7
      exact fin_pure hΓ (.inr rfl) rfl rfl
  · have h8 := cF h4 hb
    refine go hΓ 8 rfl ?_
    refine j_cond rfl (fun hb => ?_) (fun hb => ?_)
    · have h9 := cT h8 hb
      refine go hΓ 7 rfl ?_
      obtain rfl := Option.some.inj h9
      exact fin_pure hΓ (.inr rfl) rfl rfl
    · have h10 := cF h8 hb
      refine go hΓ 10 rfl ?_
      refine j_cond rfl (fun hb => ?_) (fun hb => ?_)
      · have h11 := cT h10 hb
        refine go hΓ 7 rfl ?_
        obtain rfl := Option.some.inj h11
        exact fin_pure hΓ (.inr rfl) rfl rfl
      · have h12 := cF h10 hb
        refine go hΓ 10 rfl ?_
        refine j_cond rfl (fun hb => ?_) (fun hb => ?_)
        · have h13 := cT h12 hb
          refine go hΓ 7 rfl ?_
          obtain rfl := Option.some.inj h13
          exact fin_pure hΓ (.inr rfl) rfl rfl
        · have h14 := cF h12 hb
          refine go hΓ 8 rfl ?_
          obtain rfl := Option.some.inj h14
          exact fin_pure hΓ (.inr rfl) rfl rfl
theorem c_cmp_Or_int {vals : List Int} {r : Int} (h : m_cmp_Or_int vals = some r) : Pure Tryz.prog 71 [.d (Sl (eN .i64) vals)] (I r) := by
  refine Pure.enter (Fr.of 0 _) Tryz.func71 rfl (Fr.of_ok _) rfl rfl ?_
  refine go_in ?_
  unfold m_cmp_Or_int at h
  refine go hΓ 18 rfl ?_
  obtain ⟨q4, hq4, h5⟩ := bi_ok h
  refine j_bound 6 rfl fun hb7 => ?_
  refine j_cutEZ (R := fun a6 => q4 = .go a6) (fun a6 => [(3, I 0)]) (fun a6 => []) ?_ ?_
  · refine go hΓ 1 rfl ?_
    refine j_range vals hq4 (fun i1 s2 => [(3, I 0), (6, .d (Sl (eN .i64) vals)), (7, I (vals.length : Int)), (8, I (i1 : Int))]) (fun s2 => []) ⟨⟨rfl, rfl, rfl, rfl, trivial⟩, [], rfl, .inl rfl⟩ (fun i1 x3 s2 y11 hx8 hlt hy9 hout10 => ?_) (fun s2 hgo => ?_)
    · refine go hΓ 6 rfl ?_
      refine j_condT rfl (decide_eq_true (Int.ofNat_lt.2 hlt)) ?_
      refine go hΓ 6 rfl ?_
      refine eo_o rfl (op_elemZ hΓ (enc := (eN .i64)) (getZ_nat hx8) rfl rfl rfl rfl rfl (fun _ => rfl)) ?_
      refine go_ops hΓ 11 rfl ?_
      refine j_cond rfl (fun hb => ?_) (fun hb => ?_)
      · have h12 := cT hy9 hb
        refine go hΓ 9 rfl ?_
        obtain ⟨v13, hv13, h14⟩ := bi_ok h12
        obtain rfl := Option.some.inj h14
        obtain rfl := hout10 _ rfl
        obtain rfl := Option.some.inj h5
        refine go hΓ 4 rfl ?_
        obtain rfl := Option.some.inj hv13
        exact fin_pure hΓ (.inr rfl) rfl rfl
      · have h15 := cF hy9 hb
        refine go hΓ 7 rfl ?_
        obtain rfl := Option.some.inj h15
        exact ⟨_, rfl, ⟨⟨rfl, rfl, rfl, get_eq rfl (w64_succ (Nat.lt_of_lt_of_le hlt hb7)), trivial⟩, [], rfl, .inl rfl⟩⟩
    · subst hgo
      refine go hΓ 6 rfl ?_
      refine j_condF rfl (decide_eq_false (Int.lt_irrefl _)) ?_
      refine go hΓ 4 rfl ?_
      exact ⟨_, rfl, ⟨⟨rfl, trivial⟩, [], rfl, .inl rfl⟩⟩
  · intro a6 ha
    subst ha
    replace h5 := goI_l h5
    refine go hΓ 8 rfl ?_
    obtain rfl := Option.some.inj h5
    exact fin_pure hΓ (.inr rfl) rfl rfl
theorem c_span_Compare {a : T_api_Addr} {b : T_api_Addr} {r : Int} (h : m_span_Compare a b = some r) : Pure Tryz.prog 155 [.agg [B a.Six, .d (.v (.int .u64 a.Hi)), .d (.v (.int .u64 a.Lo))], .agg [B b.Six, .d (.v (.int .u64 b.Hi)), .d (.v (.int .u64 b.Lo))]] (I r) := by
  refine Pure.enter (Fr.of 0 _) Tryz.func155 rfl (Fr.of_ok _) rfl rfl ?_
  refine go_in ?_
  unfold m_span_Compare at h
  refine go hΓ 2 rfl ?_
  refine eo_box rfl rfl rfl rfl (Nat.le_of_ble_eq_true rfl) ?_
  refine eo_box rfl rfl rfl rfl (Nat.le_of_ble_eq_true rfl) ?_
  refine go_ops hΓ 13 rfl ?_
  refine j_cond rfl (fun hb => ?_) (fun hb => ?_)
  · have h1 := cT h hb
    refine go hΓ 7 rfl ?_
    refine j_cond rfl (fun hb => ?_) (fun hb => ?_)
    · have h2 := cT h1 hb
      refine go hΓ 8 rfl ?_
      obtain rfl := Option.some.inj h2
      exact fin_pure hΓ (.inr rfl) rfl rfl
    · have h3 := cF h1 hb
      refine go hΓ 9 rfl ?_
      obtain rfl := Option.some.inj h3
      exact fin_pure hΓ (.inr rfl) rfl rfl
  · have h4 := cF h hb
    refine go hΓ 3 rfl ?_
    refine j_draw hmix (by kernel_rfl) ?_
    obtain ⟨y5, hy5, h6⟩ := bi_ok h4
    refine go hΓ 4 rfl ?_
    refine gl_callP (callable Tryz.func184 rfl rfl) (c_cmp_Compare_uint64 hy5) rfl rfl rfl rfl rfl rfl ?_
    obtain ⟨y7, hy7, h8⟩ := bi_ok h6
    refine go_draw hΓ 4 rfl ?_
    refine gl_callP (callable Tryz.func184 rfl rfl) (c_cmp_Compare_uint64 hy7) rfl rfl rfl rfl rfl rfl ?_
    refine gl_litT hΓ (enc := (eN .i64)) [y5, y7] rfl rfl rfl rfl rfl rfl rfl rfl rfl rfl rfl rfl ?_
    obtain ⟨y9, hy9, h10⟩ := bi_ok h8
    refine gl_callP (callable Tryz.func71 rfl rfl) (c_cmp_Or_int hy9) rfl rfl rfl rfl rfl rfl ?_
    refine go_draw hΓ 4 rfl ?_
    obtain rfl := Option.some.inj h10
    exact fin_pure hΓ (.inr rfl) rfl rfl
theorem c_cmp_isNaN_int {x : Int} {r : Bool} (h : m_cmp_isNaN_int x = some r) : Pure Tryz.prog 119 [I x] (B r) := by
  refine Pure.enter (Fr.of 0 _) Tryz.func119 rfl (Fr.of_ok _) rfl rfl ?_
  refine go_in ?_
  unfold m_cmp_isNaN_int at h
  refine go hΓ 14 rfl ?_
  obtain rfl := Option.some.inj h
  exact fin_pure hΓ (.inr rfl) rfl rfl
theorem c_cmp_Compare_int {x : Int} {y : Int} {r : Int} (h : m_cmp_Compare_int x y = some r) : Pure Tryz.prog 68 [I x, I y] (I r) := by
  refine Pure.enter (Fr.of 0 _) Tryz.func68 rfl (Fr.of_ok _) rfl rfl ?_
  refine go_in ?_
  unfold m_cmp_Compare_int at h
  obtain ⟨y1, hy1, h2⟩ := bi_ok h
  refine go hΓ 8 rfl ?_
  refine eo_callP (callable Tryz.func119 rfl rfl) (c_cmp_isNaN_int hy1) rfl (Nat.le_of_ble_eq_true rfl) rfl rfl rfl rfl rfl ?_
  obtain ⟨y3, hy3, h4⟩ := bi_ok h2
  refine go_ops hΓ 6 rfl ?_
  refine eo_callP (callable Tryz.func119 rfl rfl) (c_cmp_isNaN_int hy3) rfl (Nat.le_of_ble_eq_true rfl) rfl rfl rfl rfl rfl ?_
  refine go_ops hΓ 9 rfl ?_
  refine j_cond rfl (fun hb => ?_) (fun hb => ?_)
  · have h5 := cT h4 hb
    refine go hΓ 6 rfl ?_
    refine j_cond rfl (fun hb => ?_) (fun hb => ?_)
    · have h6 := cT h5 hb
      refine go hΓ 8 rfl ?_
      obtain rfl := Option.some.inj h6
      exact fin_pure hΓ (.inr rfl) rfl rfl
    · have h7 := cF h5 hb
      refine go hΓ 9 rfl ?_
      obtain rfl := Option.some.inj h7
      exact fin_pure hΓ (.inr rfl) rfl rfl
  · have h8 := cF h4 hb
    refine go hΓ 8 rfl ?_
    refine j_cond rfl (fun hb => ?_) (fun hb => ?_)
    · have h9 := cT h8 hb
      refine go hΓ 7 rfl ?_
      obtain rfl := Option.some.inj h9
      exact fin_pure hΓ (.inr rfl) rfl rfl
    · have h10 := cF h8 hb
      refine go hΓ 10 rfl ?_
      refine j_cond rfl (fun hb => ?_) (fun hb => ?_)
      · have h11 := cT h10 hb
        refine go hΓ 7 rfl ?_
        obtain rfl := Option.some.inj h11
        exact fin_pure hΓ (.inr rfl) rfl rfl
      · have h12 := cF h10 hb
        refine go hΓ 10 rfl ?_
        refine j_cond rfl (fun hb => ?_) (fun hb => ?_)
        · have h13 := cT h12 hb
          refine go hΓ 7 rfl ?_
          obtain rfl := Option.some.inj h13
          exact fin_pure hΓ (.inr rfl) rfl rfl
        · have h14 := cF h12 hb
          refine go hΓ 8 rfl ?_
          obtain rfl := Option.some.inj h14
          exact fin_pure hΓ (.inr rfl) rfl rfl
theorem c_span_ComparePrefixes {p : T_api_Prefix} {q : T_api_Prefix} {r : Int} (h : m_span_ComparePrefixes p q = some r) : Pure Tryz.prog 130 [.agg [B p.Addr.Six, .d (.v (.int .u64 p.Addr.Hi)), .d (.v (.int .u64 p.Addr.Lo)), I p.Bits], .agg [B q.Addr.Six, .d (.v (.int .u64 q.Addr.Hi)), .d (.v (.int .u64 q.Addr.Lo)), I q.Bits]] (I r) := by
  refine Pure.enter (Fr.of 0 _) Tryz.func130 rfl (Fr.of_ok _) rfl rfl ?_
  refine go_in ?_
  unfold m_span_ComparePrefixes at h
  refine go hΓ 2 rfl ?_
  refine eo_box rfl rfl rfl rfl (Nat.le_of_ble_eq_true rfl) ?_
  refine eo_box rfl rfl rfl rfl (Nat.le_of_ble_eq_true rfl) ?_
  refine go_ops hΓ 4 rfl ?_
  refine j_draw hmix (by kernel_rfl) ?_
  obtain ⟨y1, hy1, h2⟩ := bi_ok h
  refine go hΓ 4 rfl ?_
  refine gl_callP (callable Tryz.func155 rfl rfl) (c_span_Compare hy1) rfl rfl rfl rfl rfl rfl ?_
  obtain ⟨y3, hy3, h4⟩ := bi_ok h2
  refine go_draw hΓ 4 rfl ?_
  refine gl_callP (callable Tryz.func68 rfl rfl) (c_cmp_Compare_int hy3) rfl rfl rfl rfl rfl rfl ?_
  refine gl_litT hΓ (enc := (eN .i64)) [y1, y3] rfl rfl rfl rfl rfl rfl rfl rfl rfl rfl rfl rfl ?_
  obtain ⟨y5, hy5, h6⟩ := bi_ok h4
  refine gl_callP (callable Tryz.func71 rfl rfl) (c_cmp_Or_int hy5) rfl rfl rfl rfl rfl rfl ?_
  refine go_draw hΓ 4 rfl ?_
  obtain rfl := Option.some.inj h6
  exact fin_pure hΓ (.inr rfl) rfl rfl
theorem c_route_compareRouters {a : T_api_Router} {b : T_api_Router} {r : Int} (h : m_route_compareRouters a b = some r) : Pure Tryz.prog 84 [.agg [B a.Prefix.Addr.Six, .d (.v (.int .u64 a.Prefix.Addr.Hi)), .d (.v (.int .u64 a.Prefix.Addr.Lo)), I a.Prefix.Bits, S a.Node, I a.Weight], .agg [B b.Prefix.Addr.Six, .d (.v (.int .u64 b.Prefix.Addr.Hi)), .d (.v (.int .u64 b.Prefix.Addr.Lo)), I b.Prefix.Bits, S b.Node, I b.Weight]] (I r) := by
  refine Pure.enter (Fr.of 0 _) Tryz.func84 rfl (Fr.of_ok _) rfl rfl ?_
  refine go_in ?_
  unfold m_route_compareRouters at h
  refine go hΓ 2 rfl ?_
  refine eo_box rfl rfl rfl rfl (Nat.le_of_ble_eq_true rfl) ?_
  refine eo_box rfl rfl rfl rfl (Nat.le_of_ble_eq_true rfl) ?_
  refine go_ops hΓ 4 rfl ?_
  refine j_draw hmix (by kernel_rfl) ?_
  obtain ⟨y1, hy1, h2⟩ := bi_ok h
  refine go hΓ 4 rfl ?_
  refine gl_callP (callable Tryz.func130 rfl rfl) (c_span_ComparePrefixes hy1) rfl rfl rfl rfl rfl rfl ?_
  obtain ⟨y3, hy3, h4⟩ := bi_ok h2
  refine go_draw hΓ 4 rfl ?_
  refine gl_callP (callable Tryz.func73 rfl rfl) (c_strings_Compare hy3) rfl rfl rfl rfl rfl rfl ?_
  refine gl_litT hΓ (enc := (eN .i64)) [y1, y3] rfl rfl rfl rfl rfl rfl rfl rfl rfl rfl rfl rfl ?_
  obtain ⟨y5, hy5, h6⟩ := bi_ok h4
  refine gl_callP (callable Tryz.func71 rfl rfl) (c_cmp_Or_int hy5) rfl rfl rfl rfl rfl rfl ?_
  refine go_draw hΓ 4 rfl ?_
  obtain rfl := Option.some.inj h6
  exact fin_pure hΓ (.inr rfl) rfl rfl
theorem c_route_CheckRouters {k : Nat} {l : List T_api_Router} {r : Int} (h : m_route_CheckRouters k l = some r) : Pure Tryz.prog 30 [.d (Sl e_api_Router l)] (I r) := by
  refine Pure.enter (Fr.of 0 _) Tryz.func30 rfl (Fr.of_ok _) rfl rfl ?_
  refine go_in ?_
  unfold m_route_CheckRouters at h
  refine go hΓ 13 rfl ?_
  refine j_cond rfl (fun hb => ?_) (fun hb => ?_)
  · have h1 := cT h hb
    refine go hΓ 7 rfl ?_
    obtain rfl := Option.some.inj h1
    exact fin_pure hΓ (.inr rfl) rfl rfl
  · have h2 := cF h hb
    refine go hΓ 10 rfl ?_
    obtain ⟨q6, hq6, h7⟩ := bi_ok h2
    refine j_bound 0 rfl fun hb9 => ?_
    refine j_cutEZ (R := fun a8 => q6 = .go a8) (fun a8 => []) (fun a8 => []) ?_ ?_
    · refine go hΓ 1 rfl ?_
      refine j_range l hq6 (fun i3 s4 => [(0, .d (Sl e_api_Router l)), (9, .d (Sl e_api_Router l)), (10, I (l.length : Int)), (11, I (i3 : Int))]) (fun s4 => []) ⟨⟨rfl, rfl, rfl, rfl, trivial⟩, [], rfl, .inl rfl⟩ (fun i3 x5 s4 y13 hx10 hlt hy11 hout12 => ?_) (fun s4 hgo => ?_)
      · refine go hΓ 6 rfl ?_
        refine j_condT rfl (decide_eq_true (Int.ofNat_lt.2 hlt)) ?_
        refine go hΓ 7 rfl ?_
        refine eo_o rfl (op_elemZ hΓ (enc := e_api_Router) (getZ_nat hx10) rfl rfl rfl rfl rfl (fun _ => rfl)) ?_
        refine go_ops hΓ 1 rfl ?_
        refine eo_alloc hΓ rfl rfl rfl (Nat.le_of_ble_eq_true rfl) ?_
        refine go_ops hΓ 1 rfl ?_
        refine eo_store hΓ rfl rfl rfl rfl rfl rfl rfl rfl (Nat.le_of_ble_eq_true rfl) ?_
        refine eo_hp [.box 69 [B x5.Prefix.Addr.Six, .d (.v (.int .u64 x5.Prefix.Addr.Hi)), .d (.v (.int .u64 x5.Prefix.Addr.Lo)), I x5.Prefix.Bits, S x5.Node, I x5.Weight]] rfl ?_
        obtain ⟨y14, hy14, h15⟩ := bi_ok hy11
        refine go_ops hΓ 7 rfl ?_
        refine eo_callP (callable Tryz.func81 rfl rfl) (c_addr_CheckPrefix hy14) rfl (Nat.le_of_ble_eq_true rfl) rfl rfl rfl rfl rfl ?_
        refine go_ops hΓ 9 rfl ?_
        refine j_cond rfl (fun hb => ?_) (fun hb => ?_)
        · have h16 := cT h15 hb
          refine go hΓ 10 rfl ?_
          obtain ⟨v17, hv17, h18⟩ := bi_ok h16
          obtain rfl := Option.some.inj h18
          obtain rfl := hout12 _ rfl
          obtain rfl := Option.some.inj h7
          refine go hΓ 4 rfl ?_
          obtain rfl := Option.some.inj hv17
          exact fin_pure hΓ (.inr rfl) rfl rfl
        · have h19 := cF h15 hb
          obtain ⟨y20, hy20, h21⟩ := bi_ok h19
          refine go hΓ 7 rfl ?_
          refine eo_callP (callable Tryz.func82 rfl rfl) (c_kit_IsKey hy20) rfl (Nat.le_of_ble_eq_true rfl) rfl rfl rfl rfl rfl ?_
          refine go_ops hΓ 4 rfl ?_
          refine j_cond rfl (fun hb => ?_) (fun hb => ?_)
          · have h22 := cT h21 hb
            refine go hΓ 9 rfl ?_
            obtain ⟨v23, hv23, h24⟩ := bi_ok h22
            obtain rfl := Option.some.inj h24
            obtain rfl := hout12 _ rfl
            obtain rfl := Option.some.inj h7
            refine go hΓ 4 rfl ?_
            obtain rfl := Option.some.inj hv23
            exact fin_pure hΓ (.inr rfl) rfl rfl
          · have h25 := cF h21 hb
            obtain ⟨y26, hy26, h27⟩ := bi_ok h25
            refine go hΓ 4 rfl ?_
            refine eo_callP (callable Tryz.func83 rfl rfl) (c_kit_Outside hy26) rfl (Nat.le_of_ble_eq_true rfl) rfl rfl rfl rfl rfl ?_
            refine go_ops hΓ 3 rfl ?_
            refine j_cond rfl (fun hb => ?_) (fun hb => ?_)
            · have h28 := cT h27 hb
              refine go hΓ 9 rfl ?_
              obtain ⟨v29, hv29, h30⟩ := bi_ok h28
              obtain rfl := Option.some.inj h30
              obtain rfl := hout12 _ rfl
              obtain rfl := Option.some.inj h7
              refine go hΓ 4 rfl ?_
              obtain rfl := Option.some.inj hv29
              exact fin_pure hΓ (.inr rfl) rfl rfl
            · have h31 := cF h27 hb
              obtain ⟨q32, hq32, h33⟩ := bi_ok h31
              refine go hΓ 1 rfl ?_
              refine j_cutNZ [(0, .d (Sl e_api_Router l)), (9, .d (Sl e_api_Router l)), (10, I (l.length : Int)), (11, I (i3 : Int)), (31, B q32)] [.box 69 [B x5.Prefix.Addr.Six, .d (.v (.int .u64 x5.Prefix.Addr.Hi)), .d (.v (.int .u64 x5.Prefix.Addr.Lo)), I x5.Prefix.Bits, S x5.Node, I x5.Weight]] ?_ ?_
              · refine j_draw hmix (by kernel_rfl) ?_
                refine go hΓ 3 rfl ?_
                refine gl_gsplit rfl rfl (fun hb => ?_) (fun hb => ?_)
                · have h34 := cT hq32 hb
                  obtain ⟨x35, hx35, h36⟩ := bi_ok h34
                  refine go_draw hΓ 3 rfl ?_
                  refine gl_og rfl rfl (op_elemZ hΓ (enc := e_api_Router) hx35 rfl rfl rfl rfl rfl (fun _ => rfl)) ?_
                  obtain ⟨y37, hy37, h38⟩ := bi_ok h36
                  refine go_draw hΓ 2 rfl ?_
                  refine gl_callPg (callable Tryz.func84 rfl rfl) (c_route_compareRouters hy37) rfl rfl rfl rfl rfl rfl rfl ?_
                  refine go_draw hΓ 4 rfl ?_
                  obtain rfl := Option.some.inj h38
                  exact ⟨⟨rfl, rfl, rfl, rfl, rfl, trivial⟩, [], rfl, .inl rfl⟩
                · have h39 := cF hq32 hb
                  refine go_draw hΓ 11 rfl ?_
                  obtain rfl := Option.some.inj h39
                  exact ⟨⟨rfl, rfl, rfl, rfl, rfl, trivial⟩, [], rfl, .inl rfl⟩
              · refine go hΓ 1 rfl ?_
                refine j_cond rfl (fun hb => ?_) (fun hb => ?_)
                · have h40 := cT h33 hb
                  refine go hΓ 9 rfl ?_
                  obtain ⟨v41, hv41, h42⟩ := bi_ok h40
                  obtain rfl := Option.some.inj h42
                  obtain rfl := hout12 _ rfl
                  obtain rfl := Option.some.inj h7
                  refine go hΓ 4 rfl ?_
                  obtain rfl := Option.some.inj hv41
                  exact fin_pure hΓ (.inr rfl) rfl rfl
                · have h43 := cF h33 hb
                  refine go hΓ 8 rfl ?_
                  obtain rfl := Option.some.inj h43
                  exact ⟨_, rfl, ⟨⟨rfl, rfl, rfl, get_eq rfl (w64_succ (Nat.lt_of_lt_of_le hlt hb9)), trivial⟩, [_], rfl, .inr ⟨HB.mk rfl, FB.mk rfl, (Nat.le_of_ble_eq_true rfl)⟩⟩⟩
      · subst hgo
        refine go hΓ 6 rfl ?_
        refine j_condF rfl (decide_eq_false (Int.lt_irrefl _)) ?_
        refine go hΓ 4 rfl ?_
        exact ⟨_, rfl, ⟨trivial, [], rfl, .inl rfl⟩⟩
    · intro a8 ha
      subst ha
      replace h7 := goI_l h7
      refine go hΓ 7 rfl ?_
      obtain rfl := Option.some.inj h7
      exact fin_pure hΓ (.inr rfl) rfl rfl
theorem c_kit_IsMoment {n : Int} {r : Bool} (h : m_kit_IsMoment n = some r) : Pure Tryz.prog 85 [I n] (B r) := by
  refine Pure.enter (Fr.of 0 _) Tryz.func85 rfl (Fr.of_ok _) rfl rfl ?_
  refine go_in ?_
  unfold m_kit_IsMoment at h
  refine go hΓ 10 rfl ?_
  refine o_cut 3 [(2, B false), (8, B ((decide ((n : Int) ≥ 0)) && (decide ((n : Int) < 345686400))))] [] ?_ ?_
  · refine eo_gsplit rfl rfl (fun hb => ?_) (fun hb => ?_)
    · refine go_ops hΓ 4 rfl ?_
      exact ⟨⟨rfl, get_b rfl (and_t hb), trivial⟩, [], rfl, .inl rfl⟩
    · refine go_ops hΓ 4 rfl ?_
      exact ⟨⟨rfl, get_b rfl (and_f hb), trivial⟩, [], rfl, .inl rfl⟩
  · refine go_ops hΓ 4 rfl ?_
    obtain rfl := Option.some.inj h
    exact fin_pure hΓ (.inr rfl) rfl rfl
theorem c_route_CheckHealth {k : Nat} {l : List T_api_Health} {r : Int} (h : m_route_CheckHealth k l = some r) : Pure Tryz.prog 31 [.d (Sl e_api_Health l)] (I r) := by
  refine Pure.enter (Fr.of 0 _) Tryz.func31 rfl (Fr.of_ok _) rfl rfl ?_
  refine go_in ?_
  unfold m_route_CheckHealth at h
  refine go hΓ 13 rfl ?_
  refine j_cond rfl (fun hb => ?_) (fun hb => ?_)
  · have h1 := cT h hb
    refine go hΓ 7 rfl ?_
    obtain rfl := Option.some.inj h1
    exact fin_pure hΓ (.inr rfl) rfl rfl
  · have h2 := cF h hb
    refine go hΓ 10 rfl ?_
    obtain ⟨q6, hq6, h7⟩ := bi_ok h2
    refine j_bound 0 rfl fun hb9 => ?_
    refine j_cutEZ (R := fun a8 => q6 = .go a8) (fun a8 => []) (fun a8 => []) ?_ ?_
    · refine go hΓ 1 rfl ?_
      refine j_range l hq6 (fun i3 s4 => [(0, .d (Sl e_api_Health l)), (8, .d (Sl e_api_Health l)), (9, I (l.length : Int)), (10, I (i3 : Int))]) (fun s4 => []) ⟨⟨rfl, rfl, rfl, rfl, trivial⟩, [], rfl, .inl rfl⟩ (fun i3 x5 s4 y13 hx10 hlt hy11 hout12 => ?_) (fun s4 hgo => ?_)
      · refine go hΓ 6 rfl ?_
        refine j_condT rfl (decide_eq_true (Int.ofNat_lt.2 hlt)) ?_
        refine go hΓ 7 rfl ?_
        refine eo_o rfl (op_elemZ hΓ (enc := e_api_Health) (getZ_nat hx10) rfl rfl rfl rfl rfl (fun _ => rfl)) ?_
        refine go_ops hΓ 1 rfl ?_
        refine eo_alloc hΓ rfl rfl rfl (Nat.le_of_ble_eq_true rfl) ?_
        refine go_ops hΓ 1 rfl ?_
        refine eo_store hΓ rfl rfl rfl rfl rfl rfl rfl rfl (Nat.le_of_ble_eq_true rfl) ?_
        refine eo_hp [.box 103 [I x5.At, S x5.Node, B x5.Up]] rfl ?_
        obtain ⟨y14, hy14, h15⟩ := bi_ok hy11
        refine go_ops hΓ 7 rfl ?_
        refine eo_callP (callable Tryz.func85 rfl rfl) (c_kit_IsMoment hy14) rfl (Nat.le_of_ble_eq_true rfl) rfl rfl rfl rfl rfl ?_
        refine go_ops hΓ 4 rfl ?_
        refine j_cond rfl (fun hb => ?_) (fun hb => ?_)
        · have h16 := cT h15 hb
          refine go hΓ 9 rfl ?_
          obtain ⟨v17, hv17, h18⟩ := bi_ok h16
          obtain rfl := Option.some.inj h18
          obtain rfl := hout12 _ rfl
          obtain rfl := Option.some.inj h7
          refine go hΓ 4 rfl ?_
          obtain rfl := Option.some.inj hv17
          exact fin_pure hΓ (.inr rfl) rfl rfl
        · have h19 := cF h15 hb
          obtain ⟨y20, hy20, h21⟩ := bi_ok h19
          refine go hΓ 4 rfl ?_
          refine eo_callP (callable Tryz.func82 rfl rfl) (c_kit_IsKey hy20) rfl (Nat.le_of_ble_eq_true rfl) rfl rfl rfl rfl rfl ?_
          refine go_ops hΓ 4 rfl ?_
          refine j_cond rfl (fun hb => ?_) (fun hb => ?_)
          · have h22 := cT h21 hb
            refine go hΓ 9 rfl ?_
            obtain ⟨v23, hv23, h24⟩ := bi_ok h22
            obtain rfl := Option.some.inj h24
            obtain rfl := hout12 _ rfl
            obtain rfl := Option.some.inj h7
            refine go hΓ 4 rfl ?_
            obtain rfl := Option.some.inj hv23
            exact fin_pure hΓ (.inr rfl) rfl rfl
          · have h25 := cF h21 hb
            obtain ⟨q26, hq26, h27⟩ := bi_ok h25
            refine go hΓ 1 rfl ?_
            refine j_cutNZ [(0, .d (Sl e_api_Health l)), (8, .d (Sl e_api_Health l)), (9, I (l.length : Int)), (10, I (i3 : Int)), (25, B q26)] [.box 103 [I x5.At, S x5.Node, B x5.Up]] ?_ ?_
            · refine j_drawE [.box 103 [I x5.At, S x5.Node, B x5.Up]] [10, 19] [] [] hmix (by kernel_rfl) (by kernel_rfl) ⟨rfl, trivial⟩ (Nat.le_of_ble_eq_true rfl) ?_
              refine go_E hΓ 3 rfl ?_
              refine ge_gsplit rfl rfl (fun hb => ?_) (fun hb => ?_)
              · have h28 := cT hq26 hb
                obtain ⟨x29, hx29, h30⟩ := bi_ok h28
                refine go_E hΓ 3 rfl ?_
                refine ge_q rfl (.inr ⟨_, _, rfl, rfl⟩) (fun _ _ => qte_of_qt (qt_p (op_elemZ hΓ (enc := e_api_Health) hx29 rfl rfl rfl rfl rfl (fun _ => rfl)))) ?_
                obtain ⟨y31, hy31, h32⟩ := bi_ok h30
                refine go_E hΓ 4 rfl ?_
                refine ge_callPg rfl (callable Tryz.func68 rfl rfl) (c_cmp_Compare_int hy31) rfl rfl rfl rfl rfl rfl ?_
                obtain ⟨x33, hx33, h34⟩ := bi_ok h32
                refine go_E hΓ 3 rfl ?_
                refine ge_q rfl (.inr ⟨_, _, rfl, rfl⟩) (fun _ _ => qte_of_qt (qt_p (op_elemZ hΓ (enc := e_api_Health) hx33 rfl rfl rfl rfl rfl (fun _ => rfl)))) ?_
                obtain ⟨y35, hy35, h36⟩ := bi_ok h34
                refine go_E hΓ 4 rfl ?_
                refine ge_callPg rfl (callable Tryz.func73 rfl rfl) (c_strings_Compare hy35) rfl rfl rfl rfl rfl rfl ?_
                refine ge_litTg hΓ (enc := (eN .i64)) [y31, y35] rfl rfl rfl rfl rfl rfl rfl rfl rfl rfl rfl rfl rfl ?_
                obtain ⟨y37, hy37, h38⟩ := bi_ok h36
                refine ge_callPg rfl (callable Tryz.func71 rfl rfl) (c_cmp_Or_int hy37) rfl rfl rfl rfl rfl rfl ?_
                refine go_E hΓ 3 rfl ?_
                refine ge_fin ?_
                obtain rfl := Option.some.inj h38
                exact ⟨⟨rfl, rfl, rfl, rfl, rfl, trivial⟩, [], rfl, .inl rfl⟩
              · have h39 := cF hq26 hb
                refine go_E hΓ 23 rfl ?_
                refine ge_fin ?_
                obtain rfl := Option.some.inj h39
                exact ⟨⟨rfl, rfl, rfl, rfl, rfl, trivial⟩, [], rfl, .inl rfl⟩
            · refine go hΓ 1 rfl ?_
              refine j_cond rfl (fun hb => ?_) (fun hb => ?_)
              · have h40 := cT h27 hb
                refine go hΓ 9 rfl ?_
                obtain ⟨v41, hv41, h42⟩ := bi_ok h40
                obtain rfl := Option.some.inj h42
                obtain rfl := hout12 _ rfl
                obtain rfl := Option.some.inj h7
                refine go hΓ 4 rfl ?_
                obtain rfl := Option.some.inj hv41
                exact fin_pure hΓ (.inr rfl) rfl rfl
              · have h43 := cF h27 hb
                refine go hΓ 8 rfl ?_
                obtain rfl := Option.some.inj h43
                exact ⟨_, rfl, ⟨⟨rfl, rfl, rfl, get_eq rfl (w64_succ (Nat.lt_of_lt_of_le hlt hb9)), trivial⟩, [_], rfl, .inr ⟨HB.mk rfl, FB.mk rfl, (Nat.le_of_ble_eq_true rfl)⟩⟩⟩
      · subst hgo
        refine go hΓ 6 rfl ?_
        refine j_condF rfl (decide_eq_false (Int.lt_irrefl _)) ?_
        refine go hΓ 4 rfl ?_
        exact ⟨_, rfl, ⟨trivial, [], rfl, .inl rfl⟩⟩
    · intro a8 ha
      subst ha
      replace h7 := goI_l h7
      refine go hΓ 7 rfl ?_
      obtain rfl := Option.some.inj h7
      exact fin_pure hΓ (.inr rfl) rfl rfl
theorem c_route_routersFault {k : Nat} {v_r : List T_api_Router} {l : List T_api_Health} {r : Int} (h : m_route_routersFault k v_r l = some r) : Pure Tryz.prog 57 [.d (Sl e_api_Router v_r), .d (Sl e_api_Health l)] (I r) := by
  refine Pure.enter (Fr.of 0 _) Tryz.func57 rfl (Fr.of_ok _) rfl rfl ?_
  refine go_in ?_
  unfold m_route_routersFault at h
  obtain ⟨y1, hy1, h2⟩ := bi_ok h
  refine go hΓ 9 rfl ?_
  refine eo_callP (callable Tryz.func30 rfl rfl) (c_route_CheckRouters hy1) rfl (Nat.le_of_ble_eq_true rfl) rfl rfl rfl rfl rfl ?_
  refine go_ops hΓ 9 rfl ?_
  refine j_cond rfl (fun hb => ?_) (fun hb => ?_)
  · have h3 := cT h2 hb
    refine go hΓ 8 rfl ?_
    obtain rfl := Option.some.inj h3
    exact fin_pure hΓ (.inr rfl) rfl rfl
  · have h4 := cF h2 hb
    obtain ⟨y5, hy5, h6⟩ := bi_ok h4
    refine go hΓ 5 rfl ?_
    refine eo_callP (callable Tryz.func31 rfl rfl) (c_route_CheckHealth hy5) rfl (Nat.le_of_ble_eq_true rfl) rfl rfl rfl rfl rfl ?_
    refine go_ops hΓ 4 rfl ?_
    obtain rfl := Option.some.inj h6
    exact fin_pure hΓ (.inr rfl) rfl rfl
theorem c_route_momentFault {v_at : Int} {r : Int} (h : m_route_momentFault v_at = some r) : Pure Tryz.prog 58 [I v_at] (I r) := by
  refine Pure.enter (Fr.of 0 _) Tryz.func58 rfl (Fr.of_ok _) rfl rfl ?_
  refine go_in ?_
  unfold m_route_momentFault at h
  obtain ⟨y1, hy1, h2⟩ := bi_ok h
  refine go hΓ 9 rfl ?_
  refine eo_callP (callable Tryz.func85 rfl rfl) (c_kit_IsMoment hy1) rfl (Nat.le_of_ble_eq_true rfl) rfl rfl rfl rfl rfl ?_
  refine go_ops hΓ 3 rfl ?_
  refine j_cond rfl (fun hb => ?_) (fun hb => ?_)
  · have h3 := cT h2 hb
    refine go hΓ 7 rfl ?_
    obtain rfl := Option.some.inj h3
    exact fin_pure hΓ (.inr rfl) rfl rfl
  · have h4 := cF h2 hb
    refine go hΓ 8 rfl ?_
    obtain rfl := Option.some.inj h4
    exact fin_pure hΓ (.inr rfl) rfl rfl
theorem c_route_groupsOf {v_r : List T_api_Router} {al : List Bool} {r : (List T_route_group) × (List Bool)} (h : m_route_groupsOf v_r al = some r) : EC Tryz.prog 115 [.d (Sl e_api_Router v_r)] [.bag al] fun g hp' => g = .sl 1 r.1.length ∧ hp' = [.bag r.2, .row 160 5 r.1.length (r.1.flatMap e_route_group)] := by
  refine ec_enterC (Fr.of 0 _) Tryz.func115 rfl (Fr.of_ok _) (Nat.le_of_ble_eq_true rfl) fun _ => ?_
  refine go_in ?_
  unfold m_route_groupsOf at h
  refine go hΓ 7 rfl ?_
  refine eo_nilOwn (t := 0) 160 5 rfl (Nat.le_of_ble_eq_true rfl) ?_
  refine go_ops hΓ 10 rfl ?_
  obtain ⟨q4, hq4, h5⟩ := bi_ok h
  refine j_bound 7 rfl fun hb7 => ?_
  refine j_cutNZ [(3, .sl 1 q4.2.length)] [.bag q4.1, .row 160 5 q4.2.length (q4.2.flatMap e_route_group)] ?_ ?_
  · refine go hΓ 1 rfl ?_
    refine j_rangeF v_r hq4 (fun i1 s2 => [(3, .sl 1 s2.2.length), (7, .d (Sl e_api_Router v_r)), (8, I (v_r.length : Int)), (9, I (i1 : Int))]) (fun s2 => [.bag s2.1, .row 160 5 s2.2.length (s2.2.flatMap e_route_group)]) ⟨⟨rfl, rfl, rfl, rfl, trivial⟩, [], rfl, .inl rfl⟩ (fun i1 x3 s2 y11 hx8 hlt hy9 => ?_) (?_)
    · refine go hΓ 6 rfl ?_
      refine j_condT rfl (decide_eq_true (Int.ofNat_lt.2 hlt)) ?_
      refine go hΓ 6 rfl ?_
      refine eo_o rfl (op_elemZ hΓ (enc := e_api_Router) (getZ_nat hx8) rfl rfl rfl rfl rfl (fun _ => rfl)) ?_
      refine go_ops hΓ 1 rfl ?_
      refine eo_alloc hΓ rfl rfl rfl (Nat.le_of_ble_eq_true rfl) ?_
      refine eo_store hΓ rfl rfl rfl rfl rfl rfl rfl rfl (Nat.le_of_ble_eq_true rfl) ?_
      refine eo_hp [.bag s2.1, .row 160 5 s2.2.length (s2.2.flatMap e_route_group), .box 69 [B x3.Prefix.Addr.Six, .d (.v (.int .u64 x3.Prefix.Addr.Hi)), .d (.v (.int .u64 x3.Prefix.Addr.Lo)), I x3.Prefix.Bits, S x3.Node, I x3.Weight]] rfl ?_
      obtain ⟨q12, hq12, h13⟩ := bi_ok hy9
      refine go_ops hΓ 12 rfl ?_
      refine j_cutNZ [(3, .sl 1 s2.2.length), (5, .ptr 2 0), (6, I (wi ((s2.2.length : Int) - 1))), (7, .d (Sl e_api_Router v_r)), (8, I (v_r.length : Int)), (9, I (i1 : Int)), (27, B q12)] [.bag s2.1, .row 160 5 s2.2.length (s2.2.flatMap e_route_group), .box 69 [B x3.Prefix.Addr.Six, .d (.v (.int .u64 x3.Prefix.Addr.Hi)), .d (.v (.int .u64 x3.Prefix.Addr.Lo)), I x3.Prefix.Bits, S x3.Node, I x3.Weight]] ?_ ?_
      · refine j_draw hmix (by kernel_rfl) ?_
        refine go hΓ 3 rfl ?_
        refine gl_gsplit rfl rfl (fun hb => ?_) (fun hb => ?_)
        · have h14 := cT hq12 hb
          obtain ⟨x15, hx15, h16⟩ := bi_ok h14
          have hj17 := getZ_at hx15
          refine go_draw hΓ 2 rfl ?_
          refine gl_og rfl rfl (op_elemRowZ hΓ hx15 rfl rfl rfl rfl rfl rfl) ?_
          refine go_draw hΓ 1 rfl ?_
          refine gl_og rfl rfl (op_loadRowZ hΓ (enc := e_route_group) ((wi ((s2.2.length : Int) - 1)).toNat) 0 hj17 rfl rfl rfl rfl (fun _ => rfl) (g := .agg [B x15.v_prefix.Addr.Six, .d (.v (.int .u64 x15.v_prefix.Addr.Hi)), .d (.v (.int .u64 x15.v_prefix.Addr.Lo)), I x15.v_prefix.Bits]) rfl) ?_
          refine go_draw hΓ 2 rfl ?_
          refine gl_og rfl rfl (op_eqS hΓ [42, 34] (b := ((((x15.v_prefix.Addr.Six : Bool) == x3.Prefix.Addr.Six) && (((x15.v_prefix.Addr.Hi : Int) == x3.Prefix.Addr.Hi) && (((x15.v_prefix.Addr.Lo : Int) == x3.Prefix.Addr.Lo) && true))) && (((x15.v_prefix.Bits : Int) == x3.Prefix.Bits) && true))) (by kernel_rfl) (by kernel_rfl) rfl rfl rfl) ?_
          refine go_draw hΓ 2 rfl ?_
          obtain rfl := Option.some.inj h16
          exact ⟨⟨rfl, rfl, rfl, rfl, rfl, rfl, rfl, trivial⟩, [], rfl, .inl rfl⟩
        · have h18 := cF hq12 hb
          refine go_draw hΓ 10 rfl ?_
          obtain rfl := Option.some.inj h18
          exact ⟨⟨rfl, rfl, rfl, rfl, rfl, rfl, rfl, trivial⟩, [], rfl, .inl rfl⟩
      · refine go hΓ 1 rfl ?_
        refine j_cond rfl (fun hb => ?_) (fun hb => ?_)
        · have h19 := cT h13 hb
          refine go hΓ 1 rfl ?_
          refine j_drawE [.dead, .row 160 5 s2.2.length (s2.2.flatMap e_route_group), .box 69 [B x3.Prefix.Addr.Six, .d (.v (.int .u64 x3.Prefix.Addr.Hi)), .d (.v (.int .u64 x3.Prefix.Addr.Lo)), I x3.Prefix.Bits, S x3.Node, I x3.Weight]] [6, 7] [9, 12] [12] hmix (by kernel_rfl) (by kernel_rfl) ⟨rfl, rfl, trivial⟩ (Nat.le_of_ble_eq_true rfl) ?_
          obtain ⟨x20, hx20, h21⟩ := bi_ok h19
          have hj22 := getZ_at hx20
          refine go_E hΓ 4 rfl ?_
          refine ge_q rfl (.inl rfl) (fun _ _ => qte_of_qt (qt_p (op_elemRowZ hΓ hx20 rfl rfl rfl rfl rfl rfl))) ?_
          refine go_E hΓ 1 rfl ?_
          refine ge_p rfl (fun hp hs => op_loadRowZ hΓ (enc := e_route_group) ((wi ((s2.2.length : Int) - 1)).toNat) 4 hj22 rfl rfl rfl (hs 1 _ rfl rfl) (fun _ => rfl) (g := .d (Slt 69 6 e_api_Router x20.list)) rfl) rfl ?_
          refine go_E hΓ 1 rfl ?_
          refine ge_litT hΓ (enc := e_api_Router) [x3] rfl rfl rfl rfl rfl rfl rfl rfl rfl rfl rfl rfl ?_
          obtain ⟨y23, hy23, h24⟩ := bi_ok h21
          refine ge_h [.bag y23.2, .row 160 5 s2.2.length (s2.2.flatMap e_route_group), .box 69 [B x3.Prefix.Addr.Six, .d (.v (.int .u64 x3.Prefix.Addr.Hi)), .d (.v (.int .u64 x3.Prefix.Addr.Lo)), I x3.Prefix.Bits, S x3.Node, I x3.Weight]] rfl rfl rfl (st_st ⟨rfl, rfl, trivial⟩) (qte_s (ops_appT hΓ (enc := e_api_Router) (bg := 0) hy23 rfl rfl rfl rfl rfl rfl rfl rfl (fun _ => rfl) rfl rfl)) ?_
          obtain ⟨x25, hx25, h26⟩ := bi_ok h24
          have hj27 := getZ_at hx25
          refine ge_q rfl (.inl rfl) (fun _ _ => qte_of_qt (qt_p (op_elemRowZ hΓ hx25 rfl rfl rfl rfl rfl rfl))) ?_
          refine go_E hΓ 1 rfl ?_
          refine ge_h0 [.bag y23.2, .row 160 5 (s2.2.set ((wi ((s2.2.length : Int) - 1)).toNat) (⟨x25.v_prefix, y23.1⟩ : T_route_group)).length ((s2.2.set ((wi ((s2.2.length : Int) - 1)).toNat) (⟨x25.v_prefix, y23.1⟩ : T_route_group)).flatMap e_route_group), .box 69 [B x3.Prefix.Addr.Six, .d (.v (.int .u64 x3.Prefix.Addr.Hi)), .d (.v (.int .u64 x3.Prefix.Addr.Lo)), I x3.Prefix.Bits, S x3.Node, I x3.Weight]] rfl rfl (brk_st rfl) (qte_u (opu_storeRowZ hΓ (enc := e_route_group) (z' := (⟨x25.v_prefix, y23.1⟩ : T_route_group)) ((wi ((s2.2.length : Int) - 1)).toNat) 4 hj27 rfl rfl rfl rfl (fun _ => rfl) rfl rfl rfl rfl rfl rfl rfl)) ?_
          refine ge_fin ?_
          refine go hΓ 1 rfl ?_
          refine j_relen 3 (n' := (s2.2.set ((wi ((s2.2.length : Int) - 1)).toNat) (⟨x25.v_prefix, y23.1⟩ : T_route_group)).length) rfl (by simp) ?_
          refine j_relen 28 (n' := (s2.2.set ((wi ((s2.2.length : Int) - 1)).toNat) (⟨x25.v_prefix, y23.1⟩ : T_route_group)).length) rfl (by simp) ?_
          refine j_relen 30 (n' := (s2.2.set ((wi ((s2.2.length : Int) - 1)).toNat) (⟨x25.v_prefix, y23.1⟩ : T_route_group)).length) rfl (by simp) ?_
          refine go hΓ 8 rfl ?_
          obtain rfl := Option.some.inj h26
          exact ⟨⟨rfl, rfl, rfl, get_eq rfl (w64_succ (Nat.lt_of_lt_of_le hlt hb7)), trivial⟩, [_], rfl, .inr ⟨HB.mk rfl, FB.mk rfl, (Nat.le_of_ble_eq_true rfl)⟩⟩
        · have h28 := cF h13 hb
          refine go hΓ 7 rfl ?_
          refine eo_s (Nat.le_of_ble_eq_true rfl) (nblt.1 rfl) (ops_litFT hΓ (enc := e_api_Router) [x3] rfl rfl rfl rfl rfl rfl rfl rfl rfl rfl rfl) ?_
          refine eo_o rfl (op_le (op_buildX hΓ [] (gs := [B x3.Prefix.Addr.Six, .d (.v (.int .u64 x3.Prefix.Addr.Hi)), .d (.v (.int .u64 x3.Prefix.Addr.Lo)), I x3.Prefix.Bits, .d (Slf e_api_Router [x3])]) rfl rfl rfl rfl rfl rfl) (g' := .agg [B x3.Prefix.Addr.Six, .d (.v (.int .u64 x3.Prefix.Addr.Hi)), .d (.v (.int .u64 x3.Prefix.Addr.Lo)), I x3.Prefix.Bits, .d (Slt 69 6 e_api_Router (1, [x3]))]) (G.Le.agg ⟨.refl _, .refl _, .refl _, .refl _, G.Le.tagF, trivial⟩)) ?_
          refine eo_litT hΓ (enc := e_route_group) [(⟨x3.Prefix, (1, [x3])⟩ : T_route_group)] rfl rfl rfl rfl rfl rfl rfl rfl rfl rfl rfl rfl (Nat.le_of_ble_eq_true rfl) ?_
          obtain ⟨y29, hy29, h30⟩ := bi_ok h28
          refine eo_appendT hΓ (enc := e_route_group) hy29 rfl rfl rfl rfl rfl rfl rfl rfl rfl (fun _ => rfl) rfl rfl rfl rfl ?_
          refine go_ops hΓ 8 rfl ?_
          obtain rfl := Option.some.inj h30
          exact ⟨⟨rfl, rfl, rfl, get_eq rfl (w64_succ (Nat.lt_of_lt_of_le hlt hb7)), trivial⟩, [_], rfl, .inr ⟨HB.mk rfl, FB.mk rfl, (Nat.le_of_ble_eq_true rfl)⟩⟩
    · refine go hΓ 6 rfl ?_
      refine j_condF rfl (decide_eq_false (Int.lt_irrefl _)) ?_
      refine go hΓ 4 rfl ?_
      exact ⟨⟨rfl, trivial⟩, [], rfl, .inl rfl⟩
  · refine go hΓ 8 rfl ?_
    refine cv_here ?_
    obtain rfl := Option.some.inj h5
    exact fin_objs hΓ [] (.inr rfl) rfl rfl rfl rfl (.inl rfl)
set_option maxHeartbeats 8000000 in
theorem c_route_turns {k : Nat} {v_r : List T_api_Router} {l : List T_api_Health} {r : List T_api_Turn} (h : m_route_turns k v_r l = some r) : EC Tryz.prog 93 [.d (Sl e_api_Router v_r), .d (Sl e_api_Health l)] [] fun g hp' => g = .sl 0 r.length ∧ hp' = [.row 91 3 r.length (r.flatMap e_api_Turn)] := by
  refine ec_enterC (Fr.of 0 _) Tryz.func93 rfl (Fr.of_ok _) (Nat.le_of_ble_eq_true rfl) fun _ => ?_
  refine go_in ?_
  unfold m_route_turns at h
  refine go hΓ 7 rfl ?_
  refine eo_s (Nat.le_of_ble_eq_true rfl) (nblt.1 rfl) (ops_makeMap false) ?_
  refine eo_hp [mOb kS false eB ([] : List (Str × Bool))] rfl ?_
  refine go_ops hΓ 5 rfl ?_
  refine eo_nilOwn (t := 0) 91 3 rfl (Nat.le_of_ble_eq_true rfl) ?_
  refine go_ops hΓ 13 rfl ?_
  obtain ⟨q4, hq4, h5⟩ := bi_ok h
  refine j_cutNZ [(6, .sl 1 q4.2.length)] [mOb kS false eB q4.1, .row 91 3 q4.2.length (q4.2.flatMap e_api_Turn)] ?_ ?_
  · refine go hΓ 1 rfl ?_
    refine j_loop hq4 (fun s2 => [(0, .d (Sl e_api_Router v_r)), (1, .d (Sl e_api_Health l)), (5, .map 0), (6, .sl 1 s2.2.1.length), (7, S s2.2.2.1), (8, I s2.2.2.2)]) (fun s2 => [mOb kS false eB s2.1, .row 91 3 s2.2.1.length (s2.2.1.flatMap e_api_Turn)]) ⟨⟨rfl, rfl, rfl, rfl, rfl, rfl, trivial⟩, [], rfl, .inl rfl⟩ (fun s2 y10 hy8 hout9 => ?_)
    refine go hΓ 9 rfl ?_
    refine j_cond rfl (fun hb => ?_) (fun hb => ?_)
    · have h11 := cT hy8 hb
      obtain ⟨x12, hx12, h13⟩ := bi_ok h11
      refine go hΓ 7 rfl ?_
      refine eo_o rfl (op_elemZ hΓ (enc := e_api_Health) hx12 rfl rfl rfl rfl rfl (fun _ => rfl)) ?_
      refine go_ops hΓ 6 rfl ?_
      obtain ⟨q17, hq17, h18⟩ := bi_ok h13
      refine j_cutNZ [(0, .d (Sl e_api_Router v_r)), (1, .d (Sl e_api_Health l)), (5, .map 0), (6, .sl 1 s2.2.1.length), (7, S s2.2.2.1), (8, I q17.2), (9, I x12.At)] [mOb kS false eB q17.1, .row 91 3 s2.2.1.length (s2.2.1.flatMap e_api_Turn)] ?_ ?_
      · refine go hΓ 1 rfl ?_
        refine j_loop hq17 (fun s15 => [(0, .d (Sl e_api_Router v_r)), (1, .d (Sl e_api_Health l)), (5, .map 0), (6, .sl 1 s2.2.1.length), (7, S s2.2.2.1), (8, I s15.2), (9, I x12.At)]) (fun s15 => [mOb kS false eB s15.1, .row 91 3 s2.2.1.length (s2.2.1.flatMap e_api_Turn)]) ⟨⟨rfl, rfl, rfl, rfl, rfl, rfl, rfl, trivial⟩, [], rfl, .inl rfl⟩ (fun s15 y23 hy21 hout22 => ?_)
        refine go hΓ 8 rfl ?_
        obtain ⟨q24, hq24, h25⟩ := bi_ok hy21
        refine o_cut 8 [(0, .d (Sl e_api_Router v_r)), (1, .d (Sl e_api_Health l)), (5, .map 0), (6, .sl 1 s2.2.1.length), (7, S s2.2.2.1), (8, I s15.2), (9, I x12.At), (36, B q24)] [mOb kS false eB s15.1, .row 91 3 s2.2.1.length (s2.2.1.flatMap e_api_Turn)] ?_ ?_
        · refine eo_gsplit rfl rfl (fun hb => ?_) (fun hb => ?_)
          · have h26 := cT hq24 hb
            obtain ⟨x27, hx27, h28⟩ := bi_ok h26
            refine go_ops hΓ 2 rfl ?_
            refine eo_guard rfl ?_
            refine eo_o rfl (op_elemZ hΓ (enc := e_api_Health) hx27 rfl rfl rfl rfl rfl (fun _ => rfl)) ?_
            refine go_ops hΓ 6 rfl ?_
            obtain rfl := Option.some.inj h28
            exact ⟨⟨rfl, rfl, rfl, rfl, rfl, rfl, rfl, rfl, trivial⟩, [], rfl, .inl rfl⟩
          · have h29 := cF hq24 hb
            refine go_ops hΓ 9 rfl ?_
            obtain rfl := Option.some.inj h29
            exact ⟨⟨rfl, rfl, rfl, rfl, rfl, rfl, rfl, rfl, trivial⟩, [], rfl, .inl rfl⟩
        · refine go_ops hΓ 2 rfl ?_
          refine j_cond rfl (fun hb => ?_) (fun hb => ?_)
          · have h30 := cT h25 hb
            refine go hΓ 4 rfl ?_
            refine j_drawE [] [] [11] [] hmix (by kernel_rfl) (by kernel_rfl) trivial (Nat.le_of_ble_eq_true rfl) ?_
            obtain ⟨x31, hx31, h32⟩ := bi_ok h30
            refine go_E hΓ 3 rfl ?_
            refine ge_q rfl (.inl rfl) (fun _ _ => qte_of_qt (qt_p (op_elemZ hΓ (enc := e_api_Health) hx31 rfl rfl rfl rfl rfl (fun _ => rfl)))) ?_
            obtain ⟨x33, hx33, h34⟩ := bi_ok h32
            refine go_E hΓ 4 rfl ?_
            refine ge_q rfl (.inl rfl) (fun _ _ => qte_of_qt (qt_p (op_elemZ hΓ (enc := e_api_Health) hx33 rfl rfl rfl rfl rfl (fun _ => rfl)))) ?_
            refine go_E hΓ 2 rfl ?_
            refine ge_h0 [mOb kS false eB (mSet s15.1 x31.Node x33.Up), .row 91 3 s2.2.1.length (s2.2.1.flatMap e_api_Turn)] rfl rfl (st_st trivial) (qte_u (opu_mapUpdate hΓ (kv := kS) (agg := false) (enc := eB) (id := 0) s15.1 x31.Node x33.Up rfl rfl rfl key_str rfl rfl rfl rfl rfl)) ?_
            refine ge_fin ?_
            refine go hΓ 7 rfl ?_
            obtain rfl := Option.some.inj h34
            exact ⟨_, rfl, ⟨⟨rfl, rfl, rfl, rfl, rfl, rfl, rfl, trivial⟩, [], rfl, .inl rfl⟩⟩
          · have h35 := cF h25 hb
            refine go hΓ 4 rfl ?_
            obtain rfl := Option.some.inj h35
            obtain rfl := hout22 _ rfl
            exact ⟨⟨rfl, rfl, rfl, rfl, rfl, rfl, rfl, trivial⟩, [], rfl, .inl rfl⟩
      · refine go hΓ 12 rfl ?_
        refine eo_o rfl (op_lookup hΓ (kv := kS) (agg := false) (enc := eB) q17.1 s2.2.2.1 (false : Bool) rfl rfl rfl rfl key_str rfl rfl rfl rfl rfl rfl rfl) ?_
        obtain ⟨q36, hq36, h37⟩ := bi_ok h18
        refine go_ops hΓ 3 rfl ?_
        refine j_cutNZ [(0, .d (Sl e_api_Router v_r)), (1, .d (Sl e_api_Health l)), (5, .map 0), (6, .sl 1 s2.2.1.length), (7, S s2.2.2.1), (8, I q17.2), (9, I x12.At), (10, S q36)] [mOb kS false eB q17.1, .row 91 3 s2.2.1.length (s2.2.1.flatMap e_api_Turn)] ?_ ?_
        · refine j_cond rfl (fun hb => ?_) (fun hb => ?_)
          · have h38 := cT hq36 hb
            refine go hΓ 17 rfl ?_
            obtain ⟨q42, hq42, h43⟩ := bi_ok h38
            refine j_bound 0 rfl fun hb45 => ?_
            refine j_cutNZ [(0, .d (Sl e_api_Router v_r)), (1, .d (Sl e_api_Health l)), (5, .map 0), (6, .sl 1 s2.2.1.length), (7, S s2.2.2.1), (8, I q17.2), (9, I x12.At), (10, S q42.1)] [mOb kS false eB q17.1, .row 91 3 s2.2.1.length (s2.2.1.flatMap e_api_Turn)] ?_ ?_
            · refine go hΓ 1 rfl ?_
              refine j_rangeF v_r hq42 (fun i39 s40 => [(0, .d (Sl e_api_Router v_r)), (1, .d (Sl e_api_Health l)), (5, .map 0), (6, .sl 1 s2.2.1.length), (7, S s2.2.2.1), (8, I q17.2), (9, I x12.At), (10, S s40.1), (11, I s40.2), (55, .d (Sl e_api_Router v_r)), (56, I (v_r.length : Int)), (57, I (i39 : Int))]) (fun s40 => [mOb kS false eB q17.1, .row 91 3 s2.2.1.length (s2.2.1.flatMap e_api_Turn)]) ⟨⟨rfl, rfl, rfl, rfl, rfl, rfl, rfl, rfl, rfl, rfl, rfl, rfl, trivial⟩, [], rfl, .inl rfl⟩ (fun i39 x41 s40 y49 hx46 hlt hy47 => ?_) (?_)
              · refine go hΓ 6 rfl ?_
                refine j_condT rfl (decide_eq_true (Int.ofNat_lt.2 hlt)) ?_
                refine go hΓ 6 rfl ?_
                refine eo_o rfl (op_elemZ hΓ (enc := e_api_Router) (getZ_nat hx46) rfl rfl rfl rfl rfl (fun _ => rfl)) ?_
                refine go_ops hΓ 1 rfl ?_
                refine eo_alloc hΓ rfl rfl rfl (Nat.le_of_ble_eq_true rfl) ?_
                refine eo_store hΓ rfl rfl rfl rfl rfl rfl rfl rfl (Nat.le_of_ble_eq_true rfl) ?_
                refine eo_hp [mOb kS false eB q17.1, .row 91 3 s2.2.1.length (s2.2.1.flatMap e_api_Turn), .box 69 [B x41.Prefix.Addr.Six, .d (.v (.int .u64 x41.Prefix.Addr.Hi)), .d (.v (.int .u64 x41.Prefix.Addr.Lo)), I x41.Prefix.Bits, S x41.Node, I x41.Weight]] rfl ?_
                refine go_ops hΓ 7 rfl ?_
                refine eo_o rfl (op_lookup hΓ (kv := kS) (agg := false) (enc := eB) q17.1 x41.Node (false : Bool) rfl rfl rfl rfl key_str rfl rfl rfl rfl rfl rfl rfl) ?_
                refine go_ops hΓ 1 rfl ?_
                refine o_cut 5 [(0, .d (Sl e_api_Router v_r)), (1, .d (Sl e_api_Health l)), (5, .map 0), (6, .sl 1 s2.2.1.length), (7, S s2.2.2.1), (8, I q17.2), (9, I x12.At), (10, S s40.1), (11, I s40.2), (13, .ptr 2 0), (55, .d (Sl e_api_Router v_r)), (56, I (v_r.length : Int)), (57, I (i39 : Int)), (70, B (((mGet q17.1 x41.Node).getD false) && (decide ((x41.Weight : Int) > s40.2))))] [mOb kS false eB q17.1, .row 91 3 s2.2.1.length (s2.2.1.flatMap e_api_Turn), .box 69 [B x41.Prefix.Addr.Six, .d (.v (.int .u64 x41.Prefix.Addr.Hi)), .d (.v (.int .u64 x41.Prefix.Addr.Lo)), I x41.Prefix.Bits, S x41.Node, I x41.Weight]] ?_ ?_
                · refine eo_gsplit rfl rfl (fun hb => ?_) (fun hb => ?_)
                  · refine go_ops hΓ 6 rfl ?_
                    exact ⟨⟨rfl, rfl, rfl, rfl, rfl, rfl, rfl, rfl, rfl, rfl, rfl, rfl, rfl, get_b rfl (and_t hb), trivial⟩, [], rfl, .inl rfl⟩
                  · refine go_ops hΓ 6 rfl ?_
                    exact ⟨⟨rfl, rfl, rfl, rfl, rfl, rfl, rfl, rfl, rfl, rfl, rfl, rfl, rfl, get_b rfl (and_f hb), trivial⟩, [], rfl, .inl rfl⟩
                · refine go_ops hΓ 2 rfl ?_
                  refine j_cond rfl (fun hb => ?_) (fun hb => ?_)
                  · have h50 := cT hy47 hb
                    refine j_draw hmix (by kernel_rfl) ?_
                    refine go hΓ 13 rfl ?_
                    obtain rfl := Option.some.inj h50
                    exact ⟨⟨rfl, rfl, rfl, rfl, rfl, rfl, rfl, rfl, rfl, rfl, rfl, get_eq rfl (w64_succ (Nat.lt_of_lt_of_le hlt hb45)), trivial⟩, [_], rfl, .inr ⟨HB.mk rfl, FB.mk rfl, (Nat.le_of_ble_eq_true rfl)⟩⟩
                  · have h51 := cF hy47 hb
                    refine go hΓ 7 rfl ?_
                    obtain rfl := Option.some.inj h51
                    exact ⟨⟨rfl, rfl, rfl, rfl, rfl, rfl, rfl, rfl, rfl, rfl, rfl, get_eq rfl (w64_succ (Nat.lt_of_lt_of_le hlt hb45)), trivial⟩, [_], rfl, .inr ⟨HB.mk rfl, FB.mk rfl, (Nat.le_of_ble_eq_true rfl)⟩⟩
              · refine go hΓ 6 rfl ?_
                refine j_condF rfl (decide_eq_false (Int.lt_irrefl _)) ?_
                refine go hΓ 4 rfl ?_
                exact ⟨⟨rfl, rfl, rfl, rfl, rfl, rfl, rfl, rfl, trivial⟩, [], rfl, .inl rfl⟩
            · obtain rfl := Option.some.inj h43
              exact ⟨⟨rfl, rfl, rfl, rfl, rfl, rfl, rfl, rfl, trivial⟩, [], rfl, .inl rfl⟩
          · have h52 := cF hq36 hb
            refine go hΓ 1 rfl ?_
            obtain rfl := Option.some.inj h52
            exact ⟨⟨rfl, rfl, rfl, rfl, rfl, rfl, rfl, rfl, trivial⟩, [], rfl, .inl rfl⟩
        · refine go hΓ 9 rfl ?_
          refine j_cond rfl (fun hb => ?_) (fun hb => ?_)
          · have h53 := cT h37 hb
            refine go hΓ 3 rfl ?_
            obtain rfl := Option.some.inj h53
            exact ⟨_, rfl, ⟨⟨rfl, rfl, rfl, rfl, rfl, rfl, trivial⟩, [], rfl, .inl rfl⟩⟩
          · have h54 := cF h37 hb
            obtain ⟨q55, hq55, h56⟩ := bi_ok h54
            refine go hΓ 9 rfl ?_
            refine j_cutNZ [(0, .d (Sl e_api_Router v_r)), (1, .d (Sl e_api_Health l)), (5, .map 0), (6, .sl 1 q55.length), (8, I q17.2), (9, I x12.At), (10, S q36)] [mOb kS false eB q17.1, .row 91 3 q55.length (q55.flatMap e_api_Turn)] ?_ ?_
            · refine j_cond rfl (fun hb => ?_) (fun hb => ?_)
              · have h57 := cT hq55 hb
                obtain ⟨x58, hx58, h59⟩ := bi_ok h57
                have hj60 := getZ_at hx58
                refine go hΓ 6 rfl ?_
                refine eo_o rfl (op_elemRowZ hΓ hx58 rfl rfl rfl rfl rfl rfl) ?_
                refine go_ops hΓ 1 rfl ?_
                refine eo_storeRowZ hΓ (enc := e_api_Turn) (z' := (⟨x58.Who, x58.From, x12.At⟩ : T_api_Turn)) ((wi ((s2.2.1.length : Int) - 1)).toNat) 2 hj60 rfl rfl rfl rfl (fun _ => rfl) rfl rfl rfl rfl rfl rfl (Nat.le_of_ble_eq_true rfl) ?_
                refine eo_hp [mOb kS false eB q17.1, .row 91 3 (s2.2.1.set ((wi ((s2.2.1.length : Int) - 1)).toNat) (⟨x58.Who, x58.From, x12.At⟩ : T_api_Turn)).length ((s2.2.1.set ((wi ((s2.2.1.length : Int) - 1)).toNat) (⟨x58.Who, x58.From, x12.At⟩ : T_api_Turn)).flatMap e_api_Turn)] rfl ?_
                refine eo_relen 6 (n' := (s2.2.1.set ((wi ((s2.2.1.length : Int) - 1)).toNat) (⟨x58.Who, x58.From, x12.At⟩ : T_api_Turn)).length) rfl List.length_set.symm ?_
                refine go_ops hΓ 1 rfl ?_
                obtain rfl := Option.some.inj h59
                exact ⟨⟨rfl, rfl, rfl, rfl, rfl, rfl, rfl, trivial⟩, [], rfl, .inl rfl⟩
              · have h61 := cF hq55 hb
                refine go hΓ 1 rfl ?_
                obtain rfl := Option.some.inj h61
                exact ⟨⟨rfl, rfl, rfl, rfl, rfl, rfl, rfl, trivial⟩, [], rfl, .inl rfl⟩
            · refine go hΓ 8 rfl ?_
              refine j_cond rfl (fun hb => ?_) (fun hb => ?_)
              · have h62 := cT h56 hb
                refine go hΓ 4 rfl ?_
                refine eo_build hΓ (gs := [S q36, I x12.At, I 345686400]) rfl rfl rfl rfl rfl rfl rfl ?_
                refine eo_litT hΓ (enc := e_api_Turn) [(⟨q36, x12.At, 345686400⟩ : T_api_Turn)] rfl rfl rfl rfl rfl rfl rfl rfl rfl rfl rfl rfl (Nat.le_of_ble_eq_true rfl) ?_
                obtain ⟨y63, hy63, h64⟩ := bi_ok h62
                refine eo_appendT hΓ (enc := e_api_Turn) hy63 rfl rfl rfl rfl rfl rfl rfl rfl rfl (fun _ => rfl) rfl rfl rfl rfl ?_
                refine go_ops hΓ 8 rfl ?_
                obtain rfl := Option.some.inj h64
                exact ⟨_, rfl, ⟨⟨rfl, rfl, rfl, rfl, rfl, rfl, trivial⟩, [], rfl, .inl rfl⟩⟩
              · have h65 := cF h56 hb
                refine go hΓ 7 rfl ?_
                obtain rfl := Option.some.inj h65
                exact ⟨_, rfl, ⟨⟨rfl, rfl, rfl, rfl, rfl, rfl, trivial⟩, [], rfl, .inl rfl⟩⟩
    · have h66 := cF hy8 hb
      refine go hΓ 4 rfl ?_
      obtain rfl := Option.some.inj h66
      obtain rfl := hout9 _ rfl
      exact ⟨⟨rfl, trivial⟩, [], rfl, .inl rfl⟩
  · refine go hΓ 8 rfl ?_
    refine cv_kill 0 [.dead, .row 91 3 q4.2.length (q4.2.flatMap e_api_Turn)] rfl (Nat.le_of_ble_eq_true rfl) ?_
    refine cv_move 1 0 [.row 91 3 q4.2.length (q4.2.flatMap e_api_Turn), .dead] rfl rfl rfl rfl rfl rfl ?_
    refine cv_here ?_
    obtain rfl := Option.some.inj h5
    exact fin_objs hΓ [_] (.inr rfl) rfl rfl rfl rfl (.inr ⟨HB.mk rfl, rfl⟩)
theorem c_route_whoAt {l : List T_api_Turn} {v_at : Int} {r : Str} (h : m_route_whoAt l v_at = some r) : Pure Tryz.prog 92 [.d (Sl e_api_Turn l), I v_at] (S r) := by
  refine Pure.enter (Fr.of 0 _) Tryz.func92 rfl (Fr.of_ok _) rfl rfl ?_
  refine go_in ?_
  unfold m_route_whoAt at h
  refine go hΓ 13 rfl ?_
  obtain ⟨q4, hq4, h5⟩ := bi_ok h
  refine j_bound 7 rfl fun hb7 => ?_
  refine j_cutEZ (R := fun a6 => q4 = .go a6) (fun a6 => []) (fun a6 => []) ?_ ?_
  · refine go hΓ 1 rfl ?_
    refine j_range l hq4 (fun i1 s2 => [(1, I v_at), (7, .d (Sl e_api_Turn l)), (8, I (l.length : Int)), (9, I (i1 : Int))]) (fun s2 => []) ⟨⟨rfl, rfl, rfl, rfl, trivial⟩, [], rfl, .inl rfl⟩ (fun i1 x3 s2 y11 hx8 hlt hy9 hout10 => ?_) (fun s2 hgo => ?_)
    · refine go hΓ 6 rfl ?_
      refine j_condT rfl (decide_eq_true (Int.ofNat_lt.2 hlt)) ?_
      refine go hΓ 6 rfl ?_
      refine eo_o rfl (op_elemZ hΓ (enc := e_api_Turn) (getZ_nat hx8) rfl rfl rfl rfl rfl (fun _ => rfl)) ?_
      refine go_ops hΓ 1 rfl ?_
      refine eo_alloc hΓ rfl rfl rfl (Nat.le_of_ble_eq_true rfl) ?_
      refine eo_store hΓ rfl rfl rfl rfl rfl rfl rfl rfl (Nat.le_of_ble_eq_true rfl) ?_
      refine eo_hp [.box 91 [S x3.Who, I x3.From, I x3.To]] rfl ?_
      refine go_ops hΓ 9 rfl ?_
      refine o_cut 5 [(1, I v_at), (6, .ptr 0 0), (7, .d (Sl e_api_Turn l)), (8, I (l.length : Int)), (9, I (i1 : Int)), (22, B ((decide ((x3.From : Int) ≤ v_at)) && (decide ((v_at : Int) < x3.To))))] [.box 91 [S x3.Who, I x3.From, I x3.To]] ?_ ?_
      · refine eo_gsplit rfl rfl (fun hb => ?_) (fun hb => ?_)
        · refine go_ops hΓ 6 rfl ?_
          exact ⟨⟨rfl, rfl, rfl, rfl, rfl, get_b rfl (and_t hb), trivial⟩, [], rfl, .inl rfl⟩
        · refine go_ops hΓ 6 rfl ?_
          exact ⟨⟨rfl, rfl, rfl, rfl, rfl, get_b rfl (and_f hb), trivial⟩, [], rfl, .inl rfl⟩
      · refine go_ops hΓ 2 rfl ?_
        refine j_cond rfl (fun hb => ?_) (fun hb => ?_)
        · have h12 := cT hy9 hb
          refine go hΓ 10 rfl ?_
          obtain ⟨v13, hv13, h14⟩ := bi_ok h12
          obtain rfl := Option.some.inj h14
          obtain rfl := hout10 _ rfl
          obtain rfl := Option.some.inj h5
          refine go hΓ 4 rfl ?_
          obtain rfl := Option.some.inj hv13
          exact fin_pure hΓ (.inr rfl) rfl rfl
        · have h15 := cF hy9 hb
          refine go hΓ 7 rfl ?_
          obtain rfl := Option.some.inj h15
          exact ⟨_, rfl, ⟨⟨rfl, rfl, rfl, get_eq rfl (w64_succ (Nat.lt_of_lt_of_le hlt hb7)), trivial⟩, [_], rfl, .inr ⟨HB.mk rfl, FB.mk rfl, (Nat.le_of_ble_eq_true rfl)⟩⟩⟩
    · subst hgo
      refine go hΓ 6 rfl ?_
      refine j_condF rfl (decide_eq_false (Int.lt_irrefl _)) ?_
      refine go hΓ 4 rfl ?_
      exact ⟨_, rfl, ⟨trivial, [], rfl, .inl rfl⟩⟩
  · intro a6 ha
    subst ha
    replace h5 := goI_l h5
    refine go hΓ 7 rfl ?_
    obtain rfl := Option.some.inj h5
    exact fin_pure hΓ (.inr rfl) rfl rfl
theorem c_route_firsts {k : Nat} {v_r : List T_api_Router} {l : List T_api_Health} {v_at : Int} {al : List Bool} {r : (List T_api_Lead) × (List Bool)} (h : m_route_firsts k v_r l v_at al = some r) : EC Tryz.prog 59 [.d (Sl e_api_Router v_r), .d (Sl e_api_Health l), I v_at] [.bag al] fun g hp' => g = .sl 1 r.1.length ∧ hp' = [.bag r.2, .row 44 5 r.1.length (r.1.flatMap e_api_Lead)] := by
  refine ec_enterC (Fr.of 0 _) Tryz.func59 rfl (Fr.of_ok _) (Nat.le_of_ble_eq_true rfl) fun _ => ?_
  refine go_in ?_
  unfold m_route_firsts at h
  refine go hΓ 7 rfl ?_
  refine eo_nilOwn (t := 0) 44 5 rfl (Nat.le_of_ble_eq_true rfl) ?_
  obtain ⟨y1, hy1, h2⟩ := bi_ok h
  refine go_ops hΓ 6 rfl ?_
  refine eo_callF [0] (.sl 2 y1.1.length) [.bag y1.2, .row 44 5 ([] : List T_api_Lead).length (([] : List T_api_Lead).flatMap e_api_Lead), .row 160 5 y1.1.length (y1.1.flatMap e_route_group)] (callable Tryz.func115 rfl rfl) (c_route_groupsOf hy1) rfl (Nat.le_of_ble_eq_true rfl) rfl rfl rfl rfl rfl rfl rfl rfl rfl rfl ?_
  refine eo_shr 2 [12] _ [.bag y1.2, .row 44 5 ([] : List T_api_Lead).length (([] : List T_api_Lead).flatMap e_api_Lead), .dead] rfl rfl rfl (Nat.le_of_ble_eq_true rfl) ?_
  refine go_ops hΓ 4 rfl ?_
  obtain ⟨q6, hq6, h7⟩ := bi_ok h2
  refine j_bound 12 rfl fun hb9 => ?_
  refine j_cutNZ [(7, .sl 1 q6.length)] [.bag y1.2, .row 44 5 q6.length (q6.flatMap e_api_Lead), .dead] ?_ ?_
  · refine go hΓ 1 rfl ?_
    refine j_rangeF y1.1 hq6 (fun i3 s4 => [(1, .d (Sl e_api_Health l)), (2, I v_at), (7, .sl 1 s4.length), (12, .d (Sl e_route_group y1.1)), (13, I (y1.1.length : Int)), (14, I (i3 : Int))]) (fun s4 => [.bag y1.2, .row 44 5 s4.length (s4.flatMap e_api_Lead), .dead]) ⟨⟨rfl, rfl, rfl, rfl, rfl, rfl, trivial⟩, [], rfl, .inl rfl⟩ (fun i3 x5 s4 y13 hx10 hlt hy11 => ?_) (?_)
    · refine go hΓ 6 rfl ?_
      refine j_condT rfl (decide_eq_true (Int.ofNat_lt.2 hlt)) ?_
      refine go hΓ 6 rfl ?_
      refine eo_o rfl (op_elemZ hΓ (enc := e_route_group) (getZ_nat hx10) rfl rfl rfl rfl rfl (fun _ => rfl)) ?_
      refine go_ops hΓ 1 rfl ?_
      refine eo_s (Nat.le_of_ble_eq_true rfl) (nblt.1 rfl) (ops_allocT hΓ [4] [B false, .d (.v (.int .u64 0)), .d (.v (.int .u64 0)), I 0, .d (Slt 69 6 e_api_Router (1, []))] (hi := show Γ 160 = some ⟨_, _, _, _⟩ from rfl) rfl ⟨.refl _, .refl _, .refl _, .refl _, G.Le.tagN, trivial⟩) ?_
      refine eo_hp [.bag y1.2, .row 44 5 s4.length (s4.flatMap e_api_Lead), .dead, .box 160 [B false, .d (.v (.int .u64 0)), .d (.v (.int .u64 0)), I 0, .d (Slt 69 6 e_api_Router (1, []))]] rfl ?_
      refine eo_store hΓ rfl rfl rfl rfl rfl rfl rfl rfl (Nat.le_of_ble_eq_true rfl) ?_
      refine eo_hp [.bag y1.2, .row 44 5 s4.length (s4.flatMap e_api_Lead), .dead, .box 160 [B x5.v_prefix.Addr.Six, .d (.v (.int .u64 x5.v_prefix.Addr.Hi)), .d (.v (.int .u64 x5.v_prefix.Addr.Lo)), I x5.v_prefix.Bits, .d (Slt 69 6 e_api_Router x5.list)]] rfl ?_
      refine go_ops hΓ 5 rfl ?_
      refine eo_o rfl (op_le (pst_ok hΓ (g := .d (Slt 69 6 e_api_Router x5.list)) rfl) G.Le.unt) ?_
      obtain ⟨y14, hy14, h15⟩ := bi_ok hy11
      refine go_ops hΓ 1 rfl ?_
      refine eo_callP (callable Tryz.func93 rfl rfl) (Pure.rows (c_route_turns hy14) rfl rfl) rfl (Nat.le_of_ble_eq_true rfl) rfl rfl rfl rfl rfl ?_
      obtain ⟨y16, hy16, h17⟩ := bi_ok h15
      refine go_ops hΓ 1 rfl ?_
      refine eo_callP (callable Tryz.func92 rfl rfl) (c_route_whoAt hy16) rfl (Nat.le_of_ble_eq_true rfl) rfl rfl rfl rfl rfl ?_
      refine go_ops hΓ 9 rfl ?_
      refine j_cond rfl (fun hb => ?_) (fun hb => ?_)
      · have h18 := cT h17 hb
        refine go hΓ 5 rfl ?_
        refine eo_build hΓ (gs := [B x5.v_prefix.Addr.Six, .d (.v (.int .u64 x5.v_prefix.Addr.Hi)), .d (.v (.int .u64 x5.v_prefix.Addr.Lo)), I x5.v_prefix.Bits, S y16]) rfl rfl rfl rfl rfl rfl rfl ?_
        refine eo_litT hΓ (enc := e_api_Lead) [(⟨x5.v_prefix, y16⟩ : T_api_Lead)] rfl rfl rfl rfl rfl rfl rfl rfl rfl rfl rfl rfl (Nat.le_of_ble_eq_true rfl) ?_
        obtain ⟨y19, hy19, h20⟩ := bi_ok h18
        refine eo_appendT hΓ (enc := e_api_Lead) hy19 rfl rfl rfl rfl rfl rfl rfl rfl rfl (fun _ => rfl) rfl rfl rfl rfl ?_
        refine go_ops hΓ 8 rfl ?_
        obtain rfl := Option.some.inj h20
        exact ⟨⟨rfl, rfl, rfl, rfl, rfl, get_eq rfl (w64_succ (Nat.lt_of_lt_of_le hlt hb9)), trivial⟩, [_], rfl, .inr ⟨HB.mk rfl, FB.mk rfl, (Nat.le_of_ble_eq_true rfl)⟩⟩
      · have h21 := cF h17 hb
        refine go hΓ 7 rfl ?_
        obtain rfl := Option.some.inj h21
        exact ⟨⟨rfl, rfl, rfl, rfl, rfl, get_eq rfl (w64_succ (Nat.lt_of_lt_of_le hlt hb9)), trivial⟩, [_], rfl, .inr ⟨HB.mk rfl, FB.mk rfl, (Nat.le_of_ble_eq_true rfl)⟩⟩
    · refine go hΓ 6 rfl ?_
      refine j_condF rfl (decide_eq_false (Int.lt_irrefl _)) ?_
      refine go hΓ 4 rfl ?_
      exact ⟨⟨rfl, trivial⟩, [], rfl, .inl rfl⟩
  · refine go hΓ 8 rfl ?_
    refine cv_here ?_
    obtain rfl := Option.some.inj h7
    exact fin_objs hΓ [_] (.inr rfl) rfl rfl rfl rfl (.inr ⟨HB.mk rfl, rfl⟩)
theorem c_route_Firsts {k : Nat} {v_r : List T_api_Router} {l : List T_api_Health} {v_at : Int} {al : List Bool} {r : (List T_api_Lead) × Int × (List Bool)} (h : m_route_Firsts k v_r l v_at al = some r) : EC Tryz.prog 12 [.d (Sl e_api_Router v_r), .d (Sl e_api_Health l), I v_at] [.bag al] fun g hp' => g = .tup [.d (Sl e_api_Lead r.1), I r.2.1] ∧ hp' = [.bag r.2.2] := by
  refine ec_enter (Fr.of 0 _) Tryz.func12 rfl (Fr.of_ok _) (Nat.le_of_ble_eq_true rfl) fun _ => ?_
  refine go_in ?_
  unfold m_route_Firsts at h
  obtain ⟨y1, hy1, h2⟩ := bi_ok h
  refine go hΓ 11 rfl ?_
  refine eo_callP (callable Tryz.func57 rfl rfl) (c_route_routersFault hy1) rfl (Nat.le_of_ble_eq_true rfl) rfl rfl rfl rfl rfl ?_
  refine go_ops hΓ 9 rfl ?_
  refine j_cond rfl (fun hb => ?_) (fun hb => ?_)
  · have h3 := cT h2 hb
    refine go hΓ 9 rfl ?_
    obtain rfl := Option.some.inj h3
    exact fin_objs hΓ [] (.inr rfl) rfl rfl rfl rfl (.inl rfl)
  · have h4 := cF h2 hb
    obtain ⟨y5, hy5, h6⟩ := bi_ok h4
    refine go hΓ 6 rfl ?_
    refine eo_callP (callable Tryz.func58 rfl rfl) (c_route_momentFault hy5) rfl (Nat.le_of_ble_eq_true rfl) rfl rfl rfl rfl rfl ?_
    refine go_ops hΓ 9 rfl ?_
    refine j_cond rfl (fun hb => ?_) (fun hb => ?_)
    · have h7 := cT h6 hb
      refine go hΓ 9 rfl ?_
      obtain rfl := Option.some.inj h7
      exact fin_objs hΓ [] (.inr rfl) rfl rfl rfl rfl (.inl rfl)
    · have h8 := cF h6 hb
      obtain ⟨y9, hy9, h10⟩ := bi_ok h8
      refine go hΓ 7 rfl ?_
      refine eo_callF [0] (.sl 1 y9.1.length) [.bag y9.2, .row 44 5 y9.1.length (y9.1.flatMap e_api_Lead)] (callable Tryz.func59 rfl rfl) (c_route_firsts hy9) rfl (Nat.le_of_ble_eq_true rfl) rfl rfl rfl rfl rfl rfl rfl rfl rfl rfl ?_
      refine eo_shr 1 [24] _ [.bag y9.2, .dead] rfl rfl rfl (Nat.le_of_ble_eq_true rfl) ?_
      refine go_ops hΓ 5 rfl ?_
      obtain rfl := Option.some.inj h10
      exact fin_objs hΓ [_] (.inr rfl) rfl rfl rfl rfl (.inr ⟨HB.mk rfl, rfl⟩)
theorem c_span_Contains {p : T_api_Prefix} {a : T_api_Addr} {r : Bool} (h : m_span_Contains p a = some r) : Pure Tryz.prog 61 [.agg [B p.Addr.Six, .d (.v (.int .u64 p.Addr.Hi)), .d (.v (.int .u64 p.Addr.Lo)), I p.Bits], .agg [B a.Six, .d (.v (.int .u64 a.Hi)), .d (.v (.int .u64 a.Lo))]] (B r) := by
  refine Pure.enter (Fr.of 0 _) Tryz.func61 rfl (Fr.of_ok _) rfl rfl ?_
  refine go_in ?_
  unfold m_span_Contains at h
  refine go hΓ 2 rfl ?_
  refine eo_box rfl rfl rfl rfl (Nat.le_of_ble_eq_true rfl) ?_
  refine eo_box rfl rfl rfl rfl (Nat.le_of_ble_eq_true rfl) ?_
  obtain ⟨q1, hq1, h2⟩ := bi_ok h
  refine go_ops hΓ 4 rfl ?_
  refine j_cutNZ [(4, B q1)] [.box 42 [B p.Addr.Six, .d (.v (.int .u64 p.Addr.Hi)), .d (.v (.int .u64 p.Addr.Lo)), I p.Bits], .box 34 [B a.Six, .d (.v (.int .u64 a.Hi)), .d (.v (.int .u64 a.Lo))]] ?_ ?_
  · refine j_draw hmix (by kernel_rfl) ?_
    refine go hΓ 7 rfl ?_
    refine gl_gsplit rfl rfl (fun hb => ?_) (fun hb => ?_)
    · have h3 := cT hq1 hb
      obtain ⟨y4, hy4, h5⟩ := bi_ok h3
      refine go_draw hΓ 3 rfl ?_
      refine gl_callPg (callable Tryz.func116 rfl rfl) (c_span_Masked hy4) rfl rfl rfl rfl rfl rfl rfl ?_
      refine go_draw hΓ 2 rfl ?_
      refine gl_og rfl rfl (op_eqS hΓ [34] (b := (((y4.Six : Bool) == p.Addr.Six) && (((y4.Hi : Int) == p.Addr.Hi) && (((y4.Lo : Int) == p.Addr.Lo) && true)))) (by kernel_rfl) (by kernel_rfl) rfl rfl rfl) ?_
      refine go_draw hΓ 3 rfl ?_
      obtain rfl := Option.some.inj h5
      exact ⟨⟨rfl, trivial⟩, [], rfl, .inl rfl⟩
    · have h6 := cF hq1 hb
      refine go_draw hΓ 10 rfl ?_
      obtain rfl := Option.some.inj h6
      exact ⟨⟨rfl, trivial⟩, [], rfl, .inl rfl⟩
  · refine go hΓ 2 rfl ?_
    obtain rfl := Option.some.inj h2
    exact fin_pure hΓ (.inr rfl) rfl rfl
theorem c_route_Way {k : Nat} {v_r : List T_api_Router} {l : List T_api_Health} {a : T_api_Addr} {v_at : Int} {al : List Bool} {r : T_api_Lead × Bool × Int × (List Bool)} (h : m_route_Way k v_r l a v_at al = some r) : EC Tryz.prog 13 [.d (Sl e_api_Router v_r), .d (Sl e_api_Health l), .agg [B a.Six, .d (.v (.int .u64 a.Hi)), .d (.v (.int .u64 a.Lo))], I v_at] [.bag al] fun g hp' => g = .tup [.agg [B r.1.Prefix.Addr.Six, .d (.v (.int .u64 r.1.Prefix.Addr.Hi)), .d (.v (.int .u64 r.1.Prefix.Addr.Lo)), I r.1.Prefix.Bits, S r.1.Node], B r.2.1, I r.2.2.1] ∧ hp' = [.bag r.2.2.2] := by
  refine ec_enter (Fr.of 0 _) Tryz.func13 rfl (Fr.of_ok _) (Nat.le_of_ble_eq_true rfl) fun _ => ?_
  refine go_in ?_
  unfold m_route_Way at h
  refine go hΓ 2 rfl ?_
  refine eo_box rfl rfl rfl rfl (Nat.le_of_ble_eq_true rfl) ?_
  refine eo_alloc hΓ rfl rfl rfl (Nat.le_of_ble_eq_true rfl) ?_
  obtain ⟨y1, hy1, h2⟩ := bi_ok h
  refine go_ops hΓ 9 rfl ?_
  refine eo_callP (callable Tryz.func57 rfl rfl) (c_route_routersFault hy1) rfl (Nat.le_of_ble_eq_true rfl) rfl rfl rfl rfl rfl ?_
  refine go_ops hΓ 9 rfl ?_
  refine j_cond rfl (fun hb => ?_) (fun hb => ?_)
  · have h3 := cT h2 hb
    refine go hΓ 2 rfl ?_
    refine eo_build hΓ (gs := [B false, .d (.v (.int .u64 0)), .d (.v (.int .u64 0)), I 0, S []]) rfl rfl rfl rfl rfl rfl rfl ?_
    refine go_ops hΓ 1 rfl ?_
    refine eo_store hΓ rfl rfl rfl rfl rfl rfl rfl rfl (Nat.le_of_ble_eq_true rfl) ?_
    refine eo_hp [.bag al, .box 34 [B a.Six, .d (.v (.int .u64 a.Hi)), .d (.v (.int .u64 a.Lo))], .box 44 [B false, .d (.v (.int .u64 0)), .d (.v (.int .u64 0)), I 0, S []]] rfl ?_
    refine go_ops hΓ 6 rfl ?_
    obtain rfl := Option.some.inj h3
    exact fin_objs hΓ [_, _] (.inr rfl) rfl rfl rfl rfl (.inr ⟨HB.mk rfl, rfl⟩)
  · have h4 := cF h2 hb
    obtain ⟨y5, hy5, h6⟩ := bi_ok h4
    refine go hΓ 6 rfl ?_
    refine eo_callP (callable Tryz.func60 rfl rfl) (c_addr_CheckAddr hy5) rfl (Nat.le_of_ble_eq_true rfl) rfl rfl rfl rfl rfl ?_
    refine go_ops hΓ 9 rfl ?_
    refine j_cond rfl (fun hb => ?_) (fun hb => ?_)
    · have h7 := cT h6 hb
      refine go hΓ 2 rfl ?_
      refine eo_build hΓ (gs := [B false, .d (.v (.int .u64 0)), .d (.v (.int .u64 0)), I 0, S []]) rfl rfl rfl rfl rfl rfl rfl ?_
      refine go_ops hΓ 1 rfl ?_
      refine eo_store hΓ rfl rfl rfl rfl rfl rfl rfl rfl (Nat.le_of_ble_eq_true rfl) ?_
      refine eo_hp [.bag al, .box 34 [B a.Six, .d (.v (.int .u64 a.Hi)), .d (.v (.int .u64 a.Lo))], .box 44 [B false, .d (.v (.int .u64 0)), .d (.v (.int .u64 0)), I 0, S []]] rfl ?_
      refine go_ops hΓ 6 rfl ?_
      obtain rfl := Option.some.inj h7
      exact fin_objs hΓ [_, _] (.inr rfl) rfl rfl rfl rfl (.inr ⟨HB.mk rfl, rfl⟩)
    · have h8 := cF h6 hb
      obtain ⟨y9, hy9, h10⟩ := bi_ok h8
      refine go hΓ 6 rfl ?_
      refine eo_callP (callable Tryz.func58 rfl rfl) (c_route_momentFault hy9) rfl (Nat.le_of_ble_eq_true rfl) rfl rfl rfl rfl rfl ?_
      refine go_ops hΓ 9 rfl ?_
      refine j_cond rfl (fun hb => ?_) (fun hb => ?_)
      · have h11 := cT h10 hb
        refine go hΓ 2 rfl ?_
        refine eo_build hΓ (gs := [B false, .d (.v (.int .u64 0)), .d (.v (.int .u64 0)), I 0, S []]) rfl rfl rfl rfl rfl rfl rfl ?_
        refine go_ops hΓ 1 rfl ?_
        refine eo_store hΓ rfl rfl rfl rfl rfl rfl rfl rfl (Nat.le_of_ble_eq_true rfl) ?_
        refine eo_hp [.bag al, .box 34 [B a.Six, .d (.v (.int .u64 a.Hi)), .d (.v (.int .u64 a.Lo))], .box 44 [B false, .d (.v (.int .u64 0)), .d (.v (.int .u64 0)), I 0, S []]] rfl ?_
        refine go_ops hΓ 6 rfl ?_
        obtain rfl := Option.some.inj h11
        exact fin_objs hΓ [_, _] (.inr rfl) rfl rfl rfl rfl (.inr ⟨HB.mk rfl, rfl⟩)
      · have h12 := cF h10 hb
        refine go hΓ 4 rfl ?_
        refine eo_build hΓ (gs := [B false, .d (.v (.int .u64 0)), .d (.v (.int .u64 0)), I 0, S []]) rfl rfl rfl rfl rfl rfl rfl ?_
        refine eo_alloc hΓ rfl rfl rfl (Nat.le_of_ble_eq_true rfl) ?_
        refine eo_store hΓ rfl rfl rfl rfl rfl rfl rfl rfl (Nat.le_of_ble_eq_true rfl) ?_
        refine eo_hp [.bag al, .box 34 [B a.Six, .d (.v (.int .u64 a.Hi)), .d (.v (.int .u64 a.Lo))], .box 44 [B false, .d (.v (.int .u64 0)), .d (.v (.int .u64 0)), I 0, S []], .box 44 [B false, .d (.v (.int .u64 0)), .d (.v (.int .u64 0)), I 0, S []]] rfl ?_
        obtain ⟨y13, hy13, h14⟩ := bi_ok h12
        refine go_ops hΓ 9 rfl ?_
        refine eo_callF [0] (.sl 4 y13.1.length) [.bag y13.2, .box 34 [B a.Six, .d (.v (.int .u64 a.Hi)), .d (.v (.int .u64 a.Lo))], .box 44 [B false, .d (.v (.int .u64 0)), .d (.v (.int .u64 0)), I 0, S []], .box 44 [B false, .d (.v (.int .u64 0)), .d (.v (.int .u64 0)), I 0, S []], .row 44 5 y13.1.length (y13.1.flatMap e_api_Lead)] (callable Tryz.func59 rfl rfl) (c_route_firsts hy13) rfl (Nat.le_of_ble_eq_true rfl) rfl rfl rfl rfl rfl rfl rfl rfl rfl rfl ?_
        refine eo_shr 4 [41] _ [.bag y13.2, .box 34 [B a.Six, .d (.v (.int .u64 a.Hi)), .d (.v (.int .u64 a.Lo))], .box 44 [B false, .d (.v (.int .u64 0)), .d (.v (.int .u64 0)), I 0, S []], .box 44 [B false, .d (.v (.int .u64 0)), .d (.v (.int .u64 0)), I 0, S []], .dead] rfl rfl rfl (Nat.le_of_ble_eq_true rfl) ?_
        refine go_ops hΓ 4 rfl ?_
        obtain ⟨q18, hq18, h19⟩ := bi_ok h14
        refine j_bound 41 rfl fun hb21 => ?_
        refine j_cutNZ [(8, .ptr 2 0), (14, .ptr 3 0), (15, B q18.2)] [.bag y13.2, .box 34 [B a.Six, .d (.v (.int .u64 a.Hi)), .d (.v (.int .u64 a.Lo))], .box 44 [B false, .d (.v (.int .u64 0)), .d (.v (.int .u64 0)), I 0, S []], .box 44 [B q18.1.Prefix.Addr.Six, .d (.v (.int .u64 q18.1.Prefix.Addr.Hi)), .d (.v (.int .u64 q18.1.Prefix.Addr.Lo)), I q18.1.Prefix.Bits, S q18.1.Node], .dead] ?_ ?_
        · refine go hΓ 1 rfl ?_
          refine j_rangeF y13.1 hq18 (fun i15 s16 => [(6, .ptr 1 0), (8, .ptr 2 0), (14, .ptr 3 0), (15, B s16.2), (41, .d (Sl e_api_Lead y13.1)), (42, I (y13.1.length : Int)), (43, I (i15 : Int))]) (fun s16 => [.bag y13.2, .box 34 [B a.Six, .d (.v (.int .u64 a.Hi)), .d (.v (.int .u64 a.Lo))], .box 44 [B false, .d (.v (.int .u64 0)), .d (.v (.int .u64 0)), I 0, S []], .box 44 [B s16.1.Prefix.Addr.Six, .d (.v (.int .u64 s16.1.Prefix.Addr.Hi)), .d (.v (.int .u64 s16.1.Prefix.Addr.Lo)), I s16.1.Prefix.Bits, S s16.1.Node], .dead]) ⟨⟨rfl, rfl, rfl, rfl, rfl, rfl, rfl, trivial⟩, [], rfl, .inl rfl⟩ (fun i15 x17 s16 y25 hx22 hlt hy23 => ?_) (?_)
          · refine go hΓ 6 rfl ?_
            refine j_condT rfl (decide_eq_true (Int.ofNat_lt.2 hlt)) ?_
            refine go hΓ 6 rfl ?_
            refine eo_o rfl (op_elemZ hΓ (enc := e_api_Lead) (getZ_nat hx22) rfl rfl rfl rfl rfl (fun _ => rfl)) ?_
            refine go_ops hΓ 1 rfl ?_
            refine eo_alloc hΓ rfl rfl rfl (Nat.le_of_ble_eq_true rfl) ?_
            refine eo_store hΓ rfl rfl rfl rfl rfl rfl rfl rfl (Nat.le_of_ble_eq_true rfl) ?_
            refine eo_hp [.bag y13.2, .box 34 [B a.Six, .d (.v (.int .u64 a.Hi)), .d (.v (.int .u64 a.Lo))], .box 44 [B false, .d (.v (.int .u64 0)), .d (.v (.int .u64 0)), I 0, S []], .box 44 [B s16.1.Prefix.Addr.Six, .d (.v (.int .u64 s16.1.Prefix.Addr.Hi)), .d (.v (.int .u64 s16.1.Prefix.Addr.Lo)), I s16.1.Prefix.Bits, S s16.1.Node], .dead, .box 44 [B x17.Prefix.Addr.Six, .d (.v (.int .u64 x17.Prefix.Addr.Hi)), .d (.v (.int .u64 x17.Prefix.Addr.Lo)), I x17.Prefix.Bits, S x17.Node]] rfl ?_
            obtain ⟨y26, hy26, h27⟩ := bi_ok hy23
            refine go_ops hΓ 7 rfl ?_
            refine eo_callP (callable Tryz.func61 rfl rfl) (c_span_Contains hy26) rfl (Nat.le_of_ble_eq_true rfl) rfl rfl rfl rfl rfl ?_
            refine go_ops hΓ 1 rfl ?_
            refine o_cut 12 [(6, .ptr 1 0), (8, .ptr 2 0), (14, .ptr 3 0), (15, B s16.2), (17, .ptr 5 0), (41, .d (Sl e_api_Lead y13.1)), (42, I (y13.1.length : Int)), (43, I (i15 : Int)), (63, B (y26 && ((!s16.2) || (decide ((x17.Prefix.Bits : Int) > s16.1.Prefix.Bits)))))] [.bag y13.2, .box 34 [B a.Six, .d (.v (.int .u64 a.Hi)), .d (.v (.int .u64 a.Lo))], .box 44 [B false, .d (.v (.int .u64 0)), .d (.v (.int .u64 0)), I 0, S []], .box 44 [B s16.1.Prefix.Addr.Six, .d (.v (.int .u64 s16.1.Prefix.Addr.Hi)), .d (.v (.int .u64 s16.1.Prefix.Addr.Lo)), I s16.1.Prefix.Bits, S s16.1.Node], .dead, .box 44 [B x17.Prefix.Addr.Six, .d (.v (.int .u64 x17.Prefix.Addr.Hi)), .d (.v (.int .u64 x17.Prefix.Addr.Lo)), I x17.Prefix.Bits, S x17.Node]] ?_ ?_
            · refine eo_gsplit rfl rfl (fun hb => ?_) (fun hb => ?_)
              · refine go_ops hΓ 3 rfl ?_
                refine o_cut 8 [(6, .ptr 1 0), (8, .ptr 2 0), (14, .ptr 3 0), (15, B s16.2), (17, .ptr 5 0), (41, .d (Sl e_api_Lead y13.1)), (42, I (y13.1.length : Int)), (43, I (i15 : Int)), (51, B true), (62, B ((!s16.2) || (decide ((x17.Prefix.Bits : Int) > s16.1.Prefix.Bits))))] [.bag y13.2, .box 34 [B a.Six, .d (.v (.int .u64 a.Hi)), .d (.v (.int .u64 a.Lo))], .box 44 [B false, .d (.v (.int .u64 0)), .d (.v (.int .u64 0)), I 0, S []], .box 44 [B s16.1.Prefix.Addr.Six, .d (.v (.int .u64 s16.1.Prefix.Addr.Hi)), .d (.v (.int .u64 s16.1.Prefix.Addr.Lo)), I s16.1.Prefix.Bits, S s16.1.Node], .dead, .box 44 [B x17.Prefix.Addr.Six, .d (.v (.int .u64 x17.Prefix.Addr.Hi)), .d (.v (.int .u64 x17.Prefix.Addr.Lo)), I x17.Prefix.Bits, S x17.Node]] ?_ ?_
                · refine eo_gsplit rfl rfl (fun hb => ?_) (fun hb => ?_)
                  · refine go_ops hΓ 9 rfl ?_
                    exact ⟨⟨rfl, rfl, rfl, rfl, rfl, rfl, rfl, rfl, rfl, get_b rfl (or_t hb), trivial⟩, [], rfl, .inl rfl⟩
                  · refine go_ops hΓ 9 rfl ?_
                    exact ⟨⟨rfl, rfl, rfl, rfl, rfl, rfl, rfl, rfl, rfl, get_b rfl (or_f hb), trivial⟩, [], rfl, .inl rfl⟩
                · refine go_ops hΓ 2 rfl ?_
                  exact ⟨⟨rfl, rfl, rfl, rfl, rfl, rfl, rfl, rfl, get_b rfl (and_t hb), trivial⟩, [], rfl, .inl rfl⟩
              · refine go_ops hΓ 13 rfl ?_
                exact ⟨⟨rfl, rfl, rfl, rfl, rfl, rfl, rfl, rfl, get_b rfl (and_f hb), trivial⟩, [], rfl, .inl rfl⟩
            · refine go_ops hΓ 2 rfl ?_
              refine j_cond rfl (fun hb => ?_) (fun hb => ?_)
              · have h28 := cT h27 hb
                refine go hΓ 2 rfl ?_
                refine eo_store hΓ rfl rfl rfl rfl rfl rfl rfl rfl (Nat.le_of_ble_eq_true rfl) ?_
                refine eo_hp [.bag y13.2, .box 34 [B a.Six, .d (.v (.int .u64 a.Hi)), .d (.v (.int .u64 a.Lo))], .box 44 [B false, .d (.v (.int .u64 0)), .d (.v (.int .u64 0)), I 0, S []], .box 44 [B x17.Prefix.Addr.Six, .d (.v (.int .u64 x17.Prefix.Addr.Hi)), .d (.v (.int .u64 x17.Prefix.Addr.Lo)), I x17.Prefix.Bits, S x17.Node], .dead, .box 44 [B x17.Prefix.Addr.Six, .d (.v (.int .u64 x17.Prefix.Addr.Hi)), .d (.v (.int .u64 x17.Prefix.Addr.Lo)), I x17.Prefix.Bits, S x17.Node]] rfl ?_
                refine go_ops hΓ 8 rfl ?_
                obtain rfl := Option.some.inj h28
                exact ⟨⟨rfl, rfl, rfl, rfl, rfl, rfl, get_eq rfl (w64_succ (Nat.lt_of_lt_of_le hlt hb21)), trivial⟩, [_], rfl, .inr ⟨HB.mk rfl, FB.mk rfl, (Nat.le_of_ble_eq_true rfl)⟩⟩
              · have h29 := cF h27 hb
                refine go hΓ 7 rfl ?_
                obtain rfl := Option.some.inj h29
                exact ⟨⟨rfl, rfl, rfl, rfl, rfl, rfl, get_eq rfl (w64_succ (Nat.lt_of_lt_of_le hlt hb21)), trivial⟩, [_], rfl, .inr ⟨HB.mk rfl, FB.mk rfl, (Nat.le_of_ble_eq_true rfl)⟩⟩
          · refine go hΓ 6 rfl ?_
            refine j_condF rfl (decide_eq_false (Int.lt_irrefl _)) ?_
            refine go hΓ 4 rfl ?_
            exact ⟨⟨rfl, rfl, rfl, trivial⟩, [], rfl, .inl rfl⟩
        · refine go hΓ 5 rfl ?_
          refine eo_store hΓ rfl rfl rfl rfl rfl rfl rfl rfl (Nat.le_of_ble_eq_true rfl) ?_
          refine eo_hp [.bag y13.2, .box 34 [B a.Six, .d (.v (.int .u64 a.Hi)), .d (.v (.int .u64 a.Lo))], .box 44 [B q18.1.Prefix.Addr.Six, .d (.v (.int .u64 q18.1.Prefix.Addr.Hi)), .d (.v (.int .u64 q18.1.Prefix.Addr.Lo)), I q18.1.Prefix.Bits, S q18.1.Node], .box 44 [B q18.1.Prefix.Addr.Six, .d (.v (.int .u64 q18.1.Prefix.Addr.Hi)), .d (.v (.int .u64 q18.1.Prefix.Addr.Lo)), I q18.1.Prefix.Bits, S q18.1.Node], .dead] rfl ?_
          refine go_ops hΓ 5 rfl ?_
          obtain rfl := Option.some.inj h19
          exact fin_objs hΓ [_, _, _, _] (.inr rfl) rfl rfl rfl rfl (.inr ⟨HB.mk rfl, rfl⟩)
theorem c_slices_Clone_api_Router_api_Router {s : List T_api_Router} {r : List T_api_Router} (h : m_slices_Clone_api_Router_api_Router s = some r) : EC Tryz.prog 63 [.d (Sl e_api_Router s)] [] fun g hp' => g = .sl 0 r.length ∧ hp' = [.row 69 6 r.length (r.flatMap e_api_Router)] := by
  refine ec_enterC (Fr.of 0 _) Tryz.func63 rfl (Fr.of_ok _) (Nat.le_of_ble_eq_true rfl) fun _ => ?_
  refine go_in ?_
  unfold m_slices_Clone_api_Router_api_Router at h
  refine go hΓ 2 rfl ?_
  refine eo_nilOwn (t := 0) 69 6 rfl (Nat.le_of_ble_eq_true rfl) ?_
  refine go_ops hΓ 6 rfl ?_
  refine eo_isNil hΓ rfl rfl rfl rfl rfl fun b hbn => ?_
  rcases b with _ | _
  · refine go_ops hΓ 7 rfl ?_
    refine eo_litRowT hΓ (enc := e_api_Router) ([] : List T_api_Router) rfl rfl rfl rfl rfl rfl rfl rfl rfl rfl rfl rfl (Nat.le_of_ble_eq_true rfl) ?_
    obtain ⟨y1, hy1, h2⟩ := bi_ok h
    refine go_ops hΓ 1 rfl ?_
    refine eo_appendT hΓ (enc := e_api_Router) hy1 rfl rfl rfl rfl rfl rfl rfl rfl rfl (fun _ => rfl) rfl rfl rfl rfl ?_
    refine go_ops hΓ 4 rfl ?_
    refine cv_kill 0 [.dead, .row 69 6 y1.length (y1.flatMap e_api_Router)] rfl (Nat.le_of_ble_eq_true rfl) ?_
    refine cv_move 1 0 [.row 69 6 y1.length (y1.flatMap e_api_Router), .dead] rfl rfl rfl rfl rfl rfl ?_
    refine cv_here ?_
    obtain rfl := Option.some.inj h2
    exact fin_objs hΓ [_] (.inr rfl) rfl rfl rfl rfl (.inr ⟨HB.mk rfl, rfl⟩)
  · obtain rfl := List.eq_nil_of_length_eq_zero (hbn rfl).1
    replace h : (some ([] : List T_api_Router) : Option (List T_api_Router)) = some r := h
    refine go_ops hΓ 5 rfl ?_
    refine eo_nilOwn (t := 0) 69 6 rfl (Nat.le_of_ble_eq_true rfl) ?_
    refine go_ops hΓ 4 rfl ?_
    refine cv_kill 0 [.dead, .row 69 6 ([] : List T_api_Router).length (([] : List T_api_Router).flatMap e_api_Router)] rfl (Nat.le_of_ble_eq_true rfl) ?_
    refine cv_move 1 0 [.row 69 6 ([] : List T_api_Router).length (([] : List T_api_Router).flatMap e_api_Router), .dead] rfl rfl rfl rfl rfl rfl ?_
    refine cv_here ?_
    obtain rfl := Option.some.inj h
    exact fin_objs hΓ [_] (.inr rfl) rfl rfl rfl rfl (.inr ⟨HB.mk rfl, rfl⟩)
theorem c_route_isUp {l : List T_api_Health} {node : Str} {v_at : Int} {r : Bool} (h : m_route_isUp l node v_at = some r) : Pure Tryz.prog 65 [.d (Sl e_api_Health l), S node, I v_at] (B r) := by
  refine Pure.enter (Fr.of 0 _) Tryz.func65 rfl (Fr.of_ok _) rfl rfl ?_
  refine go_in ?_
  unfold m_route_isUp at h
  refine go hΓ 18 rfl ?_
  obtain ⟨q4, hq4, h5⟩ := bi_ok h
  refine j_bound 10 rfl fun hb7 => ?_
  obtain ⟨q8, hq8, h9⟩ := bi_ok h5
  refine j_cutNZ [(7, B q8)] [] ?_ ?_
  · refine go hΓ 1 rfl ?_
    refine j_range l hq4 (fun i1 s2 => [(1, S node), (2, I v_at), (7, B s2), (10, .d (Sl e_api_Health l)), (11, I (l.length : Int)), (12, I (i1 : Int))]) (fun s2 => []) ⟨⟨rfl, rfl, rfl, rfl, rfl, rfl, trivial⟩, [], rfl, .inl rfl⟩ (fun i1 x3 s2 y13 hx10 hlt hy11 hout12 => ?_) (fun s2 hgo => ?_)
    · refine go hΓ 6 rfl ?_
      refine j_condT rfl (decide_eq_true (Int.ofNat_lt.2 hlt)) ?_
      refine go hΓ 6 rfl ?_
      refine eo_o rfl (op_elemZ hΓ (enc := e_api_Health) (getZ_nat hx10) rfl rfl rfl rfl rfl (fun _ => rfl)) ?_
      refine go_ops hΓ 1 rfl ?_
      refine eo_alloc hΓ rfl rfl rfl (Nat.le_of_ble_eq_true rfl) ?_
      refine eo_store hΓ rfl rfl rfl rfl rfl rfl rfl rfl (Nat.le_of_ble_eq_true rfl) ?_
      refine eo_hp [.box 103 [I x3.At, S x3.Node, B x3.Up]] rfl ?_
      refine go_ops hΓ 11 rfl ?_
      refine j_cond rfl (fun hb => ?_) (fun hb => ?_)
      · have h14 := cT hy11 hb
        refine go hΓ 6 rfl ?_
        obtain rfl := Option.some.inj h14
        obtain rfl := hout12 _ rfl
        obtain rfl := Option.some.inj hq8
        exact ⟨⟨rfl, trivial⟩, [_], rfl, .inr ⟨HB.mk rfl, FB.mk rfl, (Nat.le_of_ble_eq_true rfl)⟩⟩
      · have h15 := cF hy11 hb
        refine go hΓ 10 rfl ?_
        refine j_cond rfl (fun hb => ?_) (fun hb => ?_)
        · have h16 := cT h15 hb
          refine go hΓ 11 rfl ?_
          obtain rfl := Option.some.inj h16
          exact ⟨_, rfl, ⟨⟨rfl, rfl, rfl, rfl, rfl, get_eq rfl (w64_succ (Nat.lt_of_lt_of_le hlt hb7)), trivial⟩, [_], rfl, .inr ⟨HB.mk rfl, FB.mk rfl, (Nat.le_of_ble_eq_true rfl)⟩⟩⟩
        · have h17 := cF h15 hb
          refine go hΓ 7 rfl ?_
          obtain rfl := Option.some.inj h17
          exact ⟨_, rfl, ⟨⟨rfl, rfl, rfl, rfl, rfl, get_eq rfl (w64_succ (Nat.lt_of_lt_of_le hlt hb7)), trivial⟩, [_], rfl, .inr ⟨HB.mk rfl, FB.mk rfl, (Nat.le_of_ble_eq_true rfl)⟩⟩⟩
    · subst hgo
      refine go hΓ 6 rfl ?_
      refine j_condF rfl (decide_eq_false (Int.lt_irrefl _)) ?_
      refine go hΓ 4 rfl ?_
      obtain rfl := Option.some.inj hq8
      exact ⟨⟨rfl, trivial⟩, [], rfl, .inl rfl⟩
  · refine go hΓ 8 rfl ?_
    obtain rfl := Option.some.inj h9
    exact fin_pure hΓ (.inr rfl) rfl rfl
theorem c_route_Exits_1 {x : T_api_Router} {x2 : Bool} {x3 : List T_api_Health} {x4 : Int} {r : Bool} (h : m_route_Exits_1 x x2 x3 x4 = some r) : EC Tryz.prog 64 [.agg [B x.Prefix.Addr.Six, .d (.v (.int .u64 x.Prefix.Addr.Hi)), .d (.v (.int .u64 x.Prefix.Addr.Lo)), I x.Prefix.Bits, S x.Node, I x.Weight], .ptr 0 0, .ptr 1 0, .ptr 2 0] [.box 4 [B x2], .box 28 [.d (Sl e_api_Health x3)], .box 3 [I x4]] fun g hp' => g = B r ∧ hp' = [.box 4 [B x2], .box 28 [.d (Sl e_api_Health x3)], .box 3 [I x4]] := by
  refine ec_enter (Fr.of 0 _) Tryz.func64 rfl (Fr.of_ok _) (Nat.le_of_ble_eq_true rfl) fun _ => ?_
  refine go_in ?_
  unfold m_route_Exits_1 at h
  refine go hΓ 2 rfl ?_
  refine eo_box rfl rfl rfl rfl (Nat.le_of_ble_eq_true rfl) ?_
  refine go_ops hΓ 8 rfl ?_
  refine eo_build hΓ (gs := [B x2, .d (.v (.int .u64 0)), .d (.v (.int .u64 0))]) rfl rfl rfl rfl rfl rfl rfl ?_
  refine eo_build hΓ (gs := [B x2, .d (.v (.int .u64 0)), .d (.v (.int .u64 0)), I 0]) rfl rfl rfl rfl rfl rfl rfl ?_
  refine eo_o rfl (op_neS hΓ [42, 34] (b := ((((x.Prefix.Addr.Six : Bool) == x2) && (((x.Prefix.Addr.Hi : Int) == 0) && (((x.Prefix.Addr.Lo : Int) == 0) && true))) && (((x.Prefix.Bits : Int) == 0) && true))) (by kernel_rfl) (by kernel_rfl) rfl rfl rfl) ?_
  refine go_ops hΓ 1 rfl ?_
  obtain ⟨q1, hq1, h2⟩ := bi_ok h
  refine o_cut 7 [(5, B false), (19, B q1)] [.box 4 [B x2], .box 28 [.d (Sl e_api_Health x3)], .box 3 [I x4], .box 69 [B x.Prefix.Addr.Six, .d (.v (.int .u64 x.Prefix.Addr.Hi)), .d (.v (.int .u64 x.Prefix.Addr.Lo)), I x.Prefix.Bits, S x.Node, I x.Weight]] ?_ ?_
  · refine eo_gsplit rfl rfl (fun hb => ?_) (fun hb => ?_)
    · have h3 := cT hq1 hb
      refine go_ops hΓ 8 rfl ?_
      obtain rfl := Option.some.inj h3
      exact ⟨⟨rfl, rfl, trivial⟩, [], rfl, .inl rfl⟩
    · have h4 := cF hq1 hb
      obtain ⟨y5, hy5, h6⟩ := bi_ok h4
      refine go_ops hΓ 4 rfl ?_
      refine eo_guard rfl ?_
      refine eo_callP (callable Tryz.func65 rfl rfl) (c_route_isUp hy5) rfl (Nat.le_of_ble_eq_true rfl) rfl rfl rfl rfl rfl ?_
      refine go_ops hΓ 3 rfl ?_
      obtain rfl := Option.some.inj h6
      exact ⟨⟨rfl, rfl, trivial⟩, [], rfl, .inl rfl⟩
  · refine go_ops hΓ 4 rfl ?_
    obtain rfl := Option.some.inj h2
    exact fin_objs hΓ [_] (.inr rfl) rfl rfl rfl rfl (.inr ⟨HB.mk rfl, rfl⟩)
theorem c_slices_IndexFunc_api_Router_api_Router {s : List T_api_Router} {f : Bool} {f2 : List T_api_Health} {f3 : Int} {r : Int} (h : m_slices_IndexFunc_api_Router_api_Router s f f2 f3 = some r) : EC Tryz.prog 117 [.sl 0 s.length, .fn (.func 64) [] [.ptr 1 0, .ptr 2 0, .ptr 3 0]] [.row 69 6 s.length (s.flatMap e_api_Router), .box 4 [B f], .box 28 [.d (Sl e_api_Health f2)], .box 3 [I f3]] fun g hp' => g = I r ∧ hp' = [.row 69 6 s.length (s.flatMap e_api_Router), .box 4 [B f], .box 28 [.d (Sl e_api_Health f2)], .box 3 [I f3]] := by
  refine ec_enter (Fr.of 0 _) Tryz.func117 rfl (Fr.of_ok _) (Nat.le_of_ble_eq_true rfl) fun _ => ?_
  refine go_in ?_
  unfold m_slices_IndexFunc_api_Router_api_Router at h
  refine go hΓ 13 rfl ?_
  obtain ⟨q4, hq4, h5⟩ := bi_ok h
  obtain ⟨hb7, h8⟩ := gd_ok hq4
  replace hb7 := of_decide_eq_true hb7
  refine j_cutEZ (R := fun a6 => q4 = .go a6) (fun a6 => []) (fun a6 => [.row 69 6 s.length (s.flatMap e_api_Router), .box 4 [B f], .box 28 [.d (Sl e_api_Health f2)], .box 3 [I f3]]) ?_ ?_
  · refine go hΓ 1 rfl ?_
    refine j_rangeI h8 (fun i1 s2 => [(0, .sl 0 s.length), (1, .fn (.func 64) [] [.ptr 1 0, .ptr 2 0, .ptr 3 0]), (7, I (s.length : Int)), (8, I (i1 : Int))]) (fun s2 => [.row 69 6 s.length (s.flatMap e_api_Router), .box 4 [B f], .box 28 [.d (Sl e_api_Health f2)], .box 3 [I f3]]) ⟨⟨rfl, rfl, rfl, rfl, trivial⟩, [], rfl, .inl rfl⟩ (fun i1 s2 y12 hlt hy10 hout11 => ?_) (fun s2 hgo hge => ?_)
    · refine go hΓ 6 rfl ?_
      refine j_condT rfl (decide_eq_true hlt) ?_
      obtain ⟨x13, hx13, h14⟩ := bi_ok hy10
      have hj15 := getZ_at hx13
      refine go hΓ 15 rfl ?_
      refine eo_o rfl (op_elemRowZ hΓ hx13 rfl rfl rfl rfl rfl rfl) ?_
      refine eo_o rfl (op_loadRowZ hΓ (enc := e_api_Router) ((i1 : Int).toNat) 0 hj15 rfl rfl rfl rfl (fun _ => rfl) (g := .agg [B x13.Prefix.Addr.Six, .d (.v (.int .u64 x13.Prefix.Addr.Hi)), .d (.v (.int .u64 x13.Prefix.Addr.Lo)), I x13.Prefix.Bits, S x13.Node, I x13.Weight]) rfl) ?_
      obtain ⟨y16, hy16, h17⟩ := bi_ok h14
      refine eo_callF [1, 2, 3] (B y16) [.row 69 6 s.length (s.flatMap e_api_Router), .box 4 [B f], .box 28 [.d (Sl e_api_Health f2)], .box 3 [I f3]] (callable Tryz.func64 rfl rfl) (c_route_Exits_1 hy16) rfl (Nat.le_of_ble_eq_true rfl) rfl rfl rfl rfl rfl rfl rfl rfl rfl rfl ?_
      refine go_ops hΓ 2 rfl ?_
      refine j_cond rfl (fun hb => ?_) (fun hb => ?_)
      · have h18 := cT h17 hb
        refine go hΓ 9 rfl ?_
        obtain ⟨v19, hv19, h20⟩ := bi_ok h18
        obtain rfl := Option.some.inj h20
        obtain rfl := hout11 _ rfl
        obtain rfl := Option.some.inj h5
        refine go hΓ 4 rfl ?_
        obtain rfl := Option.some.inj hv19
        exact fin_objs hΓ [] (.inr rfl) rfl rfl rfl rfl (.inl rfl)
      · have h21 := cF h17 hb
        refine go hΓ 7 rfl ?_
        obtain rfl := Option.some.inj h21
        exact ⟨_, rfl, ⟨⟨rfl, rfl, rfl, get_eq rfl (w64_succ (by omega)), trivial⟩, [], rfl, .inl rfl⟩⟩
    · subst hgo
      refine go hΓ 6 rfl ?_
      refine j_condF rfl (decide_eq_false hge) ?_
      refine go hΓ 4 rfl ?_
      exact ⟨_, rfl, ⟨trivial, [], rfl, .inl rfl⟩⟩
  · intro a6 ha
    subst ha
    replace h5 := goI_l h5
    refine go hΓ 7 rfl ?_
    obtain rfl := Option.some.inj h5
    exact fin_objs hΓ [] (.inr rfl) rfl rfl rfl rfl (.inl rfl)
theorem c_slices_DeleteFunc_api_Router_api_Router {k : Nat} {s : List T_api_Router} {f : Bool} {f2 : List T_api_Health} {f3 : Int} {r : List T_api_Router} (h : m_slices_DeleteFunc_api_Router_api_Router k s f f2 f3 = some r) : EC Tryz.prog 62 [.sl 0 s.length, .fn (.func 64) [] [.ptr 1 0, .ptr 2 0, .ptr 3 0]] [.row 69 6 s.length (s.flatMap e_api_Router), .box 4 [B f], .box 28 [.d (Sl e_api_Health f2)], .box 3 [I f3]] fun g hp' => g = .sl 0 r.length ∧ hp' = [.row 69 6 r.length (r.flatMap e_api_Router), .box 4 [B f], .box 28 [.d (Sl e_api_Health f2)], .box 3 [I f3]] := by
  refine ec_enter (Fr.of 0 _) Tryz.func62 rfl (Fr.of_ok _) (Nat.le_of_ble_eq_true rfl) fun _ => ?_
  refine go_in ?_
  unfold m_slices_DeleteFunc_api_Router_api_Router at h
  refine go hΓ 2 rfl ?_
  refine eo_nilOwn (t := 0) 69 6 rfl (Nat.le_of_ble_eq_true rfl) ?_
  obtain ⟨y1, hy1, h2⟩ := bi_ok h
  refine go_ops hΓ 6 rfl ?_
  refine eo_callF [0, 1, 2, 3] (I y1) [.row 69 6 s.length (s.flatMap e_api_Router), .box 4 [B f], .box 28 [.d (Sl e_api_Health f2)], .box 3 [I f3], .row 69 6 ([] : List T_api_Router).length (([] : List T_api_Router).flatMap e_api_Router)] (callable Tryz.func117 rfl rfl) (c_slices_IndexFunc_api_Router_api_Router hy1) rfl (Nat.le_of_ble_eq_true rfl) rfl rfl rfl rfl rfl rfl rfl rfl rfl rfl ?_
  refine go_ops hΓ 10 rfl ?_
  refine j_cond rfl (fun hb => ?_) (fun hb => ?_)
  · have h3 := cT h2 hb
    refine go hΓ 8 rfl ?_
    obtain rfl := Option.some.inj h3
    exact fin_objs hΓ [_] (.inr rfl) rfl rfl rfl rfl (.inr ⟨HB.mk rfl, rfl⟩)
  · have h4 := cF h2 hb
    refine go hΓ 10 rfl ?_
    obtain ⟨q8, hq8, h9⟩ := bi_ok h4
    refine j_cutNZ [(0, .sl 0 q8.1.length), (5, I q8.2)] [.row 69 6 q8.1.length (q8.1.flatMap e_api_Router), .box 4 [B f], .box 28 [.d (Sl e_api_Health f2)], .box 3 [I f3], .row 69 6 ([] : List T_api_Router).length (([] : List T_api_Router).flatMap e_api_Router)] ?_ ?_
    · refine go hΓ 1 rfl ?_
      refine j_loop hq8 (fun s6 => [(0, .sl 0 s6.1.length), (1, .fn (.func 64) [] [.ptr 1 0, .ptr 2 0, .ptr 3 0]), (5, I s6.2.1), (6, I s6.2.2)]) (fun s6 => [.row 69 6 s6.1.length (s6.1.flatMap e_api_Router), .box 4 [B f], .box 28 [.d (Sl e_api_Health f2)], .box 3 [I f3], .row 69 6 ([] : List T_api_Router).length (([] : List T_api_Router).flatMap e_api_Router)]) ⟨⟨rfl, rfl, rfl, rfl, trivial⟩, [], rfl, .inl rfl⟩ (fun s6 y14 hy12 hout13 => ?_)
      refine go hΓ 9 rfl ?_
      refine j_cond rfl (fun hb => ?_) (fun hb => ?_)
      · have h15 := cT hy12 hb
        obtain ⟨x16, hx16, h17⟩ := bi_ok h15
        have hj18 := getZ_at hx16
        refine go hΓ 8 rfl ?_
        refine eo_o rfl (op_elemRowZ hΓ hx16 rfl rfl rfl rfl rfl rfl) ?_
        refine eo_o rfl (op_loadRowZ hΓ (enc := e_api_Router) s6.2.2.toNat 0 hj18 rfl rfl rfl rfl (fun _ => rfl) (g := .agg [B x16.Prefix.Addr.Six, .d (.v (.int .u64 x16.Prefix.Addr.Hi)), .d (.v (.int .u64 x16.Prefix.Addr.Lo)), I x16.Prefix.Bits, S x16.Node, I x16.Weight]) rfl) ?_
        refine eo_alloc hΓ rfl rfl rfl (Nat.le_of_ble_eq_true rfl) ?_
        refine eo_store hΓ rfl rfl rfl rfl rfl rfl rfl rfl (Nat.le_of_ble_eq_true rfl) ?_
        refine eo_hp [.row 69 6 s6.1.length (s6.1.flatMap e_api_Router), .box 4 [B f], .box 28 [.d (Sl e_api_Health f2)], .box 3 [I f3], .row 69 6 ([] : List T_api_Router).length (([] : List T_api_Router).flatMap e_api_Router), .box 69 [B x16.Prefix.Addr.Six, .d (.v (.int .u64 x16.Prefix.Addr.Hi)), .d (.v (.int .u64 x16.Prefix.Addr.Lo)), I x16.Prefix.Bits, S x16.Node, I x16.Weight]] rfl ?_
        obtain ⟨y19, hy19, h20⟩ := bi_ok h17
        refine go_ops hΓ 6 rfl ?_
        refine eo_callF [1, 2, 3] (B y19) [.row 69 6 s6.1.length (s6.1.flatMap e_api_Router), .box 4 [B f], .box 28 [.d (Sl e_api_Health f2)], .box 3 [I f3], .row 69 6 ([] : List T_api_Router).length (([] : List T_api_Router).flatMap e_api_Router), .box 69 [B x16.Prefix.Addr.Six, .d (.v (.int .u64 x16.Prefix.Addr.Hi)), .d (.v (.int .u64 x16.Prefix.Addr.Lo)), I x16.Prefix.Bits, S x16.Node, I x16.Weight]] (callable Tryz.func64 rfl rfl) (c_route_Exits_1 hy19) rfl (Nat.le_of_ble_eq_true rfl) rfl rfl rfl rfl rfl rfl rfl rfl rfl rfl ?_
        refine go_ops hΓ 3 rfl ?_
        refine j_cond rfl (fun hb => ?_) (fun hb => ?_)
        · have h21 := cT h20 hb
          obtain ⟨x22, hx22, h23⟩ := bi_ok h21
          have hj24 := getZ_at hx22
          refine go hΓ 5 rfl ?_
          refine eo_o rfl (op_elemRowZ hΓ hx22 rfl rfl rfl rfl rfl rfl) ?_
          refine eo_storeRowZ hΓ (enc := e_api_Router) (z' := x16) s6.2.1.toNat 0 hj24 rfl rfl rfl rfl (fun _ => rfl) rfl rfl rfl rfl rfl rfl (Nat.le_of_ble_eq_true rfl) ?_
          refine eo_hp [.row 69 6 (s6.1.set s6.2.1.toNat x16).length ((s6.1.set s6.2.1.toNat x16).flatMap e_api_Router), .box 4 [B f], .box 28 [.d (Sl e_api_Health f2)], .box 3 [I f3], .row 69 6 ([] : List T_api_Router).length (([] : List T_api_Router).flatMap e_api_Router), .box 69 [B x16.Prefix.Addr.Six, .d (.v (.int .u64 x16.Prefix.Addr.Hi)), .d (.v (.int .u64 x16.Prefix.Addr.Lo)), I x16.Prefix.Bits, S x16.Node, I x16.Weight]] rfl ?_
          refine eo_relen 0 (n' := (s6.1.set s6.2.1.toNat x16).length) rfl List.length_set.symm ?_
          refine go_ops hΓ 14 rfl ?_
          obtain rfl := Option.some.inj h23
          exact ⟨_, rfl, ⟨⟨rfl, rfl, rfl, rfl, trivial⟩, [_], rfl, .inr ⟨HB.mk rfl, FB.mk rfl, (Nat.le_of_ble_eq_true rfl)⟩⟩⟩
        · have h25 := cF h20 hb
          refine go hΓ 8 rfl ?_
          obtain rfl := Option.some.inj h25
          exact ⟨_, rfl, ⟨⟨rfl, rfl, rfl, rfl, trivial⟩, [_], rfl, .inr ⟨HB.mk rfl, FB.mk rfl, (Nat.le_of_ble_eq_true rfl)⟩⟩⟩
      · have h26 := cF hy12 hb
        refine go hΓ 4 rfl ?_
        obtain rfl := Option.some.inj h26
        obtain rfl := hout13 _ rfl
        exact ⟨⟨rfl, rfl, trivial⟩, [], rfl, .inl rfl⟩
    · obtain ⟨z27, hz27, h28⟩ := bi_ok h9
      refine go hΓ 5 rfl ?_
      refine eo_o rfl (op_viewI hΓ hz27 rfl rfl rfl rfl rfl rfl) ?_
      refine eo_s0 (Nat.le_of_ble_eq_true rfl) (ops_clearT hΓ (enc := e_api_Router) (a := q8.2) hz27 rfl rfl rfl rfl rfl rfl rfl rfl rfl rfl (fun _ => rfl)) ?_
      refine go_ops hΓ 6 rfl ?_
      refine eo_subCut hΓ hz27 rfl rfl rfl rfl rfl rfl rfl rfl ?_
      refine go_ops hΓ 4 rfl ?_
      obtain rfl := Option.some.inj h28
      exact fin_objs hΓ [_] (.inr rfl) rfl rfl rfl rfl (.inr ⟨HB.mk rfl, rfl⟩)
theorem c_route_Exits_2 {a : T_api_Router} {b : T_api_Router} {r : Int} (h : m_route_Exits_2 a b = some r) : Pure Tryz.prog 67 [.agg [B a.Prefix.Addr.Six, .d (.v (.int .u64 a.Prefix.Addr.Hi)), .d (.v (.int .u64 a.Prefix.Addr.Lo)), I a.Prefix.Bits, S a.Node, I a.Weight], .agg [B b.Prefix.Addr.Six, .d (.v (.int .u64 b.Prefix.Addr.Hi)), .d (.v (.int .u64 b.Prefix.Addr.Lo)), I b.Prefix.Bits, S b.Node, I b.Weight]] (I r) := by
  refine Pure.enter (Fr.of 0 _) Tryz.func67 rfl (Fr.of_ok _) rfl rfl ?_
  refine go_in ?_
  unfold m_route_Exits_2 at h
  refine go hΓ 2 rfl ?_
  refine eo_box rfl rfl rfl rfl (Nat.le_of_ble_eq_true rfl) ?_
  refine eo_box rfl rfl rfl rfl (Nat.le_of_ble_eq_true rfl) ?_
  obtain ⟨y1, hy1, h2⟩ := bi_ok h
  refine go_ops hΓ 9 rfl ?_
  refine eo_callP (callable Tryz.func68 rfl rfl) (c_cmp_Compare_int hy1) rfl (Nat.le_of_ble_eq_true rfl) rfl rfl rfl rfl rfl ?_
  refine go_ops hΓ 4 rfl ?_
  obtain rfl := Option.some.inj h2
  exact fin_pure hΓ (.inr rfl) rfl rfl
theorem c_slices_insertionSortCmpFunc_api_Router {k : Nat} {data : List T_api_Router} {a : Int} {b : Int} {r : List T_api_Router} (h : m_slices_insertionSortCmpFunc_api_Router k data a b = some r) : EC Tryz.prog 147 [.sl 0 data.length, I a, I b, .fn (.func 67) [] []] [.row 69 6 data.length (data.flatMap e_api_Router)] fun g hp' => g = .tup [] ∧ hp' = [.row 69 6 r.length (r.flatMap e_api_Router)] := by
  refine ec_enter (Fr.of 0 _) Tryz.func147 rfl (Fr.of_ok _) (Nat.le_of_ble_eq_true rfl) fun _ => ?_
  refine go_in ?_
  unfold m_slices_insertionSortCmpFunc_api_Router at h
  refine go hΓ 7 rfl ?_
  obtain ⟨q4, hq4, h5⟩ := bi_ok h
  refine j_cutNZ [] [.row 69 6 q4.length (q4.flatMap e_api_Router)] ?_ ?_
  · refine go hΓ 1 rfl ?_
    refine j_loop hq4 (fun s2 => [(0, .sl 0 s2.1.length), (1, I a), (2, I b), (3, .fn (.func 67) [] []), (8, I s2.2)]) (fun s2 => [.row 69 6 s2.1.length (s2.1.flatMap e_api_Router)]) ⟨⟨rfl, rfl, rfl, rfl, rfl, trivial⟩, [], rfl, .inl rfl⟩ (fun s2 y10 hy8 hout9 => ?_)
    refine go hΓ 8 rfl ?_
    refine j_cond rfl (fun hb => ?_) (fun hb => ?_)
    · have h11 := cT hy8 hb
      refine go hΓ 10 rfl ?_
      obtain ⟨q15, hq15, h16⟩ := bi_ok h11
      refine j_cutNZ [(0, .sl 0 q15.length), (1, I a), (2, I b), (3, .fn (.func 67) [] []), (8, I s2.2)] [.row 69 6 q15.length (q15.flatMap e_api_Router)] ?_ ?_
      · refine go hΓ 1 rfl ?_
        refine j_loop hq15 (fun s13 => [(0, .sl 0 s13.1.length), (1, I a), (2, I b), (3, .fn (.func 67) [] []), (8, I s2.2), (9, I s13.2)]) (fun s13 => [.row 69 6 s13.1.length (s13.1.flatMap e_api_Router)]) ⟨⟨rfl, rfl, rfl, rfl, rfl, rfl, trivial⟩, [], rfl, .inl rfl⟩ (fun s13 y21 hy19 hout20 => ?_)
        obtain ⟨q22, hq22, h23⟩ := bi_ok hy19
        refine go hΓ 2 rfl ?_
        refine j_cutNZ [(0, .sl 0 s13.1.length), (1, I a), (2, I b), (3, .fn (.func 67) [] []), (8, I s2.2), (9, I s13.2), (34, B q22)] [.row 69 6 s13.1.length (s13.1.flatMap e_api_Router)] ?_ ?_
        · refine j_draw hmix (by kernel_rfl) ?_
          refine go hΓ 4 rfl ?_
          refine gl_gsplit rfl rfl (fun hb => ?_) (fun hb => ?_)
          · have h24 := cT hq22 hb
            obtain ⟨x25, hx25, h26⟩ := bi_ok h24
            have hj27 := getZ_at hx25
            refine go_draw hΓ 3 rfl ?_
            refine gl_og rfl rfl (op_elemRowZ hΓ hx25 rfl rfl rfl rfl rfl rfl) ?_
            refine gl_og rfl rfl (op_loadRowZ hΓ (enc := e_api_Router) s13.2.toNat 0 hj27 rfl rfl rfl rfl (fun _ => rfl) (g := .agg [B x25.Prefix.Addr.Six, .d (.v (.int .u64 x25.Prefix.Addr.Hi)), .d (.v (.int .u64 x25.Prefix.Addr.Lo)), I x25.Prefix.Bits, S x25.Node, I x25.Weight]) rfl) ?_
            obtain ⟨x28, hx28, h29⟩ := bi_ok h26
            have hj30 := getZ_at hx28
            refine go_draw hΓ 3 rfl ?_
            refine gl_og rfl rfl (op_elemRowZ hΓ hx28 rfl rfl rfl rfl rfl rfl) ?_
            refine gl_og rfl rfl (op_loadRowZ hΓ (enc := e_api_Router) ((wi (s13.2 - 1)).toNat) 0 hj30 rfl rfl rfl rfl (fun _ => rfl) (g := .agg [B x28.Prefix.Addr.Six, .d (.v (.int .u64 x28.Prefix.Addr.Hi)), .d (.v (.int .u64 x28.Prefix.Addr.Lo)), I x28.Prefix.Bits, S x28.Node, I x28.Weight]) rfl) ?_
            obtain ⟨y31, hy31, h32⟩ := bi_ok h29
            refine gl_callPg (callable Tryz.func67 rfl rfl) (c_route_Exits_2 hy31) rfl rfl rfl rfl rfl rfl rfl ?_
            refine go_draw hΓ 3 rfl ?_
            obtain rfl := Option.some.inj h32
            exact ⟨⟨rfl, rfl, rfl, rfl, rfl, rfl, rfl, trivial⟩, [], rfl, .inl rfl⟩
          · have h33 := cF hq22 hb
            refine go_draw hΓ 14 rfl ?_
            obtain rfl := Option.some.inj h33
            exact ⟨⟨rfl, rfl, rfl, rfl, rfl, rfl, rfl, trivial⟩, [], rfl, .inl rfl⟩
        · refine go hΓ 1 rfl ?_
          refine j_cond rfl (fun hb => ?_) (fun hb => ?_)
          · have h34 := cT h23 hb
            refine go hΓ 4 rfl ?_
            refine j_drawE [.row 69 6 s13.1.length (s13.1.flatMap e_api_Router)] [9, 13] [15, 17] [15, 17] hmix (by kernel_rfl) (by kernel_rfl) ⟨rfl, trivial⟩ (Nat.le_of_ble_eq_true rfl) ?_
            obtain ⟨x35, hx35, h36⟩ := bi_ok h34
            have hj37 := getZ_at hx35
            refine go_E hΓ 8 rfl ?_
            refine ge_q rfl (.inl rfl) (fun _ _ => qte_of_qt (qt_p (op_elemRowZ hΓ hx35 rfl rfl rfl rfl rfl rfl))) ?_
            refine ge_p rfl (fun hp hs => op_loadRowZ hΓ (enc := e_api_Router) ((wi (s13.2 - 1)).toNat) 0 hj37 rfl rfl rfl (hs 0 _ rfl rfl) (fun _ => rfl) (g := .agg [B x35.Prefix.Addr.Six, .d (.v (.int .u64 x35.Prefix.Addr.Hi)), .d (.v (.int .u64 x35.Prefix.Addr.Lo)), I x35.Prefix.Bits, S x35.Node, I x35.Weight]) rfl) rfl ?_
            obtain ⟨x38, hx38, h39⟩ := bi_ok h36
            have hj40 := getZ_at hx38
            refine go_E hΓ 2 rfl ?_
            refine ge_q rfl (.inl rfl) (fun _ _ => qte_of_qt (qt_p (op_elemRowZ hΓ hx38 rfl rfl rfl rfl rfl rfl))) ?_
            refine ge_p rfl (fun hp hs => op_loadRowZ hΓ (enc := e_api_Router) s13.2.toNat 0 hj40 rfl rfl rfl (hs 0 _ rfl rfl) (fun _ => rfl) (g := .agg [B x38.Prefix.Addr.Six, .d (.v (.int .u64 x38.Prefix.Addr.Hi)), .d (.v (.int .u64 x38.Prefix.Addr.Lo)), I x38.Prefix.Bits, S x38.Node, I x38.Weight]) rfl) rfl ?_
            obtain ⟨x41, hx41, h42⟩ := bi_ok h39
            have hj43 := getZ_at hx41
            refine ge_q rfl (.inl rfl) (fun _ _ => qte_of_qt (qt_p (op_elemRowZ hΓ hx41 rfl rfl rfl rfl rfl rfl))) ?_
            refine ge_h0 [.row 69 6 (s13.1.set s13.2.toNat x35).length ((s13.1.set s13.2.toNat x35).flatMap e_api_Router)] rfl rfl (brk_st rfl) (qte_u (opu_setRowZ hΓ (enc := e_api_Router) (z' := x35) s13.2.toNat (by have := (List.getElem?_eq_some_iff.1 hj43).1; simpa using this) rfl rfl rfl rfl (fun _ => rfl) rfl rfl rfl rfl rfl)) ?_
            obtain ⟨x44, hx44, h45⟩ := bi_ok h42
            have hj46 := getZ_at hx44
            refine ge_q rfl (.inl rfl) (fun _ _ => qte_of_qt (qt_p (op_elemRowZ hΓ hx44 rfl rfl rfl rfl rfl rfl))) ?_
            obtain ⟨x47, hx47, h48⟩ := bi_ok h45
            have hj49 : (s13.1.set s13.2.toNat x35)[(wi (s13.2 - 1)).toNat]? = some x47 := hx47
            refine ge_h0 [.row 69 6 ((s13.1.set s13.2.toNat x35).set ((wi (s13.2 - 1)).toNat) x38).length (((s13.1.set s13.2.toNat x35).set ((wi (s13.2 - 1)).toNat) x38).flatMap e_api_Router)] rfl rfl (brk_st rfl) (qte_u (opu_setRowZ hΓ (enc := e_api_Router) (z' := x38) ((wi (s13.2 - 1)).toNat) (by have := (List.getElem?_eq_some_iff.1 hj49).1; simpa using this) rfl rfl rfl rfl (fun _ => rfl) rfl rfl rfl rfl rfl)) ?_
            refine ge_fin ?_
            refine go hΓ 2 rfl ?_
            refine j_relen 0 (n' := ((s13.1.set s13.2.toNat x35).set ((wi (s13.2 - 1)).toNat) x38).length) rfl (by simp) ?_
            refine j_relen 37 (n' := ((s13.1.set s13.2.toNat x35).set ((wi (s13.2 - 1)).toNat) x38).length) rfl (by simp) ?_
            refine j_relen 39 (n' := ((s13.1.set s13.2.toNat x35).set ((wi (s13.2 - 1)).toNat) x38).length) rfl (by simp) ?_
            refine j_relen 42 (n' := ((s13.1.set s13.2.toNat x35).set ((wi (s13.2 - 1)).toNat) x38).length) rfl (by simp) ?_
            refine j_relen 47 (n' := ((s13.1.set s13.2.toNat x35).set ((wi (s13.2 - 1)).toNat) x38).length) rfl (by simp) ?_
            refine go hΓ 5 rfl ?_
            obtain rfl := Option.some.inj h48
            exact ⟨_, rfl, ⟨⟨rfl, rfl, rfl, rfl, rfl, rfl, trivial⟩, [], rfl, .inl rfl⟩⟩
          · have h50 := cF h23 hb
            refine go hΓ 4 rfl ?_
            obtain rfl := Option.some.inj h50
            obtain rfl := hout20 _ rfl
            exact ⟨⟨rfl, rfl, rfl, rfl, rfl, trivial⟩, [], rfl, .inl rfl⟩
      · refine go hΓ 7 rfl ?_
        obtain rfl := Option.some.inj h16
        exact ⟨_, rfl, ⟨⟨rfl, rfl, rfl, rfl, rfl, trivial⟩, [], rfl, .inl rfl⟩⟩
    · have h51 := cF hy8 hb
      refine go hΓ 4 rfl ?_
      obtain rfl := Option.some.inj h51
      obtain rfl := hout9 _ rfl
      exact ⟨trivial, [], rfl, .inl rfl⟩
  · obtain rfl := Option.some.inj h5
    exact fin_objs hΓ [] (.inl rfl) rfl rfl rfl rfl (.inl rfl)
theorem c_slices_stableCmpFunc_api_Router {k : Nat} {data : List T_api_Router} {n : Int} {r : List T_api_Router} (h : m_slices_stableCmpFunc_api_Router k data n = some r) : EC Tryz.prog 118 [.sl 0 data.length, I n, .fn (.func 67) [] []] [.row 69 6 data.length (data.flatMap e_api_Router)] fun g hp' => g = .tup [] ∧ hp' = [.row 69 6 r.length (r.flatMap e_api_Router)] := by
  refine ec_enter (Fr.of 0 _) Tryz.func118 rfl (Fr.of_ok _) (Nat.le_of_ble_eq_true rfl) fun _ => ?_
  refine go_in ?_
  unfold m_slices_stableCmpFunc_api_Router at h
  refine go hΓ 13 rfl ?_
  obtain ⟨q4, hq4, h5⟩ := bi_ok h
  refine j_cutNZ [(0, .sl 0 q4.1.length), (1, I n), (2, .fn (.func 67) [] []), (6, I 20), (7, I q4.2)] [.row 69 6 q4.1.length (q4.1.flatMap e_api_Router)] ?_ ?_
  · refine go hΓ 1 rfl ?_
    refine j_loop hq4 (fun s2 => [(0, .sl 0 s2.1.length), (1, I n), (2, .fn (.func 67) [] []), (6, I 20), (7, I s2.2.1), (8, I s2.2.2)]) (fun s2 => [.row 69 6 s2.1.length (s2.1.flatMap e_api_Router)]) ⟨⟨rfl, rfl, rfl, rfl, rfl, rfl, trivial⟩, [], rfl, .inl rfl⟩ (fun s2 y10 hy8 hout9 => ?_)
    refine go hΓ 8 rfl ?_
    refine j_cond rfl (fun hb => ?_) (fun hb => ?_)
    · have h11 := cT hy8 hb
      obtain ⟨y12, hy12, h13⟩ := bi_ok h11
      refine go hΓ 9 rfl ?_
      refine eo_callF [0] (.tup []) [.row 69 6 y12.length (y12.flatMap e_api_Router)] (callable Tryz.func147 rfl rfl) (c_slices_insertionSortCmpFunc_api_Router hy12) rfl (Nat.le_of_ble_eq_true rfl) rfl rfl rfl rfl rfl rfl rfl rfl rfl rfl ?_
      obtain ⟨hg15, h14⟩ := gd_ok h13
      refine eo_relen 0 rfl (of_decide_eq_true hg15).symm ?_
      refine go_ops hΓ 15 rfl ?_
      obtain rfl := Option.some.inj h14
      exact ⟨_, rfl, ⟨⟨rfl, rfl, rfl, rfl, rfl, rfl, trivial⟩, [], rfl, .inl rfl⟩⟩
    · have h16 := cF hy8 hb
      refine go hΓ 4 rfl ?_
      obtain rfl := Option.some.inj h16
      obtain rfl := hout9 _ rfl
      exact ⟨⟨rfl, rfl, rfl, rfl, rfl, trivial⟩, [], rfl, .inl rfl⟩
  · obtain ⟨y17, hy17, h18⟩ := bi_ok h5
    refine go hΓ 7 rfl ?_
    refine eo_callF [0] (.tup []) [.row 69 6 y17.length (y17.flatMap e_api_Router)] (callable Tryz.func147 rfl rfl) (c_slices_insertionSortCmpFunc_api_Router hy17) rfl (Nat.le_of_ble_eq_true rfl) rfl rfl rfl rfl rfl rfl rfl rfl rfl rfl ?_
    obtain ⟨hg20, h19⟩ := gd_ok h18
    refine eo_relen 0 rfl (of_decide_eq_true hg20).symm ?_
    refine go_ops hΓ 2 rfl ?_
    obtain ⟨q24, hq24, h25⟩ := bi_ok h19
    refine j_cutNZ [] [.row 69 6 y17.length (y17.flatMap e_api_Router)] ?_ ?_
    · refine go hΓ 1 rfl ?_
      refine j_loop hq24 (fun s22 => [(0, .sl 0 y17.length), (1, I n), (2, .fn (.func 67) [] []), (6, I s22)]) (fun s22 => [.row 69 6 y17.length (y17.flatMap e_api_Router)]) ⟨⟨rfl, rfl, rfl, rfl, trivial⟩, [], rfl, .inl rfl⟩ (fun s22 y30 hy28 hout29 => ?_)
      refine go hΓ 8 rfl ?_
      refine j_cond rfl (fun hb => ?_) (fun hb => ?_)
      · have h31 := cT hy28 hb
        refine go hΓ 12 rfl ?_
        obtain ⟨q35, hq35, h36⟩ := bi_ok h31
        refine j_cutNZ [(0, .sl 0 y17.length), (1, I n), (2, .fn (.func 67) [] []), (6, I s22), (7, I 0)] [.row 69 6 y17.length (y17.flatMap e_api_Router)] ?_ ?_
        · refine go hΓ 1 rfl ?_
          refine j_loop hq35 (fun s33 => [(0, .sl 0 y17.length), (1, I n), (2, .fn (.func 67) [] []), (6, I s22), (7, I 0), (8, I (wi (2 * s22)))]) (fun s33 => [.row 69 6 y17.length (y17.flatMap e_api_Router)]) ⟨⟨rfl, rfl, rfl, rfl, rfl, rfl, trivial⟩, [], rfl, .inl rfl⟩ (fun s33 y41 hy39 hout40 => ?_)
          refine go hΓ 8 rfl ?_
          refine j_cond rfl (fun hb => ?_) (fun hb => ?_)
          · have h42 := cT hy39 hb
            refine go hΓ 12 rfl ?_
            cases h42
          · have h43 := cF hy39 hb
            refine go hΓ 4 rfl ?_
            obtain rfl := Option.some.inj h43
            obtain rfl := hout40 _ rfl
            exact ⟨⟨rfl, rfl, rfl, rfl, rfl, trivial⟩, [], rfl, .inl rfl⟩
        · refine go hΓ 17 rfl ?_
          refine j_cond rfl (fun hb => ?_) (fun hb => ?_)
          · have h44 := cT h36 hb
            refine go hΓ 6 rfl ?_
            cases h44
          · have h45 := cF h36 hb
            refine go hΓ 8 rfl ?_
            obtain rfl := Option.some.inj h45
            exact ⟨_, rfl, ⟨⟨rfl, rfl, rfl, rfl, trivial⟩, [], rfl, .inl rfl⟩⟩
      · have h46 := cF hy28 hb
        refine go hΓ 4 rfl ?_
        obtain rfl := Option.some.inj h46
        obtain rfl := hout29 _ rfl
        exact ⟨trivial, [], rfl, .inl rfl⟩
    · obtain rfl := Option.some.inj h25
      exact fin_objs hΓ [] (.inl rfl) rfl rfl rfl rfl (.inl rfl)
theorem c_slices_SortStableFunc_api_Router_api_Router {k : Nat} {x : List T_api_Router} {r : List T_api_Router} (h : m_slices_SortStableFunc_api_Router_api_Router k x = some r) : EC Tryz.prog 66 [.sl 0 x.length, .fn (.func 67) [] []] [.row 69 6 x.length (x.flatMap e_api_Router)] fun g hp' => g = .tup [] ∧ hp' = [.row 69 6 r.length (r.flatMap e_api_Router)] := by
  refine ec_enter (Fr.of 0 _) Tryz.func66 rfl (Fr.of_ok _) (Nat.le_of_ble_eq_true rfl) fun _ => ?_
  refine go_in ?_
  unfold m_slices_SortStableFunc_api_Router_api_Router at h
  obtain ⟨y1, hy1, h2⟩ := bi_ok h
  refine go hΓ 5 rfl ?_
  refine eo_callF [0] (.tup []) [.row 69 6 y1.length (y1.flatMap e_api_Router)] (callable Tryz.func118 rfl rfl) (c_slices_stableCmpFunc_api_Router hy1) rfl (Nat.le_of_ble_eq_true rfl) rfl rfl rfl rfl rfl rfl rfl rfl rfl rfl ?_
  refine go_ops hΓ 1 rfl ?_
  obtain rfl := Option.some.inj h2
  exact fin_objs hΓ [] (.inl rfl) rfl rfl rfl rfl (.inl rfl)
theorem c_route_Exits {k : Nat} {v_r : List T_api_Router} {l : List T_api_Health} {six : Bool} {v_at : Int} {r : (List Str) × Int} (h : m_route_Exits k v_r l six v_at = some r) : Pure Tryz.prog 14 [.d (Sl e_api_Router v_r), .d (Sl e_api_Health l), B six, I v_at] (.tup [.d (Sl eS r.1), I r.2]) := by
  refine Pure.enter (Fr.of 0 _) Tryz.func14 rfl (Fr.of_ok _) rfl rfl ?_
  refine go_in ?_
  unfold m_route_Exits at h
  refine go hΓ 2 rfl ?_
  refine eo_box rfl rfl rfl rfl (Nat.le_of_ble_eq_true rfl) ?_
  refine eo_box rfl rfl rfl rfl (Nat.le_of_ble_eq_true rfl) ?_
  refine eo_box rfl rfl rfl rfl (Nat.le_of_ble_eq_true rfl) ?_
  obtain ⟨y1, hy1, h2⟩ := bi_ok h
  refine go_ops hΓ 9 rfl ?_
  refine eo_callP (callable Tryz.func57 rfl rfl) (c_route_routersFault hy1) rfl (Nat.le_of_ble_eq_true rfl) rfl rfl rfl rfl rfl ?_
  refine go_ops hΓ 9 rfl ?_
  refine j_cond rfl (fun hb => ?_) (fun hb => ?_)
  · have h3 := cT h2 hb
    refine go hΓ 9 rfl ?_
    obtain rfl := Option.some.inj h3
    exact fin_pure hΓ (.inr rfl) rfl rfl
  · have h4 := cF h2 hb
    obtain ⟨y5, hy5, h6⟩ := bi_ok h4
    refine go hΓ 6 rfl ?_
    refine eo_callP (callable Tryz.func58 rfl rfl) (c_route_momentFault hy5) rfl (Nat.le_of_ble_eq_true rfl) rfl rfl rfl rfl rfl ?_
    refine go_ops hΓ 9 rfl ?_
    refine j_cond rfl (fun hb => ?_) (fun hb => ?_)
    · have h7 := cT h6 hb
      refine go hΓ 9 rfl ?_
      obtain rfl := Option.some.inj h7
      exact fin_pure hΓ (.inr rfl) rfl rfl
    · have h8 := cF h6 hb
      obtain ⟨y9, hy9, h10⟩ := bi_ok h8
      refine go hΓ 5 rfl ?_
      refine eo_callF [] (.sl 3 y9.length) [.box 28 [.d (Sl e_api_Health l)], .box 4 [B six], .box 3 [I v_at], .row 69 6 y9.length (y9.flatMap e_api_Router)] (callable Tryz.func63 rfl rfl) (c_slices_Clone_api_Router_api_Router hy9) rfl (Nat.le_of_ble_eq_true rfl) rfl rfl rfl rfl rfl rfl rfl rfl rfl rfl ?_
      obtain ⟨y11, hy11, h12⟩ := bi_ok h10
      refine go_ops hΓ 1 rfl ?_
      refine eo_callF [3, 1, 0, 2] (.sl 3 y11.length) [.box 28 [.d (Sl e_api_Health l)], .box 4 [B six], .box 3 [I v_at], .row 69 6 y11.length (y11.flatMap e_api_Router)] (callable Tryz.func62 rfl rfl) (c_slices_DeleteFunc_api_Router_api_Router hy11) rfl (Nat.le_of_ble_eq_true rfl) rfl rfl rfl rfl rfl rfl rfl rfl rfl rfl ?_
      obtain ⟨y13, hy13, h14⟩ := bi_ok h12
      refine go_ops hΓ 6 rfl ?_
      refine eo_callF [3] (.tup []) [.box 28 [.d (Sl e_api_Health l)], .box 4 [B six], .box 3 [I v_at], .row 69 6 y13.length (y13.flatMap e_api_Router)] (callable Tryz.func66 rfl rfl) (c_slices_SortStableFunc_api_Router_api_Router hy13) rfl (Nat.le_of_ble_eq_true rfl) rfl rfl rfl rfl rfl rfl rfl rfl rfl rfl ?_
      obtain ⟨hg16, h15⟩ := gd_ok h14
      refine eo_relen 12 rfl (of_decide_eq_true hg16).symm ?_
      refine go_ops hΓ 4 rfl ?_
      refine eo_nilOwn (t := 0) 9 1 rfl (Nat.le_of_ble_eq_true rfl) ?_
      refine go_ops hΓ 10 rfl ?_
      obtain ⟨q20, hq20, h21⟩ := bi_ok h15
      obtain ⟨hb23, h24⟩ := gd_ok hq20
      replace hb23 := of_decide_eq_true hb23
      refine j_cutNZ [(13, .sl 4 q20.length)] [.box 28 [.d (Sl e_api_Health l)], .box 4 [B six], .box 3 [I v_at], .row 69 6 y13.length (y13.flatMap e_api_Router), .row 9 1 q20.length (q20.flatMap eS)] ?_ ?_
      · refine go hΓ 1 rfl ?_
        refine j_rangeG h24 (fun i17 s18 => [(13, .sl 4 s18.length), (33, .sl 3 y13.length), (34, I (y13.length : Int)), (35, I (i17 : Int))]) (fun s18 => [.box 28 [.d (Sl e_api_Health l)], .box 4 [B six], .box 3 [I v_at], .row 69 6 y13.length (y13.flatMap e_api_Router), .row 9 1 s18.length (s18.flatMap eS)]) ⟨⟨rfl, rfl, rfl, rfl, trivial⟩, [], rfl, .inl rfl⟩ (fun i17 s18 y28 hlt hy26 => ?_) (fun hge => ?_)
        · refine go hΓ 6 rfl ?_
          refine j_condT rfl (decide_eq_true hlt) ?_
          obtain ⟨x29, hx29, h30⟩ := bi_ok hy26
          have hj31 := getZ_at hx29
          refine go hΓ 6 rfl ?_
          refine eo_o rfl (op_elemRowZ hΓ hx29 rfl rfl rfl rfl rfl rfl) ?_
          refine eo_o rfl (op_loadRowZ hΓ (enc := e_api_Router) ((i17 : Int).toNat) 0 hj31 rfl rfl rfl rfl (fun _ => rfl) (g := .agg [B x29.Prefix.Addr.Six, .d (.v (.int .u64 x29.Prefix.Addr.Hi)), .d (.v (.int .u64 x29.Prefix.Addr.Lo)), I x29.Prefix.Bits, S x29.Node, I x29.Weight]) rfl) ?_
          refine eo_alloc hΓ rfl rfl rfl (Nat.le_of_ble_eq_true rfl) ?_
          refine eo_store hΓ rfl rfl rfl rfl rfl rfl rfl rfl (Nat.le_of_ble_eq_true rfl) ?_
          refine eo_hp [.box 28 [.d (Sl e_api_Health l)], .box 4 [B six], .box 3 [I v_at], .row 69 6 y13.length (y13.flatMap e_api_Router), .row 9 1 s18.length (s18.flatMap eS), .box 69 [B x29.Prefix.Addr.Six, .d (.v (.int .u64 x29.Prefix.Addr.Hi)), .d (.v (.int .u64 x29.Prefix.Addr.Lo)), I x29.Prefix.Bits, S x29.Node, I x29.Weight]] rfl ?_
          refine go_ops hΓ 6 rfl ?_
          refine eo_litT hΓ (enc := eS) [x29.Node] rfl rfl rfl rfl rfl rfl rfl rfl rfl rfl rfl rfl (Nat.le_of_ble_eq_true rfl) ?_
          obtain ⟨y32, hy32, h33⟩ := bi_ok h30
          refine eo_appendT hΓ (enc := eS) hy32 rfl rfl rfl rfl rfl rfl rfl rfl rfl (fun _ => rfl) rfl rfl rfl rfl ?_
          refine go_ops hΓ 8 rfl ?_
          obtain rfl := Option.some.inj h33
          exact ⟨⟨rfl, rfl, rfl, get_eq rfl (w64_succ (by omega)), trivial⟩, [_], rfl, .inr ⟨HB.mk rfl, FB.mk rfl, (Nat.le_of_ble_eq_true rfl)⟩⟩
        · refine go hΓ 6 rfl ?_
          refine j_condF rfl (decide_eq_false hge) ?_
          refine go hΓ 4 rfl ?_
          exact ⟨⟨rfl, trivial⟩, [], rfl, .inl rfl⟩
      · refine go hΓ 5 rfl ?_
        refine eo_shr 4 [8, 13, 45] _ [.box 28 [.d (Sl e_api_Health l)], .box 4 [B six], .box 3 [I v_at], .row 69 6 y13.length (y13.flatMap e_api_Router), .dead] rfl rfl rfl (Nat.le_of_ble_eq_true rfl) ?_
        refine go_ops hΓ 4 rfl ?_
        obtain rfl := Option.some.inj h21
        exact fin_pure hΓ (.inr rfl) rfl rfl
theorem c_laneref2_AddrFault {a : T_api_Addr} {r : Int} (h : m_laneref2_AddrFault a = some r) : Pure Tryz.prog 19 [.agg [B a.Six, .d (.v (.int .u64 a.Hi)), .d (.v (.int .u64 a.Lo))]] (I r) := by
  refine Pure.enter (Fr.of 0 _) Tryz.func19 rfl (Fr.of_ok _) rfl rfl ?_
  refine go_in ?_
  unfold m_laneref2_AddrFault at h
  refine go hΓ 2 rfl ?_
  refine eo_box rfl rfl rfl rfl (Nat.le_of_ble_eq_true rfl) ?_
  refine go_ops hΓ 10 rfl ?_
  refine o_cut 9 [(15, B ((!a.Six) && ((decide ((a.Hi : Int) > 0)) || (decide ((a.Lo : Int) > 4294967295)))))] [.box 34 [B a.Six, .d (.v (.int .u64 a.Hi)), .d (.v (.int .u64 a.Lo))]] ?_ ?_
  · refine eo_gsplit rfl rfl (fun hb => ?_) (fun hb => ?_)
    · refine go_ops hΓ 4 rfl ?_
      refine o_cut 4 [(6, B true), (14, B ((decide ((a.Hi : Int) > 0)) || (decide ((a.Lo : Int) > 4294967295))))] [.box 34 [B a.Six, .d (.v (.int .u64 a.Hi)), .d (.v (.int .u64 a.Lo))]] ?_ ?_
      · refine eo_gsplit rfl rfl (fun hb => ?_) (fun hb => ?_)
        · refine go_ops hΓ 5 rfl ?_
          exact ⟨⟨rfl, get_b rfl (or_t hb), trivial⟩, [], rfl, .inl rfl⟩
        · refine go_ops hΓ 5 rfl ?_
          exact ⟨⟨rfl, get_b rfl (or_f hb), trivial⟩, [], rfl, .inl rfl⟩
      · refine go_ops hΓ 2 rfl ?_
        exact ⟨⟨get_b rfl (and_t hb), trivial⟩, [], rfl, .inl rfl⟩
    · refine go_ops hΓ 10 rfl ?_
      exact ⟨⟨get_b rfl (and_f hb), trivial⟩, [], rfl, .inl rfl⟩
  · refine go_ops hΓ 2 rfl ?_
    refine j_cond rfl (fun hb => ?_) (fun hb => ?_)
    · have h1 := cT h hb
      refine go hΓ 7 rfl ?_
      obtain rfl := Option.some.inj h1
      exact fin_pure hΓ (.inr rfl) rfl rfl
    · have h2 := cF h hb
      refine go hΓ 8 rfl ?_
      obtain rfl := Option.some.inj h2
      exact fin_pure hΓ (.inr rfl) rfl rfl
theorem c_laneref2_in {n : Int} {low : Int} {high : Int} {r : Bool} (h : m_laneref2_in n low high = some r) : Pure Tryz.prog 94 [I n, I low, I high] (B r) := by
  refine Pure.enter (Fr.of 0 _) Tryz.func94 rfl (Fr.of_ok _) rfl rfl ?_
  refine go_in ?_
  unfold m_laneref2_in at h
  refine go hΓ 11 rfl ?_
  refine o_cut 4 [(6, B false), (14, B ((decide ((low : Int) ≤ n)) && (decide ((n : Int) ≤ high))))] [] ?_ ?_
  · refine eo_gsplit rfl rfl (fun hb => ?_) (fun hb => ?_)
    · refine go_ops hΓ 5 rfl ?_
      exact ⟨⟨rfl, get_b rfl (and_t hb), trivial⟩, [], rfl, .inl rfl⟩
    · refine go_ops hΓ 5 rfl ?_
      exact ⟨⟨rfl, get_b rfl (and_f hb), trivial⟩, [], rfl, .inl rfl⟩
  · refine go_ops hΓ 4 rfl ?_
    obtain rfl := Option.some.inj h
    exact fin_pure hΓ (.inr rfl) rfl rfl
theorem c_laneref2_PrefixFault {k : Nat} {p : T_api_Prefix} {r : Int} (h : m_laneref2_PrefixFault k p = some r) : Pure Tryz.prog 41 [.agg [B p.Addr.Six, .d (.v (.int .u64 p.Addr.Hi)), .d (.v (.int .u64 p.Addr.Lo)), I p.Bits]] (I r) := by
  refine Pure.enter (Fr.of 0 _) Tryz.func41 rfl (Fr.of_ok _) rfl rfl ?_
  refine go_in ?_
  unfold m_laneref2_PrefixFault at h
  refine go hΓ 2 rfl ?_
  refine eo_box rfl rfl rfl rfl (Nat.le_of_ble_eq_true rfl) ?_
  obtain ⟨y1, hy1, h2⟩ := bi_ok h
  refine go_ops hΓ 8 rfl ?_
  refine eo_callP (callable Tryz.func19 rfl rfl) (c_laneref2_AddrFault hy1) rfl (Nat.le_of_ble_eq_true rfl) rfl rfl rfl rfl rfl ?_
  refine go_ops hΓ 9 rfl ?_
  refine j_cond rfl (fun hb => ?_) (fun hb => ?_)
  · have h3 := cT h2 hb
    refine go hΓ 8 rfl ?_
    obtain rfl := Option.some.inj h3
    exact fin_pure hΓ (.inr rfl) rfl rfl
  · have h4 := cF h2 hb
    refine go hΓ 4 rfl ?_
    refine j_draw hmix (by kernel_rfl) ?_
    obtain ⟨y5, hy5, h6⟩ := bi_ok h4
    refine go hΓ 4 rfl ?_
    refine gl_callP (callable Tryz.func95 rfl rfl) (c_laneref2_length hy5) rfl rfl rfl rfl rfl rfl ?_
    obtain ⟨y7, hy7, h8⟩ := bi_ok h6
    refine gl_callP (callable Tryz.func94 rfl rfl) (c_laneref2_in hy7) rfl rfl rfl rfl rfl rfl ?_
    refine go_draw hΓ 3 rfl ?_
    refine j_cond rfl (fun hb => ?_) (fun hb => ?_)
    · have h9 := cT h8 hb
      refine go hΓ 7 rfl ?_
      obtain rfl := Option.some.inj h9
      exact fin_pure hΓ (.inr rfl) rfl rfl
    · have h10 := cF h8 hb
      refine go hΓ 4 rfl ?_
      refine j_draw hmix (by kernel_rfl) ?_
      obtain ⟨y11, hy11, h12⟩ := bi_ok h10
      refine go hΓ 4 rfl ?_
      refine gl_callP (callable Tryz.func96 rfl rfl) (c_laneref2_firstOf hy11) rfl rfl rfl rfl rfl rfl ?_
      obtain ⟨y13, hy13, h14⟩ := bi_ok h12
      refine go_draw hΓ 2 rfl ?_
      refine gl_callP (callable Tryz.func97 rfl rfl) (c_laneref2_of hy13) rfl rfl rfl rfl rfl rfl ?_
      refine gl_o rfl (op_neArr hΓ (l1 := ([y11.1, y11.2.1, y11.2.2.1, y11.2.2.2.1, y11.2.2.2.2.1, y11.2.2.2.2.2.1, y11.2.2.2.2.2.2.1, y11.2.2.2.2.2.2.2.1, y11.2.2.2.2.2.2.2.2] : List Int)) (l2 := ([y13.1, y13.2.1, y13.2.2.1, y13.2.2.2.1, y13.2.2.2.2.1, y13.2.2.2.2.2.1, y13.2.2.2.2.2.2.1, y13.2.2.2.2.2.2.2.1, y13.2.2.2.2.2.2.2.2] : List Int)) rfl rfl rfl rfl rfl (by kernel_rfl) rfl rfl rfl rfl rfl rfl) ?_
      refine go_draw hΓ 2 rfl ?_
      refine j_cond rfl (fun hb => ?_) (fun hb => ?_)
      · have h15 := cT h14 hb
        refine go hΓ 7 rfl ?_
        obtain rfl := Option.some.inj h15
        exact fin_pure hΓ (.inr rfl) rfl rfl
      · have h16 := cF h14 hb
        refine go hΓ 8 rfl ?_
        obtain rfl := Option.some.inj h16
        exact fin_pure hΓ (.inr rfl) rfl rfl
theorem c_laneref2_only {s : Str} {v_some : Str} {r : Bool} (h : m_laneref2_only s v_some = some r) : Pure Tryz.prog 120 [S s, S v_some] (B r) := by
  refine Pure.enter (Fr.of 0 _) Tryz.func120 rfl (Fr.of_ok _) rfl rfl ?_
  refine go_in ?_
  unfold m_laneref2_only at h
  obtain ⟨y1, hy1, h2⟩ := bi_ok h
  refine go hΓ 9 rfl ?_
  refine eo_callP (callable Tryz.func149 rfl rfl) (c_strings_Trim hy1) rfl (Nat.le_of_ble_eq_true rfl) rfl rfl rfl rfl rfl ?_
  refine go_ops hΓ 5 rfl ?_
  obtain rfl := Option.some.inj h2
  exact fin_pure hΓ (.inr rfl) rfl rfl
theorem c_laneref2_Key {s : Str} {r : Bool} (h : m_laneref2_Key s = some r) : Pure Tryz.prog 69 [S s] (B r) := by
  refine Pure.enter (Fr.of 0 _) Tryz.func69 rfl (Fr.of_ok _) rfl rfl ?_
  refine go_in ?_
  unfold m_laneref2_Key at h
  obtain ⟨y1, hy1, h2⟩ := bi_ok h
  refine go hΓ 9 rfl ?_
  refine eo_callP (callable Tryz.func94 rfl rfl) (c_laneref2_in hy1) rfl (Nat.le_of_ble_eq_true rfl) rfl rfl rfl rfl rfl ?_
  refine go_ops hΓ 1 rfl ?_
  obtain ⟨q3, hq3, h4⟩ := bi_ok h2
  refine o_cut 4 [(0, S s), (2, B false), (10, B q3)] [] ?_ ?_
  · refine eo_gsplit rfl rfl (fun hb => ?_) (fun hb => ?_)
    · have h5 := cT hq3 hb
      obtain ⟨z6, hz6, h7⟩ := bi_ok h5
      refine go_ops hΓ 1 rfl ?_
      refine eo_guard rfl ?_
      refine eo_o rfl (op_subZ hΓ hz6 rfl rfl rfl rfl rfl) ?_
      obtain ⟨y8, hy8, h9⟩ := bi_ok h7
      refine eo_guard rfl ?_
      refine eo_callP (callable Tryz.func120 rfl rfl) (c_laneref2_only hy8) rfl (Nat.le_of_ble_eq_true rfl) rfl rfl rfl rfl rfl ?_
      refine go_ops hΓ 2 rfl ?_
      obtain rfl := Option.some.inj h9
      exact ⟨⟨rfl, rfl, rfl, trivial⟩, [], rfl, .inl rfl⟩
    · have h10 := cF hq3 hb
      refine go_ops hΓ 5 rfl ?_
      obtain rfl := Option.some.inj h10
      exact ⟨⟨rfl, rfl, rfl, trivial⟩, [], rfl, .inl rfl⟩
  · refine go_ops hΓ 1 rfl ?_
    obtain ⟨q11, hq11, h12⟩ := bi_ok h4
    refine o_cut 3 [(2, B false), (14, B q11)] [] ?_ ?_
    · refine eo_gsplit rfl rfl (fun hb => ?_) (fun hb => ?_)
      · have h13 := cT hq11 hb
        obtain ⟨y14, hy14, h15⟩ := bi_ok h13
        refine go_ops hΓ 1 rfl ?_
        refine eo_guard rfl ?_
        refine eo_callP (callable Tryz.func120 rfl rfl) (c_laneref2_only hy14) rfl (Nat.le_of_ble_eq_true rfl) rfl rfl rfl rfl rfl ?_
        refine go_ops hΓ 2 rfl ?_
        obtain rfl := Option.some.inj h15
        exact ⟨⟨rfl, rfl, trivial⟩, [], rfl, .inl rfl⟩
      · have h16 := cF hq11 hb
        refine go_ops hΓ 4 rfl ?_
        obtain rfl := Option.some.inj h16
        exact ⟨⟨rfl, rfl, trivial⟩, [], rfl, .inl rfl⟩
    · refine go_ops hΓ 4 rfl ?_
      obtain rfl := Option.some.inj h12
      exact fin_pure hΓ (.inr rfl) rfl rfl
theorem c_laneref1_in {n : Int} {low : Int} {high : Int} {r : Bool} (h : m_laneref1_in n low high = some r) : Pure Tryz.prog 70 [I n, I low, I high] (B r) := by
  refine Pure.enter (Fr.of 0 _) Tryz.func70 rfl (Fr.of_ok _) rfl rfl ?_
  refine go_in ?_
  unfold m_laneref1_in at h
  refine go hΓ 11 rfl ?_
  refine o_cut 4 [(6, B false), (14, B ((decide ((low : Int) ≤ n)) && (decide ((n : Int) ≤ high))))] [] ?_ ?_
  · refine eo_gsplit rfl rfl (fun hb => ?_) (fun hb => ?_)
    · refine go_ops hΓ 5 rfl ?_
      exact ⟨⟨rfl, get_b rfl (and_t hb), trivial⟩, [], rfl, .inl rfl⟩
    · refine go_ops hΓ 5 rfl ?_
      exact ⟨⟨rfl, get_b rfl (and_f hb), trivial⟩, [], rfl, .inl rfl⟩
  · refine go_ops hΓ 4 rfl ?_
    obtain rfl := Option.some.inj h
    exact fin_pure hΓ (.inr rfl) rfl rfl
theorem c_laneref2_sign {n : Int} {r : Int} (h : m_laneref2_sign n = some r) : Pure Tryz.prog 153 [I n] (I r) := by
  refine Pure.enter (Fr.of 0 _) Tryz.func153 rfl (Fr.of_ok _) rfl rfl ?_
  refine go_in ?_
  unfold m_laneref2_sign at h
  refine go hΓ 14 rfl ?_
  refine j_cond rfl (fun hb => ?_) (fun hb => ?_)
  · have h1 := cT h hb
    refine go hΓ 8 rfl ?_
    obtain rfl := Option.some.inj h1
    exact fin_pure hΓ (.inr rfl) rfl rfl
  · have h2 := cF h hb
    refine go hΓ 7 rfl ?_
    refine j_cond rfl (fun hb => ?_) (fun hb => ?_)
    · have h3 := cT h2 hb
      refine go hΓ 8 rfl ?_
      obtain rfl := Option.some.inj h3
      exact fin_pure hΓ (.inr rfl) rfl rfl
    · have h4 := cF h2 hb
      refine go hΓ 9 rfl ?_
      obtain rfl := Option.some.inj h4
      exact fin_pure hΓ (.inr rfl) rfl rfl
theorem c_laneref2_wide_cmp {k : Nat} {w : (Int × Int × Int × Int × Int × Int × Int × Int × Int)} {v : (Int × Int × Int × Int × Int × Int × Int × Int × Int)} {r : Int} (h : m_laneref2_wide_cmp k w v = some r) : Pure Tryz.prog 126 [.agg [I w.1, I w.2.1, I w.2.2.1, I w.2.2.2.1, I w.2.2.2.2.1, I w.2.2.2.2.2.1, I w.2.2.2.2.2.2.1, I w.2.2.2.2.2.2.2.1, I w.2.2.2.2.2.2.2.2], .agg [I v.1, I v.2.1, I v.2.2.1, I v.2.2.2.1, I v.2.2.2.2.1, I v.2.2.2.2.2.1, I v.2.2.2.2.2.2.1, I v.2.2.2.2.2.2.2.1, I v.2.2.2.2.2.2.2.2]] (I r) := by
  refine Pure.enter (Fr.of 0 _) Tryz.func126 rfl (Fr.of_ok _) rfl rfl ?_
  refine go_in ?_
  unfold m_laneref2_wide_cmp at h
  refine go hΓ 2 rfl ?_
  refine eo_box rfl rfl rfl rfl (Nat.le_of_ble_eq_true rfl) ?_
  refine eo_box rfl rfl rfl rfl (Nat.le_of_ble_eq_true rfl) ?_
  refine go_ops hΓ 9 rfl ?_
  obtain ⟨q4, hq4, h5⟩ := bi_ok h
  refine j_cutEZ (R := fun a6 => q4 = .inl a6) (fun a6 => []) (fun a6 => [.box 132 [I w.1, I w.2.1, I w.2.2.1, I w.2.2.2.1, I w.2.2.2.2.1, I w.2.2.2.2.2.1, I w.2.2.2.2.2.2.1, I w.2.2.2.2.2.2.2.1, I w.2.2.2.2.2.2.2.2], .box 132 [I v.1, I v.2.1, I v.2.2.1, I v.2.2.2.1, I v.2.2.2.2.1, I v.2.2.2.2.2.1, I v.2.2.2.2.2.2.1, I v.2.2.2.2.2.2.2.1, I v.2.2.2.2.2.2.2.2]]) ?_ ?_
  · refine go hΓ 1 rfl ?_
    refine j_loop hq4 (fun s2 => [(2, .ptr 0 0), (3, .ptr 1 0), (5, I s2)]) (fun s2 => [.box 132 [I w.1, I w.2.1, I w.2.2.1, I w.2.2.2.1, I w.2.2.2.2.1, I w.2.2.2.2.2.1, I w.2.2.2.2.2.2.1, I w.2.2.2.2.2.2.2.1, I w.2.2.2.2.2.2.2.2], .box 132 [I v.1, I v.2.1, I v.2.2.1, I v.2.2.2.1, I v.2.2.2.2.1, I v.2.2.2.2.2.1, I v.2.2.2.2.2.2.1, I v.2.2.2.2.2.2.2.1, I v.2.2.2.2.2.2.2.2]]) ⟨⟨rfl, rfl, rfl, trivial⟩, [], rfl, .inl rfl⟩ (fun s2 y10 hy8 hout9 => ?_)
    refine go hΓ 7 rfl ?_
    refine j_cond rfl (fun hb => ?_) (fun hb => ?_)
    · have h11 := cT hy8 hb
      refine go hΓ 5 rfl ?_
      refine j_draw hmix (by kernel_rfl) ?_
      obtain ⟨x12, hx12, h13⟩ := bi_ok h11
      refine go hΓ 1 rfl ?_
      refine gl_o rfl (op_elemArr hΓ hx12 rfl rfl rfl rfl rfl rfl) ?_
      refine gl_o rfl (op_loadArr hΓ (f := fun z => .d (.v (.int .i64 z))) hx12 rfl rfl rfl rfl rfl rfl) ?_
      obtain ⟨x14, hx14, h15⟩ := bi_ok h13
      refine go_draw hΓ 1 rfl ?_
      refine gl_o rfl (op_elemArr hΓ hx14 rfl rfl rfl rfl rfl rfl) ?_
      refine gl_o rfl (op_loadArr hΓ (f := fun z => .d (.v (.int .i64 z))) hx14 rfl rfl rfl rfl rfl rfl) ?_
      refine go_draw hΓ 3 rfl ?_
      refine j_cond rfl (fun hb => ?_) (fun hb => ?_)
      · have h16 := cT h15 hb
        refine go hΓ 1 rfl ?_
        refine j_draw hmix (by kernel_rfl) ?_
        obtain ⟨x17, hx17, h18⟩ := bi_ok h16
        refine go hΓ 1 rfl ?_
        refine gl_o rfl (op_elemArr hΓ hx17 rfl rfl rfl rfl rfl rfl) ?_
        refine gl_o rfl (op_loadArr hΓ (f := fun z => .d (.v (.int .i64 z))) hx17 rfl rfl rfl rfl rfl rfl) ?_
        obtain ⟨x19, hx19, h20⟩ := bi_ok h18
        refine go_draw hΓ 1 rfl ?_
        refine gl_o rfl (op_elemArr hΓ hx19 rfl rfl rfl rfl rfl rfl) ?_
        refine gl_o rfl (op_loadArr hΓ (f := fun z => .d (.v (.int .i64 z))) hx19 rfl rfl rfl rfl rfl rfl) ?_
        obtain ⟨y21, hy21, h22⟩ := bi_ok h20
        refine go_draw hΓ 1 rfl ?_
        refine gl_callP (callable Tryz.func153 rfl rfl) (c_laneref2_sign hy21) rfl rfl rfl rfl rfl rfl ?_
        refine go_draw hΓ 6 rfl ?_
        obtain ⟨v23, hv23, h24⟩ := bi_ok h22
        obtain rfl := Option.some.inj h24
        obtain rfl := hout9 _ rfl
        obtain rfl := Option.some.inj h5
        refine go hΓ 4 rfl ?_
        obtain rfl := Option.some.inj hv23
        exact fin_pure hΓ (.inr rfl) rfl rfl
      · have h25 := cF h15 hb
        refine go hΓ 8 rfl ?_
        obtain rfl := Option.some.inj h25
        exact ⟨_, rfl, ⟨⟨rfl, rfl, rfl, trivial⟩, [], rfl, .inl rfl⟩⟩
    · have h26 := cF hy8 hb
      refine go hΓ 4 rfl ?_
      obtain rfl := Option.some.inj h26
      obtain rfl := hout9 _ rfl
      exact ⟨_, rfl, ⟨trivial, [], rfl, .inl rfl⟩⟩
  · intro a6 ha
    subst ha
    replace h5 := orI_l h5
    refine go hΓ 7 rfl ?_
    obtain rfl := Option.some.inj h5
    exact fin_pure hΓ (.inr rfl) rfl rfl
theorem c_laneref2_Order {k : Nat} {a : T_api_Addr} {b : T_api_Addr} {r : Int} (h : m_laneref2_Order k a b = some r) : Pure Tryz.prog 121 [.agg [B a.Six, .d (.v (.int .u64 a.Hi)), .d (.v (.int .u64 a.Lo))], .agg [B b.Six, .d (.v (.int .u64 b.Hi)), .d (.v (.int .u64 b.Lo))]] (I r) := by
  refine Pure.enter (Fr.of 0 _) Tryz.func121 rfl (Fr.of_ok _) rfl rfl ?_
  refine go_in ?_
  unfold m_laneref2_Order at h
  refine go hΓ 2 rfl ?_
  refine eo_box rfl rfl rfl rfl (Nat.le_of_ble_eq_true rfl) ?_
  refine eo_box rfl rfl rfl rfl (Nat.le_of_ble_eq_true rfl) ?_
  refine go_ops hΓ 4 rfl ?_
  refine j_draw hmix (by kernel_rfl) ?_
  obtain ⟨y1, hy1, h2⟩ := bi_ok h
  refine go hΓ 1 rfl ?_
  refine gl_callP (callable Tryz.func97 rfl rfl) (c_laneref2_of hy1) rfl rfl rfl rfl rfl rfl ?_
  obtain ⟨y3, hy3, h4⟩ := bi_ok h2
  refine go_draw hΓ 1 rfl ?_
  refine gl_callP (callable Tryz.func97 rfl rfl) (c_laneref2_of hy3) rfl rfl rfl rfl rfl rfl ?_
  obtain ⟨y5, hy5, h6⟩ := bi_ok h4
  refine gl_callP (callable Tryz.func126 rfl rfl) (c_laneref2_wide_cmp hy5) rfl rfl rfl rfl rfl rfl ?_
  refine go_draw hΓ 4 rfl ?_
  obtain rfl := Option.some.inj h6
  exact fin_pure hΓ (.inr rfl) rfl rfl
theorem c_laneref1_PrefixOrder {k : Nat} {a : T_api_Prefix} {b : T_api_Prefix} {r : Int} (h : m_laneref1_PrefixOrder k a b = some r) : Pure Tryz.prog 72 [.agg [B a.Addr.Six, .d (.v (.int .u64 a.Addr.Hi)), .d (.v (.int .u64 a.Addr.Lo)), I a.Bits], .agg [B b.Addr.Six, .d (.v (.int .u64 b.Addr.Hi)), .d (.v (.int .u64 b.Addr.Lo)), I b.Bits]] (I r) := by
  refine Pure.enter (Fr.of 0 _) Tryz.func72 rfl (Fr.of_ok _) rfl rfl ?_
  refine go_in ?_
  unfold m_laneref1_PrefixOrder at h
  refine go hΓ 2 rfl ?_
  refine eo_box rfl rfl rfl rfl (Nat.le_of_ble_eq_true rfl) ?_
  refine eo_box rfl rfl rfl rfl (Nat.le_of_ble_eq_true rfl) ?_
  refine go_ops hΓ 4 rfl ?_
  refine j_draw hmix (by kernel_rfl) ?_
  obtain ⟨y1, hy1, h2⟩ := bi_ok h
  refine go hΓ 4 rfl ?_
  refine gl_callP (callable Tryz.func121 rfl rfl) (c_laneref2_Order hy1) rfl rfl rfl rfl rfl rfl ?_
  obtain ⟨y3, hy3, h4⟩ := bi_ok h2
  refine go_draw hΓ 4 rfl ?_
  refine gl_callP (callable Tryz.func68 rfl rfl) (c_cmp_Compare_int hy3) rfl rfl rfl rfl rfl rfl ?_
  refine gl_litT hΓ (enc := (eN .i64)) [y1, y3] rfl rfl rfl rfl rfl rfl rfl rfl rfl rfl rfl rfl ?_
  obtain ⟨y5, hy5, h6⟩ := bi_ok h4
  refine gl_callP (callable Tryz.func71 rfl rfl) (c_cmp_Or_int hy5) rfl rfl rfl rfl rfl rfl ?_
  refine go_draw hΓ 4 rfl ?_
  obtain rfl := Option.some.inj h6
  exact fin_pure hΓ (.inr rfl) rfl rfl
theorem c_laneref1_RoutersFault {k : Nat} {l : List T_api_Router} {r : Int} (h : m_laneref1_RoutersFault k l = some r) : Pure Tryz.prog 16 [.d (Sl e_api_Router l)] (I r) := by
  refine Pure.enter (Fr.of 0 _) Tryz.func16 rfl (Fr.of_ok _) rfl rfl ?_
  refine go_in ?_
  unfold m_laneref1_RoutersFault at h
  refine go hΓ 13 rfl ?_
  refine j_cond rfl (fun hb => ?_) (fun hb => ?_)
  · have h1 := cT h hb
    refine go hΓ 7 rfl ?_
    obtain rfl := Option.some.inj h1
    exact fin_pure hΓ (.inr rfl) rfl rfl
  · have h2 := cF h hb
    refine go hΓ 10 rfl ?_
    obtain ⟨q6, hq6, h7⟩ := bi_ok h2
    refine j_bound 0 rfl fun hb9 => ?_
    refine j_cutEZ (R := fun a8 => q6 = .go a8) (fun a8 => []) (fun a8 => []) ?_ ?_
    · refine go hΓ 1 rfl ?_
      refine j_range l hq6 (fun i3 s4 => [(0, .d (Sl e_api_Router l)), (9, .d (Sl e_api_Router l)), (10, I (l.length : Int)), (11, I (i3 : Int))]) (fun s4 => []) ⟨⟨rfl, rfl, rfl, rfl, trivial⟩, [], rfl, .inl rfl⟩ (fun i3 x5 s4 y13 hx10 hlt hy11 hout12 => ?_) (fun s4 hgo => ?_)
      · refine go hΓ 6 rfl ?_
        refine j_condT rfl (decide_eq_true (Int.ofNat_lt.2 hlt)) ?_
        refine go hΓ 7 rfl ?_
        refine eo_o rfl (op_elemZ hΓ (enc := e_api_Router) (getZ_nat hx10) rfl rfl rfl rfl rfl (fun _ => rfl)) ?_
        refine go_ops hΓ 1 rfl ?_
        refine eo_alloc hΓ rfl rfl rfl (Nat.le_of_ble_eq_true rfl) ?_
        refine go_ops hΓ 1 rfl ?_
        refine eo_store hΓ rfl rfl rfl rfl rfl rfl rfl rfl (Nat.le_of_ble_eq_true rfl) ?_
        refine eo_hp [.box 69 [B x5.Prefix.Addr.Six, .d (.v (.int .u64 x5.Prefix.Addr.Hi)), .d (.v (.int .u64 x5.Prefix.Addr.Lo)), I x5.Prefix.Bits, S x5.Node, I x5.Weight]] rfl ?_
        obtain ⟨y14, hy14, h15⟩ := bi_ok hy11
        refine go_ops hΓ 7 rfl ?_
        refine eo_callP (callable Tryz.func41 rfl rfl) (c_laneref2_PrefixFault hy14) rfl (Nat.le_of_ble_eq_true rfl) rfl rfl rfl rfl rfl ?_
        refine go_ops hΓ 9 rfl ?_
        refine j_cond rfl (fun hb => ?_) (fun hb => ?_)
        · have h16 := cT h15 hb
          refine go hΓ 10 rfl ?_
          obtain ⟨v17, hv17, h18⟩ := bi_ok h16
          obtain rfl := Option.some.inj h18
          obtain rfl := hout12 _ rfl
          obtain rfl := Option.some.inj h7
          refine go hΓ 4 rfl ?_
          obtain rfl := Option.some.inj hv17
          exact fin_pure hΓ (.inr rfl) rfl rfl
        · have h19 := cF h15 hb
          obtain ⟨y20, hy20, h21⟩ := bi_ok h19
          refine go hΓ 7 rfl ?_
          refine eo_callP (callable Tryz.func69 rfl rfl) (c_laneref2_Key hy20) rfl (Nat.le_of_ble_eq_true rfl) rfl rfl rfl rfl rfl ?_
          refine go_ops hΓ 4 rfl ?_
          refine j_cond rfl (fun hb => ?_) (fun hb => ?_)
          · have h22 := cT h21 hb
            refine go hΓ 9 rfl ?_
            obtain ⟨v23, hv23, h24⟩ := bi_ok h22
            obtain rfl := Option.some.inj h24
            obtain rfl := hout12 _ rfl
            obtain rfl := Option.some.inj h7
            refine go hΓ 4 rfl ?_
            obtain rfl := Option.some.inj hv23
            exact fin_pure hΓ (.inr rfl) rfl rfl
          · have h25 := cF h21 hb
            obtain ⟨y26, hy26, h27⟩ := bi_ok h25
            refine go hΓ 4 rfl ?_
            refine eo_callP (callable Tryz.func70 rfl rfl) (c_laneref1_in hy26) rfl (Nat.le_of_ble_eq_true rfl) rfl rfl rfl rfl rfl ?_
            refine go_ops hΓ 4 rfl ?_
            refine j_cond rfl (fun hb => ?_) (fun hb => ?_)
            · have h28 := cT h27 hb
              refine go hΓ 9 rfl ?_
              obtain ⟨v29, hv29, h30⟩ := bi_ok h28
              obtain rfl := Option.some.inj h30
              obtain rfl := hout12 _ rfl
              obtain rfl := Option.some.inj h7
              refine go hΓ 4 rfl ?_
              obtain rfl := Option.some.inj hv29
              exact fin_pure hΓ (.inr rfl) rfl rfl
            · have h31 := cF h27 hb
              obtain ⟨q32, hq32, h33⟩ := bi_ok h31
              refine go hΓ 1 rfl ?_
              refine j_cutNZ [(0, .d (Sl e_api_Router l)), (9, .d (Sl e_api_Router l)), (10, I (l.length : Int)), (11, I (i3 : Int)), (32, B q32)] [.box 69 [B x5.Prefix.Addr.Six, .d (.v (.int .u64 x5.Prefix.Addr.Hi)), .d (.v (.int .u64 x5.Prefix.Addr.Lo)), I x5.Prefix.Bits, S x5.Node, I x5.Weight]] ?_ ?_
              · refine j_drawE [.box 69 [B x5.Prefix.Addr.Six, .d (.v (.int .u64 x5.Prefix.Addr.Hi)), .d (.v (.int .u64 x5.Prefix.Addr.Lo)), I x5.Prefix.Bits, S x5.Node, I x5.Weight]] [10, 19] [] [] hmix (by kernel_rfl) (by kernel_rfl) ⟨rfl, trivial⟩ (Nat.le_of_ble_eq_true rfl) ?_
                refine go_E hΓ 3 rfl ?_
                refine ge_gsplit rfl rfl (fun hb => ?_) (fun hb => ?_)
                · have h34 := cT hq32 hb
                  obtain ⟨x35, hx35, h36⟩ := bi_ok h34
                  refine go_E hΓ 3 rfl ?_
                  refine ge_q rfl (.inr ⟨_, _, rfl, rfl⟩) (fun _ _ => qte_of_qt (qt_p (op_elemZ hΓ (enc := e_api_Router) hx35 rfl rfl rfl rfl rfl (fun _ => rfl)))) ?_
                  obtain ⟨y37, hy37, h38⟩ := bi_ok h36
                  refine go_E hΓ 4 rfl ?_
                  refine ge_callPg rfl (callable Tryz.func72 rfl rfl) (c_laneref1_PrefixOrder hy37) rfl rfl rfl rfl rfl rfl ?_
                  obtain ⟨x39, hx39, h40⟩ := bi_ok h38
                  refine go_E hΓ 3 rfl ?_
                  refine ge_q rfl (.inr ⟨_, _, rfl, rfl⟩) (fun _ _ => qte_of_qt (qt_p (op_elemZ hΓ (enc := e_api_Router) hx39 rfl rfl rfl rfl rfl (fun _ => rfl)))) ?_
                  obtain ⟨y41, hy41, h42⟩ := bi_ok h40
                  refine go_E hΓ 4 rfl ?_
                  refine ge_callPg rfl (callable Tryz.func73 rfl rfl) (c_strings_Compare hy41) rfl rfl rfl rfl rfl rfl ?_
                  refine ge_litTg hΓ (enc := (eN .i64)) [y37, y41] rfl rfl rfl rfl rfl rfl rfl rfl rfl rfl rfl rfl rfl ?_
                  obtain ⟨y43, hy43, h44⟩ := bi_ok h42
                  refine ge_callPg rfl (callable Tryz.func71 rfl rfl) (c_cmp_Or_int hy43) rfl rfl rfl rfl rfl rfl ?_
                  refine go_E hΓ 3 rfl ?_
                  refine ge_fin ?_
                  obtain rfl := Option.some.inj h44
                  exact ⟨⟨rfl, rfl, rfl, rfl, rfl, trivial⟩, [], rfl, .inl rfl⟩
                · have h45 := cF hq32 hb
                  refine go_E hΓ 23 rfl ?_
                  refine ge_fin ?_
                  obtain rfl := Option.some.inj h45
                  exact ⟨⟨rfl, rfl, rfl, rfl, rfl, trivial⟩, [], rfl, .inl rfl⟩
              · refine go hΓ 1 rfl ?_
                refine j_cond rfl (fun hb => ?_) (fun hb => ?_)
                · have h46 := cT h33 hb
                  refine go hΓ 9 rfl ?_
                  obtain ⟨v47, hv47, h48⟩ := bi_ok h46
                  obtain rfl := Option.some.inj h48
                  obtain rfl := hout12 _ rfl
                  obtain rfl := Option.some.inj h7
                  refine go hΓ 4 rfl ?_
                  obtain rfl := Option.some.inj hv47
                  exact fin_pure hΓ (.inr rfl) rfl rfl
                · have h49 := cF h33 hb
                  refine go hΓ 8 rfl ?_
                  obtain rfl := Option.some.inj h49
                  exact ⟨_, rfl, ⟨⟨rfl, rfl, rfl, get_eq rfl (w64_succ (Nat.lt_of_lt_of_le hlt hb9)), trivial⟩, [_], rfl, .inr ⟨HB.mk rfl, FB.mk rfl, (Nat.le_of_ble_eq_true rfl)⟩⟩⟩
      · subst hgo
        refine go hΓ 6 rfl ?_
        refine j_condF rfl (decide_eq_false (Int.lt_irrefl _)) ?_
        refine go hΓ 4 rfl ?_
        exact ⟨_, rfl, ⟨trivial, [], rfl, .inl rfl⟩⟩
    · intro a8 ha
      subst ha
      replace h7 := goI_l h7
      refine go hΓ 7 rfl ?_
      obtain rfl := Option.some.inj h7
      exact fin_pure hΓ (.inr rfl) rfl rfl
theorem c_laneref2_Moment {v_at : Int} {r : Bool} (h : m_laneref2_Moment v_at = some r) : Pure Tryz.prog 74 [I v_at] (B r) := by
  refine Pure.enter (Fr.of 0 _) Tryz.func74 rfl (Fr.of_ok _) rfl rfl ?_
  refine go_in ?_
  unfold m_laneref2_Moment at h
  obtain ⟨y1, hy1, h2⟩ := bi_ok h
  refine go hΓ 8 rfl ?_
  refine eo_callP (callable Tryz.func94 rfl rfl) (c_laneref2_in hy1) rfl (Nat.le_of_ble_eq_true rfl) rfl rfl rfl rfl rfl ?_
  refine go_ops hΓ 4 rfl ?_
  obtain rfl := Option.some.inj h2
  exact fin_pure hΓ (.inr rfl) rfl rfl
theorem c_laneref1_HealthFault {l : List T_api_Health} {r : Int} (h : m_laneref1_HealthFault l = some r) : Pure Tryz.prog 17 [.d (Sl e_api_Health l)] (I r) := by
  refine Pure.enter (Fr.of 0 _) Tryz.func17 rfl (Fr.of_ok _) rfl rfl ?_
  refine go_in ?_
  unfold m_laneref1_HealthFault at h
  refine go hΓ 13 rfl ?_
  refine j_cond rfl (fun hb => ?_) (fun hb => ?_)
  · have h1 := cT h hb
    refine go hΓ 7 rfl ?_
    obtain rfl := Option.some.inj h1
    exact fin_pure hΓ (.inr rfl) rfl rfl
  · have h2 := cF h hb
    refine go hΓ 10 rfl ?_
    obtain ⟨q6, hq6, h7⟩ := bi_ok h2
    refine j_bound 0 rfl fun hb9 => ?_
    refine j_cutEZ (R := fun a8 => q6 = .go a8) (fun a8 => []) (fun a8 => []) ?_ ?_
    · refine go hΓ 1 rfl ?_
      refine j_range l hq6 (fun i3 s4 => [(0, .d (Sl e_api_Health l)), (8, .d (Sl e_api_Health l)), (9, I (l.length : Int)), (10, I (i3 : Int))]) (fun s4 => []) ⟨⟨rfl, rfl, rfl, rfl, trivial⟩, [], rfl, .inl rfl⟩ (fun i3 x5 s4 y13 hx10 hlt hy11 hout12 => ?_) (fun s4 hgo => ?_)
      · refine go hΓ 6 rfl ?_
        refine j_condT rfl (decide_eq_true (Int.ofNat_lt.2 hlt)) ?_
        refine go hΓ 7 rfl ?_
        refine eo_o rfl (op_elemZ hΓ (enc := e_api_Health) (getZ_nat hx10) rfl rfl rfl rfl rfl (fun _ => rfl)) ?_
        refine go_ops hΓ 1 rfl ?_
        refine eo_alloc hΓ rfl rfl rfl (Nat.le_of_ble_eq_true rfl) ?_
        refine go_ops hΓ 1 rfl ?_
        refine eo_store hΓ rfl rfl rfl rfl rfl rfl rfl rfl (Nat.le_of_ble_eq_true rfl) ?_
        refine eo_hp [.box 103 [I x5.At, S x5.Node, B x5.Up]] rfl ?_
        obtain ⟨y14, hy14, h15⟩ := bi_ok hy11
        refine go_ops hΓ 7 rfl ?_
        refine eo_callP (callable Tryz.func74 rfl rfl) (c_laneref2_Moment hy14) rfl (Nat.le_of_ble_eq_true rfl) rfl rfl rfl rfl rfl ?_
        refine go_ops hΓ 4 rfl ?_
        refine j_cond rfl (fun hb => ?_) (fun hb => ?_)
        · have h16 := cT h15 hb
          refine go hΓ 9 rfl ?_
          obtain ⟨v17, hv17, h18⟩ := bi_ok h16
          obtain rfl := Option.some.inj h18
          obtain rfl := hout12 _ rfl
          obtain rfl := Option.some.inj h7
          refine go hΓ 4 rfl ?_
          obtain rfl := Option.some.inj hv17
          exact fin_pure hΓ (.inr rfl) rfl rfl
        · have h19 := cF h15 hb
          obtain ⟨y20, hy20, h21⟩ := bi_ok h19
          refine go hΓ 4 rfl ?_
          refine eo_callP (callable Tryz.func69 rfl rfl) (c_laneref2_Key hy20) rfl (Nat.le_of_ble_eq_true rfl) rfl rfl rfl rfl rfl ?_
          refine go_ops hΓ 4 rfl ?_
          refine j_cond rfl (fun hb => ?_) (fun hb => ?_)
          · have h22 := cT h21 hb
            refine go hΓ 9 rfl ?_
            obtain ⟨v23, hv23, h24⟩ := bi_ok h22
            obtain rfl := Option.some.inj h24
            obtain rfl := hout12 _ rfl
            obtain rfl := Option.some.inj h7
            refine go hΓ 4 rfl ?_
            obtain rfl := Option.some.inj hv23
            exact fin_pure hΓ (.inr rfl) rfl rfl
          · have h25 := cF h21 hb
            obtain ⟨q26, hq26, h27⟩ := bi_ok h25
            refine go hΓ 1 rfl ?_
            refine j_cutNZ [(0, .d (Sl e_api_Health l)), (8, .d (Sl e_api_Health l)), (9, I (l.length : Int)), (10, I (i3 : Int)), (25, B q26)] [.box 103 [I x5.At, S x5.Node, B x5.Up]] ?_ ?_
            · refine j_drawE [.box 103 [I x5.At, S x5.Node, B x5.Up]] [10, 19] [] [] hmix (by kernel_rfl) (by kernel_rfl) ⟨rfl, trivial⟩ (Nat.le_of_ble_eq_true rfl) ?_
              refine go_E hΓ 3 rfl ?_
              refine ge_gsplit rfl rfl (fun hb => ?_) (fun hb => ?_)
              · have h28 := cT hq26 hb
                obtain ⟨x29, hx29, h30⟩ := bi_ok h28
                refine go_E hΓ 3 rfl ?_
                refine ge_q rfl (.inr ⟨_, _, rfl, rfl⟩) (fun _ _ => qte_of_qt (qt_p (op_elemZ hΓ (enc := e_api_Health) hx29 rfl rfl rfl rfl rfl (fun _ => rfl)))) ?_
                obtain ⟨y31, hy31, h32⟩ := bi_ok h30
                refine go_E hΓ 4 rfl ?_
                refine ge_callPg rfl (callable Tryz.func68 rfl rfl) (c_cmp_Compare_int hy31) rfl rfl rfl rfl rfl rfl ?_
                obtain ⟨x33, hx33, h34⟩ := bi_ok h32
                refine go_E hΓ 3 rfl ?_
                refine ge_q rfl (.inr ⟨_, _, rfl, rfl⟩) (fun _ _ => qte_of_qt (qt_p (op_elemZ hΓ (enc := e_api_Health) hx33 rfl rfl rfl rfl rfl (fun _ => rfl)))) ?_
                obtain ⟨y35, hy35, h36⟩ := bi_ok h34
                refine go_E hΓ 4 rfl ?_
                refine ge_callPg rfl (callable Tryz.func73 rfl rfl) (c_strings_Compare hy35) rfl rfl rfl rfl rfl rfl ?_
                refine ge_litTg hΓ (enc := (eN .i64)) [y31, y35] rfl rfl rfl rfl rfl rfl rfl rfl rfl rfl rfl rfl rfl ?_
                obtain ⟨y37, hy37, h38⟩ := bi_ok h36
                refine ge_callPg rfl (callable Tryz.func71 rfl rfl) (c_cmp_Or_int hy37) rfl rfl rfl rfl rfl rfl ?_
                refine go_E hΓ 3 rfl ?_
                refine ge_fin ?_
                obtain rfl := Option.some.inj h38
                exact ⟨⟨rfl, rfl, rfl, rfl, rfl, trivial⟩, [], rfl, .inl rfl⟩
              · have h39 := cF hq26 hb
                refine go_E hΓ 23 rfl ?_
                refine ge_fin ?_
                obtain rfl := Option.some.inj h39
                exact ⟨⟨rfl, rfl, rfl, rfl, rfl, trivial⟩, [], rfl, .inl rfl⟩
            · refine go hΓ 1 rfl ?_
              refine j_cond rfl (fun hb => ?_) (fun hb => ?_)
              · have h40 := cT h27 hb
                refine go hΓ 9 rfl ?_
                obtain ⟨v41, hv41, h42⟩ := bi_ok h40
                obtain rfl := Option.some.inj h42
                obtain rfl := hout12 _ rfl
                obtain rfl := Option.some.inj h7
                refine go hΓ 4 rfl ?_
                obtain rfl := Option.some.inj hv41
                exact fin_pure hΓ (.inr rfl) rfl rfl
              · have h43 := cF h27 hb
                refine go hΓ 8 rfl ?_
                obtain rfl := Option.some.inj h43
                exact ⟨_, rfl, ⟨⟨rfl, rfl, rfl, get_eq rfl (w64_succ (Nat.lt_of_lt_of_le hlt hb9)), trivial⟩, [_], rfl, .inr ⟨HB.mk rfl, FB.mk rfl, (Nat.le_of_ble_eq_true rfl)⟩⟩⟩
      · subst hgo
        refine go hΓ 6 rfl ?_
        refine j_condF rfl (decide_eq_false (Int.lt_irrefl _)) ?_
        refine go hΓ 4 rfl ?_
        exact ⟨_, rfl, ⟨trivial, [], rfl, .inl rfl⟩⟩
    · intro a8 ha
      subst ha
      replace h7 := goI_l h7
      refine go hΓ 7 rfl ?_
      obtain rfl := Option.some.inj h7
      exact fin_pure hΓ (.inr rfl) rfl rfl
theorem c_cmp_Or_api_Errno {vals : List Int} {r : Int} (h : m_cmp_Or_api_Errno vals = some r) : Pure Tryz.prog 15 [.d (Sl (eN .i64) vals)] (I r) := by
  refine Pure.enter (Fr.of 0 _) Tryz.func15 rfl (Fr.of_ok _) rfl rfl ?_
  refine go_in ?_
  unfold m_cmp_Or_api_Errno at h
  refine go hΓ 18 rfl ?_
  obtain ⟨q4, hq4, h5⟩ := bi_ok h
  refine j_bound 6 rfl fun hb7 => ?_
  refine j_cutEZ (R := fun a6 => q4 = .go a6) (fun a6 => [(3, I 0)]) (fun a6 => []) ?_ ?_
  · refine go hΓ 1 rfl ?_
    refine j_range vals hq4 (fun i1 s2 => [(3, I 0), (6, .d (Sl (eN .i64) vals)), (7, I (vals.length : Int)), (8, I (i1 : Int))]) (fun s2 => []) ⟨⟨rfl, rfl, rfl, rfl, trivial⟩, [], rfl, .inl rfl⟩ (fun i1 x3 s2 y11 hx8 hlt hy9 hout10 => ?_) (fun s2 hgo => ?_)
    · refine go hΓ 6 rfl ?_
      refine j_condT rfl (decide_eq_true (Int.ofNat_lt.2 hlt)) ?_
      refine go hΓ 6 rfl ?_
      refine eo_o rfl (op_elemZ hΓ (enc := (eN .i64)) (getZ_nat hx8) rfl rfl rfl rfl rfl (fun _ => rfl)) ?_
      refine go_ops hΓ 11 rfl ?_
      refine j_cond rfl (fun hb => ?_) (fun hb => ?_)
      · have h12 := cT hy9 hb
        refine go hΓ 9 rfl ?_
        obtain ⟨v13, hv13, h14⟩ := bi_ok h12
        obtain rfl := Option.some.inj h14
        obtain rfl := hout10 _ rfl
        obtain rfl := Option.some.inj h5
        refine go hΓ 4 rfl ?_
        obtain rfl := Option.some.inj hv13
        exact fin_pure hΓ (.inr rfl) rfl rfl
      · have h15 := cF hy9 hb
        refine go hΓ 7 rfl ?_
        obtain rfl := Option.some.inj h15
        exact ⟨_, rfl, ⟨⟨rfl, rfl, rfl, get_eq rfl (w64_succ (Nat.lt_of_lt_of_le hlt hb7)), trivial⟩, [], rfl, .inl rfl⟩⟩
    · subst hgo
      refine go hΓ 6 rfl ?_
      refine j_condF rfl (decide_eq_false (Int.lt_irrefl _)) ?_
      refine go hΓ 4 rfl ?_
      exact ⟨_, rfl, ⟨⟨rfl, trivial⟩, [], rfl, .inl rfl⟩⟩
  · intro a6 ha
    subst ha
    replace h5 := goI_l h5
    refine go hΓ 8 rfl ?_
    obtain rfl := Option.some.inj h5
    exact fin_pure hΓ (.inr rfl) rfl rfl
theorem c_laneref1_MomentFault {v_at : Int} {r : Int} (h : m_laneref1_MomentFault v_at = some r) : Pure Tryz.prog 18 [I v_at] (I r) := by
  refine Pure.enter (Fr.of 0 _) Tryz.func18 rfl (Fr.of_ok _) rfl rfl ?_
  refine go_in ?_
  unfold m_laneref1_MomentFault at h
  obtain ⟨y1, hy1, h2⟩ := bi_ok h
  refine go hΓ 9 rfl ?_
  refine eo_callP (callable Tryz.func74 rfl rfl) (c_laneref2_Moment hy1) rfl (Nat.le_of_ble_eq_true rfl) rfl rfl rfl rfl rfl ?_
  refine go_ops hΓ 3 rfl ?_
  refine j_cond rfl (fun hb => ?_) (fun hb => ?_)
  · have h3 := cT h2 hb
    refine go hΓ 7 rfl ?_
    obtain rfl := Option.some.inj h3
    exact fin_pure hΓ (.inr rfl) rfl rfl
  · have h4 := cF h2 hb
    refine go hΓ 8 rfl ?_
    obtain rfl := Option.some.inj h4
    exact fin_pure hΓ (.inr rfl) rfl rfl
end Go.Proofs.YtnjnmkpgedkffaaGreatDoor
