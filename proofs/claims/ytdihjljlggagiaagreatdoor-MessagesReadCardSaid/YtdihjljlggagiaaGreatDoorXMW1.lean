/-
  The functions compute their models.
-/
import Derived.Test.YtdihjljlggagiaaGreatDoorXMM
import Derived.Test.YtdihjljlggagiaaGreatDoorGt
import Derived.Test.YtdihjljlggagiaaGreatDoorStr
import Derived.Test.YtdihjljlggagiaaGreatDoorStr2
import Derived.Test.YtdihjljlggagiaaGreatDoorStr5
set_option linter.unusedVariables false
set_option linter.unusedSimpArgs false
set_option maxRecDepth 100000
namespace Go.Proofs.YtdihjljlggagiaaGreatDoor
open Go.Gk
abbrev e_lanemake_Stream (x : T_lanemake_Stream) : List D := [Sl (eN .i64) x.L, .v (.int .i64 x.v_at)]
abbrev e_api_Question (x : T_api_Question) : List D := [.v (.string ⟨x.Name.toArray⟩), .v (.int .i64 x.Kind)]
abbrev e_api_Addr (x : T_api_Addr) : List D := [.v (.bool x.Six), .v (.int .u64 x.Hi), .v (.int .u64 x.Lo)]
abbrev e_api_Record (x : T_api_Record) : List D := [.v (.string ⟨x.Name.toArray⟩), .v (.int .i64 x.Kind), .v (.bool x.Addr.Six), .v (.int .u64 x.Addr.Hi), .v (.int .u64 x.Addr.Lo), .v (.string ⟨x.To.toArray⟩), .v (.string ⟨x.Words.toArray⟩), .v (.int .i64 x.Life)]
abbrev e_api_Message (x : T_api_Message) : List D := [.v (.int .i64 x.Id), .v (.bool x.Reply), .v (.int .i64 x.Code), Sl e_api_Question x.Asked, Sl e_api_Record x.Got]
abbrev e_name_decoder (x : T_name_decoder) : List D := [Sl (eN .u8) x.b, .v (.int .i64 x.v_at), .v (.bool x.bad)]
abbrev e_laneref1_bytesReader (x : T_laneref1_bytesReader) : List D := [Sl (eN .u8) x.b, .v (.int .i64 x.v_at), .v (.bool x.bad)]
theorem c_lanemake_Below {x : Int} {n : Int} {r : Int} (h : m_lanemake_Below x n = some r) : Pure Tryz.prog 55 [I x, I n] (I r) := by
  refine Pure.enter (Fr.of 0 _) Tryz.func55 rfl (Fr.of_ok _) rfl rfl ?_
  refine go_in ?_
  unfold m_lanemake_Below at h
  refine go hΓ 12 rfl ?_
  refine j_cond rfl (fun hb => ?_) (fun hb => ?_)
  · have h1 := cT h hb
    refine go hΓ 7 rfl ?_
    obtain rfl := Option.some.inj h1
    exact fin_pure hΓ (.inr rfl) rfl rfl
  · have h2 := cF h hb
    obtain ⟨y3, hy3, h4⟩ := bi_ok h2
    refine go hΓ 6 rfl ?_
    refine eo_o rfl (op_remZ hy3 rfl rfl) ?_
    obtain ⟨q5, hq5, h6⟩ := bi_ok h4
    refine go_ops hΓ 10 rfl ?_
    refine j_cutNZ [(0, I q5)] [] ?_ ?_
    · refine j_cond rfl (fun hb => ?_) (fun hb => ?_)
      · have h7 := cT hq5 hb
        refine go hΓ 6 rfl ?_
        obtain rfl := Option.some.inj h7
        exact ⟨⟨rfl, trivial⟩, [], rfl, .inl rfl⟩
      · have h8 := cF hq5 hb
        refine go hΓ 1 rfl ?_
        obtain rfl := Option.some.inj h8
        exact ⟨⟨rfl, trivial⟩, [], rfl, .inl rfl⟩
    · refine go hΓ 8 rfl ?_
      obtain rfl := Option.some.inj h6
      exact fin_pure hΓ (.inr rfl) rfl rfl
theorem c_lanemake_Stream_Next {s : T_lanemake_Stream} {n : Int} {r : Int × T_lanemake_Stream} (h : m_lanemake_Stream_Next s n = some r) : EC Tryz.prog 14 [.ptr 0 0, I n] [.box 25 [.d (Sl (eN .i64) s.L), I s.v_at]] fun g hp' => g = I r.1 ∧ hp' = [.box 25 [.d (Sl (eN .i64) r.2.L), I r.2.v_at]] := by
  refine ec_enter (Fr.of 0 _) Tryz.func14 rfl (Fr.of_ok _) (Nat.le_of_ble_eq_true rfl) fun _ => ?_
  refine go_in ?_
  unfold m_lanemake_Stream_Next at h
  refine go hΓ 14 rfl ?_
  refine eo_store hΓ rfl rfl rfl rfl rfl rfl rfl rfl (Nat.le_of_ble_eq_true rfl) ?_
  refine eo_hp [.box 25 [.d (Sl (eN .i64) s.L), I (wi (s.v_at + 1))]] rfl ?_
  refine go_ops hΓ 13 rfl ?_
  refine j_cond rfl (fun hb => ?_) (fun hb => ?_)
  · have h1 := cT h hb
    obtain ⟨y2, hy2, h3⟩ := bi_ok h1
    refine go hΓ 8 rfl ?_
    refine eo_callP (callable Tryz.func55 rfl rfl) (c_lanemake_Below hy2) rfl (Nat.le_of_ble_eq_true rfl) rfl rfl rfl rfl rfl ?_
    refine go_ops hΓ 5 rfl ?_
    obtain rfl := Option.some.inj h3
    exact fin_objs hΓ [] (.inr rfl) rfl rfl rfl rfl (.inl rfl)
  · have h4 := cF h hb
    refine go hΓ 3 rfl ?_
    refine j_draw hmix (by kernel_rfl) ?_
    obtain ⟨y5, hy5, h6⟩ := bi_ok h4
    refine go hΓ 10 rfl ?_
    refine gl_o rfl (op_remZ hy5 rfl rfl) ?_
    refine go_draw hΓ 4 rfl ?_
    refine j_draw hmix (by kernel_rfl) ?_
    obtain ⟨y7, hy7, h8⟩ := bi_ok h6
    refine go hΓ 10 rfl ?_
    refine gl_o rfl (op_quoZ hy7 rfl rfl) ?_
    obtain ⟨x9, hx9, h10⟩ := bi_ok h8
    refine go_draw hΓ 10 rfl ?_
    refine eo_o rfl (op_elemZ hΓ (enc := (eN .i64)) hx9 rfl rfl rfl rfl rfl (fun _ => rfl)) ?_
    obtain ⟨y11, hy11, h12⟩ := bi_ok h10
    refine go_ops hΓ 1 rfl ?_
    refine eo_callP (callable Tryz.func55 rfl rfl) (c_lanemake_Below hy11) rfl (Nat.le_of_ble_eq_true rfl) rfl rfl rfl rfl rfl ?_
    obtain ⟨y13, hy13, h14⟩ := bi_ok h12
    refine go_ops hΓ 6 rfl ?_
    refine eo_callP (callable Tryz.func55 rfl rfl) (c_lanemake_Below hy13) rfl (Nat.le_of_ble_eq_true rfl) rfl rfl rfl rfl rfl ?_
    refine go_ops hΓ 4 rfl ?_
    obtain rfl := Option.some.inj h14
    exact fin_objs hΓ [] (.inr rfl) rfl rfl rfl rfl (.inl rfl)
theorem c_lanemake_Stream_Pick {s : T_lanemake_Stream} {l : List Int} {r : Int × T_lanemake_Stream} (h : m_lanemake_Stream_Pick s l = some r) : EC Tryz.prog 11 [.ptr 0 0, .d (Sl (eN .i64) l)] [.box 25 [.d (Sl (eN .i64) s.L), I s.v_at]] fun g hp' => g = I r.1 ∧ hp' = [.box 25 [.d (Sl (eN .i64) r.2.L), I r.2.v_at]] := by
  refine ec_enter (Fr.of 0 _) Tryz.func11 rfl (Fr.of_ok _) (Nat.le_of_ble_eq_true rfl) fun _ => ?_
  refine go_in ?_
  unfold m_lanemake_Stream_Pick at h
  obtain ⟨y1, hy1, h2⟩ := bi_ok h
  refine go hΓ 11 rfl ?_
  refine eo_callF [0] (I y1.1) [.box 25 [.d (Sl (eN .i64) y1.2.L), I y1.2.v_at]] (callable Tryz.func14 rfl rfl) (c_lanemake_Stream_Next hy1) rfl (Nat.le_of_ble_eq_true rfl) rfl rfl rfl rfl rfl rfl rfl rfl rfl rfl ?_
  obtain ⟨x3, hx3, h4⟩ := bi_ok h2
  refine eo_o rfl (op_elemZ hΓ (enc := (eN .i64)) hx3 rfl rfl rfl rfl rfl (fun _ => rfl)) ?_
  refine go_ops hΓ 5 rfl ?_
  obtain rfl := Option.some.inj h4
  exact fin_objs hΓ [] (.inr rfl) rfl rfl rfl rfl (.inl rfl)
theorem c_lanemake_Stream_Flip {s : T_lanemake_Stream} {n : Int} {r : Bool × T_lanemake_Stream} (h : m_lanemake_Stream_Flip s n = some r) : EC Tryz.prog 15 [.ptr 0 0, I n] [.box 25 [.d (Sl (eN .i64) s.L), I s.v_at]] fun g hp' => g = B r.1 ∧ hp' = [.box 25 [.d (Sl (eN .i64) r.2.L), I r.2.v_at]] := by
  refine ec_enter (Fr.of 0 _) Tryz.func15 rfl (Fr.of_ok _) (Nat.le_of_ble_eq_true rfl) fun _ => ?_
  refine go_in ?_
  unfold m_lanemake_Stream_Flip at h
  obtain ⟨y1, hy1, h2⟩ := bi_ok h
  refine go hΓ 9 rfl ?_
  refine eo_callF [0] (I y1.1) [.box 25 [.d (Sl (eN .i64) y1.2.L), I y1.2.v_at]] (callable Tryz.func14 rfl rfl) (c_lanemake_Stream_Next hy1) rfl (Nat.le_of_ble_eq_true rfl) rfl rfl rfl rfl rfl rfl rfl rfl rfl rfl ?_
  refine go_ops hΓ 5 rfl ?_
  obtain rfl := Option.some.inj h2
  exact fin_objs hΓ [] (.inr rfl) rfl rfl rfl rfl (.inl rfl)
theorem c_lanemake_Stream_Some {s : T_lanemake_Stream} {l : List Str} {r : Str × T_lanemake_Stream} (h : m_lanemake_Stream_Some s l = some r) : EC Tryz.prog 16 [.ptr 0 0, .d (Sl eS l)] [.box 25 [.d (Sl (eN .i64) s.L), I s.v_at]] fun g hp' => g = S r.1 ∧ hp' = [.box 25 [.d (Sl (eN .i64) r.2.L), I r.2.v_at]] := by
  refine ec_enter (Fr.of 0 _) Tryz.func16 rfl (Fr.of_ok _) (Nat.le_of_ble_eq_true rfl) fun _ => ?_
  refine go_in ?_
  unfold m_lanemake_Stream_Some at h
  obtain ⟨y1, hy1, h2⟩ := bi_ok h
  refine go hΓ 11 rfl ?_
  refine eo_callF [0] (I y1.1) [.box 25 [.d (Sl (eN .i64) y1.2.L), I y1.2.v_at]] (callable Tryz.func14 rfl rfl) (c_lanemake_Stream_Next hy1) rfl (Nat.le_of_ble_eq_true rfl) rfl rfl rfl rfl rfl rfl rfl rfl rfl rfl ?_
  obtain ⟨x3, hx3, h4⟩ := bi_ok h2
  refine eo_o rfl (op_elemZ hΓ (enc := eS) hx3 rfl rfl rfl rfl rfl (fun _ => rfl)) ?_
  refine go_ops hΓ 5 rfl ?_
  obtain rfl := Option.some.inj h4
  exact fin_objs hΓ [] (.inr rfl) rfl rfl rfl rfl (.inl rfl)
theorem c_lanemake_Stream_Range {s : T_lanemake_Stream} {low : Int} {high : Int} {r : Int × T_lanemake_Stream} (h : m_lanemake_Stream_Range s low high = some r) : EC Tryz.prog 18 [.ptr 0 0, I low, I high] [.box 25 [.d (Sl (eN .i64) s.L), I s.v_at]] fun g hp' => g = I r.1 ∧ hp' = [.box 25 [.d (Sl (eN .i64) r.2.L), I r.2.v_at]] := by
  refine ec_enter (Fr.of 0 _) Tryz.func18 rfl (Fr.of_ok _) (Nat.le_of_ble_eq_true rfl) fun _ => ?_
  refine go_in ?_
  unfold m_lanemake_Stream_Range at h
  refine go hΓ 13 rfl ?_
  refine j_cond rfl (fun hb => ?_) (fun hb => ?_)
  · have h1 := cT h hb
    refine go hΓ 8 rfl ?_
    obtain rfl := Option.some.inj h1
    exact fin_objs hΓ [] (.inr rfl) rfl rfl rfl rfl (.inl rfl)
  · have h2 := cF h hb
    obtain ⟨y3, hy3, h4⟩ := bi_ok h2
    refine go hΓ 10 rfl ?_
    refine eo_callF [0] (I y3.1) [.box 25 [.d (Sl (eN .i64) y3.2.L), I y3.2.v_at]] (callable Tryz.func14 rfl rfl) (c_lanemake_Stream_Next hy3) rfl (Nat.le_of_ble_eq_true rfl) rfl rfl rfl rfl rfl rfl rfl rfl rfl rfl ?_
    refine go_ops hΓ 5 rfl ?_
    obtain rfl := Option.some.inj h4
    exact fin_objs hΓ [] (.inr rfl) rfl rfl rfl rfl (.inl rfl)
theorem c_lanemake_at {n : Int} {r : T_api_Addr} (h : m_lanemake_at n = some r) : Pure Tryz.prog 125 [I n] (.agg [B r.Six, U r.Hi, U r.Lo]) := by
  refine Pure.enter (Fr.of 0 _) Tryz.func125 rfl (Fr.of_ok _) rfl rfl ?_
  refine go_in ?_
  unfold m_lanemake_at at h
  refine go hΓ 2 rfl ?_
  refine eo_alloc hΓ rfl rfl rfl (Nat.le_of_ble_eq_true rfl) ?_
  refine go_ops hΓ 7 rfl ?_
  refine eo_build hΓ (gs := [B false, U 0, U (IntKind.u64.wrap (1681915904 + (IntKind.u64.wrap (n))))]) rfl rfl rfl rfl rfl rfl rfl ?_
  refine eo_store hΓ rfl rfl rfl rfl rfl rfl rfl rfl (Nat.le_of_ble_eq_true rfl) ?_
  refine eo_hp [.box 55 [B false, U 0, U (IntKind.u64.wrap (1681915904 + (IntKind.u64.wrap (n))))]] rfl ?_
  refine go_ops hΓ 3 rfl ?_
  obtain rfl := Option.some.inj h
  exact fin_pure hΓ (.inr rfl) rfl rfl
theorem c_lanemake_sixAt {n : Int} {r : T_api_Addr} (h : m_lanemake_sixAt n = some r) : Pure Tryz.prog 126 [I n] (.agg [B r.Six, U r.Hi, U r.Lo]) := by
  refine Pure.enter (Fr.of 0 _) Tryz.func126 rfl (Fr.of_ok _) rfl rfl ?_
  refine go_in ?_
  unfold m_lanemake_sixAt at h
  refine go hΓ 2 rfl ?_
  refine eo_alloc hΓ rfl rfl rfl (Nat.le_of_ble_eq_true rfl) ?_
  refine go_ops hΓ 6 rfl ?_
  refine eo_build hΓ (gs := [B true, U 18230571291595767808, U (IntKind.u64.wrap (n))]) rfl rfl rfl rfl rfl rfl rfl ?_
  refine eo_store hΓ rfl rfl rfl rfl rfl rfl rfl rfl (Nat.le_of_ble_eq_true rfl) ?_
  refine eo_hp [.box 55 [B true, U 18230571291595767808, U (IntKind.u64.wrap (n))]] rfl ?_
  refine go_ops hΓ 3 rfl ?_
  obtain rfl := Option.some.inj h
  exact fin_pure hΓ (.inr rfl) rfl rfl
set_option maxHeartbeats 8000000 in
theorem c_lanemake_Stream_Addr {s : T_lanemake_Stream} {r : T_api_Addr × T_lanemake_Stream} (h : m_lanemake_Stream_Addr s = some r) : EC Tryz.prog 180 [.ptr 0 0] [.box 25 [.d (Sl (eN .i64) s.L), I s.v_at]] fun g hp' => g = .agg [B r.1.Six, U r.1.Hi, U r.1.Lo] ∧ hp' = [.box 25 [.d (Sl (eN .i64) r.2.L), I r.2.v_at]] := by
  refine ec_enter (Fr.of 0 _) Tryz.func180 rfl (Fr.of_ok _) (Nat.le_of_ble_eq_true rfl) fun _ => ?_
  refine go_in ?_
  unfold m_lanemake_Stream_Addr at h
  refine go hΓ 2 rfl ?_
  refine eo_alloc hΓ rfl rfl rfl (Nat.le_of_ble_eq_true rfl) ?_
  obtain ⟨y1, hy1, h2⟩ := bi_ok h
  refine go_ops hΓ 6 rfl ?_
  refine eo_callF [0] (I y1.1) [.box 25 [.d (Sl (eN .i64) y1.2.L), I y1.2.v_at], .box 55 [B false, U 0, U 0]] (callable Tryz.func14 rfl rfl) (c_lanemake_Stream_Next hy1) rfl (Nat.le_of_ble_eq_true rfl) rfl rfl rfl rfl rfl rfl rfl rfl rfl rfl ?_
  refine go_ops hΓ 9 rfl ?_
  refine j_cond rfl (fun hb => ?_) (fun hb => ?_)
  · have h3 := cT h2 hb
    refine go hΓ 1 rfl ?_
    refine j_drawE [] [] [2, 7, 11] [] hmix (by kernel_rfl) (by kernel_rfl) trivial (Nat.le_of_ble_eq_true rfl) ?_
    refine ge_litT hΓ (enc := (eN .u64)) [0, 18230571291595767808, 2306139568115548160, 9223372036854775808, 18446744073709551615] rfl rfl rfl rfl rfl rfl rfl rfl rfl rfl rfl rfl ?_
    obtain ⟨y4, hy4, h5⟩ := bi_ok h3
    refine go_E hΓ 1 rfl ?_
    refine ge_h [.box 25 [.d (Sl (eN .i64) y4.2.L), I y4.2.v_at], .box 55 [B false, U 0, U 0]] rfl rfl rfl (st_st trivial) (qte_callF [0] (I y4.1) [.box 25 [.d (Sl (eN .i64) y4.2.L), I y4.2.v_at], .box 55 [B false, U 0, U 0]] (callable Tryz.func14 rfl rfl) (c_lanemake_Stream_Next hy4) rfl rfl rfl rfl rfl rfl rfl rfl rfl rfl) ?_
    obtain ⟨x6, hx6, h7⟩ := bi_ok h5
    refine ge_q rfl (.inl rfl) (fun _ _ => qte_of_qt (qt_p (op_elemZ hΓ (enc := (eN .u64)) hx6 rfl rfl rfl rfl rfl (fun _ => rfl)))) ?_
    refine go_E hΓ 1 rfl ?_
    refine ge_litT hΓ (enc := (eN .u64)) [0, 1, 2, 4294967296, 18446744073709551615] rfl rfl rfl rfl rfl rfl rfl rfl rfl rfl rfl rfl ?_
    obtain ⟨y8, hy8, h9⟩ := bi_ok h7
    refine go_E hΓ 1 rfl ?_
    refine ge_h [.box 25 [.d (Sl (eN .i64) y8.2.L), I y8.2.v_at], .box 55 [B false, U 0, U 0]] rfl rfl rfl (st_st trivial) (qte_callF [0] (I y8.1) [.box 25 [.d (Sl (eN .i64) y8.2.L), I y8.2.v_at], .box 55 [B false, U 0, U 0]] (callable Tryz.func14 rfl rfl) (c_lanemake_Stream_Next hy8) rfl rfl rfl rfl rfl rfl rfl rfl rfl rfl) ?_
    obtain ⟨x10, hx10, h11⟩ := bi_ok h9
    refine ge_q rfl (.inl rfl) (fun _ _ => qte_of_qt (qt_p (op_elemZ hΓ (enc := (eN .u64)) hx10 rfl rfl rfl rfl rfl (fun _ => rfl)))) ?_
    refine go_E hΓ 1 rfl ?_
    refine ge_q rfl (.inl rfl) (fun _ _ => qte_of_qt (qt_p (op_build hΓ (gs := [B true, U x6, U x10]) rfl rfl rfl rfl rfl rfl))) ?_
    refine ge_h0 [.box 25 [.d (Sl (eN .i64) y8.2.L), I y8.2.v_at], .box 55 [B true, U x6, U x10]] rfl rfl (st_st trivial) (qte_u (opu_store2 hΓ rfl rfl rfl rfl rfl rfl rfl rfl rfl)) ?_
    refine ge_fin ?_
    refine go hΓ 4 rfl ?_
    obtain rfl := Option.some.inj h11
    exact fin_objs hΓ [_] (.inr rfl) rfl rfl rfl rfl (.inr ⟨HB.mk rfl, rfl⟩)
  · have h12 := cF h2 hb
    refine go hΓ 6 rfl ?_
    refine j_cond rfl (fun hb => ?_) (fun hb => ?_)
    · have h13 := cT h12 hb
      refine go hΓ 2 rfl ?_
      refine eo_litT hΓ (enc := (eN .u64)) [0, 1, 4294967295, 2130706433, 3232235521] rfl rfl rfl rfl rfl rfl rfl rfl rfl rfl rfl rfl (Nat.le_of_ble_eq_true rfl) ?_
      obtain ⟨y14, hy14, h15⟩ := bi_ok h13
      refine go_ops hΓ 1 rfl ?_
      refine eo_callF [0] (I y14.1) [.box 25 [.d (Sl (eN .i64) y14.2.L), I y14.2.v_at], .box 55 [B false, U 0, U 0]] (callable Tryz.func14 rfl rfl) (c_lanemake_Stream_Next hy14) rfl (Nat.le_of_ble_eq_true rfl) rfl rfl rfl rfl rfl rfl rfl rfl rfl rfl ?_
      obtain ⟨x16, hx16, h17⟩ := bi_ok h15
      refine eo_o rfl (op_elemZ hΓ (enc := (eN .u64)) hx16 rfl rfl rfl rfl rfl (fun _ => rfl)) ?_
      refine go_ops hΓ 1 rfl ?_
      refine eo_build hΓ (gs := [B false, U 0, U x16]) rfl rfl rfl rfl rfl rfl rfl ?_
      refine eo_store hΓ rfl rfl rfl rfl rfl rfl rfl rfl (Nat.le_of_ble_eq_true rfl) ?_
      refine eo_hp [.box 25 [.d (Sl (eN .i64) y14.2.L), I y14.2.v_at], .box 55 [B false, U 0, U x16]] rfl ?_
      refine go_ops hΓ 5 rfl ?_
      obtain rfl := Option.some.inj h17
      exact fin_objs hΓ [_] (.inr rfl) rfl rfl rfl rfl (.inr ⟨HB.mk rfl, rfl⟩)
    · have h18 := cF h12 hb
      refine go hΓ 6 rfl ?_
      refine j_cond rfl (fun hb => ?_) (fun hb => ?_)
      · have h19 := cT h18 hb
        obtain ⟨y20, hy20, h21⟩ := bi_ok h19
        refine go hΓ 3 rfl ?_
        refine eo_callF [0] (I y20.1) [.box 25 [.d (Sl (eN .i64) y20.2.L), I y20.2.v_at], .box 55 [B false, U 0, U 0]] (callable Tryz.func18 rfl rfl) (c_lanemake_Stream_Range hy20) rfl (Nat.le_of_ble_eq_true rfl) rfl rfl rfl rfl rfl rfl rfl rfl rfl rfl ?_
        obtain ⟨y22, hy22, h23⟩ := bi_ok h21
        refine go_ops hΓ 2 rfl ?_
        refine eo_o rfl (op_remZ hy22 rfl rfl) ?_
        refine eo_build hΓ (gs := [B false, U 0, U y22]) rfl rfl rfl rfl rfl rfl rfl ?_
        refine eo_store hΓ rfl rfl rfl rfl rfl rfl rfl rfl (Nat.le_of_ble_eq_true rfl) ?_
        refine eo_hp [.box 25 [.d (Sl (eN .i64) y20.2.L), I y20.2.v_at], .box 55 [B false, U 0, U y22]] rfl ?_
        refine go_ops hΓ 5 rfl ?_
        obtain rfl := Option.some.inj h23
        exact fin_objs hΓ [_] (.inr rfl) rfl rfl rfl rfl (.inr ⟨HB.mk rfl, rfl⟩)
      · have h24 := cF h18 hb
        obtain ⟨y25, hy25, h26⟩ := bi_ok h24
        refine go hΓ 6 rfl ?_
        refine eo_callF [0] (I y25.1) [.box 25 [.d (Sl (eN .i64) y25.2.L), I y25.2.v_at], .box 55 [B false, U 0, U 0]] (callable Tryz.func18 rfl rfl) (c_lanemake_Stream_Range hy25) rfl (Nat.le_of_ble_eq_true rfl) rfl rfl rfl rfl rfl rfl rfl rfl rfl rfl ?_
        refine go_ops hΓ 2 rfl ?_
        refine eo_build hΓ (gs := [B false, U 0, U (IntKind.u64.wrap (167772160 + (IntKind.u64.wrap (y25.1))))]) rfl rfl rfl rfl rfl rfl rfl ?_
        refine eo_store hΓ rfl rfl rfl rfl rfl rfl rfl rfl (Nat.le_of_ble_eq_true rfl) ?_
        refine eo_hp [.box 25 [.d (Sl (eN .i64) y25.2.L), I y25.2.v_at], .box 55 [B false, U 0, U (IntKind.u64.wrap (167772160 + (IntKind.u64.wrap (y25.1))))]] rfl ?_
        refine go_ops hΓ 3 rfl ?_
        obtain rfl := Option.some.inj h26
        exact fin_objs hΓ [_] (.inr rfl) rfl rfl rfl rfl (.inr ⟨HB.mk rfl, rfl⟩)
theorem c_lanemake_Stream_Raw {s : T_lanemake_Stream} {r : T_api_Addr × T_lanemake_Stream} (h : m_lanemake_Stream_Raw s = some r) : EC Tryz.prog 127 [.ptr 0 0] [.box 25 [.d (Sl (eN .i64) s.L), I s.v_at]] fun g hp' => g = .agg [B r.1.Six, U r.1.Hi, U r.1.Lo] ∧ hp' = [.box 25 [.d (Sl (eN .i64) r.2.L), I r.2.v_at]] := by
  refine ec_enter (Fr.of 0 _) Tryz.func127 rfl (Fr.of_ok _) (Nat.le_of_ble_eq_true rfl) fun _ => ?_
  refine go_in ?_
  unfold m_lanemake_Stream_Raw at h
  refine go hΓ 2 rfl ?_
  refine eo_alloc hΓ rfl rfl rfl (Nat.le_of_ble_eq_true rfl) ?_
  obtain ⟨y1, hy1, h2⟩ := bi_ok h
  refine go_ops hΓ 5 rfl ?_
  refine eo_callF [0] (.agg [B y1.1.Six, U y1.1.Hi, U y1.1.Lo]) [.box 25 [.d (Sl (eN .i64) y1.2.L), I y1.2.v_at], .box 55 [B false, U 0, U 0]] (callable Tryz.func180 rfl rfl) (c_lanemake_Stream_Addr hy1) rfl (Nat.le_of_ble_eq_true rfl) rfl rfl rfl rfl rfl rfl rfl rfl rfl rfl ?_
  refine eo_alloc hΓ rfl rfl rfl (Nat.le_of_ble_eq_true rfl) ?_
  refine eo_store hΓ rfl rfl rfl rfl rfl rfl rfl rfl (Nat.le_of_ble_eq_true rfl) ?_
  refine eo_hp [.box 25 [.d (Sl (eN .i64) y1.2.L), I y1.2.v_at], .box 55 [B false, U 0, U 0], .box 55 [B y1.1.Six, U y1.1.Hi, U y1.1.Lo]] rfl ?_
  obtain ⟨y3, hy3, h4⟩ := bi_ok h2
  refine go_ops hΓ 6 rfl ?_
  refine eo_callF [0] (B y3.1) [.box 25 [.d (Sl (eN .i64) y3.2.L), I y3.2.v_at], .box 55 [B false, U 0, U 0], .box 55 [B y1.1.Six, U y1.1.Hi, U y1.1.Lo]] (callable Tryz.func15 rfl rfl) (c_lanemake_Stream_Flip hy3) rfl (Nat.le_of_ble_eq_true rfl) rfl rfl rfl rfl rfl rfl rfl rfl rfl rfl ?_
  refine go_ops hΓ 2 rfl ?_
  refine j_cond rfl (fun hb => ?_) (fun hb => ?_)
  · have h5 := cT h4 hb
    obtain ⟨y6, hy6, h7⟩ := bi_ok h5
    refine go hΓ 3 rfl ?_
    refine eo_callF [0] (I y6.1) [.box 25 [.d (Sl (eN .i64) y6.2.L), I y6.2.v_at], .box 55 [B false, U 0, U 0], .box 55 [B y1.1.Six, U y1.1.Hi, U y1.1.Lo]] (callable Tryz.func14 rfl rfl) (c_lanemake_Stream_Next hy6) rfl (Nat.le_of_ble_eq_true rfl) rfl rfl rfl rfl rfl rfl rfl rfl rfl rfl ?_
    refine go_ops hΓ 1 rfl ?_
    refine eo_litT hΓ (enc := (eN .u64)) [4294967296, 5, 1099511627776] rfl rfl rfl rfl rfl rfl rfl rfl rfl rfl rfl rfl (Nat.le_of_ble_eq_true rfl) ?_
    obtain ⟨y8, hy8, h9⟩ := bi_ok h7
    refine go_ops hΓ 1 rfl ?_
    refine eo_callF [0] (I y8.1) [.box 25 [.d (Sl (eN .i64) y8.2.L), I y8.2.v_at], .box 55 [B false, U 0, U 0], .box 55 [B y1.1.Six, U y1.1.Hi, U y1.1.Lo]] (callable Tryz.func14 rfl rfl) (c_lanemake_Stream_Next hy8) rfl (Nat.le_of_ble_eq_true rfl) rfl rfl rfl rfl rfl rfl rfl rfl rfl rfl ?_
    obtain ⟨x10, hx10, h11⟩ := bi_ok h9
    refine eo_o rfl (op_elemZ hΓ (enc := (eN .u64)) hx10 rfl rfl rfl rfl rfl (fun _ => rfl)) ?_
    refine go_ops hΓ 1 rfl ?_
    refine eo_build hΓ (gs := [B false, U (IntKind.u64.wrap (y6.1)), U x10]) rfl rfl rfl rfl rfl rfl rfl ?_
    refine eo_store hΓ rfl rfl rfl rfl rfl rfl rfl rfl (Nat.le_of_ble_eq_true rfl) ?_
    refine eo_hp [.box 25 [.d (Sl (eN .i64) y8.2.L), I y8.2.v_at], .box 55 [B false, U (IntKind.u64.wrap (y6.1)), U x10], .box 55 [B y1.1.Six, U y1.1.Hi, U y1.1.Lo]] rfl ?_
    refine go_ops hΓ 4 rfl ?_
    obtain rfl := Option.some.inj h11
    exact fin_objs hΓ [_, _] (.inr rfl) rfl rfl rfl rfl (.inr ⟨HB.mk rfl, rfl⟩)
  · have h12 := cF h4 hb
    refine go hΓ 5 rfl ?_
    refine eo_store hΓ rfl rfl rfl rfl rfl rfl rfl rfl (Nat.le_of_ble_eq_true rfl) ?_
    refine eo_hp [.box 25 [.d (Sl (eN .i64) y3.2.L), I y3.2.v_at], .box 55 [B y1.1.Six, U y1.1.Hi, U y1.1.Lo], .box 55 [B y1.1.Six, U y1.1.Hi, U y1.1.Lo]] rfl ?_
    refine go_ops hΓ 3 rfl ?_
    obtain rfl := Option.some.inj h12
    exact fin_objs hΓ [_, _] (.inr rfl) rfl rfl rfl rfl (.inr ⟨HB.mk rfl, rfl⟩)
theorem c_lanemake_Stream_Odd {s : T_lanemake_Stream} {low : Int} {high : Int} {r : Int × T_lanemake_Stream} (h : m_lanemake_Stream_Odd s low high = some r) : EC Tryz.prog 111 [.ptr 0 0, I low, I high] [.box 25 [.d (Sl (eN .i64) s.L), I s.v_at]] fun g hp' => g = I r.1 ∧ hp' = [.box 25 [.d (Sl (eN .i64) r.2.L), I r.2.v_at]] := by
  refine ec_enter (Fr.of 0 _) Tryz.func111 rfl (Fr.of_ok _) (Nat.le_of_ble_eq_true rfl) fun _ => ?_
  refine go_in ?_
  unfold m_lanemake_Stream_Odd at h
  obtain ⟨y1, hy1, h2⟩ := bi_ok h
  refine go hΓ 9 rfl ?_
  refine eo_callF [0] (B y1.1) [.box 25 [.d (Sl (eN .i64) y1.2.L), I y1.2.v_at]] (callable Tryz.func15 rfl rfl) (c_lanemake_Stream_Flip hy1) rfl (Nat.le_of_ble_eq_true rfl) rfl rfl rfl rfl rfl rfl rfl rfl rfl rfl ?_
  refine go_ops hΓ 2 rfl ?_
  refine j_cond rfl (fun hb => ?_) (fun hb => ?_)
  · have h3 := cT h2 hb
    refine go hΓ 9 rfl ?_
    refine eo_litT hΓ (enc := (eN .i64)) [wi (low - 1), wi (high + 1), low, high, -1099511627776, 1099511627776] rfl rfl rfl rfl rfl rfl rfl rfl rfl rfl rfl rfl (Nat.le_of_ble_eq_true rfl) ?_
    obtain ⟨y4, hy4, h5⟩ := bi_ok h3
    refine eo_callF [0] (I y4.1) [.box 25 [.d (Sl (eN .i64) y4.2.L), I y4.2.v_at]] (callable Tryz.func11 rfl rfl) (c_lanemake_Stream_Pick hy4) rfl (Nat.le_of_ble_eq_true rfl) rfl rfl rfl rfl rfl rfl rfl rfl rfl rfl ?_
    refine go_ops hΓ 5 rfl ?_
    obtain rfl := Option.some.inj h5
    exact fin_objs hΓ [] (.inr rfl) rfl rfl rfl rfl (.inl rfl)
  · have h6 := cF h2 hb
    obtain ⟨y7, hy7, h8⟩ := bi_ok h6
    refine go hΓ 7 rfl ?_
    refine eo_callF [0] (I y7.1) [.box 25 [.d (Sl (eN .i64) y7.2.L), I y7.2.v_at]] (callable Tryz.func18 rfl rfl) (c_lanemake_Stream_Range hy7) rfl (Nat.le_of_ble_eq_true rfl) rfl rfl rfl rfl rfl rfl rfl rfl rfl rfl ?_
    refine go_ops hΓ 4 rfl ?_
    obtain rfl := Option.some.inj h8
    exact fin_objs hΓ [] (.inr rfl) rfl rfl rfl rfl (.inl rfl)
set_option maxHeartbeats 8000000 in
theorem c_lanemake_Stream_record {s : T_lanemake_Stream} {name : Str} {r : T_api_Record × T_lanemake_Stream} (h : m_lanemake_Stream_record s name = some r) : EC Tryz.prog 56 [.ptr 0 0, S name] [.box 25 [.d (Sl (eN .i64) s.L), I s.v_at]] fun g hp' => g = .agg [S r.1.Name, I r.1.Kind, B r.1.Addr.Six, U r.1.Addr.Hi, U r.1.Addr.Lo, S r.1.To, S r.1.Words, I r.1.Life] ∧ hp' = [.box 25 [.d (Sl (eN .i64) r.2.L), I r.2.v_at]] := by
  refine ec_enter (Fr.of 0 _) Tryz.func56 rfl (Fr.of_ok _) (Nat.le_of_ble_eq_true rfl) fun _ => ?_
  refine go_in ?_
  unfold m_lanemake_Stream_record at h
  refine go hΓ 2 rfl ?_
  refine eo_alloc hΓ rfl rfl rfl (Nat.le_of_ble_eq_true rfl) ?_
  refine go_ops hΓ 6 rfl ?_
  refine eo_litT hΓ (enc := (eN .i64)) [0, 5, 60, 1000000] rfl rfl rfl rfl rfl rfl rfl rfl rfl rfl rfl rfl (Nat.le_of_ble_eq_true rfl) ?_
  obtain ⟨y1, hy1, h2⟩ := bi_ok h
  refine eo_callF [0] (I y1.1) [.box 25 [.d (Sl (eN .i64) y1.2.L), I y1.2.v_at], .box 57 [S [], I 0, B false, U 0, U 0, S [], S [], I 0]] (callable Tryz.func11 rfl rfl) (c_lanemake_Stream_Pick hy1) rfl (Nat.le_of_ble_eq_true rfl) rfl rfl rfl rfl rfl rfl rfl rfl rfl rfl ?_
  refine eo_build hΓ (gs := [S name, I 0, B false, U 0, U 0, S [], S [], I y1.1]) rfl rfl rfl rfl rfl rfl rfl ?_
  refine eo_alloc hΓ rfl rfl rfl (Nat.le_of_ble_eq_true rfl) ?_
  refine eo_store hΓ rfl rfl rfl rfl rfl rfl rfl rfl (Nat.le_of_ble_eq_true rfl) ?_
  refine eo_hp [.box 25 [.d (Sl (eN .i64) y1.2.L), I y1.2.v_at], .box 57 [S [], I 0, B false, U 0, U 0, S [], S [], I 0], .box 57 [S name, I 0, B false, U 0, U 0, S [], S [], I y1.1]] rfl ?_
  obtain ⟨y3, hy3, h4⟩ := bi_ok h2
  refine go_ops hΓ 6 rfl ?_
  refine eo_callF [0] (I y3.1) [.box 25 [.d (Sl (eN .i64) y3.2.L), I y3.2.v_at], .box 57 [S [], I 0, B false, U 0, U 0, S [], S [], I 0], .box 57 [S name, I 0, B false, U 0, U 0, S [], S [], I y1.1]] (callable Tryz.func14 rfl rfl) (c_lanemake_Stream_Next hy3) rfl (Nat.le_of_ble_eq_true rfl) rfl rfl rfl rfl rfl rfl rfl rfl rfl rfl ?_
  obtain ⟨q5, hq5, h6⟩ := bi_ok h4
  refine go_ops hΓ 2 rfl ?_
  refine j_cutNZ [(0, .ptr 0 0), (4, .ptr 1 0), (5, .ptr 2 0)] [.box 25 [.d (Sl (eN .i64) q5.1.L), I q5.1.v_at], .box 57 [S [], I 0, B false, U 0, U 0, S [], S [], I 0], .box 57 [S q5.2.Name, I q5.2.Kind, B q5.2.Addr.Six, U q5.2.Addr.Hi, U q5.2.Addr.Lo, S q5.2.To, S q5.2.Words, I q5.2.Life]] ?_ ?_
  · obtain ⟨q7, hq7, h8⟩ := bi_ok hq5
    refine go hΓ 8 rfl ?_
    refine j_cutNZ [(0, .ptr 0 0), (4, .ptr 1 0), (5, .ptr 2 0), (12, I y3.1), (18, B q7)] [.box 25 [.d (Sl (eN .i64) y3.2.L), I y3.2.v_at], .box 57 [S [], I 0, B false, U 0, U 0, S [], S [], I 0], .box 57 [S name, I 0, B false, U 0, U 0, S [], S [], I y1.1]] ?_ ?_
    · refine j_cond rfl (fun hb => ?_) (fun hb => ?_)
      · have h9 := cT hq7 hb
        refine go hΓ 1 rfl ?_
        obtain rfl := Option.some.inj h9
        exact ⟨⟨rfl, rfl, rfl, rfl, rfl, trivial⟩, [], rfl, .inl rfl⟩
      · have h10 := cF hq7 hb
        refine go hΓ 4 rfl ?_
        obtain rfl := Option.some.inj h10
        exact ⟨⟨rfl, rfl, rfl, rfl, rfl, trivial⟩, [], rfl, .inl rfl⟩
    · refine go hΓ 1 rfl ?_
      refine j_cond rfl (fun hb => ?_) (fun hb => ?_)
      · have h11 := cT h8 hb
        obtain ⟨y12, hy12, h13⟩ := bi_ok h11
        refine go hΓ 2 rfl ?_
        refine eo_callF [0] (I y12.1) [.box 25 [.d (Sl (eN .i64) y12.2.L), I y12.2.v_at], .box 57 [S [], I 0, B false, U 0, U 0, S [], S [], I 0], .box 57 [S name, I 0, B false, U 0, U 0, S [], S [], I y1.1]] (callable Tryz.func18 rfl rfl) (c_lanemake_Stream_Range hy12) rfl (Nat.le_of_ble_eq_true rfl) rfl rfl rfl rfl rfl rfl rfl rfl rfl rfl ?_
        obtain ⟨y14, hy14, h15⟩ := bi_ok h13
        refine eo_callP (callable Tryz.func125 rfl rfl) (c_lanemake_at hy14) rfl (Nat.le_of_ble_eq_true rfl) rfl rfl rfl rfl rfl ?_
        refine go_ops hΓ 1 rfl ?_
        refine eo_store hΓ rfl rfl rfl rfl rfl rfl rfl rfl (Nat.le_of_ble_eq_true rfl) ?_
        refine eo_hp [.box 25 [.d (Sl (eN .i64) y12.2.L), I y12.2.v_at], .box 57 [S [], I 0, B false, U 0, U 0, S [], S [], I 0], .box 57 [S name, I 1, B false, U 0, U 0, S [], S [], I y1.1]] rfl ?_
        refine go_ops hΓ 1 rfl ?_
        refine eo_store hΓ rfl rfl rfl rfl rfl rfl rfl rfl (Nat.le_of_ble_eq_true rfl) ?_
        refine eo_hp [.box 25 [.d (Sl (eN .i64) y12.2.L), I y12.2.v_at], .box 57 [S [], I 0, B false, U 0, U 0, S [], S [], I 0], .box 57 [S name, I 1, B y14.Six, U y14.Hi, U y14.Lo, S [], S [], I y1.1]] rfl ?_
        refine go_ops hΓ 2 rfl ?_
        obtain rfl := Option.some.inj h15
        exact ⟨⟨rfl, rfl, rfl, trivial⟩, [], rfl, .inl rfl⟩
      · have h16 := cF h8 hb
        refine go hΓ 6 rfl ?_
        refine j_cond rfl (fun hb => ?_) (fun hb => ?_)
        · have h17 := cT h16 hb
          obtain ⟨y18, hy18, h19⟩ := bi_ok h17
          refine go hΓ 2 rfl ?_
          refine eo_callF [0] (I y18.1) [.box 25 [.d (Sl (eN .i64) y18.2.L), I y18.2.v_at], .box 57 [S [], I 0, B false, U 0, U 0, S [], S [], I 0], .box 57 [S name, I 0, B false, U 0, U 0, S [], S [], I y1.1]] (callable Tryz.func18 rfl rfl) (c_lanemake_Stream_Range hy18) rfl (Nat.le_of_ble_eq_true rfl) rfl rfl rfl rfl rfl rfl rfl rfl rfl rfl ?_
          obtain ⟨y20, hy20, h21⟩ := bi_ok h19
          refine eo_callP (callable Tryz.func126 rfl rfl) (c_lanemake_sixAt hy20) rfl (Nat.le_of_ble_eq_true rfl) rfl rfl rfl rfl rfl ?_
          refine go_ops hΓ 1 rfl ?_
          refine eo_store hΓ rfl rfl rfl rfl rfl rfl rfl rfl (Nat.le_of_ble_eq_true rfl) ?_
          refine eo_hp [.box 25 [.d (Sl (eN .i64) y18.2.L), I y18.2.v_at], .box 57 [S [], I 0, B false, U 0, U 0, S [], S [], I 0], .box 57 [S name, I 28, B false, U 0, U 0, S [], S [], I y1.1]] rfl ?_
          refine go_ops hΓ 1 rfl ?_
          refine eo_store hΓ rfl rfl rfl rfl rfl rfl rfl rfl (Nat.le_of_ble_eq_true rfl) ?_
          refine eo_hp [.box 25 [.d (Sl (eN .i64) y18.2.L), I y18.2.v_at], .box 57 [S [], I 0, B false, U 0, U 0, S [], S [], I 0], .box 57 [S name, I 28, B y20.Six, U y20.Hi, U y20.Lo, S [], S [], I y1.1]] rfl ?_
          refine go_ops hΓ 2 rfl ?_
          obtain rfl := Option.some.inj h21
          exact ⟨⟨rfl, rfl, rfl, trivial⟩, [], rfl, .inl rfl⟩
        · have h22 := cF h16 hb
          refine go hΓ 6 rfl ?_
          refine j_cond rfl (fun hb => ?_) (fun hb => ?_)
          · have h23 := cT h22 hb
            refine go hΓ 2 rfl ?_
            refine eo_litT hΓ (enc := eS) [[], [104, 105], [97, 32, 98], [118, 61, 49]] rfl rfl rfl rfl rfl rfl rfl rfl rfl rfl rfl rfl (Nat.le_of_ble_eq_true rfl) ?_
            obtain ⟨y24, hy24, h25⟩ := bi_ok h23
            refine eo_callF [0] (S y24.1) [.box 25 [.d (Sl (eN .i64) y24.2.L), I y24.2.v_at], .box 57 [S [], I 0, B false, U 0, U 0, S [], S [], I 0], .box 57 [S name, I 0, B false, U 0, U 0, S [], S [], I y1.1]] (callable Tryz.func16 rfl rfl) (c_lanemake_Stream_Some hy24) rfl (Nat.le_of_ble_eq_true rfl) rfl rfl rfl rfl rfl rfl rfl rfl rfl rfl ?_
            refine go_ops hΓ 1 rfl ?_
            refine eo_store hΓ rfl rfl rfl rfl rfl rfl rfl rfl (Nat.le_of_ble_eq_true rfl) ?_
            refine eo_hp [.box 25 [.d (Sl (eN .i64) y24.2.L), I y24.2.v_at], .box 57 [S [], I 0, B false, U 0, U 0, S [], S [], I 0], .box 57 [S name, I 16, B false, U 0, U 0, S [], S [], I y1.1]] rfl ?_
            refine go_ops hΓ 1 rfl ?_
            refine eo_store hΓ rfl rfl rfl rfl rfl rfl rfl rfl (Nat.le_of_ble_eq_true rfl) ?_
            refine eo_hp [.box 25 [.d (Sl (eN .i64) y24.2.L), I y24.2.v_at], .box 57 [S [], I 0, B false, U 0, U 0, S [], S [], I 0], .box 57 [S name, I 16, B false, U 0, U 0, S [], S y24.1, I y1.1]] rfl ?_
            refine go_ops hΓ 2 rfl ?_
            obtain rfl := Option.some.inj h25
            exact ⟨⟨rfl, rfl, rfl, trivial⟩, [], rfl, .inl rfl⟩
          · have h26 := cF h22 hb
            refine go hΓ 6 rfl ?_
            refine j_cond rfl (fun hb => ?_) (fun hb => ?_)
            · have h27 := cT h26 hb
              refine go hΓ 2 rfl ?_
              refine eo_litT hΓ (enc := eS) [[97, 46, 110, 101, 116, 46, 120], [98, 46, 110, 101, 116, 46, 120]] rfl rfl rfl rfl rfl rfl rfl rfl rfl rfl rfl rfl (Nat.le_of_ble_eq_true rfl) ?_
              obtain ⟨y28, hy28, h29⟩ := bi_ok h27
              refine eo_callF [0] (S y28.1) [.box 25 [.d (Sl (eN .i64) y28.2.L), I y28.2.v_at], .box 57 [S [], I 0, B false, U 0, U 0, S [], S [], I 0], .box 57 [S name, I 0, B false, U 0, U 0, S [], S [], I y1.1]] (callable Tryz.func16 rfl rfl) (c_lanemake_Stream_Some hy28) rfl (Nat.le_of_ble_eq_true rfl) rfl rfl rfl rfl rfl rfl rfl rfl rfl rfl ?_
              refine go_ops hΓ 1 rfl ?_
              refine eo_store hΓ rfl rfl rfl rfl rfl rfl rfl rfl (Nat.le_of_ble_eq_true rfl) ?_
              refine eo_hp [.box 25 [.d (Sl (eN .i64) y28.2.L), I y28.2.v_at], .box 57 [S [], I 0, B false, U 0, U 0, S [], S [], I 0], .box 57 [S name, I 12, B false, U 0, U 0, S [], S [], I y1.1]] rfl ?_
              refine go_ops hΓ 1 rfl ?_
              refine eo_store hΓ rfl rfl rfl rfl rfl rfl rfl rfl (Nat.le_of_ble_eq_true rfl) ?_
              refine eo_hp [.box 25 [.d (Sl (eN .i64) y28.2.L), I y28.2.v_at], .box 57 [S [], I 0, B false, U 0, U 0, S [], S [], I 0], .box 57 [S name, I 12, B false, U 0, U 0, S y28.1, S [], I y1.1]] rfl ?_
              refine go_ops hΓ 2 rfl ?_
              obtain rfl := Option.some.inj h29
              exact ⟨⟨rfl, rfl, rfl, trivial⟩, [], rfl, .inl rfl⟩
            · have h30 := cF h26 hb
              refine go hΓ 2 rfl ?_
              refine eo_litT hΓ (enc := eS) [[97, 46, 110, 101, 116, 46, 120], [98, 46, 110, 101, 116, 46, 120], [99, 46, 110, 101, 116, 46, 120], [113, 46, 108, 97, 98, 46, 110, 101, 116, 46, 120], [100, 46, 110, 101, 116, 46, 120], [111, 116, 104, 101, 114]] rfl rfl rfl rfl rfl rfl rfl rfl rfl rfl rfl rfl (Nat.le_of_ble_eq_true rfl) ?_
              obtain ⟨y31, hy31, h32⟩ := bi_ok h30
              refine eo_callF [0] (S y31.1) [.box 25 [.d (Sl (eN .i64) y31.2.L), I y31.2.v_at], .box 57 [S [], I 0, B false, U 0, U 0, S [], S [], I 0], .box 57 [S name, I 0, B false, U 0, U 0, S [], S [], I y1.1]] (callable Tryz.func16 rfl rfl) (c_lanemake_Stream_Some hy31) rfl (Nat.le_of_ble_eq_true rfl) rfl rfl rfl rfl rfl rfl rfl rfl rfl rfl ?_
              refine go_ops hΓ 1 rfl ?_
              refine eo_store hΓ rfl rfl rfl rfl rfl rfl rfl rfl (Nat.le_of_ble_eq_true rfl) ?_
              refine eo_hp [.box 25 [.d (Sl (eN .i64) y31.2.L), I y31.2.v_at], .box 57 [S [], I 0, B false, U 0, U 0, S [], S [], I 0], .box 57 [S name, I 5, B false, U 0, U 0, S [], S [], I y1.1]] rfl ?_
              refine go_ops hΓ 1 rfl ?_
              refine eo_store hΓ rfl rfl rfl rfl rfl rfl rfl rfl (Nat.le_of_ble_eq_true rfl) ?_
              refine eo_hp [.box 25 [.d (Sl (eN .i64) y31.2.L), I y31.2.v_at], .box 57 [S [], I 0, B false, U 0, U 0, S [], S [], I 0], .box 57 [S name, I 5, B false, U 0, U 0, S y31.1, S [], I y1.1]] rfl ?_
              refine go_ops hΓ 2 rfl ?_
              obtain rfl := Option.some.inj h32
              exact ⟨⟨rfl, rfl, rfl, trivial⟩, [], rfl, .inl rfl⟩
  · obtain ⟨y33, hy33, h34⟩ := bi_ok h6
    refine go hΓ 5 rfl ?_
    refine eo_callF [0] (B y33.1) [.box 25 [.d (Sl (eN .i64) y33.2.L), I y33.2.v_at], .box 57 [S [], I 0, B false, U 0, U 0, S [], S [], I 0], .box 57 [S q5.2.Name, I q5.2.Kind, B q5.2.Addr.Six, U q5.2.Addr.Hi, U q5.2.Addr.Lo, S q5.2.To, S q5.2.Words, I q5.2.Life]] (callable Tryz.func15 rfl rfl) (c_lanemake_Stream_Flip hy33) rfl (Nat.le_of_ble_eq_true rfl) rfl rfl rfl rfl rfl rfl rfl rfl rfl rfl ?_
    obtain ⟨q35, hq35, h36⟩ := bi_ok h34
    refine go_ops hΓ 2 rfl ?_
    refine j_cutNZ [(4, .ptr 1 0), (5, .ptr 2 0)] [.box 25 [.d (Sl (eN .i64) q35.1.L), I q35.1.v_at], .box 57 [S [], I 0, B false, U 0, U 0, S [], S [], I 0], .box 57 [S q35.2.Name, I q35.2.Kind, B q35.2.Addr.Six, U q35.2.Addr.Hi, U q35.2.Addr.Lo, S q35.2.To, S q35.2.Words, I q35.2.Life]] ?_ ?_
    · refine j_cond rfl (fun hb => ?_) (fun hb => ?_)
      · have h37 := cT hq35 hb
        obtain ⟨y38, hy38, h39⟩ := bi_ok h37
        refine go hΓ 3 rfl ?_
        refine eo_callF [0] (I y38.1) [.box 25 [.d (Sl (eN .i64) y38.2.L), I y38.2.v_at], .box 57 [S [], I 0, B false, U 0, U 0, S [], S [], I 0], .box 57 [S q5.2.Name, I q5.2.Kind, B q5.2.Addr.Six, U q5.2.Addr.Hi, U q5.2.Addr.Lo, S q5.2.To, S q5.2.Words, I q5.2.Life]] (callable Tryz.func14 rfl rfl) (c_lanemake_Stream_Next hy38) rfl (Nat.le_of_ble_eq_true rfl) rfl rfl rfl rfl rfl rfl rfl rfl rfl rfl ?_
        refine go_ops hΓ 9 rfl ?_
        refine j_cond rfl (fun hb => ?_) (fun hb => ?_)
        · have h40 := cT h39 hb
          refine go hΓ 2 rfl ?_
          refine eo_litT hΓ (enc := (eN .i64)) [0, 2, 5] rfl rfl rfl rfl rfl rfl rfl rfl rfl rfl rfl rfl (Nat.le_of_ble_eq_true rfl) ?_
          obtain ⟨y41, hy41, h42⟩ := bi_ok h40
          refine eo_callF [0] (I y41.1) [.box 25 [.d (Sl (eN .i64) y41.2.L), I y41.2.v_at], .box 57 [S [], I 0, B false, U 0, U 0, S [], S [], I 0], .box 57 [S q5.2.Name, I q5.2.Kind, B q5.2.Addr.Six, U q5.2.Addr.Hi, U q5.2.Addr.Lo, S q5.2.To, S q5.2.Words, I q5.2.Life]] (callable Tryz.func11 rfl rfl) (c_lanemake_Stream_Pick hy41) rfl (Nat.le_of_ble_eq_true rfl) rfl rfl rfl rfl rfl rfl rfl rfl rfl rfl ?_
          refine go_ops hΓ 1 rfl ?_
          refine eo_store hΓ rfl rfl rfl rfl rfl rfl rfl rfl (Nat.le_of_ble_eq_true rfl) ?_
          refine eo_hp [.box 25 [.d (Sl (eN .i64) y41.2.L), I y41.2.v_at], .box 57 [S [], I 0, B false, U 0, U 0, S [], S [], I 0], .box 57 [S q5.2.Name, I y41.1, B q5.2.Addr.Six, U q5.2.Addr.Hi, U q5.2.Addr.Lo, S q5.2.To, S q5.2.Words, I q5.2.Life]] rfl ?_
          refine go_ops hΓ 2 rfl ?_
          obtain rfl := Option.some.inj h42
          exact ⟨⟨rfl, rfl, trivial⟩, [], rfl, .inl rfl⟩
        · have h43 := cF h39 hb
          refine go hΓ 6 rfl ?_
          refine j_cond rfl (fun hb => ?_) (fun hb => ?_)
          · have h44 := cT h43 hb
            obtain ⟨y45, hy45, h46⟩ := bi_ok h44
            refine go hΓ 2 rfl ?_
            refine eo_callF [0] (.agg [B y45.1.Six, U y45.1.Hi, U y45.1.Lo]) [.box 25 [.d (Sl (eN .i64) y45.2.L), I y45.2.v_at], .box 57 [S [], I 0, B false, U 0, U 0, S [], S [], I 0], .box 57 [S q5.2.Name, I q5.2.Kind, B q5.2.Addr.Six, U q5.2.Addr.Hi, U q5.2.Addr.Lo, S q5.2.To, S q5.2.Words, I q5.2.Life]] (callable Tryz.func127 rfl rfl) (c_lanemake_Stream_Raw hy45) rfl (Nat.le_of_ble_eq_true rfl) rfl rfl rfl rfl rfl rfl rfl rfl rfl rfl ?_
            refine go_ops hΓ 1 rfl ?_
            refine eo_store hΓ rfl rfl rfl rfl rfl rfl rfl rfl (Nat.le_of_ble_eq_true rfl) ?_
            refine eo_hp [.box 25 [.d (Sl (eN .i64) y45.2.L), I y45.2.v_at], .box 57 [S [], I 0, B false, U 0, U 0, S [], S [], I 0], .box 57 [S q5.2.Name, I q5.2.Kind, B y45.1.Six, U y45.1.Hi, U y45.1.Lo, S q5.2.To, S q5.2.Words, I q5.2.Life]] rfl ?_
            refine go_ops hΓ 2 rfl ?_
            obtain rfl := Option.some.inj h46
            exact ⟨⟨rfl, rfl, trivial⟩, [], rfl, .inl rfl⟩
          · have h47 := cF h43 hb
            refine go hΓ 6 rfl ?_
            refine j_cond rfl (fun hb => ?_) (fun hb => ?_)
            · have h48 := cT h47 hb
              refine go hΓ 2 rfl ?_
              refine eo_litT hΓ (enc := eS) [[], [65], [120]] rfl rfl rfl rfl rfl rfl rfl rfl rfl rfl rfl rfl (Nat.le_of_ble_eq_true rfl) ?_
              obtain ⟨y49, hy49, h50⟩ := bi_ok h48
              refine eo_callF [0] (S y49.1) [.box 25 [.d (Sl (eN .i64) y49.2.L), I y49.2.v_at], .box 57 [S [], I 0, B false, U 0, U 0, S [], S [], I 0], .box 57 [S q5.2.Name, I q5.2.Kind, B q5.2.Addr.Six, U q5.2.Addr.Hi, U q5.2.Addr.Lo, S q5.2.To, S q5.2.Words, I q5.2.Life]] (callable Tryz.func16 rfl rfl) (c_lanemake_Stream_Some hy49) rfl (Nat.le_of_ble_eq_true rfl) rfl rfl rfl rfl rfl rfl rfl rfl rfl rfl ?_
              refine go_ops hΓ 1 rfl ?_
              refine eo_store hΓ rfl rfl rfl rfl rfl rfl rfl rfl (Nat.le_of_ble_eq_true rfl) ?_
              refine eo_hp [.box 25 [.d (Sl (eN .i64) y49.2.L), I y49.2.v_at], .box 57 [S [], I 0, B false, U 0, U 0, S [], S [], I 0], .box 57 [S q5.2.Name, I q5.2.Kind, B q5.2.Addr.Six, U q5.2.Addr.Hi, U q5.2.Addr.Lo, S y49.1, S q5.2.Words, I q5.2.Life]] rfl ?_
              refine go_ops hΓ 2 rfl ?_
              obtain rfl := Option.some.inj h50
              exact ⟨⟨rfl, rfl, trivial⟩, [], rfl, .inl rfl⟩
            · have h51 := cF h47 hb
              refine go hΓ 2 rfl ?_
              refine eo_litT hΓ (enc := eS) [[32, 120], [97, 10, 98], [], [121]] rfl rfl rfl rfl rfl rfl rfl rfl rfl rfl rfl rfl (Nat.le_of_ble_eq_true rfl) ?_
              obtain ⟨y52, hy52, h53⟩ := bi_ok h51
              refine eo_callF [0] (S y52.1) [.box 25 [.d (Sl (eN .i64) y52.2.L), I y52.2.v_at], .box 57 [S [], I 0, B false, U 0, U 0, S [], S [], I 0], .box 57 [S q5.2.Name, I q5.2.Kind, B q5.2.Addr.Six, U q5.2.Addr.Hi, U q5.2.Addr.Lo, S q5.2.To, S q5.2.Words, I q5.2.Life]] (callable Tryz.func16 rfl rfl) (c_lanemake_Stream_Some hy52) rfl (Nat.le_of_ble_eq_true rfl) rfl rfl rfl rfl rfl rfl rfl rfl rfl rfl ?_
              obtain ⟨y54, hy54, h55⟩ := bi_ok h53
              refine go_ops hΓ 1 rfl ?_
              refine eo_callF [0] (I y54.1) [.box 25 [.d (Sl (eN .i64) y54.2.L), I y54.2.v_at], .box 57 [S [], I 0, B false, U 0, U 0, S [], S [], I 0], .box 57 [S q5.2.Name, I q5.2.Kind, B q5.2.Addr.Six, U q5.2.Addr.Hi, U q5.2.Addr.Lo, S q5.2.To, S q5.2.Words, I q5.2.Life]] (callable Tryz.func111 rfl rfl) (c_lanemake_Stream_Odd hy54) rfl (Nat.le_of_ble_eq_true rfl) rfl rfl rfl rfl rfl rfl rfl rfl rfl rfl ?_
              refine go_ops hΓ 1 rfl ?_
              refine eo_store hΓ rfl rfl rfl rfl rfl rfl rfl rfl (Nat.le_of_ble_eq_true rfl) ?_
              refine eo_hp [.box 25 [.d (Sl (eN .i64) y54.2.L), I y54.2.v_at], .box 57 [S [], I 0, B false, U 0, U 0, S [], S [], I 0], .box 57 [S q5.2.Name, I q5.2.Kind, B q5.2.Addr.Six, U q5.2.Addr.Hi, U q5.2.Addr.Lo, S q5.2.To, S y52.1, I q5.2.Life]] rfl ?_
              refine go_ops hΓ 1 rfl ?_
              refine eo_store hΓ rfl rfl rfl rfl rfl rfl rfl rfl (Nat.le_of_ble_eq_true rfl) ?_
              refine eo_hp [.box 25 [.d (Sl (eN .i64) y54.2.L), I y54.2.v_at], .box 57 [S [], I 0, B false, U 0, U 0, S [], S [], I 0], .box 57 [S q5.2.Name, I q5.2.Kind, B q5.2.Addr.Six, U q5.2.Addr.Hi, U q5.2.Addr.Lo, S q5.2.To, S y52.1, I y54.1]] rfl ?_
              refine go_ops hΓ 2 rfl ?_
              obtain rfl := Option.some.inj h55
              exact ⟨⟨rfl, rfl, trivial⟩, [], rfl, .inl rfl⟩
      · have h56 := cF hq35 hb
        refine go hΓ 1 rfl ?_
        obtain rfl := Option.some.inj h56
        exact ⟨⟨rfl, rfl, trivial⟩, [], rfl, .inl rfl⟩
    · refine go hΓ 4 rfl ?_
      refine eo_store hΓ rfl rfl rfl rfl rfl rfl rfl rfl (Nat.le_of_ble_eq_true rfl) ?_
      refine eo_hp [.box 25 [.d (Sl (eN .i64) q35.1.L), I q35.1.v_at], .box 57 [S q35.2.Name, I q35.2.Kind, B q35.2.Addr.Six, U q35.2.Addr.Hi, U q35.2.Addr.Lo, S q35.2.To, S q35.2.Words, I q35.2.Life], .box 57 [S q35.2.Name, I q35.2.Kind, B q35.2.Addr.Six, U q35.2.Addr.Hi, U q35.2.Addr.Lo, S q35.2.To, S q35.2.Words, I q35.2.Life]] rfl ?_
      refine go_ops hΓ 3 rfl ?_
      obtain rfl := Option.some.inj h36
      exact fin_objs hΓ [_, _] (.inr rfl) rfl rfl rfl rfl (.inr ⟨HB.mk rfl, rfl⟩)
theorem c_lanemake_Stream_Records {s : T_lanemake_Stream} {many : Int} {r : (List T_api_Record) × T_lanemake_Stream} (h : m_lanemake_Stream_Records s many = some r) : EC Tryz.prog 17 [.ptr 0 0, I many] [.box 25 [.d (Sl (eN .i64) s.L), I s.v_at]] fun g hp' => g = .sl 1 r.1.length ∧ hp' = [.box 25 [.d (Sl (eN .i64) r.2.L), I r.2.v_at], .row 57 8 r.1.length (r.1.flatMap e_api_Record)] := by
  refine ec_enterC (Fr.of 0 _) Tryz.func17 rfl (Fr.of_ok _) (Nat.le_of_ble_eq_true rfl) fun _ => ?_
  refine go_in ?_
  unfold m_lanemake_Stream_Records at h
  refine go hΓ 2 rfl ?_
  refine eo_nilOwn (t := 0) 57 8 rfl (Nat.le_of_ble_eq_true rfl) ?_
  refine go_ops hΓ 4 rfl ?_
  refine eo_nilOwn (t := 0) 57 8 rfl (Nat.le_of_ble_eq_true rfl) ?_
  refine go_ops hΓ 9 rfl ?_
  obtain ⟨q4, hq4, h5⟩ := bi_ok h
  obtain ⟨hb7, h8⟩ := gd_ok hq4
  replace hb7 := of_decide_eq_true hb7
  refine j_cutNZ [(5, .sl 2 q4.2.length)] [.box 25 [.d (Sl (eN .i64) q4.1.L), I q4.1.v_at], .row 57 8 ([] : List T_api_Record).length (([] : List T_api_Record).flatMap e_api_Record), .row 57 8 q4.2.length (q4.2.flatMap e_api_Record)] ?_ ?_
  · refine go hΓ 1 rfl ?_
    refine j_rangeG h8 (fun i1 s2 => [(0, .ptr 0 0), (5, .sl 2 s2.2.length), (6, I many), (7, I (i1 : Int))]) (fun s2 => [.box 25 [.d (Sl (eN .i64) s2.1.L), I s2.1.v_at], .row 57 8 ([] : List T_api_Record).length (([] : List T_api_Record).flatMap e_api_Record), .row 57 8 s2.2.length (s2.2.flatMap e_api_Record)]) ⟨⟨rfl, rfl, rfl, rfl, trivial⟩, [], rfl, .inl rfl⟩ (fun i1 s2 y12 hlt hy10 => ?_) (fun hge => ?_)
    · refine go hΓ 6 rfl ?_
      refine j_condT rfl (decide_eq_true hlt) ?_
      refine go hΓ 8 rfl ?_
      refine eo_litT hΓ (enc := eS) [[97, 46, 110, 101, 116, 46, 120], [98, 46, 110, 101, 116, 46, 120], [99, 46, 110, 101, 116, 46, 120], [120, 46, 121]] rfl rfl rfl rfl rfl rfl rfl rfl rfl rfl rfl rfl (Nat.le_of_ble_eq_true rfl) ?_
      obtain ⟨y13, hy13, h14⟩ := bi_ok hy10
      refine eo_callF [0] (S y13.1) [.box 25 [.d (Sl (eN .i64) y13.2.L), I y13.2.v_at], .row 57 8 ([] : List T_api_Record).length (([] : List T_api_Record).flatMap e_api_Record), .row 57 8 s2.2.length (s2.2.flatMap e_api_Record)] (callable Tryz.func16 rfl rfl) (c_lanemake_Stream_Some hy13) rfl (Nat.le_of_ble_eq_true rfl) rfl rfl rfl rfl rfl rfl rfl rfl rfl rfl ?_
      obtain ⟨y15, hy15, h16⟩ := bi_ok h14
      refine eo_callF [0] (.agg [S y15.1.Name, I y15.1.Kind, B y15.1.Addr.Six, U y15.1.Addr.Hi, U y15.1.Addr.Lo, S y15.1.To, S y15.1.Words, I y15.1.Life]) [.box 25 [.d (Sl (eN .i64) y15.2.L), I y15.2.v_at], .row 57 8 ([] : List T_api_Record).length (([] : List T_api_Record).flatMap e_api_Record), .row 57 8 s2.2.length (s2.2.flatMap e_api_Record)] (callable Tryz.func56 rfl rfl) (c_lanemake_Stream_record hy15) rfl (Nat.le_of_ble_eq_true rfl) rfl rfl rfl rfl rfl rfl rfl rfl rfl rfl ?_
      refine eo_litT hΓ (enc := e_api_Record) [y15.1] rfl rfl rfl rfl rfl rfl rfl rfl rfl rfl rfl rfl (Nat.le_of_ble_eq_true rfl) ?_
      obtain ⟨y17, hy17, h18⟩ := bi_ok h16
      refine eo_appendT hΓ (enc := e_api_Record) hy17 rfl rfl rfl rfl rfl rfl rfl rfl rfl (fun _ => rfl) rfl rfl rfl rfl ?_
      refine go_ops hΓ 8 rfl ?_
      obtain rfl := Option.some.inj h18
      exact ⟨⟨rfl, rfl, rfl, get_eq rfl (w64_succ (by omega)), trivial⟩, [], rfl, .inl rfl⟩
    · refine go hΓ 6 rfl ?_
      refine j_condF rfl (decide_eq_false hge) ?_
      refine go hΓ 4 rfl ?_
      exact ⟨⟨rfl, trivial⟩, [], rfl, .inl rfl⟩
  · refine go hΓ 8 rfl ?_
    refine cv_kill 1 [.box 25 [.d (Sl (eN .i64) q4.1.L), I q4.1.v_at], .dead, .row 57 8 q4.2.length (q4.2.flatMap e_api_Record)] rfl (Nat.le_of_ble_eq_true rfl) ?_
    refine cv_move 2 1 [.box 25 [.d (Sl (eN .i64) q4.1.L), I q4.1.v_at], .row 57 8 q4.2.length (q4.2.flatMap e_api_Record), .dead] rfl rfl rfl rfl rfl rfl ?_
    refine cv_here ?_
    obtain rfl := Option.some.inj h5
    exact fin_objs hΓ [_] (.inr rfl) rfl rfl rfl rfl (.inr ⟨HB.mk rfl, rfl⟩)
set_option maxHeartbeats 8000000 in
theorem c_lanemake_Stream_Message {s : T_lanemake_Stream} {r : T_api_Message × T_lanemake_Stream} (h : m_lanemake_Stream_Message s = some r) : EC Tryz.prog 36 [.ptr 0 0] [.box 25 [.d (Sl (eN .i64) s.L), I s.v_at]] fun g hp' => g = .agg [I r.1.Id, B r.1.Reply, I r.1.Code, .d (Sl e_api_Question r.1.Asked), .d (Sl e_api_Record r.1.Got)] ∧ hp' = [.box 25 [.d (Sl (eN .i64) r.2.L), I r.2.v_at]] := by
  refine ec_enter (Fr.of 0 _) Tryz.func36 rfl (Fr.of_ok _) (Nat.le_of_ble_eq_true rfl) fun _ => ?_
  refine go_in ?_
  unfold m_lanemake_Stream_Message at h
  refine go hΓ 2 rfl ?_
  refine eo_alloc hΓ rfl rfl rfl (Nat.le_of_ble_eq_true rfl) ?_
  refine go_ops hΓ 5 rfl ?_
  refine eo_litT hΓ (enc := (eN .i64)) [0, 1, 258, 65535] rfl rfl rfl rfl rfl rfl rfl rfl rfl rfl rfl rfl (Nat.le_of_ble_eq_true rfl) ?_
  obtain ⟨y1, hy1, h2⟩ := bi_ok h
  refine eo_callF [0] (I y1.1) [.box 25 [.d (Sl (eN .i64) y1.2.L), I y1.2.v_at], .box 31 [I 0, B false, I 0, .d (Sl e_api_Question []), .d (Sl e_api_Record [])]] (callable Tryz.func11 rfl rfl) (c_lanemake_Stream_Pick hy1) rfl (Nat.le_of_ble_eq_true rfl) rfl rfl rfl rfl rfl rfl rfl rfl rfl rfl ?_
  obtain ⟨y3, hy3, h4⟩ := bi_ok h2
  refine go_ops hΓ 1 rfl ?_
  refine eo_callF [0] (B y3.1) [.box 25 [.d (Sl (eN .i64) y3.2.L), I y3.2.v_at], .box 31 [I 0, B false, I 0, .d (Sl e_api_Question []), .d (Sl e_api_Record [])]] (callable Tryz.func15 rfl rfl) (c_lanemake_Stream_Flip hy3) rfl (Nat.le_of_ble_eq_true rfl) rfl rfl rfl rfl rfl rfl rfl rfl rfl rfl ?_
  refine go_ops hΓ 1 rfl ?_
  refine eo_litT hΓ (enc := (eN .i64)) [0, 0, 3, 15] rfl rfl rfl rfl rfl rfl rfl rfl rfl rfl rfl rfl (Nat.le_of_ble_eq_true rfl) ?_
  obtain ⟨y5, hy5, h6⟩ := bi_ok h4
  refine eo_callF [0] (I y5.1) [.box 25 [.d (Sl (eN .i64) y5.2.L), I y5.2.v_at], .box 31 [I 0, B false, I 0, .d (Sl e_api_Question []), .d (Sl e_api_Record [])]] (callable Tryz.func11 rfl rfl) (c_lanemake_Stream_Pick hy5) rfl (Nat.le_of_ble_eq_true rfl) rfl rfl rfl rfl rfl rfl rfl rfl rfl rfl ?_
  refine eo_s (Nat.le_of_ble_eq_true rfl) (nblt.1 rfl) (ops_nilAt 57 8 4 (ops_nilAt 82 2 3 (OpP.s (op_buildX hΓ [3, 4] (gs := [I y1.1, B y3.1, I y5.1, .d (.v (.slice none 0 0)), .d (.v (.slice none 0 0))]) rfl rfl rfl rfl rfl rfl)) rfl) rfl) ?_
  refine eo_alloc hΓ rfl rfl rfl (Nat.le_of_ble_eq_true rfl) ?_
  refine eo_store hΓ rfl rfl rfl rfl rfl rfl rfl rfl (Nat.le_of_ble_eq_true rfl) ?_
  refine eo_hp [.box 25 [.d (Sl (eN .i64) y5.2.L), I y5.2.v_at], .box 31 [I 0, B false, I 0, .d (Sl e_api_Question []), .d (Sl e_api_Record [])], .row 82 2 ([] : List T_api_Question).length (([] : List T_api_Question).flatMap e_api_Question), .row 57 8 ([] : List T_api_Record).length (([] : List T_api_Record).flatMap e_api_Record), .box 31 [I y1.1, B y3.1, I y5.1, .sl 2 ([] : List T_api_Question).length, .sl 3 ([] : List T_api_Record).length]] rfl ?_
  refine go_ops hΓ 6 rfl ?_
  refine eo_litT hΓ (enc := (eN .i64)) [0, 1, 1, 2] rfl rfl rfl rfl rfl rfl rfl rfl rfl rfl rfl rfl (Nat.le_of_ble_eq_true rfl) ?_
  obtain ⟨y7, hy7, h8⟩ := bi_ok h6
  refine eo_callF [0] (I y7.1) [.box 25 [.d (Sl (eN .i64) y7.2.L), I y7.2.v_at], .box 31 [I 0, B false, I 0, .d (Sl e_api_Question []), .d (Sl e_api_Record [])], .row 82 2 ([] : List T_api_Question).length (([] : List T_api_Question).flatMap e_api_Question), .row 57 8 ([] : List T_api_Record).length (([] : List T_api_Record).flatMap e_api_Record), .box 31 [I y1.1, B y3.1, I y5.1, .sl 2 ([] : List T_api_Question).length, .sl 3 ([] : List T_api_Record).length]] (callable Tryz.func11 rfl rfl) (c_lanemake_Stream_Pick hy7) rfl (Nat.le_of_ble_eq_true rfl) rfl rfl rfl rfl rfl rfl rfl rfl rfl rfl ?_
  refine go_ops hΓ 3 rfl ?_
  obtain ⟨q12, hq12, h13⟩ := bi_ok h8
  obtain ⟨hb15, h16⟩ := gd_ok hq12
  replace hb15 := of_decide_eq_true hb15
  refine j_cutNZ [(0, .ptr 0 0), (2, .ptr 1 0), (3, .ptr 4 0)] [.box 25 [.d (Sl (eN .i64) q12.1.L), I q12.1.v_at], .box 31 [I 0, B false, I 0, .d (Sl e_api_Question []), .d (Sl e_api_Record [])], .row 82 2 q12.2.length (q12.2.flatMap e_api_Question), .row 57 8 ([] : List T_api_Record).length (([] : List T_api_Record).flatMap e_api_Record), .box 31 [I y1.1, B y3.1, I y5.1, .sl 2 q12.2.length, .sl 3 ([] : List T_api_Record).length]] ?_ ?_
  · refine go hΓ 1 rfl ?_
    refine j_rangeG h16 (fun i9 s10 => [(0, .ptr 0 0), (2, .ptr 1 0), (3, .ptr 4 0), (15, I y7.1), (16, I (i9 : Int))]) (fun s10 => [.box 25 [.d (Sl (eN .i64) s10.1.L), I s10.1.v_at], .box 31 [I 0, B false, I 0, .d (Sl e_api_Question []), .d (Sl e_api_Record [])], .row 82 2 s10.2.length (s10.2.flatMap e_api_Question), .row 57 8 ([] : List T_api_Record).length (([] : List T_api_Record).flatMap e_api_Record), .box 31 [I y1.1, B y3.1, I y5.1, .sl 2 s10.2.length, .sl 3 ([] : List T_api_Record).length]]) ⟨⟨rfl, rfl, rfl, rfl, rfl, trivial⟩, [], rfl, .inl rfl⟩ (fun i9 s10 y20 hlt hy18 => ?_) (fun hge => ?_)
    · refine go hΓ 6 rfl ?_
      refine j_condT rfl (decide_eq_true hlt) ?_
      refine go hΓ 4 rfl ?_
      refine j_drawE [.dead, .dead, .dead, .dead, .box 31 [I y1.1, B y3.1, I y5.1, .sl 2 s10.2.length, .sl 3 ([] : List T_api_Record).length]] [1] [4, 7, 10, 12] [10, 12] hmix (by kernel_rfl) (by kernel_rfl) ⟨rfl, trivial⟩ (Nat.le_of_ble_eq_true rfl) ?_
      refine go_E hΓ 3 rfl ?_
      refine ge_litT hΓ (enc := eS) [[97, 46, 110, 101, 116, 46, 120], [110, 101, 116, 46, 120], [100, 101, 101, 112, 46, 97, 46, 110, 101, 116, 46, 120], [111, 116, 104, 101, 114], [120, 46, 97, 46, 110, 101, 116]] rfl rfl rfl rfl rfl rfl rfl rfl rfl rfl rfl rfl ?_
      obtain ⟨y21, hy21, h22⟩ := bi_ok hy18
      refine ge_h [.box 25 [.d (Sl (eN .i64) y21.2.L), I y21.2.v_at], .box 31 [I 0, B false, I 0, .d (Sl e_api_Question []), .d (Sl e_api_Record [])], .row 82 2 s10.2.length (s10.2.flatMap e_api_Question), .row 57 8 ([] : List T_api_Record).length (([] : List T_api_Record).flatMap e_api_Record), .box 31 [I y1.1, B y3.1, I y5.1, .sl 2 s10.2.length, .sl 3 ([] : List T_api_Record).length]] rfl rfl rfl (st_st ⟨rfl, trivial⟩) (qte_callF [0] (S y21.1) [.box 25 [.d (Sl (eN .i64) y21.2.L), I y21.2.v_at], .box 31 [I 0, B false, I 0, .d (Sl e_api_Question []), .d (Sl e_api_Record [])], .row 82 2 s10.2.length (s10.2.flatMap e_api_Question), .row 57 8 ([] : List T_api_Record).length (([] : List T_api_Record).flatMap e_api_Record), .box 31 [I y1.1, B y3.1, I y5.1, .sl 2 s10.2.length, .sl 3 ([] : List T_api_Record).length]] (callable Tryz.func16 rfl rfl) (c_lanemake_Stream_Some hy21) rfl rfl rfl rfl rfl rfl rfl rfl rfl rfl) ?_
      refine go_E hΓ 1 rfl ?_
      refine ge_litT hΓ (enc := (eN .i64)) [1, 5, 28, 12, 16] rfl rfl rfl rfl rfl rfl rfl rfl rfl rfl rfl rfl ?_
      obtain ⟨y23, hy23, h24⟩ := bi_ok h22
      refine ge_h [.box 25 [.d (Sl (eN .i64) y23.2.L), I y23.2.v_at], .box 31 [I 0, B false, I 0, .d (Sl e_api_Question []), .d (Sl e_api_Record [])], .row 82 2 s10.2.length (s10.2.flatMap e_api_Question), .row 57 8 ([] : List T_api_Record).length (([] : List T_api_Record).flatMap e_api_Record), .box 31 [I y1.1, B y3.1, I y5.1, .sl 2 s10.2.length, .sl 3 ([] : List T_api_Record).length]] rfl rfl rfl (st_st ⟨rfl, trivial⟩) (qte_callF [0] (I y23.1) [.box 25 [.d (Sl (eN .i64) y23.2.L), I y23.2.v_at], .box 31 [I 0, B false, I 0, .d (Sl e_api_Question []), .d (Sl e_api_Record [])], .row 82 2 s10.2.length (s10.2.flatMap e_api_Question), .row 57 8 ([] : List T_api_Record).length (([] : List T_api_Record).flatMap e_api_Record), .box 31 [I y1.1, B y3.1, I y5.1, .sl 2 s10.2.length, .sl 3 ([] : List T_api_Record).length]] (callable Tryz.func11 rfl rfl) (c_lanemake_Stream_Pick hy23) rfl rfl rfl rfl rfl rfl rfl rfl rfl rfl) ?_
      refine ge_q rfl (.inl rfl) (fun _ _ => qte_of_qt (qt_p (op_build hΓ (gs := [S y21.1, I y23.1]) rfl rfl rfl rfl rfl rfl))) ?_
      refine ge_litT hΓ (enc := e_api_Question) [(⟨y21.1, y23.1⟩ : T_api_Question)] rfl rfl rfl rfl rfl rfl rfl rfl rfl rfl rfl rfl ?_
      obtain ⟨y25, hy25, h26⟩ := bi_ok h24
      refine ge_h [.box 25 [.d (Sl (eN .i64) y23.2.L), I y23.2.v_at], .box 31 [I 0, B false, I 0, .d (Sl e_api_Question []), .d (Sl e_api_Record [])], .dead, .row 57 8 ([] : List T_api_Record).length (([] : List T_api_Record).flatMap e_api_Record), .box 31 [I y1.1, B y3.1, I y5.1, .junk, .sl 3 ([] : List T_api_Record).length], .row 82 2 y25.length (y25.flatMap e_api_Question)] rfl rfl rfl (brk_st rfl) (qte_s (ops_forg 2 (ops_appendT hΓ (enc := e_api_Question) (id := 2) (h2 := show Γ 82 = some ⟨_, 2, _, _⟩ from rfl) hy25 rfl rfl rfl rfl rfl rfl rfl rfl (fun _ => rfl) rfl))) ?_
      refine go_E hΓ 1 rfl ?_
      refine ge_h0 [.box 25 [.d (Sl (eN .i64) y23.2.L), I y23.2.v_at], .box 31 [I 0, B false, I 0, .d (Sl e_api_Question []), .d (Sl e_api_Record [])], .dead, .row 57 8 ([] : List T_api_Record).length (([] : List T_api_Record).flatMap e_api_Record), .box 31 [I y1.1, B y3.1, I y5.1, .sl 5 y25.length, .sl 3 ([] : List T_api_Record).length], .row 82 2 y25.length (y25.flatMap e_api_Question)] rfl rfl (brk_st rfl) (qte_u (opu_store2 hΓ rfl rfl rfl rfl rfl rfl rfl rfl rfl)) ?_
      refine ge_fin ?_
      refine go hΓ 2 rfl ?_
      refine j_move 5 2 [.box 25 [.d (Sl (eN .i64) y23.2.L), I y23.2.v_at], .box 31 [I 0, B false, I 0, .d (Sl e_api_Question []), .d (Sl e_api_Record [])], .row 82 2 y25.length (y25.flatMap e_api_Question), .row 57 8 ([] : List T_api_Record).length (([] : List T_api_Record).flatMap e_api_Record), .box 31 [I y1.1, B y3.1, I y5.1, .sl 2 y25.length, .sl 3 ([] : List T_api_Record).length], .dead] rfl rfl rfl rfl rfl rfl ?_
      refine go hΓ 4 rfl ?_
      obtain rfl := Option.some.inj h26
      exact ⟨⟨rfl, rfl, rfl, rfl, get_eq rfl (w64_succ (by omega)), trivial⟩, [_], rfl, .inr ⟨HB.mk rfl, FB.mk rfl, (Nat.le_of_ble_eq_true rfl)⟩⟩
    · refine go hΓ 6 rfl ?_
      refine j_condF rfl (decide_eq_false hge) ?_
      refine go hΓ 4 rfl ?_
      exact ⟨⟨rfl, rfl, rfl, trivial⟩, [], rfl, .inl rfl⟩
  · obtain ⟨y27, hy27, h28⟩ := bi_ok h13
    refine go hΓ 5 rfl ?_
    refine eo_callF [0] (I y27.1) [.box 25 [.d (Sl (eN .i64) y27.2.L), I y27.2.v_at], .box 31 [I 0, B false, I 0, .d (Sl e_api_Question []), .d (Sl e_api_Record [])], .row 82 2 q12.2.length (q12.2.flatMap e_api_Question), .row 57 8 ([] : List T_api_Record).length (([] : List T_api_Record).flatMap e_api_Record), .box 31 [I y1.1, B y3.1, I y5.1, .sl 2 q12.2.length, .sl 3 ([] : List T_api_Record).length]] (callable Tryz.func18 rfl rfl) (c_lanemake_Stream_Range hy27) rfl (Nat.le_of_ble_eq_true rfl) rfl rfl rfl rfl rfl rfl rfl rfl rfl rfl ?_
    obtain ⟨y29, hy29, h30⟩ := bi_ok h28
    refine eo_callF [0] (.sl 5 y29.1.length) [.box 25 [.d (Sl (eN .i64) y29.2.L), I y29.2.v_at], .box 31 [I 0, B false, I 0, .d (Sl e_api_Question []), .d (Sl e_api_Record [])], .row 82 2 q12.2.length (q12.2.flatMap e_api_Question), .row 57 8 ([] : List T_api_Record).length (([] : List T_api_Record).flatMap e_api_Record), .box 31 [I y1.1, B y3.1, I y5.1, .sl 2 q12.2.length, .sl 3 ([] : List T_api_Record).length], .row 57 8 y29.1.length (y29.1.flatMap e_api_Record)] (callable Tryz.func17 rfl rfl) (c_lanemake_Stream_Records hy29) rfl (Nat.le_of_ble_eq_true rfl) rfl rfl rfl rfl rfl rfl rfl rfl rfl rfl ?_
    refine go_ops hΓ 1 rfl ?_
    refine eo_store hΓ rfl rfl rfl rfl rfl rfl rfl rfl (Nat.le_of_ble_eq_true rfl) ?_
    refine eo_hp [.box 25 [.d (Sl (eN .i64) y29.2.L), I y29.2.v_at], .box 31 [I 0, B false, I 0, .d (Sl e_api_Question []), .d (Sl e_api_Record [])], .row 82 2 q12.2.length (q12.2.flatMap e_api_Question), .row 57 8 ([] : List T_api_Record).length (([] : List T_api_Record).flatMap e_api_Record), .box 31 [I y1.1, B y3.1, I y5.1, .sl 2 q12.2.length, .sl 5 y29.1.length], .row 57 8 y29.1.length (y29.1.flatMap e_api_Record)] rfl ?_
    obtain ⟨y31, hy31, h32⟩ := bi_ok h30
    refine go_ops hΓ 6 rfl ?_
    refine eo_callF [0] (B y31.1) [.box 25 [.d (Sl (eN .i64) y31.2.L), I y31.2.v_at], .box 31 [I 0, B false, I 0, .d (Sl e_api_Question []), .d (Sl e_api_Record [])], .row 82 2 q12.2.length (q12.2.flatMap e_api_Question), .row 57 8 ([] : List T_api_Record).length (([] : List T_api_Record).flatMap e_api_Record), .box 31 [I y1.1, B y3.1, I y5.1, .sl 2 q12.2.length, .sl 5 y29.1.length], .row 57 8 y29.1.length (y29.1.flatMap e_api_Record)] (callable Tryz.func15 rfl rfl) (c_lanemake_Stream_Flip hy31) rfl (Nat.le_of_ble_eq_true rfl) rfl rfl rfl rfl rfl rfl rfl rfl rfl rfl ?_
    obtain ⟨q33, hq33, h34⟩ := bi_ok h32
    refine go_ops hΓ 2 rfl ?_
    refine j_cutNZ [(0, .ptr 0 0), (2, .ptr 1 0), (3, .ptr 4 0)] [.box 25 [.d (Sl (eN .i64) q33.1.L), I q33.1.v_at], .box 31 [I 0, B false, I 0, .d (Sl e_api_Question []), .d (Sl e_api_Record [])], .row 82 2 q12.2.length (q12.2.flatMap e_api_Question), .row 57 8 ([] : List T_api_Record).length (([] : List T_api_Record).flatMap e_api_Record), .box 31 [I q33.2.1, B y3.1, I q33.2.2, .sl 2 q12.2.length, .sl 5 y29.1.length], .row 57 8 y29.1.length (y29.1.flatMap e_api_Record)] ?_ ?_
    · refine j_cond rfl (fun hb => ?_) (fun hb => ?_)
      · have h35 := cT hq33 hb
        obtain ⟨y36, hy36, h37⟩ := bi_ok h35
        refine go hΓ 2 rfl ?_
        refine eo_callF [0] (I y36.1) [.box 25 [.d (Sl (eN .i64) y36.2.L), I y36.2.v_at], .box 31 [I 0, B false, I 0, .d (Sl e_api_Question []), .d (Sl e_api_Record [])], .row 82 2 q12.2.length (q12.2.flatMap e_api_Question), .row 57 8 ([] : List T_api_Record).length (([] : List T_api_Record).flatMap e_api_Record), .box 31 [I y1.1, B y3.1, I y5.1, .sl 2 q12.2.length, .sl 5 y29.1.length], .row 57 8 y29.1.length (y29.1.flatMap e_api_Record)] (callable Tryz.func111 rfl rfl) (c_lanemake_Stream_Odd hy36) rfl (Nat.le_of_ble_eq_true rfl) rfl rfl rfl rfl rfl rfl rfl rfl rfl rfl ?_
        obtain ⟨y38, hy38, h39⟩ := bi_ok h37
        refine go_ops hΓ 1 rfl ?_
        refine eo_callF [0] (I y38.1) [.box 25 [.d (Sl (eN .i64) y38.2.L), I y38.2.v_at], .box 31 [I 0, B false, I 0, .d (Sl e_api_Question []), .d (Sl e_api_Record [])], .row 82 2 q12.2.length (q12.2.flatMap e_api_Question), .row 57 8 ([] : List T_api_Record).length (([] : List T_api_Record).flatMap e_api_Record), .box 31 [I y1.1, B y3.1, I y5.1, .sl 2 q12.2.length, .sl 5 y29.1.length], .row 57 8 y29.1.length (y29.1.flatMap e_api_Record)] (callable Tryz.func111 rfl rfl) (c_lanemake_Stream_Odd hy38) rfl (Nat.le_of_ble_eq_true rfl) rfl rfl rfl rfl rfl rfl rfl rfl rfl rfl ?_
        refine go_ops hΓ 1 rfl ?_
        refine eo_store hΓ rfl rfl rfl rfl rfl rfl rfl rfl (Nat.le_of_ble_eq_true rfl) ?_
        refine eo_hp [.box 25 [.d (Sl (eN .i64) y38.2.L), I y38.2.v_at], .box 31 [I 0, B false, I 0, .d (Sl e_api_Question []), .d (Sl e_api_Record [])], .row 82 2 q12.2.length (q12.2.flatMap e_api_Question), .row 57 8 ([] : List T_api_Record).length (([] : List T_api_Record).flatMap e_api_Record), .box 31 [I y36.1, B y3.1, I y5.1, .sl 2 q12.2.length, .sl 5 y29.1.length], .row 57 8 y29.1.length (y29.1.flatMap e_api_Record)] rfl ?_
        refine go_ops hΓ 1 rfl ?_
        refine eo_store hΓ rfl rfl rfl rfl rfl rfl rfl rfl (Nat.le_of_ble_eq_true rfl) ?_
        refine eo_hp [.box 25 [.d (Sl (eN .i64) y38.2.L), I y38.2.v_at], .box 31 [I 0, B false, I 0, .d (Sl e_api_Question []), .d (Sl e_api_Record [])], .row 82 2 q12.2.length (q12.2.flatMap e_api_Question), .row 57 8 ([] : List T_api_Record).length (([] : List T_api_Record).flatMap e_api_Record), .box 31 [I y36.1, B y3.1, I y38.1, .sl 2 q12.2.length, .sl 5 y29.1.length], .row 57 8 y29.1.length (y29.1.flatMap e_api_Record)] rfl ?_
        refine go_ops hΓ 1 rfl ?_
        obtain rfl := Option.some.inj h39
        exact ⟨⟨rfl, rfl, rfl, trivial⟩, [], rfl, .inl rfl⟩
      · have h40 := cF hq33 hb
        refine go hΓ 1 rfl ?_
        obtain rfl := Option.some.inj h40
        exact ⟨⟨rfl, rfl, rfl, trivial⟩, [], rfl, .inl rfl⟩
    · obtain ⟨y41, hy41, h42⟩ := bi_ok h34
      refine go hΓ 5 rfl ?_
      refine eo_callF [0] (B y41.1) [.box 25 [.d (Sl (eN .i64) y41.2.L), I y41.2.v_at], .box 31 [I 0, B false, I 0, .d (Sl e_api_Question []), .d (Sl e_api_Record [])], .row 82 2 q12.2.length (q12.2.flatMap e_api_Question), .row 57 8 ([] : List T_api_Record).length (([] : List T_api_Record).flatMap e_api_Record), .box 31 [I q33.2.1, B y3.1, I q33.2.2, .sl 2 q12.2.length, .sl 5 y29.1.length], .row 57 8 y29.1.length (y29.1.flatMap e_api_Record)] (callable Tryz.func15 rfl rfl) (c_lanemake_Stream_Flip hy41) rfl (Nat.le_of_ble_eq_true rfl) rfl rfl rfl rfl rfl rfl rfl rfl rfl rfl ?_
      obtain ⟨q43, hq43, h44⟩ := bi_ok h42
      refine go_ops hΓ 2 rfl ?_
      refine j_cutNC [(2, .ptr 1 0), (3, .ptr 4 0)] [.box 25 [.d (Sl (eN .i64) q43.1.L), I q43.1.v_at], .box 31 [I 0, B false, I 0, .d (Sl e_api_Question []), .d (Sl e_api_Record [])], .row 82 2 q12.2.length (q12.2.flatMap e_api_Question), .row 57 8 ([] : List T_api_Record).length (([] : List T_api_Record).flatMap e_api_Record), .box 31 [I q33.2.1, B y3.1, I q33.2.2, .sl 2 q12.2.length, .sl 5 q43.2.length], .row 57 8 q43.2.length (q43.2.flatMap e_api_Record)] ?_ ?_
      · refine j_cond rfl (fun hb => ?_) (fun hb => ?_)
        · have h45 := cT hq43 hb
          refine j_drawE [.dead, .dead, .dead, .dead, .box 31 [I q33.2.1, B y3.1, I q33.2.2, .sl 2 q12.2.length, .sl 5 y29.1.length]] [1] [5, 6, 8, 10] [8, 10] hmix (by kernel_rfl) (by kernel_rfl) ⟨rfl, trivial⟩ (Nat.le_of_ble_eq_true rfl) ?_
          refine go_E hΓ 4 rfl ?_
          refine ge_litT hΓ (enc := eS) [[42, 46, 110, 101, 116, 46, 120], [], [65]] rfl rfl rfl rfl rfl rfl rfl rfl rfl rfl rfl rfl ?_
          obtain ⟨y46, hy46, h47⟩ := bi_ok h45
          refine ge_h [.box 25 [.d (Sl (eN .i64) y46.2.L), I y46.2.v_at], .box 31 [I 0, B false, I 0, .d (Sl e_api_Question []), .d (Sl e_api_Record [])], .row 82 2 q12.2.length (q12.2.flatMap e_api_Question), .row 57 8 ([] : List T_api_Record).length (([] : List T_api_Record).flatMap e_api_Record), .box 31 [I q33.2.1, B y3.1, I q33.2.2, .sl 2 q12.2.length, .sl 5 y29.1.length], .row 57 8 y29.1.length (y29.1.flatMap e_api_Record)] rfl rfl rfl (st_st ⟨rfl, trivial⟩) (qte_callF [0] (S y46.1) [.box 25 [.d (Sl (eN .i64) y46.2.L), I y46.2.v_at], .box 31 [I 0, B false, I 0, .d (Sl e_api_Question []), .d (Sl e_api_Record [])], .row 82 2 q12.2.length (q12.2.flatMap e_api_Question), .row 57 8 ([] : List T_api_Record).length (([] : List T_api_Record).flatMap e_api_Record), .box 31 [I q33.2.1, B y3.1, I q33.2.2, .sl 2 q12.2.length, .sl 5 y29.1.length], .row 57 8 y29.1.length (y29.1.flatMap e_api_Record)] (callable Tryz.func16 rfl rfl) (c_lanemake_Stream_Some hy46) rfl rfl rfl rfl rfl rfl rfl rfl rfl rfl) ?_
          obtain ⟨y48, hy48, h49⟩ := bi_ok h47
          refine ge_h [.box 25 [.d (Sl (eN .i64) y48.2.L), I y48.2.v_at], .box 31 [I 0, B false, I 0, .d (Sl e_api_Question []), .d (Sl e_api_Record [])], .row 82 2 q12.2.length (q12.2.flatMap e_api_Question), .row 57 8 ([] : List T_api_Record).length (([] : List T_api_Record).flatMap e_api_Record), .box 31 [I q33.2.1, B y3.1, I q33.2.2, .sl 2 q12.2.length, .sl 5 y29.1.length], .row 57 8 y29.1.length (y29.1.flatMap e_api_Record)] rfl rfl rfl (st_st ⟨rfl, trivial⟩) (qte_callF [0] (.agg [S y48.1.Name, I y48.1.Kind, B y48.1.Addr.Six, U y48.1.Addr.Hi, U y48.1.Addr.Lo, S y48.1.To, S y48.1.Words, I y48.1.Life]) [.box 25 [.d (Sl (eN .i64) y48.2.L), I y48.2.v_at], .box 31 [I 0, B false, I 0, .d (Sl e_api_Question []), .d (Sl e_api_Record [])], .row 82 2 q12.2.length (q12.2.flatMap e_api_Question), .row 57 8 ([] : List T_api_Record).length (([] : List T_api_Record).flatMap e_api_Record), .box 31 [I q33.2.1, B y3.1, I q33.2.2, .sl 2 q12.2.length, .sl 5 y29.1.length], .row 57 8 y29.1.length (y29.1.flatMap e_api_Record)] (callable Tryz.func56 rfl rfl) (c_lanemake_Stream_record hy48) rfl rfl rfl rfl rfl rfl rfl rfl rfl rfl) ?_
          refine ge_litT hΓ (enc := e_api_Record) [y48.1] rfl rfl rfl rfl rfl rfl rfl rfl rfl rfl rfl rfl ?_
          obtain ⟨y50, hy50, h51⟩ := bi_ok h49
          refine ge_h [.box 25 [.d (Sl (eN .i64) y48.2.L), I y48.2.v_at], .box 31 [I 0, B false, I 0, .d (Sl e_api_Question []), .d (Sl e_api_Record [])], .row 82 2 q12.2.length (q12.2.flatMap e_api_Question), .row 57 8 ([] : List T_api_Record).length (([] : List T_api_Record).flatMap e_api_Record), .box 31 [I q33.2.1, B y3.1, I q33.2.2, .sl 2 q12.2.length, .junk], .dead, .row 57 8 y50.length (y50.flatMap e_api_Record)] rfl rfl rfl (brk_st rfl) (qte_s (ops_forg 5 (ops_appendT hΓ (enc := e_api_Record) (id := 5) (h2 := show Γ 57 = some ⟨_, 8, _, _⟩ from rfl) hy50 rfl rfl rfl rfl rfl rfl rfl rfl (fun _ => rfl) rfl))) ?_
          refine go_E hΓ 1 rfl ?_
          refine ge_h0 [.box 25 [.d (Sl (eN .i64) y48.2.L), I y48.2.v_at], .box 31 [I 0, B false, I 0, .d (Sl e_api_Question []), .d (Sl e_api_Record [])], .row 82 2 q12.2.length (q12.2.flatMap e_api_Question), .row 57 8 ([] : List T_api_Record).length (([] : List T_api_Record).flatMap e_api_Record), .box 31 [I q33.2.1, B y3.1, I q33.2.2, .sl 2 q12.2.length, .sl 6 y50.length], .dead, .row 57 8 y50.length (y50.flatMap e_api_Record)] rfl rfl (brk_st rfl) (qte_u (opu_store2 hΓ rfl rfl rfl rfl rfl rfl rfl rfl rfl)) ?_
          refine ge_fin ?_
          refine cv_move 6 5 [.box 25 [.d (Sl (eN .i64) y48.2.L), I y48.2.v_at], .box 31 [I 0, B false, I 0, .d (Sl e_api_Question []), .d (Sl e_api_Record [])], .row 82 2 q12.2.length (q12.2.flatMap e_api_Question), .row 57 8 ([] : List T_api_Record).length (([] : List T_api_Record).flatMap e_api_Record), .box 31 [I q33.2.1, B y3.1, I q33.2.2, .sl 2 q12.2.length, .sl 5 y50.length], .row 57 8 y50.length (y50.flatMap e_api_Record), .dead] rfl rfl rfl rfl rfl rfl ?_
          refine cv_here ?_
          obtain rfl := Option.some.inj h51
          exact ⟨⟨rfl, rfl, trivial⟩, [_], rfl, .inr ⟨HB.mk rfl, FB.mk rfl, (Nat.le_of_ble_eq_true rfl)⟩⟩
        · have h52 := cF hq43 hb
          refine go hΓ 1 rfl ?_
          refine cv_here ?_
          obtain rfl := Option.some.inj h52
          exact ⟨⟨rfl, rfl, trivial⟩, [], rfl, .inl rfl⟩
      · refine go hΓ 4 rfl ?_
        refine eo_shr 2 [56] _ [.box 25 [.d (Sl (eN .i64) q43.1.L), I q43.1.v_at], .box 31 [I 0, B false, I 0, .d (Sl e_api_Question []), .d (Sl e_api_Record [])], .dead, .row 57 8 ([] : List T_api_Record).length (([] : List T_api_Record).flatMap e_api_Record), .box 31 [I q33.2.1, B y3.1, I q33.2.2, .d (Sl e_api_Question q12.2), .sl 5 q43.2.length], .row 57 8 q43.2.length (q43.2.flatMap e_api_Record)] rfl rfl rfl (Nat.le_of_ble_eq_true rfl) ?_
        refine eo_shr 5 [56] _ [.box 25 [.d (Sl (eN .i64) q43.1.L), I q43.1.v_at], .box 31 [I 0, B false, I 0, .d (Sl e_api_Question []), .d (Sl e_api_Record [])], .dead, .row 57 8 ([] : List T_api_Record).length (([] : List T_api_Record).flatMap e_api_Record), .box 31 [I q33.2.1, B y3.1, I q33.2.2, .d (Sl e_api_Question q12.2), .d (Sl e_api_Record q43.2)], .dead] rfl rfl rfl (Nat.le_of_ble_eq_true rfl) ?_
        refine eo_store hΓ rfl rfl rfl rfl rfl rfl rfl rfl (Nat.le_of_ble_eq_true rfl) ?_
        refine eo_hp [.box 25 [.d (Sl (eN .i64) q43.1.L), I q43.1.v_at], .box 31 [I q33.2.1, B y3.1, I q33.2.2, .d (Sl e_api_Question q12.2), .d (Sl e_api_Record q43.2)], .dead, .row 57 8 ([] : List T_api_Record).length (([] : List T_api_Record).flatMap e_api_Record), .box 31 [I q33.2.1, B y3.1, I q33.2.2, .d (Sl e_api_Question q12.2), .d (Sl e_api_Record q43.2)], .dead] rfl ?_
        refine go_ops hΓ 3 rfl ?_
        obtain rfl := Option.some.inj h44
        exact fin_objs hΓ [_, _, _, _, _] (.inr rfl) rfl rfl rfl rfl (.inr ⟨HB.mk rfl, rfl⟩)
theorem c_laneref1_in {n : Int} {low : Int} {high : Int} {r : Bool} (h : m_laneref1_in n low high = some r) : Pure Tryz.prog 68 [I n, I low, I high] (B r) := by
  refine Pure.enter (Fr.of 0 _) Tryz.func68 rfl (Fr.of_ok _) rfl rfl ?_
  refine go_in ?_
  unfold m_laneref1_in at h
  refine go hΓ 11 rfl ?_
  refine o_cut 4 [(6, B false), (14, B ((decide ((low : Int) ≤ n)) && (decide ((n : Int) ≤ high))))] [] ?_ ?_
  · refine eo_gsplit rfl rfl (fun hb => ?_) (fun hb => ?_)
    · refine go_ops hΓ 5 rfl ?_
      exact ⟨⟨rfl, get_b rfl (and_t hb), trivial⟩, [], rfl, .inl rfl⟩
    · refine go_ops hΓ 5 rfl ?_
      exact ⟨⟨rfl, get_b rfl (and_f hb), trivial⟩, [], rfl, .inl rfl⟩
  · refine go_ops hΓ 4 rfl ?_
    obtain rfl := Option.some.inj h
    exact fin_pure hΓ (.inr rfl) rfl rfl
set_option maxHeartbeats 8000000 in
theorem c_laneref1_LabelForm {s : Str} {r : Bool} (h : m_laneref1_LabelForm s = some r) : Pure Tryz.prog 151 [S s] (B r) := by
  refine Pure.enter (Fr.of 0 _) Tryz.func151 rfl (Fr.of_ok _) rfl rfl ?_
  refine go_in ?_
  unfold m_laneref1_LabelForm at h
  refine go hΓ 13 rfl ?_
  refine j_cond rfl (fun hb => ?_) (fun hb => ?_)
  · have h1 := cT h hb
    refine go hΓ 7 rfl ?_
    obtain rfl := Option.some.inj h1
    exact fin_pure hΓ (.inr rfl) rfl rfl
  · have h2 := cF h hb
    obtain ⟨y3, hy3, h4⟩ := bi_ok h2
    refine go hΓ 5 rfl ?_
    refine eo_callP (callable Tryz.func135 rfl rfl) (c_strings_TrimPrefix hy3) rfl (Nat.le_of_ble_eq_true rfl) rfl rfl rfl rfl rfl ?_
    refine go_ops hΓ 8 rfl ?_
    obtain ⟨q5, hq5, h6⟩ := bi_ok h4
    refine o_cut 4 [(0, S y3), (2, B false), (14, B q5)] [] ?_ ?_
    · refine eo_gsplit rfl rfl (fun hb => ?_) (fun hb => ?_)
      · have h7 := cT hq5 hb
        obtain ⟨y8, hy8, h9⟩ := bi_ok h7
        refine go_ops hΓ 1 rfl ?_
        refine eo_guard rfl ?_
        refine eo_callP (callable Tryz.func122 rfl rfl) (c_strings_Trim hy8) rfl (Nat.le_of_ble_eq_true rfl) rfl rfl rfl rfl rfl ?_
        refine go_ops hΓ 3 rfl ?_
        obtain rfl := Option.some.inj h9
        exact ⟨⟨rfl, rfl, rfl, trivial⟩, [], rfl, .inl rfl⟩
      · have h10 := cF hq5 hb
        refine go_ops hΓ 5 rfl ?_
        obtain rfl := Option.some.inj h10
        exact ⟨⟨rfl, rfl, rfl, trivial⟩, [], rfl, .inl rfl⟩
    · refine go_ops hΓ 1 rfl ?_
      obtain ⟨q11, hq11, h12⟩ := bi_ok h6
      refine o_cut 4 [(0, S y3), (2, B false), (19, B q11)] [] ?_ ?_
      · refine eo_gsplit rfl rfl (fun hb => ?_) (fun hb => ?_)
        · have h13 := cT hq11 hb
          obtain ⟨c14, hc14, h15⟩ := bi_ok h13
          refine go_ops hΓ 1 rfl ?_
          refine eo_guard rfl ?_
          refine eo_o rfl (op_byteZ hΓ hc14 rfl rfl rfl rfl) ?_
          refine go_ops hΓ 3 rfl ?_
          obtain rfl := Option.some.inj h15
          exact ⟨⟨rfl, rfl, rfl, trivial⟩, [], rfl, .inl rfl⟩
        · have h16 := cF hq11 hb
          refine go_ops hΓ 5 rfl ?_
          obtain rfl := Option.some.inj h16
          exact ⟨⟨rfl, rfl, rfl, trivial⟩, [], rfl, .inl rfl⟩
      · refine go_ops hΓ 1 rfl ?_
        obtain ⟨q17, hq17, h18⟩ := bi_ok h12
        refine o_cut 7 [(2, B false), (27, B q17)] [] ?_ ?_
        · refine eo_gsplit rfl rfl (fun hb => ?_) (fun hb => ?_)
          · have h19 := cT hq17 hb
            obtain ⟨c20, hc20, h21⟩ := bi_ok h19
            refine go_ops hΓ 4 rfl ?_
            refine eo_guard rfl ?_
            refine eo_o rfl (op_byteZ hΓ hc20 rfl rfl rfl rfl) ?_
            refine go_ops hΓ 3 rfl ?_
            obtain rfl := Option.some.inj h21
            exact ⟨⟨rfl, rfl, trivial⟩, [], rfl, .inl rfl⟩
          · have h22 := cF hq17 hb
            refine go_ops hΓ 8 rfl ?_
            obtain rfl := Option.some.inj h22
            exact ⟨⟨rfl, rfl, trivial⟩, [], rfl, .inl rfl⟩
        · refine go_ops hΓ 4 rfl ?_
          obtain rfl := Option.some.inj h18
          exact fin_pure hΓ (.inr rfl) rfl rfl
theorem c_laneref1_DomainFault {s : Str} {r : Int} (h : m_laneref1_DomainFault s = some r) : Pure Tryz.prog 96 [S s] (I r) := by
  refine Pure.enter (Fr.of 0 _) Tryz.func96 rfl (Fr.of_ok _) rfl rfl ?_
  refine go_in ?_
  unfold m_laneref1_DomainFault at h
  refine go hΓ 13 rfl ?_
  refine j_cond rfl (fun hb => ?_) (fun hb => ?_)
  · have h1 := cT h hb
    refine go hΓ 7 rfl ?_
    obtain rfl := Option.some.inj h1
    exact fin_pure hΓ (.inr rfl) rfl rfl
  · have h2 := cF h hb
    obtain ⟨y3, hy3, h4⟩ := bi_ok h2
    refine go hΓ 6 rfl ?_
    refine eo_callP (callable Tryz.func123 rfl rfl) (Pure.rows (c_strings_Split hy3) rfl rfl) rfl (Nat.le_of_ble_eq_true rfl) rfl rfl rfl rfl rfl ?_
    refine go_ops hΓ 4 rfl ?_
    obtain ⟨q8, hq8, h9⟩ := bi_ok h4
    refine j_bound 9 rfl fun hb11 => ?_
    refine j_cutEZ (R := fun a10 => q8 = .go a10) (fun a10 => []) (fun a10 => []) ?_ ?_
    · refine go hΓ 1 rfl ?_
      refine j_range y3 hq8 (fun i5 s6 => [(9, .d (Sl eS y3)), (10, I (y3.length : Int)), (11, I (i5 : Int))]) (fun s6 => []) ⟨⟨rfl, rfl, rfl, trivial⟩, [], rfl, .inl rfl⟩ (fun i5 x7 s6 y15 hx12 hlt hy13 hout14 => ?_) (fun s6 hgo => ?_)
      · refine go hΓ 6 rfl ?_
        refine j_condT rfl (decide_eq_true (Int.ofNat_lt.2 hlt)) ?_
        refine go hΓ 6 rfl ?_
        refine eo_o rfl (op_elemZ hΓ (enc := eS) (getZ_nat hx12) rfl rfl rfl rfl rfl (fun _ => rfl)) ?_
        obtain ⟨y16, hy16, h17⟩ := bi_ok hy13
        refine go_ops hΓ 7 rfl ?_
        refine eo_callP (callable Tryz.func151 rfl rfl) (c_laneref1_LabelForm hy16) rfl (Nat.le_of_ble_eq_true rfl) rfl rfl rfl rfl rfl ?_
        refine go_ops hΓ 3 rfl ?_
        refine j_cond rfl (fun hb => ?_) (fun hb => ?_)
        · have h18 := cT h17 hb
          refine go hΓ 8 rfl ?_
          obtain ⟨v19, hv19, h20⟩ := bi_ok h18
          obtain rfl := Option.some.inj h20
          obtain rfl := hout14 _ rfl
          obtain rfl := Option.some.inj h9
          refine go hΓ 4 rfl ?_
          obtain rfl := Option.some.inj hv19
          exact fin_pure hΓ (.inr rfl) rfl rfl
        · have h21 := cF h17 hb
          refine go hΓ 7 rfl ?_
          obtain rfl := Option.some.inj h21
          exact ⟨_, rfl, ⟨⟨rfl, rfl, get_eq rfl (w64_succ (Nat.lt_of_lt_of_le hlt hb11)), trivial⟩, [], rfl, .inl rfl⟩⟩
      · subst hgo
        refine go hΓ 6 rfl ?_
        refine j_condF rfl (decide_eq_false (Int.lt_irrefl _)) ?_
        refine go hΓ 4 rfl ?_
        exact ⟨_, rfl, ⟨trivial, [], rfl, .inl rfl⟩⟩
    · intro a10 ha
      subst ha
      replace h9 := goI_l h9
      refine go hΓ 7 rfl ?_
      obtain rfl := Option.some.inj h9
      exact fin_pure hΓ (.inr rfl) rfl rfl
theorem c_laneref1_Kinds {r : List Int} (h : m_laneref1_Kinds = some r) : Pure Tryz.prog 66 [] (.d (Sl (eN .i64) r)) := by
  refine Pure.enter (Fr.of 0 _) Tryz.func66 rfl (Fr.of_ok _) rfl rfl ?_
  refine go_in ?_
  unfold m_laneref1_Kinds at h
  refine go hΓ 7 rfl ?_
  refine eo_litT hΓ (enc := (eN .i64)) [1, 5, 12, 16, 28] rfl rfl rfl rfl rfl rfl rfl rfl rfl rfl rfl rfl (Nat.le_of_ble_eq_true rfl) ?_
  refine go_ops hΓ 4 rfl ?_
  obtain rfl := Option.some.inj h
  exact fin_pure hΓ (.inr rfl) rfl rfl
theorem c_slices_Index_int_int {s : List Int} {v : Int} {r : Int} (h : m_slices_Index_int_int s v = some r) : Pure Tryz.prog 101 [.d (Sl (eN .i64) s), I v] (I r) := by
  refine Pure.enter (Fr.of 0 _) Tryz.func101 rfl (Fr.of_ok _) rfl rfl ?_
  refine go_in ?_
  unfold m_slices_Index_int_int at h
  refine go hΓ 13 rfl ?_
  obtain ⟨q4, hq4, h5⟩ := bi_ok h
  refine j_bound 0 rfl fun hb7 => ?_
  refine j_cutEZ (R := fun a6 => q4 = .go a6) (fun a6 => []) (fun a6 => []) ?_ ?_
  · refine go hΓ 1 rfl ?_
    refine j_range s hq4 (fun i1 s2 => [(0, .d (Sl (eN .i64) s)), (1, I v), (7, I (s.length : Int)), (8, I (i1 : Int))]) (fun s2 => []) ⟨⟨rfl, rfl, rfl, rfl, trivial⟩, [], rfl, .inl rfl⟩ (fun i1 x3 s2 y11 hx8 hlt hy9 hout10 => ?_) (fun s2 hgo => ?_)
    · refine go hΓ 6 rfl ?_
      refine j_condT rfl (decide_eq_true (Int.ofNat_lt.2 hlt)) ?_
      refine go hΓ 15 rfl ?_
      refine eo_o rfl (op_elemZ hΓ (enc := (eN .i64)) (getZ_nat hx8) rfl rfl rfl rfl rfl (fun _ => rfl)) ?_
      refine go_ops hΓ 4 rfl ?_
      refine j_cond rfl (fun hb => ?_) (fun hb => ?_)
      · have h12 := cT hy9 hb
        refine go hΓ 9 rfl ?_
        obtain ⟨v13, hv13, h14⟩ := bi_ok h12
        obtain rfl := Option.some.inj h14
        obtain rfl := hout10 _ rfl
        obtain rfl := Option.some.inj h5
        refine go hΓ 4 rfl ?_
        obtain rfl := Option.some.inj hv13
        exact fin_pure hΓ (.inr rfl) rfl rfl
      · have h15 := cF hy9 hb
        refine go hΓ 7 rfl ?_
        obtain rfl := Option.some.inj h15
        exact ⟨_, rfl, ⟨⟨rfl, rfl, rfl, get_eq rfl (w64_succ (Nat.lt_of_lt_of_le hlt hb7)), trivial⟩, [], rfl, .inl rfl⟩⟩
    · subst hgo
      refine go hΓ 6 rfl ?_
      refine j_condF rfl (decide_eq_false (Int.lt_irrefl _)) ?_
      refine go hΓ 4 rfl ?_
      exact ⟨_, rfl, ⟨trivial, [], rfl, .inl rfl⟩⟩
  · intro a6 ha
    subst ha
    replace h5 := goI_l h5
    refine go hΓ 7 rfl ?_
    obtain rfl := Option.some.inj h5
    exact fin_pure hΓ (.inr rfl) rfl rfl
theorem c_slices_Contains_int_int {s : List Int} {v : Int} {r : Bool} (h : m_slices_Contains_int_int s v = some r) : Pure Tryz.prog 65 [.d (Sl (eN .i64) s), I v] (B r) := by
  refine Pure.enter (Fr.of 0 _) Tryz.func65 rfl (Fr.of_ok _) rfl rfl ?_
  refine go_in ?_
  unfold m_slices_Contains_int_int at h
  obtain ⟨y1, hy1, h2⟩ := bi_ok h
  refine go hΓ 9 rfl ?_
  refine eo_callP (callable Tryz.func101 rfl rfl) (c_slices_Index_int_int hy1) rfl (Nat.le_of_ble_eq_true rfl) rfl rfl rfl rfl rfl ?_
  refine go_ops hΓ 5 rfl ?_
  obtain rfl := Option.some.inj h2
  exact fin_pure hΓ (.inr rfl) rfl rfl
theorem c_laneref2_AddrFault {a : T_api_Addr} {r : Int} (h : m_laneref2_AddrFault a = some r) : Pure Tryz.prog 136 [.agg [B a.Six, U a.Hi, U a.Lo]] (I r) := by
  refine Pure.enter (Fr.of 0 _) Tryz.func136 rfl (Fr.of_ok _) rfl rfl ?_
  refine go_in ?_
  unfold m_laneref2_AddrFault at h
  refine go hΓ 2 rfl ?_
  refine eo_box rfl rfl rfl rfl (Nat.le_of_ble_eq_true rfl) ?_
  refine go_ops hΓ 10 rfl ?_
  refine o_cut 9 [(15, B ((!a.Six) && ((decide ((a.Hi : Int) > 0)) || (decide ((a.Lo : Int) > 4294967295)))))] [.box 55 [B a.Six, U a.Hi, U a.Lo]] ?_ ?_
  · refine eo_gsplit rfl rfl (fun hb => ?_) (fun hb => ?_)
    · refine go_ops hΓ 4 rfl ?_
      refine o_cut 4 [(6, B true), (14, B ((decide ((a.Hi : Int) > 0)) || (decide ((a.Lo : Int) > 4294967295))))] [.box 55 [B a.Six, U a.Hi, U a.Lo]] ?_ ?_
      · refine eo_gsplit rfl rfl (fun hb => ?_) (fun hb => ?_)
        · refine go_ops hΓ 5 rfl ?_
          exact ⟨⟨rfl, get_b rfl (or_t hb), trivial⟩, [], rfl, .inl rfl⟩
        · refine go_ops hΓ 5 rfl ?_
          exact ⟨⟨rfl, get_b rfl (or_f hb), trivial⟩, [], rfl, .inl rfl⟩
      · refine go_ops hΓ 2 rfl ?_
        exact ⟨⟨get_b rfl (and_t hb), trivial⟩, [], rfl, .inl rfl⟩
    · refine go_ops hΓ 10 rfl ?_
      exact ⟨⟨get_b rfl (and_f hb), trivial⟩, [], rfl, .inl rfl⟩
  · refine go_ops hΓ 2 rfl ?_
    refine j_cond rfl (fun hb => ?_) (fun hb => ?_)
    · have h1 := cT h hb
      refine go hΓ 7 rfl ?_
      obtain rfl := Option.some.inj h1
      exact fin_pure hΓ (.inr rfl) rfl rfl
    · have h2 := cF h hb
      refine go hΓ 8 rfl ?_
      obtain rfl := Option.some.inj h2
      exact fin_pure hΓ (.inr rfl) rfl rfl
set_option maxHeartbeats 8000000 in
theorem c_laneref1_plain {s : Str} {r : Bool} (h : m_laneref1_plain s = some r) : Pure Tryz.prog 137 [S s] (B r) := by
  refine Pure.enter (Fr.of 0 _) Tryz.func137 rfl (Fr.of_ok _) rfl rfl ?_
  refine go_in ?_
  unfold m_laneref1_plain at h
  refine go hΓ 13 rfl ?_
  obtain ⟨q4, hq4, h5⟩ := bi_ok h
  obtain ⟨hb7, h8⟩ := gd_ok hq4
  replace hb7 := of_decide_eq_true hb7
  refine j_cutEZ (R := fun a6 => q4 = .go a6) (fun a6 => [(0, S s)]) (fun a6 => []) ?_ ?_
  · refine go hΓ 1 rfl ?_
    refine j_rangeI h8 (fun i1 s2 => [(0, S s), (5, I (s.length : Int)), (6, I (i1 : Int))]) (fun s2 => []) ⟨⟨rfl, rfl, rfl, trivial⟩, [], rfl, .inl rfl⟩ (fun i1 s2 y12 hlt hy10 hout11 => ?_) (fun s2 hgo hge => ?_)
    · refine go hΓ 6 rfl ?_
      refine j_condT rfl (decide_eq_true hlt) ?_
      obtain ⟨c13, hc13, h14⟩ := bi_ok hy10
      refine go hΓ 14 rfl ?_
      refine eo_o rfl (op_byteZ hΓ hc13 rfl rfl rfl rfl) ?_
      refine go_ops hΓ 2 rfl ?_
      obtain ⟨q15, hq15, h16⟩ := bi_ok h14
      refine o_cut 5 [(0, S s), (5, I (s.length : Int)), (6, I (i1 : Int)), (18, B q15)] [] ?_ ?_
      · refine eo_gsplit rfl rfl (fun hb => ?_) (fun hb => ?_)
        · have h17 := cT hq15 hb
          refine go_ops hΓ 6 rfl ?_
          obtain rfl := Option.some.inj h17
          exact ⟨⟨rfl, rfl, rfl, rfl, trivial⟩, [], rfl, .inl rfl⟩
        · have h18 := cF hq15 hb
          obtain ⟨c19, hc19, h20⟩ := bi_ok h18
          refine go_ops hΓ 2 rfl ?_
          refine eo_guard rfl ?_
          refine eo_o rfl (op_byteZ hΓ hc19 rfl rfl rfl rfl) ?_
          refine go_ops hΓ 3 rfl ?_
          obtain rfl := Option.some.inj h20
          exact ⟨⟨rfl, rfl, rfl, rfl, trivial⟩, [], rfl, .inl rfl⟩
      · refine go_ops hΓ 2 rfl ?_
        refine j_cond rfl (fun hb => ?_) (fun hb => ?_)
        · have h21 := cT h16 hb
          refine go hΓ 8 rfl ?_
          obtain ⟨v22, hv22, h23⟩ := bi_ok h21
          obtain rfl := Option.some.inj h23
          obtain rfl := hout11 _ rfl
          obtain rfl := Option.some.inj h5
          refine go hΓ 4 rfl ?_
          obtain rfl := Option.some.inj hv22
          exact fin_pure hΓ (.inr rfl) rfl rfl
        · have h24 := cF h16 hb
          refine go hΓ 7 rfl ?_
          obtain rfl := Option.some.inj h24
          exact ⟨_, rfl, ⟨⟨rfl, rfl, get_eq rfl (w64_succ (by omega)), trivial⟩, [], rfl, .inl rfl⟩⟩
    · subst hgo
      refine go hΓ 6 rfl ?_
      refine j_condF rfl (decide_eq_false hge) ?_
      refine go hΓ 4 rfl ?_
      exact ⟨_, rfl, ⟨⟨rfl, trivial⟩, [], rfl, .inl rfl⟩⟩
  · intro a6 ha
    subst ha
    replace h5 := goI_l h5
    obtain ⟨y25, hy25, h26⟩ := bi_ok h5
    refine go hΓ 4 rfl ?_
    refine eo_callP (callable Tryz.func181 rfl rfl) (c_utf8_ValidString hy25) rfl (Nat.le_of_ble_eq_true rfl) rfl rfl rfl rfl rfl ?_
    refine go_ops hΓ 1 rfl ?_
    obtain ⟨q27, hq27, h28⟩ := bi_ok h26
    refine o_cut 5 [(0, S s), (27, B q27)] [] ?_ ?_
    · refine eo_gsplit rfl rfl (fun hb => ?_) (fun hb => ?_)
      · have h29 := cT hq27 hb
        obtain ⟨y30, hy30, h31⟩ := bi_ok h29
        refine go_ops hΓ 2 rfl ?_
        refine eo_guard rfl ?_
        refine eo_callP (callable Tryz.func122 rfl rfl) (c_strings_Trim hy30) rfl (Nat.le_of_ble_eq_true rfl) rfl rfl rfl rfl rfl ?_
        refine go_ops hΓ 3 rfl ?_
        obtain rfl := Option.some.inj h31
        exact ⟨⟨rfl, rfl, trivial⟩, [], rfl, .inl rfl⟩
      · have h32 := cF hq27 hb
        refine go_ops hΓ 6 rfl ?_
        obtain rfl := Option.some.inj h32
        exact ⟨⟨rfl, rfl, trivial⟩, [], rfl, .inl rfl⟩
    · refine go_ops hΓ 1 rfl ?_
      obtain ⟨q33, hq33, h34⟩ := bi_ok h28
      refine o_cut 4 [(32, B q33)] [] ?_ ?_
      · refine eo_gsplit rfl rfl (fun hb => ?_) (fun hb => ?_)
        · have h35 := cT hq33 hb
          obtain ⟨y36, hy36, h37⟩ := bi_ok h35
          refine go_ops hΓ 1 rfl ?_
          refine eo_guard rfl ?_
          refine eo_callP (callable Tryz.func163 rfl rfl) (c_strings_Contains hy36) rfl (Nat.le_of_ble_eq_true rfl) rfl rfl rfl rfl rfl ?_
          refine go_ops hΓ 3 rfl ?_
          obtain rfl := Option.some.inj h37
          exact ⟨⟨rfl, trivial⟩, [], rfl, .inl rfl⟩
        · have h38 := cF hq33 hb
          refine go_ops hΓ 5 rfl ?_
          obtain rfl := Option.some.inj h38
          exact ⟨⟨rfl, trivial⟩, [], rfl, .inl rfl⟩
      · refine go_ops hΓ 4 rfl ?_
        obtain rfl := Option.some.inj h34
        exact fin_pure hΓ (.inr rfl) rfl rfl
set_option maxHeartbeats 8000000 in
theorem c_laneref1_RecordFault {v_r : T_api_Record} {r : Int} (h : m_laneref1_RecordFault v_r = some r) : Pure Tryz.prog 67 [.agg [S v_r.Name, I v_r.Kind, B v_r.Addr.Six, U v_r.Addr.Hi, U v_r.Addr.Lo, S v_r.To, S v_r.Words, I v_r.Life]] (I r) := by
  refine Pure.enter (Fr.of 0 _) Tryz.func67 rfl (Fr.of_ok _) rfl rfl ?_
  refine go_in ?_
  unfold m_laneref1_RecordFault at h
  refine go hΓ 2 rfl ?_
  refine eo_box rfl rfl rfl rfl (Nat.le_of_ble_eq_true rfl) ?_
  refine go_ops hΓ 11 rfl ?_
  obtain ⟨q1, hq1, h2⟩ := bi_ok h
  refine o_cut 6 [(1, .ptr 0 0), (15, B q1)] [.box 57 [S v_r.Name, I v_r.Kind, B v_r.Addr.Six, U v_r.Addr.Hi, U v_r.Addr.Lo, S v_r.To, S v_r.Words, I v_r.Life]] ?_ ?_
  · refine eo_gsplit rfl rfl (fun hb => ?_) (fun hb => ?_)
    · have h3 := cT hq1 hb
      refine go_ops hΓ 7 rfl ?_
      obtain rfl := Option.some.inj h3
      exact ⟨⟨rfl, rfl, trivial⟩, [], rfl, .inl rfl⟩
    · have h4 := cF hq1 hb
      obtain ⟨y5, hy5, h6⟩ := bi_ok h4
      refine go_ops hΓ 2 rfl ?_
      refine eo_guard rfl ?_
      refine eo_callP (callable Tryz.func135 rfl rfl) (c_strings_TrimPrefix hy5) rfl (Nat.le_of_ble_eq_true rfl) rfl rfl rfl rfl rfl ?_
      obtain ⟨y7, hy7, h8⟩ := bi_ok h6
      refine eo_guard rfl ?_
      refine eo_callP (callable Tryz.func96 rfl rfl) (c_laneref1_DomainFault hy7) rfl (Nat.le_of_ble_eq_true rfl) rfl rfl rfl rfl rfl ?_
      refine go_ops hΓ 3 rfl ?_
      obtain rfl := Option.some.inj h8
      exact ⟨⟨rfl, rfl, trivial⟩, [], rfl, .inl rfl⟩
  · refine go_ops hΓ 2 rfl ?_
    refine j_cond rfl (fun hb => ?_) (fun hb => ?_)
    · have h9 := cT h2 hb
      refine go hΓ 7 rfl ?_
      obtain rfl := Option.some.inj h9
      exact fin_pure hΓ (.inr rfl) rfl rfl
    · have h10 := cF h2 hb
      refine go hΓ 4 rfl ?_
      refine j_draw hmix (by kernel_rfl) ?_
      obtain ⟨y11, hy11, h12⟩ := bi_ok h10
      refine gl_callP (callable Tryz.func66 rfl rfl) (c_laneref1_Kinds hy11) rfl rfl rfl rfl rfl rfl ?_
      obtain ⟨y13, hy13, h14⟩ := bi_ok h12
      refine go_draw hΓ 2 rfl ?_
      refine gl_callP (callable Tryz.func65 rfl rfl) (c_slices_Contains_int_int hy13) rfl rfl rfl rfl rfl rfl ?_
      refine go_draw hΓ 3 rfl ?_
      refine j_cond rfl (fun hb => ?_) (fun hb => ?_)
      · have h15 := cT h14 hb
        refine go hΓ 7 rfl ?_
        obtain rfl := Option.some.inj h15
        exact fin_pure hΓ (.inr rfl) rfl rfl
      · have h16 := cF h14 hb
        obtain ⟨q17, hq17, h18⟩ := bi_ok h16
        refine go hΓ 3 rfl ?_
        refine j_cutNZ [(1, .ptr 0 0), (3, B q17), (4, B ((v_r.Kind : Int) == 28))] [.box 57 [S v_r.Name, I v_r.Kind, B v_r.Addr.Six, U v_r.Addr.Hi, U v_r.Addr.Lo, S v_r.To, S v_r.Words, I v_r.Life]] ?_ ?_
        · refine j_draw hmix (by kernel_rfl) ?_
          refine go hΓ 4 rfl ?_
          refine gl_gsplit rfl rfl (fun hb => ?_) (fun hb => ?_)
          · have h19 := cT hq17 hb
            refine go_draw hΓ 10 rfl ?_
            obtain rfl := Option.some.inj h19
            exact ⟨⟨rfl, rfl, rfl, trivial⟩, [], rfl, .inl rfl⟩
          · have h20 := cF hq17 hb
            refine go_draw hΓ 10 rfl ?_
            obtain rfl := Option.some.inj h20
            exact ⟨⟨rfl, rfl, rfl, trivial⟩, [], rfl, .inl rfl⟩
        · refine go hΓ 6 rfl ?_
          obtain ⟨q21, hq21, h22⟩ := bi_ok h18
          refine o_cut 12 [(1, .ptr 0 0), (3, B q17), (45, B q21)] [.box 57 [S v_r.Name, I v_r.Kind, B v_r.Addr.Six, U v_r.Addr.Hi, U v_r.Addr.Lo, S v_r.To, S v_r.Words, I v_r.Life]] ?_ ?_
          · refine eo_gsplit rfl rfl (fun hb => ?_) (fun hb => ?_)
            · have h23 := cT hq21 hb
              obtain ⟨y24, hy24, h25⟩ := bi_ok h23
              refine go_ops hΓ 2 rfl ?_
              refine eo_guard rfl ?_
              refine eo_callP (callable Tryz.func136 rfl rfl) (c_laneref2_AddrFault hy24) rfl (Nat.le_of_ble_eq_true rfl) rfl rfl rfl rfl rfl ?_
              refine go_ops hΓ 2 rfl ?_
              refine o_cut 6 [(1, .ptr 0 0), (3, B q17), (33, B true), (44, B (((y24 : Int) != 0) || (!((v_r.Addr.Six : Bool) == ((v_r.Kind : Int) == 28)))))] [.box 57 [S v_r.Name, I v_r.Kind, B v_r.Addr.Six, U v_r.Addr.Hi, U v_r.Addr.Lo, S v_r.To, S v_r.Words, I v_r.Life]] ?_ ?_
              · refine eo_gsplit rfl rfl (fun hb => ?_) (fun hb => ?_)
                · refine go_ops hΓ 7 rfl ?_
                  exact ⟨⟨rfl, rfl, rfl, get_b rfl (or_t hb), trivial⟩, [], rfl, .inl rfl⟩
                · refine go_ops hΓ 7 rfl ?_
                  exact ⟨⟨rfl, rfl, rfl, get_b rfl (or_f hb), trivial⟩, [], rfl, .inl rfl⟩
              · refine go_ops hΓ 2 rfl ?_
                obtain rfl := Option.some.inj h25
                exact ⟨⟨rfl, rfl, rfl, trivial⟩, [], rfl, .inl rfl⟩
            · have h26 := cF hq21 hb
              refine go_ops hΓ 13 rfl ?_
              obtain rfl := Option.some.inj h26
              exact ⟨⟨rfl, rfl, rfl, trivial⟩, [], rfl, .inl rfl⟩
          · refine go_ops hΓ 1 rfl ?_
            refine o_cut 9 [(1, .ptr 0 0), (55, B (q21 || ((!q17) && (!(((v_r.Addr.Six : Bool) == false) && (((v_r.Addr.Hi : Int) == 0) && (((v_r.Addr.Lo : Int) == 0) && true)))))))] [.box 57 [S v_r.Name, I v_r.Kind, B v_r.Addr.Six, U v_r.Addr.Hi, U v_r.Addr.Lo, S v_r.To, S v_r.Words, I v_r.Life]] ?_ ?_
            · refine eo_gsplit rfl rfl (fun hb => ?_) (fun hb => ?_)
              · refine go_ops hΓ 10 rfl ?_
                exact ⟨⟨rfl, get_b rfl (or_t hb), trivial⟩, [], rfl, .inl rfl⟩
              · refine go_ops hΓ 3 rfl ?_
                refine o_cut 5 [(1, .ptr 0 0), (46, B false), (54, B ((!q17) && (!(((v_r.Addr.Six : Bool) == false) && (((v_r.Addr.Hi : Int) == 0) && (((v_r.Addr.Lo : Int) == 0) && true))))))] [.box 57 [S v_r.Name, I v_r.Kind, B v_r.Addr.Six, U v_r.Addr.Hi, U v_r.Addr.Lo, S v_r.To, S v_r.Words, I v_r.Life]] ?_ ?_
                · refine eo_gsplit rfl rfl (fun hb => ?_) (fun hb => ?_)
                  · refine go_ops hΓ 2 rfl ?_
                    refine eo_guard rfl ?_
                    refine eo_build hΓ (gs := [B false, U 0, U 0]) rfl rfl rfl rfl rfl rfl rfl ?_
                    refine eo_guard rfl ?_
                    refine eo_o rfl (op_neS hΓ [55] (b := (((v_r.Addr.Six : Bool) == false) && (((v_r.Addr.Hi : Int) == 0) && (((v_r.Addr.Lo : Int) == 0) && true)))) (by kernel_rfl) (by kernel_rfl) rfl rfl rfl) ?_
                    refine go_ops hΓ 2 rfl ?_
                    exact ⟨⟨rfl, rfl, get_b rfl (and_t hb), trivial⟩, [], rfl, .inl rfl⟩
                  · refine go_ops hΓ 6 rfl ?_
                    exact ⟨⟨rfl, rfl, get_b rfl (and_f hb), trivial⟩, [], rfl, .inl rfl⟩
                · refine go_ops hΓ 2 rfl ?_
                  exact ⟨⟨rfl, get_b rfl (or_f hb), trivial⟩, [], rfl, .inl rfl⟩
            · refine go_ops hΓ 2 rfl ?_
              refine j_cond rfl (fun hb => ?_) (fun hb => ?_)
              · have h27 := cT h22 hb
                refine go hΓ 7 rfl ?_
                obtain rfl := Option.some.inj h27
                exact fin_pure hΓ (.inr rfl) rfl rfl
              · have h28 := cF h22 hb
                refine go hΓ 9 rfl ?_
                refine o_cut 4 [(1, .ptr 0 0), (63, B (((v_r.Kind : Int) == 5) || ((v_r.Kind : Int) == 12)))] [.box 57 [S v_r.Name, I v_r.Kind, B v_r.Addr.Six, U v_r.Addr.Hi, U v_r.Addr.Lo, S v_r.To, S v_r.Words, I v_r.Life]] ?_ ?_
                · refine eo_gsplit rfl rfl (fun hb => ?_) (fun hb => ?_)
                  · refine go_ops hΓ 5 rfl ?_
                    exact ⟨⟨rfl, get_b rfl (or_t hb), trivial⟩, [], rfl, .inl rfl⟩
                  · refine go_ops hΓ 5 rfl ?_
                    exact ⟨⟨rfl, get_b rfl (or_f hb), trivial⟩, [], rfl, .inl rfl⟩
                · obtain ⟨q29, hq29, h30⟩ := bi_ok h28
                  refine go_ops hΓ 2 rfl ?_
                  refine j_cutSZ (q := q29) (fun a31 => [(1, .ptr 0 0)]) (fun a31 => [.box 57 [S v_r.Name, I v_r.Kind, B v_r.Addr.Six, U v_r.Addr.Hi, U v_r.Addr.Lo, S v_r.To, S v_r.Words, I v_r.Life]]) ?_ ?_
                  · refine j_cond rfl (fun hb => ?_) (fun hb => ?_)
                    · have h32 := cT hq29 hb
                      obtain ⟨y33, hy33, h34⟩ := bi_ok h32
                      refine go hΓ 4 rfl ?_
                      refine eo_callP (callable Tryz.func96 rfl rfl) (c_laneref1_DomainFault hy33) rfl (Nat.le_of_ble_eq_true rfl) rfl rfl rfl rfl rfl ?_
                      refine go_ops hΓ 3 rfl ?_
                      refine j_cond rfl (fun hb => ?_) (fun hb => ?_)
                      · have h35 := cT h34 hb
                        refine go hΓ 6 rfl ?_
                        obtain ⟨v36, hv36, h37⟩ := bi_ok h35
                        obtain rfl := Option.some.inj h37
                        obtain rfl := Option.some.inj h30
                        refine go hΓ 2 rfl ?_
                        obtain rfl := Option.some.inj hv36
                        exact fin_pure hΓ (.inr rfl) rfl rfl
                      · have h38 := cF h34 hb
                        refine go hΓ 1 rfl ?_
                        obtain rfl := Option.some.inj h38
                        exact ⟨_, rfl, ⟨⟨rfl, trivial⟩, [], rfl, .inl rfl⟩⟩
                    · have h39 := cF hq29 hb
                      refine go hΓ 7 rfl ?_
                      refine j_cond rfl (fun hb => ?_) (fun hb => ?_)
                      · have h40 := cT h39 hb
                        refine go hΓ 6 rfl ?_
                        obtain ⟨v41, hv41, h42⟩ := bi_ok h40
                        obtain rfl := Option.some.inj h42
                        obtain rfl := Option.some.inj h30
                        refine go hΓ 2 rfl ?_
                        obtain rfl := Option.some.inj hv41
                        exact fin_pure hΓ (.inr rfl) rfl rfl
                      · have h43 := cF h39 hb
                        refine go hΓ 1 rfl ?_
                        obtain rfl := Option.some.inj h43
                        exact ⟨_, rfl, ⟨⟨rfl, trivial⟩, [], rfl, .inl rfl⟩⟩
                  · intro a31 ha
                    subst ha
                    replace h30 := orI_l h30
                    refine go hΓ 8 rfl ?_
                    refine o_cut 4 [(1, .ptr 0 0), (78, B (((v_r.Kind : Int) != 16) && (!((v_r.Words : Str) == []))))] [.box 57 [S v_r.Name, I v_r.Kind, B v_r.Addr.Six, U v_r.Addr.Hi, U v_r.Addr.Lo, S v_r.To, S v_r.Words, I v_r.Life]] ?_ ?_
                    · refine eo_gsplit rfl rfl (fun hb => ?_) (fun hb => ?_)
                      · refine go_ops hΓ 5 rfl ?_
                        exact ⟨⟨rfl, get_b rfl (and_t hb), trivial⟩, [], rfl, .inl rfl⟩
                      · refine go_ops hΓ 5 rfl ?_
                        exact ⟨⟨rfl, get_b rfl (and_f hb), trivial⟩, [], rfl, .inl rfl⟩
                    · refine go_ops hΓ 1 rfl ?_
                      obtain ⟨q44, hq44, h45⟩ := bi_ok h30
                      refine o_cut 5 [(1, .ptr 0 0), (84, B q44)] [.box 57 [S v_r.Name, I v_r.Kind, B v_r.Addr.Six, U v_r.Addr.Hi, U v_r.Addr.Lo, S v_r.To, S v_r.Words, I v_r.Life]] ?_ ?_
                      · refine eo_gsplit rfl rfl (fun hb => ?_) (fun hb => ?_)
                        · have h46 := cT hq44 hb
                          refine go_ops hΓ 6 rfl ?_
                          obtain rfl := Option.some.inj h46
                          exact ⟨⟨rfl, rfl, trivial⟩, [], rfl, .inl rfl⟩
                        · have h47 := cF hq44 hb
                          obtain ⟨y48, hy48, h49⟩ := bi_ok h47
                          refine go_ops hΓ 2 rfl ?_
                          refine eo_guard rfl ?_
                          refine eo_callP (callable Tryz.func137 rfl rfl) (c_laneref1_plain hy48) rfl (Nat.le_of_ble_eq_true rfl) rfl rfl rfl rfl rfl ?_
                          refine go_ops hΓ 3 rfl ?_
                          obtain rfl := Option.some.inj h49
                          exact ⟨⟨rfl, rfl, trivial⟩, [], rfl, .inl rfl⟩
                      · refine go_ops hΓ 1 rfl ?_
                        refine o_cut 5 [(1, .ptr 0 0), (90, B (q44 || (decide (((v_r.Words.length : Int) : Int) > 200))))] [.box 57 [S v_r.Name, I v_r.Kind, B v_r.Addr.Six, U v_r.Addr.Hi, U v_r.Addr.Lo, S v_r.To, S v_r.Words, I v_r.Life]] ?_ ?_
                        · refine eo_gsplit rfl rfl (fun hb => ?_) (fun hb => ?_)
                          · refine go_ops hΓ 6 rfl ?_
                            exact ⟨⟨rfl, get_b rfl (or_t hb), trivial⟩, [], rfl, .inl rfl⟩
                          · refine go_ops hΓ 6 rfl ?_
                            exact ⟨⟨rfl, get_b rfl (or_f hb), trivial⟩, [], rfl, .inl rfl⟩
                        · refine go_ops hΓ 2 rfl ?_
                          refine j_cond rfl (fun hb => ?_) (fun hb => ?_)
                          · have h50 := cT h45 hb
                            refine go hΓ 7 rfl ?_
                            obtain rfl := Option.some.inj h50
                            exact fin_pure hΓ (.inr rfl) rfl rfl
                          · have h51 := cF h45 hb
                            obtain ⟨y52, hy52, h53⟩ := bi_ok h51
                            refine go hΓ 7 rfl ?_
                            refine eo_callP (callable Tryz.func68 rfl rfl) (c_laneref1_in hy52) rfl (Nat.le_of_ble_eq_true rfl) rfl rfl rfl rfl rfl ?_
                            refine go_ops hΓ 3 rfl ?_
                            refine j_cond rfl (fun hb => ?_) (fun hb => ?_)
                            · have h54 := cT h53 hb
                              refine go hΓ 7 rfl ?_
                              obtain rfl := Option.some.inj h54
                              exact fin_pure hΓ (.inr rfl) rfl rfl
                            · have h55 := cF h53 hb
                              refine go hΓ 8 rfl ?_
                              obtain rfl := Option.some.inj h55
                              exact fin_pure hΓ (.inr rfl) rfl rfl
set_option maxHeartbeats 8000000 in
theorem c_laneref1_MessageFault {m : T_api_Message} {r : Int} (h : m_laneref1_MessageFault m = some r) : Pure Tryz.prog 37 [.agg [I m.Id, B m.Reply, I m.Code, .d (Sl e_api_Question m.Asked), .d (Sl e_api_Record m.Got)]] (I r) := by
  refine Pure.enter (Fr.of 0 _) Tryz.func37 rfl (Fr.of_ok _) rfl rfl ?_
  refine go_in ?_
  unfold m_laneref1_MessageFault at h
  refine go hΓ 2 rfl ?_
  refine eo_box rfl rfl rfl rfl (Nat.le_of_ble_eq_true rfl) ?_
  obtain ⟨y1, hy1, h2⟩ := bi_ok h
  refine go_ops hΓ 8 rfl ?_
  refine eo_callP (callable Tryz.func68 rfl rfl) (c_laneref1_in hy1) rfl (Nat.le_of_ble_eq_true rfl) rfl rfl rfl rfl rfl ?_
  refine go_ops hΓ 2 rfl ?_
  obtain ⟨q3, hq3, h4⟩ := bi_ok h2
  refine o_cut 5 [(1, .ptr 0 0), (18, B q3)] [.box 31 [I m.Id, B m.Reply, I m.Code, .d (Sl e_api_Question m.Asked), .d (Sl e_api_Record m.Got)]] ?_ ?_
  · refine eo_gsplit rfl rfl (fun hb => ?_) (fun hb => ?_)
    · have h5 := cT hq3 hb
      refine go_ops hΓ 6 rfl ?_
      obtain rfl := Option.some.inj h5
      exact ⟨⟨rfl, rfl, trivial⟩, [], rfl, .inl rfl⟩
    · have h6 := cF hq3 hb
      obtain ⟨y7, hy7, h8⟩ := bi_ok h6
      refine go_ops hΓ 2 rfl ?_
      refine eo_guard rfl ?_
      refine eo_callP (callable Tryz.func68 rfl rfl) (c_laneref1_in hy7) rfl (Nat.le_of_ble_eq_true rfl) rfl rfl rfl rfl rfl ?_
      refine go_ops hΓ 3 rfl ?_
      obtain rfl := Option.some.inj h8
      exact ⟨⟨rfl, rfl, trivial⟩, [], rfl, .inl rfl⟩
  · refine go_ops hΓ 2 rfl ?_
    refine j_cond rfl (fun hb => ?_) (fun hb => ?_)
    · have h9 := cT h4 hb
      refine go hΓ 7 rfl ?_
      obtain rfl := Option.some.inj h9
      exact fin_pure hΓ (.inr rfl) rfl rfl
    · have h10 := cF h4 hb
      refine go hΓ 11 rfl ?_
      refine j_cond rfl (fun hb => ?_) (fun hb => ?_)
      · have h11 := cT h10 hb
        refine go hΓ 7 rfl ?_
        obtain rfl := Option.some.inj h11
        exact fin_pure hΓ (.inr rfl) rfl rfl
      · have h12 := cF h10 hb
        refine go hΓ 11 rfl ?_
        obtain ⟨q16, hq16, h17⟩ := bi_ok h12
        refine j_bound 24 rfl fun hb19 => ?_
        refine j_cutEZ (R := fun a18 => q16 = .go a18) (fun a18 => [(1, .ptr 0 0)]) (fun a18 => [.box 31 [I m.Id, B m.Reply, I m.Code, .d (Sl e_api_Question m.Asked), .d (Sl e_api_Record m.Got)]]) ?_ ?_
        · refine go hΓ 1 rfl ?_
          refine j_range m.Asked hq16 (fun i13 s14 => [(1, .ptr 0 0), (24, .d (Sl e_api_Question m.Asked)), (25, I (m.Asked.length : Int)), (26, I (i13 : Int))]) (fun s14 => [.box 31 [I m.Id, B m.Reply, I m.Code, .d (Sl e_api_Question m.Asked), .d (Sl e_api_Record m.Got)]]) ⟨⟨rfl, rfl, rfl, rfl, trivial⟩, [], rfl, .inl rfl⟩ (fun i13 x15 s14 y23 hx20 hlt hy21 hout22 => ?_) (fun s14 hgo => ?_)
          · refine go hΓ 6 rfl ?_
            refine j_condT rfl (decide_eq_true (Int.ofNat_lt.2 hlt)) ?_
            refine go hΓ 6 rfl ?_
            refine eo_o rfl (op_elemZ hΓ (enc := e_api_Question) (getZ_nat hx20) rfl rfl rfl rfl rfl (fun _ => rfl)) ?_
            refine go_ops hΓ 1 rfl ?_
            refine eo_alloc hΓ rfl rfl rfl (Nat.le_of_ble_eq_true rfl) ?_
            refine eo_store hΓ rfl rfl rfl rfl rfl rfl rfl rfl (Nat.le_of_ble_eq_true rfl) ?_
            refine eo_hp [.box 31 [I m.Id, B m.Reply, I m.Code, .d (Sl e_api_Question m.Asked), .d (Sl e_api_Record m.Got)], .box 82 [S x15.Name, I x15.Kind]] rfl ?_
            obtain ⟨y24, hy24, h25⟩ := bi_ok hy21
            refine go_ops hΓ 7 rfl ?_
            refine eo_callP (callable Tryz.func96 rfl rfl) (c_laneref1_DomainFault hy24) rfl (Nat.le_of_ble_eq_true rfl) rfl rfl rfl rfl rfl ?_
            refine go_ops hΓ 9 rfl ?_
            refine j_cond rfl (fun hb => ?_) (fun hb => ?_)
            · have h26 := cT h25 hb
              refine go hΓ 10 rfl ?_
              obtain ⟨v27, hv27, h28⟩ := bi_ok h26
              obtain rfl := Option.some.inj h28
              obtain rfl := hout22 _ rfl
              obtain rfl := Option.some.inj h17
              refine go hΓ 4 rfl ?_
              obtain rfl := Option.some.inj hv27
              exact fin_pure hΓ (.inr rfl) rfl rfl
            · have h29 := cF h25 hb
              refine go hΓ 3 rfl ?_
              refine j_draw hmix (by kernel_rfl) ?_
              obtain ⟨y30, hy30, h31⟩ := bi_ok h29
              refine gl_callP (callable Tryz.func66 rfl rfl) (c_laneref1_Kinds hy30) rfl rfl rfl rfl rfl rfl ?_
              obtain ⟨y32, hy32, h33⟩ := bi_ok h31
              refine go_draw hΓ 2 rfl ?_
              refine gl_callP (callable Tryz.func65 rfl rfl) (c_slices_Contains_int_int hy32) rfl rfl rfl rfl rfl rfl ?_
              refine go_draw hΓ 3 rfl ?_
              refine j_cond rfl (fun hb => ?_) (fun hb => ?_)
              · have h34 := cT h33 hb
                refine go hΓ 8 rfl ?_
                obtain ⟨v35, hv35, h36⟩ := bi_ok h34
                obtain rfl := Option.some.inj h36
                obtain rfl := hout22 _ rfl
                obtain rfl := Option.some.inj h17
                refine go hΓ 4 rfl ?_
                obtain rfl := Option.some.inj hv35
                exact fin_pure hΓ (.inr rfl) rfl rfl
              · have h37 := cF h33 hb
                refine go hΓ 7 rfl ?_
                obtain rfl := Option.some.inj h37
                exact ⟨_, rfl, ⟨⟨rfl, rfl, rfl, get_eq rfl (w64_succ (Nat.lt_of_lt_of_le hlt hb19)), trivial⟩, [_], rfl, .inr ⟨HB.mk rfl, FB.mk rfl, (Nat.le_of_ble_eq_true rfl)⟩⟩⟩
          · subst hgo
            refine go hΓ 6 rfl ?_
            refine j_condF rfl (decide_eq_false (Int.lt_irrefl _)) ?_
            refine go hΓ 4 rfl ?_
            exact ⟨_, rfl, ⟨⟨rfl, trivial⟩, [], rfl, .inl rfl⟩⟩
        · intro a18 ha
          subst ha
          replace h17 := goI_l h17
          refine go hΓ 10 rfl ?_
          refine j_cond rfl (fun hb => ?_) (fun hb => ?_)
          · have h38 := cT h17 hb
            refine go hΓ 7 rfl ?_
            obtain rfl := Option.some.inj h38
            exact fin_pure hΓ (.inr rfl) rfl rfl
          · have h39 := cF h17 hb
            refine go hΓ 11 rfl ?_
            obtain ⟨q43, hq43, h44⟩ := bi_ok h39
            refine j_bound 47 rfl fun hb46 => ?_
            refine j_cutEZ (R := fun a45 => q43 = .go a45) (fun a45 => []) (fun a45 => [.box 31 [I m.Id, B m.Reply, I m.Code, .d (Sl e_api_Question m.Asked), .d (Sl e_api_Record m.Got)]]) ?_ ?_
            · refine go hΓ 1 rfl ?_
              refine j_range m.Got hq43 (fun i40 s41 => [(47, .d (Sl e_api_Record m.Got)), (48, I (m.Got.length : Int)), (49, I (i40 : Int))]) (fun s41 => [.box 31 [I m.Id, B m.Reply, I m.Code, .d (Sl e_api_Question m.Asked), .d (Sl e_api_Record m.Got)]]) ⟨⟨rfl, rfl, rfl, trivial⟩, [], rfl, .inl rfl⟩ (fun i40 x42 s41 y50 hx47 hlt hy48 hout49 => ?_) (fun s41 hgo => ?_)
              · refine go hΓ 6 rfl ?_
                refine j_condT rfl (decide_eq_true (Int.ofNat_lt.2 hlt)) ?_
                refine go hΓ 6 rfl ?_
                refine eo_o rfl (op_elemZ hΓ (enc := e_api_Record) (getZ_nat hx47) rfl rfl rfl rfl rfl (fun _ => rfl)) ?_
                refine go_ops hΓ 1 rfl ?_
                refine eo_alloc hΓ rfl rfl rfl (Nat.le_of_ble_eq_true rfl) ?_
                refine eo_store hΓ rfl rfl rfl rfl rfl rfl rfl rfl (Nat.le_of_ble_eq_true rfl) ?_
                refine eo_hp [.box 31 [I m.Id, B m.Reply, I m.Code, .d (Sl e_api_Question m.Asked), .d (Sl e_api_Record m.Got)], .box 57 [S x42.Name, I x42.Kind, B x42.Addr.Six, U x42.Addr.Hi, U x42.Addr.Lo, S x42.To, S x42.Words, I x42.Life]] rfl ?_
                obtain ⟨y51, hy51, h52⟩ := bi_ok hy48
                refine go_ops hΓ 6 rfl ?_
                refine eo_callP (callable Tryz.func67 rfl rfl) (c_laneref1_RecordFault hy51) rfl (Nat.le_of_ble_eq_true rfl) rfl rfl rfl rfl rfl ?_
                refine go_ops hΓ 9 rfl ?_
                refine j_cond rfl (fun hb => ?_) (fun hb => ?_)
                · have h53 := cT h52 hb
                  refine go hΓ 10 rfl ?_
                  obtain ⟨v54, hv54, h55⟩ := bi_ok h53
                  obtain rfl := Option.some.inj h55
                  obtain rfl := hout49 _ rfl
                  obtain rfl := Option.some.inj h44
                  refine go hΓ 4 rfl ?_
                  obtain rfl := Option.some.inj hv54
                  exact fin_pure hΓ (.inr rfl) rfl rfl
                · have h56 := cF h52 hb
                  obtain ⟨c57, hc57, h58⟩ := bi_ok h56
                  refine go hΓ 6 rfl ?_
                  refine eo_o rfl (op_byteZ hΓ hc57 rfl rfl rfl rfl) ?_
                  refine go_ops hΓ 3 rfl ?_
                  refine j_cond rfl (fun hb => ?_) (fun hb => ?_)
                  · have h59 := cT h58 hb
                    refine go hΓ 8 rfl ?_
                    obtain ⟨v60, hv60, h61⟩ := bi_ok h59
                    obtain rfl := Option.some.inj h61
                    obtain rfl := hout49 _ rfl
                    obtain rfl := Option.some.inj h44
                    refine go hΓ 4 rfl ?_
                    obtain rfl := Option.some.inj hv60
                    exact fin_pure hΓ (.inr rfl) rfl rfl
                  · have h62 := cF h58 hb
                    refine go hΓ 7 rfl ?_
                    obtain rfl := Option.some.inj h62
                    exact ⟨_, rfl, ⟨⟨rfl, rfl, get_eq rfl (w64_succ (Nat.lt_of_lt_of_le hlt hb46)), trivial⟩, [_], rfl, .inr ⟨HB.mk rfl, FB.mk rfl, (Nat.le_of_ble_eq_true rfl)⟩⟩⟩
              · subst hgo
                refine go hΓ 6 rfl ?_
                refine j_condF rfl (decide_eq_false (Int.lt_irrefl _)) ?_
                refine go hΓ 4 rfl ?_
                exact ⟨_, rfl, ⟨trivial, [], rfl, .inl rfl⟩⟩
            · intro a45 ha
              subst ha
              replace h44 := goI_l h44
              refine go hΓ 7 rfl ?_
              obtain rfl := Option.some.inj h44
              exact fin_pure hΓ (.inr rfl) rfl rfl
theorem c_laneref1_pen_put {k : Nat} {p : T_laneref1_pen} {n : Int} {bytes : Int} {r : T_laneref1_pen} (h : m_laneref1_pen_put k p n bytes = some r) : EC Tryz.prog 112 [.ptr 2 0, U n, I bytes] [.row 5 1 p.b.length (p.b.flatMap (eN .u8)), mOb kS false (eN .i64) p.v_at, .box 155 [.sl 0 p.b.length, .map 1]] fun g hp' => g = .tup [] ∧ hp' = [.dead, mOb kS false (eN .i64) r.v_at, .box 155 [.sl 3 r.b.length, .map 1], .row 5 1 r.b.length (r.b.flatMap (eN .u8))] := by
  refine ec_enterC (Fr.of 0 _) Tryz.func112 rfl (Fr.of_ok _) (Nat.le_of_ble_eq_true rfl) fun _ => ?_
  refine go_in ?_
  unfold m_laneref1_pen_put at h
  refine j_name (Nat.le_of_ble_eq_true rfl) ?_
  refine j_move 0 3 [.dead, mOb kS false (eN .i64) p.v_at, .box 155 [.sl 3 p.b.length, .map 1], .row 5 1 p.b.length (p.b.flatMap (eN .u8))] rfl rfl rfl rfl rfl rfl ?_
  refine go hΓ 7 rfl ?_
  obtain ⟨q4, hq4, h5⟩ := bi_ok h
  refine j_cutNZ [] [.dead, mOb kS false (eN .i64) p.v_at, .box 155 [.sl 3 q4.length, .map 1], .row 5 1 q4.length (q4.flatMap (eN .u8))] ?_ ?_
  · refine go hΓ 1 rfl ?_
    refine j_loop hq4 (fun s2 => [(0, .ptr 2 0), (1, U n), (6, I s2.2)]) (fun s2 => [.dead, mOb kS false (eN .i64) p.v_at, .box 155 [.sl 3 s2.1.length, .map 1], .row 5 1 s2.1.length (s2.1.flatMap (eN .u8))]) ⟨⟨rfl, rfl, rfl, trivial⟩, [], rfl, .inl rfl⟩ (fun s2 y10 hy8 hout9 => ?_)
    refine go hΓ 7 rfl ?_
    refine j_cond rfl (fun hb => ?_) (fun hb => ?_)
    · have h11 := cT hy8 hb
      refine go hΓ 4 rfl ?_
      refine j_drawE [.dead, .dead, .box 155 [.sl 3 s2.1.length, .map 1]] [4] [11, 14] [11, 14] hmix (by kernel_rfl) (by kernel_rfl) ⟨rfl, trivial⟩ (Nat.le_of_ble_eq_true rfl) ?_
      obtain ⟨y12, hy12, h13⟩ := bi_ok h11
      refine go_E hΓ 8 rfl ?_
      refine ge_q rfl (.inl rfl) (fun _ _ => qte_of_qt (qt_p (op_shrZ hy12 rfl rfl))) ?_
      refine go_E hΓ 1 rfl ?_
      refine ge_litT hΓ (enc := (eN .u8)) [IntKind.u8.wrap (y12)] rfl rfl rfl rfl rfl rfl rfl rfl rfl rfl rfl rfl ?_
      obtain ⟨y14, hy14, h15⟩ := bi_ok h13
      refine ge_h [.dead, mOb kS false (eN .i64) p.v_at, .box 155 [.junk, .map 1], .dead, .row 5 1 y14.length (y14.flatMap (eN .u8))] rfl rfl rfl (brk_st rfl) (qte_s (ops_forg 3 (ops_appendT hΓ (enc := (eN .u8)) (id := 3) (h2 := show Γ 5 = some ⟨_, 1, _, _⟩ from rfl) hy14 rfl rfl rfl rfl rfl rfl rfl rfl (fun _ => rfl) rfl))) ?_
      refine go_E hΓ 2 rfl ?_
      refine ge_h0 [.dead, mOb kS false (eN .i64) p.v_at, .box 155 [.sl 4 y14.length, .map 1], .dead, .row 5 1 y14.length (y14.flatMap (eN .u8))] rfl rfl (brk_st rfl) (qte_u (opu_store2 hΓ rfl rfl rfl rfl rfl rfl rfl rfl rfl)) ?_
      refine ge_fin ?_
      refine go hΓ 2 rfl ?_
      refine j_move 4 3 [.dead, mOb kS false (eN .i64) p.v_at, .box 155 [.sl 3 y14.length, .map 1], .row 5 1 y14.length (y14.flatMap (eN .u8)), .dead] rfl rfl rfl rfl rfl rfl ?_
      refine go hΓ 5 rfl ?_
      obtain rfl := Option.some.inj h15
      exact ⟨_, rfl, ⟨⟨rfl, rfl, rfl, trivial⟩, [_], rfl, .inr ⟨HB.mk rfl, FB.mk rfl, (Nat.le_of_ble_eq_true rfl)⟩⟩⟩
    · have h16 := cF hy8 hb
      refine go hΓ 4 rfl ?_
      obtain rfl := Option.some.inj h16
      obtain rfl := hout9 _ rfl
      exact ⟨trivial, [], rfl, .inl rfl⟩
  · refine cv_here ?_
    obtain rfl := Option.some.inj h5
    exact fin_objs hΓ [] (.inl rfl) rfl rfl rfl rfl (.inl rfl)
set_option maxHeartbeats 8000000 in
theorem c_laneref1_pen_name {k : Nat} {p : T_laneref1_pen} {s : Str} {r : T_laneref1_pen} (h : m_laneref1_pen_name k p s = some r) : EC Tryz.prog 113 [.ptr 2 0, S s] [.row 5 1 p.b.length (p.b.flatMap (eN .u8)), mOb kS false (eN .i64) p.v_at, .box 155 [.sl 0 p.b.length, .map 1]] fun g hp' => g = .tup [] ∧ hp' = [.dead, mOb kS false (eN .i64) r.v_at, .box 155 [.sl 3 r.b.length, .map 1], .row 5 1 r.b.length (r.b.flatMap (eN .u8))] := by
  refine ec_enterC (Fr.of 0 _) Tryz.func113 rfl (Fr.of_ok _) (Nat.le_of_ble_eq_true rfl) fun _ => ?_
  refine go_in ?_
  unfold m_laneref1_pen_name at h
  refine j_name (Nat.le_of_ble_eq_true rfl) ?_
  refine j_move 0 3 [.dead, mOb kS false (eN .i64) p.v_at, .box 155 [.sl 3 p.b.length, .map 1], .row 5 1 p.b.length (p.b.flatMap (eN .u8))] rfl rfl rfl rfl rfl rfl ?_
  refine go hΓ 2 rfl ?_
  refine eo_s (Nat.le_of_ble_eq_true rfl) (nblt.1 rfl) (ops_makeMap false) ?_
  refine eo_hp [.dead, mOb kS false (eN .i64) p.v_at, .box 155 [.sl 3 p.b.length, .map 1], .row 5 1 p.b.length (p.b.flatMap (eN .u8)), mOb kS false (eN .i64) ([] : List (Str × Int))] rfl ?_
  refine go_ops hΓ 4 rfl ?_
  obtain ⟨q4, hq4, h5⟩ := bi_ok h
  refine j_cutNZ [(0, .ptr 2 0), (4, .map 4)] [.dead, mOb kS false (eN .i64) q4.1, .box 155 [.sl 3 q4.2.1.length, .map 1], .row 5 1 q4.2.1.length (q4.2.1.flatMap (eN .u8)), mOb kS false (eN .i64) q4.2.2] ?_ ?_
  · refine go hΓ 1 rfl ?_
    refine j_loop hq4 (fun s2 => [(0, .ptr 2 0), (1, S s2.2.2.2), (4, .map 4)]) (fun s2 => [.dead, mOb kS false (eN .i64) s2.1, .box 155 [.sl 3 s2.2.1.length, .map 1], .row 5 1 s2.2.1.length (s2.2.1.flatMap (eN .u8)), mOb kS false (eN .i64) s2.2.2.1]) ⟨⟨rfl, rfl, rfl, trivial⟩, [], rfl, .inl rfl⟩ (fun s2 y10 hy8 hout9 => ?_)
    refine go hΓ 7 rfl ?_
    refine j_cond rfl (fun hb => ?_) (fun hb => ?_)
    · have h11 := cT hy8 hb
      refine go hΓ 11 rfl ?_
      refine eo_o rfl (op_lookupOk hΓ (kv := kS) (agg := false) (enc := (eN .i64)) s2.1 s2.2.2.2 (0 : Int) rfl rfl rfl rfl key_str rfl rfl rfl rfl rfl rfl rfl) ?_
      refine go_ops hΓ 12 rfl ?_
      refine j_cond rfl (fun hb => ?_) (fun hb => ?_)
      · have h12 := cT h11 hb
        obtain ⟨y13, hy13, h14⟩ := bi_ok h12
        refine go hΓ 6 rfl ?_
        refine eo_callF [3, 1, 2] (.tup []) [.dead, mOb kS false (eN .i64) y13.v_at, .box 155 [.sl 5 y13.b.length, .map 1], .dead, mOb kS false (eN .i64) s2.2.2.1, .row 5 1 y13.b.length (y13.b.flatMap (eN .u8))] (callable Tryz.func112 rfl rfl) (c_laneref1_pen_put hy13) rfl (Nat.le_of_ble_eq_true rfl) rfl rfl rfl rfl rfl rfl rfl rfl rfl rfl ?_
        refine eo_move 5 3 [.dead, mOb kS false (eN .i64) y13.v_at, .box 155 [.sl 3 y13.b.length, .map 1], .row 5 1 y13.b.length (y13.b.flatMap (eN .u8)), mOb kS false (eN .i64) s2.2.2.1, .dead] rfl rfl rfl rfl rfl rfl ?_
        refine go_ops hΓ 7 rfl ?_
        obtain rfl := Option.some.inj h14
        obtain rfl := hout9 _ rfl
        exact ⟨⟨rfl, rfl, trivial⟩, [_], rfl, .inr ⟨HB.mk rfl, FB.mk rfl, (Nat.le_of_ble_eq_true rfl)⟩⟩
      · have h15 := cF h11 hb
        refine go hΓ 11 rfl ?_
        refine eo_u (Nat.le_of_ble_eq_true rfl) (opu_mapUpdate hΓ (kv := kS) (agg := false) (enc := (eN .i64)) (id := 4) s2.2.2.1 s2.2.2.2 (s2.2.1.length : Int) rfl rfl rfl key_str rfl rfl rfl rfl rfl) ?_
        refine eo_hp [.dead, mOb kS false (eN .i64) s2.1, .box 155 [.sl 3 s2.2.1.length, .map 1], .row 5 1 s2.2.1.length (s2.2.1.flatMap (eN .u8)), mOb kS false (eN .i64) (mSet s2.2.2.1 s2.2.2.2 (s2.2.1.length : Int))] rfl ?_
        obtain ⟨y16, hy16, h17⟩ := bi_ok h15
        refine go_ops hΓ 5 rfl ?_
        refine eo_callP (callable Tryz.func165 rfl rfl) (c_strings_Cut hy16) rfl (Nat.le_of_ble_eq_true rfl) rfl rfl rfl rfl rfl ?_
        obtain ⟨y18, hy18, h19⟩ := bi_ok h17
        refine go_ops hΓ 15 rfl ?_
        refine eo_callF [3, 1, 2] (.tup []) [.dead, mOb kS false (eN .i64) y18.v_at, .box 155 [.sl 5 y18.b.length, .map 1], .dead, mOb kS false (eN .i64) (mSet s2.2.2.1 s2.2.2.2 (s2.2.1.length : Int)), .row 5 1 y18.b.length (y18.b.flatMap (eN .u8))] (callable Tryz.func112 rfl rfl) (c_laneref1_pen_put hy18) rfl (Nat.le_of_ble_eq_true rfl) rfl rfl rfl rfl rfl rfl rfl rfl rfl rfl ?_
        refine eo_move 5 3 [.dead, mOb kS false (eN .i64) y18.v_at, .box 155 [.sl 3 y18.b.length, .map 1], .row 5 1 y18.b.length (y18.b.flatMap (eN .u8)), mOb kS false (eN .i64) (mSet s2.2.2.1 s2.2.2.2 (s2.2.1.length : Int)), .dead] rfl rfl rfl rfl rfl rfl ?_
        obtain ⟨y20, hy20, h21⟩ := bi_ok h19
        refine go_ops hΓ 10 rfl ?_
        refine eo_forg 3 [.dead, mOb kS false (eN .i64) y18.v_at, .box 155 [.junk, .map 1], .row 5 1 y18.b.length (y18.b.flatMap (eN .u8)), mOb kS false (eN .i64) (mSet s2.2.2.1 s2.2.2.2 (s2.2.1.length : Int)), .dead] rfl (Nat.le_of_ble_eq_true rfl) ?_
        refine eo_s (Nat.le_of_ble_eq_true rfl) (nblt.1 rfl) (ops_appendST hΓ (id := 3) (h2 := show Γ 5 = some ⟨_, 1, _, _⟩ from rfl) hy20 rfl rfl rfl rfl rfl rfl rfl rfl rfl rfl rfl) ?_
        refine go_ops hΓ 2 rfl ?_
        refine eo_store hΓ rfl rfl rfl rfl rfl rfl rfl rfl (Nat.le_of_ble_eq_true rfl) ?_
        refine eo_hp [.dead, mOb kS false (eN .i64) y18.v_at, .box 155 [.sl 6 y20.length, .map 1], .dead, mOb kS false (eN .i64) (mSet s2.2.2.1 s2.2.2.2 (s2.2.1.length : Int)), .dead, .row 5 1 y20.length (y20.flatMap (eN .u8))] rfl ?_
        refine eo_move 6 3 [.dead, mOb kS false (eN .i64) y18.v_at, .box 155 [.sl 3 y20.length, .map 1], .row 5 1 y20.length (y20.flatMap (eN .u8)), mOb kS false (eN .i64) (mSet s2.2.2.1 s2.2.2.2 (s2.2.1.length : Int)), .dead, .dead] rfl rfl rfl rfl rfl rfl ?_
        refine go_ops hΓ 14 rfl ?_
        refine j_cond rfl (fun hb => ?_) (fun hb => ?_)
        · have h22 := cT h21 hb
          obtain ⟨y23, hy23, h24⟩ := bi_ok h22
          refine go hΓ 2 rfl ?_
          refine eo_callF [3, 1, 2] (.tup []) [.dead, mOb kS false (eN .i64) y23.v_at, .box 155 [.sl 7 y23.b.length, .map 1], .dead, mOb kS false (eN .i64) (mSet s2.2.2.1 s2.2.2.2 (s2.2.1.length : Int)), .dead, .dead, .row 5 1 y23.b.length (y23.b.flatMap (eN .u8))] (callable Tryz.func112 rfl rfl) (c_laneref1_pen_put hy23) rfl (Nat.le_of_ble_eq_true rfl) rfl rfl rfl rfl rfl rfl rfl rfl rfl rfl ?_
          refine eo_move 7 3 [.dead, mOb kS false (eN .i64) y23.v_at, .box 155 [.sl 3 y23.b.length, .map 1], .row 5 1 y23.b.length (y23.b.flatMap (eN .u8)), mOb kS false (eN .i64) (mSet s2.2.2.1 s2.2.2.2 (s2.2.1.length : Int)), .dead, .dead, .dead] rfl rfl rfl rfl rfl rfl ?_
          refine go_ops hΓ 2 rfl ?_
          obtain rfl := Option.some.inj h24
          exact ⟨_, rfl, ⟨⟨rfl, rfl, rfl, trivial⟩, [_, _, _], rfl, .inr ⟨HB.mk rfl, FB.mk rfl, (Nat.le_of_ble_eq_true rfl)⟩⟩⟩
        · have h25 := cF h21 hb
          refine go hΓ 2 rfl ?_
          obtain rfl := Option.some.inj h25
          exact ⟨_, rfl, ⟨⟨rfl, rfl, rfl, trivial⟩, [_, _], rfl, .inr ⟨HB.mk rfl, FB.mk rfl, (Nat.le_of_ble_eq_true rfl)⟩⟩⟩
    · have h26 := cF hy8 hb
      refine go hΓ 4 rfl ?_
      obtain rfl := Option.some.inj h26
      obtain rfl := hout9 _ rfl
      exact ⟨⟨rfl, rfl, trivial⟩, [], rfl, .inl rfl⟩
  · refine go hΓ 4 rfl ?_
    refine eo_range hΓ (kv := kS) (agg := false) (enc := (eN .i64)) q4.2.2 rfl rfl rfl rfl rfl (Nat.le_of_ble_eq_true rfl) (fun mr27 bs28 cl29 hpm30 hbl31 hbn32 => ?_)
    refine eo_hp [.dead, mOb kS false (eN .i64) q4.1, .box 155 [.sl 3 q4.2.1.length, .map 1], .row 5 1 q4.2.1.length (q4.2.1.flatMap (eN .u8)), mObS kS false (eN .i64) q4.2.2 (rawM kS (eN .i64) mr27 bs28 cl29), .iter 4 cl29 []] rfl ?_
    refine go_ops hΓ 2 rfl ?_
    obtain ⟨q38, hq38, h39⟩ := bi_ok h5
    refine go hΓ 1 rfl ?_
    refine j_rangeP hq38 hpm30 hbl31 hbn32 (fun s33 => [(0, .ptr 2 0), (63, .ptr 5 0)]) (fun sn35 s33 => [.dead, mOb kS false (eN .i64) s33, .box 155 [.sl 3 q4.2.1.length, .map 1], .row 5 1 q4.2.1.length (q4.2.1.flatMap (eN .u8)), mObS kS false (eN .i64) q4.2.2 (rawM kS (eN .i64) mr27 bs28 cl29), .iter 4 cl29 sn35]) ⟨⟨rfl, rfl, trivial⟩, [], rfl, .inl rfl⟩ (fun sn35 s33 hdone40 hstep41 => ?_)
    refine go hΓ 2 rfl ?_
    refine eo_next (kv := kS) (agg := false) (enc := (eN .i64)) q4.2.2 mr27 bs28 cl29 sn35 [.dead, mOb kS false (eN .i64) s33, .box 155 [.sl 3 q4.2.1.length, .map 1], .row 5 1 q4.2.1.length (q4.2.1.flatMap (eN .u8)), mOb kS false (eN .i64) q4.2.2, .dead] rfl rfl rfl rfl rfl (Nat.le_of_ble_eq_true rfl) (fun hdsn35 => ?_) (fun j36 x34 b37 hjsn35 hbsn35 hnsn35 => ?_)
    · have hqsn35 := hdone40 hdsn35
      subst hqsn35
      refine go_ops hΓ 9 rfl ?_
      refine cv_here ?_
      obtain rfl := Option.some.inj h39
      exact fin_objs hΓ [_, _] (.inl rfl) rfl rfl rfl rfl (.inr ⟨HB.mk rfl, rfl⟩)
    · obtain ⟨s42, h43⟩ := hstep41 j36 x34 b37 hjsn35 hbsn35 hnsn35
      have hssn35 := h43
      refine go_ops hΓ 10 rfl ?_
      refine eo_o rfl (op_entry (kv := kS) (agg := false) (enc := (eN .i64)) q4.2.2 mr27 bs28 cl29 sn35 hjsn35 hbsn35 rfl rfl rfl rfl (fun _ => rfl)) ?_
      refine go_ops hΓ 13 rfl ?_
      refine eo_u (Nat.le_of_ble_eq_true rfl) (opu_mapUpdate hΓ (kv := kS) (agg := false) (enc := (eN .i64)) (id := 1) s33 x34.1 x34.2 rfl rfl rfl key_str rfl rfl rfl rfl rfl) ?_
      refine eo_hp [.dead, mOb kS false (eN .i64) (mSet s33 x34.1 x34.2), .box 155 [.sl 3 q4.2.1.length, .map 1], .row 5 1 q4.2.1.length (q4.2.1.flatMap (eN .u8)), mObS kS false (eN .i64) q4.2.2 (rawM kS (eN .i64) mr27 bs28 cl29), .iter 4 cl29 (sn35 ++ [b37])] rfl ?_
      refine go_ops hΓ 2 rfl ?_
      obtain rfl := Option.some.inj h43
      exact ⟨j36, x34, b37, _, hjsn35, hbsn35, hnsn35, hssn35, ⟨⟨rfl, rfl, trivial⟩, [], rfl, .inl rfl⟩⟩
set_option maxHeartbeats 8000000 in
theorem c_laneref1_MessageBytes {k : Nat} {m : T_api_Message} {r : List Int} (h : m_laneref1_MessageBytes k m = some r) : EC Tryz.prog 38 [.agg [I m.Id, B m.Reply, I m.Code, .d (Sl e_api_Question m.Asked), .d (Sl e_api_Record m.Got)]] [] fun g hp' => g = .sl 0 r.length ∧ hp' = [.row 5 1 r.length (r.flatMap (eN .u8))] := by
  refine ec_enterC (Fr.of 0 _) Tryz.func38 rfl (Fr.of_ok _) (Nat.le_of_ble_eq_true rfl) fun _ => ?_
  refine go_in ?_
  unfold m_laneref1_MessageBytes at h
  refine go hΓ 2 rfl ?_
  refine eo_box rfl rfl rfl rfl (Nat.le_of_ble_eq_true rfl) ?_
  refine eo_nilOwn (t := 0) 5 1 rfl (Nat.le_of_ble_eq_true rfl) ?_
  refine go_ops hΓ 4 rfl ?_
  refine eo_s (Nat.le_of_ble_eq_true rfl) (nblt.1 rfl) (ops_makeMap false) ?_
  refine eo_hp [.box 31 [I m.Id, B m.Reply, I m.Code, .d (Sl e_api_Question m.Asked), .d (Sl e_api_Record m.Got)], .row 5 1 ([] : List Int).length (([] : List Int).flatMap (eN .u8)), mOb kS false (eN .i64) ([] : List (Str × Int))] rfl ?_
  refine eo_s (Nat.le_of_ble_eq_true rfl) (nblt.1 rfl) (ops_nilAt 5 1 0 (OpP.s (op_buildX hΓ [0] (gs := [.d (.v (.slice none 0 0)), .map 2]) rfl rfl rfl rfl rfl rfl)) rfl) ?_
  refine eo_box rfl rfl rfl rfl (Nat.le_of_ble_eq_true rfl) ?_
  obtain ⟨y1, hy1, h2⟩ := bi_ok h
  refine go_ops hΓ 9 rfl ?_
  refine eo_callF [3, 2, 4] (.tup []) [.box 31 [I m.Id, B m.Reply, I m.Code, .d (Sl e_api_Question m.Asked), .d (Sl e_api_Record m.Got)], .row 5 1 ([] : List Int).length (([] : List Int).flatMap (eN .u8)), mOb kS false (eN .i64) y1.v_at, .dead, .box 155 [.sl 5 y1.b.length, .map 2], .row 5 1 y1.b.length (y1.b.flatMap (eN .u8))] (callable Tryz.func112 rfl rfl) (c_laneref1_pen_put hy1) rfl (Nat.le_of_ble_eq_true rfl) rfl rfl rfl rfl rfl rfl rfl rfl rfl rfl ?_
  refine eo_move 5 3 [.box 31 [I m.Id, B m.Reply, I m.Code, .d (Sl e_api_Question m.Asked), .d (Sl e_api_Record m.Got)], .row 5 1 ([] : List Int).length (([] : List Int).flatMap (eN .u8)), mOb kS false (eN .i64) y1.v_at, .row 5 1 y1.b.length (y1.b.flatMap (eN .u8)), .box 155 [.sl 3 y1.b.length, .map 2], .dead] rfl rfl rfl rfl rfl rfl ?_
  obtain ⟨q3, hq3, h4⟩ := bi_ok h2
  refine go_ops hΓ 14 rfl ?_
  refine j_cutNZ [(1, .ptr 0 0), (3, .ptr 4 0), (4, U q3)] [.box 31 [I m.Id, B m.Reply, I m.Code, .d (Sl e_api_Question m.Asked), .d (Sl e_api_Record m.Got)], .row 5 1 ([] : List Int).length (([] : List Int).flatMap (eN .u8)), mOb kS false (eN .i64) y1.v_at, .row 5 1 y1.b.length (y1.b.flatMap (eN .u8)), .box 155 [.sl 3 y1.b.length, .map 2], .dead] ?_ ?_
  · refine j_cond rfl (fun hb => ?_) (fun hb => ?_)
    · have h5 := cT hq3 hb
      refine go hΓ 3 rfl ?_
      obtain rfl := Option.some.inj h5
      exact ⟨⟨rfl, rfl, rfl, trivial⟩, [], rfl, .inl rfl⟩
    · have h6 := cF hq3 hb
      refine go hΓ 1 rfl ?_
      obtain rfl := Option.some.inj h6
      exact ⟨⟨rfl, rfl, rfl, trivial⟩, [], rfl, .inl rfl⟩
  · refine go hΓ 16 rfl ?_
    refine eo_litT hΓ (enc := (eN .u64)) [q3, IntKind.u64.wrap (m.Code), IntKind.u64.wrap ((m.Asked.length : Int)), IntKind.u64.wrap ((m.Got.length : Int))] rfl rfl rfl rfl rfl rfl rfl rfl rfl rfl rfl rfl (Nat.le_of_ble_eq_true rfl) ?_
    refine go_ops hΓ 4 rfl ?_
    obtain ⟨q10, hq10, h11⟩ := bi_ok h4
    refine j_bound 33 rfl fun hb13 => ?_
    refine j_cutNZ [(1, .ptr 0 0), (3, .ptr 4 0)] [.box 31 [I m.Id, B m.Reply, I m.Code, .d (Sl e_api_Question m.Asked), .d (Sl e_api_Record m.Got)], .row 5 1 ([] : List Int).length (([] : List Int).flatMap (eN .u8)), mOb kS false (eN .i64) q10.1, .row 5 1 q10.2.length (q10.2.flatMap (eN .u8)), .box 155 [.sl 3 q10.2.length, .map 2], .dead] ?_ ?_
    · refine go hΓ 1 rfl ?_
      refine j_rangeF [q3, IntKind.u64.wrap (m.Code), IntKind.u64.wrap ((m.Asked.length : Int)), IntKind.u64.wrap ((m.Got.length : Int))] hq10 (fun i7 s8 => [(1, .ptr 0 0), (3, .ptr 4 0), (33, .d (Sl (eN .u64) [q3, IntKind.u64.wrap (m.Code), IntKind.u64.wrap ((m.Asked.length : Int)), IntKind.u64.wrap ((m.Got.length : Int))])), (34, I ([q3, IntKind.u64.wrap (m.Code), IntKind.u64.wrap ((m.Asked.length : Int)), IntKind.u64.wrap ((m.Got.length : Int))].length : Int)), (35, I (i7 : Int))]) (fun s8 => [.box 31 [I m.Id, B m.Reply, I m.Code, .d (Sl e_api_Question m.Asked), .d (Sl e_api_Record m.Got)], .row 5 1 ([] : List Int).length (([] : List Int).flatMap (eN .u8)), mOb kS false (eN .i64) s8.1, .row 5 1 s8.2.length (s8.2.flatMap (eN .u8)), .box 155 [.sl 3 s8.2.length, .map 2], .dead]) ⟨⟨rfl, rfl, rfl, rfl, rfl, trivial⟩, [], rfl, .inl rfl⟩ (fun i7 x9 s8 y17 hx14 hlt hy15 => ?_) (?_)
      · refine go hΓ 6 rfl ?_
        refine j_condT rfl (decide_eq_true (Int.ofNat_lt.2 hlt)) ?_
        refine go hΓ 6 rfl ?_
        refine eo_o rfl (op_elemZ hΓ (enc := (eN .u64)) (getZ_nat hx14) rfl rfl rfl rfl rfl (fun _ => rfl)) ?_
        obtain ⟨y18, hy18, h19⟩ := bi_ok hy15
        refine go_ops hΓ 7 rfl ?_
        refine eo_callF [3, 2, 4] (.tup []) [.box 31 [I m.Id, B m.Reply, I m.Code, .d (Sl e_api_Question m.Asked), .d (Sl e_api_Record m.Got)], .row 5 1 ([] : List Int).length (([] : List Int).flatMap (eN .u8)), mOb kS false (eN .i64) y18.v_at, .dead, .box 155 [.sl 6 y18.b.length, .map 2], .dead, .row 5 1 y18.b.length (y18.b.flatMap (eN .u8))] (callable Tryz.func112 rfl rfl) (c_laneref1_pen_put hy18) rfl (Nat.le_of_ble_eq_true rfl) rfl rfl rfl rfl rfl rfl rfl rfl rfl rfl ?_
        refine eo_move 6 3 [.box 31 [I m.Id, B m.Reply, I m.Code, .d (Sl e_api_Question m.Asked), .d (Sl e_api_Record m.Got)], .row 5 1 ([] : List Int).length (([] : List Int).flatMap (eN .u8)), mOb kS false (eN .i64) y18.v_at, .row 5 1 y18.b.length (y18.b.flatMap (eN .u8)), .box 155 [.sl 3 y18.b.length, .map 2], .dead, .dead] rfl rfl rfl rfl rfl rfl ?_
        refine go_ops hΓ 7 rfl ?_
        obtain rfl := Option.some.inj h19
        exact ⟨⟨rfl, rfl, rfl, rfl, get_eq rfl (w64_succ (Nat.lt_of_lt_of_le hlt hb13)), trivial⟩, [_], rfl, .inr ⟨HB.mk rfl, FB.mk rfl, (Nat.le_of_ble_eq_true rfl)⟩⟩
      · refine go hΓ 6 rfl ?_
        refine j_condF rfl (decide_eq_false (Int.lt_irrefl _)) ?_
        refine go hΓ 4 rfl ?_
        exact ⟨⟨rfl, rfl, trivial⟩, [], rfl, .inl rfl⟩
    · refine go hΓ 10 rfl ?_
      obtain ⟨q23, hq23, h24⟩ := bi_ok h11
      refine j_bound 44 rfl fun hb26 => ?_
      refine j_cutNZ [(1, .ptr 0 0), (3, .ptr 4 0)] [.box 31 [I m.Id, B m.Reply, I m.Code, .d (Sl e_api_Question m.Asked), .d (Sl e_api_Record m.Got)], .row 5 1 ([] : List Int).length (([] : List Int).flatMap (eN .u8)), mOb kS false (eN .i64) q23.1, .row 5 1 q23.2.length (q23.2.flatMap (eN .u8)), .box 155 [.sl 3 q23.2.length, .map 2], .dead] ?_ ?_
      · refine go hΓ 1 rfl ?_
        refine j_rangeF m.Asked hq23 (fun i20 s21 => [(1, .ptr 0 0), (3, .ptr 4 0), (44, .d (Sl e_api_Question m.Asked)), (45, I (m.Asked.length : Int)), (46, I (i20 : Int))]) (fun s21 => [.box 31 [I m.Id, B m.Reply, I m.Code, .d (Sl e_api_Question m.Asked), .d (Sl e_api_Record m.Got)], .row 5 1 ([] : List Int).length (([] : List Int).flatMap (eN .u8)), mOb kS false (eN .i64) s21.1, .row 5 1 s21.2.length (s21.2.flatMap (eN .u8)), .box 155 [.sl 3 s21.2.length, .map 2], .dead]) ⟨⟨rfl, rfl, rfl, rfl, rfl, trivial⟩, [], rfl, .inl rfl⟩ (fun i20 x22 s21 y30 hx27 hlt hy28 => ?_) (?_)
        · refine go hΓ 6 rfl ?_
          refine j_condT rfl (decide_eq_true (Int.ofNat_lt.2 hlt)) ?_
          refine go hΓ 6 rfl ?_
          refine eo_o rfl (op_elemZ hΓ (enc := e_api_Question) (getZ_nat hx27) rfl rfl rfl rfl rfl (fun _ => rfl)) ?_
          refine go_ops hΓ 1 rfl ?_
          refine eo_alloc hΓ rfl rfl rfl (Nat.le_of_ble_eq_true rfl) ?_
          refine eo_store hΓ rfl rfl rfl rfl rfl rfl rfl rfl (Nat.le_of_ble_eq_true rfl) ?_
          refine eo_hp [.box 31 [I m.Id, B m.Reply, I m.Code, .d (Sl e_api_Question m.Asked), .d (Sl e_api_Record m.Got)], .row 5 1 ([] : List Int).length (([] : List Int).flatMap (eN .u8)), mOb kS false (eN .i64) s21.1, .row 5 1 s21.2.length (s21.2.flatMap (eN .u8)), .box 155 [.sl 3 s21.2.length, .map 2], .dead, .box 82 [S x22.Name, I x22.Kind]] rfl ?_
          obtain ⟨y31, hy31, h32⟩ := bi_ok hy28
          refine go_ops hΓ 7 rfl ?_
          refine eo_callF [3, 2, 4] (.tup []) [.box 31 [I m.Id, B m.Reply, I m.Code, .d (Sl e_api_Question m.Asked), .d (Sl e_api_Record m.Got)], .row 5 1 ([] : List Int).length (([] : List Int).flatMap (eN .u8)), mOb kS false (eN .i64) y31.v_at, .dead, .box 155 [.sl 7 y31.b.length, .map 2], .dead, .box 82 [S x22.Name, I x22.Kind], .row 5 1 y31.b.length (y31.b.flatMap (eN .u8))] (callable Tryz.func113 rfl rfl) (c_laneref1_pen_name hy31) rfl (Nat.le_of_ble_eq_true rfl) rfl rfl rfl rfl rfl rfl rfl rfl rfl rfl ?_
          refine eo_move 7 3 [.box 31 [I m.Id, B m.Reply, I m.Code, .d (Sl e_api_Question m.Asked), .d (Sl e_api_Record m.Got)], .row 5 1 ([] : List Int).length (([] : List Int).flatMap (eN .u8)), mOb kS false (eN .i64) y31.v_at, .row 5 1 y31.b.length (y31.b.flatMap (eN .u8)), .box 155 [.sl 3 y31.b.length, .map 2], .dead, .box 82 [S x22.Name, I x22.Kind], .dead] rfl rfl rfl rfl rfl rfl ?_
          obtain ⟨y33, hy33, h34⟩ := bi_ok h32
          refine go_ops hΓ 7 rfl ?_
          refine eo_callF [3, 2, 4] (.tup []) [.box 31 [I m.Id, B m.Reply, I m.Code, .d (Sl e_api_Question m.Asked), .d (Sl e_api_Record m.Got)], .row 5 1 ([] : List Int).length (([] : List Int).flatMap (eN .u8)), mOb kS false (eN .i64) y33.v_at, .dead, .box 155 [.sl 8 y33.b.length, .map 2], .dead, .box 82 [S x22.Name, I x22.Kind], .dead, .row 5 1 y33.b.length (y33.b.flatMap (eN .u8))] (callable Tryz.func112 rfl rfl) (c_laneref1_pen_put hy33) rfl (Nat.le_of_ble_eq_true rfl) rfl rfl rfl rfl rfl rfl rfl rfl rfl rfl ?_
          refine eo_move 8 3 [.box 31 [I m.Id, B m.Reply, I m.Code, .d (Sl e_api_Question m.Asked), .d (Sl e_api_Record m.Got)], .row 5 1 ([] : List Int).length (([] : List Int).flatMap (eN .u8)), mOb kS false (eN .i64) y33.v_at, .row 5 1 y33.b.length (y33.b.flatMap (eN .u8)), .box 155 [.sl 3 y33.b.length, .map 2], .dead, .box 82 [S x22.Name, I x22.Kind], .dead, .dead] rfl rfl rfl rfl rfl rfl ?_
          refine go_ops hΓ 7 rfl ?_
          obtain rfl := Option.some.inj h34
          exact ⟨⟨rfl, rfl, rfl, rfl, get_eq rfl (w64_succ (Nat.lt_of_lt_of_le hlt hb26)), trivial⟩, [_, _, _], rfl, .inr ⟨HB.mk rfl, FB.mk rfl, (Nat.le_of_ble_eq_true rfl)⟩⟩
        · refine go hΓ 6 rfl ?_
          refine j_condF rfl (decide_eq_false (Int.lt_irrefl _)) ?_
          refine go hΓ 4 rfl ?_
          exact ⟨⟨rfl, rfl, trivial⟩, [], rfl, .inl rfl⟩
      · refine go hΓ 10 rfl ?_
        obtain ⟨q38, hq38, h39⟩ := bi_ok h24
        refine j_bound 61 rfl fun hb41 => ?_
        refine j_cutNZ [(3, .ptr 4 0)] [.box 31 [I m.Id, B m.Reply, I m.Code, .d (Sl e_api_Question m.Asked), .d (Sl e_api_Record m.Got)], .row 5 1 ([] : List Int).length (([] : List Int).flatMap (eN .u8)), mOb kS false (eN .i64) q38.1, .row 5 1 q38.2.length (q38.2.flatMap (eN .u8)), .box 155 [.sl 3 q38.2.length, .map 2], .dead] ?_ ?_
        · refine go hΓ 1 rfl ?_
          refine j_rangeF m.Got hq38 (fun i35 s36 => [(3, .ptr 4 0), (61, .d (Sl e_api_Record m.Got)), (62, I (m.Got.length : Int)), (63, I (i35 : Int))]) (fun s36 => [.box 31 [I m.Id, B m.Reply, I m.Code, .d (Sl e_api_Question m.Asked), .d (Sl e_api_Record m.Got)], .row 5 1 ([] : List Int).length (([] : List Int).flatMap (eN .u8)), mOb kS false (eN .i64) s36.1, .row 5 1 s36.2.length (s36.2.flatMap (eN .u8)), .box 155 [.sl 3 s36.2.length, .map 2], .dead]) ⟨⟨rfl, rfl, rfl, rfl, trivial⟩, [], rfl, .inl rfl⟩ (fun i35 x37 s36 y45 hx42 hlt hy43 => ?_) (?_)
          · refine go hΓ 6 rfl ?_
            refine j_condT rfl (decide_eq_true (Int.ofNat_lt.2 hlt)) ?_
            refine go hΓ 6 rfl ?_
            refine eo_o rfl (op_elemZ hΓ (enc := e_api_Record) (getZ_nat hx42) rfl rfl rfl rfl rfl (fun _ => rfl)) ?_
            refine go_ops hΓ 1 rfl ?_
            refine eo_alloc hΓ rfl rfl rfl (Nat.le_of_ble_eq_true rfl) ?_
            refine eo_store hΓ rfl rfl rfl rfl rfl rfl rfl rfl (Nat.le_of_ble_eq_true rfl) ?_
            refine eo_hp [.box 31 [I m.Id, B m.Reply, I m.Code, .d (Sl e_api_Question m.Asked), .d (Sl e_api_Record m.Got)], .row 5 1 ([] : List Int).length (([] : List Int).flatMap (eN .u8)), mOb kS false (eN .i64) s36.1, .row 5 1 s36.2.length (s36.2.flatMap (eN .u8)), .box 155 [.sl 3 s36.2.length, .map 2], .dead, .box 57 [S x37.Name, I x37.Kind, B x37.Addr.Six, U x37.Addr.Hi, U x37.Addr.Lo, S x37.To, S x37.Words, I x37.Life]] rfl ?_
            obtain ⟨y46, hy46, h47⟩ := bi_ok hy43
            refine go_ops hΓ 7 rfl ?_
            refine eo_callF [3, 2, 4] (.tup []) [.box 31 [I m.Id, B m.Reply, I m.Code, .d (Sl e_api_Question m.Asked), .d (Sl e_api_Record m.Got)], .row 5 1 ([] : List Int).length (([] : List Int).flatMap (eN .u8)), mOb kS false (eN .i64) y46.v_at, .dead, .box 155 [.sl 7 y46.b.length, .map 2], .dead, .box 57 [S x37.Name, I x37.Kind, B x37.Addr.Six, U x37.Addr.Hi, U x37.Addr.Lo, S x37.To, S x37.Words, I x37.Life], .row 5 1 y46.b.length (y46.b.flatMap (eN .u8))] (callable Tryz.func113 rfl rfl) (c_laneref1_pen_name hy46) rfl (Nat.le_of_ble_eq_true rfl) rfl rfl rfl rfl rfl rfl rfl rfl rfl rfl ?_
            refine eo_move 7 3 [.box 31 [I m.Id, B m.Reply, I m.Code, .d (Sl e_api_Question m.Asked), .d (Sl e_api_Record m.Got)], .row 5 1 ([] : List Int).length (([] : List Int).flatMap (eN .u8)), mOb kS false (eN .i64) y46.v_at, .row 5 1 y46.b.length (y46.b.flatMap (eN .u8)), .box 155 [.sl 3 y46.b.length, .map 2], .dead, .box 57 [S x37.Name, I x37.Kind, B x37.Addr.Six, U x37.Addr.Hi, U x37.Addr.Lo, S x37.To, S x37.Words, I x37.Life], .dead] rfl rfl rfl rfl rfl rfl ?_
            obtain ⟨y48, hy48, h49⟩ := bi_ok h47
            refine go_ops hΓ 8 rfl ?_
            refine eo_callF [3, 2, 4] (.tup []) [.box 31 [I m.Id, B m.Reply, I m.Code, .d (Sl e_api_Question m.Asked), .d (Sl e_api_Record m.Got)], .row 5 1 ([] : List Int).length (([] : List Int).flatMap (eN .u8)), mOb kS false (eN .i64) y48.v_at, .dead, .box 155 [.sl 8 y48.b.length, .map 2], .dead, .box 57 [S x37.Name, I x37.Kind, B x37.Addr.Six, U x37.Addr.Hi, U x37.Addr.Lo, S x37.To, S x37.Words, I x37.Life], .dead, .row 5 1 y48.b.length (y48.b.flatMap (eN .u8))] (callable Tryz.func112 rfl rfl) (c_laneref1_pen_put hy48) rfl (Nat.le_of_ble_eq_true rfl) rfl rfl rfl rfl rfl rfl rfl rfl rfl rfl ?_
            refine eo_move 8 3 [.box 31 [I m.Id, B m.Reply, I m.Code, .d (Sl e_api_Question m.Asked), .d (Sl e_api_Record m.Got)], .row 5 1 ([] : List Int).length (([] : List Int).flatMap (eN .u8)), mOb kS false (eN .i64) y48.v_at, .row 5 1 y48.b.length (y48.b.flatMap (eN .u8)), .box 155 [.sl 3 y48.b.length, .map 2], .dead, .box 57 [S x37.Name, I x37.Kind, B x37.Addr.Six, U x37.Addr.Hi, U x37.Addr.Lo, S x37.To, S x37.Words, I x37.Life], .dead, .dead] rfl rfl rfl rfl rfl rfl ?_
            obtain ⟨y50, hy50, h51⟩ := bi_ok h49
            refine go_ops hΓ 8 rfl ?_
            refine eo_callF [3, 2, 4] (.tup []) [.box 31 [I m.Id, B m.Reply, I m.Code, .d (Sl e_api_Question m.Asked), .d (Sl e_api_Record m.Got)], .row 5 1 ([] : List Int).length (([] : List Int).flatMap (eN .u8)), mOb kS false (eN .i64) y50.v_at, .dead, .box 155 [.sl 9 y50.b.length, .map 2], .dead, .box 57 [S x37.Name, I x37.Kind, B x37.Addr.Six, U x37.Addr.Hi, U x37.Addr.Lo, S x37.To, S x37.Words, I x37.Life], .dead, .dead, .row 5 1 y50.b.length (y50.b.flatMap (eN .u8))] (callable Tryz.func112 rfl rfl) (c_laneref1_pen_put hy50) rfl (Nat.le_of_ble_eq_true rfl) rfl rfl rfl rfl rfl rfl rfl rfl rfl rfl ?_
            refine eo_move 9 3 [.box 31 [I m.Id, B m.Reply, I m.Code, .d (Sl e_api_Question m.Asked), .d (Sl e_api_Record m.Got)], .row 5 1 ([] : List Int).length (([] : List Int).flatMap (eN .u8)), mOb kS false (eN .i64) y50.v_at, .row 5 1 y50.b.length (y50.b.flatMap (eN .u8)), .box 155 [.sl 3 y50.b.length, .map 2], .dead, .box 57 [S x37.Name, I x37.Kind, B x37.Addr.Six, U x37.Addr.Hi, U x37.Addr.Lo, S x37.To, S x37.Words, I x37.Life], .dead, .dead, .dead] rfl rfl rfl rfl rfl rfl ?_
            refine go_ops hΓ 15 rfl ?_
            refine j_cond rfl (fun hb => ?_) (fun hb => ?_)
            · have h52 := cT h51 hb
              obtain ⟨y53, hy53, h54⟩ := bi_ok h52
              refine go hΓ 5 rfl ?_
              refine eo_callF [3, 2, 4] (.tup []) [.box 31 [I m.Id, B m.Reply, I m.Code, .d (Sl e_api_Question m.Asked), .d (Sl e_api_Record m.Got)], .row 5 1 ([] : List Int).length (([] : List Int).flatMap (eN .u8)), mOb kS false (eN .i64) y53.v_at, .dead, .box 155 [.sl 10 y53.b.length, .map 2], .dead, .box 57 [S x37.Name, I x37.Kind, B x37.Addr.Six, U x37.Addr.Hi, U x37.Addr.Lo, S x37.To, S x37.Words, I x37.Life], .dead, .dead, .dead, .row 5 1 y53.b.length (y53.b.flatMap (eN .u8))] (callable Tryz.func112 rfl rfl) (c_laneref1_pen_put hy53) rfl (Nat.le_of_ble_eq_true rfl) rfl rfl rfl rfl rfl rfl rfl rfl rfl rfl ?_
              refine eo_move 10 3 [.box 31 [I m.Id, B m.Reply, I m.Code, .d (Sl e_api_Question m.Asked), .d (Sl e_api_Record m.Got)], .row 5 1 ([] : List Int).length (([] : List Int).flatMap (eN .u8)), mOb kS false (eN .i64) y53.v_at, .row 5 1 y53.b.length (y53.b.flatMap (eN .u8)), .box 155 [.sl 3 y53.b.length, .map 2], .dead, .box 57 [S x37.Name, I x37.Kind, B x37.Addr.Six, U x37.Addr.Hi, U x37.Addr.Lo, S x37.To, S x37.Words, I x37.Life], .dead, .dead, .dead, .dead] rfl rfl rfl rfl rfl rfl ?_
              refine go_ops hΓ 8 rfl ?_
              obtain rfl := Option.some.inj h54
              exact ⟨⟨rfl, rfl, rfl, get_eq rfl (w64_succ (Nat.lt_of_lt_of_le hlt hb41)), trivial⟩, [_, _, _, _, _], rfl, .inr ⟨HB.mk rfl, FB.mk rfl, (Nat.le_of_ble_eq_true rfl)⟩⟩
            · have h55 := cF h51 hb
              refine go hΓ 6 rfl ?_
              refine j_cond rfl (fun hb => ?_) (fun hb => ?_)
              · have h56 := cT h55 hb
                obtain ⟨y57, hy57, h58⟩ := bi_ok h56
                refine go hΓ 6 rfl ?_
                refine eo_callF [3, 2, 4] (.tup []) [.box 31 [I m.Id, B m.Reply, I m.Code, .d (Sl e_api_Question m.Asked), .d (Sl e_api_Record m.Got)], .row 5 1 ([] : List Int).length (([] : List Int).flatMap (eN .u8)), mOb kS false (eN .i64) y57.v_at, .dead, .box 155 [.sl 10 y57.b.length, .map 2], .dead, .box 57 [S x37.Name, I x37.Kind, B x37.Addr.Six, U x37.Addr.Hi, U x37.Addr.Lo, S x37.To, S x37.Words, I x37.Life], .dead, .dead, .dead, .row 5 1 y57.b.length (y57.b.flatMap (eN .u8))] (callable Tryz.func112 rfl rfl) (c_laneref1_pen_put hy57) rfl (Nat.le_of_ble_eq_true rfl) rfl rfl rfl rfl rfl rfl rfl rfl rfl rfl ?_
                refine eo_move 10 3 [.box 31 [I m.Id, B m.Reply, I m.Code, .d (Sl e_api_Question m.Asked), .d (Sl e_api_Record m.Got)], .row 5 1 ([] : List Int).length (([] : List Int).flatMap (eN .u8)), mOb kS false (eN .i64) y57.v_at, .row 5 1 y57.b.length (y57.b.flatMap (eN .u8)), .box 155 [.sl 3 y57.b.length, .map 2], .dead, .box 57 [S x37.Name, I x37.Kind, B x37.Addr.Six, U x37.Addr.Hi, U x37.Addr.Lo, S x37.To, S x37.Words, I x37.Life], .dead, .dead, .dead, .dead] rfl rfl rfl rfl rfl rfl ?_
                obtain ⟨y59, hy59, h60⟩ := bi_ok h58
                refine go_ops hΓ 7 rfl ?_
                refine eo_callF [3, 2, 4] (.tup []) [.box 31 [I m.Id, B m.Reply, I m.Code, .d (Sl e_api_Question m.Asked), .d (Sl e_api_Record m.Got)], .row 5 1 ([] : List Int).length (([] : List Int).flatMap (eN .u8)), mOb kS false (eN .i64) y59.v_at, .dead, .box 155 [.sl 11 y59.b.length, .map 2], .dead, .box 57 [S x37.Name, I x37.Kind, B x37.Addr.Six, U x37.Addr.Hi, U x37.Addr.Lo, S x37.To, S x37.Words, I x37.Life], .dead, .dead, .dead, .dead, .row 5 1 y59.b.length (y59.b.flatMap (eN .u8))] (callable Tryz.func112 rfl rfl) (c_laneref1_pen_put hy59) rfl (Nat.le_of_ble_eq_true rfl) rfl rfl rfl rfl rfl rfl rfl rfl rfl rfl ?_
                refine eo_move 11 3 [.box 31 [I m.Id, B m.Reply, I m.Code, .d (Sl e_api_Question m.Asked), .d (Sl e_api_Record m.Got)], .row 5 1 ([] : List Int).length (([] : List Int).flatMap (eN .u8)), mOb kS false (eN .i64) y59.v_at, .row 5 1 y59.b.length (y59.b.flatMap (eN .u8)), .box 155 [.sl 3 y59.b.length, .map 2], .dead, .box 57 [S x37.Name, I x37.Kind, B x37.Addr.Six, U x37.Addr.Hi, U x37.Addr.Lo, S x37.To, S x37.Words, I x37.Life], .dead, .dead, .dead, .dead, .dead] rfl rfl rfl rfl rfl rfl ?_
                refine go_ops hΓ 8 rfl ?_
                obtain rfl := Option.some.inj h60
                exact ⟨⟨rfl, rfl, rfl, get_eq rfl (w64_succ (Nat.lt_of_lt_of_le hlt hb41)), trivial⟩, [_, _, _, _, _, _], rfl, .inr ⟨HB.mk rfl, FB.mk rfl, (Nat.le_of_ble_eq_true rfl)⟩⟩
              · have h61 := cF h55 hb
                refine go hΓ 6 rfl ?_
                refine j_cond rfl (fun hb => ?_) (fun hb => ?_)
                · have h62 := cT h61 hb
                  obtain ⟨y63, hy63, h64⟩ := bi_ok h62
                  refine go hΓ 7 rfl ?_
                  refine eo_callF [3, 2, 4] (.tup []) [.box 31 [I m.Id, B m.Reply, I m.Code, .d (Sl e_api_Question m.Asked), .d (Sl e_api_Record m.Got)], .row 5 1 ([] : List Int).length (([] : List Int).flatMap (eN .u8)), mOb kS false (eN .i64) y63.v_at, .dead, .box 155 [.sl 10 y63.b.length, .map 2], .dead, .box 57 [S x37.Name, I x37.Kind, B x37.Addr.Six, U x37.Addr.Hi, U x37.Addr.Lo, S x37.To, S x37.Words, I x37.Life], .dead, .dead, .dead, .row 5 1 y63.b.length (y63.b.flatMap (eN .u8))] (callable Tryz.func112 rfl rfl) (c_laneref1_pen_put hy63) rfl (Nat.le_of_ble_eq_true rfl) rfl rfl rfl rfl rfl rfl rfl rfl rfl rfl ?_
                  refine eo_move 10 3 [.box 31 [I m.Id, B m.Reply, I m.Code, .d (Sl e_api_Question m.Asked), .d (Sl e_api_Record m.Got)], .row 5 1 ([] : List Int).length (([] : List Int).flatMap (eN .u8)), mOb kS false (eN .i64) y63.v_at, .row 5 1 y63.b.length (y63.b.flatMap (eN .u8)), .box 155 [.sl 3 y63.b.length, .map 2], .dead, .box 57 [S x37.Name, I x37.Kind, B x37.Addr.Six, U x37.Addr.Hi, U x37.Addr.Lo, S x37.To, S x37.Words, I x37.Life], .dead, .dead, .dead, .dead] rfl rfl rfl rfl rfl rfl ?_
                  refine go_ops hΓ 2 rfl ?_
                  refine j_drawE [.dead, .dead, .dead, .dead, .box 155 [.sl 3 y63.b.length, .map 2], .dead, .box 57 [S x37.Name, I x37.Kind, B x37.Addr.Six, U x37.Addr.Hi, U x37.Addr.Lo, S x37.To, S x37.Words, I x37.Life]] [4, 6] [7, 10] [7, 10] hmix (by kernel_rfl) (by kernel_rfl) ⟨rfl, rfl, trivial⟩ (Nat.le_of_ble_eq_true rfl) ?_
                  obtain ⟨y65, hy65, h66⟩ := bi_ok h64
                  refine go_E hΓ 7 rfl ?_
                  refine ge_h [.box 31 [I m.Id, B m.Reply, I m.Code, .d (Sl e_api_Question m.Asked), .d (Sl e_api_Record m.Got)], .row 5 1 ([] : List Int).length (([] : List Int).flatMap (eN .u8)), mOb kS false (eN .i64) y63.v_at, .dead, .box 155 [.junk, .map 2], .dead, .box 57 [S x37.Name, I x37.Kind, B x37.Addr.Six, U x37.Addr.Hi, U x37.Addr.Lo, S x37.To, S x37.Words, I x37.Life], .dead, .dead, .dead, .dead, .row 5 1 y65.length (y65.flatMap (eN .u8))] rfl rfl rfl (brk_st rfl) (qte_s (ops_forg 3 (ops_appendST hΓ (id := 3) (h2 := show Γ 5 = some ⟨_, 1, _, _⟩ from rfl) hy65 rfl rfl rfl rfl rfl rfl rfl rfl rfl rfl rfl))) ?_
                  refine go_E hΓ 2 rfl ?_
                  refine ge_h0 [.box 31 [I m.Id, B m.Reply, I m.Code, .d (Sl e_api_Question m.Asked), .d (Sl e_api_Record m.Got)], .row 5 1 ([] : List Int).length (([] : List Int).flatMap (eN .u8)), mOb kS false (eN .i64) y63.v_at, .dead, .box 155 [.sl 11 y65.length, .map 2], .dead, .box 57 [S x37.Name, I x37.Kind, B x37.Addr.Six, U x37.Addr.Hi, U x37.Addr.Lo, S x37.To, S x37.Words, I x37.Life], .dead, .dead, .dead, .dead, .row 5 1 y65.length (y65.flatMap (eN .u8))] rfl rfl (brk_st rfl) (qte_u (opu_store2 hΓ rfl rfl rfl rfl rfl rfl rfl rfl rfl)) ?_
                  refine ge_fin ?_
                  refine go hΓ 3 rfl ?_
                  refine j_move 11 3 [.box 31 [I m.Id, B m.Reply, I m.Code, .d (Sl e_api_Question m.Asked), .d (Sl e_api_Record m.Got)], .row 5 1 ([] : List Int).length (([] : List Int).flatMap (eN .u8)), mOb kS false (eN .i64) y63.v_at, .row 5 1 y65.length (y65.flatMap (eN .u8)), .box 155 [.sl 3 y65.length, .map 2], .dead, .box 57 [S x37.Name, I x37.Kind, B x37.Addr.Six, U x37.Addr.Hi, U x37.Addr.Lo, S x37.To, S x37.Words, I x37.Life], .dead, .dead, .dead, .dead, .dead] rfl rfl rfl rfl rfl rfl ?_
                  refine go hΓ 4 rfl ?_
                  obtain rfl := Option.some.inj h66
                  exact ⟨⟨rfl, rfl, rfl, get_eq rfl (w64_succ (Nat.lt_of_lt_of_le hlt hb41)), trivial⟩, [_, _, _, _, _, _], rfl, .inr ⟨HB.mk rfl, FB.mk rfl, (Nat.le_of_ble_eq_true rfl)⟩⟩
                · have h67 := cF h61 hb
                  obtain ⟨y68, hy68, h69⟩ := bi_ok h67
                  refine go hΓ 4 rfl ?_
                  refine eo_callF [3, 2, 4] (.tup []) [.box 31 [I m.Id, B m.Reply, I m.Code, .d (Sl e_api_Question m.Asked), .d (Sl e_api_Record m.Got)], .row 5 1 ([] : List Int).length (([] : List Int).flatMap (eN .u8)), mOb kS false (eN .i64) y68.v_at, .dead, .box 155 [.sl 10 y68.b.length, .map 2], .dead, .box 57 [S x37.Name, I x37.Kind, B x37.Addr.Six, U x37.Addr.Hi, U x37.Addr.Lo, S x37.To, S x37.Words, I x37.Life], .dead, .dead, .dead, .row 5 1 y68.b.length (y68.b.flatMap (eN .u8))] (callable Tryz.func113 rfl rfl) (c_laneref1_pen_name hy68) rfl (Nat.le_of_ble_eq_true rfl) rfl rfl rfl rfl rfl rfl rfl rfl rfl rfl ?_
                  refine eo_move 10 3 [.box 31 [I m.Id, B m.Reply, I m.Code, .d (Sl e_api_Question m.Asked), .d (Sl e_api_Record m.Got)], .row 5 1 ([] : List Int).length (([] : List Int).flatMap (eN .u8)), mOb kS false (eN .i64) y68.v_at, .row 5 1 y68.b.length (y68.b.flatMap (eN .u8)), .box 155 [.sl 3 y68.b.length, .map 2], .dead, .box 57 [S x37.Name, I x37.Kind, B x37.Addr.Six, U x37.Addr.Hi, U x37.Addr.Lo, S x37.To, S x37.Words, I x37.Life], .dead, .dead, .dead, .dead] rfl rfl rfl rfl rfl rfl ?_
                  refine go_ops hΓ 8 rfl ?_
                  obtain rfl := Option.some.inj h69
                  exact ⟨⟨rfl, rfl, rfl, get_eq rfl (w64_succ (Nat.lt_of_lt_of_le hlt hb41)), trivial⟩, [_, _, _, _, _], rfl, .inr ⟨HB.mk rfl, FB.mk rfl, (Nat.le_of_ble_eq_true rfl)⟩⟩
          · refine go hΓ 6 rfl ?_
            refine j_condF rfl (decide_eq_false (Int.lt_irrefl _)) ?_
            refine go hΓ 4 rfl ?_
            exact ⟨⟨rfl, trivial⟩, [], rfl, .inl rfl⟩
        · refine go hΓ 11 rfl ?_
          refine cv_kill 0 [.dead, .row 5 1 ([] : List Int).length (([] : List Int).flatMap (eN .u8)), mOb kS false (eN .i64) q38.1, .row 5 1 q38.2.length (q38.2.flatMap (eN .u8)), .box 155 [.sl 3 q38.2.length, .map 2], .dead] rfl (Nat.le_of_ble_eq_true rfl) ?_
          refine cv_move 3 0 [.row 5 1 q38.2.length (q38.2.flatMap (eN .u8)), .row 5 1 ([] : List Int).length (([] : List Int).flatMap (eN .u8)), mOb kS false (eN .i64) q38.1, .dead, .box 155 [.sl 0 q38.2.length, .map 2], .dead] rfl rfl rfl rfl rfl rfl ?_
          refine cv_here ?_
          obtain rfl := Option.some.inj h39
          exact fin_objs hΓ [_, _, _, _, _] (.inr rfl) rfl rfl rfl rfl (.inr ⟨HB.mk rfl, rfl⟩)
set_option maxHeartbeats 8000000 in
theorem c_lanemake_Stream_Bytes {s : T_lanemake_Stream} {b : List Int} {r : (List Int) × T_lanemake_Stream} (h : m_lanemake_Stream_Bytes s b = some r) : EC Tryz.prog 39 [.ptr 0 0, .d (Sl (eN .u8) b)] [.box 25 [.d (Sl (eN .i64) s.L), I s.v_at]] fun g hp' => g = .sl 1 r.1.length ∧ hp' = [.box 25 [.d (Sl (eN .i64) r.2.L), I r.2.v_at], .row 5 1 r.1.length (r.1.flatMap (eN .u8))] := by
  refine ec_enterC (Fr.of 0 _) Tryz.func39 rfl (Fr.of_ok _) (Nat.le_of_ble_eq_true rfl) fun _ => ?_
  refine go_in ?_
  unfold m_lanemake_Stream_Bytes at h
  refine go hΓ 2 rfl ?_
  refine eo_nilOwn (t := 0) 5 1 rfl (Nat.le_of_ble_eq_true rfl) ?_
  obtain ⟨y1, hy1, h2⟩ := bi_ok h
  refine go_ops hΓ 5 rfl ?_
  refine eo_s (Nat.le_of_ble_eq_true rfl) (nblt.1 rfl) (ops_appendNilT hΓ (enc := (eN .u8)) hy1 rfl rfl rfl rfl rfl rfl rfl (fun _ => rfl)) ?_
  obtain ⟨y3, hy3, h4⟩ := bi_ok h2
  refine go_ops hΓ 7 rfl ?_
  refine eo_callF [0] (I y3.1) [.box 25 [.d (Sl (eN .i64) y3.2.L), I y3.2.v_at], .row 5 1 ([] : List Int).length (([] : List Int).flatMap (eN .u8)), .row 5 1 y1.length (y1.flatMap (eN .u8))] (callable Tryz.func18 rfl rfl) (c_lanemake_Stream_Range hy3) rfl (Nat.le_of_ble_eq_true rfl) rfl rfl rfl rfl rfl rfl rfl rfl rfl rfl ?_
  refine go_ops hΓ 3 rfl ?_
  obtain ⟨q8, hq8, h9⟩ := bi_ok h4
  obtain ⟨hb11, h12⟩ := gd_ok hq8
  replace hb11 := of_decide_eq_true hb11
  refine j_cutEZ (R := fun a10 => q8 = .go a10) (fun a10 => [(5, .sl 2 a10.2.length)]) (fun a10 => [.box 25 [.d (Sl (eN .i64) a10.1.L), I a10.1.v_at], .row 5 1 ([] : List Int).length (([] : List Int).flatMap (eN .u8)), .row 5 1 a10.2.length (a10.2.flatMap (eN .u8))]) ?_ ?_
  · refine go hΓ 1 rfl ?_
    refine j_rangeI h12 (fun i5 s6 => [(0, .ptr 0 0), (5, .sl 2 s6.2.length), (10, I y3.1), (11, I (i5 : Int))]) (fun s6 => [.box 25 [.d (Sl (eN .i64) s6.1.L), I s6.1.v_at], .row 5 1 ([] : List Int).length (([] : List Int).flatMap (eN .u8)), .row 5 1 s6.2.length (s6.2.flatMap (eN .u8))]) ⟨⟨rfl, rfl, rfl, rfl, trivial⟩, [], rfl, .inl rfl⟩ (fun i5 s6 y16 hlt hy14 hout15 => ?_) (fun s6 hgo hge => ?_)
    · refine go hΓ 6 rfl ?_
      refine j_condT rfl (decide_eq_true hlt) ?_
      refine go hΓ 4 rfl ?_
      refine go hΓ 8 rfl ?_
      refine j_cond rfl (fun hb => ?_) (fun hb => ?_)
      · have h17 := cT hy14 hb
        obtain ⟨y18, hy18, h19⟩ := bi_ok h17
        refine go hΓ 4 rfl ?_
        refine eo_callF [0] (I y18.1) [.box 25 [.d (Sl (eN .i64) y18.2.L), I y18.2.v_at], .row 5 1 ([] : List Int).length (([] : List Int).flatMap (eN .u8)), .row 5 1 s6.2.length (s6.2.flatMap (eN .u8))] (callable Tryz.func14 rfl rfl) (c_lanemake_Stream_Next hy18) rfl (Nat.le_of_ble_eq_true rfl) rfl rfl rfl rfl rfl rfl rfl rfl rfl rfl ?_
        refine go_ops hΓ 1 rfl ?_
        refine eo_litT hΓ (enc := (eN .u8)) [IntKind.u8.wrap (y18.1)] rfl rfl rfl rfl rfl rfl rfl rfl rfl rfl rfl rfl (Nat.le_of_ble_eq_true rfl) ?_
        obtain ⟨y20, hy20, h21⟩ := bi_ok h19
        refine eo_appendT hΓ (enc := (eN .u8)) hy20 rfl rfl rfl rfl rfl rfl rfl rfl rfl (fun _ => rfl) rfl rfl rfl rfl ?_
        refine go_ops hΓ 7 rfl ?_
        obtain ⟨v22, hv22, h23⟩ := bi_ok h21
        obtain rfl := Option.some.inj h23
        obtain rfl := hout15 _ rfl
        obtain rfl := Option.some.inj h9
        refine go hΓ 4 rfl ?_
        refine cv_kill 1 [.box 25 [.d (Sl (eN .i64) y18.2.L), I y18.2.v_at], .dead, .row 5 1 y20.length (y20.flatMap (eN .u8))] rfl (Nat.le_of_ble_eq_true rfl) ?_
        refine cv_move 2 1 [.box 25 [.d (Sl (eN .i64) y18.2.L), I y18.2.v_at], .row 5 1 y20.length (y20.flatMap (eN .u8)), .dead] rfl rfl rfl rfl rfl rfl ?_
        refine cv_here ?_
        obtain rfl := Option.some.inj hv22
        exact fin_objs hΓ [_] (.inr rfl) rfl rfl rfl rfl (.inr ⟨HB.mk rfl, rfl⟩)
      · have h24 := cF hy14 hb
        obtain ⟨y25, hy25, h26⟩ := bi_ok h24
        refine go hΓ 7 rfl ?_
        refine eo_callF [0] (I y25.1) [.box 25 [.d (Sl (eN .i64) y25.2.L), I y25.2.v_at], .row 5 1 ([] : List Int).length (([] : List Int).flatMap (eN .u8)), .row 5 1 s6.2.length (s6.2.flatMap (eN .u8))] (callable Tryz.func14 rfl rfl) (c_lanemake_Stream_Next hy25) rfl (Nat.le_of_ble_eq_true rfl) rfl rfl rfl rfl rfl rfl rfl rfl rfl rfl ?_
        obtain ⟨y27, hy27, h28⟩ := bi_ok h26
        refine go_ops hΓ 6 rfl ?_
        refine eo_callF [0] (I y27.1) [.box 25 [.d (Sl (eN .i64) y27.2.L), I y27.2.v_at], .row 5 1 ([] : List Int).length (([] : List Int).flatMap (eN .u8)), .row 5 1 s6.2.length (s6.2.flatMap (eN .u8))] (callable Tryz.func14 rfl rfl) (c_lanemake_Stream_Next hy27) rfl (Nat.le_of_ble_eq_true rfl) rfl rfl rfl rfl rfl rfl rfl rfl rfl rfl ?_
        refine go_ops hΓ 3 rfl ?_
        refine go hΓ 6 rfl ?_
        refine j_cond rfl (fun hb => ?_) (fun hb => ?_)
        · have h29 := cT h28 hb
          refine j_drawE [] [] [7] [] hmix (by kernel_rfl) (by kernel_rfl) trivial (Nat.le_of_ble_eq_true rfl) ?_
          obtain ⟨z30, hz30, h31⟩ := bi_ok h29
          refine go_E hΓ 2 rfl ?_
          refine ge_q rfl (.inl rfl) (fun _ _ => qte_of_qt (qt_p (op_frontZ hΓ hz30 rfl rfl rfl rfl rfl rfl rfl))) ?_
          obtain ⟨z32, hz32, h33⟩ := bi_ok h31
          refine go_E hΓ 3 rfl ?_
          refine ge_q rfl (.inl rfl) (fun _ _ => qte_of_qt (qt_p (op_viewI hΓ hz32 rfl rfl rfl rfl rfl rfl))) ?_
          obtain ⟨y34, hy34, h35⟩ := bi_ok h33
          refine ge_h [.box 25 [.d (Sl (eN .i64) y27.2.L), I y27.2.v_at], .row 5 1 ([] : List Int).length (([] : List Int).flatMap (eN .u8)), .dead, .row 5 1 y34.length (y34.flatMap (eN .u8))] rfl rfl rfl (st_st trivial) (qte_s (ops_appendViewT hΓ (enc := (eN .u8)) (id := 2) hz30 hz32 hy34 rfl rfl (show Γ 5 = some ⟨_, 1, _, _⟩ from rfl) rfl rfl rfl rfl rfl rfl rfl rfl rfl rfl (fun _ => rfl))) ?_
          refine go_E hΓ 1 rfl ?_
          refine ge_fin ?_
          refine go hΓ 3 rfl ?_
          refine j_move 3 2 [.box 25 [.d (Sl (eN .i64) y27.2.L), I y27.2.v_at], .row 5 1 ([] : List Int).length (([] : List Int).flatMap (eN .u8)), .row 5 1 y34.length (y34.flatMap (eN .u8)), .dead] rfl rfl rfl rfl rfl rfl ?_
          refine go hΓ 4 rfl ?_
          obtain rfl := Option.some.inj h35
          exact ⟨_, rfl, ⟨⟨rfl, rfl, rfl, get_eq rfl (w64_succ (by omega)), trivial⟩, [_], rfl, .inr ⟨HB.mk rfl, FB.mk rfl, (Nat.le_of_ble_eq_true rfl)⟩⟩⟩
        · have h36 := cF h28 hb
          refine go hΓ 6 rfl ?_
          refine j_cond rfl (fun hb => ?_) (fun hb => ?_)
          · have h37 := cT h36 hb
            refine j_drawE [] [] [7] [] hmix (by kernel_rfl) (by kernel_rfl) trivial (Nat.le_of_ble_eq_true rfl) ?_
            obtain ⟨z38, hz38, h39⟩ := bi_ok h37
            refine go_E hΓ 3 rfl ?_
            refine ge_q rfl (.inl rfl) (fun _ _ => qte_of_qt (qt_p (op_frontZ hΓ hz38 rfl rfl rfl rfl rfl rfl rfl))) ?_
            obtain ⟨z40, hz40, h41⟩ := bi_ok h39
            refine go_E hΓ 2 rfl ?_
            refine ge_q rfl (.inl rfl) (fun _ _ => qte_of_qt (qt_p (op_viewI hΓ hz40 rfl rfl rfl rfl rfl rfl))) ?_
            obtain ⟨y42, hy42, h43⟩ := bi_ok h41
            refine ge_h [.box 25 [.d (Sl (eN .i64) y27.2.L), I y27.2.v_at], .row 5 1 ([] : List Int).length (([] : List Int).flatMap (eN .u8)), .dead, .row 5 1 y42.length (y42.flatMap (eN .u8))] rfl rfl rfl (st_st trivial) (qte_s (ops_appendViewT hΓ (enc := (eN .u8)) (id := 2) hz38 hz40 hy42 rfl rfl (show Γ 5 = some ⟨_, 1, _, _⟩ from rfl) rfl rfl rfl rfl rfl rfl rfl rfl rfl rfl (fun _ => rfl))) ?_
            refine go_E hΓ 1 rfl ?_
            refine ge_fin ?_
            refine go hΓ 3 rfl ?_
            refine j_move 3 2 [.box 25 [.d (Sl (eN .i64) y27.2.L), I y27.2.v_at], .row 5 1 ([] : List Int).length (([] : List Int).flatMap (eN .u8)), .row 5 1 y42.length (y42.flatMap (eN .u8)), .dead] rfl rfl rfl rfl rfl rfl ?_
            refine go hΓ 4 rfl ?_
            obtain rfl := Option.some.inj h43
            exact ⟨_, rfl, ⟨⟨rfl, rfl, rfl, get_eq rfl (w64_succ (by omega)), trivial⟩, [_], rfl, .inr ⟨HB.mk rfl, FB.mk rfl, (Nat.le_of_ble_eq_true rfl)⟩⟩⟩
          · have h44 := cF h36 hb
            refine go hΓ 6 rfl ?_
            refine j_cond rfl (fun hb => ?_) (fun hb => ?_)
            · have h45 := cT h44 hb
              obtain ⟨z46, hz46, h47⟩ := bi_ok h45
              refine go hΓ 3 rfl ?_
              refine eo_subRowZ hΓ (enc := (eN .u8)) hz46 rfl rfl rfl rfl rfl rfl rfl rfl (fun _ => rfl) rfl (Nat.le_of_ble_eq_true rfl) ?_
              refine go_ops hΓ 9 rfl ?_
              obtain rfl := Option.some.inj h47
              exact ⟨_, rfl, ⟨⟨rfl, rfl, rfl, get_eq rfl (w64_succ (by omega)), trivial⟩, [], rfl, .inl rfl⟩⟩
            · have h48 := cF h44 hb
              refine j_drawE [.dead, .dead, .row 5 1 s6.2.length (s6.2.flatMap (eN .u8))] [3] [5, 9] [9] hmix (by kernel_rfl) (by kernel_rfl) ⟨rfl, trivial⟩ (Nat.le_of_ble_eq_true rfl) ?_
              obtain ⟨x49, hx49, h50⟩ := bi_ok h48
              have hj51 := getZ_at hx49
              refine go_E hΓ 2 rfl ?_
              refine ge_q rfl (.inl rfl) (fun _ _ => qte_of_qt (qt_p (op_elemRowZ hΓ hx49 rfl rfl rfl rfl rfl rfl))) ?_
              refine ge_p rfl (fun hp hs => op_loadRowZ hΓ (enc := (eN .u8)) y25.1.toNat 0 hj51 rfl rfl rfl (hs 2 _ rfl rfl) (fun _ => rfl) (g := .d (.v (.int .u8 x49))) rfl) rfl ?_
              obtain ⟨y52, hy52, h53⟩ := bi_ok h50
              refine go_E hΓ 1 rfl ?_
              refine ge_h [.box 25 [.d (Sl (eN .i64) y52.2.L), I y52.2.v_at], .row 5 1 ([] : List Int).length (([] : List Int).flatMap (eN .u8)), .row 5 1 s6.2.length (s6.2.flatMap (eN .u8))] rfl rfl rfl (st_st ⟨rfl, trivial⟩) (qte_callF [0] (I y52.1) [.box 25 [.d (Sl (eN .i64) y52.2.L), I y52.2.v_at], .row 5 1 ([] : List Int).length (([] : List Int).flatMap (eN .u8)), .row 5 1 s6.2.length (s6.2.flatMap (eN .u8))] (callable Tryz.func14 rfl rfl) (c_lanemake_Stream_Next hy52) rfl rfl rfl rfl rfl rfl rfl rfl rfl rfl) ?_
              obtain ⟨y54, hy54, h55⟩ := bi_ok h53
              refine ge_q rfl (.inl rfl) (fun _ _ => qte_of_qt (qt_p (op_shlZ hy54 rfl rfl))) ?_
              obtain ⟨x56, hx56, h57⟩ := bi_ok h55
              have hj58 := getZ_at hx56
              refine go_E hΓ 1 rfl ?_
              refine ge_q rfl (.inl rfl) (fun _ _ => qte_of_qt (qt_p (op_elemRowZ hΓ hx56 rfl rfl rfl rfl rfl rfl))) ?_
              refine ge_h0 [.box 25 [.d (Sl (eN .i64) y52.2.L), I y52.2.v_at], .row 5 1 ([] : List Int).length (([] : List Int).flatMap (eN .u8)), .row 5 1 (s6.2.set y25.1.toNat (bitsV .xor .u8 x49 y54)).length ((s6.2.set y25.1.toNat (bitsV .xor .u8 x49 y54)).flatMap (eN .u8))] rfl rfl (brk_st rfl) (qte_u (opu_setRowZ hΓ (enc := (eN .u8)) (z' := bitsV .xor .u8 x49 y54) y25.1.toNat (by have := (List.getElem?_eq_some_iff.1 hj58).1; simpa using this) rfl rfl rfl rfl (fun _ => rfl) rfl rfl rfl rfl rfl)) ?_
              refine ge_fin ?_
              refine go hΓ 3 rfl ?_
              refine j_relen 5 (n' := (s6.2.set y25.1.toNat (bitsV .xor .u8 x49 y54)).length) rfl (by simp) ?_
              refine j_relen 13 (n' := (s6.2.set y25.1.toNat (bitsV .xor .u8 x49 y54)).length) rfl (by simp) ?_
              refine j_relen 23 (n' := (s6.2.set y25.1.toNat (bitsV .xor .u8 x49 y54)).length) rfl (by simp) ?_
              refine j_relen 28 (n' := (s6.2.set y25.1.toNat (bitsV .xor .u8 x49 y54)).length) rfl (by simp) ?_
              refine go hΓ 4 rfl ?_
              obtain rfl := Option.some.inj h57
              exact ⟨_, rfl, ⟨⟨rfl, rfl, rfl, get_eq rfl (w64_succ (by omega)), trivial⟩, [], rfl, .inl rfl⟩⟩
    · subst hgo
      refine go hΓ 6 rfl ?_
      refine j_condF rfl (decide_eq_false hge) ?_
      refine go hΓ 4 rfl ?_
      exact ⟨_, rfl, ⟨⟨rfl, trivial⟩, [], rfl, .inl rfl⟩⟩
  · intro a10 ha
    subst ha
    replace h9 := goI_l h9
    refine go hΓ 8 rfl ?_
    refine cv_kill 1 [.box 25 [.d (Sl (eN .i64) a10.1.L), I a10.1.v_at], .dead, .row 5 1 a10.2.length (a10.2.flatMap (eN .u8))] rfl (Nat.le_of_ble_eq_true rfl) ?_
    refine cv_move 2 1 [.box 25 [.d (Sl (eN .i64) a10.1.L), I a10.1.v_at], .row 5 1 a10.2.length (a10.2.flatMap (eN .u8)), .dead] rfl rfl rfl rfl rfl rfl ?_
    refine cv_here ?_
    obtain rfl := Option.some.inj h9
    exact fin_objs hΓ [_] (.inr rfl) rfl rfl rfl rfl (.inr ⟨HB.mk rfl, rfl⟩)
theorem c_slices_Index_byte_byte {s : List Int} {v : Int} {r : Int} (h : m_slices_Index_byte_byte s v = some r) : Pure Tryz.prog 40 [.d (Sl (eN .u8) s), .d (.v (.int .u8 v))] (I r) := by
  refine Pure.enter (Fr.of 0 _) Tryz.func40 rfl (Fr.of_ok _) rfl rfl ?_
  refine go_in ?_
  unfold m_slices_Index_byte_byte at h
  refine go hΓ 13 rfl ?_
  obtain ⟨q4, hq4, h5⟩ := bi_ok h
  refine j_bound 0 rfl fun hb7 => ?_
  refine j_cutEZ (R := fun a6 => q4 = .go a6) (fun a6 => []) (fun a6 => []) ?_ ?_
  · refine go hΓ 1 rfl ?_
    refine j_range s hq4 (fun i1 s2 => [(0, .d (Sl (eN .u8) s)), (1, .d (.v (.int .u8 v))), (7, I (s.length : Int)), (8, I (i1 : Int))]) (fun s2 => []) ⟨⟨rfl, rfl, rfl, rfl, trivial⟩, [], rfl, .inl rfl⟩ (fun i1 x3 s2 y11 hx8 hlt hy9 hout10 => ?_) (fun s2 hgo => ?_)
    · refine go hΓ 6 rfl ?_
      refine j_condT rfl (decide_eq_true (Int.ofNat_lt.2 hlt)) ?_
      refine go hΓ 15 rfl ?_
      refine eo_o rfl (op_elemZ hΓ (enc := (eN .u8)) (getZ_nat hx8) rfl rfl rfl rfl rfl (fun _ => rfl)) ?_
      refine go_ops hΓ 4 rfl ?_
      refine j_cond rfl (fun hb => ?_) (fun hb => ?_)
      · have h12 := cT hy9 hb
        refine go hΓ 9 rfl ?_
        obtain ⟨v13, hv13, h14⟩ := bi_ok h12
        obtain rfl := Option.some.inj h14
        obtain rfl := hout10 _ rfl
        obtain rfl := Option.some.inj h5
        refine go hΓ 4 rfl ?_
        obtain rfl := Option.some.inj hv13
        exact fin_pure hΓ (.inr rfl) rfl rfl
      · have h15 := cF hy9 hb
        refine go hΓ 7 rfl ?_
        obtain rfl := Option.some.inj h15
        exact ⟨_, rfl, ⟨⟨rfl, rfl, rfl, get_eq rfl (w64_succ (Nat.lt_of_lt_of_le hlt hb7)), trivial⟩, [], rfl, .inl rfl⟩⟩
    · subst hgo
      refine go hΓ 6 rfl ?_
      refine j_condF rfl (decide_eq_false (Int.lt_irrefl _)) ?_
      refine go hΓ 4 rfl ?_
      exact ⟨_, rfl, ⟨trivial, [], rfl, .inl rfl⟩⟩
  · intro a6 ha
    subst ha
    replace h5 := goI_l h5
    refine go hΓ 7 rfl ?_
    obtain rfl := Option.some.inj h5
    exact fin_pure hΓ (.inr rfl) rfl rfl
theorem c_slices_Clone_byte_byte {s : List Int} {r : List Int} (h : m_slices_Clone_byte_byte s = some r) : EC Tryz.prog 41 [.d (Sl (eN .u8) s)] [] fun g hp' => g = .sl 0 r.length ∧ hp' = [.row 5 1 r.length (r.flatMap (eN .u8))] := by
  refine ec_enterC (Fr.of 0 _) Tryz.func41 rfl (Fr.of_ok _) (Nat.le_of_ble_eq_true rfl) fun _ => ?_
  refine go_in ?_
  unfold m_slices_Clone_byte_byte at h
  refine go hΓ 2 rfl ?_
  refine eo_nilOwn (t := 0) 5 1 rfl (Nat.le_of_ble_eq_true rfl) ?_
  refine go_ops hΓ 6 rfl ?_
  refine eo_isNil hΓ rfl rfl rfl rfl rfl fun b hbn => ?_
  rcases b with _ | _
  · refine go_ops hΓ 7 rfl ?_
    refine eo_litRowT hΓ (enc := (eN .u8)) ([] : List Int) rfl rfl rfl rfl rfl rfl rfl rfl rfl rfl rfl rfl (Nat.le_of_ble_eq_true rfl) ?_
    obtain ⟨y1, hy1, h2⟩ := bi_ok h
    refine go_ops hΓ 1 rfl ?_
    refine eo_appendT hΓ (enc := (eN .u8)) hy1 rfl rfl rfl rfl rfl rfl rfl rfl rfl (fun _ => rfl) rfl rfl rfl rfl ?_
    refine go_ops hΓ 3 rfl ?_
    refine j_kill 0 [.dead, .row 5 1 y1.length (y1.flatMap (eN .u8))] rfl (Nat.le_of_ble_eq_true rfl) ?_
    refine j_move 1 0 [.row 5 1 y1.length (y1.flatMap (eN .u8)), .dead] rfl rfl rfl rfl rfl rfl ?_
    refine go hΓ 1 rfl ?_
    refine cv_here ?_
    obtain rfl := Option.some.inj h2
    exact fin_objs hΓ [_] (.inr rfl) rfl rfl rfl rfl (.inr ⟨HB.mk rfl, rfl⟩)
  · obtain rfl := List.eq_nil_of_length_eq_zero (hbn rfl).1
    replace h : (some ([] : List Int) : Option (List Int)) = some r := h
    refine go_ops hΓ 5 rfl ?_
    refine eo_nilOwn (t := 0) 5 1 rfl (Nat.le_of_ble_eq_true rfl) ?_
    refine go_ops hΓ 4 rfl ?_
    refine cv_kill 0 [.dead, .row 5 1 ([] : List Int).length (([] : List Int).flatMap (eN .u8))] rfl (Nat.le_of_ble_eq_true rfl) ?_
    refine cv_move 1 0 [.row 5 1 ([] : List Int).length (([] : List Int).flatMap (eN .u8)), .dead] rfl rfl rfl rfl rfl rfl ?_
    refine cv_here ?_
    obtain rfl := Option.some.inj h
    exact fin_objs hΓ [_] (.inr rfl) rfl rfl rfl rfl (.inr ⟨HB.mk rfl, rfl⟩)
set_option maxHeartbeats 8000000 in
theorem c_lanemake_Stream_MessageRow {k : Nat} {s : T_lanemake_Stream} {r : (List Int) × T_lanemake_Stream} (h : m_lanemake_Stream_MessageRow k s = some r) : EC Tryz.prog 6 [.ptr 0 0] [.box 25 [.d (Sl (eN .i64) s.L), I s.v_at]] fun g hp' => g = .sl 1 r.1.length ∧ hp' = [.box 25 [.d (Sl (eN .i64) r.2.L), I r.2.v_at], .row 5 1 r.1.length (r.1.flatMap (eN .u8))] := by
  refine ec_enterC (Fr.of 0 _) Tryz.func6 rfl (Fr.of_ok _) (Nat.le_of_ble_eq_true rfl) fun _ => ?_
  refine go_in ?_
  unfold m_lanemake_Stream_MessageRow at h
  obtain ⟨y1, hy1, h2⟩ := bi_ok h
  refine go hΓ 8 rfl ?_
  refine eo_callF [0] (.agg [I y1.1.Id, B y1.1.Reply, I y1.1.Code, .d (Sl e_api_Question y1.1.Asked), .d (Sl e_api_Record y1.1.Got)]) [.box 25 [.d (Sl (eN .i64) y1.2.L), I y1.2.v_at]] (callable Tryz.func36 rfl rfl) (c_lanemake_Stream_Message hy1) rfl (Nat.le_of_ble_eq_true rfl) rfl rfl rfl rfl rfl rfl rfl rfl rfl rfl ?_
  refine eo_alloc hΓ rfl rfl rfl (Nat.le_of_ble_eq_true rfl) ?_
  refine eo_store hΓ rfl rfl rfl rfl rfl rfl rfl rfl (Nat.le_of_ble_eq_true rfl) ?_
  refine eo_hp [.box 25 [.d (Sl (eN .i64) y1.2.L), I y1.2.v_at], .box 31 [I y1.1.Id, B y1.1.Reply, I y1.1.Code, .d (Sl e_api_Question y1.1.Asked), .d (Sl e_api_Record y1.1.Got)]] rfl ?_
  refine go_ops hΓ 4 rfl ?_
  refine eo_litRowT hΓ (enc := (eN .u8)) [1, 2, 128, 0, 1, 1, 1, 97, 1, 120, 0, 1, 1, 98, 192, 6, 5, 0, 0, 0, 3, 192, 6] rfl rfl rfl rfl rfl rfl rfl rfl rfl rfl rfl rfl (Nat.le_of_ble_eq_true rfl) ?_
  obtain ⟨y3, hy3, h4⟩ := bi_ok h2
  refine go_ops hΓ 7 rfl ?_
  refine eo_callP (callable Tryz.func37 rfl rfl) (c_laneref1_MessageFault hy3) rfl (Nat.le_of_ble_eq_true rfl) rfl rfl rfl rfl rfl ?_
  obtain ⟨q5, hq5, h6⟩ := bi_ok h4
  refine go_ops hΓ 3 rfl ?_
  refine j_cutNC [(0, .ptr 0 0), (4, .sl 2 q5.length)] [.box 25 [.d (Sl (eN .i64) y1.2.L), I y1.2.v_at], .box 31 [I y1.1.Id, B y1.1.Reply, I y1.1.Code, .d (Sl e_api_Question y1.1.Asked), .d (Sl e_api_Record y1.1.Got)], .row 5 1 q5.length (q5.flatMap (eN .u8))] ?_ ?_
  · refine j_cond rfl (fun hb => ?_) (fun hb => ?_)
    · have h7 := cT hq5 hb
      obtain ⟨y8, hy8, h9⟩ := bi_ok h7
      refine go hΓ 2 rfl ?_
      refine eo_callF [] (.sl 3 y8.length) [.box 25 [.d (Sl (eN .i64) y1.2.L), I y1.2.v_at], .box 31 [I y1.1.Id, B y1.1.Reply, I y1.1.Code, .d (Sl e_api_Question y1.1.Asked), .d (Sl e_api_Record y1.1.Got)], .row 5 1 [1, 2, 128, 0, 1, 1, 1, 97, 1, 120, 0, 1, 1, 98, 192, 6, 5, 0, 0, 0, 3, 192, 6].length ([1, 2, 128, 0, 1, 1, 1, 97, 1, 120, 0, 1, 1, 98, 192, 6, 5, 0, 0, 0, 3, 192, 6].flatMap (eN .u8)), .row 5 1 y8.length (y8.flatMap (eN .u8))] (callable Tryz.func38 rfl rfl) (c_laneref1_MessageBytes hy8) rfl (Nat.le_of_ble_eq_true rfl) rfl rfl rfl rfl rfl rfl rfl rfl rfl rfl ?_
      refine go_ops hΓ 2 rfl ?_
      refine cv_kill 2 [.box 25 [.d (Sl (eN .i64) y1.2.L), I y1.2.v_at], .box 31 [I y1.1.Id, B y1.1.Reply, I y1.1.Code, .d (Sl e_api_Question y1.1.Asked), .d (Sl e_api_Record y1.1.Got)], .dead, .row 5 1 y8.length (y8.flatMap (eN .u8))] rfl (Nat.le_of_ble_eq_true rfl) ?_
      refine cv_move 3 2 [.box 25 [.d (Sl (eN .i64) y1.2.L), I y1.2.v_at], .box 31 [I y1.1.Id, B y1.1.Reply, I y1.1.Code, .d (Sl e_api_Question y1.1.Asked), .d (Sl e_api_Record y1.1.Got)], .row 5 1 y8.length (y8.flatMap (eN .u8)), .dead] rfl rfl rfl rfl rfl rfl ?_
      refine cv_here ?_
      obtain rfl := Option.some.inj h9
      exact ⟨⟨rfl, rfl, trivial⟩, [_], rfl, .inr ⟨HB.mk rfl, FB.mk rfl, (Nat.le_of_ble_eq_true rfl)⟩⟩
    · have h10 := cF hq5 hb
      refine go hΓ 1 rfl ?_
      refine cv_here ?_
      obtain rfl := Option.some.inj h10
      exact ⟨⟨rfl, rfl, trivial⟩, [], rfl, .inl rfl⟩
  · obtain ⟨y11, hy11, h12⟩ := bi_ok h6
    refine go hΓ 5 rfl ?_
    refine eo_callF [0] (B y11.1) [.box 25 [.d (Sl (eN .i64) y11.2.L), I y11.2.v_at], .box 31 [I y1.1.Id, B y1.1.Reply, I y1.1.Code, .d (Sl e_api_Question y1.1.Asked), .d (Sl e_api_Record y1.1.Got)], .row 5 1 q5.length (q5.flatMap (eN .u8))] (callable Tryz.func15 rfl rfl) (c_lanemake_Stream_Flip hy11) rfl (Nat.le_of_ble_eq_true rfl) rfl rfl rfl rfl rfl rfl rfl rfl rfl rfl ?_
    obtain ⟨q13, hq13, h14⟩ := bi_ok h12
    refine go_ops hΓ 2 rfl ?_
    refine j_cutNZ [(0, .ptr 0 0), (4, .sl 2 q13.2.length)] [.box 25 [.d (Sl (eN .i64) q13.1.L), I q13.1.v_at], .box 31 [I y1.1.Id, B y1.1.Reply, I y1.1.Code, .d (Sl e_api_Question y1.1.Asked), .d (Sl e_api_Record y1.1.Got)], .row 5 1 q13.2.length (q13.2.flatMap (eN .u8))] ?_ ?_
    · refine j_cond rfl (fun hb => ?_) (fun hb => ?_)
      · have h15 := cT hq13 hb
        refine go hΓ 3 rfl ?_
        refine eo_shr 2 [4, 17] _ [.box 25 [.d (Sl (eN .i64) y11.2.L), I y11.2.v_at], .box 31 [I y1.1.Id, B y1.1.Reply, I y1.1.Code, .d (Sl e_api_Question y1.1.Asked), .d (Sl e_api_Record y1.1.Got)], .dead] rfl rfl rfl (Nat.le_of_ble_eq_true rfl) ?_
        obtain ⟨y16, hy16, h17⟩ := bi_ok h15
        refine eo_callF [0] (.sl 3 y16.1.length) [.box 25 [.d (Sl (eN .i64) y16.2.L), I y16.2.v_at], .box 31 [I y1.1.Id, B y1.1.Reply, I y1.1.Code, .d (Sl e_api_Question y1.1.Asked), .d (Sl e_api_Record y1.1.Got)], .dead, .row 5 1 y16.1.length (y16.1.flatMap (eN .u8))] (callable Tryz.func39 rfl rfl) (c_lanemake_Stream_Bytes hy16) rfl (Nat.le_of_ble_eq_true rfl) rfl rfl rfl rfl rfl rfl rfl rfl rfl rfl ?_
        refine go_ops hΓ 1 rfl ?_
        refine eo_move 3 2 [.box 25 [.d (Sl (eN .i64) y16.2.L), I y16.2.v_at], .box 31 [I y1.1.Id, B y1.1.Reply, I y1.1.Code, .d (Sl e_api_Question y1.1.Asked), .d (Sl e_api_Record y1.1.Got)], .row 5 1 y16.1.length (y16.1.flatMap (eN .u8)), .dead] rfl rfl rfl rfl rfl rfl ?_
        refine go_ops hΓ 1 rfl ?_
        obtain rfl := Option.some.inj h17
        exact ⟨⟨rfl, rfl, trivial⟩, [_], rfl, .inr ⟨HB.mk rfl, FB.mk rfl, (Nat.le_of_ble_eq_true rfl)⟩⟩
      · have h18 := cF hq13 hb
        refine go hΓ 1 rfl ?_
        obtain rfl := Option.some.inj h18
        exact ⟨⟨rfl, rfl, trivial⟩, [], rfl, .inl rfl⟩
    · obtain ⟨y19, hy19, h20⟩ := bi_ok h14
      refine go hΓ 5 rfl ?_
      refine eo_callL (callable Tryz.func40 rfl rfl) (c_slices_Index_byte_byte hy19) rfl (Nat.le_of_ble_eq_true rfl) rfl rfl rfl rfl rfl ?_
      refine go_ops hΓ 8 rfl ?_
      refine o_cut 6 [(0, .ptr 0 0), (4, .sl 2 q13.2.length), (5, I y19), (29, B ((decide ((y19 : Int) ≥ 0)) && (decide ((wi (y19 + 1) : Int) < (q13.2.length : Int)))))] [.box 25 [.d (Sl (eN .i64) q13.1.L), I q13.1.v_at], .box 31 [I y1.1.Id, B y1.1.Reply, I y1.1.Code, .d (Sl e_api_Question y1.1.Asked), .d (Sl e_api_Record y1.1.Got)], .row 5 1 q13.2.length (q13.2.flatMap (eN .u8))] ?_ ?_
      · refine eo_gsplit rfl rfl (fun hb => ?_) (fun hb => ?_)
        · refine go_ops hΓ 7 rfl ?_
          exact ⟨⟨rfl, rfl, rfl, get_b rfl (and_t hb), trivial⟩, [], rfl, .inl rfl⟩
        · refine go_ops hΓ 7 rfl ?_
          exact ⟨⟨rfl, rfl, rfl, get_b rfl (and_f hb), trivial⟩, [], rfl, .inl rfl⟩
      · refine go_ops hΓ 1 rfl ?_
        obtain ⟨q21, hq21, h22⟩ := bi_ok h20
        refine o_cut 3 [(0, .ptr 0 0), (4, .sl 2 q13.2.length), (5, I y19), (33, B q21.2)] [.box 25 [.d (Sl (eN .i64) q21.1.L), I q21.1.v_at], .box 31 [I y1.1.Id, B y1.1.Reply, I y1.1.Code, .d (Sl e_api_Question y1.1.Asked), .d (Sl e_api_Record y1.1.Got)], .row 5 1 q13.2.length (q13.2.flatMap (eN .u8))] ?_ ?_
        · refine eo_gsplit rfl rfl (fun hb => ?_) (fun hb => ?_)
          · have h23 := cT hq21 hb
            obtain ⟨y24, hy24, h25⟩ := bi_ok h23
            refine go_ops hΓ 1 rfl ?_
            refine eo_guard rfl ?_
            refine eo_callF [0] (B y24.1) [.box 25 [.d (Sl (eN .i64) y24.2.L), I y24.2.v_at], .box 31 [I y1.1.Id, B y1.1.Reply, I y1.1.Code, .d (Sl e_api_Question y1.1.Asked), .d (Sl e_api_Record y1.1.Got)], .row 5 1 q13.2.length (q13.2.flatMap (eN .u8))] (callable Tryz.func15 rfl rfl) (c_lanemake_Stream_Flip hy24) rfl (Nat.le_of_ble_eq_true rfl) rfl rfl rfl rfl rfl rfl rfl rfl rfl rfl ?_
            refine go_ops hΓ 2 rfl ?_
            obtain rfl := Option.some.inj h25
            exact ⟨⟨rfl, rfl, rfl, rfl, trivial⟩, [], rfl, .inl rfl⟩
          · have h26 := cF hq21 hb
            refine go_ops hΓ 4 rfl ?_
            obtain rfl := Option.some.inj h26
            exact ⟨⟨rfl, rfl, rfl, rfl, trivial⟩, [], rfl, .inl rfl⟩
        · obtain ⟨q27, hq27, h28⟩ := bi_ok h22
          refine go_ops hΓ 2 rfl ?_
          refine j_cutNZ [(4, .sl 2 q27.2.length)] [.box 25 [.d (Sl (eN .i64) q27.1.L), I q27.1.v_at], .box 31 [I y1.1.Id, B y1.1.Reply, I y1.1.Code, .d (Sl e_api_Question y1.1.Asked), .d (Sl e_api_Record y1.1.Got)], .row 5 1 q27.2.length (q27.2.flatMap (eN .u8))] ?_ ?_
          · refine j_cond rfl (fun hb => ?_) (fun hb => ?_)
            · have h29 := cT hq27 hb
              refine go hΓ 3 rfl ?_
              refine eo_shr 2 [4, 34] _ [.box 25 [.d (Sl (eN .i64) q21.1.L), I q21.1.v_at], .box 31 [I y1.1.Id, B y1.1.Reply, I y1.1.Code, .d (Sl e_api_Question y1.1.Asked), .d (Sl e_api_Record y1.1.Got)], .dead] rfl rfl rfl (Nat.le_of_ble_eq_true rfl) ?_
              obtain ⟨y30, hy30, h31⟩ := bi_ok h29
              refine eo_callF [] (.sl 3 y30.length) [.box 25 [.d (Sl (eN .i64) q21.1.L), I q21.1.v_at], .box 31 [I y1.1.Id, B y1.1.Reply, I y1.1.Code, .d (Sl e_api_Question y1.1.Asked), .d (Sl e_api_Record y1.1.Got)], .dead, .row 5 1 y30.length (y30.flatMap (eN .u8))] (callable Tryz.func41 rfl rfl) (c_slices_Clone_byte_byte hy30) rfl (Nat.le_of_ble_eq_true rfl) rfl rfl rfl rfl rfl rfl rfl rfl rfl rfl ?_
              refine go_ops hΓ 1 rfl ?_
              refine eo_move 3 2 [.box 25 [.d (Sl (eN .i64) q21.1.L), I q21.1.v_at], .box 31 [I y1.1.Id, B y1.1.Reply, I y1.1.Code, .d (Sl e_api_Question y1.1.Asked), .d (Sl e_api_Record y1.1.Got)], .row 5 1 y30.length (y30.flatMap (eN .u8)), .dead] rfl rfl rfl rfl rfl rfl ?_
              refine go_ops hΓ 12 rfl ?_
              refine eo_litT hΓ (enc := (eN .i64)) [0, 5, 6, 7, 8, y19, wi (y19 - 1), wi (y19 + 2)] rfl rfl rfl rfl rfl rfl rfl rfl rfl rfl rfl rfl (Nat.le_of_ble_eq_true rfl) ?_
              obtain ⟨y32, hy32, h33⟩ := bi_ok h31
              refine eo_callF [0] (I y32.1) [.box 25 [.d (Sl (eN .i64) y32.2.L), I y32.2.v_at], .box 31 [I y1.1.Id, B y1.1.Reply, I y1.1.Code, .d (Sl e_api_Question y1.1.Asked), .d (Sl e_api_Record y1.1.Got)], .row 5 1 y30.length (y30.flatMap (eN .u8)), .dead] (callable Tryz.func11 rfl rfl) (c_lanemake_Stream_Pick hy32) rfl (Nat.le_of_ble_eq_true rfl) rfl rfl rfl rfl rfl rfl rfl rfl rfl rfl ?_
              obtain ⟨x34, hx34, h35⟩ := bi_ok h33
              have hj36 := getZ_at hx34
              refine go_ops hΓ 1 rfl ?_
              refine eo_o rfl (op_elemRowZ hΓ hx34 rfl rfl rfl rfl rfl rfl) ?_
              refine eo_storeRowZ hΓ (enc := (eN .u8)) (z' := IntKind.u8.wrap (y32.1)) ((wi (y19 + 1)).toNat) 0 hj36 rfl rfl rfl rfl (fun _ => rfl) rfl rfl rfl rfl rfl rfl (Nat.le_of_ble_eq_true rfl) ?_
              refine eo_hp [.box 25 [.d (Sl (eN .i64) y32.2.L), I y32.2.v_at], .box 31 [I y1.1.Id, B y1.1.Reply, I y1.1.Code, .d (Sl e_api_Question y1.1.Asked), .d (Sl e_api_Record y1.1.Got)], .row 5 1 (y30.set ((wi (y19 + 1)).toNat) (IntKind.u8.wrap (y32.1))).length ((y30.set ((wi (y19 + 1)).toNat) (IntKind.u8.wrap (y32.1))).flatMap (eN .u8)), .dead] rfl ?_
              refine eo_relen 4 (n' := (y30.set ((wi (y19 + 1)).toNat) (IntKind.u8.wrap (y32.1))).length) rfl List.length_set.symm ?_
              refine go_ops hΓ 1 rfl ?_
              obtain rfl := Option.some.inj h35
              exact ⟨⟨rfl, trivial⟩, [_], rfl, .inr ⟨HB.mk rfl, FB.mk rfl, (Nat.le_of_ble_eq_true rfl)⟩⟩
            · have h37 := cF hq27 hb
              refine go hΓ 1 rfl ?_
              obtain rfl := Option.some.inj h37
              exact ⟨⟨rfl, trivial⟩, [], rfl, .inl rfl⟩
          · refine go hΓ 8 rfl ?_
            refine cv_kill 1 [.box 25 [.d (Sl (eN .i64) q27.1.L), I q27.1.v_at], .dead, .row 5 1 q27.2.length (q27.2.flatMap (eN .u8))] rfl (Nat.le_of_ble_eq_true rfl) ?_
            refine cv_move 2 1 [.box 25 [.d (Sl (eN .i64) q27.1.L), I q27.1.v_at], .row 5 1 q27.2.length (q27.2.flatMap (eN .u8)), .dead] rfl rfl rfl rfl rfl rfl ?_
            refine cv_here ?_
            obtain rfl := Option.some.inj h28
            exact fin_objs hΓ [_] (.inr rfl) rfl rfl rfl rfl (.inr ⟨HB.mk rfl, rfl⟩)
theorem c_name_decoder_take {x : T_name_decoder} {n : Int} {r : (List Int) × T_name_decoder} (h : m_name_decoder_take x n = some r) : EC Tryz.prog 114 [.ptr 0 0, I n] [.box 79 [.d (Sl (eN .u8) x.b), I x.v_at, B x.bad]] fun g hp' => g = .d (Sl (eN .u8) r.1) ∧ hp' = [.box 79 [.d (Sl (eN .u8) r.2.b), I r.2.v_at, B r.2.bad]] := by
  refine ec_enter (Fr.of 0 _) Tryz.func114 rfl (Fr.of_ok _) (Nat.le_of_ble_eq_true rfl) fun _ => ?_
  refine go_in ?_
  unfold m_name_decoder_take at h
  obtain ⟨q1, hq1, h2⟩ := bi_ok h
  refine go hΓ 7 rfl ?_
  refine j_cutNZ [(0, .ptr 0 0), (1, I n), (22, B q1)] [.box 79 [.d (Sl (eN .u8) x.b), I x.v_at, B x.bad]] ?_ ?_
  · refine j_draw hmix (by kernel_rfl) ?_
    refine go hΓ 5 rfl ?_
    refine gl_gsplit rfl rfl (fun hb => ?_) (fun hb => ?_)
    · have h3 := cT hq1 hb
      refine go_draw hΓ 14 rfl ?_
      obtain rfl := Option.some.inj h3
      exact ⟨⟨rfl, rfl, rfl, trivial⟩, [], rfl, .inl rfl⟩
    · have h4 := cF hq1 hb
      refine go_draw hΓ 14 rfl ?_
      obtain rfl := Option.some.inj h4
      exact ⟨⟨rfl, rfl, rfl, trivial⟩, [], rfl, .inl rfl⟩
  · refine go hΓ 1 rfl ?_
    refine j_cond rfl (fun hb => ?_) (fun hb => ?_)
    · have h5 := cT h2 hb
      refine go hΓ 5 rfl ?_
      refine eo_store hΓ rfl rfl rfl rfl rfl rfl rfl rfl (Nat.le_of_ble_eq_true rfl) ?_
      refine eo_hp [.box 79 [.d (Sl (eN .u8) x.b), I x.v_at, B true]] rfl ?_
      obtain ⟨y6, hy6, h7⟩ := bi_ok h5
      refine go_ops hΓ 5 rfl ?_
      refine eo_makeZ hΓ (enc := (eN .u8)) hy6 rfl rfl rfl rfl rfl rfl rfl rfl rfl rfl rfl (Nat.le_of_ble_eq_true rfl) ?_
      refine go_ops hΓ 1 rfl ?_
      refine eo_shr 1 [4, 27] _ [.box 79 [.d (Sl (eN .u8) x.b), I x.v_at, B true], .dead] rfl rfl rfl (Nat.le_of_ble_eq_true rfl) ?_
      refine go_ops hΓ 4 rfl ?_
      obtain rfl := Option.some.inj h7
      exact fin_objs hΓ [_] (.inr rfl) rfl rfl rfl rfl (.inr ⟨HB.mk rfl, rfl⟩)
    · have h8 := cF h2 hb
      refine go hΓ 12 rfl ?_
      refine eo_store hΓ rfl rfl rfl rfl rfl rfl rfl rfl (Nat.le_of_ble_eq_true rfl) ?_
      refine eo_hp [.box 79 [.d (Sl (eN .u8) x.b), I (wi (x.v_at + n)), B x.bad]] rfl ?_
      refine go_ops hΓ 3 rfl ?_
      refine j_draw hmix (by kernel_rfl) ?_
      obtain ⟨z9, hz9, h10⟩ := bi_ok h8
      refine go hΓ 14 rfl ?_
      refine gl_o rfl (op_subRoZ hΓ (enc := (eN .u8)) hz9 rfl rfl rfl rfl rfl rfl (fun _ => rfl)) ?_
      refine go_draw hΓ 4 rfl ?_
      obtain rfl := Option.some.inj h10
      exact fin_objs hΓ [] (.inr rfl) rfl rfl rfl rfl (.inl rfl)
theorem c_name_decoder_number {x : T_name_decoder} {n : Int} {r : Int × T_name_decoder} (h : m_name_decoder_number x n = some r) : EC Tryz.prog 42 [.ptr 0 0, I n] [.box 79 [.d (Sl (eN .u8) x.b), I x.v_at, B x.bad]] fun g hp' => g = U r.1 ∧ hp' = [.box 79 [.d (Sl (eN .u8) r.2.b), I r.2.v_at, B r.2.bad]] := by
  refine ec_enter (Fr.of 0 _) Tryz.func42 rfl (Fr.of_ok _) (Nat.le_of_ble_eq_true rfl) fun _ => ?_
  refine go_in ?_
  unfold m_name_decoder_number at h
  obtain ⟨y1, hy1, h2⟩ := bi_ok h
  refine go hΓ 15 rfl ?_
  refine eo_callF [0] (.d (Sl (eN .u8) y1.1)) [.box 79 [.d (Sl (eN .u8) y1.2.b), I y1.2.v_at, B y1.2.bad]] (callable Tryz.func114 rfl rfl) (c_name_decoder_take hy1) rfl (Nat.le_of_ble_eq_true rfl) rfl rfl rfl rfl rfl rfl rfl rfl rfl rfl ?_
  refine go_ops hΓ 4 rfl ?_
  obtain ⟨q6, hq6, h7⟩ := bi_ok h2
  refine j_bound 10 rfl fun hb9 => ?_
  refine j_cutNZ [(5, U q6)] [.box 79 [.d (Sl (eN .u8) y1.2.b), I y1.2.v_at, B y1.2.bad]] ?_ ?_
  · refine go hΓ 1 rfl ?_
    refine j_rangeF y1.1 hq6 (fun i3 s4 => [(5, U s4), (10, .d (Sl (eN .u8) y1.1)), (11, I (y1.1.length : Int)), (12, I (i3 : Int))]) (fun s4 => [.box 79 [.d (Sl (eN .u8) y1.2.b), I y1.2.v_at, B y1.2.bad]]) ⟨⟨rfl, rfl, rfl, rfl, trivial⟩, [], rfl, .inl rfl⟩ (fun i3 x5 s4 y13 hx10 hlt hy11 => ?_) (?_)
    · refine go hΓ 6 rfl ?_
      refine j_condT rfl (decide_eq_true (Int.ofNat_lt.2 hlt)) ?_
      refine go hΓ 6 rfl ?_
      refine eo_o rfl (op_elemZ hΓ (enc := (eN .u8)) (getZ_nat hx10) rfl rfl rfl rfl rfl (fun _ => rfl)) ?_
      refine go_ops hΓ 18 rfl ?_
      obtain rfl := Option.some.inj hy11
      exact ⟨⟨rfl, rfl, rfl, get_eq rfl (w64_succ (Nat.lt_of_lt_of_le hlt hb9)), trivial⟩, [], rfl, .inl rfl⟩
    · refine go hΓ 6 rfl ?_
      refine j_condF rfl (decide_eq_false (Int.lt_irrefl _)) ?_
      refine go hΓ 4 rfl ?_
      exact ⟨⟨rfl, trivial⟩, [], rfl, .inl rfl⟩
  · refine go hΓ 8 rfl ?_
    obtain rfl := Option.some.inj h7
    exact fin_objs hΓ [] (.inr rfl) rfl rfl rfl rfl (.inl rfl)
set_option maxHeartbeats 8000000 in
theorem c_name_decoder_name {k : Nat} {x : T_name_decoder} {r : Str × T_name_decoder} (h : m_name_decoder_name k x = some r) : EC Tryz.prog 43 [.ptr 0 0] [.box 79 [.d (Sl (eN .u8) x.b), I x.v_at, B x.bad]] fun g hp' => g = S r.1 ∧ hp' = [.box 79 [.d (Sl (eN .u8) r.2.b), I r.2.v_at, B r.2.bad]] := by
  refine ec_enter (Fr.of 0 _) Tryz.func43 rfl (Fr.of_ok _) (Nat.le_of_ble_eq_true rfl) fun _ => ?_
  refine go_in ?_
  unfold m_name_decoder_name at h
  refine go hΓ 7 rfl ?_
  refine eo_nilOwn (t := 0) 9 1 rfl (Nat.le_of_ble_eq_true rfl) ?_
  refine go_ops hΓ 13 rfl ?_
  obtain ⟨q4, hq4, h5⟩ := bi_ok h
  refine j_cutNZ [(0, .ptr 0 0), (3, .sl 1 q4.2.1.length), (5, I q4.2.2)] [.box 79 [.d (Sl (eN .u8) q4.1.b), I q4.1.v_at, B q4.1.bad], .row 9 1 q4.2.1.length (q4.2.1.flatMap eS)] ?_ ?_
  · refine go hΓ 1 rfl ?_
    refine j_loop hq4 (fun s2 => [(0, .ptr 0 0), (3, .sl 1 s2.2.1.length), (4, I s2.2.2.1), (5, I s2.2.2.2)]) (fun s2 => [.box 79 [.d (Sl (eN .u8) s2.1.b), I s2.1.v_at, B s2.1.bad], .row 9 1 s2.2.1.length (s2.2.1.flatMap eS)]) ⟨⟨rfl, rfl, rfl, rfl, trivial⟩, [], rfl, .inl rfl⟩ (fun s2 y10 hy8 hout9 => ?_)
    refine go hΓ 10 rfl ?_
    refine j_cond rfl (fun hb => ?_) (fun hb => ?_)
    · have h11 := cT hy8 hb
      obtain ⟨y12, hy12, h13⟩ := bi_ok h11
      refine go hΓ 15 rfl ?_
      refine eo_callF [0] (U y12.1) [.box 79 [.d (Sl (eN .u8) y12.2.b), I y12.2.v_at, B y12.2.bad], .row 9 1 s2.2.1.length (s2.2.1.flatMap eS)] (callable Tryz.func42 rfl rfl) (c_name_decoder_number hy12) rfl (Nat.le_of_ble_eq_true rfl) rfl rfl rfl rfl rfl rfl rfl rfl rfl rfl ?_
      refine go_ops hΓ 11 rfl ?_
      refine j_cond rfl (fun hb => ?_) (fun hb => ?_)
      · have h14 := cT h13 hb
        refine go hΓ 5 rfl ?_
        obtain rfl := Option.some.inj h14
        obtain rfl := hout9 _ rfl
        exact ⟨⟨rfl, rfl, rfl, trivial⟩, [], rfl, .inl rfl⟩
      · have h15 := cF h13 hb
        refine go hΓ 9 rfl ?_
        refine j_cond rfl (fun hb => ?_) (fun hb => ?_)
        · have h16 := cT h15 hb
          obtain ⟨q17, hq17, h18⟩ := bi_ok h16
          refine go hΓ 7 rfl ?_
          refine j_cutNZ [(0, .ptr 0 0), (3, .sl 1 s2.2.1.length), (4, I s2.2.2.1), (5, I s2.2.2.2), (7, I (wi (y12.1)))] [.box 79 [.d (Sl (eN .u8) y12.2.b), I y12.2.v_at, B q17], .row 9 1 s2.2.1.length (s2.2.1.flatMap eS)] ?_ ?_
          · refine j_cond rfl (fun hb => ?_) (fun hb => ?_)
            · have h19 := cT hq17 hb
              refine go hΓ 4 rfl ?_
              refine eo_store hΓ rfl rfl rfl rfl rfl rfl rfl rfl (Nat.le_of_ble_eq_true rfl) ?_
              refine eo_hp [.box 79 [.d (Sl (eN .u8) y12.2.b), I y12.2.v_at, B true], .row 9 1 s2.2.1.length (s2.2.1.flatMap eS)] rfl ?_
              refine go_ops hΓ 1 rfl ?_
              obtain rfl := Option.some.inj h19
              exact ⟨⟨rfl, rfl, rfl, rfl, rfl, trivial⟩, [], rfl, .inl rfl⟩
            · have h20 := cF hq17 hb
              refine go hΓ 1 rfl ?_
              obtain rfl := Option.some.inj h20
              exact ⟨⟨rfl, rfl, rfl, rfl, rfl, trivial⟩, [], rfl, .inl rfl⟩
          · obtain ⟨y21, hy21, h22⟩ := bi_ok h18
            refine go hΓ 6 rfl ?_
            refine eo_callF [0] (.d (Sl (eN .u8) y21.1)) [.box 79 [.d (Sl (eN .u8) y21.2.b), I y21.2.v_at, B y21.2.bad], .row 9 1 s2.2.1.length (s2.2.1.flatMap eS)] (callable Tryz.func114 rfl rfl) (c_name_decoder_take hy21) rfl (Nat.le_of_ble_eq_true rfl) rfl rfl rfl rfl rfl rfl rfl rfl rfl rfl ?_
            obtain ⟨y23, hy23, h24⟩ := bi_ok h22
            refine eo_o rfl (op_strD hΓ hy23 rfl rfl rfl rfl rfl rfl rfl) ?_
            refine eo_litT hΓ (enc := eS) [y23] rfl rfl rfl rfl rfl rfl rfl rfl rfl rfl rfl rfl (Nat.le_of_ble_eq_true rfl) ?_
            obtain ⟨y25, hy25, h26⟩ := bi_ok h24
            refine eo_appendT hΓ (enc := eS) hy25 rfl rfl rfl rfl rfl rfl rfl rfl rfl (fun _ => rfl) rfl rfl rfl rfl ?_
            refine go_ops hΓ 6 rfl ?_
            obtain rfl := Option.some.inj h26
            exact ⟨_, rfl, ⟨⟨rfl, rfl, rfl, rfl, trivial⟩, [], rfl, .inl rfl⟩⟩
        · have h27 := cF h15 hb
          refine go hΓ 8 rfl ?_
          refine eo_store hΓ rfl rfl rfl rfl rfl rfl rfl rfl (Nat.le_of_ble_eq_true rfl) ?_
          refine eo_hp [.box 79 [.d (Sl (eN .u8) y12.2.b), I s2.1.v_at, B y12.2.bad], .row 9 1 s2.2.1.length (s2.2.1.flatMap eS)] rfl ?_
          obtain ⟨y28, hy28, h29⟩ := bi_ok h27
          refine go_ops hΓ 5 rfl ?_
          refine eo_callF [0] (U y28.1) [.box 79 [.d (Sl (eN .u8) y28.2.b), I y28.2.v_at, B y28.2.bad], .row 9 1 s2.2.1.length (s2.2.1.flatMap eS)] (callable Tryz.func42 rfl rfl) (c_name_decoder_number hy28) rfl (Nat.le_of_ble_eq_true rfl) rfl rfl rfl rfl rfl rfl rfl rfl rfl rfl ?_
          obtain ⟨q30, hq30, h31⟩ := bi_ok h29
          refine go_ops hΓ 13 rfl ?_
          refine j_cutNZ [(0, .ptr 0 0), (3, .sl 1 s2.2.1.length), (5, I s2.2.2.2), (8, I (wi ((wi (y28.1)) - 49152)))] [.box 79 [.d (Sl (eN .u8) y28.2.b), I y28.2.v_at, B q30], .row 9 1 s2.2.1.length (s2.2.1.flatMap eS)] ?_ ?_
          · refine j_cond rfl (fun hb => ?_) (fun hb => ?_)
            · have h32 := cT hq30 hb
              refine go hΓ 4 rfl ?_
              refine eo_store hΓ rfl rfl rfl rfl rfl rfl rfl rfl (Nat.le_of_ble_eq_true rfl) ?_
              refine eo_hp [.box 79 [.d (Sl (eN .u8) y28.2.b), I y28.2.v_at, B true], .row 9 1 s2.2.1.length (s2.2.1.flatMap eS)] rfl ?_
              refine go_ops hΓ 1 rfl ?_
              obtain rfl := Option.some.inj h32
              exact ⟨⟨rfl, rfl, rfl, rfl, trivial⟩, [], rfl, .inl rfl⟩
            · have h33 := cF hq30 hb
              refine go hΓ 1 rfl ?_
              obtain rfl := Option.some.inj h33
              exact ⟨⟨rfl, rfl, rfl, rfl, trivial⟩, [], rfl, .inl rfl⟩
          · obtain ⟨q34, hq34, h35⟩ := bi_ok h31
            refine go hΓ 8 rfl ?_
            refine j_cutNZ [(0, .ptr 0 0), (3, .sl 1 s2.2.1.length), (5, I q34), (8, I (wi ((wi (y28.1)) - 49152)))] [.box 79 [.d (Sl (eN .u8) y28.2.b), I y28.2.v_at, B q30], .row 9 1 s2.2.1.length (s2.2.1.flatMap eS)] ?_ ?_
            · refine j_cond rfl (fun hb => ?_) (fun hb => ?_)
              · have h36 := cT hq34 hb
                refine go hΓ 7 rfl ?_
                obtain rfl := Option.some.inj h36
                exact ⟨⟨rfl, rfl, rfl, rfl, trivial⟩, [], rfl, .inl rfl⟩
              · have h37 := cF hq34 hb
                refine go hΓ 1 rfl ?_
                obtain rfl := Option.some.inj h37
                exact ⟨⟨rfl, rfl, rfl, rfl, trivial⟩, [], rfl, .inl rfl⟩
            · refine go hΓ 7 rfl ?_
              refine eo_store hΓ rfl rfl rfl rfl rfl rfl rfl rfl (Nat.le_of_ble_eq_true rfl) ?_
              refine eo_hp [.box 79 [.d (Sl (eN .u8) y28.2.b), I (wi ((wi (y28.1)) - 49152)), B q30], .row 9 1 s2.2.1.length (s2.2.1.flatMap eS)] rfl ?_
              refine go_ops hΓ 3 rfl ?_
              obtain rfl := Option.some.inj h35
              exact ⟨_, rfl, ⟨⟨rfl, rfl, rfl, rfl, trivial⟩, [], rfl, .inl rfl⟩⟩
    · have h38 := cF hy8 hb
      refine go hΓ 4 rfl ?_
      obtain rfl := Option.some.inj h38
      obtain rfl := hout9 _ rfl
      exact ⟨⟨rfl, rfl, rfl, trivial⟩, [], rfl, .inl rfl⟩
  · obtain ⟨q39, hq39, h40⟩ := bi_ok h5
    refine go hΓ 8 rfl ?_
    refine j_cutNZ [(3, .sl 1 q4.2.1.length)] [.box 79 [.d (Sl (eN .u8) q4.1.b), I q39, B q4.1.bad], .row 9 1 q4.2.1.length (q4.2.1.flatMap eS)] ?_ ?_
    · refine j_cond rfl (fun hb => ?_) (fun hb => ?_)
      · have h41 := cT hq39 hb
        refine go hΓ 5 rfl ?_
        refine eo_store hΓ rfl rfl rfl rfl rfl rfl rfl rfl (Nat.le_of_ble_eq_true rfl) ?_
        refine eo_hp [.box 79 [.d (Sl (eN .u8) q4.1.b), I q4.2.2, B q4.1.bad], .row 9 1 q4.2.1.length (q4.2.1.flatMap eS)] rfl ?_
        refine go_ops hΓ 1 rfl ?_
        obtain rfl := Option.some.inj h41
        exact ⟨⟨rfl, trivial⟩, [], rfl, .inl rfl⟩
      · have h42 := cF hq39 hb
        refine go hΓ 1 rfl ?_
        obtain rfl := Option.some.inj h42
        exact ⟨⟨rfl, trivial⟩, [], rfl, .inl rfl⟩
    · obtain ⟨y43, hy43, h44⟩ := bi_ok h40
      refine go hΓ 4 rfl ?_
      refine eo_callL (callable Tryz.func115 rfl rfl) (c_strings_Join hy43) rfl (Nat.le_of_ble_eq_true rfl) rfl rfl rfl rfl rfl ?_
      refine go_ops hΓ 4 rfl ?_
      obtain rfl := Option.some.inj h44
      exact fin_objs hΓ [_] (.inr rfl) rfl rfl rfl rfl (.inr ⟨HB.mk rfl, rfl⟩)
set_option maxHeartbeats 8000000 in
theorem c_name_decoder_record {k : Nat} {x : T_name_decoder} {r : T_api_Record × T_name_decoder} (h : m_name_decoder_record k x = some r) : EC Tryz.prog 44 [.ptr 0 0] [.box 79 [.d (Sl (eN .u8) x.b), I x.v_at, B x.bad]] fun g hp' => g = .agg [S r.1.Name, I r.1.Kind, B r.1.Addr.Six, U r.1.Addr.Hi, U r.1.Addr.Lo, S r.1.To, S r.1.Words, I r.1.Life] ∧ hp' = [.box 79 [.d (Sl (eN .u8) r.2.b), I r.2.v_at, B r.2.bad]] := by
  refine ec_enter (Fr.of 0 _) Tryz.func44 rfl (Fr.of_ok _) (Nat.le_of_ble_eq_true rfl) fun _ => ?_
  refine go_in ?_
  unfold m_name_decoder_record at h
  refine go hΓ 2 rfl ?_
  refine eo_alloc hΓ rfl rfl rfl (Nat.le_of_ble_eq_true rfl) ?_
  obtain ⟨y1, hy1, h2⟩ := bi_ok h
  refine go_ops hΓ 5 rfl ?_
  refine eo_callF [0] (S y1.1) [.box 79 [.d (Sl (eN .u8) y1.2.b), I y1.2.v_at, B y1.2.bad], .box 57 [S [], I 0, B false, U 0, U 0, S [], S [], I 0]] (callable Tryz.func43 rfl rfl) (c_name_decoder_name hy1) rfl (Nat.le_of_ble_eq_true rfl) rfl rfl rfl rfl rfl rfl rfl rfl rfl rfl ?_
  refine eo_build hΓ (gs := [S y1.1, I 0, B false, U 0, U 0, S [], S [], I 0]) rfl rfl rfl rfl rfl rfl rfl ?_
  refine eo_alloc hΓ rfl rfl rfl (Nat.le_of_ble_eq_true rfl) ?_
  refine eo_store hΓ rfl rfl rfl rfl rfl rfl rfl rfl (Nat.le_of_ble_eq_true rfl) ?_
  refine eo_hp [.box 79 [.d (Sl (eN .u8) y1.2.b), I y1.2.v_at, B y1.2.bad], .box 57 [S [], I 0, B false, U 0, U 0, S [], S [], I 0], .box 57 [S y1.1, I 0, B false, U 0, U 0, S [], S [], I 0]] rfl ?_
  obtain ⟨y3, hy3, h4⟩ := bi_ok h2
  refine go_ops hΓ 5 rfl ?_
  refine eo_callF [0] (U y3.1) [.box 79 [.d (Sl (eN .u8) y3.2.b), I y3.2.v_at, B y3.2.bad], .box 57 [S [], I 0, B false, U 0, U 0, S [], S [], I 0], .box 57 [S y1.1, I 0, B false, U 0, U 0, S [], S [], I 0]] (callable Tryz.func42 rfl rfl) (c_name_decoder_number hy3) rfl (Nat.le_of_ble_eq_true rfl) rfl rfl rfl rfl rfl rfl rfl rfl rfl rfl ?_
  refine go_ops hΓ 2 rfl ?_
  refine eo_store hΓ rfl rfl rfl rfl rfl rfl rfl rfl (Nat.le_of_ble_eq_true rfl) ?_
  refine eo_hp [.box 79 [.d (Sl (eN .u8) y3.2.b), I y3.2.v_at, B y3.2.bad], .box 57 [S [], I 0, B false, U 0, U 0, S [], S [], I 0], .box 57 [S y1.1, I (wi (y3.1)), B false, U 0, U 0, S [], S [], I 0]] rfl ?_
  obtain ⟨y5, hy5, h6⟩ := bi_ok h4
  refine go_ops hΓ 5 rfl ?_
  refine eo_callF [0] (U y5.1) [.box 79 [.d (Sl (eN .u8) y5.2.b), I y5.2.v_at, B y5.2.bad], .box 57 [S [], I 0, B false, U 0, U 0, S [], S [], I 0], .box 57 [S y1.1, I (wi (y3.1)), B false, U 0, U 0, S [], S [], I 0]] (callable Tryz.func42 rfl rfl) (c_name_decoder_number hy5) rfl (Nat.le_of_ble_eq_true rfl) rfl rfl rfl rfl rfl rfl rfl rfl rfl rfl ?_
  refine go_ops hΓ 2 rfl ?_
  refine eo_store hΓ rfl rfl rfl rfl rfl rfl rfl rfl (Nat.le_of_ble_eq_true rfl) ?_
  refine eo_hp [.box 79 [.d (Sl (eN .u8) y5.2.b), I y5.2.v_at, B y5.2.bad], .box 57 [S [], I 0, B false, U 0, U 0, S [], S [], I 0], .box 57 [S y1.1, I (wi (y3.1)), B false, U 0, U 0, S [], S [], I (wi (y5.1))]] rfl ?_
  obtain ⟨q7, hq7, h8⟩ := bi_ok h6
  refine go_ops hΓ 9 rfl ?_
  refine j_cutNZ [(2, .ptr 1 0), (3, .ptr 2 0)] [.box 79 [.d (Sl (eN .u8) q7.1.b), I q7.1.v_at, B q7.1.bad], .box 57 [S [], I 0, B false, U 0, U 0, S [], S [], I 0], .box 57 [S q7.2.Name, I q7.2.Kind, B q7.2.Addr.Six, U q7.2.Addr.Hi, U q7.2.Addr.Lo, S q7.2.To, S q7.2.Words, I q7.2.Life]] ?_ ?_
  · refine go hΓ 7 rfl ?_
    refine j_cond rfl (fun hb => ?_) (fun hb => ?_)
    · have h9 := cT hq7 hb
      obtain ⟨y10, hy10, h11⟩ := bi_ok h9
      refine go hΓ 2 rfl ?_
      refine eo_callF [0] (U y10.1) [.box 79 [.d (Sl (eN .u8) y10.2.b), I y10.2.v_at, B y10.2.bad], .box 57 [S [], I 0, B false, U 0, U 0, S [], S [], I 0], .box 57 [S y1.1, I (wi (y3.1)), B false, U 0, U 0, S [], S [], I (wi (y5.1))]] (callable Tryz.func42 rfl rfl) (c_name_decoder_number hy10) rfl (Nat.le_of_ble_eq_true rfl) rfl rfl rfl rfl rfl rfl rfl rfl rfl rfl ?_
      refine go_ops hΓ 2 rfl ?_
      refine eo_store hΓ rfl rfl rfl rfl rfl rfl rfl rfl (Nat.le_of_ble_eq_true rfl) ?_
      refine eo_hp [.box 79 [.d (Sl (eN .u8) y10.2.b), I y10.2.v_at, B y10.2.bad], .box 57 [S [], I 0, B false, U 0, U 0, S [], S [], I 0], .box 57 [S y1.1, I (wi (y3.1)), B false, U 0, U y10.1, S [], S [], I (wi (y5.1))]] rfl ?_
      refine go_ops hΓ 2 rfl ?_
      obtain rfl := Option.some.inj h11
      exact ⟨⟨rfl, rfl, trivial⟩, [], rfl, .inl rfl⟩
    · have h12 := cF hq7 hb
      refine go hΓ 6 rfl ?_
      refine j_cond rfl (fun hb => ?_) (fun hb => ?_)
      · have h13 := cT h12 hb
        refine go hΓ 4 rfl ?_
        refine eo_store hΓ rfl rfl rfl rfl rfl rfl rfl rfl (Nat.le_of_ble_eq_true rfl) ?_
        refine eo_hp [.box 79 [.d (Sl (eN .u8) y5.2.b), I y5.2.v_at, B y5.2.bad], .box 57 [S [], I 0, B false, U 0, U 0, S [], S [], I 0], .box 57 [S y1.1, I (wi (y3.1)), B true, U 0, U 0, S [], S [], I (wi (y5.1))]] rfl ?_
        obtain ⟨y14, hy14, h15⟩ := bi_ok h13
        refine go_ops hΓ 5 rfl ?_
        refine eo_callF [0] (U y14.1) [.box 79 [.d (Sl (eN .u8) y14.2.b), I y14.2.v_at, B y14.2.bad], .box 57 [S [], I 0, B false, U 0, U 0, S [], S [], I 0], .box 57 [S y1.1, I (wi (y3.1)), B true, U 0, U 0, S [], S [], I (wi (y5.1))]] (callable Tryz.func42 rfl rfl) (c_name_decoder_number hy14) rfl (Nat.le_of_ble_eq_true rfl) rfl rfl rfl rfl rfl rfl rfl rfl rfl rfl ?_
        refine go_ops hΓ 2 rfl ?_
        refine eo_store hΓ rfl rfl rfl rfl rfl rfl rfl rfl (Nat.le_of_ble_eq_true rfl) ?_
        refine eo_hp [.box 79 [.d (Sl (eN .u8) y14.2.b), I y14.2.v_at, B y14.2.bad], .box 57 [S [], I 0, B false, U 0, U 0, S [], S [], I 0], .box 57 [S y1.1, I (wi (y3.1)), B true, U y14.1, U 0, S [], S [], I (wi (y5.1))]] rfl ?_
        obtain ⟨y16, hy16, h17⟩ := bi_ok h15
        refine go_ops hΓ 4 rfl ?_
        refine eo_callF [0] (U y16.1) [.box 79 [.d (Sl (eN .u8) y16.2.b), I y16.2.v_at, B y16.2.bad], .box 57 [S [], I 0, B false, U 0, U 0, S [], S [], I 0], .box 57 [S y1.1, I (wi (y3.1)), B true, U y14.1, U 0, S [], S [], I (wi (y5.1))]] (callable Tryz.func42 rfl rfl) (c_name_decoder_number hy16) rfl (Nat.le_of_ble_eq_true rfl) rfl rfl rfl rfl rfl rfl rfl rfl rfl rfl ?_
        refine go_ops hΓ 2 rfl ?_
        refine eo_store hΓ rfl rfl rfl rfl rfl rfl rfl rfl (Nat.le_of_ble_eq_true rfl) ?_
        refine eo_hp [.box 79 [.d (Sl (eN .u8) y16.2.b), I y16.2.v_at, B y16.2.bad], .box 57 [S [], I 0, B false, U 0, U 0, S [], S [], I 0], .box 57 [S y1.1, I (wi (y3.1)), B true, U y14.1, U y16.1, S [], S [], I (wi (y5.1))]] rfl ?_
        refine go_ops hΓ 2 rfl ?_
        obtain rfl := Option.some.inj h17
        exact ⟨⟨rfl, rfl, trivial⟩, [], rfl, .inl rfl⟩
      · have h18 := cF h12 hb
        refine go hΓ 6 rfl ?_
        refine j_cond rfl (fun hb => ?_) (fun hb => ?_)
        · have h19 := cT h18 hb
          obtain ⟨y20, hy20, h21⟩ := bi_ok h19
          refine go hΓ 3 rfl ?_
          refine eo_callF [0] (U y20.1) [.box 79 [.d (Sl (eN .u8) y20.2.b), I y20.2.v_at, B y20.2.bad], .box 57 [S [], I 0, B false, U 0, U 0, S [], S [], I 0], .box 57 [S y1.1, I (wi (y3.1)), B false, U 0, U 0, S [], S [], I (wi (y5.1))]] (callable Tryz.func42 rfl rfl) (c_name_decoder_number hy20) rfl (Nat.le_of_ble_eq_true rfl) rfl rfl rfl rfl rfl rfl rfl rfl rfl rfl ?_
          obtain ⟨y22, hy22, h23⟩ := bi_ok h21
          refine go_ops hΓ 7 rfl ?_
          refine eo_callF [0] (.d (Sl (eN .u8) y22.1)) [.box 79 [.d (Sl (eN .u8) y22.2.b), I y22.2.v_at, B y22.2.bad], .box 57 [S [], I 0, B false, U 0, U 0, S [], S [], I 0], .box 57 [S y1.1, I (wi (y3.1)), B false, U 0, U 0, S [], S [], I (wi (y5.1))]] (callable Tryz.func114 rfl rfl) (c_name_decoder_take hy22) rfl (Nat.le_of_ble_eq_true rfl) rfl rfl rfl rfl rfl rfl rfl rfl rfl rfl ?_
          obtain ⟨y24, hy24, h25⟩ := bi_ok h23
          refine eo_o rfl (op_strD hΓ hy24 rfl rfl rfl rfl rfl rfl rfl) ?_
          refine go_ops hΓ 1 rfl ?_
          refine eo_store hΓ rfl rfl rfl rfl rfl rfl rfl rfl (Nat.le_of_ble_eq_true rfl) ?_
          refine eo_hp [.box 79 [.d (Sl (eN .u8) y22.2.b), I y22.2.v_at, B y22.2.bad], .box 57 [S [], I 0, B false, U 0, U 0, S [], S [], I 0], .box 57 [S y1.1, I (wi (y3.1)), B false, U 0, U 0, S [], S y24, I (wi (y5.1))]] rfl ?_
          refine go_ops hΓ 2 rfl ?_
          obtain rfl := Option.some.inj h25
          exact ⟨⟨rfl, rfl, trivial⟩, [], rfl, .inl rfl⟩
        · have h26 := cF h18 hb
          obtain ⟨q27, hq27, h28⟩ := bi_ok h26
          refine go hΓ 7 rfl ?_
          refine j_cutNZ [(0, .ptr 0 0), (2, .ptr 1 0), (3, .ptr 2 0), (49, B q27)] [.box 79 [.d (Sl (eN .u8) y5.2.b), I y5.2.v_at, B y5.2.bad], .box 57 [S [], I 0, B false, U 0, U 0, S [], S [], I 0], .box 57 [S y1.1, I (wi (y3.1)), B false, U 0, U 0, S [], S [], I (wi (y5.1))]] ?_ ?_
          · refine j_cond rfl (fun hb => ?_) (fun hb => ?_)
            · have h29 := cT hq27 hb
              refine go hΓ 1 rfl ?_
              obtain rfl := Option.some.inj h29
              exact ⟨⟨rfl, rfl, rfl, rfl, trivial⟩, [], rfl, .inl rfl⟩
            · have h30 := cF hq27 hb
              refine go hΓ 4 rfl ?_
              obtain rfl := Option.some.inj h30
              exact ⟨⟨rfl, rfl, rfl, rfl, trivial⟩, [], rfl, .inl rfl⟩
          · refine go hΓ 1 rfl ?_
            refine j_cond rfl (fun hb => ?_) (fun hb => ?_)
            · have h31 := cT h28 hb
              obtain ⟨y32, hy32, h33⟩ := bi_ok h31
              refine go hΓ 2 rfl ?_
              refine eo_callF [0] (S y32.1) [.box 79 [.d (Sl (eN .u8) y32.2.b), I y32.2.v_at, B y32.2.bad], .box 57 [S [], I 0, B false, U 0, U 0, S [], S [], I 0], .box 57 [S y1.1, I (wi (y3.1)), B false, U 0, U 0, S [], S [], I (wi (y5.1))]] (callable Tryz.func43 rfl rfl) (c_name_decoder_name hy32) rfl (Nat.le_of_ble_eq_true rfl) rfl rfl rfl rfl rfl rfl rfl rfl rfl rfl ?_
              refine go_ops hΓ 1 rfl ?_
              refine eo_store hΓ rfl rfl rfl rfl rfl rfl rfl rfl (Nat.le_of_ble_eq_true rfl) ?_
              refine eo_hp [.box 79 [.d (Sl (eN .u8) y32.2.b), I y32.2.v_at, B y32.2.bad], .box 57 [S [], I 0, B false, U 0, U 0, S [], S [], I 0], .box 57 [S y1.1, I (wi (y3.1)), B false, U 0, U 0, S y32.1, S [], I (wi (y5.1))]] rfl ?_
              refine go_ops hΓ 2 rfl ?_
              obtain rfl := Option.some.inj h33
              exact ⟨⟨rfl, rfl, trivial⟩, [], rfl, .inl rfl⟩
            · have h34 := cF h28 hb
              refine go hΓ 4 rfl ?_
              refine eo_store hΓ rfl rfl rfl rfl rfl rfl rfl rfl (Nat.le_of_ble_eq_true rfl) ?_
              refine eo_hp [.box 79 [.d (Sl (eN .u8) y5.2.b), I y5.2.v_at, B true], .box 57 [S [], I 0, B false, U 0, U 0, S [], S [], I 0], .box 57 [S y1.1, I (wi (y3.1)), B false, U 0, U 0, S [], S [], I (wi (y5.1))]] rfl ?_
              refine go_ops hΓ 2 rfl ?_
              obtain rfl := Option.some.inj h34
              exact ⟨⟨rfl, rfl, trivial⟩, [], rfl, .inl rfl⟩
  · refine go hΓ 4 rfl ?_
    refine eo_store hΓ rfl rfl rfl rfl rfl rfl rfl rfl (Nat.le_of_ble_eq_true rfl) ?_
    refine eo_hp [.box 79 [.d (Sl (eN .u8) q7.1.b), I q7.1.v_at, B q7.1.bad], .box 57 [S q7.2.Name, I q7.2.Kind, B q7.2.Addr.Six, U q7.2.Addr.Hi, U q7.2.Addr.Lo, S q7.2.To, S q7.2.Words, I q7.2.Life], .box 57 [S q7.2.Name, I q7.2.Kind, B q7.2.Addr.Six, U q7.2.Addr.Hi, U q7.2.Addr.Lo, S q7.2.To, S q7.2.Words, I q7.2.Life]] rfl ?_
    refine go_ops hΓ 3 rfl ?_
    obtain rfl := Option.some.inj h8
    exact fin_objs hΓ [_, _] (.inr rfl) rfl rfl rfl rfl (.inr ⟨HB.mk rfl, rfl⟩)
theorem c_kit_Outside {n : Int} {low : Int} {high : Int} {r : Bool} (h : m_kit_Outside n low high = some r) : Pure Tryz.prog 54 [I n, I low, I high] (B r) := by
  refine Pure.enter (Fr.of 0 _) Tryz.func54 rfl (Fr.of_ok _) rfl rfl ?_
  refine go_in ?_
  unfold m_kit_Outside at h
  refine go hΓ 11 rfl ?_
  refine o_cut 4 [(6, B false), (14, B ((decide ((n : Int) < low)) || (decide ((n : Int) > high))))] [] ?_ ?_
  · refine eo_gsplit rfl rfl (fun hb => ?_) (fun hb => ?_)
    · refine go_ops hΓ 5 rfl ?_
      exact ⟨⟨rfl, get_b rfl (or_t hb), trivial⟩, [], rfl, .inl rfl⟩
    · refine go_ops hΓ 5 rfl ?_
      exact ⟨⟨rfl, get_b rfl (or_f hb), trivial⟩, [], rfl, .inl rfl⟩
  · refine go_ops hΓ 4 rfl ?_
    obtain rfl := Option.some.inj h
    exact fin_pure hΓ (.inr rfl) rfl rfl
theorem c_name_isLetter {c : Int} {r : Bool} (h : m_name_isLetter c = some r) : Pure Tryz.prog 121 [.d (.v (.int .u8 c))] (B r) := by
  refine Pure.enter (Fr.of 0 _) Tryz.func121 rfl (Fr.of_ok _) rfl rfl ?_
  refine go_in ?_
  unfold m_name_isLetter at h
  refine go hΓ 10 rfl ?_
  refine o_cut 3 [(0, .d (.v (.int .u8 c))), (2, B false), (8, B ((decide ((c : Int) ≥ 97)) && (decide ((c : Int) ≤ 122))))] [] ?_ ?_
  · refine eo_gsplit rfl rfl (fun hb => ?_) (fun hb => ?_)
    · refine go_ops hΓ 4 rfl ?_
      exact ⟨⟨rfl, rfl, get_b rfl (and_t hb), trivial⟩, [], rfl, .inl rfl⟩
    · refine go_ops hΓ 4 rfl ?_
      exact ⟨⟨rfl, rfl, get_b rfl (and_f hb), trivial⟩, [], rfl, .inl rfl⟩
  · refine go_ops hΓ 1 rfl ?_
    refine o_cut 7 [(2, B false), (16, B (((decide ((c : Int) ≥ 97)) && (decide ((c : Int) ≤ 122))) || ((decide ((c : Int) ≥ 48)) && (decide ((c : Int) ≤ 57)))))] [] ?_ ?_
    · refine eo_gsplit rfl rfl (fun hb => ?_) (fun hb => ?_)
      · refine go_ops hΓ 8 rfl ?_
        exact ⟨⟨rfl, get_b rfl (or_t hb), trivial⟩, [], rfl, .inl rfl⟩
      · refine go_ops hΓ 3 rfl ?_
        refine o_cut 3 [(2, B false), (9, B false), (15, B ((decide ((c : Int) ≥ 48)) && (decide ((c : Int) ≤ 57))))] [] ?_ ?_
        · refine eo_gsplit rfl rfl (fun hb => ?_) (fun hb => ?_)
          · refine go_ops hΓ 4 rfl ?_
            exact ⟨⟨rfl, rfl, get_b rfl (and_t hb), trivial⟩, [], rfl, .inl rfl⟩
          · refine go_ops hΓ 4 rfl ?_
            exact ⟨⟨rfl, rfl, get_b rfl (and_f hb), trivial⟩, [], rfl, .inl rfl⟩
        · refine go_ops hΓ 2 rfl ?_
          exact ⟨⟨rfl, get_b rfl (or_f hb), trivial⟩, [], rfl, .inl rfl⟩
    · refine go_ops hΓ 4 rfl ?_
      obtain rfl := Option.some.inj h
      exact fin_pure hΓ (.inr rfl) rfl rfl
theorem c_name_isLabel {k : Nat} {s : Str} {r : Bool} (h : m_name_isLabel k s = some r) : Pure Tryz.prog 124 [S s] (B r) := by
  induction k generalizing s r with
  | zero => unfold m_name_isLabel at h; cases h
  | succ k ih0 =>
    have ih : ∀ {s : Str} {r : Bool}, m_name_isLabel k s = some r → Pure Tryz.prog 124 [S s] (B r) := by intro s r h; first | exact ih0 h | exact ih0 _ _ h
    refine Pure.enter (Fr.of 0 _) Tryz.func124 rfl (Fr.of_ok _) rfl rfl ?_
    refine go_in ?_
    unfold m_name_isLabel at h
    obtain ⟨y1, hy1, h2⟩ := bi_ok h
    refine go hΓ 9 rfl ?_
    refine eo_callP (callable Tryz.func179 rfl rfl) (c_strings_CutPrefix hy1) rfl (Nat.le_of_ble_eq_true rfl) rfl rfl rfl rfl rfl ?_
    refine go_ops hΓ 12 rfl ?_
    refine j_cond rfl (fun hb => ?_) (fun hb => ?_)
    · have h3 := cT h2 hb
      obtain ⟨y4, hy4, h5⟩ := bi_ok h3
      refine go hΓ 3 rfl ?_
      refine eo_callP (callable Tryz.func170 rfl rfl) (c_strings_HasPrefix hy4) rfl (Nat.le_of_ble_eq_true rfl) rfl rfl rfl rfl rfl ?_
      refine go_ops hΓ 2 rfl ?_
      obtain ⟨q6, hq6, h7⟩ := bi_ok h5
      refine o_cut 3 [(0, S s), (2, B false), (18, B q6)] [] ?_ ?_
      · refine eo_gsplit rfl rfl (fun hb => ?_) (fun hb => ?_)
        · have h8 := cT hq6 hb
          obtain ⟨y9, hy9, h10⟩ := bi_ok h8
          refine go_ops hΓ 1 rfl ?_
          refine eo_guard rfl ?_
          refine eo_callP (callable Tryz.func124 rfl rfl) (ih hy9) rfl (Nat.le_of_ble_eq_true rfl) rfl rfl rfl rfl rfl ?_
          refine go_ops hΓ 2 rfl ?_
          obtain rfl := Option.some.inj h10
          exact ⟨⟨rfl, rfl, rfl, trivial⟩, [], rfl, .inl rfl⟩
        · have h11 := cF hq6 hb
          refine go_ops hΓ 4 rfl ?_
          obtain rfl := Option.some.inj h11
          exact ⟨⟨rfl, rfl, rfl, trivial⟩, [], rfl, .inl rfl⟩
      · refine go_ops hΓ 1 rfl ?_
        refine o_cut 4 [(2, B false), (23, B (q6 && (decide (((s.length : Int) : Int) ≤ 63))))] [] ?_ ?_
        · refine eo_gsplit rfl rfl (fun hb => ?_) (fun hb => ?_)
          · refine go_ops hΓ 5 rfl ?_
            exact ⟨⟨rfl, get_b rfl (and_t hb), trivial⟩, [], rfl, .inl rfl⟩
          · refine go_ops hΓ 5 rfl ?_
            exact ⟨⟨rfl, get_b rfl (and_f hb), trivial⟩, [], rfl, .inl rfl⟩
        · refine go_ops hΓ 5 rfl ?_
          obtain rfl := Option.some.inj h7
          exact fin_pure hΓ (.inr rfl) rfl rfl
    · have h12 := cF h2 hb
      refine go hΓ 10 rfl ?_
      obtain ⟨q16, hq16, h17⟩ := bi_ok h12
      obtain ⟨hb19, h20⟩ := gd_ok hq16
      replace hb19 := of_decide_eq_true hb19
      refine j_cutEZ (R := fun a18 => q16 = .go a18) (fun a18 => [(0, S s)]) (fun a18 => []) ?_ ?_
      · refine go hΓ 1 rfl ?_
        refine j_rangeI h20 (fun i13 s14 => [(0, S s), (25, I (s.length : Int)), (26, I (i13 : Int))]) (fun s14 => []) ⟨⟨rfl, rfl, rfl, trivial⟩, [], rfl, .inl rfl⟩ (fun i13 s14 y24 hlt hy22 hout23 => ?_) (fun s14 hgo hge => ?_)
        · refine go hΓ 6 rfl ?_
          refine j_condT rfl (decide_eq_true hlt) ?_
          obtain ⟨c25, hc25, h26⟩ := bi_ok hy22
          refine go hΓ 14 rfl ?_
          refine eo_o rfl (op_byteZ hΓ hc25 rfl rfl rfl rfl) ?_
          obtain ⟨y27, hy27, h28⟩ := bi_ok h26
          refine eo_callP (callable Tryz.func121 rfl rfl) (c_name_isLetter hy27) rfl (Nat.le_of_ble_eq_true rfl) rfl rfl rfl rfl rfl ?_
          refine go_ops hΓ 2 rfl ?_
          obtain ⟨q29, hq29, h30⟩ := bi_ok h28
          refine o_cut 5 [(0, S s), (25, I (s.length : Int)), (26, I (i13 : Int)), (39, B q29)] [] ?_ ?_
          · refine eo_gsplit rfl rfl (fun hb => ?_) (fun hb => ?_)
            · have h31 := cT hq29 hb
              obtain ⟨c32, hc32, h33⟩ := bi_ok h31
              refine go_ops hΓ 2 rfl ?_
              refine eo_guard rfl ?_
              refine eo_o rfl (op_byteZ hΓ hc32 rfl rfl rfl rfl) ?_
              refine go_ops hΓ 3 rfl ?_
              obtain rfl := Option.some.inj h33
              exact ⟨⟨rfl, rfl, rfl, rfl, trivial⟩, [], rfl, .inl rfl⟩
            · have h34 := cF hq29 hb
              refine go_ops hΓ 6 rfl ?_
              obtain rfl := Option.some.inj h34
              exact ⟨⟨rfl, rfl, rfl, rfl, trivial⟩, [], rfl, .inl rfl⟩
          · refine go_ops hΓ 2 rfl ?_
            refine j_cond rfl (fun hb => ?_) (fun hb => ?_)
            · have h35 := cT h30 hb
              refine go hΓ 8 rfl ?_
              obtain ⟨v36, hv36, h37⟩ := bi_ok h35
              obtain rfl := Option.some.inj h37
              obtain rfl := hout23 _ rfl
              obtain rfl := Option.some.inj h17
              refine go hΓ 4 rfl ?_
              obtain rfl := Option.some.inj hv36
              exact fin_pure hΓ (.inr rfl) rfl rfl
            · have h38 := cF h30 hb
              refine go hΓ 7 rfl ?_
              obtain rfl := Option.some.inj h38
              exact ⟨_, rfl, ⟨⟨rfl, rfl, get_eq rfl (w64_succ (by omega)), trivial⟩, [], rfl, .inl rfl⟩⟩
        · subst hgo
          refine go hΓ 6 rfl ?_
          refine j_condF rfl (decide_eq_false hge) ?_
          refine go hΓ 4 rfl ?_
          exact ⟨_, rfl, ⟨⟨rfl, trivial⟩, [], rfl, .inl rfl⟩⟩
      · intro a18 ha
        subst ha
        replace h17 := goI_l h17
        refine go hΓ 6 rfl ?_
        refine o_cut 4 [(0, S s), (47, B ((!((s : Str) == [])) && (decide (((s.length : Int) : Int) ≤ 63))))] [] ?_ ?_
        · refine eo_gsplit rfl rfl (fun hb => ?_) (fun hb => ?_)
          · refine go_ops hΓ 5 rfl ?_
            exact ⟨⟨rfl, get_b rfl (and_t hb), trivial⟩, [], rfl, .inl rfl⟩
          · refine go_ops hΓ 5 rfl ?_
            exact ⟨⟨rfl, get_b rfl (and_f hb), trivial⟩, [], rfl, .inl rfl⟩
        · refine go_ops hΓ 1 rfl ?_
          obtain ⟨q39, hq39, h40⟩ := bi_ok h17
          refine o_cut 4 [(0, S s), (52, B q39)] [] ?_ ?_
          · refine eo_gsplit rfl rfl (fun hb => ?_) (fun hb => ?_)
            · have h41 := cT hq39 hb
              obtain ⟨c42, hc42, h43⟩ := bi_ok h41
              refine go_ops hΓ 1 rfl ?_
              refine eo_guard rfl ?_
              refine eo_o rfl (op_byteZ hΓ hc42 rfl rfl rfl rfl) ?_
              refine go_ops hΓ 3 rfl ?_
              obtain rfl := Option.some.inj h43
              exact ⟨⟨rfl, rfl, trivial⟩, [], rfl, .inl rfl⟩
            · have h44 := cF hq39 hb
              refine go_ops hΓ 5 rfl ?_
              obtain rfl := Option.some.inj h44
              exact ⟨⟨rfl, rfl, trivial⟩, [], rfl, .inl rfl⟩
          · refine go_ops hΓ 1 rfl ?_
            obtain ⟨q45, hq45, h46⟩ := bi_ok h40
            refine o_cut 7 [(60, B q45)] [] ?_ ?_
            · refine eo_gsplit rfl rfl (fun hb => ?_) (fun hb => ?_)
              · have h47 := cT hq45 hb
                obtain ⟨c48, hc48, h49⟩ := bi_ok h47
                refine go_ops hΓ 4 rfl ?_
                refine eo_guard rfl ?_
                refine eo_o rfl (op_byteZ hΓ hc48 rfl rfl rfl rfl) ?_
                refine go_ops hΓ 3 rfl ?_
                obtain rfl := Option.some.inj h49
                exact ⟨⟨rfl, trivial⟩, [], rfl, .inl rfl⟩
              · have h50 := cF hq45 hb
                refine go_ops hΓ 8 rfl ?_
                obtain rfl := Option.some.inj h50
                exact ⟨⟨rfl, trivial⟩, [], rfl, .inl rfl⟩
            · refine go_ops hΓ 4 rfl ?_
              obtain rfl := Option.some.inj h46
              exact fin_pure hΓ (.inr rfl) rfl rfl
theorem c_name_CheckDomain {k : Nat} {s : Str} {r : Int} (h : m_name_CheckDomain k s = some r) : Pure Tryz.prog 53 [S s] (I r) := by
  refine Pure.enter (Fr.of 0 _) Tryz.func53 rfl (Fr.of_ok _) rfl rfl ?_
  refine go_in ?_
  unfold m_name_CheckDomain at h
  refine go hΓ 13 rfl ?_
  refine j_cond rfl (fun hb => ?_) (fun hb => ?_)
  · have h1 := cT h hb
    refine go hΓ 7 rfl ?_
    obtain rfl := Option.some.inj h1
    exact fin_pure hΓ (.inr rfl) rfl rfl
  · have h2 := cF h hb
    obtain ⟨y3, hy3, h4⟩ := bi_ok h2
    refine go hΓ 6 rfl ?_
    refine eo_callP (callable Tryz.func123 rfl rfl) (Pure.rows (c_strings_Split hy3) rfl rfl) rfl (Nat.le_of_ble_eq_true rfl) rfl rfl rfl rfl rfl ?_
    refine go_ops hΓ 4 rfl ?_
    obtain ⟨q8, hq8, h9⟩ := bi_ok h4
    refine j_bound 9 rfl fun hb11 => ?_
    refine j_cutEZ (R := fun a10 => q8 = .go a10) (fun a10 => []) (fun a10 => []) ?_ ?_
    · refine go hΓ 1 rfl ?_
      refine j_range y3 hq8 (fun i5 s6 => [(9, .d (Sl eS y3)), (10, I (y3.length : Int)), (11, I (i5 : Int))]) (fun s6 => []) ⟨⟨rfl, rfl, rfl, trivial⟩, [], rfl, .inl rfl⟩ (fun i5 x7 s6 y15 hx12 hlt hy13 hout14 => ?_) (fun s6 hgo => ?_)
      · refine go hΓ 6 rfl ?_
        refine j_condT rfl (decide_eq_true (Int.ofNat_lt.2 hlt)) ?_
        refine go hΓ 6 rfl ?_
        refine eo_o rfl (op_elemZ hΓ (enc := eS) (getZ_nat hx12) rfl rfl rfl rfl rfl (fun _ => rfl)) ?_
        obtain ⟨y16, hy16, h17⟩ := bi_ok hy13
        refine go_ops hΓ 7 rfl ?_
        refine eo_callP (callable Tryz.func124 rfl rfl) (c_name_isLabel hy16) rfl (Nat.le_of_ble_eq_true rfl) rfl rfl rfl rfl rfl ?_
        refine go_ops hΓ 3 rfl ?_
        refine j_cond rfl (fun hb => ?_) (fun hb => ?_)
        · have h18 := cT h17 hb
          refine go hΓ 8 rfl ?_
          obtain ⟨v19, hv19, h20⟩ := bi_ok h18
          obtain rfl := Option.some.inj h20
          obtain rfl := hout14 _ rfl
          obtain rfl := Option.some.inj h9
          refine go hΓ 4 rfl ?_
          obtain rfl := Option.some.inj hv19
          exact fin_pure hΓ (.inr rfl) rfl rfl
        · have h21 := cF h17 hb
          refine go hΓ 7 rfl ?_
          obtain rfl := Option.some.inj h21
          exact ⟨_, rfl, ⟨⟨rfl, rfl, get_eq rfl (w64_succ (Nat.lt_of_lt_of_le hlt hb11)), trivial⟩, [], rfl, .inl rfl⟩⟩
      · subst hgo
        refine go hΓ 6 rfl ?_
        refine j_condF rfl (decide_eq_false (Int.lt_irrefl _)) ?_
        refine go hΓ 4 rfl ?_
        exact ⟨_, rfl, ⟨trivial, [], rfl, .inl rfl⟩⟩
    · intro a10 ha
      subst ha
      replace h9 := goI_l h9
      refine go hΓ 7 rfl ?_
      obtain rfl := Option.some.inj h9
      exact fin_pure hΓ (.inr rfl) rfl rfl
theorem c_name_isKind {kind : Int} {r : Bool} (h : m_name_isKind kind = some r) : Pure Tryz.prog 128 [I kind] (B r) := by
  refine Pure.enter (Fr.of 0 _) Tryz.func128 rfl (Fr.of_ok _) rfl rfl ?_
  refine go_in ?_
  unfold m_name_isKind at h
  obtain ⟨q1, hq1, h2⟩ := bi_ok h
  refine go hΓ 19 rfl ?_
  refine j_cutNZ [(4, B q1)] [] ?_ ?_
  · refine j_cond rfl (fun hb => ?_) (fun hb => ?_)
    · have h3 := cT hq1 hb
      refine go hΓ 1 rfl ?_
      obtain rfl := Option.some.inj h3
      exact ⟨⟨rfl, trivial⟩, [], rfl, .inl rfl⟩
    · have h4 := cF hq1 hb
      refine go hΓ 6 rfl ?_
      refine j_cond rfl (fun hb => ?_) (fun hb => ?_)
      · have h5 := cT h4 hb
        refine go hΓ 1 rfl ?_
        obtain rfl := Option.some.inj h5
        exact ⟨⟨rfl, trivial⟩, [], rfl, .inl rfl⟩
      · have h6 := cF h4 hb
        refine go hΓ 6 rfl ?_
        refine j_cond rfl (fun hb => ?_) (fun hb => ?_)
        · have h7 := cT h6 hb
          refine go hΓ 1 rfl ?_
          obtain rfl := Option.some.inj h7
          exact ⟨⟨rfl, trivial⟩, [], rfl, .inl rfl⟩
        · have h8 := cF h6 hb
          refine go hΓ 6 rfl ?_
          refine j_cond rfl (fun hb => ?_) (fun hb => ?_)
          · have h9 := cT h8 hb
            refine go hΓ 1 rfl ?_
            obtain rfl := Option.some.inj h9
            exact ⟨⟨rfl, trivial⟩, [], rfl, .inl rfl⟩
          · have h10 := cF h8 hb
            refine go hΓ 4 rfl ?_
            obtain rfl := Option.some.inj h10
            exact ⟨⟨rfl, trivial⟩, [], rfl, .inl rfl⟩
  · refine go hΓ 1 rfl ?_
    refine j_cond rfl (fun hb => ?_) (fun hb => ?_)
    · have h11 := cT h2 hb
      refine go hΓ 8 rfl ?_
      obtain rfl := Option.some.inj h11
      exact fin_pure hΓ (.inr rfl) rfl rfl
    · have h12 := cF h2 hb
      refine go hΓ 9 rfl ?_
      obtain rfl := Option.some.inj h12
      exact fin_pure hΓ (.inr rfl) rfl rfl
theorem c_name_bare {name : Str} {r : Str} (h : m_name_bare name = some r) : Pure Tryz.prog 129 [S name] (S r) := by
  refine Pure.enter (Fr.of 0 _) Tryz.func129 rfl (Fr.of_ok _) rfl rfl ?_
  refine go_in ?_
  unfold m_name_bare at h
  obtain ⟨y1, hy1, h2⟩ := bi_ok h
  refine go hΓ 8 rfl ?_
  refine eo_callP (callable Tryz.func135 rfl rfl) (c_strings_TrimPrefix hy1) rfl (Nat.le_of_ble_eq_true rfl) rfl rfl rfl rfl rfl ?_
  refine go_ops hΓ 4 rfl ?_
  obtain rfl := Option.some.inj h2
  exact fin_pure hΓ (.inr rfl) rfl rfl
theorem c_name_hasAddr {kind : Int} {r : Bool} (h : m_name_hasAddr kind = some r) : Pure Tryz.prog 90 [I kind] (B r) := by
  refine Pure.enter (Fr.of 0 _) Tryz.func90 rfl (Fr.of_ok _) rfl rfl ?_
  refine go_in ?_
  unfold m_name_hasAddr at h
  refine go hΓ 10 rfl ?_
  refine o_cut 3 [(2, B false), (8, B (((kind : Int) == 1) || ((kind : Int) == 28)))] [] ?_ ?_
  · refine eo_gsplit rfl rfl (fun hb => ?_) (fun hb => ?_)
    · refine go_ops hΓ 4 rfl ?_
      exact ⟨⟨rfl, get_b rfl (or_t hb), trivial⟩, [], rfl, .inl rfl⟩
    · refine go_ops hΓ 4 rfl ?_
      exact ⟨⟨rfl, get_b rfl (or_f hb), trivial⟩, [], rfl, .inl rfl⟩
  · refine go_ops hΓ 4 rfl ?_
    obtain rfl := Option.some.inj h
    exact fin_pure hΓ (.inr rfl) rfl rfl
theorem c_addr_CheckAddr {a : T_api_Addr} {r : Int} (h : m_addr_CheckAddr a = some r) : Pure Tryz.prog 130 [.agg [B a.Six, U a.Hi, U a.Lo]] (I r) := by
  refine Pure.enter (Fr.of 0 _) Tryz.func130 rfl (Fr.of_ok _) rfl rfl ?_
  refine go_in ?_
  unfold m_addr_CheckAddr at h
  refine go hΓ 2 rfl ?_
  refine eo_box rfl rfl rfl rfl (Nat.le_of_ble_eq_true rfl) ?_
  refine go_ops hΓ 10 rfl ?_
  refine o_cut 9 [(15, B ((!a.Six) && (((a.Hi : Int) != 0) || (decide ((a.Lo : Int) ≥ 4294967296)))))] [.box 55 [B a.Six, U a.Hi, U a.Lo]] ?_ ?_
  · refine eo_gsplit rfl rfl (fun hb => ?_) (fun hb => ?_)
    · refine go_ops hΓ 4 rfl ?_
      refine o_cut 4 [(6, B true), (14, B (((a.Hi : Int) != 0) || (decide ((a.Lo : Int) ≥ 4294967296))))] [.box 55 [B a.Six, U a.Hi, U a.Lo]] ?_ ?_
      · refine eo_gsplit rfl rfl (fun hb => ?_) (fun hb => ?_)
        · refine go_ops hΓ 5 rfl ?_
          exact ⟨⟨rfl, get_b rfl (or_t hb), trivial⟩, [], rfl, .inl rfl⟩
        · refine go_ops hΓ 5 rfl ?_
          exact ⟨⟨rfl, get_b rfl (or_f hb), trivial⟩, [], rfl, .inl rfl⟩
      · refine go_ops hΓ 2 rfl ?_
        exact ⟨⟨get_b rfl (and_t hb), trivial⟩, [], rfl, .inl rfl⟩
    · refine go_ops hΓ 10 rfl ?_
      exact ⟨⟨get_b rfl (and_f hb), trivial⟩, [], rfl, .inl rfl⟩
  · refine go_ops hΓ 2 rfl ?_
    refine j_cond rfl (fun hb => ?_) (fun hb => ?_)
    · have h1 := cT h hb
      refine go hΓ 7 rfl ?_
      obtain rfl := Option.some.inj h1
      exact fin_pure hΓ (.inr rfl) rfl rfl
    · have h2 := cF h hb
      refine go hΓ 8 rfl ?_
      obtain rfl := Option.some.inj h2
      exact fin_pure hΓ (.inr rfl) rfl rfl
theorem c_name_hasName {kind : Int} {r : Bool} (h : m_name_hasName kind = some r) : Pure Tryz.prog 131 [I kind] (B r) := by
  refine Pure.enter (Fr.of 0 _) Tryz.func131 rfl (Fr.of_ok _) rfl rfl ?_
  refine go_in ?_
  unfold m_name_hasName at h
  refine go hΓ 10 rfl ?_
  refine o_cut 3 [(2, B false), (8, B (((kind : Int) == 5) || ((kind : Int) == 12)))] [] ?_ ?_
  · refine eo_gsplit rfl rfl (fun hb => ?_) (fun hb => ?_)
    · refine go_ops hΓ 4 rfl ?_
      exact ⟨⟨rfl, get_b rfl (or_t hb), trivial⟩, [], rfl, .inl rfl⟩
    · refine go_ops hΓ 4 rfl ?_
      exact ⟨⟨rfl, get_b rfl (or_f hb), trivial⟩, [], rfl, .inl rfl⟩
  · refine go_ops hΓ 4 rfl ?_
    obtain rfl := Option.some.inj h
    exact fin_pure hΓ (.inr rfl) rfl rfl
set_option maxHeartbeats 8000000 in
theorem c_kit_IsPlain {k : Nat} {s : Str} {r : Bool} (h : m_kit_IsPlain k s = some r) : Pure Tryz.prog 132 [S s] (B r) := by
  refine Pure.enter (Fr.of 0 _) Tryz.func132 rfl (Fr.of_ok _) rfl rfl ?_
  refine go_in ?_
  unfold m_kit_IsPlain at h
  refine go hΓ 11 rfl ?_
  obtain ⟨q4, hq4, h5⟩ := bi_ok h
  refine j_cutEZ (R := fun a6 => q4 = .inl a6) (fun a6 => [(0, S s)]) (fun a6 => []) ?_ ?_
  · refine go hΓ 1 rfl ?_
    refine j_loop hq4 (fun s2 => [(0, S s), (3, I s2)]) (fun s2 => []) ⟨⟨rfl, rfl, trivial⟩, [], rfl, .inl rfl⟩ (fun s2 y10 hy8 hout9 => ?_)
    refine go hΓ 9 rfl ?_
    refine j_cond rfl (fun hb => ?_) (fun hb => ?_)
    · have h11 := cT hy8 hb
      obtain ⟨c12, hc12, h13⟩ := bi_ok h11
      refine go hΓ 8 rfl ?_
      refine eo_o rfl (op_byteZ hΓ hc12 rfl rfl rfl rfl) ?_
      refine go_ops hΓ 2 rfl ?_
      obtain ⟨q14, hq14, h15⟩ := bi_ok h13
      refine o_cut 5 [(0, S s), (3, I s2), (19, B q14)] [] ?_ ?_
      · refine eo_gsplit rfl rfl (fun hb => ?_) (fun hb => ?_)
        · have h16 := cT hq14 hb
          refine go_ops hΓ 6 rfl ?_
          obtain rfl := Option.some.inj h16
          exact ⟨⟨rfl, rfl, rfl, trivial⟩, [], rfl, .inl rfl⟩
        · have h17 := cF hq14 hb
          obtain ⟨c18, hc18, h19⟩ := bi_ok h17
          refine go_ops hΓ 2 rfl ?_
          refine eo_guard rfl ?_
          refine eo_o rfl (op_byteZ hΓ hc18 rfl rfl rfl rfl) ?_
          refine go_ops hΓ 3 rfl ?_
          obtain rfl := Option.some.inj h19
          exact ⟨⟨rfl, rfl, rfl, trivial⟩, [], rfl, .inl rfl⟩
      · refine go_ops hΓ 2 rfl ?_
        refine j_cond rfl (fun hb => ?_) (fun hb => ?_)
        · have h20 := cT h15 hb
          refine go hΓ 8 rfl ?_
          obtain ⟨v21, hv21, h22⟩ := bi_ok h20
          obtain rfl := Option.some.inj h22
          obtain rfl := hout9 _ rfl
          obtain rfl := Option.some.inj h5
          refine go hΓ 4 rfl ?_
          obtain rfl := Option.some.inj hv21
          exact fin_pure hΓ (.inr rfl) rfl rfl
        · have h23 := cF h15 hb
          refine go hΓ 8 rfl ?_
          obtain rfl := Option.some.inj h23
          exact ⟨_, rfl, ⟨⟨rfl, rfl, trivial⟩, [], rfl, .inl rfl⟩⟩
    · have h24 := cF hy8 hb
      refine go hΓ 4 rfl ?_
      obtain rfl := Option.some.inj h24
      obtain rfl := hout9 _ rfl
      exact ⟨_, rfl, ⟨⟨rfl, trivial⟩, [], rfl, .inl rfl⟩⟩
  · intro a6 ha
    subst ha
    replace h5 := orI_l h5
    obtain ⟨y25, hy25, h26⟩ := bi_ok h5
    refine go hΓ 4 rfl ?_
    refine eo_callP (callable Tryz.func181 rfl rfl) (c_utf8_ValidString hy25) rfl (Nat.le_of_ble_eq_true rfl) rfl rfl rfl rfl rfl ?_
    refine go_ops hΓ 1 rfl ?_
    obtain ⟨q27, hq27, h28⟩ := bi_ok h26
    refine o_cut 5 [(0, S s), (27, B q27)] [] ?_ ?_
    · refine eo_gsplit rfl rfl (fun hb => ?_) (fun hb => ?_)
      · have h29 := cT hq27 hb
        obtain ⟨y30, hy30, h31⟩ := bi_ok h29
        refine go_ops hΓ 1 rfl ?_
        refine eo_guard rfl ?_
        refine eo_callP (callable Tryz.func122 rfl rfl) (c_strings_Trim hy30) rfl (Nat.le_of_ble_eq_true rfl) rfl rfl rfl rfl rfl ?_
        refine go_ops hΓ 4 rfl ?_
        obtain rfl := Option.some.inj h31
        exact ⟨⟨rfl, rfl, trivial⟩, [], rfl, .inl rfl⟩
      · have h32 := cF hq27 hb
        refine go_ops hΓ 6 rfl ?_
        obtain rfl := Option.some.inj h32
        exact ⟨⟨rfl, rfl, trivial⟩, [], rfl, .inl rfl⟩
    · refine go_ops hΓ 1 rfl ?_
      obtain ⟨q33, hq33, h34⟩ := bi_ok h28
      refine o_cut 4 [(32, B q33)] [] ?_ ?_
      · refine eo_gsplit rfl rfl (fun hb => ?_) (fun hb => ?_)
        · have h35 := cT hq33 hb
          obtain ⟨y36, hy36, h37⟩ := bi_ok h35
          refine go_ops hΓ 1 rfl ?_
          refine eo_guard rfl ?_
          refine eo_callP (callable Tryz.func163 rfl rfl) (c_strings_Contains hy36) rfl (Nat.le_of_ble_eq_true rfl) rfl rfl rfl rfl rfl ?_
          refine go_ops hΓ 3 rfl ?_
          obtain rfl := Option.some.inj h37
          exact ⟨⟨rfl, trivial⟩, [], rfl, .inl rfl⟩
        · have h38 := cF hq33 hb
          refine go_ops hΓ 5 rfl ?_
          obtain rfl := Option.some.inj h38
          exact ⟨⟨rfl, trivial⟩, [], rfl, .inl rfl⟩
      · refine go_ops hΓ 4 rfl ?_
        obtain rfl := Option.some.inj h34
        exact fin_pure hΓ (.inr rfl) rfl rfl
set_option maxHeartbeats 8000000 in
theorem c_name_recordFault {k : Nat} {v_r : T_api_Record} {r : Int} (h : m_name_recordFault k v_r = some r) : Pure Tryz.prog 58 [.agg [S v_r.Name, I v_r.Kind, B v_r.Addr.Six, U v_r.Addr.Hi, U v_r.Addr.Lo, S v_r.To, S v_r.Words, I v_r.Life]] (I r) := by
  refine Pure.enter (Fr.of 0 _) Tryz.func58 rfl (Fr.of_ok _) rfl rfl ?_
  refine go_in ?_
  unfold m_name_recordFault at h
  refine go hΓ 2 rfl ?_
  refine eo_box rfl rfl rfl rfl (Nat.le_of_ble_eq_true rfl) ?_
  obtain ⟨y1, hy1, h2⟩ := bi_ok h
  refine go_ops hΓ 9 rfl ?_
  refine eo_callP (callable Tryz.func129 rfl rfl) (c_name_bare hy1) rfl (Nat.le_of_ble_eq_true rfl) rfl rfl rfl rfl rfl ?_
  obtain ⟨y3, hy3, h4⟩ := bi_ok h2
  refine eo_callP (callable Tryz.func53 rfl rfl) (c_name_CheckDomain hy3) rfl (Nat.le_of_ble_eq_true rfl) rfl rfl rfl rfl rfl ?_
  refine go_ops hΓ 2 rfl ?_
  refine o_cut 5 [(1, .ptr 0 0), (14, B (((y3 : Int) != 0) || (decide (((v_r.Name.length : Int) : Int) > 253))))] [.box 57 [S v_r.Name, I v_r.Kind, B v_r.Addr.Six, U v_r.Addr.Hi, U v_r.Addr.Lo, S v_r.To, S v_r.Words, I v_r.Life]] ?_ ?_
  · refine eo_gsplit rfl rfl (fun hb => ?_) (fun hb => ?_)
    · refine go_ops hΓ 6 rfl ?_
      exact ⟨⟨rfl, get_b rfl (or_t hb), trivial⟩, [], rfl, .inl rfl⟩
    · refine go_ops hΓ 6 rfl ?_
      exact ⟨⟨rfl, get_b rfl (or_f hb), trivial⟩, [], rfl, .inl rfl⟩
  · refine go_ops hΓ 3 rfl ?_
    refine j_cond rfl (fun hb => ?_) (fun hb => ?_)
    · have h5 := cT h4 hb
      refine go hΓ 8 rfl ?_
      obtain rfl := Option.some.inj h5
      exact fin_pure hΓ (.inr rfl) rfl rfl
    · have h6 := cF h4 hb
      obtain ⟨y7, hy7, h8⟩ := bi_ok h6
      refine go hΓ 4 rfl ?_
      refine eo_callP (callable Tryz.func128 rfl rfl) (c_name_isKind hy7) rfl (Nat.le_of_ble_eq_true rfl) rfl rfl rfl rfl rfl ?_
      refine go_ops hΓ 4 rfl ?_
      refine j_cond rfl (fun hb => ?_) (fun hb => ?_)
      · have h9 := cT h8 hb
        refine go hΓ 8 rfl ?_
        obtain rfl := Option.some.inj h9
        exact fin_pure hΓ (.inr rfl) rfl rfl
      · have h10 := cF h8 hb
        obtain ⟨y11, hy11, h12⟩ := bi_ok h10
        refine go hΓ 4 rfl ?_
        refine eo_callP (callable Tryz.func90 rfl rfl) (c_name_hasAddr hy11) rfl (Nat.le_of_ble_eq_true rfl) rfl rfl rfl rfl rfl ?_
        refine go_ops hΓ 1 rfl ?_
        obtain ⟨q13, hq13, h14⟩ := bi_ok h12
        refine o_cut 14 [(1, .ptr 0 0), (38, B q13)] [.box 57 [S v_r.Name, I v_r.Kind, B v_r.Addr.Six, U v_r.Addr.Hi, U v_r.Addr.Lo, S v_r.To, S v_r.Words, I v_r.Life]] ?_ ?_
        · refine eo_gsplit rfl rfl (fun hb => ?_) (fun hb => ?_)
          · have h15 := cT hq13 hb
            refine go_ops hΓ 8 rfl ?_
            obtain ⟨q16, hq16, h17⟩ := bi_ok h15
            refine o_cut 5 [(1, .ptr 0 0), (24, B true), (37, B q16)] [.box 57 [S v_r.Name, I v_r.Kind, B v_r.Addr.Six, U v_r.Addr.Hi, U v_r.Addr.Lo, S v_r.To, S v_r.Words, I v_r.Life]] ?_ ?_
            · refine eo_gsplit rfl rfl (fun hb => ?_) (fun hb => ?_)
              · have h18 := cT hq16 hb
                refine go_ops hΓ 6 rfl ?_
                obtain rfl := Option.some.inj h18
                exact ⟨⟨rfl, rfl, rfl, trivial⟩, [], rfl, .inl rfl⟩
              · have h19 := cF hq16 hb
                obtain ⟨y20, hy20, h21⟩ := bi_ok h19
                refine go_ops hΓ 2 rfl ?_
                refine eo_guard rfl ?_
                refine eo_callP (callable Tryz.func130 rfl rfl) (c_addr_CheckAddr hy20) rfl (Nat.le_of_ble_eq_true rfl) rfl rfl rfl rfl rfl ?_
                refine go_ops hΓ 3 rfl ?_
                obtain rfl := Option.some.inj h21
                exact ⟨⟨rfl, rfl, rfl, trivial⟩, [], rfl, .inl rfl⟩
            · refine go_ops hΓ 2 rfl ?_
              obtain rfl := Option.some.inj h17
              exact ⟨⟨rfl, rfl, trivial⟩, [], rfl, .inl rfl⟩
          · have h22 := cF hq13 hb
            refine go_ops hΓ 15 rfl ?_
            obtain rfl := Option.some.inj h22
            exact ⟨⟨rfl, rfl, trivial⟩, [], rfl, .inl rfl⟩
        · refine go_ops hΓ 3 rfl ?_
          refine j_cond rfl (fun hb => ?_) (fun hb => ?_)
          · have h23 := cT h14 hb
            refine go hΓ 8 rfl ?_
            obtain rfl := Option.some.inj h23
            exact fin_pure hΓ (.inr rfl) rfl rfl
          · have h24 := cF h14 hb
            obtain ⟨y25, hy25, h26⟩ := bi_ok h24
            refine go hΓ 4 rfl ?_
            refine eo_callP (callable Tryz.func90 rfl rfl) (c_name_hasAddr hy25) rfl (Nat.le_of_ble_eq_true rfl) rfl rfl rfl rfl rfl ?_
            refine go_ops hΓ 2 rfl ?_
            refine o_cut 5 [(1, .ptr 0 0), (49, B ((!y25) && (!(((v_r.Addr.Six : Bool) == false) && (((v_r.Addr.Hi : Int) == 0) && (((v_r.Addr.Lo : Int) == 0) && true))))))] [.box 57 [S v_r.Name, I v_r.Kind, B v_r.Addr.Six, U v_r.Addr.Hi, U v_r.Addr.Lo, S v_r.To, S v_r.Words, I v_r.Life]] ?_ ?_
            · refine eo_gsplit rfl rfl (fun hb => ?_) (fun hb => ?_)
              · refine go_ops hΓ 2 rfl ?_
                refine eo_guard rfl ?_
                refine eo_build hΓ (gs := [B false, U 0, U 0]) rfl rfl rfl rfl rfl rfl rfl ?_
                refine eo_guard rfl ?_
                refine eo_o rfl (op_neS hΓ [55] (b := (((v_r.Addr.Six : Bool) == false) && (((v_r.Addr.Hi : Int) == 0) && (((v_r.Addr.Lo : Int) == 0) && true)))) (by kernel_rfl) (by kernel_rfl) rfl rfl rfl) ?_
                refine go_ops hΓ 2 rfl ?_
                exact ⟨⟨rfl, get_b rfl (and_t hb), trivial⟩, [], rfl, .inl rfl⟩
              · refine go_ops hΓ 6 rfl ?_
                exact ⟨⟨rfl, get_b rfl (and_f hb), trivial⟩, [], rfl, .inl rfl⟩
            · refine go_ops hΓ 3 rfl ?_
              refine j_cond rfl (fun hb => ?_) (fun hb => ?_)
              · have h27 := cT h26 hb
                refine go hΓ 8 rfl ?_
                obtain rfl := Option.some.inj h27
                exact fin_pure hΓ (.inr rfl) rfl rfl
              · have h28 := cF h26 hb
                obtain ⟨y29, hy29, h30⟩ := bi_ok h28
                refine go hΓ 4 rfl ?_
                refine eo_callP (callable Tryz.func131 rfl rfl) (c_name_hasName hy29) rfl (Nat.le_of_ble_eq_true rfl) rfl rfl rfl rfl rfl ?_
                refine go_ops hΓ 1 rfl ?_
                obtain ⟨q31, hq31, h32⟩ := bi_ok h30
                refine o_cut 5 [(1, .ptr 0 0), (59, B q31)] [.box 57 [S v_r.Name, I v_r.Kind, B v_r.Addr.Six, U v_r.Addr.Hi, U v_r.Addr.Lo, S v_r.To, S v_r.Words, I v_r.Life]] ?_ ?_
                · refine eo_gsplit rfl rfl (fun hb => ?_) (fun hb => ?_)
                  · have h33 := cT hq31 hb
                    obtain ⟨y34, hy34, h35⟩ := bi_ok h33
                    refine go_ops hΓ 2 rfl ?_
                    refine eo_guard rfl ?_
                    refine eo_callP (callable Tryz.func53 rfl rfl) (c_name_CheckDomain hy34) rfl (Nat.le_of_ble_eq_true rfl) rfl rfl rfl rfl rfl ?_
                    refine go_ops hΓ 3 rfl ?_
                    obtain rfl := Option.some.inj h35
                    exact ⟨⟨rfl, rfl, trivial⟩, [], rfl, .inl rfl⟩
                  · have h36 := cF hq31 hb
                    refine go_ops hΓ 6 rfl ?_
                    obtain rfl := Option.some.inj h36
                    exact ⟨⟨rfl, rfl, trivial⟩, [], rfl, .inl rfl⟩
                · refine go_ops hΓ 3 rfl ?_
                  refine j_cond rfl (fun hb => ?_) (fun hb => ?_)
                  · have h37 := cT h32 hb
                    refine go hΓ 8 rfl ?_
                    obtain rfl := Option.some.inj h37
                    exact fin_pure hΓ (.inr rfl) rfl rfl
                  · have h38 := cF h32 hb
                    obtain ⟨y39, hy39, h40⟩ := bi_ok h38
                    refine go hΓ 4 rfl ?_
                    refine eo_callP (callable Tryz.func131 rfl rfl) (c_name_hasName hy39) rfl (Nat.le_of_ble_eq_true rfl) rfl rfl rfl rfl rfl ?_
                    refine go_ops hΓ 2 rfl ?_
                    refine o_cut 4 [(1, .ptr 0 0), (69, B ((!y39) && (!((v_r.To : Str) == []))))] [.box 57 [S v_r.Name, I v_r.Kind, B v_r.Addr.Six, U v_r.Addr.Hi, U v_r.Addr.Lo, S v_r.To, S v_r.Words, I v_r.Life]] ?_ ?_
                    · refine eo_gsplit rfl rfl (fun hb => ?_) (fun hb => ?_)
                      · refine go_ops hΓ 5 rfl ?_
                        exact ⟨⟨rfl, get_b rfl (and_t hb), trivial⟩, [], rfl, .inl rfl⟩
                      · refine go_ops hΓ 5 rfl ?_
                        exact ⟨⟨rfl, get_b rfl (and_f hb), trivial⟩, [], rfl, .inl rfl⟩
                    · refine go_ops hΓ 3 rfl ?_
                      refine j_cond rfl (fun hb => ?_) (fun hb => ?_)
                      · have h41 := cT h40 hb
                        refine go hΓ 8 rfl ?_
                        obtain rfl := Option.some.inj h41
                        exact fin_pure hΓ (.inr rfl) rfl rfl
                      · have h42 := cF h40 hb
                        refine go hΓ 6 rfl ?_
                        obtain ⟨q43, hq43, h44⟩ := bi_ok h42
                        refine o_cut 11 [(1, .ptr 0 0), (85, B q43)] [.box 57 [S v_r.Name, I v_r.Kind, B v_r.Addr.Six, U v_r.Addr.Hi, U v_r.Addr.Lo, S v_r.To, S v_r.Words, I v_r.Life]] ?_ ?_
                        · refine eo_gsplit rfl rfl (fun hb => ?_) (fun hb => ?_)
                          · have h45 := cT hq43 hb
                            obtain ⟨y46, hy46, h47⟩ := bi_ok h45
                            refine go_ops hΓ 2 rfl ?_
                            refine eo_guard rfl ?_
                            refine eo_callP (callable Tryz.func132 rfl rfl) (c_kit_IsPlain hy46) rfl (Nat.le_of_ble_eq_true rfl) rfl rfl rfl rfl rfl ?_
                            refine go_ops hΓ 2 rfl ?_
                            refine o_cut 5 [(1, .ptr 0 0), (74, B true), (84, B ((!y46) || (decide (((v_r.Words.length : Int) : Int) > 200))))] [.box 57 [S v_r.Name, I v_r.Kind, B v_r.Addr.Six, U v_r.Addr.Hi, U v_r.Addr.Lo, S v_r.To, S v_r.Words, I v_r.Life]] ?_ ?_
                            · refine eo_gsplit rfl rfl (fun hb => ?_) (fun hb => ?_)
                              · refine go_ops hΓ 6 rfl ?_
                                exact ⟨⟨rfl, rfl, get_b rfl (or_t hb), trivial⟩, [], rfl, .inl rfl⟩
                              · refine go_ops hΓ 6 rfl ?_
                                exact ⟨⟨rfl, rfl, get_b rfl (or_f hb), trivial⟩, [], rfl, .inl rfl⟩
                            · refine go_ops hΓ 2 rfl ?_
                              obtain rfl := Option.some.inj h47
                              exact ⟨⟨rfl, rfl, trivial⟩, [], rfl, .inl rfl⟩
                          · have h48 := cF hq43 hb
                            refine go_ops hΓ 12 rfl ?_
                            obtain rfl := Option.some.inj h48
                            exact ⟨⟨rfl, rfl, trivial⟩, [], rfl, .inl rfl⟩
                        · refine go_ops hΓ 1 rfl ?_
                          refine o_cut 9 [(1, .ptr 0 0), (95, B (q43 || (((v_r.Kind : Int) != 16) && (!((v_r.Words : Str) == [])))))] [.box 57 [S v_r.Name, I v_r.Kind, B v_r.Addr.Six, U v_r.Addr.Hi, U v_r.Addr.Lo, S v_r.To, S v_r.Words, I v_r.Life]] ?_ ?_
                          · refine eo_gsplit rfl rfl (fun hb => ?_) (fun hb => ?_)
                            · refine go_ops hΓ 10 rfl ?_
                              exact ⟨⟨rfl, get_b rfl (or_t hb), trivial⟩, [], rfl, .inl rfl⟩
                            · refine go_ops hΓ 4 rfl ?_
                              refine o_cut 4 [(1, .ptr 0 0), (86, B false), (94, B (((v_r.Kind : Int) != 16) && (!((v_r.Words : Str) == []))))] [.box 57 [S v_r.Name, I v_r.Kind, B v_r.Addr.Six, U v_r.Addr.Hi, U v_r.Addr.Lo, S v_r.To, S v_r.Words, I v_r.Life]] ?_ ?_
                              · refine eo_gsplit rfl rfl (fun hb => ?_) (fun hb => ?_)
                                · refine go_ops hΓ 5 rfl ?_
                                  exact ⟨⟨rfl, rfl, get_b rfl (and_t hb), trivial⟩, [], rfl, .inl rfl⟩
                                · refine go_ops hΓ 5 rfl ?_
                                  exact ⟨⟨rfl, rfl, get_b rfl (and_f hb), trivial⟩, [], rfl, .inl rfl⟩
                              · refine go_ops hΓ 2 rfl ?_
                                exact ⟨⟨rfl, get_b rfl (or_f hb), trivial⟩, [], rfl, .inl rfl⟩
                          · refine go_ops hΓ 3 rfl ?_
                            refine j_cond rfl (fun hb => ?_) (fun hb => ?_)
                            · have h49 := cT h44 hb
                              refine go hΓ 8 rfl ?_
                              obtain rfl := Option.some.inj h49
                              exact fin_pure hΓ (.inr rfl) rfl rfl
                            · have h50 := cF h44 hb
                              obtain ⟨y51, hy51, h52⟩ := bi_ok h50
                              refine go hΓ 4 rfl ?_
                              refine eo_callP (callable Tryz.func54 rfl rfl) (c_kit_Outside hy51) rfl (Nat.le_of_ble_eq_true rfl) rfl rfl rfl rfl rfl ?_
                              refine go_ops hΓ 3 rfl ?_
                              refine j_cond rfl (fun hb => ?_) (fun hb => ?_)
                              · have h53 := cT h52 hb
                                refine go hΓ 8 rfl ?_
                                obtain rfl := Option.some.inj h53
                                exact fin_pure hΓ (.inr rfl) rfl rfl
                              · have h54 := cF h52 hb
                                refine go hΓ 9 rfl ?_
                                obtain rfl := Option.some.inj h54
                                exact fin_pure hΓ (.inr rfl) rfl rfl
end Go.Proofs.YtdihjljlggagiaaGreatDoor
