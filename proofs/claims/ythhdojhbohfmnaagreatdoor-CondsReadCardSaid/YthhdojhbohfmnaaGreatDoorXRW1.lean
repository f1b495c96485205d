/-
  The functions compute their models.
-/
import Derived.Test.YthhdojhbohfmnaaGreatDoorXRM
import Derived.Test.YthhdojhbohfmnaaGreatDoorGt
import Derived.Test.YthhdojhbohfmnaaGreatDoorStr
import Derived.Test.YthhdojhbohfmnaaGreatDoorStr9
set_option linter.unusedVariables false
set_option linter.unusedSimpArgs false
set_option maxRecDepth 100000
namespace Go.Proofs.YthhdojhbohfmnaaGreatDoor
open Go.Gk
abbrev e_lanemake_Stream (x : T_lanemake_Stream) : List D := [Sl (eN .i64) x.L, .v (.int .i64 x.v_at)]
abbrev e_api_Attr (x : T_api_Attr) : List D := [.v (.int .i64 x.Kind), .v (.int .i64 x.Number), .v (.string ⟨x.Words.toArray⟩), .v (.int .i64 x.Version.1), .v (.int .i64 x.Version.2.1), .v (.int .i64 x.Version.2.2.1), .v (.int .i64 x.Version.2.2.2)]
abbrev e_posture_token (x : T_posture_token) : List D := [.v (.string ⟨x.kind.toArray⟩), .v (.int .i64 x.v_at), .v (.int .i64 x.v_end), .v (.string ⟨x.name.toArray⟩), .v (.int .i64 x.value.Kind), .v (.int .i64 x.value.Number), .v (.string ⟨x.value.Words.toArray⟩), .v (.int .i64 x.value.Version.1), .v (.int .i64 x.value.Version.2.1), .v (.int .i64 x.value.Version.2.2.1), .v (.int .i64 x.value.Version.2.2.2)]
abbrev e_posture_parser (x : T_posture_parser) : List D := [.v (.string ⟨x.s.toArray⟩), .v (.string ⟨x.tok.kind.toArray⟩), .v (.int .i64 x.tok.v_at), .v (.int .i64 x.tok.v_end), .v (.string ⟨x.tok.name.toArray⟩), .v (.int .i64 x.tok.value.Kind), .v (.int .i64 x.tok.value.Number), .v (.string ⟨x.tok.value.Words.toArray⟩), .v (.int .i64 x.tok.value.Version.1), .v (.int .i64 x.tok.value.Version.2.1), .v (.int .i64 x.tok.value.Version.2.2.1), .v (.int .i64 x.tok.value.Version.2.2.2), .v (.bool x.bad), .v (.int .i64 x.v_at)]
abbrev e_laneref1_token (x : T_laneref1_token) : List D := [.v (.string ⟨x.kind.toArray⟩), .v (.int .i64 x.v_at), .v (.string ⟨x.name.toArray⟩), .v (.int .i64 x.value.Kind), .v (.int .i64 x.value.Number), .v (.string ⟨x.value.Words.toArray⟩), .v (.int .i64 x.value.Version.1), .v (.int .i64 x.value.Version.2.1), .v (.int .i64 x.value.Version.2.2.1), .v (.int .i64 x.value.Version.2.2.2)]
abbrev e_laneref1_condReader (x : T_laneref1_condReader) : List D := [.v (.string ⟨x.s.toArray⟩), .v (.int .i64 x.v_at), .v (.string ⟨x.v_next.kind.toArray⟩), .v (.int .i64 x.v_next.v_at), .v (.string ⟨x.v_next.name.toArray⟩), .v (.int .i64 x.v_next.value.Kind), .v (.int .i64 x.v_next.value.Number), .v (.string ⟨x.v_next.value.Words.toArray⟩), .v (.int .i64 x.v_next.value.Version.1), .v (.int .i64 x.v_next.value.Version.2.1), .v (.int .i64 x.v_next.value.Version.2.2.1), .v (.int .i64 x.v_next.value.Version.2.2.2), .v (.int .i64 x.fault)]
theorem c_lanemake_Below {x : Int} {n : Int} {r : Int} (h : m_lanemake_Below x n = some r) : Pure Tryz.prog 118 [I x, I n] (I r) := by
  refine Pure.enter (Fr.of 0 _) Tryz.func118 rfl (Fr.of_ok _) rfl rfl ?_
  refine go_in ?_
  unfold m_lanemake_Below at h
  refine go hΓ 12 rfl ?_
  refine j_cond rfl (fun hb => ?_) (fun hb => ?_)
  · have h1 := cT h hb
    refine go hΓ 7 rfl ?_
    obtain rfl := Option.some.inj h1
    exact fin_pure hΓ (.inr rfl) rfl rfl
  · have h2 := cF h hb
    obtain ⟨y3, hy3, h4⟩ := bi_ok h2
    refine go hΓ 6 rfl ?_
    refine eo_o rfl (op_remZ hy3 rfl rfl) ?_
    obtain ⟨q5, hq5, h6⟩ := bi_ok h4
    refine go_ops hΓ 10 rfl ?_
    refine j_cutNZ [(0, I q5)] [] ?_ ?_
    · refine j_cond rfl (fun hb => ?_) (fun hb => ?_)
      · have h7 := cT hq5 hb
        refine go hΓ 6 rfl ?_
        obtain rfl := Option.some.inj h7
        exact ⟨⟨rfl, trivial⟩, [], rfl, .inl rfl⟩
      · have h8 := cF hq5 hb
        refine go hΓ 1 rfl ?_
        obtain rfl := Option.some.inj h8
        exact ⟨⟨rfl, trivial⟩, [], rfl, .inl rfl⟩
    · refine go hΓ 8 rfl ?_
      obtain rfl := Option.some.inj h6
      exact fin_pure hΓ (.inr rfl) rfl rfl
theorem c_lanemake_Stream_Next {s : T_lanemake_Stream} {n : Int} {r : Int × T_lanemake_Stream} (h : m_lanemake_Stream_Next s n = some r) : EC Tryz.prog 46 [.ptr 0 0, I n] [.box 25 [.d (Sl (eN .i64) s.L), I s.v_at]] fun g hp' => g = I r.1 ∧ hp' = [.box 25 [.d (Sl (eN .i64) r.2.L), I r.2.v_at]] := by
  refine ec_enter (Fr.of 0 _) Tryz.func46 rfl (Fr.of_ok _) (Nat.le_of_ble_eq_true rfl) fun _ => ?_
  refine go_in ?_
  unfold m_lanemake_Stream_Next at h
  refine go hΓ 14 rfl ?_
  refine eo_store hΓ rfl rfl rfl rfl rfl rfl rfl rfl (Nat.le_of_ble_eq_true rfl) ?_
  refine eo_hp [.box 25 [.d (Sl (eN .i64) s.L), I (wi (s.v_at + 1))]] rfl ?_
  refine go_ops hΓ 13 rfl ?_
  refine j_cond rfl (fun hb => ?_) (fun hb => ?_)
  · have h1 := cT h hb
    obtain ⟨y2, hy2, h3⟩ := bi_ok h1
    refine go hΓ 8 rfl ?_
    refine eo_callP (callable Tryz.func118 rfl rfl) (c_lanemake_Below hy2) rfl (Nat.le_of_ble_eq_true rfl) rfl rfl rfl rfl rfl ?_
    refine go_ops hΓ 5 rfl ?_
    obtain rfl := Option.some.inj h3
    exact fin_objs hΓ [] (.inr rfl) rfl rfl rfl rfl (.inl rfl)
  · have h4 := cF h hb
    refine go hΓ 3 rfl ?_
    refine j_draw hmix (by kernel_rfl) ?_
    obtain ⟨y5, hy5, h6⟩ := bi_ok h4
    refine go hΓ 10 rfl ?_
    refine gl_o rfl (op_remZ hy5 rfl rfl) ?_
    refine go_draw hΓ 4 rfl ?_
    refine j_draw hmix (by kernel_rfl) ?_
    obtain ⟨y7, hy7, h8⟩ := bi_ok h6
    refine go hΓ 10 rfl ?_
    refine gl_o rfl (op_quoZ hy7 rfl rfl) ?_
    obtain ⟨x9, hx9, h10⟩ := bi_ok h8
    refine go_draw hΓ 10 rfl ?_
    refine eo_o rfl (op_elemZ hΓ (enc := (eN .i64)) hx9 rfl rfl rfl rfl rfl (fun _ => rfl)) ?_
    obtain ⟨y11, hy11, h12⟩ := bi_ok h10
    refine go_ops hΓ 1 rfl ?_
    refine eo_callP (callable Tryz.func118 rfl rfl) (c_lanemake_Below hy11) rfl (Nat.le_of_ble_eq_true rfl) rfl rfl rfl rfl rfl ?_
    obtain ⟨y13, hy13, h14⟩ := bi_ok h12
    refine go_ops hΓ 6 rfl ?_
    refine eo_callP (callable Tryz.func118 rfl rfl) (c_lanemake_Below hy13) rfl (Nat.le_of_ble_eq_true rfl) rfl rfl rfl rfl rfl ?_
    refine go_ops hΓ 4 rfl ?_
    obtain rfl := Option.some.inj h14
    exact fin_objs hΓ [] (.inr rfl) rfl rfl rfl rfl (.inl rfl)
theorem c_lanemake_Stream_Flip {s : T_lanemake_Stream} {n : Int} {r : Bool × T_lanemake_Stream} (h : m_lanemake_Stream_Flip s n = some r) : EC Tryz.prog 44 [.ptr 0 0, I n] [.box 25 [.d (Sl (eN .i64) s.L), I s.v_at]] fun g hp' => g = B r.1 ∧ hp' = [.box 25 [.d (Sl (eN .i64) r.2.L), I r.2.v_at]] := by
  refine ec_enter (Fr.of 0 _) Tryz.func44 rfl (Fr.of_ok _) (Nat.le_of_ble_eq_true rfl) fun _ => ?_
  refine go_in ?_
  unfold m_lanemake_Stream_Flip at h
  obtain ⟨y1, hy1, h2⟩ := bi_ok h
  refine go hΓ 9 rfl ?_
  refine eo_callF [0] (I y1.1) [.box 25 [.d (Sl (eN .i64) y1.2.L), I y1.2.v_at]] (callable Tryz.func46 rfl rfl) (c_lanemake_Stream_Next hy1) rfl (Nat.le_of_ble_eq_true rfl) rfl rfl rfl rfl rfl rfl rfl rfl rfl rfl ?_
  refine go_ops hΓ 5 rfl ?_
  obtain rfl := Option.some.inj h2
  exact fin_objs hΓ [] (.inr rfl) rfl rfl rfl rfl (.inl rfl)
theorem c_lanemake_Stream_Some {s : T_lanemake_Stream} {l : List Str} {r : Str × T_lanemake_Stream} (h : m_lanemake_Stream_Some s l = some r) : EC Tryz.prog 17 [.ptr 0 0, .d (Sl eS l)] [.box 25 [.d (Sl (eN .i64) s.L), I s.v_at]] fun g hp' => g = S r.1 ∧ hp' = [.box 25 [.d (Sl (eN .i64) r.2.L), I r.2.v_at]] := by
  refine ec_enter (Fr.of 0 _) Tryz.func17 rfl (Fr.of_ok _) (Nat.le_of_ble_eq_true rfl) fun _ => ?_
  refine go_in ?_
  unfold m_lanemake_Stream_Some at h
  obtain ⟨y1, hy1, h2⟩ := bi_ok h
  refine go hΓ 11 rfl ?_
  refine eo_callF [0] (I y1.1) [.box 25 [.d (Sl (eN .i64) y1.2.L), I y1.2.v_at]] (callable Tryz.func46 rfl rfl) (c_lanemake_Stream_Next hy1) rfl (Nat.le_of_ble_eq_true rfl) rfl rfl rfl rfl rfl rfl rfl rfl rfl rfl ?_
  obtain ⟨x3, hx3, h4⟩ := bi_ok h2
  refine eo_o rfl (op_elemZ hΓ (enc := eS) hx3 rfl rfl rfl rfl rfl (fun _ => rfl)) ?_
  refine go_ops hΓ 5 rfl ?_
  obtain rfl := Option.some.inj h4
  exact fin_objs hΓ [] (.inr rfl) rfl rfl rfl rfl (.inl rfl)
theorem c_lanemake_Stream_Pick {s : T_lanemake_Stream} {l : List Int} {r : Int × T_lanemake_Stream} (h : m_lanemake_Stream_Pick s l = some r) : EC Tryz.prog 79 [.ptr 0 0, .d (Sl (eN .i64) l)] [.box 25 [.d (Sl (eN .i64) s.L), I s.v_at]] fun g hp' => g = I r.1 ∧ hp' = [.box 25 [.d (Sl (eN .i64) r.2.L), I r.2.v_at]] := by
  refine ec_enter (Fr.of 0 _) Tryz.func79 rfl (Fr.of_ok _) (Nat.le_of_ble_eq_true rfl) fun _ => ?_
  refine go_in ?_
  unfold m_lanemake_Stream_Pick at h
  obtain ⟨y1, hy1, h2⟩ := bi_ok h
  refine go hΓ 11 rfl ?_
  refine eo_callF [0] (I y1.1) [.box 25 [.d (Sl (eN .i64) y1.2.L), I y1.2.v_at]] (callable Tryz.func46 rfl rfl) (c_lanemake_Stream_Next hy1) rfl (Nat.le_of_ble_eq_true rfl) rfl rfl rfl rfl rfl rfl rfl rfl rfl rfl ?_
  obtain ⟨x3, hx3, h4⟩ := bi_ok h2
  refine eo_o rfl (op_elemZ hΓ (enc := (eN .i64)) hx3 rfl rfl rfl rfl rfl (fun _ => rfl)) ?_
  refine go_ops hΓ 5 rfl ?_
  obtain rfl := Option.some.inj h4
  exact fin_objs hΓ [] (.inr rfl) rfl rfl rfl rfl (.inl rfl)
theorem c_laneref1_Ops {r : List Str} (h : m_laneref1_Ops = some r) : Pure Tryz.prog 160 [] (.d (Sl eS r)) := by
  refine Pure.enter (Fr.of 0 _) Tryz.func160 rfl (Fr.of_ok _) rfl rfl ?_
  refine go_in ?_
  unfold m_laneref1_Ops at h
  refine go hΓ 7 rfl ?_
  refine eo_litT hΓ (enc := eS) [[61, 61], [33, 61], [60], [60, 61], [62], [62, 61]] rfl rfl rfl rfl rfl rfl rfl rfl rfl rfl rfl rfl (Nat.le_of_ble_eq_true rfl) ?_
  refine go_ops hΓ 4 rfl ?_
  obtain rfl := Option.some.inj h
  exact fin_pure hΓ (.inr rfl) rfl rfl
theorem c_lanemake_Stream_RightCond {k : Nat} {s : T_lanemake_Stream} {most : Int} {r : T_api_Cond × T_lanemake_Stream} (h : m_lanemake_Stream_RightCond k s most = some r) : EC Tryz.prog 78 [.ptr 0 0, I most] [.box 25 [.d (Sl (eN .i64) s.L), I s.v_at]] fun g hp' => g = .agg [I r.1.Kind, S r.1.Name, S r.1.Op, I r.1.Value.Kind, I r.1.Value.Number, S r.1.Value.Words, I r.1.Value.Version.1, I r.1.Value.Version.2.1, I r.1.Value.Version.2.2.1, I r.1.Value.Version.2.2.2, .d (.ro r.1.Kids.n r.1.Kids.xs)] ∧ hp' = [.box 25 [.d (Sl (eN .i64) r.2.L), I r.2.v_at]] := by
  induction k generalizing s most r with
  | zero => unfold m_lanemake_Stream_RightCond at h; cases h
  | succ k ih0 =>
    have ih : ∀ {s : T_lanemake_Stream} {most : Int} {r : T_api_Cond × T_lanemake_Stream}, m_lanemake_Stream_RightCond k s most = some r → EC Tryz.prog 78 [.ptr 0 0, I most] [.box 25 [.d (Sl (eN .i64) s.L), I s.v_at]] fun g hp' => g = .agg [I r.1.Kind, S r.1.Name, S r.1.Op, I r.1.Value.Kind, I r.1.Value.Number, S r.1.Value.Words, I r.1.Value.Version.1, I r.1.Value.Version.2.1, I r.1.Value.Version.2.2.1, I r.1.Value.Version.2.2.2, .d (.ro r.1.Kids.n r.1.Kids.xs)] ∧ hp' = [.box 25 [.d (Sl (eN .i64) r.2.L), I r.2.v_at]] := by intro s most r h; first | exact ih0 h | exact ih0 _ _ _ h
    refine ec_enter (Fr.of 0 _) Tryz.func78 rfl (Fr.of_ok _) (Nat.le_of_ble_eq_true rfl) fun _ => ?_
    refine go_in ?_
    unfold m_lanemake_Stream_RightCond at h
    refine go hΓ 2 rfl ?_
    refine eo_alloc hΓ rfl rfl rfl (Nat.le_of_ble_eq_true rfl) ?_
    refine go_ops hΓ 8 rfl ?_
    obtain ⟨q1, hq1, h2⟩ := bi_ok h
    refine o_cut 3 [(0, .ptr 0 0), (1, I most), (4, .ptr 1 0), (13, B q1.2)] [.box 25 [.d (Sl (eN .i64) q1.1.L), I q1.1.v_at], .box 32 [I 0, S [], S [], I 0, I 0, S [], I 0, I 0, I 0, I 0, .d (.ro (KD.mk 0 []).n (KD.mk 0 []).xs)]] ?_ ?_
    · refine eo_gsplit rfl rfl (fun hb => ?_) (fun hb => ?_)
      · have h3 := cT hq1 hb
        refine go_ops hΓ 4 rfl ?_
        obtain rfl := Option.some.inj h3
        exact ⟨⟨rfl, rfl, rfl, rfl, trivial⟩, [], rfl, .inl rfl⟩
      · have h4 := cF hq1 hb
        obtain ⟨y5, hy5, h6⟩ := bi_ok h4
        refine go_ops hΓ 1 rfl ?_
        refine eo_guard rfl ?_
        refine eo_callF [0] (B y5.1) [.box 25 [.d (Sl (eN .i64) y5.2.L), I y5.2.v_at], .box 32 [I 0, S [], S [], I 0, I 0, S [], I 0, I 0, I 0, I 0, .d (.ro (KD.mk 0 []).n (KD.mk 0 []).xs)]] (callable Tryz.func44 rfl rfl) (c_lanemake_Stream_Flip hy5) rfl (Nat.le_of_ble_eq_true rfl) rfl rfl rfl rfl rfl rfl rfl rfl rfl rfl ?_
        refine go_ops hΓ 2 rfl ?_
        obtain rfl := Option.some.inj h6
        exact ⟨⟨rfl, rfl, rfl, rfl, trivial⟩, [], rfl, .inl rfl⟩
    · refine go_ops hΓ 2 rfl ?_
      refine j_cond rfl (fun hb => ?_) (fun hb => ?_)
      · have h7 := cT h2 hb
        obtain ⟨y8, hy8, h9⟩ := bi_ok h7
        refine go hΓ 4 rfl ?_
        refine eo_callF [0] (I y8.1) [.box 25 [.d (Sl (eN .i64) y8.2.L), I y8.2.v_at], .box 32 [I 0, S [], S [], I 0, I 0, S [], I 0, I 0, I 0, I 0, .d (.ro (KD.mk 0 []).n (KD.mk 0 []).xs)]] (callable Tryz.func46 rfl rfl) (c_lanemake_Stream_Next hy8) rfl (Nat.le_of_ble_eq_true rfl) rfl rfl rfl rfl rfl rfl rfl rfl rfl rfl ?_
        refine go_ops hΓ 9 rfl ?_
        refine j_cond rfl (fun hb => ?_) (fun hb => ?_)
        · have h10 := cT h9 hb
          refine go hΓ 3 rfl ?_
          refine eo_litT hΓ (enc := eS) [[61, 61], [61, 61], [33, 61]] rfl rfl rfl rfl rfl rfl rfl rfl rfl rfl rfl rfl (Nat.le_of_ble_eq_true rfl) ?_
          obtain ⟨y11, hy11, h12⟩ := bi_ok h10
          refine eo_callF [0] (S y11.1) [.box 25 [.d (Sl (eN .i64) y11.2.L), I y11.2.v_at], .box 32 [I 0, S [], S [], I 0, I 0, S [], I 0, I 0, I 0, I 0, .d (.ro (KD.mk 0 []).n (KD.mk 0 []).xs)]] (callable Tryz.func17 rfl rfl) (c_lanemake_Stream_Some hy11) rfl (Nat.le_of_ble_eq_true rfl) rfl rfl rfl rfl rfl rfl rfl rfl rfl rfl ?_
          obtain ⟨y13, hy13, h14⟩ := bi_ok h12
          refine go_ops hΓ 1 rfl ?_
          refine eo_callF [0] (I y13.1) [.box 25 [.d (Sl (eN .i64) y13.2.L), I y13.2.v_at], .box 32 [I 0, S [], S [], I 0, I 0, S [], I 0, I 0, I 0, I 0, .d (.ro (KD.mk 0 []).n (KD.mk 0 []).xs)]] (callable Tryz.func46 rfl rfl) (c_lanemake_Stream_Next hy13) rfl (Nat.le_of_ble_eq_true rfl) rfl rfl rfl rfl rfl rfl rfl rfl rfl rfl ?_
          refine eo_build hΓ (gs := [I 3, I y13.1, S [], I 0, I 0, I 0, I 0]) rfl rfl rfl rfl rfl rfl rfl ?_
          refine eo_s (Nat.le_of_ble_eq_true rfl) (nblt.1 rfl) (ops_nilAt 32 11 10 (OpP.s (op_buildX hΓ [10] (gs := [I 1, S [100, 105, 115, 107], S y11.1, I 3, I y13.1, S [], I 0, I 0, I 0, I 0, .d (.v (.slice none 0 0))]) rfl rfl rfl rfl rfl rfl)) rfl) ?_
          refine eo_shr 2 [24] _ [.box 25 [.d (Sl (eN .i64) y13.2.L), I y13.2.v_at], .box 32 [I 0, S [], S [], I 0, I 0, S [], I 0, I 0, I 0, I 0, .d (.ro (KD.mk 0 []).n (KD.mk 0 []).xs)], .dead] rfl rfl rfl (Nat.le_of_ble_eq_true rfl) ?_
          refine eo_store hΓ rfl rfl rfl rfl rfl rfl rfl rfl (Nat.le_of_ble_eq_true rfl) ?_
          refine eo_hp [.box 25 [.d (Sl (eN .i64) y13.2.L), I y13.2.v_at], .box 32 [I 1, S [100, 105, 115, 107], S y11.1, I 3, I y13.1, S [], I 0, I 0, I 0, I 0, .d (.ro (pk e_api_Cond ([] : List T_api_Cond)).n (pk e_api_Cond ([] : List T_api_Cond)).xs)], .dead] rfl ?_
          refine go_ops hΓ 6 rfl ?_
          obtain rfl := Option.some.inj h14
          exact fin_objs hΓ [_, _] (.inr rfl) rfl rfl rfl rfl (.inr ⟨HB.mk rfl, rfl⟩)
        · have h15 := cF h9 hb
          refine go hΓ 6 rfl ?_
          refine j_cond rfl (fun hb => ?_) (fun hb => ?_)
          · have h16 := cT h15 hb
            obtain ⟨y17, hy17, h18⟩ := bi_ok h16
            refine go hΓ 3 rfl ?_
            refine eo_callP (callable Tryz.func160 rfl rfl) (c_laneref1_Ops hy17) rfl (Nat.le_of_ble_eq_true rfl) rfl rfl rfl rfl rfl ?_
            obtain ⟨y19, hy19, h20⟩ := bi_ok h18
            refine eo_callF [0] (S y19.1) [.box 25 [.d (Sl (eN .i64) y19.2.L), I y19.2.v_at], .box 32 [I 0, S [], S [], I 0, I 0, S [], I 0, I 0, I 0, I 0, .d (.ro (KD.mk 0 []).n (KD.mk 0 []).xs)]] (callable Tryz.func17 rfl rfl) (c_lanemake_Stream_Some hy19) rfl (Nat.le_of_ble_eq_true rfl) rfl rfl rfl rfl rfl rfl rfl rfl rfl rfl ?_
            refine go_ops hΓ 1 rfl ?_
            refine eo_litT hΓ (enc := (eN .i64)) [2, 5, 12] rfl rfl rfl rfl rfl rfl rfl rfl rfl rfl rfl rfl (Nat.le_of_ble_eq_true rfl) ?_
            obtain ⟨y21, hy21, h22⟩ := bi_ok h20
            refine eo_callF [0] (I y21.1) [.box 25 [.d (Sl (eN .i64) y21.2.L), I y21.2.v_at], .box 32 [I 0, S [], S [], I 0, I 0, S [], I 0, I 0, I 0, I 0, .d (.ro (KD.mk 0 []).n (KD.mk 0 []).xs)]] (callable Tryz.func79 rfl rfl) (c_lanemake_Stream_Pick hy21) rfl (Nat.le_of_ble_eq_true rfl) rfl rfl rfl rfl rfl rfl rfl rfl rfl rfl ?_
            refine eo_o rfl (op_buildA hΓ (gs := [I 1, I y21.1, I 0, I 0]) rfl rfl rfl rfl rfl rfl) ?_
            refine eo_build hΓ (gs := [I 4, I 0, S [], I 1, I y21.1, I 0, I 0]) rfl rfl rfl rfl rfl rfl rfl ?_
            refine eo_s (Nat.le_of_ble_eq_true rfl) (nblt.1 rfl) (ops_nilAt 32 11 10 (OpP.s (op_buildX hΓ [10] (gs := [I 1, S [118, 101, 114, 115, 105, 111, 110], S y19.1, I 4, I 0, S [], I 1, I y21.1, I 0, I 0, .d (.v (.slice none 0 0))]) rfl rfl rfl rfl rfl rfl)) rfl) ?_
            refine eo_shr 2 [35] _ [.box 25 [.d (Sl (eN .i64) y21.2.L), I y21.2.v_at], .box 32 [I 0, S [], S [], I 0, I 0, S [], I 0, I 0, I 0, I 0, .d (.ro (KD.mk 0 []).n (KD.mk 0 []).xs)], .dead] rfl rfl rfl (Nat.le_of_ble_eq_true rfl) ?_
            refine eo_store hΓ rfl rfl rfl rfl rfl rfl rfl rfl (Nat.le_of_ble_eq_true rfl) ?_
            refine eo_hp [.box 25 [.d (Sl (eN .i64) y21.2.L), I y21.2.v_at], .box 32 [I 1, S [118, 101, 114, 115, 105, 111, 110], S y19.1, I 4, I 0, S [], I 1, I y21.1, I 0, I 0, .d (.ro (pk e_api_Cond ([] : List T_api_Cond)).n (pk e_api_Cond ([] : List T_api_Cond)).xs)], .dead] rfl ?_
            refine go_ops hΓ 6 rfl ?_
            obtain rfl := Option.some.inj h22
            exact fin_objs hΓ [_, _] (.inr rfl) rfl rfl rfl rfl (.inr ⟨HB.mk rfl, rfl⟩)
          · have h23 := cF h15 hb
            refine go hΓ 6 rfl ?_
            refine j_cond rfl (fun hb => ?_) (fun hb => ?_)
            · have h24 := cT h23 hb
              refine go hΓ 3 rfl ?_
              refine eo_litT hΓ (enc := eS) [[115, 105, 122, 101], [111, 115]] rfl rfl rfl rfl rfl rfl rfl rfl rfl rfl rfl rfl (Nat.le_of_ble_eq_true rfl) ?_
              obtain ⟨y25, hy25, h26⟩ := bi_ok h24
              refine eo_callF [0] (S y25.1) [.box 25 [.d (Sl (eN .i64) y25.2.L), I y25.2.v_at], .box 32 [I 0, S [], S [], I 0, I 0, S [], I 0, I 0, I 0, I 0, .d (.ro (KD.mk 0 []).n (KD.mk 0 []).xs)]] (callable Tryz.func17 rfl rfl) (c_lanemake_Stream_Some hy25) rfl (Nat.le_of_ble_eq_true rfl) rfl rfl rfl rfl rfl rfl rfl rfl rfl rfl ?_
              obtain ⟨y27, hy27, h28⟩ := bi_ok h26
              refine go_ops hΓ 1 rfl ?_
              refine eo_callP (callable Tryz.func160 rfl rfl) (c_laneref1_Ops hy27) rfl (Nat.le_of_ble_eq_true rfl) rfl rfl rfl rfl rfl ?_
              obtain ⟨y29, hy29, h30⟩ := bi_ok h28
              refine eo_callF [0] (S y29.1) [.box 25 [.d (Sl (eN .i64) y29.2.L), I y29.2.v_at], .box 32 [I 0, S [], S [], I 0, I 0, S [], I 0, I 0, I 0, I 0, .d (.ro (KD.mk 0 []).n (KD.mk 0 []).xs)]] (callable Tryz.func17 rfl rfl) (c_lanemake_Stream_Some hy29) rfl (Nat.le_of_ble_eq_true rfl) rfl rfl rfl rfl rfl rfl rfl rfl rfl rfl ?_
              refine go_ops hΓ 1 rfl ?_
              refine eo_litT hΓ (enc := (eN .i64)) [0, 5, -3] rfl rfl rfl rfl rfl rfl rfl rfl rfl rfl rfl rfl (Nat.le_of_ble_eq_true rfl) ?_
              obtain ⟨y31, hy31, h32⟩ := bi_ok h30
              refine eo_callF [0] (I y31.1) [.box 25 [.d (Sl (eN .i64) y31.2.L), I y31.2.v_at], .box 32 [I 0, S [], S [], I 0, I 0, S [], I 0, I 0, I 0, I 0, .d (.ro (KD.mk 0 []).n (KD.mk 0 []).xs)]] (callable Tryz.func79 rfl rfl) (c_lanemake_Stream_Pick hy31) rfl (Nat.le_of_ble_eq_true rfl) rfl rfl rfl rfl rfl rfl rfl rfl rfl rfl ?_
              refine eo_build hΓ (gs := [I 1, I y31.1, S [], I 0, I 0, I 0, I 0]) rfl rfl rfl rfl rfl rfl rfl ?_
              refine eo_s (Nat.le_of_ble_eq_true rfl) (nblt.1 rfl) (ops_nilAt 32 11 10 (OpP.s (op_buildX hΓ [10] (gs := [I 1, S y25.1, S y29.1, I 1, I y31.1, S [], I 0, I 0, I 0, I 0, .d (.v (.slice none 0 0))]) rfl rfl rfl rfl rfl rfl)) rfl) ?_
              refine eo_shr 2 [48] _ [.box 25 [.d (Sl (eN .i64) y31.2.L), I y31.2.v_at], .box 32 [I 0, S [], S [], I 0, I 0, S [], I 0, I 0, I 0, I 0, .d (.ro (KD.mk 0 []).n (KD.mk 0 []).xs)], .dead] rfl rfl rfl (Nat.le_of_ble_eq_true rfl) ?_
              refine eo_store hΓ rfl rfl rfl rfl rfl rfl rfl rfl (Nat.le_of_ble_eq_true rfl) ?_
              refine eo_hp [.box 25 [.d (Sl (eN .i64) y31.2.L), I y31.2.v_at], .box 32 [I 1, S y25.1, S y29.1, I 1, I y31.1, S [], I 0, I 0, I 0, I 0, .d (.ro (pk e_api_Cond ([] : List T_api_Cond)).n (pk e_api_Cond ([] : List T_api_Cond)).xs)], .dead] rfl ?_
              refine go_ops hΓ 6 rfl ?_
              obtain rfl := Option.some.inj h32
              exact fin_objs hΓ [_, _] (.inr rfl) rfl rfl rfl rfl (.inr ⟨HB.mk rfl, rfl⟩)
            · have h33 := cF h23 hb
              obtain ⟨y34, hy34, h35⟩ := bi_ok h33
              refine go hΓ 6 rfl ?_
              refine eo_callP (callable Tryz.func160 rfl rfl) (c_laneref1_Ops hy34) rfl (Nat.le_of_ble_eq_true rfl) rfl rfl rfl rfl rfl ?_
              obtain ⟨y36, hy36, h37⟩ := bi_ok h35
              refine eo_callF [0] (S y36.1) [.box 25 [.d (Sl (eN .i64) y36.2.L), I y36.2.v_at], .box 32 [I 0, S [], S [], I 0, I 0, S [], I 0, I 0, I 0, I 0, .d (.ro (KD.mk 0 []).n (KD.mk 0 []).xs)]] (callable Tryz.func17 rfl rfl) (c_lanemake_Stream_Some hy36) rfl (Nat.le_of_ble_eq_true rfl) rfl rfl rfl rfl rfl rfl rfl rfl rfl rfl ?_
              refine go_ops hΓ 1 rfl ?_
              refine eo_litT hΓ (enc := eS) [[108, 105, 110, 117, 120], [109, 97, 99], [120, 34, 121, 92, 122]] rfl rfl rfl rfl rfl rfl rfl rfl rfl rfl rfl rfl (Nat.le_of_ble_eq_true rfl) ?_
              obtain ⟨y38, hy38, h39⟩ := bi_ok h37
              refine eo_callF [0] (S y38.1) [.box 25 [.d (Sl (eN .i64) y38.2.L), I y38.2.v_at], .box 32 [I 0, S [], S [], I 0, I 0, S [], I 0, I 0, I 0, I 0, .d (.ro (KD.mk 0 []).n (KD.mk 0 []).xs)]] (callable Tryz.func17 rfl rfl) (c_lanemake_Stream_Some hy38) rfl (Nat.le_of_ble_eq_true rfl) rfl rfl rfl rfl rfl rfl rfl rfl rfl rfl ?_
              refine eo_build hΓ (gs := [I 2, I 0, S y38.1, I 0, I 0, I 0, I 0]) rfl rfl rfl rfl rfl rfl rfl ?_
              refine eo_s (Nat.le_of_ble_eq_true rfl) (nblt.1 rfl) (ops_nilAt 32 11 10 (OpP.s (op_buildX hΓ [10] (gs := [I 1, S [111, 115], S y36.1, I 2, I 0, S y38.1, I 0, I 0, I 0, I 0, .d (.v (.slice none 0 0))]) rfl rfl rfl rfl rfl rfl)) rfl) ?_
              refine eo_shr 2 [56] _ [.box 25 [.d (Sl (eN .i64) y38.2.L), I y38.2.v_at], .box 32 [I 0, S [], S [], I 0, I 0, S [], I 0, I 0, I 0, I 0, .d (.ro (KD.mk 0 []).n (KD.mk 0 []).xs)], .dead] rfl rfl rfl (Nat.le_of_ble_eq_true rfl) ?_
              refine eo_store hΓ rfl rfl rfl rfl rfl rfl rfl rfl (Nat.le_of_ble_eq_true rfl) ?_
              refine eo_hp [.box 25 [.d (Sl (eN .i64) y38.2.L), I y38.2.v_at], .box 32 [I 1, S [111, 115], S y36.1, I 2, I 0, S y38.1, I 0, I 0, I 0, I 0, .d (.ro (pk e_api_Cond ([] : List T_api_Cond)).n (pk e_api_Cond ([] : List T_api_Cond)).xs)], .dead] rfl ?_
              refine go_ops hΓ 4 rfl ?_
              obtain rfl := Option.some.inj h39
              exact fin_objs hΓ [_, _] (.inr rfl) rfl rfl rfl rfl (.inr ⟨HB.mk rfl, rfl⟩)
      · have h40 := cF h2 hb
        refine go hΓ 5 rfl ?_
        refine eo_litT hΓ (enc := (eN .i64)) [2, 3, 4] rfl rfl rfl rfl rfl rfl rfl rfl rfl rfl rfl rfl (Nat.le_of_ble_eq_true rfl) ?_
        obtain ⟨y41, hy41, h42⟩ := bi_ok h40
        refine eo_callF [0] (I y41.1) [.box 25 [.d (Sl (eN .i64) y41.2.L), I y41.2.v_at], .box 32 [I 0, S [], S [], I 0, I 0, S [], I 0, I 0, I 0, I 0, .d (.ro (KD.mk 0 []).n (KD.mk 0 []).xs)]] (callable Tryz.func79 rfl rfl) (c_lanemake_Stream_Pick hy41) rfl (Nat.le_of_ble_eq_true rfl) rfl rfl rfl rfl rfl rfl rfl rfl rfl rfl ?_
        refine eo_s (Nat.le_of_ble_eq_true rfl) (nblt.1 rfl) (ops_nilAt 32 11 10 (OpP.s (op_buildX hΓ [10] (gs := [I y41.1, S [], S [], I 0, I 0, S [], I 0, I 0, I 0, I 0, .d (.v (.slice none 0 0))]) rfl rfl rfl rfl rfl rfl)) rfl) ?_
        refine eo_alloc hΓ rfl rfl rfl (Nat.le_of_ble_eq_true rfl) ?_
        refine eo_store hΓ rfl rfl rfl rfl rfl rfl rfl rfl (Nat.le_of_ble_eq_true rfl) ?_
        refine eo_hp [.box 25 [.d (Sl (eN .i64) y41.2.L), I y41.2.v_at], .box 32 [I 0, S [], S [], I 0, I 0, S [], I 0, I 0, I 0, I 0, .d (.ro (KD.mk 0 []).n (KD.mk 0 []).xs)], .row 32 11 ([] : List T_api_Cond).length (([] : List T_api_Cond).flatMap e_api_Cond), .box 32 [I y41.1, S [], S [], I 0, I 0, S [], I 0, I 0, I 0, I 0, .sl 2 ([] : List T_api_Cond).length]] rfl ?_
        obtain ⟨q43, hq43, h44⟩ := bi_ok h42
        refine go_ops hΓ 15 rfl ?_
        refine j_cutNZ [(0, .ptr 0 0), (1, I most), (4, .ptr 1 0), (5, .ptr 3 0), (6, I q43.2)] [.box 25 [.d (Sl (eN .i64) q43.1.L), I q43.1.v_at], .box 32 [I 0, S [], S [], I 0, I 0, S [], I 0, I 0, I 0, I 0, .d (.ro (KD.mk 0 []).n (KD.mk 0 []).xs)], .row 32 11 ([] : List T_api_Cond).length (([] : List T_api_Cond).flatMap e_api_Cond), .box 32 [I y41.1, S [], S [], I 0, I 0, S [], I 0, I 0, I 0, I 0, .sl 2 ([] : List T_api_Cond).length]] ?_ ?_
        · refine j_cond rfl (fun hb => ?_) (fun hb => ?_)
          · have h45 := cT hq43 hb
            refine go hΓ 2 rfl ?_
            refine eo_litT hΓ (enc := (eN .i64)) [2, 2, 3] rfl rfl rfl rfl rfl rfl rfl rfl rfl rfl rfl rfl (Nat.le_of_ble_eq_true rfl) ?_
            obtain ⟨y46, hy46, h47⟩ := bi_ok h45
            refine eo_callF [0] (I y46.1) [.box 25 [.d (Sl (eN .i64) y46.2.L), I y46.2.v_at], .box 32 [I 0, S [], S [], I 0, I 0, S [], I 0, I 0, I 0, I 0, .d (.ro (KD.mk 0 []).n (KD.mk 0 []).xs)], .row 32 11 ([] : List T_api_Cond).length (([] : List T_api_Cond).flatMap e_api_Cond), .box 32 [I y41.1, S [], S [], I 0, I 0, S [], I 0, I 0, I 0, I 0, .sl 2 ([] : List T_api_Cond).length]] (callable Tryz.func79 rfl rfl) (c_lanemake_Stream_Pick hy46) rfl (Nat.le_of_ble_eq_true rfl) rfl rfl rfl rfl rfl rfl rfl rfl rfl rfl ?_
            refine go_ops hΓ 2 rfl ?_
            obtain rfl := Option.some.inj h47
            exact ⟨⟨rfl, rfl, rfl, rfl, rfl, trivial⟩, [], rfl, .inl rfl⟩
          · have h48 := cF hq43 hb
            refine go hΓ 1 rfl ?_
            obtain rfl := Option.some.inj h48
            exact ⟨⟨rfl, rfl, rfl, rfl, rfl, trivial⟩, [], rfl, .inl rfl⟩
        · refine go hΓ 8 rfl ?_
          obtain ⟨q52, hq52, h53⟩ := bi_ok h44
          obtain ⟨hb55, h56⟩ := gd_ok hq52
          replace hb55 := of_decide_eq_true hb55
          refine j_cutNZ [(4, .ptr 1 0), (5, .ptr 3 0)] [.box 25 [.d (Sl (eN .i64) q52.1.L), I q52.1.v_at], .box 32 [I 0, S [], S [], I 0, I 0, S [], I 0, I 0, I 0, I 0, .d (.ro (KD.mk 0 []).n (KD.mk 0 []).xs)], .row 32 11 q52.2.length (q52.2.flatMap e_api_Cond), .box 32 [I y41.1, S [], S [], I 0, I 0, S [], I 0, I 0, I 0, I 0, .sl 2 q52.2.length]] ?_ ?_
          · refine go hΓ 1 rfl ?_
            refine j_rangeG h56 (fun i49 s50 => [(0, .ptr 0 0), (1, I most), (4, .ptr 1 0), (5, .ptr 3 0), (67, I q43.2), (68, I (i49 : Int))]) (fun s50 => [.box 25 [.d (Sl (eN .i64) s50.1.L), I s50.1.v_at], .box 32 [I 0, S [], S [], I 0, I 0, S [], I 0, I 0, I 0, I 0, .d (.ro (KD.mk 0 []).n (KD.mk 0 []).xs)], .row 32 11 s50.2.length (s50.2.flatMap e_api_Cond), .box 32 [I y41.1, S [], S [], I 0, I 0, S [], I 0, I 0, I 0, I 0, .sl 2 s50.2.length]]) ⟨⟨rfl, rfl, rfl, rfl, rfl, rfl, trivial⟩, [], rfl, .inl rfl⟩ (fun i49 s50 y60 hlt hy58 => ?_) (fun hge => ?_)
            · refine go hΓ 6 rfl ?_
              refine j_condT rfl (decide_eq_true hlt) ?_
              obtain ⟨y61, hy61, h62⟩ := bi_ok hy58
              refine go hΓ 9 rfl ?_
              refine eo_callF [0] (.agg [I y61.1.Kind, S y61.1.Name, S y61.1.Op, I y61.1.Value.Kind, I y61.1.Value.Number, S y61.1.Value.Words, I y61.1.Value.Version.1, I y61.1.Value.Version.2.1, I y61.1.Value.Version.2.2.1, I y61.1.Value.Version.2.2.2, .d (.ro y61.1.Kids.n y61.1.Kids.xs)]) [.box 25 [.d (Sl (eN .i64) y61.2.L), I y61.2.v_at], .box 32 [I 0, S [], S [], I 0, I 0, S [], I 0, I 0, I 0, I 0, .d (.ro (KD.mk 0 []).n (KD.mk 0 []).xs)], .row 32 11 s50.2.length (s50.2.flatMap e_api_Cond), .box 32 [I y41.1, S [], S [], I 0, I 0, S [], I 0, I 0, I 0, I 0, .sl 2 s50.2.length]] (callable Tryz.func78 rfl rfl) (ih hy61) rfl (Nat.le_of_ble_eq_true rfl) rfl rfl rfl rfl rfl rfl rfl rfl rfl rfl ?_
              refine eo_alloc hΓ rfl rfl rfl (Nat.le_of_ble_eq_true rfl) ?_
              refine eo_store hΓ rfl rfl rfl rfl rfl rfl rfl rfl (Nat.le_of_ble_eq_true rfl) ?_
              refine eo_hp [.box 25 [.d (Sl (eN .i64) y61.2.L), I y61.2.v_at], .box 32 [I 0, S [], S [], I 0, I 0, S [], I 0, I 0, I 0, I 0, .d (.ro (KD.mk 0 []).n (KD.mk 0 []).xs)], .row 32 11 s50.2.length (s50.2.flatMap e_api_Cond), .box 32 [I y41.1, S [], S [], I 0, I 0, S [], I 0, I 0, I 0, I 0, .sl 2 s50.2.length], .box 32 [I y61.1.Kind, S y61.1.Name, S y61.1.Op, I y61.1.Value.Kind, I y61.1.Value.Number, S y61.1.Value.Words, I y61.1.Value.Version.1, I y61.1.Value.Version.2.1, I y61.1.Value.Version.2.2.1, I y61.1.Value.Version.2.2.2, .d (.ro y61.1.Kids.n y61.1.Kids.xs)]] rfl ?_
              refine go_ops hΓ 10 rfl ?_
              refine o_cut 4 [(0, .ptr 0 0), (1, I most), (4, .ptr 1 0), (5, .ptr 3 0), (7, .ptr 4 0), (67, I q43.2), (68, I (i49 : Int)), (83, B (((y61.1.Kind : Int) == y41.1) && ((y41.1 : Int) != 2)))] [.box 25 [.d (Sl (eN .i64) y61.2.L), I y61.2.v_at], .box 32 [I 0, S [], S [], I 0, I 0, S [], I 0, I 0, I 0, I 0, .d (.ro (KD.mk 0 []).n (KD.mk 0 []).xs)], .row 32 11 s50.2.length (s50.2.flatMap e_api_Cond), .box 32 [I y41.1, S [], S [], I 0, I 0, S [], I 0, I 0, I 0, I 0, .sl 2 s50.2.length], .box 32 [I y61.1.Kind, S y61.1.Name, S y61.1.Op, I y61.1.Value.Kind, I y61.1.Value.Number, S y61.1.Value.Words, I y61.1.Value.Version.1, I y61.1.Value.Version.2.1, I y61.1.Value.Version.2.2.1, I y61.1.Value.Version.2.2.2, .d (.ro y61.1.Kids.n y61.1.Kids.xs)]] ?_ ?_
              · refine eo_gsplit rfl rfl (fun hb => ?_) (fun hb => ?_)
                · refine go_ops hΓ 5 rfl ?_
                  exact ⟨⟨rfl, rfl, rfl, rfl, rfl, rfl, rfl, get_b rfl (and_t hb), trivial⟩, [], rfl, .inl rfl⟩
                · refine go_ops hΓ 5 rfl ?_
                  exact ⟨⟨rfl, rfl, rfl, rfl, rfl, rfl, rfl, get_b rfl (and_f hb), trivial⟩, [], rfl, .inl rfl⟩
              · refine go_ops hΓ 2 rfl ?_
                refine j_cond rfl (fun hb => ?_) (fun hb => ?_)
                · have h63 := cT h62 hb
                  obtain ⟨l64, hl64, h65⟩ := bi_ok h63
                  refine go hΓ 4 rfl ?_
                  refine eo_o rfl (op_le (pst_ok hΓ (g := .d (.ro y61.1.Kids.n y61.1.Kids.xs)) rfl) (G.Le.unk dk_api_Cond hl64)) ?_
                  obtain ⟨y66, hy66, h67⟩ := bi_ok h65
                  refine eo_forg 2 [.box 25 [.d (Sl (eN .i64) y61.2.L), I y61.2.v_at], .box 32 [I 0, S [], S [], I 0, I 0, S [], I 0, I 0, I 0, I 0, .d (.ro (KD.mk 0 []).n (KD.mk 0 []).xs)], .row 32 11 s50.2.length (s50.2.flatMap e_api_Cond), .box 32 [I y41.1, S [], S [], I 0, I 0, S [], I 0, I 0, I 0, I 0, .junk], .box 32 [I y61.1.Kind, S y61.1.Name, S y61.1.Op, I y61.1.Value.Kind, I y61.1.Value.Number, S y61.1.Value.Words, I y61.1.Value.Version.1, I y61.1.Value.Version.2.1, I y61.1.Value.Version.2.2.1, I y61.1.Value.Version.2.2.2, .d (.ro y61.1.Kids.n y61.1.Kids.xs)]] rfl (Nat.le_of_ble_eq_true rfl) ?_
                  refine eo_appendT hΓ (enc := e_api_Cond) hy66 rfl rfl rfl rfl rfl rfl rfl rfl rfl (fun _ => rfl) rfl rfl rfl rfl ?_
                  refine go_ops hΓ 1 rfl ?_
                  refine eo_store hΓ rfl rfl rfl rfl rfl rfl rfl rfl (Nat.le_of_ble_eq_true rfl) ?_
                  refine eo_hp [.box 25 [.d (Sl (eN .i64) y61.2.L), I y61.2.v_at], .box 32 [I 0, S [], S [], I 0, I 0, S [], I 0, I 0, I 0, I 0, .d (.ro (KD.mk 0 []).n (KD.mk 0 []).xs)], .row 32 11 y66.length (y66.flatMap e_api_Cond), .box 32 [I y41.1, S [], S [], I 0, I 0, S [], I 0, I 0, I 0, I 0, .sl 2 y66.length], .box 32 [I y61.1.Kind, S y61.1.Name, S y61.1.Op, I y61.1.Value.Kind, I y61.1.Value.Number, S y61.1.Value.Words, I y61.1.Value.Version.1, I y61.1.Value.Version.2.1, I y61.1.Value.Version.2.2.1, I y61.1.Value.Version.2.2.2, .d (.ro y61.1.Kids.n y61.1.Kids.xs)]] rfl ?_
                  refine go_ops hΓ 7 rfl ?_
                  obtain rfl := Option.some.inj h67
                  exact ⟨⟨rfl, rfl, rfl, rfl, rfl, get_eq rfl (w64_succ (by omega)), trivial⟩, [_], rfl, .inr ⟨HB.mk rfl, FB.mk rfl, (Nat.le_of_ble_eq_true rfl)⟩⟩
                · have h68 := cF h62 hb
                  refine go hΓ 4 rfl ?_
                  refine eo_litT hΓ (enc := e_api_Cond) [y61.1] rfl rfl rfl rfl rfl rfl rfl rfl rfl rfl rfl rfl (Nat.le_of_ble_eq_true rfl) ?_
                  obtain ⟨y69, hy69, h70⟩ := bi_ok h68
                  refine eo_forg 2 [.box 25 [.d (Sl (eN .i64) y61.2.L), I y61.2.v_at], .box 32 [I 0, S [], S [], I 0, I 0, S [], I 0, I 0, I 0, I 0, .d (.ro (KD.mk 0 []).n (KD.mk 0 []).xs)], .row 32 11 s50.2.length (s50.2.flatMap e_api_Cond), .box 32 [I y41.1, S [], S [], I 0, I 0, S [], I 0, I 0, I 0, I 0, .junk], .box 32 [I y61.1.Kind, S y61.1.Name, S y61.1.Op, I y61.1.Value.Kind, I y61.1.Value.Number, S y61.1.Value.Words, I y61.1.Value.Version.1, I y61.1.Value.Version.2.1, I y61.1.Value.Version.2.2.1, I y61.1.Value.Version.2.2.2, .d (.ro y61.1.Kids.n y61.1.Kids.xs)]] rfl (Nat.le_of_ble_eq_true rfl) ?_
                  refine eo_appendT hΓ (enc := e_api_Cond) hy69 rfl rfl rfl rfl rfl rfl rfl rfl rfl (fun _ => rfl) rfl rfl rfl rfl ?_
                  refine go_ops hΓ 1 rfl ?_
                  refine eo_store hΓ rfl rfl rfl rfl rfl rfl rfl rfl (Nat.le_of_ble_eq_true rfl) ?_
                  refine eo_hp [.box 25 [.d (Sl (eN .i64) y61.2.L), I y61.2.v_at], .box 32 [I 0, S [], S [], I 0, I 0, S [], I 0, I 0, I 0, I 0, .d (.ro (KD.mk 0 []).n (KD.mk 0 []).xs)], .row 32 11 y69.length (y69.flatMap e_api_Cond), .box 32 [I y41.1, S [], S [], I 0, I 0, S [], I 0, I 0, I 0, I 0, .sl 2 y69.length], .box 32 [I y61.1.Kind, S y61.1.Name, S y61.1.Op, I y61.1.Value.Kind, I y61.1.Value.Number, S y61.1.Value.Words, I y61.1.Value.Version.1, I y61.1.Value.Version.2.1, I y61.1.Value.Version.2.2.1, I y61.1.Value.Version.2.2.2, .d (.ro y61.1.Kids.n y61.1.Kids.xs)]] rfl ?_
                  refine go_ops hΓ 7 rfl ?_
                  obtain rfl := Option.some.inj h70
                  exact ⟨⟨rfl, rfl, rfl, rfl, rfl, get_eq rfl (w64_succ (by omega)), trivial⟩, [_], rfl, .inr ⟨HB.mk rfl, FB.mk rfl, (Nat.le_of_ble_eq_true rfl)⟩⟩
            · refine go hΓ 6 rfl ?_
              refine j_condF rfl (decide_eq_false hge) ?_
              refine go hΓ 4 rfl ?_
              exact ⟨⟨rfl, rfl, trivial⟩, [], rfl, .inl rfl⟩
          · refine go hΓ 4 rfl ?_
            refine eo_shr 2 [97] _ [.box 25 [.d (Sl (eN .i64) q52.1.L), I q52.1.v_at], .box 32 [I 0, S [], S [], I 0, I 0, S [], I 0, I 0, I 0, I 0, .d (.ro (KD.mk 0 []).n (KD.mk 0 []).xs)], .dead, .box 32 [I y41.1, S [], S [], I 0, I 0, S [], I 0, I 0, I 0, I 0, .d (.ro (pk e_api_Cond q52.2).n (pk e_api_Cond q52.2).xs)]] rfl rfl rfl (Nat.le_of_ble_eq_true rfl) ?_
            refine eo_store hΓ rfl rfl rfl rfl rfl rfl rfl rfl (Nat.le_of_ble_eq_true rfl) ?_
            refine eo_hp [.box 25 [.d (Sl (eN .i64) q52.1.L), I q52.1.v_at], .box 32 [I y41.1, S [], S [], I 0, I 0, S [], I 0, I 0, I 0, I 0, .d (.ro (pk e_api_Cond q52.2).n (pk e_api_Cond q52.2).xs)], .dead, .box 32 [I y41.1, S [], S [], I 0, I 0, S [], I 0, I 0, I 0, I 0, .d (.ro (pk e_api_Cond q52.2).n (pk e_api_Cond q52.2).xs)]] rfl ?_
            refine go_ops hΓ 3 rfl ?_
            obtain rfl := Option.some.inj h53
            exact fin_objs hΓ [_, _, _] (.inr rfl) rfl rfl rfl rfl (.inr ⟨HB.mk rfl, rfl⟩)
set_option maxHeartbeats 8000000 in
theorem c_laneref1_AttrText {k : Nat} {a : T_api_Attr} {r : Str} (h : m_laneref1_AttrText k a = some r) : Pure Tryz.prog 158 [.agg [I a.Kind, I a.Number, S a.Words, I a.Version.1, I a.Version.2.1, I a.Version.2.2.1, I a.Version.2.2.2]] (S r) := by
  refine Pure.enter (Fr.of 0 _) Tryz.func158 rfl (Fr.of_ok _) rfl rfl ?_
  refine go_in ?_
  unfold m_laneref1_AttrText at h
  refine go hΓ 2 rfl ?_
  refine eo_box rfl rfl rfl rfl (Nat.le_of_ble_eq_true rfl) ?_
  refine go_ops hΓ 17 rfl ?_
  refine j_cond rfl (fun hb => ?_) (fun hb => ?_)
  · have h1 := cT h hb
    obtain ⟨y2, hy2, h3⟩ := bi_ok h1
    refine go hΓ 4 rfl ?_
    refine eo_callP (callable Tryz.func207 rfl rfl) (c_strconv_Itoa hy2) rfl (Nat.le_of_ble_eq_true rfl) rfl rfl rfl rfl rfl ?_
    refine go_ops hΓ 6 rfl ?_
    obtain rfl := Option.some.inj h3
    exact fin_pure hΓ (.inr rfl) rfl rfl
  · have h4 := cF h hb
    refine go hΓ 6 rfl ?_
    refine j_cond rfl (fun hb => ?_) (fun hb => ?_)
    · have h5 := cT h4 hb
      refine go hΓ 2 rfl ?_
      refine eo_litT hΓ (enc := eS) [[102, 97, 108, 115, 101], [116, 114, 117, 101]] rfl rfl rfl rfl rfl rfl rfl rfl rfl rfl rfl rfl (Nat.le_of_ble_eq_true rfl) ?_
      obtain ⟨x6, hx6, h7⟩ := bi_ok h5
      refine go_ops hΓ 2 rfl ?_
      refine eo_o rfl (op_elemZ hΓ (enc := eS) hx6 rfl rfl rfl rfl rfl (fun _ => rfl)) ?_
      refine go_ops hΓ 7 rfl ?_
      obtain rfl := Option.some.inj h7
      exact fin_pure hΓ (.inr rfl) rfl rfl
    · have h8 := cF h4 hb
      refine go hΓ 6 rfl ?_
      refine j_cond rfl (fun hb => ?_) (fun hb => ?_)
      · have h9 := cT h8 hb
        refine go hΓ 2 rfl ?_
        refine eo_nilOwn (t := 0) 9 1 rfl (Nat.le_of_ble_eq_true rfl) ?_
        refine go_ops hΓ 10 rfl ?_
        obtain ⟨q13, hq13, h14⟩ := bi_ok h9
        refine j_cutNZ [(3, .sl 1 q13.length)] [.box 29 [I a.Kind, I a.Number, S a.Words, I a.Version.1, I a.Version.2.1, I a.Version.2.2.1, I a.Version.2.2.2], .row 9 1 q13.length (q13.flatMap eS)] ?_ ?_
        · refine go hΓ 1 rfl ?_
          refine j_loop hq13 (fun s11 => [(3, .sl 1 s11.1.length), (23, .agg [I a.Version.1, I a.Version.2.1, I a.Version.2.2.1, I a.Version.2.2.2]), (24, I s11.2)]) (fun s11 => [.box 29 [I a.Kind, I a.Number, S a.Words, I a.Version.1, I a.Version.2.1, I a.Version.2.2.1, I a.Version.2.2.2], .row 9 1 s11.1.length (s11.1.flatMap eS)]) ⟨⟨rfl, rfl, rfl, trivial⟩, [], rfl, .inl rfl⟩ (fun s11 y19 hy17 hout18 => ?_)
          refine go hΓ 6 rfl ?_
          refine j_cond rfl (fun hb => ?_) (fun hb => ?_)
          · have h20 := cT hy17 hb
            obtain ⟨x21, hx21, h22⟩ := bi_ok h20
            refine go hΓ 6 rfl ?_
            refine eo_o rfl (op_indexArrZ hΓ (enc := (eN .i64)) [a.Version.1, a.Version.2.1, a.Version.2.2.1, a.Version.2.2.2] hx21 rfl rfl rfl rfl rfl rfl rfl (fun _ => rfl) rfl) ?_
            obtain ⟨y23, hy23, h24⟩ := bi_ok h22
            refine go_ops hΓ 6 rfl ?_
            refine eo_callP (callable Tryz.func207 rfl rfl) (c_strconv_Itoa hy23) rfl (Nat.le_of_ble_eq_true rfl) rfl rfl rfl rfl rfl ?_
            refine eo_litT hΓ (enc := eS) [y23] rfl rfl rfl rfl rfl rfl rfl rfl rfl rfl rfl rfl (Nat.le_of_ble_eq_true rfl) ?_
            obtain ⟨y25, hy25, h26⟩ := bi_ok h24
            refine eo_appendT hΓ (enc := eS) hy25 rfl rfl rfl rfl rfl rfl rfl rfl rfl (fun _ => rfl) rfl rfl rfl rfl ?_
            refine go_ops hΓ 8 rfl ?_
            obtain rfl := Option.some.inj h26
            exact ⟨_, rfl, ⟨⟨rfl, rfl, rfl, trivial⟩, [], rfl, .inl rfl⟩⟩
          · have h27 := cF hy17 hb
            refine go hΓ 4 rfl ?_
            obtain rfl := Option.some.inj h27
            obtain rfl := hout18 _ rfl
            exact ⟨⟨rfl, trivial⟩, [], rfl, .inl rfl⟩
        · obtain ⟨y28, hy28, h29⟩ := bi_ok h14
          refine go hΓ 4 rfl ?_
          refine eo_callL (callable Tryz.func159 rfl rfl) (c_strings_Join hy28) rfl (Nat.le_of_ble_eq_true rfl) rfl rfl rfl rfl rfl ?_
          obtain ⟨y30, hy30, h31⟩ := bi_ok h29
          refine eo_o rfl (op_catZ hy30 rfl rfl) ?_
          refine go_ops hΓ 6 rfl ?_
          obtain rfl := Option.some.inj h31
          exact fin_pure hΓ (.inr rfl) rfl rfl
      · have h32 := cF h8 hb
        obtain ⟨y33, hy33, h34⟩ := bi_ok h32
        refine go hΓ 7 rfl ?_
        refine eo_callP (callable Tryz.func208 rfl rfl) (c_strings_ReplaceAll hy33) rfl (Nat.le_of_ble_eq_true rfl) rfl rfl rfl rfl rfl ?_
        obtain ⟨y35, hy35, h36⟩ := bi_ok h34
        refine eo_callP (callable Tryz.func208 rfl rfl) (c_strings_ReplaceAll hy35) rfl (Nat.le_of_ble_eq_true rfl) rfl rfl rfl rfl rfl ?_
        obtain ⟨y37, hy37, h38⟩ := bi_ok h36
        refine eo_o rfl (op_catZ hy37 rfl rfl) ?_
        obtain ⟨y39, hy39, h40⟩ := bi_ok h38
        refine eo_o rfl (op_catZ hy39 rfl rfl) ?_
        refine go_ops hΓ 4 rfl ?_
        obtain rfl := Option.some.inj h40
        exact fin_pure hΓ (.inr rfl) rfl rfl
theorem c_laneref1_CondText {k : Nat} {c : T_api_Cond} {r : Str} (h : m_laneref1_CondText k c = some r) : Pure Tryz.prog 77 [.agg [I c.Kind, S c.Name, S c.Op, I c.Value.Kind, I c.Value.Number, S c.Value.Words, I c.Value.Version.1, I c.Value.Version.2.1, I c.Value.Version.2.2.1, I c.Value.Version.2.2.2, .d (.ro c.Kids.n c.Kids.xs)]] (S r) := by
  induction k generalizing c r with
  | zero => unfold m_laneref1_CondText at h; cases h
  | succ k ih0 =>
    have ih : ∀ {c : T_api_Cond} {r : Str}, m_laneref1_CondText k c = some r → Pure Tryz.prog 77 [.agg [I c.Kind, S c.Name, S c.Op, I c.Value.Kind, I c.Value.Number, S c.Value.Words, I c.Value.Version.1, I c.Value.Version.2.1, I c.Value.Version.2.2.1, I c.Value.Version.2.2.2, .d (.ro c.Kids.n c.Kids.xs)]] (S r) := by intro c r h; first | exact ih0 h | exact ih0 _ _ h
    refine Pure.enter (Fr.of 0 _) Tryz.func77 rfl (Fr.of_ok _) rfl rfl ?_
    refine go_in ?_
    unfold m_laneref1_CondText at h
    refine go hΓ 2 rfl ?_
    refine eo_box rfl rfl rfl rfl (Nat.le_of_ble_eq_true rfl) ?_
    refine go_ops hΓ 5 rfl ?_
    refine eo_nilOwn (t := 0) 9 1 rfl (Nat.le_of_ble_eq_true rfl) ?_
    obtain ⟨l1, hl1, h2⟩ := bi_ok h
    refine go_ops hΓ 6 rfl ?_
    refine eo_o rfl (op_le (pst_ok hΓ (g := .d (.ro c.Kids.n c.Kids.xs)) rfl) (G.Le.unk dk_api_Cond hl1)) ?_
    refine go_ops hΓ 4 rfl ?_
    obtain ⟨q6, hq6, h7⟩ := bi_ok h2
    refine j_bound 8 rfl fun hb9 => ?_
    refine j_cutNZ [(1, .ptr 0 0), (3, .sl 1 q6.length)] [.box 32 [I c.Kind, S c.Name, S c.Op, I c.Value.Kind, I c.Value.Number, S c.Value.Words, I c.Value.Version.1, I c.Value.Version.2.1, I c.Value.Version.2.2.1, I c.Value.Version.2.2.2, .d (.ro c.Kids.n c.Kids.xs)], .row 9 1 q6.length (q6.flatMap eS)] ?_ ?_
    · refine go hΓ 1 rfl ?_
      refine j_rangeF l1 hq6 (fun i3 s4 => [(1, .ptr 0 0), (3, .sl 1 s4.length), (8, .d (Sl e_api_Cond l1)), (9, I (l1.length : Int)), (10, I (i3 : Int))]) (fun s4 => [.box 32 [I c.Kind, S c.Name, S c.Op, I c.Value.Kind, I c.Value.Number, S c.Value.Words, I c.Value.Version.1, I c.Value.Version.2.1, I c.Value.Version.2.2.1, I c.Value.Version.2.2.2, .d (.ro c.Kids.n c.Kids.xs)], .row 9 1 s4.length (s4.flatMap eS)]) ⟨⟨rfl, rfl, rfl, rfl, rfl, trivial⟩, [], rfl, .inl rfl⟩ (fun i3 x5 s4 y13 hx10 hlt hy11 => ?_) (?_)
      · refine go hΓ 6 rfl ?_
        refine j_condT rfl (decide_eq_true (Int.ofNat_lt.2 hlt)) ?_
        refine go hΓ 6 rfl ?_
        refine eo_o rfl (op_elemZ hΓ (enc := e_api_Cond) (getZ_nat hx10) rfl rfl rfl rfl rfl (fun _ => rfl)) ?_
        refine go_ops hΓ 1 rfl ?_
        refine eo_alloc hΓ rfl rfl rfl (Nat.le_of_ble_eq_true rfl) ?_
        refine eo_store hΓ rfl rfl rfl rfl rfl rfl rfl rfl (Nat.le_of_ble_eq_true rfl) ?_
        refine eo_hp [.box 32 [I c.Kind, S c.Name, S c.Op, I c.Value.Kind, I c.Value.Number, S c.Value.Words, I c.Value.Version.1, I c.Value.Version.2.1, I c.Value.Version.2.2.1, I c.Value.Version.2.2.2, .d (.ro c.Kids.n c.Kids.xs)], .row 9 1 s4.length (s4.flatMap eS), .box 32 [I x5.Kind, S x5.Name, S x5.Op, I x5.Value.Kind, I x5.Value.Number, S x5.Value.Words, I x5.Value.Version.1, I x5.Value.Version.2.1, I x5.Value.Version.2.2.1, I x5.Value.Version.2.2.2, .d (.ro x5.Kids.n x5.Kids.xs)]] rfl ?_
        obtain ⟨y14, hy14, h15⟩ := bi_ok hy11
        refine go_ops hΓ 5 rfl ?_
        refine eo_callP (callable Tryz.func77 rfl rfl) (ih hy14) rfl (Nat.le_of_ble_eq_true rfl) rfl rfl rfl rfl rfl ?_
        refine go_ops hΓ 10 rfl ?_
        refine o_cut 4 [(1, .ptr 0 0), (3, .sl 1 s4.length), (5, .ptr 2 0), (6, S y14), (8, .d (Sl e_api_Cond l1)), (9, I (l1.length : Int)), (10, I (i3 : Int)), (23, B (((c.Kind : Int) == 2) && ((x5.Kind : Int) != 2)))] [.box 32 [I c.Kind, S c.Name, S c.Op, I c.Value.Kind, I c.Value.Number, S c.Value.Words, I c.Value.Version.1, I c.Value.Version.2.1, I c.Value.Version.2.2.1, I c.Value.Version.2.2.2, .d (.ro c.Kids.n c.Kids.xs)], .row 9 1 s4.length (s4.flatMap eS), .box 32 [I x5.Kind, S x5.Name, S x5.Op, I x5.Value.Kind, I x5.Value.Number, S x5.Value.Words, I x5.Value.Version.1, I x5.Value.Version.2.1, I x5.Value.Version.2.2.1, I x5.Value.Version.2.2.2, .d (.ro x5.Kids.n x5.Kids.xs)]] ?_ ?_
        · refine eo_gsplit rfl rfl (fun hb => ?_) (fun hb => ?_)
          · refine go_ops hΓ 5 rfl ?_
            exact ⟨⟨rfl, rfl, rfl, rfl, rfl, rfl, rfl, get_b rfl (and_t hb), trivial⟩, [], rfl, .inl rfl⟩
          · refine go_ops hΓ 5 rfl ?_
            exact ⟨⟨rfl, rfl, rfl, rfl, rfl, rfl, rfl, get_b rfl (and_f hb), trivial⟩, [], rfl, .inl rfl⟩
        · refine go_ops hΓ 1 rfl ?_
          refine o_cut 9 [(1, .ptr 0 0), (3, .sl 1 s4.length), (6, S y14), (8, .d (Sl e_api_Cond l1)), (9, I (l1.length : Int)), (10, I (i3 : Int)), (33, B ((((c.Kind : Int) == 2) && ((x5.Kind : Int) != 2)) || (((c.Kind : Int) == 3) && ((x5.Kind : Int) == 4))))] [.box 32 [I c.Kind, S c.Name, S c.Op, I c.Value.Kind, I c.Value.Number, S c.Value.Words, I c.Value.Version.1, I c.Value.Version.2.1, I c.Value.Version.2.2.1, I c.Value.Version.2.2.2, .d (.ro c.Kids.n c.Kids.xs)], .row 9 1 s4.length (s4.flatMap eS), .box 32 [I x5.Kind, S x5.Name, S x5.Op, I x5.Value.Kind, I x5.Value.Number, S x5.Value.Words, I x5.Value.Version.1, I x5.Value.Version.2.1, I x5.Value.Version.2.2.1, I x5.Value.Version.2.2.2, .d (.ro x5.Kids.n x5.Kids.xs)]] ?_ ?_
          · refine eo_gsplit rfl rfl (fun hb => ?_) (fun hb => ?_)
            · refine go_ops hΓ 10 rfl ?_
              exact ⟨⟨rfl, rfl, rfl, rfl, rfl, rfl, get_b rfl (or_t hb), trivial⟩, [], rfl, .inl rfl⟩
            · refine go_ops hΓ 4 rfl ?_
              refine o_cut 4 [(1, .ptr 0 0), (3, .sl 1 s4.length), (6, S y14), (8, .d (Sl e_api_Cond l1)), (9, I (l1.length : Int)), (10, I (i3 : Int)), (24, B false), (32, B (((c.Kind : Int) == 3) && ((x5.Kind : Int) == 4)))] [.box 32 [I c.Kind, S c.Name, S c.Op, I c.Value.Kind, I c.Value.Number, S c.Value.Words, I c.Value.Version.1, I c.Value.Version.2.1, I c.Value.Version.2.2.1, I c.Value.Version.2.2.2, .d (.ro c.Kids.n c.Kids.xs)], .row 9 1 s4.length (s4.flatMap eS), .box 32 [I x5.Kind, S x5.Name, S x5.Op, I x5.Value.Kind, I x5.Value.Number, S x5.Value.Words, I x5.Value.Version.1, I x5.Value.Version.2.1, I x5.Value.Version.2.2.1, I x5.Value.Version.2.2.2, .d (.ro x5.Kids.n x5.Kids.xs)]] ?_ ?_
              · refine eo_gsplit rfl rfl (fun hb => ?_) (fun hb => ?_)
                · refine go_ops hΓ 5 rfl ?_
                  exact ⟨⟨rfl, rfl, rfl, rfl, rfl, rfl, rfl, get_b rfl (and_t hb), trivial⟩, [], rfl, .inl rfl⟩
                · refine go_ops hΓ 5 rfl ?_
                  exact ⟨⟨rfl, rfl, rfl, rfl, rfl, rfl, rfl, get_b rfl (and_f hb), trivial⟩, [], rfl, .inl rfl⟩
              · refine go_ops hΓ 2 rfl ?_
                exact ⟨⟨rfl, rfl, rfl, rfl, rfl, rfl, get_b rfl (or_f hb), trivial⟩, [], rfl, .inl rfl⟩
          · obtain ⟨q16, hq16, h17⟩ := bi_ok h15
            refine go_ops hΓ 2 rfl ?_
            refine j_cutNZ [(1, .ptr 0 0), (3, .sl 1 s4.length), (6, S q16), (8, .d (Sl e_api_Cond l1)), (9, I (l1.length : Int)), (10, I (i3 : Int))] [.box 32 [I c.Kind, S c.Name, S c.Op, I c.Value.Kind, I c.Value.Number, S c.Value.Words, I c.Value.Version.1, I c.Value.Version.2.1, I c.Value.Version.2.2.1, I c.Value.Version.2.2.2, .d (.ro c.Kids.n c.Kids.xs)], .row 9 1 s4.length (s4.flatMap eS), .box 32 [I x5.Kind, S x5.Name, S x5.Op, I x5.Value.Kind, I x5.Value.Number, S x5.Value.Words, I x5.Value.Version.1, I x5.Value.Version.2.1, I x5.Value.Version.2.2.1, I x5.Value.Version.2.2.2, .d (.ro x5.Kids.n x5.Kids.xs)]] ?_ ?_
            · refine j_cond rfl (fun hb => ?_) (fun hb => ?_)
              · have h18 := cT hq16 hb
                obtain ⟨y19, hy19, h20⟩ := bi_ok h18
                refine go hΓ 2 rfl ?_
                refine eo_o rfl (op_catZ hy19 rfl rfl) ?_
                obtain ⟨y21, hy21, h22⟩ := bi_ok h20
                refine eo_o rfl (op_catZ hy21 rfl rfl) ?_
                refine go_ops hΓ 2 rfl ?_
                obtain rfl := Option.some.inj h22
                exact ⟨⟨rfl, rfl, rfl, rfl, rfl, rfl, trivial⟩, [], rfl, .inl rfl⟩
              · have h23 := cF hq16 hb
                refine go hΓ 1 rfl ?_
                obtain rfl := Option.some.inj h23
                exact ⟨⟨rfl, rfl, rfl, rfl, rfl, rfl, trivial⟩, [], rfl, .inl rfl⟩
            · refine go hΓ 4 rfl ?_
              refine eo_litT hΓ (enc := eS) [q16] rfl rfl rfl rfl rfl rfl rfl rfl rfl rfl rfl rfl (Nat.le_of_ble_eq_true rfl) ?_
              obtain ⟨y24, hy24, h25⟩ := bi_ok h17
              refine eo_appendT hΓ (enc := eS) hy24 rfl rfl rfl rfl rfl rfl rfl rfl rfl (fun _ => rfl) rfl rfl rfl rfl ?_
              refine go_ops hΓ 8 rfl ?_
              obtain rfl := Option.some.inj h25
              exact ⟨⟨rfl, rfl, rfl, rfl, get_eq rfl (w64_succ (Nat.lt_of_lt_of_le hlt hb9)), trivial⟩, [_], rfl, .inr ⟨HB.mk rfl, FB.mk rfl, (Nat.le_of_ble_eq_true rfl)⟩⟩
      · refine go hΓ 6 rfl ?_
        refine j_condF rfl (decide_eq_false (Int.lt_irrefl _)) ?_
        refine go hΓ 4 rfl ?_
        exact ⟨⟨rfl, rfl, trivial⟩, [], rfl, .inl rfl⟩
    · refine go hΓ 15 rfl ?_
      refine j_cond rfl (fun hb => ?_) (fun hb => ?_)
      · have h26 := cT h7 hb
        refine go hΓ 1 rfl ?_
        refine j_draw hmix (by kernel_rfl) ?_
        obtain ⟨y27, hy27, h28⟩ := bi_ok h26
        refine go hΓ 2 rfl ?_
        refine gl_o rfl (op_catZ hy27 rfl rfl) ?_
        obtain ⟨y29, hy29, h30⟩ := bi_ok h28
        refine go_draw hΓ 2 rfl ?_
        refine gl_o rfl (op_catZ hy29 rfl rfl) ?_
        obtain ⟨y31, hy31, h32⟩ := bi_ok h30
        refine gl_o rfl (op_catZ hy31 rfl rfl) ?_
        obtain ⟨y33, hy33, h34⟩ := bi_ok h32
        refine go_draw hΓ 2 rfl ?_
        refine gl_callP (callable Tryz.func158 rfl rfl) (c_laneref1_AttrText hy33) rfl rfl rfl rfl rfl rfl ?_
        obtain ⟨y35, hy35, h36⟩ := bi_ok h34
        refine gl_o rfl (op_catZ hy35 rfl rfl) ?_
        refine go_draw hΓ 6 rfl ?_
        obtain rfl := Option.some.inj h36
        exact fin_pure hΓ (.inr rfl) rfl rfl
      · have h37 := cF h7 hb
        refine go hΓ 6 rfl ?_
        refine j_cond rfl (fun hb => ?_) (fun hb => ?_)
        · have h38 := cT h37 hb
          obtain ⟨x39, hx39, h40⟩ := bi_ok h38
          have hj41 := getZ_at hx39
          refine go hΓ 3 rfl ?_
          refine eo_o rfl (op_elemRowZ hΓ hx39 rfl rfl rfl rfl rfl rfl) ?_
          refine eo_o rfl (op_loadRowZ hΓ (sz := 1) (enc := eS) ((0 : Int).toNat) 0 hj41 rfl rfl rfl rfl (fun _ => rfl) (g := S x39) rfl) ?_
          obtain ⟨y42, hy42, h43⟩ := bi_ok h40
          refine eo_o rfl (op_catZ hy42 rfl rfl) ?_
          refine go_ops hΓ 6 rfl ?_
          obtain rfl := Option.some.inj h43
          exact fin_pure hΓ (.inr rfl) rfl rfl
        · have h44 := cF h37 hb
          refine go hΓ 6 rfl ?_
          refine j_cond rfl (fun hb => ?_) (fun hb => ?_)
          · have h45 := cT h44 hb
            obtain ⟨y46, hy46, h47⟩ := bi_ok h45
            refine go hΓ 3 rfl ?_
            refine eo_callL (callable Tryz.func159 rfl rfl) (c_strings_Join hy46) rfl (Nat.le_of_ble_eq_true rfl) rfl rfl rfl rfl rfl ?_
            refine go_ops hΓ 6 rfl ?_
            obtain rfl := Option.some.inj h47
            exact fin_pure hΓ (.inr rfl) rfl rfl
          · have h48 := cF h44 hb
            obtain ⟨y49, hy49, h50⟩ := bi_ok h48
            refine go hΓ 6 rfl ?_
            refine eo_callL (callable Tryz.func159 rfl rfl) (c_strings_Join hy49) rfl (Nat.le_of_ble_eq_true rfl) rfl rfl rfl rfl rfl ?_
            refine go_ops hΓ 4 rfl ?_
            obtain rfl := Option.some.inj h50
            exact fin_pure hΓ (.inr rfl) rfl rfl
set_option maxHeartbeats 8000000 in
theorem c_lanemake_Stream_Changed {s : T_lanemake_Stream} {t : Str} {v_with : Str} {r : Str × T_lanemake_Stream} (h : m_lanemake_Stream_Changed s t v_with = some r) : EC Tryz.prog 80 [.ptr 0 0, S t, S v_with] [.box 25 [.d (Sl (eN .i64) s.L), I s.v_at]] fun g hp' => g = S r.1 ∧ hp' = [.box 25 [.d (Sl (eN .i64) r.2.L), I r.2.v_at]] := by
  refine ec_enter (Fr.of 0 _) Tryz.func80 rfl (Fr.of_ok _) (Nat.le_of_ble_eq_true rfl) fun _ => ?_
  refine go_in ?_
  unfold m_lanemake_Stream_Changed at h
  refine go hΓ 11 rfl ?_
  refine o_cut 3 [(0, .ptr 0 0), (1, S t), (2, S v_with), (14, B (((t : Str) == []) || ((v_with : Str) == [])))] [.box 25 [.d (Sl (eN .i64) s.L), I s.v_at]] ?_ ?_
  · refine eo_gsplit rfl rfl (fun hb => ?_) (fun hb => ?_)
    · refine go_ops hΓ 4 rfl ?_
      exact ⟨⟨rfl, rfl, rfl, get_b rfl (or_t hb), trivial⟩, [], rfl, .inl rfl⟩
    · refine go_ops hΓ 4 rfl ?_
      exact ⟨⟨rfl, rfl, rfl, get_b rfl (or_f hb), trivial⟩, [], rfl, .inl rfl⟩
  · refine go_ops hΓ 2 rfl ?_
    refine j_cond rfl (fun hb => ?_) (fun hb => ?_)
    · have h1 := cT h hb
      refine go hΓ 8 rfl ?_
      obtain rfl := Option.some.inj h1
      exact fin_objs hΓ [] (.inr rfl) rfl rfl rfl rfl (.inl rfl)
    · have h2 := cF h hb
      obtain ⟨y3, hy3, h4⟩ := bi_ok h2
      refine go hΓ 7 rfl ?_
      refine eo_callF [0] (I y3.1) [.box 25 [.d (Sl (eN .i64) y3.2.L), I y3.2.v_at]] (callable Tryz.func46 rfl rfl) (c_lanemake_Stream_Next hy3) rfl (Nat.le_of_ble_eq_true rfl) rfl rfl rfl rfl rfl rfl rfl rfl rfl rfl ?_
      obtain ⟨y5, hy5, h6⟩ := bi_ok h4
      refine go_ops hΓ 9 rfl ?_
      refine eo_callF [0] (I y5.1) [.box 25 [.d (Sl (eN .i64) y5.2.L), I y5.2.v_at]] (callable Tryz.func46 rfl rfl) (c_lanemake_Stream_Next hy5) rfl (Nat.le_of_ble_eq_true rfl) rfl rfl rfl rfl rfl rfl rfl rfl rfl rfl ?_
      obtain ⟨c7, hc7, h8⟩ := bi_ok h6
      refine eo_o rfl (op_byteZ hΓ hc7 rfl rfl rfl rfl) ?_
      obtain ⟨y9, hy9, h10⟩ := bi_ok h8
      refine go_ops hΓ 7 rfl ?_
      refine eo_callF [0] (I y9.1) [.box 25 [.d (Sl (eN .i64) y9.2.L), I y9.2.v_at]] (callable Tryz.func46 rfl rfl) (c_lanemake_Stream_Next hy9) rfl (Nat.le_of_ble_eq_true rfl) rfl rfl rfl rfl rfl rfl rfl rfl rfl rfl ?_
      refine go_ops hΓ 9 rfl ?_
      refine j_cond rfl (fun hb => ?_) (fun hb => ?_)
      · have h11 := cT h10 hb
        refine go hΓ 1 rfl ?_
        refine j_draw hmix (by kernel_rfl) ?_
        obtain ⟨z12, hz12, h13⟩ := bi_ok h11
        refine go hΓ 2 rfl ?_
        refine gl_o rfl (op_subZ hΓ hz12 rfl rfl rfl rfl rfl) ?_
        refine go_draw hΓ 2 rfl ?_
        refine gl_o rfl (op_runeS hΓ rfl rfl rfl rfl rfl) ?_
        obtain ⟨y14, hy14, h15⟩ := bi_ok h13
        refine gl_o rfl (op_catZ hy14 rfl rfl) ?_
        obtain ⟨z16, hz16, h17⟩ := bi_ok h15
        refine go_draw hΓ 3 rfl ?_
        refine gl_o rfl (op_subZ hΓ hz16 rfl rfl rfl rfl rfl) ?_
        obtain ⟨y18, hy18, h19⟩ := bi_ok h17
        refine gl_o rfl (op_catZ hy18 rfl rfl) ?_
        refine go_draw hΓ 6 rfl ?_
        obtain rfl := Option.some.inj h19
        exact fin_objs hΓ [] (.inr rfl) rfl rfl rfl rfl (.inl rfl)
      · have h20 := cF h10 hb
        refine go hΓ 6 rfl ?_
        refine j_cond rfl (fun hb => ?_) (fun hb => ?_)
        · have h21 := cT h20 hb
          refine go hΓ 1 rfl ?_
          refine j_draw hmix (by kernel_rfl) ?_
          obtain ⟨z22, hz22, h23⟩ := bi_ok h21
          refine go hΓ 2 rfl ?_
          refine gl_o rfl (op_subZ hΓ hz22 rfl rfl rfl rfl rfl) ?_
          refine go_draw hΓ 2 rfl ?_
          refine gl_o rfl (op_runeS hΓ rfl rfl rfl rfl rfl) ?_
          obtain ⟨y24, hy24, h25⟩ := bi_ok h23
          refine gl_o rfl (op_catZ hy24 rfl rfl) ?_
          obtain ⟨z26, hz26, h27⟩ := bi_ok h25
          refine go_draw hΓ 2 rfl ?_
          refine gl_o rfl (op_subZ hΓ hz26 rfl rfl rfl rfl rfl) ?_
          obtain ⟨y28, hy28, h29⟩ := bi_ok h27
          refine gl_o rfl (op_catZ hy28 rfl rfl) ?_
          refine go_draw hΓ 6 rfl ?_
          obtain rfl := Option.some.inj h29
          exact fin_objs hΓ [] (.inr rfl) rfl rfl rfl rfl (.inl rfl)
        · have h30 := cF h20 hb
          refine go hΓ 4 rfl ?_
          refine j_draw hmix (by kernel_rfl) ?_
          obtain ⟨z31, hz31, h32⟩ := bi_ok h30
          refine go hΓ 2 rfl ?_
          refine gl_o rfl (op_subZ hΓ hz31 rfl rfl rfl rfl rfl) ?_
          obtain ⟨z33, hz33, h34⟩ := bi_ok h32
          refine go_draw hΓ 3 rfl ?_
          refine gl_o rfl (op_subZ hΓ hz33 rfl rfl rfl rfl rfl) ?_
          obtain ⟨y35, hy35, h36⟩ := bi_ok h34
          refine gl_o rfl (op_catZ hy35 rfl rfl) ?_
          refine go_draw hΓ 4 rfl ?_
          obtain rfl := Option.some.inj h36
          exact fin_objs hΓ [] (.inr rfl) rfl rfl rfl rfl (.inl rfl)
theorem c_lanemake_Stream_CondString {k : Nat} {s : T_lanemake_Stream} {r : Str × T_lanemake_Stream} (h : m_lanemake_Stream_CondString k s = some r) : EC Tryz.prog 8 [.ptr 0 0] [.box 25 [.d (Sl (eN .i64) s.L), I s.v_at]] fun g hp' => g = S r.1 ∧ hp' = [.box 25 [.d (Sl (eN .i64) r.2.L), I r.2.v_at]] := by
  refine ec_enter (Fr.of 0 _) Tryz.func8 rfl (Fr.of_ok _) (Nat.le_of_ble_eq_true rfl) fun _ => ?_
  refine go_in ?_
  unfold m_lanemake_Stream_CondString at h
  obtain ⟨y1, hy1, h2⟩ := bi_ok h
  refine go hΓ 9 rfl ?_
  refine eo_callF [0] (B y1.1) [.box 25 [.d (Sl (eN .i64) y1.2.L), I y1.2.v_at]] (callable Tryz.func44 rfl rfl) (c_lanemake_Stream_Flip hy1) rfl (Nat.le_of_ble_eq_true rfl) rfl rfl rfl rfl rfl rfl rfl rfl rfl rfl ?_
  refine go_ops hΓ 2 rfl ?_
  refine j_cond rfl (fun hb => ?_) (fun hb => ?_)
  · have h3 := cT h2 hb
    refine go hΓ 3 rfl ?_
    refine eo_litT hΓ (enc := eS) [[97], [33, 97], [97, 38, 38, 98, 124, 124, 99], [40, 97, 38, 38, 40, 98, 38, 38, 99, 41, 41], [97, 61, 61, 53], [97, 32, 61, 61, 32, 34, 120, 92, 34, 34], [97, 32, 61, 61, 32, 118, 49], [97, 32, 61, 61, 32, 118, 49, 46, 50, 46, 51, 46, 52], [97, 32, 61, 61, 32, 118, 49, 46, 50, 46, 51, 46, 52, 46, 53], [97, 32, 61, 61, 32, 118, 49, 46], [97, 32, 60, 32, 116, 114, 117, 101], [97, 32, 61, 61, 32, 45, 53], [97, 32, 61, 61, 32, 45, 32, 53], [97, 32, 61, 61, 32, 48, 53], [116, 114, 117, 101], [118, 49, 32, 61, 61, 32, 49], [], [40], [97, 41], [97, 32, 98], [97, 32, 38, 32, 98], [33, 33, 97], [97, 61, 61, 34, 92, 120, 34], [97, 10, 38, 38, 10, 98], [97, 32, 61, 61, 32, 34, 120], [97, 61, 61, 49, 50, 51, 52, 53, 54, 55, 56, 57, 48], [97, 124, 124, 40, 98, 124, 124, 99, 41, 38, 38, 100], [40, 40, 97, 41, 41]] rfl rfl rfl rfl rfl rfl rfl rfl rfl rfl rfl rfl (Nat.le_of_ble_eq_true rfl) ?_
    obtain ⟨y4, hy4, h5⟩ := bi_ok h3
    refine eo_callF [0] (S y4.1) [.box 25 [.d (Sl (eN .i64) y4.2.L), I y4.2.v_at]] (callable Tryz.func17 rfl rfl) (c_lanemake_Stream_Some hy4) rfl (Nat.le_of_ble_eq_true rfl) rfl rfl rfl rfl rfl rfl rfl rfl rfl rfl ?_
    refine go_ops hΓ 5 rfl ?_
    obtain rfl := Option.some.inj h5
    exact fin_objs hΓ [] (.inr rfl) rfl rfl rfl rfl (.inl rfl)
  · have h6 := cF h2 hb
    refine go hΓ 6 rfl ?_
    refine eo_litT hΓ (enc := (eN .i64)) [1, 2] rfl rfl rfl rfl rfl rfl rfl rfl rfl rfl rfl rfl (Nat.le_of_ble_eq_true rfl) ?_
    obtain ⟨y7, hy7, h8⟩ := bi_ok h6
    refine eo_callF [0] (I y7.1) [.box 25 [.d (Sl (eN .i64) y7.2.L), I y7.2.v_at]] (callable Tryz.func79 rfl rfl) (c_lanemake_Stream_Pick hy7) rfl (Nat.le_of_ble_eq_true rfl) rfl rfl rfl rfl rfl rfl rfl rfl rfl rfl ?_
    obtain ⟨y9, hy9, h10⟩ := bi_ok h8
    refine eo_callF [0] (.agg [I y9.1.Kind, S y9.1.Name, S y9.1.Op, I y9.1.Value.Kind, I y9.1.Value.Number, S y9.1.Value.Words, I y9.1.Value.Version.1, I y9.1.Value.Version.2.1, I y9.1.Value.Version.2.2.1, I y9.1.Value.Version.2.2.2, .d (.ro y9.1.Kids.n y9.1.Kids.xs)]) [.box 25 [.d (Sl (eN .i64) y9.2.L), I y9.2.v_at]] (callable Tryz.func78 rfl rfl) (c_lanemake_Stream_RightCond hy9) rfl (Nat.le_of_ble_eq_true rfl) rfl rfl rfl rfl rfl rfl rfl rfl rfl rfl ?_
    obtain ⟨y11, hy11, h12⟩ := bi_ok h10
    refine eo_callP (callable Tryz.func77 rfl rfl) (c_laneref1_CondText hy11) rfl (Nat.le_of_ble_eq_true rfl) rfl rfl rfl rfl rfl ?_
    refine go_ops hΓ 7 rfl ?_
    refine eo_litT hΓ (enc := (eN .i64)) [0, 0, 1, 2] rfl rfl rfl rfl rfl rfl rfl rfl rfl rfl rfl rfl (Nat.le_of_ble_eq_true rfl) ?_
    obtain ⟨y13, hy13, h14⟩ := bi_ok h12
    refine eo_callF [0] (I y13.1) [.box 25 [.d (Sl (eN .i64) y13.2.L), I y13.2.v_at]] (callable Tryz.func79 rfl rfl) (c_lanemake_Stream_Pick hy13) rfl (Nat.le_of_ble_eq_true rfl) rfl rfl rfl rfl rfl rfl rfl rfl rfl rfl ?_
    refine go_ops hΓ 3 rfl ?_
    obtain ⟨q18, hq18, h19⟩ := bi_ok h14
    obtain ⟨hb21, h22⟩ := gd_ok hq18
    replace hb21 := of_decide_eq_true hb21
    refine j_cutNZ [(3, S q18.2)] [.box 25 [.d (Sl (eN .i64) q18.1.L), I q18.1.v_at]] ?_ ?_
    · refine go hΓ 1 rfl ?_
      refine j_rangeG h22 (fun i15 s16 => [(0, .ptr 0 0), (3, S s16.2), (17, I y13.1), (18, I (i15 : Int))]) (fun s16 => [.box 25 [.d (Sl (eN .i64) s16.1.L), I s16.1.v_at]]) ⟨⟨rfl, rfl, rfl, rfl, trivial⟩, [], rfl, .inl rfl⟩ (fun i15 s16 y26 hlt hy24 => ?_) (fun hge => ?_)
      · refine go hΓ 6 rfl ?_
        refine j_condT rfl (decide_eq_true hlt) ?_
        obtain ⟨y27, hy27, h28⟩ := bi_ok hy24
        refine go hΓ 7 rfl ?_
        refine eo_callF [0] (S y27.1) [.box 25 [.d (Sl (eN .i64) y27.2.L), I y27.2.v_at]] (callable Tryz.func80 rfl rfl) (c_lanemake_Stream_Changed hy27) rfl (Nat.le_of_ble_eq_true rfl) rfl rfl rfl rfl rfl rfl rfl rfl rfl rfl ?_
        refine go_ops hΓ 8 rfl ?_
        obtain rfl := Option.some.inj h28
        exact ⟨⟨rfl, rfl, rfl, get_eq rfl (w64_succ (by omega)), trivial⟩, [], rfl, .inl rfl⟩
      · refine go hΓ 6 rfl ?_
        refine j_condF rfl (decide_eq_false hge) ?_
        refine go hΓ 4 rfl ?_
        exact ⟨⟨rfl, trivial⟩, [], rfl, .inl rfl⟩
    · refine go hΓ 8 rfl ?_
      obtain rfl := Option.some.inj h19
      exact fin_objs hΓ [] (.inr rfl) rfl rfl rfl rfl (.inl rfl)
theorem c_posture_isDigit {c : Int} {r : Bool} (h : m_posture_isDigit c = some r) : Pure Tryz.prog 212 [.d (.v (.int .u8 c))] (B r) := by
  refine Pure.enter (Fr.of 0 _) Tryz.func212 rfl (Fr.of_ok _) rfl rfl ?_
  refine go_in ?_
  unfold m_posture_isDigit at h
  refine go hΓ 10 rfl ?_
  refine o_cut 3 [(2, B false), (8, B ((decide ((c : Int) ≥ 48)) && (decide ((c : Int) ≤ 57))))] [] ?_ ?_
  · refine eo_gsplit rfl rfl (fun hb => ?_) (fun hb => ?_)
    · refine go_ops hΓ 4 rfl ?_
      exact ⟨⟨rfl, get_b rfl (and_t hb), trivial⟩, [], rfl, .inl rfl⟩
    · refine go_ops hΓ 4 rfl ?_
      exact ⟨⟨rfl, get_b rfl (and_f hb), trivial⟩, [], rfl, .inl rfl⟩
  · refine go_ops hΓ 4 rfl ?_
    obtain rfl := Option.some.inj h
    exact fin_pure hΓ (.inr rfl) rfl rfl
theorem c_posture_digits {k : Nat} {s : Str} {v_at : Int} {r : Int} (h : m_posture_digits k s v_at = some r) : Pure Tryz.prog 279 [S s, I v_at] (I r) := by
  refine Pure.enter (Fr.of 0 _) Tryz.func279 rfl (Fr.of_ok _) rfl rfl ?_
  refine go_in ?_
  unfold m_posture_digits at h
  refine go hΓ 6 rfl ?_
  obtain ⟨q4, hq4, h5⟩ := bi_ok h
  refine j_cutNZ [(1, I q4)] [] ?_ ?_
  · refine go hΓ 1 rfl ?_
    refine j_loop hq4 (fun s2 => [(0, S s), (1, I s2)]) (fun s2 => []) ⟨⟨rfl, rfl, trivial⟩, [], rfl, .inl rfl⟩ (fun s2 y10 hy8 hout9 => ?_)
    refine go hΓ 8 rfl ?_
    obtain ⟨q11, hq11, h12⟩ := bi_ok hy8
    refine o_cut 5 [(0, S s), (1, I s2), (14, B q11)] [] ?_ ?_
    · refine eo_gsplit rfl rfl (fun hb => ?_) (fun hb => ?_)
      · have h13 := cT hq11 hb
        obtain ⟨c14, hc14, h15⟩ := bi_ok h13
        refine go_ops hΓ 2 rfl ?_
        refine eo_guard rfl ?_
        refine eo_o rfl (op_byteZ hΓ hc14 rfl rfl rfl rfl) ?_
        obtain ⟨y16, hy16, h17⟩ := bi_ok h15
        refine eo_guard rfl ?_
        refine eo_callP (callable Tryz.func212 rfl rfl) (c_posture_isDigit hy16) rfl (Nat.le_of_ble_eq_true rfl) rfl rfl rfl rfl rfl ?_
        refine go_ops hΓ 2 rfl ?_
        obtain rfl := Option.some.inj h17
        exact ⟨⟨rfl, rfl, rfl, trivial⟩, [], rfl, .inl rfl⟩
      · have h18 := cF hq11 hb
        refine go_ops hΓ 6 rfl ?_
        obtain rfl := Option.some.inj h18
        exact ⟨⟨rfl, rfl, rfl, trivial⟩, [], rfl, .inl rfl⟩
    · refine go_ops hΓ 2 rfl ?_
      refine j_cond rfl (fun hb => ?_) (fun hb => ?_)
      · have h19 := cT h12 hb
        refine go hΓ 9 rfl ?_
        obtain rfl := Option.some.inj h19
        exact ⟨_, rfl, ⟨⟨rfl, rfl, trivial⟩, [], rfl, .inl rfl⟩⟩
      · have h20 := cF h12 hb
        refine go hΓ 4 rfl ?_
        obtain rfl := Option.some.inj h20
        obtain rfl := hout9 _ rfl
        exact ⟨⟨rfl, trivial⟩, [], rfl, .inl rfl⟩
  · refine go hΓ 8 rfl ?_
    obtain rfl := Option.some.inj h5
    exact fin_pure hΓ (.inr rfl) rfl rfl
set_option maxHeartbeats 8000000 in
theorem c_kit_Number {k : Nat} {s : Str} {most : Int} {r : Int × Bool} (h : m_kit_Number k s most = some r) : Pure Tryz.prog 335 [S s, I most] (.tup [I r.1, B r.2]) := by
  refine Pure.enter (Fr.of 0 _) Tryz.func335 rfl (Fr.of_ok _) rfl rfl ?_
  refine go_in ?_
  unfold m_kit_Number at h
  obtain ⟨y1, hy1, h2⟩ := bi_ok h
  refine go hΓ 9 rfl ?_
  refine eo_callP (callable Tryz.func224 rfl rfl) (c_strings_TrimPrefix hy1) rfl (Nat.le_of_ble_eq_true rfl) rfl rfl rfl rfl rfl ?_
  refine go_ops hΓ 9 rfl ?_
  refine o_cut 5 [(0, S s), (6, S y1), (19, B (((y1 : Str) == []) || (decide (((y1.length : Int) : Int) > most))))] [] ?_ ?_
  · refine eo_gsplit rfl rfl (fun hb => ?_) (fun hb => ?_)
    · refine go_ops hΓ 6 rfl ?_
      exact ⟨⟨rfl, rfl, get_b rfl (or_t hb), trivial⟩, [], rfl, .inl rfl⟩
    · refine go_ops hΓ 6 rfl ?_
      exact ⟨⟨rfl, rfl, get_b rfl (or_f hb), trivial⟩, [], rfl, .inl rfl⟩
  · refine go_ops hΓ 1 rfl ?_
    obtain ⟨q3, hq3, h4⟩ := bi_ok h2
    refine o_cut 8 [(0, S s), (6, S y1), (28, B q3)] [] ?_ ?_
    · refine eo_gsplit rfl rfl (fun hb => ?_) (fun hb => ?_)
      · have h5 := cT hq3 hb
        refine go_ops hΓ 9 rfl ?_
        obtain rfl := Option.some.inj h5
        exact ⟨⟨rfl, rfl, rfl, trivial⟩, [], rfl, .inl rfl⟩
      · have h6 := cF hq3 hb
        obtain ⟨c7, hc7, h8⟩ := bi_ok h6
        refine go_ops hΓ 1 rfl ?_
        refine eo_guard rfl ?_
        refine eo_o rfl (op_byteZ hΓ hc7 rfl rfl rfl rfl) ?_
        refine go_ops hΓ 2 rfl ?_
        refine o_cut 3 [(0, S s), (6, S y1), (20, B false), (27, B ((((c7.toNat : Int) : Int) == 48) && (!((s : Str) == [48]))))] [] ?_ ?_
        · refine eo_gsplit rfl rfl (fun hb => ?_) (fun hb => ?_)
          · refine go_ops hΓ 4 rfl ?_
            exact ⟨⟨rfl, rfl, rfl, get_b rfl (and_t hb), trivial⟩, [], rfl, .inl rfl⟩
          · refine go_ops hΓ 4 rfl ?_
            exact ⟨⟨rfl, rfl, rfl, get_b rfl (and_f hb), trivial⟩, [], rfl, .inl rfl⟩
        · refine go_ops hΓ 2 rfl ?_
          obtain rfl := Option.some.inj h8
          exact ⟨⟨rfl, rfl, rfl, trivial⟩, [], rfl, .inl rfl⟩
    · refine go_ops hΓ 2 rfl ?_
      refine j_cond rfl (fun hb => ?_) (fun hb => ?_)
      · have h9 := cT h4 hb
        refine go hΓ 8 rfl ?_
        obtain rfl := Option.some.inj h9
        exact fin_pure hΓ (.inr rfl) rfl rfl
      · have h10 := cF h4 hb
        refine go hΓ 8 rfl ?_
        obtain ⟨q14, hq14, h15⟩ := bi_ok h10
        refine j_cutEZ (R := fun a16 => q14 = .inl a16) (fun a16 => [(0, S s)]) (fun a16 => []) ?_ ?_
        · refine go hΓ 1 rfl ?_
          refine j_loop hq14 (fun s12 => [(0, S s), (6, S y1), (7, I s12)]) (fun s12 => []) ⟨⟨rfl, rfl, rfl, trivial⟩, [], rfl, .inl rfl⟩ (fun s12 y20 hy18 hout19 => ?_)
          refine go hΓ 9 rfl ?_
          refine j_cond rfl (fun hb => ?_) (fun hb => ?_)
          · have h21 := cT hy18 hb
            obtain ⟨c22, hc22, h23⟩ := bi_ok h21
            refine go hΓ 8 rfl ?_
            refine eo_o rfl (op_byteZ hΓ hc22 rfl rfl rfl rfl) ?_
            refine go_ops hΓ 2 rfl ?_
            obtain ⟨q24, hq24, h25⟩ := bi_ok h23
            refine o_cut 5 [(0, S s), (6, S y1), (7, I s12), (44, B q24)] [] ?_ ?_
            · refine eo_gsplit rfl rfl (fun hb => ?_) (fun hb => ?_)
              · have h26 := cT hq24 hb
                refine go_ops hΓ 6 rfl ?_
                obtain rfl := Option.some.inj h26
                exact ⟨⟨rfl, rfl, rfl, rfl, trivial⟩, [], rfl, .inl rfl⟩
              · have h27 := cF hq24 hb
                obtain ⟨c28, hc28, h29⟩ := bi_ok h27
                refine go_ops hΓ 2 rfl ?_
                refine eo_guard rfl ?_
                refine eo_o rfl (op_byteZ hΓ hc28 rfl rfl rfl rfl) ?_
                refine go_ops hΓ 3 rfl ?_
                obtain rfl := Option.some.inj h29
                exact ⟨⟨rfl, rfl, rfl, rfl, trivial⟩, [], rfl, .inl rfl⟩
            · refine go_ops hΓ 2 rfl ?_
              refine j_cond rfl (fun hb => ?_) (fun hb => ?_)
              · have h30 := cT h25 hb
                refine go hΓ 9 rfl ?_
                obtain ⟨v31, hv31, h32⟩ := bi_ok h30
                obtain rfl := Option.some.inj h32
                obtain rfl := hout19 _ rfl
                obtain rfl := Option.some.inj h15
                refine go hΓ 4 rfl ?_
                obtain rfl := Option.some.inj hv31
                exact fin_pure hΓ (.inr rfl) rfl rfl
              · have h33 := cF h25 hb
                refine go hΓ 8 rfl ?_
                obtain rfl := Option.some.inj h33
                exact ⟨_, rfl, ⟨⟨rfl, rfl, rfl, trivial⟩, [], rfl, .inl rfl⟩⟩
          · have h34 := cF hy18 hb
            refine go hΓ 4 rfl ?_
            obtain rfl := Option.some.inj h34
            obtain rfl := hout19 _ rfl
            exact ⟨_, rfl, ⟨⟨rfl, trivial⟩, [], rfl, .inl rfl⟩⟩
        · intro a16 ha
          subst ha
          replace h15 := orI_l h15
          obtain ⟨y35, hy35, h36⟩ := bi_ok h15
          refine go hΓ 4 rfl ?_
          refine eo_callP (callable Tryz.func225 rfl rfl) (c_strconv_Atoi hy35) rfl (Nat.le_of_ble_eq_true rfl) rfl rfl rfl rfl rfl ?_
          refine go_ops hΓ 8 rfl ?_
          refine j_draw hmix (by kernel_rfl) ?_
          refine go hΓ 2 rfl ?_
          refine gl_o rfl (op_ifaceNilE1 hΓ rfl rfl rfl rfl) ?_
          refine go_draw hΓ 5 rfl ?_
          obtain rfl := Option.some.inj h36
          exact fin_pure hΓ (.inr rfl) rfl rfl
theorem c_kit_Small {k : Nat} {s : Str} {r : Int × Bool} (h : m_kit_Small k s = some r) : Pure Tryz.prog 280 [S s] (.tup [I r.1, B r.2]) := by
  refine Pure.enter (Fr.of 0 _) Tryz.func280 rfl (Fr.of_ok _) rfl rfl ?_
  refine go_in ?_
  unfold m_kit_Small at h
  obtain ⟨y1, hy1, h2⟩ := bi_ok h
  refine go hΓ 9 rfl ?_
  refine eo_callP (callable Tryz.func335 rfl rfl) (c_kit_Number hy1) rfl (Nat.le_of_ble_eq_true rfl) rfl rfl rfl rfl rfl ?_
  refine go_ops hΓ 7 rfl ?_
  obtain rfl := Option.some.inj h2
  exact fin_pure hΓ (.inr rfl) rfl rfl
theorem c_posture_token_number {k : Nat} {t : T_posture_token} {s : Str} {r : T_posture_token} (h : m_posture_token_number k t s = some r) : EC Tryz.prog 213 [.ptr 0 0, S s] [.box 129 [S t.kind, I t.v_at, I t.v_end, S t.name, I t.value.Kind, I t.value.Number, S t.value.Words, I t.value.Version.1, I t.value.Version.2.1, I t.value.Version.2.2.1, I t.value.Version.2.2.2]] fun g hp' => g = .tup [] ∧ hp' = [.box 129 [S r.kind, I r.v_at, I r.v_end, S r.name, I r.value.Kind, I r.value.Number, S r.value.Words, I r.value.Version.1, I r.value.Version.2.1, I r.value.Version.2.2.1, I r.value.Version.2.2.2]] := by
  refine ec_enter (Fr.of 0 _) Tryz.func213 rfl (Fr.of_ok _) (Nat.le_of_ble_eq_true rfl) fun _ => ?_
  refine go_in ?_
  unfold m_posture_token_number at h
  obtain ⟨c1, hc1, h2⟩ := bi_ok h
  refine go hΓ 14 rfl ?_
  refine eo_o rfl (op_byteZ hΓ hc1 rfl rfl rfl rfl) ?_
  obtain ⟨q3, hq3, h4⟩ := bi_ok h2
  refine go_ops hΓ 3 rfl ?_
  refine j_cutNZ [(0, .ptr 0 0), (1, S s), (4, I q3)] [.box 129 [S t.kind, I t.v_at, I t.v_end, S t.name, I t.value.Kind, I t.value.Number, S t.value.Words, I t.value.Version.1, I t.value.Version.2.1, I t.value.Version.2.2.1, I t.value.Version.2.2.2]] ?_ ?_
  · refine j_cond rfl (fun hb => ?_) (fun hb => ?_)
    · have h5 := cT hq3 hb
      refine go hΓ 5 rfl ?_
      obtain rfl := Option.some.inj h5
      exact ⟨⟨rfl, rfl, rfl, trivial⟩, [], rfl, .inl rfl⟩
    · have h6 := cF hq3 hb
      refine go hΓ 1 rfl ?_
      obtain rfl := Option.some.inj h6
      exact ⟨⟨rfl, rfl, rfl, trivial⟩, [], rfl, .inl rfl⟩
  · obtain ⟨y7, hy7, h8⟩ := bi_ok h4
    refine go hΓ 6 rfl ?_
    refine eo_callP (callable Tryz.func279 rfl rfl) (c_posture_digits hy7) rfl (Nat.le_of_ble_eq_true rfl) rfl rfl rfl rfl rfl ?_
    refine go_ops hΓ 2 rfl ?_
    refine eo_store hΓ rfl rfl rfl rfl rfl rfl rfl rfl (Nat.le_of_ble_eq_true rfl) ?_
    refine eo_hp [.box 129 [S t.kind, I t.v_at, I y7, S t.name, I t.value.Kind, I t.value.Number, S t.value.Words, I t.value.Version.1, I t.value.Version.2.1, I t.value.Version.2.2.1, I t.value.Version.2.2.2]] rfl ?_
    refine go_ops hΓ 3 rfl ?_
    refine j_draw hmix (by kernel_rfl) ?_
    obtain ⟨z9, hz9, h10⟩ := bi_ok h8
    refine go hΓ 9 rfl ?_
    refine gl_o rfl (op_subZ hΓ hz9 rfl rfl rfl rfl rfl) ?_
    obtain ⟨y11, hy11, h12⟩ := bi_ok h10
    refine gl_callP (callable Tryz.func280 rfl rfl) (c_kit_Small hy11) rfl rfl rfl rfl rfl rfl ?_
    refine go_draw hΓ 12 rfl ?_
    refine j_cond rfl (fun hb => ?_) (fun hb => ?_)
    · have h13 := cT h12 hb
      refine go hΓ 4 rfl ?_
      refine eo_build hΓ (gs := [I 1, I y11.1, S [], I 0, I 0, I 0, I 0]) rfl rfl rfl rfl rfl rfl rfl ?_
      refine go_ops hΓ 2 rfl ?_
      refine eo_store hΓ rfl rfl rfl rfl rfl rfl rfl rfl (Nat.le_of_ble_eq_true rfl) ?_
      refine eo_hp [.box 129 [S [118, 97, 108, 117, 101], I t.v_at, I y7, S t.name, I t.value.Kind, I t.value.Number, S t.value.Words, I t.value.Version.1, I t.value.Version.2.1, I t.value.Version.2.2.1, I t.value.Version.2.2.2]] rfl ?_
      refine go_ops hΓ 2 rfl ?_
      refine eo_store hΓ rfl rfl rfl rfl rfl rfl rfl rfl (Nat.le_of_ble_eq_true rfl) ?_
      refine eo_hp [.box 129 [S [118, 97, 108, 117, 101], I t.v_at, I y7, S t.name, I 1, I y11.1, S [], I 0, I 0, I 0, I 0]] rfl ?_
      refine go_ops hΓ 1 rfl ?_
      obtain rfl := Option.some.inj h13
      exact fin_objs hΓ [] (.inl rfl) rfl rfl rfl rfl (.inl rfl)
    · have h14 := cF h12 hb
      refine go hΓ 1 rfl ?_
      obtain rfl := Option.some.inj h14
      exact fin_objs hΓ [] (.inl rfl) rfl rfl rfl rfl (.inl rfl)
set_option maxHeartbeats 8000000 in
theorem c_posture_token_words {k : Nat} {t : T_posture_token} {s : Str} {r : T_posture_token} (h : m_posture_token_words k t s = some r) : EC Tryz.prog 214 [.ptr 0 0, S s] [.box 129 [S t.kind, I t.v_at, I t.v_end, S t.name, I t.value.Kind, I t.value.Number, S t.value.Words, I t.value.Version.1, I t.value.Version.2.1, I t.value.Version.2.2.1, I t.value.Version.2.2.2]] fun g hp' => g = .tup [] ∧ hp' = [.box 129 [S r.kind, I r.v_at, I r.v_end, S r.name, I r.value.Kind, I r.value.Number, S r.value.Words, I r.value.Version.1, I r.value.Version.2.1, I r.value.Version.2.2.1, I r.value.Version.2.2.2]] := by
  refine ec_enter (Fr.of 0 _) Tryz.func214 rfl (Fr.of_ok _) (Nat.le_of_ble_eq_true rfl) fun _ => ?_
  refine go_in ?_
  unfold m_posture_token_words at h
  refine go hΓ 2 rfl ?_
  refine eo_nilOwn (t := 0) 5 1 rfl (Nat.le_of_ble_eq_true rfl) ?_
  refine go_ops hΓ 12 rfl ?_
  obtain ⟨q4, hq4, h5⟩ := bi_ok h
  refine j_cutEZ (R := fun a6 => q4 = .inl a6) (fun a6 => []) (fun a6 => [.box 129 [S t.kind, I t.v_at, I t.v_end, S t.name, I t.value.Kind, I t.value.Number, S t.value.Words, I t.value.Version.1, I t.value.Version.2.1, I t.value.Version.2.2.1, I t.value.Version.2.2.2], .row 5 1 a6.length (a6.flatMap (eN .u8))]) ?_ ?_
  · refine go hΓ 1 rfl ?_
    refine j_loop hq4 (fun s2 => [(0, .ptr 0 0), (1, S s), (4, .sl 1 s2.1.length), (5, I s2.2)]) (fun s2 => [.box 129 [S t.kind, I t.v_at, I t.v_end, S t.name, I t.value.Kind, I t.value.Number, S t.value.Words, I t.value.Version.1, I t.value.Version.2.1, I t.value.Version.2.2.1, I t.value.Version.2.2.2], .row 5 1 s2.1.length (s2.1.flatMap (eN .u8))]) ⟨⟨rfl, rfl, rfl, rfl, trivial⟩, [], rfl, .inl rfl⟩ (fun s2 y10 hy8 hout9 => ?_)
    refine go hΓ 9 rfl ?_
    refine j_cond rfl (fun hb => ?_) (fun hb => ?_)
    · have h11 := cT hy8 hb
      obtain ⟨c12, hc12, h13⟩ := bi_ok h11
      refine go hΓ 8 rfl ?_
      refine eo_o rfl (op_byteZ hΓ hc12 rfl rfl rfl rfl) ?_
      obtain ⟨q14, hq14, h15⟩ := bi_ok h13
      refine go_ops hΓ 4 rfl ?_
      refine j_cutSZ (q := q14) (fun a16 => [(0, .ptr 0 0), (1, S s), (4, .sl 1 s2.1.length), (5, I a16.1), (6, .d (.v (.int .u8 a16.2)))]) (fun a16 => [.box 129 [S t.kind, I t.v_at, I t.v_end, S t.name, I t.value.Kind, I t.value.Number, S t.value.Words, I t.value.Version.1, I t.value.Version.2.1, I t.value.Version.2.2.1, I t.value.Version.2.2.2], .row 5 1 s2.1.length (s2.1.flatMap (eN .u8))]) ?_ ?_
      · refine go hΓ 8 rfl ?_
        refine j_cond rfl (fun hb => ?_) (fun hb => ?_)
        · have h17 := cT hq14 hb
          obtain ⟨y18, hy18, h19⟩ := bi_ok h17
          refine go hΓ 8 rfl ?_
          refine eo_o rfl (op_strRowZ hΓ hy18 rfl rfl rfl rfl rfl rfl rfl rfl rfl) ?_
          refine eo_build hΓ (gs := [I 2, I 0, S y18, I 0, I 0, I 0, I 0]) rfl rfl rfl rfl rfl rfl rfl ?_
          refine go_ops hΓ 2 rfl ?_
          refine eo_store hΓ rfl rfl rfl rfl rfl rfl rfl rfl (Nat.le_of_ble_eq_true rfl) ?_
          refine eo_hp [.box 129 [S [118, 97, 108, 117, 101], I t.v_at, I t.v_end, S t.name, I t.value.Kind, I t.value.Number, S t.value.Words, I t.value.Version.1, I t.value.Version.2.1, I t.value.Version.2.2.1, I t.value.Version.2.2.2], .row 5 1 s2.1.length (s2.1.flatMap (eN .u8))] rfl ?_
          refine go_ops hΓ 2 rfl ?_
          refine eo_store hΓ rfl rfl rfl rfl rfl rfl rfl rfl (Nat.le_of_ble_eq_true rfl) ?_
          refine eo_hp [.box 129 [S [118, 97, 108, 117, 101], I t.v_at, I (wi (s2.2 + 1)), S t.name, I t.value.Kind, I t.value.Number, S t.value.Words, I t.value.Version.1, I t.value.Version.2.1, I t.value.Version.2.2.1, I t.value.Version.2.2.2], .row 5 1 s2.1.length (s2.1.flatMap (eN .u8))] rfl ?_
          refine go_ops hΓ 2 rfl ?_
          refine eo_store hΓ rfl rfl rfl rfl rfl rfl rfl rfl (Nat.le_of_ble_eq_true rfl) ?_
          refine eo_hp [.box 129 [S [118, 97, 108, 117, 101], I t.v_at, I (wi (s2.2 + 1)), S t.name, I 2, I 0, S y18, I 0, I 0, I 0, I 0], .row 5 1 s2.1.length (s2.1.flatMap (eN .u8))] rfl ?_
          refine go_ops hΓ 4 rfl ?_
          obtain ⟨v20, hv20, h21⟩ := bi_ok h19
          obtain rfl := Option.some.inj h21
          obtain rfl := Option.some.inj h15
          refine go hΓ 4 rfl ?_
          obtain ⟨v22, hv22, h23⟩ := bi_ok hv20
          obtain rfl := Option.some.inj h23
          obtain rfl := hout9 _ rfl
          obtain rfl := Option.some.inj h5
          refine go hΓ 3 rfl ?_
          obtain rfl := Option.some.inj hv22
          exact fin_objs hΓ [_] (.inr rfl) rfl rfl rfl rfl (.inr ⟨HB.mk rfl, rfl⟩)
        · have h24 := cF hq14 hb
          refine go hΓ 5 rfl ?_
          refine o_cut 3 [(0, .ptr 0 0), (1, S s), (4, .sl 1 s2.1.length), (5, I s2.2), (6, .d (.v (.int .u8 (c12.toNat : Int)))), (44, B ((decide (((c12.toNat : Int) : Int) < 32)) || (decide (((c12.toNat : Int) : Int) > 126))))] [.box 129 [S t.kind, I t.v_at, I t.v_end, S t.name, I t.value.Kind, I t.value.Number, S t.value.Words, I t.value.Version.1, I t.value.Version.2.1, I t.value.Version.2.2.1, I t.value.Version.2.2.2], .row 5 1 s2.1.length (s2.1.flatMap (eN .u8))] ?_ ?_
          · refine eo_gsplit rfl rfl (fun hb => ?_) (fun hb => ?_)
            · refine go_ops hΓ 4 rfl ?_
              exact ⟨⟨rfl, rfl, rfl, rfl, rfl, get_b rfl (or_t hb), trivial⟩, [], rfl, .inl rfl⟩
            · refine go_ops hΓ 4 rfl ?_
              exact ⟨⟨rfl, rfl, rfl, rfl, rfl, get_b rfl (or_f hb), trivial⟩, [], rfl, .inl rfl⟩
          · refine go_ops hΓ 3 rfl ?_
            refine j_cond rfl (fun hb => ?_) (fun hb => ?_)
            · have h25 := cT h24 hb
              refine go hΓ 2 rfl ?_
              obtain ⟨v26, hv26, h27⟩ := bi_ok h25
              obtain rfl := Option.some.inj h27
              obtain rfl := Option.some.inj h15
              refine go hΓ 4 rfl ?_
              obtain ⟨v28, hv28, h29⟩ := bi_ok hv26
              obtain rfl := Option.some.inj h29
              obtain rfl := hout9 _ rfl
              obtain rfl := Option.some.inj h5
              refine go hΓ 3 rfl ?_
              obtain rfl := Option.some.inj hv28
              exact fin_objs hΓ [_] (.inr rfl) rfl rfl rfl rfl (.inr ⟨HB.mk rfl, rfl⟩)
            · have h30 := cF h24 hb
              refine go hΓ 7 rfl ?_
              refine j_cond rfl (fun hb => ?_) (fun hb => ?_)
              · have h31 := cT h30 hb
                refine go hΓ 15 rfl ?_
                obtain ⟨q32, hq32, h33⟩ := bi_ok h31
                refine o_cut 11 [(0, .ptr 0 0), (1, S s), (4, .sl 1 s2.1.length), (5, I (wi (s2.2 + 1))), (65, B q32)] [.box 129 [S t.kind, I t.v_at, I t.v_end, S t.name, I t.value.Kind, I t.value.Number, S t.value.Words, I t.value.Version.1, I t.value.Version.2.1, I t.value.Version.2.2.1, I t.value.Version.2.2.2], .row 5 1 s2.1.length (s2.1.flatMap (eN .u8))] ?_ ?_
                · refine eo_gsplit rfl rfl (fun hb => ?_) (fun hb => ?_)
                  · have h34 := cT hq32 hb
                    refine go_ops hΓ 12 rfl ?_
                    obtain rfl := Option.some.inj h34
                    exact ⟨⟨rfl, rfl, rfl, rfl, rfl, trivial⟩, [], rfl, .inl rfl⟩
                  · have h35 := cF hq32 hb
                    obtain ⟨c36, hc36, h37⟩ := bi_ok h35
                    refine go_ops hΓ 2 rfl ?_
                    refine eo_guard rfl ?_
                    refine eo_o rfl (op_byteZ hΓ hc36 rfl rfl rfl rfl) ?_
                    refine go_ops hΓ 2 rfl ?_
                    obtain ⟨q38, hq38, h39⟩ := bi_ok h37
                    refine o_cut 5 [(0, .ptr 0 0), (1, S s), (4, .sl 1 s2.1.length), (5, I (wi (s2.2 + 1))), (54, B false), (64, B q38)] [.box 129 [S t.kind, I t.v_at, I t.v_end, S t.name, I t.value.Kind, I t.value.Number, S t.value.Words, I t.value.Version.1, I t.value.Version.2.1, I t.value.Version.2.2.1, I t.value.Version.2.2.2], .row 5 1 s2.1.length (s2.1.flatMap (eN .u8))] ?_ ?_
                    · refine eo_gsplit rfl rfl (fun hb => ?_) (fun hb => ?_)
                      · have h40 := cT hq38 hb
                        obtain ⟨c41, hc41, h42⟩ := bi_ok h40
                        refine go_ops hΓ 2 rfl ?_
                        refine eo_guard rfl ?_
                        refine eo_o rfl (op_byteZ hΓ hc41 rfl rfl rfl rfl) ?_
                        refine go_ops hΓ 3 rfl ?_
                        obtain rfl := Option.some.inj h42
                        exact ⟨⟨rfl, rfl, rfl, rfl, rfl, rfl, trivial⟩, [], rfl, .inl rfl⟩
                      · have h43 := cF hq38 hb
                        refine go_ops hΓ 6 rfl ?_
                        obtain rfl := Option.some.inj h43
                        exact ⟨⟨rfl, rfl, rfl, rfl, rfl, rfl, trivial⟩, [], rfl, .inl rfl⟩
                    · refine go_ops hΓ 2 rfl ?_
                      obtain rfl := Option.some.inj h39
                      exact ⟨⟨rfl, rfl, rfl, rfl, rfl, trivial⟩, [], rfl, .inl rfl⟩
                · refine go_ops hΓ 2 rfl ?_
                  refine j_cond rfl (fun hb => ?_) (fun hb => ?_)
                  · have h44 := cT h33 hb
                    refine go hΓ 3 rfl ?_
                    obtain ⟨v45, hv45, h46⟩ := bi_ok h44
                    obtain rfl := Option.some.inj h46
                    obtain rfl := Option.some.inj h15
                    refine go hΓ 4 rfl ?_
                    obtain ⟨v47, hv47, h48⟩ := bi_ok hv45
                    obtain rfl := Option.some.inj h48
                    obtain rfl := hout9 _ rfl
                    obtain rfl := Option.some.inj h5
                    refine go hΓ 3 rfl ?_
                    obtain rfl := Option.some.inj hv47
                    exact fin_objs hΓ [_] (.inr rfl) rfl rfl rfl rfl (.inr ⟨HB.mk rfl, rfl⟩)
                  · have h49 := cF h33 hb
                    obtain ⟨c50, hc50, h51⟩ := bi_ok h49
                    refine go hΓ 5 rfl ?_
                    refine eo_o rfl (op_byteZ hΓ hc50 rfl rfl rfl rfl) ?_
                    refine go_ops hΓ 3 rfl ?_
                    obtain rfl := Option.some.inj h51
                    exact ⟨_, rfl, ⟨⟨rfl, rfl, rfl, rfl, rfl, trivial⟩, [], rfl, .inl rfl⟩⟩
              · have h52 := cF h30 hb
                refine go hΓ 2 rfl ?_
                obtain rfl := Option.some.inj h52
                exact ⟨_, rfl, ⟨⟨rfl, rfl, rfl, rfl, rfl, trivial⟩, [], rfl, .inl rfl⟩⟩
      · intro a16 ha
        subst ha
        replace h15 := orI_l h15
        refine go hΓ 4 rfl ?_
        refine eo_litT hΓ (enc := (eN .u8)) [a16.2] rfl rfl rfl rfl rfl rfl rfl rfl rfl rfl rfl rfl (Nat.le_of_ble_eq_true rfl) ?_
        obtain ⟨y53, hy53, h54⟩ := bi_ok h15
        refine eo_appendT hΓ (enc := (eN .u8)) hy53 rfl rfl rfl rfl rfl rfl rfl rfl rfl (fun _ => rfl) rfl rfl rfl rfl ?_
        refine go_ops hΓ 9 rfl ?_
        obtain rfl := Option.some.inj h54
        exact ⟨_, rfl, ⟨⟨rfl, rfl, rfl, rfl, trivial⟩, [], rfl, .inl rfl⟩⟩
    · have h55 := cF hy8 hb
      refine go hΓ 4 rfl ?_
      obtain rfl := Option.some.inj h55
      obtain rfl := hout9 _ rfl
      exact ⟨_, rfl, ⟨trivial, [], rfl, .inl rfl⟩⟩
  · intro a6 ha
    subst ha
    replace h5 := orI_l h5
    obtain rfl := Option.some.inj h5
    exact fin_objs hΓ [_] (.inl rfl) rfl rfl rfl rfl (.inr ⟨HB.mk rfl, rfl⟩)
theorem c_posture_isVersion {s : Str} {r : Bool} (h : m_posture_isVersion s = some r) : Pure Tryz.prog 215 [S s] (B r) := by
  refine Pure.enter (Fr.of 0 _) Tryz.func215 rfl (Fr.of_ok _) rfl rfl ?_
  refine go_in ?_
  unfold m_posture_isVersion at h
  refine go hΓ 11 rfl ?_
  obtain ⟨q1, hq1, h2⟩ := bi_ok h
  refine o_cut 4 [(0, S s), (2, B false), (10, B q1)] [] ?_ ?_
  · refine eo_gsplit rfl rfl (fun hb => ?_) (fun hb => ?_)
    · have h3 := cT hq1 hb
      obtain ⟨c4, hc4, h5⟩ := bi_ok h3
      refine go_ops hΓ 1 rfl ?_
      refine eo_guard rfl ?_
      refine eo_o rfl (op_byteZ hΓ hc4 rfl rfl rfl rfl) ?_
      refine go_ops hΓ 3 rfl ?_
      obtain rfl := Option.some.inj h5
      exact ⟨⟨rfl, rfl, rfl, trivial⟩, [], rfl, .inl rfl⟩
    · have h6 := cF hq1 hb
      refine go_ops hΓ 5 rfl ?_
      obtain rfl := Option.some.inj h6
      exact ⟨⟨rfl, rfl, rfl, trivial⟩, [], rfl, .inl rfl⟩
  · refine go_ops hΓ 1 rfl ?_
    obtain ⟨q7, hq7, h8⟩ := bi_ok h2
    refine o_cut 4 [(2, B false), (15, B q7)] [] ?_ ?_
    · refine eo_gsplit rfl rfl (fun hb => ?_) (fun hb => ?_)
      · have h9 := cT hq7 hb
        obtain ⟨c10, hc10, h11⟩ := bi_ok h9
        refine go_ops hΓ 1 rfl ?_
        refine eo_guard rfl ?_
        refine eo_o rfl (op_byteZ hΓ hc10 rfl rfl rfl rfl) ?_
        obtain ⟨y12, hy12, h13⟩ := bi_ok h11
        refine eo_guard rfl ?_
        refine eo_callP (callable Tryz.func212 rfl rfl) (c_posture_isDigit hy12) rfl (Nat.le_of_ble_eq_true rfl) rfl rfl rfl rfl rfl ?_
        refine go_ops hΓ 2 rfl ?_
        obtain rfl := Option.some.inj h13
        exact ⟨⟨rfl, rfl, trivial⟩, [], rfl, .inl rfl⟩
      · have h14 := cF hq7 hb
        refine go_ops hΓ 5 rfl ?_
        obtain rfl := Option.some.inj h14
        exact ⟨⟨rfl, rfl, trivial⟩, [], rfl, .inl rfl⟩
    · refine go_ops hΓ 4 rfl ?_
      obtain rfl := Option.some.inj h8
      exact fin_pure hΓ (.inr rfl) rfl rfl
theorem c_kit_Numbers {k : Nat} {l : List Str} {r : (List Int) × Bool} (h : m_kit_Numbers k l = some r) : Pure Tryz.prog 281 [.d (Sl eS l)] (.tup [.d (Sl (eN .i64) r.1), B r.2]) := by
  refine Pure.enter (Fr.of 0 _) Tryz.func281 rfl (Fr.of_ok _) rfl rfl ?_
  refine go_in ?_
  unfold m_kit_Numbers at h
  refine go hΓ 8 rfl ?_
  refine eo_nilOwn (t := 0) 3 1 rfl (Nat.le_of_ble_eq_true rfl) ?_
  refine go_ops hΓ 10 rfl ?_
  obtain ⟨q4, hq4, h5⟩ := bi_ok h
  refine j_bound 9 rfl fun hb7 => ?_
  refine j_cutEZ (R := fun a6 => q4 = .go a6) (fun a6 => [(4, .sl 0 a6.length)]) (fun a6 => [.row 3 1 a6.length (a6.flatMap (eN .i64))]) ?_ ?_
  · refine go hΓ 1 rfl ?_
    refine j_range l hq4 (fun i1 s2 => [(4, .sl 0 s2.length), (9, .d (Sl eS l)), (10, I (l.length : Int)), (11, I (i1 : Int))]) (fun s2 => [.row 3 1 s2.length (s2.flatMap (eN .i64))]) ⟨⟨rfl, rfl, rfl, rfl, trivial⟩, [], rfl, .inl rfl⟩ (fun i1 x3 s2 y11 hx8 hlt hy9 hout10 => ?_) (fun s2 hgo => ?_)
    · refine go hΓ 6 rfl ?_
      refine j_condT rfl (decide_eq_true (Int.ofNat_lt.2 hlt)) ?_
      refine go hΓ 6 rfl ?_
      refine eo_o rfl (op_elemZ hΓ (enc := eS) (getZ_nat hx8) rfl rfl rfl rfl rfl (fun _ => rfl)) ?_
      obtain ⟨y12, hy12, h13⟩ := bi_ok hy9
      refine go_ops hΓ 7 rfl ?_
      refine eo_callP (callable Tryz.func280 rfl rfl) (c_kit_Small hy12) rfl (Nat.le_of_ble_eq_true rfl) rfl rfl rfl rfl rfl ?_
      refine go_ops hΓ 14 rfl ?_
      refine j_cond rfl (fun hb => ?_) (fun hb => ?_)
      · have h14 := cT h13 hb
        refine go hΓ 10 rfl ?_
        obtain ⟨v15, hv15, h16⟩ := bi_ok h14
        obtain rfl := Option.some.inj h16
        obtain rfl := hout10 _ rfl
        obtain rfl := Option.some.inj h5
        refine go hΓ 4 rfl ?_
        obtain rfl := Option.some.inj hv15
        exact fin_pure hΓ (.inr rfl) rfl rfl
      · have h17 := cF h13 hb
        refine go hΓ 5 rfl ?_
        refine eo_litT hΓ (enc := (eN .i64)) [y12.1] rfl rfl rfl rfl rfl rfl rfl rfl rfl rfl rfl rfl (Nat.le_of_ble_eq_true rfl) ?_
        obtain ⟨y18, hy18, h19⟩ := bi_ok h17
        refine eo_appendT hΓ (enc := (eN .i64)) hy18 rfl rfl rfl rfl rfl rfl rfl rfl rfl (fun _ => rfl) rfl rfl rfl rfl ?_
        refine go_ops hΓ 8 rfl ?_
        obtain rfl := Option.some.inj h19
        exact ⟨_, rfl, ⟨⟨rfl, rfl, rfl, get_eq rfl (w64_succ (Nat.lt_of_lt_of_le hlt hb7)), trivial⟩, [], rfl, .inl rfl⟩⟩
    · subst hgo
      refine go hΓ 6 rfl ?_
      refine j_condF rfl (decide_eq_false (Int.lt_irrefl _)) ?_
      refine go hΓ 4 rfl ?_
      exact ⟨_, rfl, ⟨⟨rfl, trivial⟩, [], rfl, .inl rfl⟩⟩
  · intro a6 ha
    subst ha
    replace h5 := goI_l h5
    refine go hΓ 5 rfl ?_
    refine eo_shr 0 [2, 4, 27] _ [.dead] rfl rfl rfl (Nat.le_of_ble_eq_true rfl) ?_
    refine go_ops hΓ 4 rfl ?_
    obtain rfl := Option.some.inj h5
    exact fin_pure hΓ (.inr rfl) rfl rfl
set_option maxHeartbeats 8000000 in
theorem c_posture_token_version {k : Nat} {t : T_posture_token} {s : Str} {r : T_posture_token} (h : m_posture_token_version k t s = some r) : EC Tryz.prog 216 [.ptr 0 0, S s] [.box 129 [S t.kind, I t.v_at, I t.v_end, S t.name, I t.value.Kind, I t.value.Number, S t.value.Words, I t.value.Version.1, I t.value.Version.2.1, I t.value.Version.2.2.1, I t.value.Version.2.2.2]] fun g hp' => g = .tup [] ∧ hp' = [.box 129 [S r.kind, I r.v_at, I r.v_end, S r.name, I r.value.Kind, I r.value.Number, S r.value.Words, I r.value.Version.1, I r.value.Version.2.1, I r.value.Version.2.2.1, I r.value.Version.2.2.2]] := by
  refine ec_enter (Fr.of 0 _) Tryz.func216 rfl (Fr.of_ok _) (Nat.le_of_ble_eq_true rfl) fun _ => ?_
  refine go_in ?_
  unfold m_posture_token_version at h
  refine go hΓ 10 rfl ?_
  refine eo_store hΓ rfl rfl rfl rfl rfl rfl rfl rfl (Nat.le_of_ble_eq_true rfl) ?_
  refine eo_hp [.box 129 [S t.kind, I t.v_at, I (wi (t.v_at + 1)), S t.name, I t.value.Kind, I t.value.Number, S t.value.Words, I t.value.Version.1, I t.value.Version.2.1, I t.value.Version.2.2.1, I t.value.Version.2.2.2]] rfl ?_
  refine go_ops hΓ 3 rfl ?_
  obtain ⟨q4, hq4, h5⟩ := bi_ok h
  refine j_cutNZ [(0, .ptr 0 0), (1, S s)] [.box 129 [S t.kind, I t.v_at, I q4, S t.name, I t.value.Kind, I t.value.Number, S t.value.Words, I t.value.Version.1, I t.value.Version.2.1, I t.value.Version.2.2.1, I t.value.Version.2.2.2]] ?_ ?_
  · refine go hΓ 1 rfl ?_
    refine j_loop hq4 (fun s2 => [(0, .ptr 0 0), (1, S s)]) (fun s2 => [.box 129 [S t.kind, I t.v_at, I s2, S t.name, I t.value.Kind, I t.value.Number, S t.value.Words, I t.value.Version.1, I t.value.Version.2.1, I t.value.Version.2.2.1, I t.value.Version.2.2.2]]) ⟨⟨rfl, rfl, trivial⟩, [], rfl, .inl rfl⟩ (fun s2 y10 hy8 hout9 => ?_)
    refine go hΓ 11 rfl ?_
    obtain ⟨q11, hq11, h12⟩ := bi_ok hy8
    refine o_cut 17 [(0, .ptr 0 0), (1, S s), (39, B q11)] [.box 129 [S t.kind, I t.v_at, I s2, S t.name, I t.value.Kind, I t.value.Number, S t.value.Words, I t.value.Version.1, I t.value.Version.2.1, I t.value.Version.2.2.1, I t.value.Version.2.2.2]] ?_ ?_
    · refine eo_gsplit rfl rfl (fun hb => ?_) (fun hb => ?_)
      · have h13 := cT hq11 hb
        obtain ⟨c14, hc14, h15⟩ := bi_ok h13
        refine go_ops hΓ 5 rfl ?_
        refine eo_guard rfl ?_
        refine eo_o rfl (op_byteZ hΓ hc14 rfl rfl rfl rfl) ?_
        obtain ⟨y16, hy16, h17⟩ := bi_ok h15
        refine eo_guard rfl ?_
        refine eo_callP (callable Tryz.func212 rfl rfl) (c_posture_isDigit hy16) rfl (Nat.le_of_ble_eq_true rfl) rfl rfl rfl rfl rfl ?_
        refine go_ops hΓ 1 rfl ?_
        obtain ⟨q18, hq18, h19⟩ := bi_ok h17
        refine o_cut 8 [(0, .ptr 0 0), (1, S s), (22, B true), (38, B q18)] [.box 129 [S t.kind, I t.v_at, I s2, S t.name, I t.value.Kind, I t.value.Number, S t.value.Words, I t.value.Version.1, I t.value.Version.2.1, I t.value.Version.2.2.1, I t.value.Version.2.2.2]] ?_ ?_
        · refine eo_gsplit rfl rfl (fun hb => ?_) (fun hb => ?_)
          · have h20 := cT hq18 hb
            refine go_ops hΓ 9 rfl ?_
            obtain rfl := Option.some.inj h20
            exact ⟨⟨rfl, rfl, rfl, rfl, trivial⟩, [], rfl, .inl rfl⟩
          · have h21 := cF hq18 hb
            obtain ⟨c22, hc22, h23⟩ := bi_ok h21
            refine go_ops hΓ 5 rfl ?_
            refine eo_guard rfl ?_
            refine eo_o rfl (op_byteZ hΓ hc22 rfl rfl rfl rfl) ?_
            refine go_ops hΓ 3 rfl ?_
            obtain rfl := Option.some.inj h23
            exact ⟨⟨rfl, rfl, rfl, rfl, trivial⟩, [], rfl, .inl rfl⟩
        · refine go_ops hΓ 2 rfl ?_
          obtain rfl := Option.some.inj h19
          exact ⟨⟨rfl, rfl, rfl, trivial⟩, [], rfl, .inl rfl⟩
      · have h24 := cF hq11 hb
        refine go_ops hΓ 18 rfl ?_
        obtain rfl := Option.some.inj h24
        exact ⟨⟨rfl, rfl, rfl, trivial⟩, [], rfl, .inl rfl⟩
    · refine go_ops hΓ 2 rfl ?_
      refine j_cond rfl (fun hb => ?_) (fun hb => ?_)
      · have h25 := cT h12 hb
        refine go hΓ 11 rfl ?_
        refine eo_store hΓ rfl rfl rfl rfl rfl rfl rfl rfl (Nat.le_of_ble_eq_true rfl) ?_
        refine eo_hp [.box 129 [S t.kind, I t.v_at, I (wi (s2 + 1)), S t.name, I t.value.Kind, I t.value.Number, S t.value.Words, I t.value.Version.1, I t.value.Version.2.1, I t.value.Version.2.2.1, I t.value.Version.2.2.2]] rfl ?_
        refine go_ops hΓ 2 rfl ?_
        obtain rfl := Option.some.inj h25
        exact ⟨_, rfl, ⟨⟨rfl, rfl, trivial⟩, [], rfl, .inl rfl⟩⟩
      · have h26 := cF h12 hb
        refine go hΓ 4 rfl ?_
        obtain rfl := Option.some.inj h26
        obtain rfl := hout9 _ rfl
        exact ⟨⟨rfl, rfl, trivial⟩, [], rfl, .inl rfl⟩
  · refine go hΓ 2 rfl ?_
    refine j_draw hmix (by kernel_rfl) ?_
    obtain ⟨z27, hz27, h28⟩ := bi_ok h5
    refine go hΓ 10 rfl ?_
    refine gl_o rfl (op_subZ hΓ hz27 rfl rfl rfl rfl rfl) ?_
    obtain ⟨y29, hy29, h30⟩ := bi_ok h28
    refine gl_callP (callable Tryz.func226 rfl rfl) (Pure.rows (c_strings_Split hy29) rfl rfl) rfl rfl rfl rfl rfl rfl ?_
    obtain ⟨y31, hy31, h32⟩ := bi_ok h30
    refine go_draw hΓ 6 rfl ?_
    refine eo_callP (callable Tryz.func281 rfl rfl) (c_kit_Numbers hy31) rfl (Nat.le_of_ble_eq_true rfl) rfl rfl rfl rfl rfl ?_
    refine go_ops hΓ 13 rfl ?_
    refine o_cut 4 [(0, .ptr 0 0), (5, .d (Sl (eN .i64) y31.1)), (70, B ((!y31.2) || (decide (((y29.length : Int) : Int) > 4))))] [.box 129 [S t.kind, I t.v_at, I q4, S t.name, I t.value.Kind, I t.value.Number, S t.value.Words, I t.value.Version.1, I t.value.Version.2.1, I t.value.Version.2.2.1, I t.value.Version.2.2.2]] ?_ ?_
    · refine eo_gsplit rfl rfl (fun hb => ?_) (fun hb => ?_)
      · refine go_ops hΓ 5 rfl ?_
        exact ⟨⟨rfl, rfl, get_b rfl (or_t hb), trivial⟩, [], rfl, .inl rfl⟩
      · refine go_ops hΓ 5 rfl ?_
        exact ⟨⟨rfl, rfl, get_b rfl (or_f hb), trivial⟩, [], rfl, .inl rfl⟩
    · refine go_ops hΓ 2 rfl ?_
      refine j_cond rfl (fun hb => ?_) (fun hb => ?_)
      · have h33 := cT h32 hb
        refine go hΓ 2 rfl ?_
        obtain rfl := Option.some.inj h33
        exact fin_objs hΓ [] (.inr rfl) rfl rfl rfl rfl (.inl rfl)
      · have h34 := cF h32 hb
        refine go hΓ 6 rfl ?_
        refine eo_build hΓ (gs := [I 4, I 0, S [], I 0, I 0, I 0, I 0]) rfl rfl rfl rfl rfl rfl rfl ?_
        refine go_ops hΓ 2 rfl ?_
        refine eo_store hΓ rfl rfl rfl rfl rfl rfl rfl rfl (Nat.le_of_ble_eq_true rfl) ?_
        refine eo_hp [.box 129 [S [118, 97, 108, 117, 101], I t.v_at, I q4, S t.name, I t.value.Kind, I t.value.Number, S t.value.Words, I t.value.Version.1, I t.value.Version.2.1, I t.value.Version.2.2.1, I t.value.Version.2.2.2]] rfl ?_
        refine go_ops hΓ 2 rfl ?_
        refine eo_store hΓ rfl rfl rfl rfl rfl rfl rfl rfl (Nat.le_of_ble_eq_true rfl) ?_
        refine eo_hp [.box 129 [S [118, 97, 108, 117, 101], I t.v_at, I q4, S t.name, I 4, I 0, S [], I 0, I 0, I 0, I 0]] rfl ?_
        refine go_ops hΓ 7 rfl ?_
        refine eo_o rfl (op_sliceA hΓ (n := 4) (a := (0 : Int)) rfl rfl rfl rfl rfl rfl rfl) ?_
        refine go_ops hΓ 1 rfl ?_
        refine eo_s (Nat.le_of_ble_eq_true rfl) (nblt.1 rfl) (ops_copyA hΓ (pre := [S [118, 97, 108, 117, 101], I t.v_at, I q4, S t.name, I 4, I 0, S []]) (post := []) (l := [0, 0, 0, 0]) (xs := y31.1) (k := .i64) (p := 7) (o := (0 : Int).toNat) (n := 4 - (0 : Int).toNat) (slA_n (a := 0) (n := 4) rfl) rfl rfl rfl rfl rfl rfl rfl rfl rfl) ?_
        refine eo_hp [.box 129 [S [118, 97, 108, 117, 101], I t.v_at, I q4, S t.name, I 4, I 0, S [], I (cpA (0 : Int).toNat y31.1 0 0), I (cpA (0 : Int).toNat y31.1 1 0), I (cpA (0 : Int).toNat y31.1 2 0), I (cpA (0 : Int).toNat y31.1 3 0)]] rfl ?_
        refine go_ops hΓ 1 rfl ?_
        obtain rfl := Option.some.inj h34
        exact fin_objs hΓ [] (.inl rfl) rfl rfl rfl rfl (.inl rfl)
theorem c_posture_isNameByte {c : Int} {r : Bool} (h : m_posture_isNameByte c = some r) : Pure Tryz.prog 282 [.d (.v (.int .u8 c))] (B r) := by
  refine Pure.enter (Fr.of 0 _) Tryz.func282 rfl (Fr.of_ok _) rfl rfl ?_
  refine go_in ?_
  unfold m_posture_isNameByte at h
  refine go hΓ 10 rfl ?_
  refine o_cut 3 [(0, .d (.v (.int .u8 c))), (2, B false), (8, B ((decide ((c : Int) ≥ 97)) && (decide ((c : Int) ≤ 122))))] [] ?_ ?_
  · refine eo_gsplit rfl rfl (fun hb => ?_) (fun hb => ?_)
    · refine go_ops hΓ 4 rfl ?_
      exact ⟨⟨rfl, rfl, get_b rfl (and_t hb), trivial⟩, [], rfl, .inl rfl⟩
    · refine go_ops hΓ 4 rfl ?_
      exact ⟨⟨rfl, rfl, get_b rfl (and_f hb), trivial⟩, [], rfl, .inl rfl⟩
  · refine go_ops hΓ 1 rfl ?_
    obtain ⟨q1, hq1, h2⟩ := bi_ok h
    refine o_cut 3 [(0, .d (.v (.int .u8 c))), (2, B false), (12, B q1)] [] ?_ ?_
    · refine eo_gsplit rfl rfl (fun hb => ?_) (fun hb => ?_)
      · have h3 := cT hq1 hb
        refine go_ops hΓ 4 rfl ?_
        obtain rfl := Option.some.inj h3
        exact ⟨⟨rfl, rfl, rfl, trivial⟩, [], rfl, .inl rfl⟩
      · have h4 := cF hq1 hb
        obtain ⟨y5, hy5, h6⟩ := bi_ok h4
        refine go_ops hΓ 1 rfl ?_
        refine eo_guard rfl ?_
        refine eo_callP (callable Tryz.func212 rfl rfl) (c_posture_isDigit hy5) rfl (Nat.le_of_ble_eq_true rfl) rfl rfl rfl rfl rfl ?_
        refine go_ops hΓ 2 rfl ?_
        obtain rfl := Option.some.inj h6
        exact ⟨⟨rfl, rfl, rfl, trivial⟩, [], rfl, .inl rfl⟩
    · refine go_ops hΓ 1 rfl ?_
      refine o_cut 3 [(0, .d (.v (.int .u8 c))), (2, B false), (16, B (q1 || ((c : Int) == 45)))] [] ?_ ?_
      · refine eo_gsplit rfl rfl (fun hb => ?_) (fun hb => ?_)
        · refine go_ops hΓ 4 rfl ?_
          exact ⟨⟨rfl, rfl, get_b rfl (or_t hb), trivial⟩, [], rfl, .inl rfl⟩
        · refine go_ops hΓ 4 rfl ?_
          exact ⟨⟨rfl, rfl, get_b rfl (or_f hb), trivial⟩, [], rfl, .inl rfl⟩
      · refine go_ops hΓ 1 rfl ?_
        refine o_cut 3 [(2, B false), (20, B ((q1 || ((c : Int) == 45)) || ((c : Int) == 95)))] [] ?_ ?_
        · refine eo_gsplit rfl rfl (fun hb => ?_) (fun hb => ?_)
          · refine go_ops hΓ 4 rfl ?_
            exact ⟨⟨rfl, get_b rfl (or_t hb), trivial⟩, [], rfl, .inl rfl⟩
          · refine go_ops hΓ 4 rfl ?_
            exact ⟨⟨rfl, get_b rfl (or_f hb), trivial⟩, [], rfl, .inl rfl⟩
        · refine go_ops hΓ 4 rfl ?_
          obtain rfl := Option.some.inj h2
          exact fin_pure hΓ (.inr rfl) rfl rfl
set_option maxHeartbeats 8000000 in
theorem c_posture_token_word {k : Nat} {t : T_posture_token} {s : Str} {r : T_posture_token} (h : m_posture_token_word k t s = some r) : EC Tryz.prog 217 [.ptr 0 0, S s] [.box 129 [S t.kind, I t.v_at, I t.v_end, S t.name, I t.value.Kind, I t.value.Number, S t.value.Words, I t.value.Version.1, I t.value.Version.2.1, I t.value.Version.2.2.1, I t.value.Version.2.2.2]] fun g hp' => g = .tup [] ∧ hp' = [.box 129 [S r.kind, I r.v_at, I r.v_end, S r.name, I r.value.Kind, I r.value.Number, S r.value.Words, I r.value.Version.1, I r.value.Version.2.1, I r.value.Version.2.2.1, I r.value.Version.2.2.2]] := by
  refine ec_enter (Fr.of 0 _) Tryz.func217 rfl (Fr.of_ok _) (Nat.le_of_ble_eq_true rfl) fun _ => ?_
  refine go_in ?_
  unfold m_posture_token_word at h
  refine go hΓ 9 rfl ?_
  refine eo_store hΓ rfl rfl rfl rfl rfl rfl rfl rfl (Nat.le_of_ble_eq_true rfl) ?_
  refine eo_hp [.box 129 [S t.kind, I t.v_at, I t.v_at, S t.name, I t.value.Kind, I t.value.Number, S t.value.Words, I t.value.Version.1, I t.value.Version.2.1, I t.value.Version.2.2.1, I t.value.Version.2.2.2]] rfl ?_
  refine go_ops hΓ 3 rfl ?_
  obtain ⟨q4, hq4, h5⟩ := bi_ok h
  refine j_cutNZ [(0, .ptr 0 0), (1, S s)] [.box 129 [S t.kind, I t.v_at, I q4, S t.name, I t.value.Kind, I t.value.Number, S t.value.Words, I t.value.Version.1, I t.value.Version.2.1, I t.value.Version.2.2.1, I t.value.Version.2.2.2]] ?_ ?_
  · refine go hΓ 1 rfl ?_
    refine j_loop hq4 (fun s2 => [(0, .ptr 0 0), (1, S s)]) (fun s2 => [.box 129 [S t.kind, I t.v_at, I s2, S t.name, I t.value.Kind, I t.value.Number, S t.value.Words, I t.value.Version.1, I t.value.Version.2.1, I t.value.Version.2.2.1, I t.value.Version.2.2.2]]) ⟨⟨rfl, rfl, trivial⟩, [], rfl, .inl rfl⟩ (fun s2 y10 hy8 hout9 => ?_)
    refine go hΓ 11 rfl ?_
    obtain ⟨q11, hq11, h12⟩ := bi_ok hy8
    refine o_cut 8 [(0, .ptr 0 0), (1, S s), (26, B q11)] [.box 129 [S t.kind, I t.v_at, I s2, S t.name, I t.value.Kind, I t.value.Number, S t.value.Words, I t.value.Version.1, I t.value.Version.2.1, I t.value.Version.2.2.1, I t.value.Version.2.2.2]] ?_ ?_
    · refine eo_gsplit rfl rfl (fun hb => ?_) (fun hb => ?_)
      · have h13 := cT hq11 hb
        obtain ⟨c14, hc14, h15⟩ := bi_ok h13
        refine go_ops hΓ 5 rfl ?_
        refine eo_guard rfl ?_
        refine eo_o rfl (op_byteZ hΓ hc14 rfl rfl rfl rfl) ?_
        obtain ⟨y16, hy16, h17⟩ := bi_ok h15
        refine eo_guard rfl ?_
        refine eo_callP (callable Tryz.func282 rfl rfl) (c_posture_isNameByte hy16) rfl (Nat.le_of_ble_eq_true rfl) rfl rfl rfl rfl rfl ?_
        refine go_ops hΓ 2 rfl ?_
        obtain rfl := Option.some.inj h17
        exact ⟨⟨rfl, rfl, rfl, trivial⟩, [], rfl, .inl rfl⟩
      · have h18 := cF hq11 hb
        refine go_ops hΓ 9 rfl ?_
        obtain rfl := Option.some.inj h18
        exact ⟨⟨rfl, rfl, rfl, trivial⟩, [], rfl, .inl rfl⟩
    · refine go_ops hΓ 2 rfl ?_
      refine j_cond rfl (fun hb => ?_) (fun hb => ?_)
      · have h19 := cT h12 hb
        refine go hΓ 11 rfl ?_
        refine eo_store hΓ rfl rfl rfl rfl rfl rfl rfl rfl (Nat.le_of_ble_eq_true rfl) ?_
        refine eo_hp [.box 129 [S t.kind, I t.v_at, I (wi (s2 + 1)), S t.name, I t.value.Kind, I t.value.Number, S t.value.Words, I t.value.Version.1, I t.value.Version.2.1, I t.value.Version.2.2.1, I t.value.Version.2.2.2]] rfl ?_
        refine go_ops hΓ 2 rfl ?_
        obtain rfl := Option.some.inj h19
        exact ⟨_, rfl, ⟨⟨rfl, rfl, trivial⟩, [], rfl, .inl rfl⟩⟩
      · have h20 := cF h12 hb
        refine go hΓ 4 rfl ?_
        obtain rfl := Option.some.inj h20
        obtain rfl := hout9 _ rfl
        exact ⟨⟨rfl, rfl, trivial⟩, [], rfl, .inl rfl⟩
  · refine go hΓ 2 rfl ?_
    refine j_drawE [.box 129 [S t.kind, I t.v_at, I q4, S t.name, I t.value.Kind, I t.value.Number, S t.value.Words, I t.value.Version.1, I t.value.Version.2.1, I t.value.Version.2.2.1, I t.value.Version.2.2.2]] [6, 10] [14, 17] [14, 17] hmix (by kernel_rfl) (by kernel_rfl) ⟨rfl, trivial⟩ (Nat.le_of_ble_eq_true rfl) ?_
    obtain ⟨z21, hz21, h22⟩ := bi_ok h5
    refine go_E hΓ 11 rfl ?_
    refine ge_q rfl (.inl rfl) (fun _ _ => qte_of_qt (qt_p (op_subZ hΓ hz21 rfl rfl rfl rfl rfl))) ?_
    refine go_E hΓ 2 rfl ?_
    refine ge_h0 [.box 129 [S [110, 97, 109, 101], I t.v_at, I q4, S t.name, I t.value.Kind, I t.value.Number, S t.value.Words, I t.value.Version.1, I t.value.Version.2.1, I t.value.Version.2.2.1, I t.value.Version.2.2.2]] rfl rfl (brk_st rfl) (qte_u (opu_store2 hΓ rfl rfl rfl rfl rfl rfl rfl rfl rfl)) ?_
    refine go_E hΓ 2 rfl ?_
    refine ge_h0 [.box 129 [S [110, 97, 109, 101], I t.v_at, I q4, S z21, I t.value.Kind, I t.value.Number, S t.value.Words, I t.value.Version.1, I t.value.Version.2.1, I t.value.Version.2.2.1, I t.value.Version.2.2.2]] rfl rfl (brk_st rfl) (qte_u (opu_store2 hΓ rfl rfl rfl rfl rfl rfl rfl rfl rfl)) ?_
    refine ge_fin ?_
    refine go hΓ 9 rfl ?_
    refine o_cut 6 [(0, .ptr 0 0), (61, B (((z21 : Str) == [116, 114, 117, 101]) || ((z21 : Str) == [102, 97, 108, 115, 101])))] [.box 129 [S [110, 97, 109, 101], I t.v_at, I q4, S z21, I t.value.Kind, I t.value.Number, S t.value.Words, I t.value.Version.1, I t.value.Version.2.1, I t.value.Version.2.2.1, I t.value.Version.2.2.2]] ?_ ?_
    · refine eo_gsplit rfl rfl (fun hb => ?_) (fun hb => ?_)
      · refine go_ops hΓ 7 rfl ?_
        exact ⟨⟨rfl, get_b rfl (or_t hb), trivial⟩, [], rfl, .inl rfl⟩
      · refine go_ops hΓ 7 rfl ?_
        exact ⟨⟨rfl, get_b rfl (or_f hb), trivial⟩, [], rfl, .inl rfl⟩
    · refine go_ops hΓ 2 rfl ?_
      refine j_cond rfl (fun hb => ?_) (fun hb => ?_)
      · have h23 := cT h22 hb
        refine go hΓ 4 rfl ?_
        refine eo_build hΓ (gs := [I 3, I 0, S [], I 0, I 0, I 0, I 0]) rfl rfl rfl rfl rfl rfl rfl ?_
        refine go_ops hΓ 2 rfl ?_
        refine eo_store hΓ rfl rfl rfl rfl rfl rfl rfl rfl (Nat.le_of_ble_eq_true rfl) ?_
        refine eo_hp [.box 129 [S [118, 97, 108, 117, 101], I t.v_at, I q4, S z21, I t.value.Kind, I t.value.Number, S t.value.Words, I t.value.Version.1, I t.value.Version.2.1, I t.value.Version.2.2.1, I t.value.Version.2.2.2]] rfl ?_
        refine go_ops hΓ 2 rfl ?_
        refine eo_store hΓ rfl rfl rfl rfl rfl rfl rfl rfl (Nat.le_of_ble_eq_true rfl) ?_
        refine eo_hp [.box 129 [S [118, 97, 108, 117, 101], I t.v_at, I q4, S z21, I 3, I 0, S [], I 0, I 0, I 0, I 0]] rfl ?_
        refine go_ops hΓ 11 rfl ?_
        refine j_cond rfl (fun hb => ?_) (fun hb => ?_)
        · have h24 := cT h23 hb
          refine go hΓ 5 rfl ?_
          refine eo_store hΓ rfl rfl rfl rfl rfl rfl rfl rfl (Nat.le_of_ble_eq_true rfl) ?_
          refine eo_hp [.box 129 [S [118, 97, 108, 117, 101], I t.v_at, I q4, S z21, I 3, I 1, S [], I 0, I 0, I 0, I 0]] rfl ?_
          refine go_ops hΓ 1 rfl ?_
          obtain rfl := Option.some.inj h24
          exact fin_objs hΓ [] (.inl rfl) rfl rfl rfl rfl (.inl rfl)
        · have h25 := cF h23 hb
          refine go hΓ 1 rfl ?_
          obtain rfl := Option.some.inj h25
          exact fin_objs hΓ [] (.inl rfl) rfl rfl rfl rfl (.inl rfl)
      · have h26 := cF h22 hb
        refine go hΓ 1 rfl ?_
        obtain rfl := Option.some.inj h26
        exact fin_objs hΓ [] (.inl rfl) rfl rfl rfl rfl (.inl rfl)
set_option maxHeartbeats 8000000 in
theorem c_posture_tokenAt {k : Nat} {s : Str} {v_at : Int} {r : T_posture_token} (h : m_posture_tokenAt k s v_at = some r) : Pure Tryz.prog 161 [S s, I v_at] (.agg [S r.kind, I r.v_at, I r.v_end, S r.name, I r.value.Kind, I r.value.Number, S r.value.Words, I r.value.Version.1, I r.value.Version.2.1, I r.value.Version.2.2.1, I r.value.Version.2.2.2]) := by
  refine Pure.enter (Fr.of 0 _) Tryz.func161 rfl (Fr.of_ok _) rfl rfl ?_
  refine go_in ?_
  unfold m_posture_tokenAt at h
  refine go hΓ 2 rfl ?_
  refine eo_alloc hΓ rfl rfl rfl (Nat.le_of_ble_eq_true rfl) ?_
  refine go_ops hΓ 5 rfl ?_
  refine eo_build hΓ (gs := [S [98, 97, 100], I v_at, I 0, S [], I 0, I 0, S [], I 0, I 0, I 0, I 0]) rfl rfl rfl rfl rfl rfl rfl ?_
  refine eo_alloc hΓ rfl rfl rfl (Nat.le_of_ble_eq_true rfl) ?_
  refine eo_store hΓ rfl rfl rfl rfl rfl rfl rfl rfl (Nat.le_of_ble_eq_true rfl) ?_
  refine eo_hp [.box 129 [S [], I 0, I 0, S [], I 0, I 0, S [], I 0, I 0, I 0, I 0], .box 129 [S [98, 97, 100], I v_at, I 0, S [], I 0, I 0, S [], I 0, I 0, I 0, I 0]] rfl ?_
  refine go_ops hΓ 11 rfl ?_
  refine j_cond rfl (fun hb => ?_) (fun hb => ?_)
  · have h1 := cT h hb
    refine go hΓ 3 rfl ?_
    refine eo_store hΓ rfl rfl rfl rfl rfl rfl rfl rfl (Nat.le_of_ble_eq_true rfl) ?_
    refine eo_hp [.box 129 [S [], I 0, I 0, S [], I 0, I 0, S [], I 0, I 0, I 0, I 0], .box 129 [S [101, 110, 100], I v_at, I 0, S [], I 0, I 0, S [], I 0, I 0, I 0, I 0]] rfl ?_
    refine go_ops hΓ 5 rfl ?_
    refine eo_store hΓ rfl rfl rfl rfl rfl rfl rfl rfl (Nat.le_of_ble_eq_true rfl) ?_
    refine eo_hp [.box 129 [S [101, 110, 100], I v_at, I 0, S [], I 0, I 0, S [], I 0, I 0, I 0, I 0], .box 129 [S [101, 110, 100], I v_at, I 0, S [], I 0, I 0, S [], I 0, I 0, I 0, I 0]] rfl ?_
    refine go_ops hΓ 4 rfl ?_
    obtain rfl := Option.some.inj h1
    exact fin_pure hΓ (.inr rfl) rfl rfl
  · have h2 := cF h hb
    refine go hΓ 5 rfl ?_
    refine eo_litT hΓ (enc := eS) [[61, 61], [33, 61], [60, 61], [62, 61], [38, 38], [124, 124], [60], [62], [33], [40], [41]] rfl rfl rfl rfl rfl rfl rfl rfl rfl rfl rfl rfl (Nat.le_of_ble_eq_true rfl) ?_
    refine go_ops hΓ 4 rfl ?_
    obtain ⟨q6, hq6, h7⟩ := bi_ok h2
    refine j_bound 17 rfl fun hb9 => ?_
    refine j_cutEZ (R := fun a8 => q6 = .go a8) (fun a8 => [(0, S s), (1, I v_at), (4, .ptr 0 0), (5, .ptr 1 0)]) (fun a8 => [.box 129 [S [], I 0, I 0, S [], I 0, I 0, S [], I 0, I 0, I 0, I 0], .box 129 [S [98, 97, 100], I v_at, I 0, S [], I 0, I 0, S [], I 0, I 0, I 0, I 0]]) ?_ ?_
    · refine go hΓ 1 rfl ?_
      refine j_range [[61, 61], [33, 61], [60, 61], [62, 61], [38, 38], [124, 124], [60], [62], [33], [40], [41]] hq6 (fun i3 s4 => [(0, S s), (1, I v_at), (4, .ptr 0 0), (5, .ptr 1 0), (17, .d (Sl eS [[61, 61], [33, 61], [60, 61], [62, 61], [38, 38], [124, 124], [60], [62], [33], [40], [41]])), (18, I ([[61, 61], [33, 61], [60, 61], [62, 61], [38, 38], [124, 124], [60], [62], [33], [40], [41]].length : Int)), (19, I (i3 : Int))]) (fun s4 => [.box 129 [S [], I 0, I 0, S [], I 0, I 0, S [], I 0, I 0, I 0, I 0], .box 129 [S [98, 97, 100], I v_at, I 0, S [], I 0, I 0, S [], I 0, I 0, I 0, I 0]]) ⟨⟨rfl, rfl, rfl, rfl, rfl, rfl, rfl, trivial⟩, [], rfl, .inl rfl⟩ (fun i3 x5 s4 y13 hx10 hlt hy11 hout12 => ?_) (fun s4 hgo => ?_)
      · refine go hΓ 6 rfl ?_
        refine j_condT rfl (decide_eq_true (Int.ofNat_lt.2 hlt)) ?_
        refine go hΓ 6 rfl ?_
        refine eo_o rfl (op_elemZ hΓ (enc := eS) (getZ_nat hx10) rfl rfl rfl rfl rfl (fun _ => rfl)) ?_
        obtain ⟨z14, hz14, h15⟩ := bi_ok hy11
        refine go_ops hΓ 8 rfl ?_
        refine eo_o rfl (op_subZ hΓ hz14 rfl rfl rfl rfl rfl) ?_
        obtain ⟨y16, hy16, h17⟩ := bi_ok h15
        refine go_ops hΓ 1 rfl ?_
        refine eo_callP (callable Tryz.func167 rfl rfl) (c_strings_HasPrefix hy16) rfl (Nat.le_of_ble_eq_true rfl) rfl rfl rfl rfl rfl ?_
        refine go_ops hΓ 2 rfl ?_
        refine j_cond rfl (fun hb => ?_) (fun hb => ?_)
        · have h18 := cT h17 hb
          refine go hΓ 8 rfl ?_
          refine eo_store hΓ rfl rfl rfl rfl rfl rfl rfl rfl (Nat.le_of_ble_eq_true rfl) ?_
          refine eo_hp [.box 129 [S [], I 0, I 0, S [], I 0, I 0, S [], I 0, I 0, I 0, I 0], .box 129 [S x5, I v_at, I 0, S [], I 0, I 0, S [], I 0, I 0, I 0, I 0]] rfl ?_
          refine go_ops hΓ 1 rfl ?_
          refine eo_store hΓ rfl rfl rfl rfl rfl rfl rfl rfl (Nat.le_of_ble_eq_true rfl) ?_
          refine eo_hp [.box 129 [S [], I 0, I 0, S [], I 0, I 0, S [], I 0, I 0, I 0, I 0], .box 129 [S x5, I v_at, I (wi (v_at + (x5.length : Int))), S [], I 0, I 0, S [], I 0, I 0, I 0, I 0]] rfl ?_
          refine go_ops hΓ 5 rfl ?_
          refine eo_store hΓ rfl rfl rfl rfl rfl rfl rfl rfl (Nat.le_of_ble_eq_true rfl) ?_
          refine eo_hp [.box 129 [S x5, I v_at, I (wi (v_at + (x5.length : Int))), S [], I 0, I 0, S [], I 0, I 0, I 0, I 0], .box 129 [S x5, I v_at, I (wi (v_at + (x5.length : Int))), S [], I 0, I 0, S [], I 0, I 0, I 0, I 0]] rfl ?_
          refine go_ops hΓ 5 rfl ?_
          obtain ⟨v19, hv19, h20⟩ := bi_ok h18
          obtain rfl := Option.some.inj h20
          obtain rfl := hout12 _ rfl
          obtain rfl := Option.some.inj h7
          refine go hΓ 4 rfl ?_
          obtain rfl := Option.some.inj hv19
          exact fin_pure hΓ (.inr rfl) rfl rfl
        · have h21 := cF h17 hb
          refine go hΓ 7 rfl ?_
          obtain rfl := Option.some.inj h21
          exact ⟨_, rfl, ⟨⟨rfl, rfl, rfl, rfl, rfl, rfl, get_eq rfl (w64_succ (Nat.lt_of_lt_of_le hlt hb9)), trivial⟩, [], rfl, .inl rfl⟩⟩
      · subst hgo
        refine go hΓ 6 rfl ?_
        refine j_condF rfl (decide_eq_false (Int.lt_irrefl _)) ?_
        refine go hΓ 4 rfl ?_
        exact ⟨_, rfl, ⟨⟨rfl, rfl, rfl, rfl, trivial⟩, [], rfl, .inl rfl⟩⟩
    · intro a8 ha
      subst ha
      replace h7 := goI_l h7
      obtain ⟨c22, hc22, h23⟩ := bi_ok h7
      refine go hΓ 6 rfl ?_
      refine eo_o rfl (op_byteZ hΓ hc22 rfl rfl rfl rfl) ?_
      obtain ⟨q24, hq24, h25⟩ := bi_ok h23
      refine go_ops hΓ 3 rfl ?_
      refine j_cutNZ [(4, .ptr 0 0), (5, .ptr 1 0)] [.box 129 [S [], I 0, I 0, S [], I 0, I 0, S [], I 0, I 0, I 0, I 0], .box 129 [S q24.kind, I q24.v_at, I q24.v_end, S q24.name, I q24.value.Kind, I q24.value.Number, S q24.value.Words, I q24.value.Version.1, I q24.value.Version.2.1, I q24.value.Version.2.2.1, I q24.value.Version.2.2.2]] ?_ ?_
      · obtain ⟨y26, hy26, h27⟩ := bi_ok hq24
        refine go hΓ 4 rfl ?_
        refine eo_callP (callable Tryz.func212 rfl rfl) (c_posture_isDigit hy26) rfl (Nat.le_of_ble_eq_true rfl) rfl rfl rfl rfl rfl ?_
        refine go_ops hΓ 1 rfl ?_
        obtain ⟨q28, hq28, h29⟩ := bi_ok h27
        refine o_cut 17 [(0, S s), (1, I v_at), (4, .ptr 0 0), (5, .ptr 1 0), (8, .d (.v (.int .u8 (c22.toNat : Int)))), (60, B q28)] [.box 129 [S [], I 0, I 0, S [], I 0, I 0, S [], I 0, I 0, I 0, I 0], .box 129 [S [98, 97, 100], I v_at, I 0, S [], I 0, I 0, S [], I 0, I 0, I 0, I 0]] ?_ ?_
        · refine eo_gsplit rfl rfl (fun hb => ?_) (fun hb => ?_)
          · have h30 := cT hq28 hb
            refine go_ops hΓ 18 rfl ?_
            obtain rfl := Option.some.inj h30
            exact ⟨⟨rfl, rfl, rfl, rfl, rfl, rfl, trivial⟩, [], rfl, .inl rfl⟩
          · have h31 := cF hq28 hb
            refine go_ops hΓ 3 rfl ?_
            refine o_cut 6 [(0, S s), (1, I v_at), (4, .ptr 0 0), (5, .ptr 1 0), (8, .d (.v (.int .u8 (c22.toNat : Int)))), (43, B false), (52, B ((((c22.toNat : Int) : Int) == 45) && (decide ((wi (v_at + 1) : Int) < (s.length : Int)))))] [.box 129 [S [], I 0, I 0, S [], I 0, I 0, S [], I 0, I 0, I 0, I 0], .box 129 [S [98, 97, 100], I v_at, I 0, S [], I 0, I 0, S [], I 0, I 0, I 0, I 0]] ?_ ?_
            · refine eo_gsplit rfl rfl (fun hb => ?_) (fun hb => ?_)
              · refine go_ops hΓ 7 rfl ?_
                exact ⟨⟨rfl, rfl, rfl, rfl, rfl, rfl, get_b rfl (and_t hb), trivial⟩, [], rfl, .inl rfl⟩
              · refine go_ops hΓ 7 rfl ?_
                exact ⟨⟨rfl, rfl, rfl, rfl, rfl, rfl, get_b rfl (and_f hb), trivial⟩, [], rfl, .inl rfl⟩
            · refine go_ops hΓ 1 rfl ?_
              obtain ⟨q32, hq32, h33⟩ := bi_ok h31
              refine o_cut 6 [(0, S s), (1, I v_at), (4, .ptr 0 0), (5, .ptr 1 0), (8, .d (.v (.int .u8 (c22.toNat : Int)))), (43, B false), (59, B q32)] [.box 129 [S [], I 0, I 0, S [], I 0, I 0, S [], I 0, I 0, I 0, I 0], .box 129 [S [98, 97, 100], I v_at, I 0, S [], I 0, I 0, S [], I 0, I 0, I 0, I 0]] ?_ ?_
              · refine eo_gsplit rfl rfl (fun hb => ?_) (fun hb => ?_)
                · have h34 := cT hq32 hb
                  obtain ⟨c35, hc35, h36⟩ := bi_ok h34
                  refine go_ops hΓ 3 rfl ?_
                  refine eo_guard rfl ?_
                  refine eo_o rfl (op_byteZ hΓ hc35 rfl rfl rfl rfl) ?_
                  obtain ⟨y37, hy37, h38⟩ := bi_ok h36
                  refine eo_guard rfl ?_
                  refine eo_callP (callable Tryz.func212 rfl rfl) (c_posture_isDigit hy37) rfl (Nat.le_of_ble_eq_true rfl) rfl rfl rfl rfl rfl ?_
                  refine go_ops hΓ 2 rfl ?_
                  obtain rfl := Option.some.inj h38
                  exact ⟨⟨rfl, rfl, rfl, rfl, rfl, rfl, rfl, trivial⟩, [], rfl, .inl rfl⟩
                · have h39 := cF hq32 hb
                  refine go_ops hΓ 7 rfl ?_
                  obtain rfl := Option.some.inj h39
                  exact ⟨⟨rfl, rfl, rfl, rfl, rfl, rfl, rfl, trivial⟩, [], rfl, .inl rfl⟩
              · refine go_ops hΓ 2 rfl ?_
                obtain rfl := Option.some.inj h33
                exact ⟨⟨rfl, rfl, rfl, rfl, rfl, rfl, trivial⟩, [], rfl, .inl rfl⟩
        · refine go_ops hΓ 3 rfl ?_
          refine j_cond rfl (fun hb => ?_) (fun hb => ?_)
          · have h40 := cT h29 hb
            obtain ⟨y41, hy41, h42⟩ := bi_ok h40
            refine go hΓ 2 rfl ?_
            refine eo_callF [1] (.tup []) [.box 129 [S [], I 0, I 0, S [], I 0, I 0, S [], I 0, I 0, I 0, I 0], .box 129 [S y41.kind, I y41.v_at, I y41.v_end, S y41.name, I y41.value.Kind, I y41.value.Number, S y41.value.Words, I y41.value.Version.1, I y41.value.Version.2.1, I y41.value.Version.2.2.1, I y41.value.Version.2.2.2]] (callable Tryz.func213 rfl rfl) (c_posture_token_number hy41) rfl (Nat.le_of_ble_eq_true rfl) rfl rfl rfl rfl rfl rfl rfl rfl rfl rfl ?_
            refine go_ops hΓ 2 rfl ?_
            obtain rfl := Option.some.inj h42
            exact ⟨⟨rfl, rfl, trivial⟩, [], rfl, .inl rfl⟩
          · have h43 := cF h29 hb
            refine go hΓ 7 rfl ?_
            refine j_cond rfl (fun hb => ?_) (fun hb => ?_)
            · have h44 := cT h43 hb
              obtain ⟨y45, hy45, h46⟩ := bi_ok h44
              refine go hΓ 2 rfl ?_
              refine eo_callF [1] (.tup []) [.box 129 [S [], I 0, I 0, S [], I 0, I 0, S [], I 0, I 0, I 0, I 0], .box 129 [S y45.kind, I y45.v_at, I y45.v_end, S y45.name, I y45.value.Kind, I y45.value.Number, S y45.value.Words, I y45.value.Version.1, I y45.value.Version.2.1, I y45.value.Version.2.2.1, I y45.value.Version.2.2.2]] (callable Tryz.func214 rfl rfl) (c_posture_token_words hy45) rfl (Nat.le_of_ble_eq_true rfl) rfl rfl rfl rfl rfl rfl rfl rfl rfl rfl ?_
              refine go_ops hΓ 2 rfl ?_
              obtain rfl := Option.some.inj h46
              exact ⟨⟨rfl, rfl, trivial⟩, [], rfl, .inl rfl⟩
            · have h47 := cF h43 hb
              obtain ⟨z48, hz48, h49⟩ := bi_ok h47
              refine go hΓ 4 rfl ?_
              refine eo_o rfl (op_subZ hΓ hz48 rfl rfl rfl rfl rfl) ?_
              obtain ⟨y50, hy50, h51⟩ := bi_ok h49
              refine eo_callP (callable Tryz.func215 rfl rfl) (c_posture_isVersion hy50) rfl (Nat.le_of_ble_eq_true rfl) rfl rfl rfl rfl rfl ?_
              refine go_ops hΓ 3 rfl ?_
              refine j_cond rfl (fun hb => ?_) (fun hb => ?_)
              · have h52 := cT h51 hb
                obtain ⟨y53, hy53, h54⟩ := bi_ok h52
                refine go hΓ 2 rfl ?_
                refine eo_callF [1] (.tup []) [.box 129 [S [], I 0, I 0, S [], I 0, I 0, S [], I 0, I 0, I 0, I 0], .box 129 [S y53.kind, I y53.v_at, I y53.v_end, S y53.name, I y53.value.Kind, I y53.value.Number, S y53.value.Words, I y53.value.Version.1, I y53.value.Version.2.1, I y53.value.Version.2.2.1, I y53.value.Version.2.2.2]] (callable Tryz.func216 rfl rfl) (c_posture_token_version hy53) rfl (Nat.le_of_ble_eq_true rfl) rfl rfl rfl rfl rfl rfl rfl rfl rfl rfl ?_
                refine go_ops hΓ 2 rfl ?_
                obtain rfl := Option.some.inj h54
                exact ⟨⟨rfl, rfl, trivial⟩, [], rfl, .inl rfl⟩
              · have h55 := cF h51 hb
                refine go hΓ 5 rfl ?_
                refine o_cut 3 [(0, S s), (4, .ptr 0 0), (5, .ptr 1 0), (81, B ((decide (((c22.toNat : Int) : Int) ≥ 97)) && (decide (((c22.toNat : Int) : Int) ≤ 122))))] [.box 129 [S [], I 0, I 0, S [], I 0, I 0, S [], I 0, I 0, I 0, I 0], .box 129 [S [98, 97, 100], I v_at, I 0, S [], I 0, I 0, S [], I 0, I 0, I 0, I 0]] ?_ ?_
                · refine eo_gsplit rfl rfl (fun hb => ?_) (fun hb => ?_)
                  · refine go_ops hΓ 4 rfl ?_
                    exact ⟨⟨rfl, rfl, rfl, get_b rfl (and_t hb), trivial⟩, [], rfl, .inl rfl⟩
                  · refine go_ops hΓ 4 rfl ?_
                    exact ⟨⟨rfl, rfl, rfl, get_b rfl (and_f hb), trivial⟩, [], rfl, .inl rfl⟩
                · refine go_ops hΓ 3 rfl ?_
                  refine j_cond rfl (fun hb => ?_) (fun hb => ?_)
                  · have h56 := cT h55 hb
                    obtain ⟨y57, hy57, h58⟩ := bi_ok h56
                    refine go hΓ 2 rfl ?_
                    refine eo_callF [1] (.tup []) [.box 129 [S [], I 0, I 0, S [], I 0, I 0, S [], I 0, I 0, I 0, I 0], .box 129 [S y57.kind, I y57.v_at, I y57.v_end, S y57.name, I y57.value.Kind, I y57.value.Number, S y57.value.Words, I y57.value.Version.1, I y57.value.Version.2.1, I y57.value.Version.2.2.1, I y57.value.Version.2.2.2]] (callable Tryz.func217 rfl rfl) (c_posture_token_word hy57) rfl (Nat.le_of_ble_eq_true rfl) rfl rfl rfl rfl rfl rfl rfl rfl rfl rfl ?_
                    refine go_ops hΓ 2 rfl ?_
                    obtain rfl := Option.some.inj h58
                    exact ⟨⟨rfl, rfl, trivial⟩, [], rfl, .inl rfl⟩
                  · have h59 := cF h55 hb
                    refine go hΓ 2 rfl ?_
                    obtain rfl := Option.some.inj h59
                    exact ⟨⟨rfl, rfl, trivial⟩, [], rfl, .inl rfl⟩
      · refine go hΓ 4 rfl ?_
        refine eo_store hΓ rfl rfl rfl rfl rfl rfl rfl rfl (Nat.le_of_ble_eq_true rfl) ?_
        refine eo_hp [.box 129 [S q24.kind, I q24.v_at, I q24.v_end, S q24.name, I q24.value.Kind, I q24.value.Number, S q24.value.Words, I q24.value.Version.1, I q24.value.Version.2.1, I q24.value.Version.2.2.1, I q24.value.Version.2.2.2], .box 129 [S q24.kind, I q24.v_at, I q24.v_end, S q24.name, I q24.value.Kind, I q24.value.Number, S q24.value.Words, I q24.value.Version.1, I q24.value.Version.2.1, I q24.value.Version.2.2.1, I q24.value.Version.2.2.2]] rfl ?_
        refine go_ops hΓ 3 rfl ?_
        obtain rfl := Option.some.inj h25
        exact fin_pure hΓ (.inr rfl) rfl rfl
theorem c_posture_parser_next {k : Nat} {p : T_posture_parser} {r : T_posture_parser} (h : m_posture_parser_next k p = some r) : EC Tryz.prog 81 [.ptr 0 0] [.box 131 [S p.s, S p.tok.kind, I p.tok.v_at, I p.tok.v_end, S p.tok.name, I p.tok.value.Kind, I p.tok.value.Number, S p.tok.value.Words, I p.tok.value.Version.1, I p.tok.value.Version.2.1, I p.tok.value.Version.2.2.1, I p.tok.value.Version.2.2.2, B p.bad, I p.v_at]] fun g hp' => g = .tup [] ∧ hp' = [.box 131 [S r.s, S r.tok.kind, I r.tok.v_at, I r.tok.v_end, S r.tok.name, I r.tok.value.Kind, I r.tok.value.Number, S r.tok.value.Words, I r.tok.value.Version.1, I r.tok.value.Version.2.1, I r.tok.value.Version.2.2.1, I r.tok.value.Version.2.2.2, B r.bad, I r.v_at]] := by
  refine ec_enter (Fr.of 0 _) Tryz.func81 rfl (Fr.of_ok _) (Nat.le_of_ble_eq_true rfl) fun _ => ?_
  refine go_in ?_
  unfold m_posture_parser_next at h
  refine go hΓ 11 rfl ?_
  obtain ⟨q4, hq4, h5⟩ := bi_ok h
  refine j_cutNZ [(0, .ptr 0 0), (2, I q4)] [.box 131 [S p.s, S p.tok.kind, I p.tok.v_at, I p.tok.v_end, S p.tok.name, I p.tok.value.Kind, I p.tok.value.Number, S p.tok.value.Words, I p.tok.value.Version.1, I p.tok.value.Version.2.1, I p.tok.value.Version.2.2.1, I p.tok.value.Version.2.2.2, B p.bad, I p.v_at]] ?_ ?_
  · refine go hΓ 1 rfl ?_
    refine j_loop hq4 (fun s2 => [(0, .ptr 0 0), (2, I s2)]) (fun s2 => [.box 131 [S p.s, S p.tok.kind, I p.tok.v_at, I p.tok.v_end, S p.tok.name, I p.tok.value.Kind, I p.tok.value.Number, S p.tok.value.Words, I p.tok.value.Version.1, I p.tok.value.Version.2.1, I p.tok.value.Version.2.2.1, I p.tok.value.Version.2.2.2, B p.bad, I p.v_at]]) ⟨⟨rfl, rfl, trivial⟩, [], rfl, .inl rfl⟩ (fun s2 y10 hy8 hout9 => ?_)
    refine go hΓ 11 rfl ?_
    obtain ⟨q11, hq11, h12⟩ := bi_ok hy8
    refine o_cut 17 [(0, .ptr 0 0), (2, I s2), (32, B q11)] [.box 131 [S p.s, S p.tok.kind, I p.tok.v_at, I p.tok.v_end, S p.tok.name, I p.tok.value.Kind, I p.tok.value.Number, S p.tok.value.Words, I p.tok.value.Version.1, I p.tok.value.Version.2.1, I p.tok.value.Version.2.2.1, I p.tok.value.Version.2.2.2, B p.bad, I p.v_at]] ?_ ?_
    · refine eo_gsplit rfl rfl (fun hb => ?_) (fun hb => ?_)
      · have h13 := cT hq11 hb
        obtain ⟨c14, hc14, h15⟩ := bi_ok h13
        refine go_ops hΓ 5 rfl ?_
        refine eo_guard rfl ?_
        refine eo_o rfl (op_byteZ hΓ hc14 rfl rfl rfl rfl) ?_
        refine go_ops hΓ 2 rfl ?_
        obtain ⟨q16, hq16, h17⟩ := bi_ok h15
        refine o_cut 8 [(0, .ptr 0 0), (2, I s2), (15, B true), (31, B q16)] [.box 131 [S p.s, S p.tok.kind, I p.tok.v_at, I p.tok.v_end, S p.tok.name, I p.tok.value.Kind, I p.tok.value.Number, S p.tok.value.Words, I p.tok.value.Version.1, I p.tok.value.Version.2.1, I p.tok.value.Version.2.2.1, I p.tok.value.Version.2.2.2, B p.bad, I p.v_at]] ?_ ?_
        · refine eo_gsplit rfl rfl (fun hb => ?_) (fun hb => ?_)
          · have h18 := cT hq16 hb
            refine go_ops hΓ 9 rfl ?_
            obtain rfl := Option.some.inj h18
            exact ⟨⟨rfl, rfl, rfl, rfl, trivial⟩, [], rfl, .inl rfl⟩
          · have h19 := cF hq16 hb
            obtain ⟨c20, hc20, h21⟩ := bi_ok h19
            refine go_ops hΓ 5 rfl ?_
            refine eo_guard rfl ?_
            refine eo_o rfl (op_byteZ hΓ hc20 rfl rfl rfl rfl) ?_
            refine go_ops hΓ 3 rfl ?_
            obtain rfl := Option.some.inj h21
            exact ⟨⟨rfl, rfl, rfl, rfl, trivial⟩, [], rfl, .inl rfl⟩
        · refine go_ops hΓ 2 rfl ?_
          obtain rfl := Option.some.inj h17
          exact ⟨⟨rfl, rfl, rfl, trivial⟩, [], rfl, .inl rfl⟩
      · have h22 := cF hq11 hb
        refine go_ops hΓ 18 rfl ?_
        obtain rfl := Option.some.inj h22
        exact ⟨⟨rfl, rfl, rfl, trivial⟩, [], rfl, .inl rfl⟩
    · refine go_ops hΓ 2 rfl ?_
      refine j_cond rfl (fun hb => ?_) (fun hb => ?_)
      · have h23 := cT h12 hb
        refine go hΓ 9 rfl ?_
        obtain rfl := Option.some.inj h23
        exact ⟨_, rfl, ⟨⟨rfl, rfl, trivial⟩, [], rfl, .inl rfl⟩⟩
      · have h24 := cF h12 hb
        refine go hΓ 4 rfl ?_
        obtain rfl := Option.some.inj h24
        obtain rfl := hout9 _ rfl
        exact ⟨⟨rfl, rfl, trivial⟩, [], rfl, .inl rfl⟩
  · obtain ⟨y25, hy25, h26⟩ := bi_ok h5
    refine go hΓ 8 rfl ?_
    refine eo_callP (callable Tryz.func161 rfl rfl) (c_posture_tokenAt hy25) rfl (Nat.le_of_ble_eq_true rfl) rfl rfl rfl rfl rfl ?_
    refine go_ops hΓ 2 rfl ?_
    refine eo_store hΓ rfl rfl rfl rfl rfl rfl rfl rfl (Nat.le_of_ble_eq_true rfl) ?_
    refine eo_hp [.box 131 [S p.s, S y25.kind, I y25.v_at, I y25.v_end, S y25.name, I y25.value.Kind, I y25.value.Number, S y25.value.Words, I y25.value.Version.1, I y25.value.Version.2.1, I y25.value.Version.2.2.1, I y25.value.Version.2.2.2, B p.bad, I p.v_at]] rfl ?_
    refine go_ops hΓ 1 rfl ?_
    obtain rfl := Option.some.inj h26
    exact fin_objs hΓ [] (.inl rfl) rfl rfl rfl rfl (.inl rfl)
theorem c_posture_parser_fail {p : T_posture_parser} {r : T_api_Cond × T_posture_parser} (h : m_posture_parser_fail p = some r) : EC Tryz.prog 83 [.ptr 0 0] [.box 131 [S p.s, S p.tok.kind, I p.tok.v_at, I p.tok.v_end, S p.tok.name, I p.tok.value.Kind, I p.tok.value.Number, S p.tok.value.Words, I p.tok.value.Version.1, I p.tok.value.Version.2.1, I p.tok.value.Version.2.2.1, I p.tok.value.Version.2.2.2, B p.bad, I p.v_at]] fun g hp' => g = .agg [I r.1.Kind, S r.1.Name, S r.1.Op, I r.1.Value.Kind, I r.1.Value.Number, S r.1.Value.Words, I r.1.Value.Version.1, I r.1.Value.Version.2.1, I r.1.Value.Version.2.2.1, I r.1.Value.Version.2.2.2, .d (.ro r.1.Kids.n r.1.Kids.xs)] ∧ hp' = [.box 131 [S r.2.s, S r.2.tok.kind, I r.2.tok.v_at, I r.2.tok.v_end, S r.2.tok.name, I r.2.tok.value.Kind, I r.2.tok.value.Number, S r.2.tok.value.Words, I r.2.tok.value.Version.1, I r.2.tok.value.Version.2.1, I r.2.tok.value.Version.2.2.1, I r.2.tok.value.Version.2.2.2, B r.2.bad, I r.2.v_at]] := by
  refine ec_enter (Fr.of 0 _) Tryz.func83 rfl (Fr.of_ok _) (Nat.le_of_ble_eq_true rfl) fun _ => ?_
  refine go_in ?_
  unfold m_posture_parser_fail at h
  refine go hΓ 2 rfl ?_
  refine eo_alloc hΓ rfl rfl rfl (Nat.le_of_ble_eq_true rfl) ?_
  obtain ⟨q1, hq1, h2⟩ := bi_ok h
  refine go_ops hΓ 12 rfl ?_
  refine j_cutNZ [(2, .ptr 1 0)] [.box 131 [S q1.s, S q1.tok.kind, I q1.tok.v_at, I q1.tok.v_end, S q1.tok.name, I q1.tok.value.Kind, I q1.tok.value.Number, S q1.tok.value.Words, I q1.tok.value.Version.1, I q1.tok.value.Version.2.1, I q1.tok.value.Version.2.2.1, I q1.tok.value.Version.2.2.2, B q1.bad, I q1.v_at], .box 32 [I 0, S [], S [], I 0, I 0, S [], I 0, I 0, I 0, I 0, .d (.ro (KD.mk 0 []).n (KD.mk 0 []).xs)]] ?_ ?_
  · refine j_cond rfl (fun hb => ?_) (fun hb => ?_)
    · have h3 := cT hq1 hb
      refine go hΓ 10 rfl ?_
      refine eo_store hΓ rfl rfl rfl rfl rfl rfl rfl rfl (Nat.le_of_ble_eq_true rfl) ?_
      refine eo_hp [.box 131 [S p.s, S p.tok.kind, I p.tok.v_at, I p.tok.v_end, S p.tok.name, I p.tok.value.Kind, I p.tok.value.Number, S p.tok.value.Words, I p.tok.value.Version.1, I p.tok.value.Version.2.1, I p.tok.value.Version.2.2.1, I p.tok.value.Version.2.2.2, B true, I p.v_at], .box 32 [I 0, S [], S [], I 0, I 0, S [], I 0, I 0, I 0, I 0, .d (.ro (KD.mk 0 []).n (KD.mk 0 []).xs)]] rfl ?_
      refine go_ops hΓ 2 rfl ?_
      refine eo_store hΓ rfl rfl rfl rfl rfl rfl rfl rfl (Nat.le_of_ble_eq_true rfl) ?_
      refine eo_hp [.box 131 [S p.s, S p.tok.kind, I p.tok.v_at, I p.tok.v_end, S p.tok.name, I p.tok.value.Kind, I p.tok.value.Number, S p.tok.value.Words, I p.tok.value.Version.1, I p.tok.value.Version.2.1, I p.tok.value.Version.2.2.1, I p.tok.value.Version.2.2.2, B true, I p.tok.v_at], .box 32 [I 0, S [], S [], I 0, I 0, S [], I 0, I 0, I 0, I 0, .d (.ro (KD.mk 0 []).n (KD.mk 0 []).xs)]] rfl ?_
      refine go_ops hΓ 1 rfl ?_
      obtain rfl := Option.some.inj h3
      exact ⟨⟨rfl, trivial⟩, [], rfl, .inl rfl⟩
    · have h4 := cF hq1 hb
      refine go hΓ 1 rfl ?_
      obtain rfl := Option.some.inj h4
      exact ⟨⟨rfl, trivial⟩, [], rfl, .inl rfl⟩
  · refine go hΓ 3 rfl ?_
    refine eo_build hΓ (gs := [I 0, S [], S [], I 0, I 0, S [], I 0, I 0, I 0, I 0, .d (.ro (KD.mk 0 []).n (KD.mk 0 []).xs)]) rfl rfl rfl rfl rfl rfl rfl ?_
    refine eo_store hΓ rfl rfl rfl rfl rfl rfl rfl rfl (Nat.le_of_ble_eq_true rfl) ?_
    refine eo_hp [.box 131 [S q1.s, S q1.tok.kind, I q1.tok.v_at, I q1.tok.v_end, S q1.tok.name, I q1.tok.value.Kind, I q1.tok.value.Number, S q1.tok.value.Words, I q1.tok.value.Version.1, I q1.tok.value.Version.2.1, I q1.tok.value.Version.2.2.1, I q1.tok.value.Version.2.2.2, B q1.bad, I q1.v_at], .box 32 [I 0, S [], S [], I 0, I 0, S [], I 0, I 0, I 0, I 0, .d (.ro (KD.mk 0 []).n (KD.mk 0 []).xs)]] rfl ?_
    refine go_ops hΓ 3 rfl ?_
    obtain rfl := Option.some.inj h2
    exact fin_objs hΓ [_] (.inr rfl) rfl rfl rfl rfl (.inr ⟨HB.mk rfl, rfl⟩)
theorem c_slices_Index_string_string {s : List Str} {v : Str} {r : Int} (h : m_slices_Index_string_string s v = some r) : Pure Tryz.prog 172 [.d (Sl eS s), S v] (I r) := by
  refine Pure.enter (Fr.of 0 _) Tryz.func172 rfl (Fr.of_ok _) rfl rfl ?_
  refine go_in ?_
  unfold m_slices_Index_string_string at h
  refine go hΓ 13 rfl ?_
  obtain ⟨q4, hq4, h5⟩ := bi_ok h
  refine j_bound 0 rfl fun hb7 => ?_
  refine j_cutEZ (R := fun a6 => q4 = .go a6) (fun a6 => []) (fun a6 => []) ?_ ?_
  · refine go hΓ 1 rfl ?_
    refine j_range s hq4 (fun i1 s2 => [(0, .d (Sl eS s)), (1, S v), (7, I (s.length : Int)), (8, I (i1 : Int))]) (fun s2 => []) ⟨⟨rfl, rfl, rfl, rfl, trivial⟩, [], rfl, .inl rfl⟩ (fun i1 x3 s2 y11 hx8 hlt hy9 hout10 => ?_) (fun s2 hgo => ?_)
    · refine go hΓ 6 rfl ?_
      refine j_condT rfl (decide_eq_true (Int.ofNat_lt.2 hlt)) ?_
      refine go hΓ 15 rfl ?_
      refine eo_o rfl (op_elemZ hΓ (enc := eS) (getZ_nat hx8) rfl rfl rfl rfl rfl (fun _ => rfl)) ?_
      refine go_ops hΓ 4 rfl ?_
      refine j_cond rfl (fun hb => ?_) (fun hb => ?_)
      · have h12 := cT hy9 hb
        refine go hΓ 9 rfl ?_
        obtain ⟨v13, hv13, h14⟩ := bi_ok h12
        obtain rfl := Option.some.inj h14
        obtain rfl := hout10 _ rfl
        obtain rfl := Option.some.inj h5
        refine go hΓ 4 rfl ?_
        obtain rfl := Option.some.inj hv13
        exact fin_pure hΓ (.inr rfl) rfl rfl
      · have h15 := cF hy9 hb
        refine go hΓ 7 rfl ?_
        obtain rfl := Option.some.inj h15
        exact ⟨_, rfl, ⟨⟨rfl, rfl, rfl, get_eq rfl (w64_succ (Nat.lt_of_lt_of_le hlt hb7)), trivial⟩, [], rfl, .inl rfl⟩⟩
    · subst hgo
      refine go hΓ 6 rfl ?_
      refine j_condF rfl (decide_eq_false (Int.lt_irrefl _)) ?_
      refine go hΓ 4 rfl ?_
      exact ⟨_, rfl, ⟨trivial, [], rfl, .inl rfl⟩⟩
  · intro a6 ha
    subst ha
    replace h5 := goI_l h5
    refine go hΓ 7 rfl ?_
    obtain rfl := Option.some.inj h5
    exact fin_pure hΓ (.inr rfl) rfl rfl
theorem c_slices_Contains_string_string {s : List Str} {v : Str} {r : Bool} (h : m_slices_Contains_string_string s v = some r) : Pure Tryz.prog 227 [.d (Sl eS s), S v] (B r) := by
  refine Pure.enter (Fr.of 0 _) Tryz.func227 rfl (Fr.of_ok _) rfl rfl ?_
  refine go_in ?_
  unfold m_slices_Contains_string_string at h
  obtain ⟨y1, hy1, h2⟩ := bi_ok h
  refine go hΓ 9 rfl ?_
  refine eo_callP (callable Tryz.func172 rfl rfl) (c_slices_Index_string_string hy1) rfl (Nat.le_of_ble_eq_true rfl) rfl rfl rfl rfl rfl ?_
  refine go_ops hΓ 5 rfl ?_
  obtain rfl := Option.some.inj h2
  exact fin_pure hΓ (.inr rfl) rfl rfl
theorem c_posture_isOp {op : Str} {r : Bool} (h : m_posture_isOp op = some r) : Pure Tryz.prog 220 [S op] (B r) := by
  refine Pure.enter (Fr.of 0 _) Tryz.func220 rfl (Fr.of_ok _) rfl rfl ?_
  refine go_in ?_
  unfold m_posture_isOp at h
  refine go hΓ 7 rfl ?_
  refine eo_litT hΓ (enc := eS) [[61, 61], [33, 61], [60], [60, 61], [62], [62, 61]] rfl rfl rfl rfl rfl rfl rfl rfl rfl rfl rfl rfl (Nat.le_of_ble_eq_true rfl) ?_
  obtain ⟨y1, hy1, h2⟩ := bi_ok h
  refine go_ops hΓ 1 rfl ?_
  refine eo_callP (callable Tryz.func227 rfl rfl) (c_slices_Contains_string_string hy1) rfl (Nat.le_of_ble_eq_true rfl) rfl rfl rfl rfl rfl ?_
  refine go_ops hΓ 4 rfl ?_
  obtain rfl := Option.some.inj h2
  exact fin_pure hΓ (.inr rfl) rfl rfl
theorem c_posture_parser_comparison {k : Nat} {p : T_posture_parser} {r : T_api_Cond × T_posture_parser} (h : m_posture_parser_comparison k p = some r) : EC Tryz.prog 283 [.ptr 0 0] [.box 131 [S p.s, S p.tok.kind, I p.tok.v_at, I p.tok.v_end, S p.tok.name, I p.tok.value.Kind, I p.tok.value.Number, S p.tok.value.Words, I p.tok.value.Version.1, I p.tok.value.Version.2.1, I p.tok.value.Version.2.2.1, I p.tok.value.Version.2.2.2, B p.bad, I p.v_at]] fun g hp' => g = .agg [I r.1.Kind, S r.1.Name, S r.1.Op, I r.1.Value.Kind, I r.1.Value.Number, S r.1.Value.Words, I r.1.Value.Version.1, I r.1.Value.Version.2.1, I r.1.Value.Version.2.2.1, I r.1.Value.Version.2.2.2, .d (.ro r.1.Kids.n r.1.Kids.xs)] ∧ hp' = [.box 131 [S r.2.s, S r.2.tok.kind, I r.2.tok.v_at, I r.2.tok.v_end, S r.2.tok.name, I r.2.tok.value.Kind, I r.2.tok.value.Number, S r.2.tok.value.Words, I r.2.tok.value.Version.1, I r.2.tok.value.Version.2.1, I r.2.tok.value.Version.2.2.1, I r.2.tok.value.Version.2.2.2, B r.2.bad, I r.2.v_at]] := by
  refine ec_enter (Fr.of 0 _) Tryz.func283 rfl (Fr.of_ok _) (Nat.le_of_ble_eq_true rfl) fun _ => ?_
  refine go_in ?_
  unfold m_posture_parser_comparison at h
  refine go hΓ 2 rfl ?_
  refine eo_alloc hΓ rfl rfl rfl (Nat.le_of_ble_eq_true rfl) ?_
  refine go_ops hΓ 9 rfl ?_
  refine eo_build hΓ (gs := [I 3, I 1, S [], I 0, I 0, I 0, I 0]) rfl rfl rfl rfl rfl rfl rfl ?_
  refine eo_build hΓ (gs := [I 1, S p.tok.name, S [61, 61], I 3, I 1, S [], I 0, I 0, I 0, I 0, .d (.ro (KD.mk 0 []).n (KD.mk 0 []).xs)]) rfl rfl rfl rfl rfl rfl rfl ?_
  refine eo_alloc hΓ rfl rfl rfl (Nat.le_of_ble_eq_true rfl) ?_
  refine eo_store hΓ rfl rfl rfl rfl rfl rfl rfl rfl (Nat.le_of_ble_eq_true rfl) ?_
  refine eo_hp [.box 131 [S p.s, S p.tok.kind, I p.tok.v_at, I p.tok.v_end, S p.tok.name, I p.tok.value.Kind, I p.tok.value.Number, S p.tok.value.Words, I p.tok.value.Version.1, I p.tok.value.Version.2.1, I p.tok.value.Version.2.2.1, I p.tok.value.Version.2.2.2, B p.bad, I p.v_at], .box 32 [I 0, S [], S [], I 0, I 0, S [], I 0, I 0, I 0, I 0, .d (.ro (KD.mk 0 []).n (KD.mk 0 []).xs)], .box 32 [I 1, S p.tok.name, S [61, 61], I 3, I 1, S [], I 0, I 0, I 0, I 0, .d (.ro (KD.mk 0 []).n (KD.mk 0 []).xs)]] rfl ?_
  obtain ⟨y1, hy1, h2⟩ := bi_ok h
  refine go_ops hΓ 5 rfl ?_
  refine eo_callF [0] (.tup []) [.box 131 [S y1.s, S y1.tok.kind, I y1.tok.v_at, I y1.tok.v_end, S y1.tok.name, I y1.tok.value.Kind, I y1.tok.value.Number, S y1.tok.value.Words, I y1.tok.value.Version.1, I y1.tok.value.Version.2.1, I y1.tok.value.Version.2.2.1, I y1.tok.value.Version.2.2.2, B y1.bad, I y1.v_at], .box 32 [I 0, S [], S [], I 0, I 0, S [], I 0, I 0, I 0, I 0, .d (.ro (KD.mk 0 []).n (KD.mk 0 []).xs)], .box 32 [I 1, S p.tok.name, S [61, 61], I 3, I 1, S [], I 0, I 0, I 0, I 0, .d (.ro (KD.mk 0 []).n (KD.mk 0 []).xs)]] (callable Tryz.func81 rfl rfl) (c_posture_parser_next hy1) rfl (Nat.le_of_ble_eq_true rfl) rfl rfl rfl rfl rfl rfl rfl rfl rfl rfl ?_
  obtain ⟨y3, hy3, h4⟩ := bi_ok h2
  refine go_ops hΓ 10 rfl ?_
  refine eo_callP (callable Tryz.func220 rfl rfl) (c_posture_isOp hy3) rfl (Nat.le_of_ble_eq_true rfl) rfl rfl rfl rfl rfl ?_
  refine go_ops hΓ 3 rfl ?_
  refine j_cond rfl (fun hb => ?_) (fun hb => ?_)
  · have h5 := cT h4 hb
    refine go hΓ 3 rfl ?_
    refine eo_store hΓ rfl rfl rfl rfl rfl rfl rfl rfl (Nat.le_of_ble_eq_true rfl) ?_
    refine eo_hp [.box 131 [S y1.s, S y1.tok.kind, I y1.tok.v_at, I y1.tok.v_end, S y1.tok.name, I y1.tok.value.Kind, I y1.tok.value.Number, S y1.tok.value.Words, I y1.tok.value.Version.1, I y1.tok.value.Version.2.1, I y1.tok.value.Version.2.2.1, I y1.tok.value.Version.2.2.2, B y1.bad, I y1.v_at], .box 32 [I 1, S p.tok.name, S [61, 61], I 3, I 1, S [], I 0, I 0, I 0, I 0, .d (.ro (KD.mk 0 []).n (KD.mk 0 []).xs)], .box 32 [I 1, S p.tok.name, S [61, 61], I 3, I 1, S [], I 0, I 0, I 0, I 0, .d (.ro (KD.mk 0 []).n (KD.mk 0 []).xs)]] rfl ?_
    refine go_ops hΓ 4 rfl ?_
    obtain rfl := Option.some.inj h5
    exact fin_objs hΓ [_, _] (.inr rfl) rfl rfl rfl rfl (.inr ⟨HB.mk rfl, rfl⟩)
  · have h6 := cF h4 hb
    refine go hΓ 10 rfl ?_
    refine eo_store hΓ rfl rfl rfl rfl rfl rfl rfl rfl (Nat.le_of_ble_eq_true rfl) ?_
    refine eo_hp [.box 131 [S y1.s, S y1.tok.kind, I y1.tok.v_at, I y1.tok.v_end, S y1.tok.name, I y1.tok.value.Kind, I y1.tok.value.Number, S y1.tok.value.Words, I y1.tok.value.Version.1, I y1.tok.value.Version.2.1, I y1.tok.value.Version.2.2.1, I y1.tok.value.Version.2.2.2, B y1.bad, I y1.v_at], .box 32 [I 0, S [], S [], I 0, I 0, S [], I 0, I 0, I 0, I 0, .d (.ro (KD.mk 0 []).n (KD.mk 0 []).xs)], .box 32 [I 1, S p.tok.name, S y1.tok.kind, I 3, I 1, S [], I 0, I 0, I 0, I 0, .d (.ro (KD.mk 0 []).n (KD.mk 0 []).xs)]] rfl ?_
    obtain ⟨y7, hy7, h8⟩ := bi_ok h6
    refine go_ops hΓ 5 rfl ?_
    refine eo_callF [0] (.tup []) [.box 131 [S y7.s, S y7.tok.kind, I y7.tok.v_at, I y7.tok.v_end, S y7.tok.name, I y7.tok.value.Kind, I y7.tok.value.Number, S y7.tok.value.Words, I y7.tok.value.Version.1, I y7.tok.value.Version.2.1, I y7.tok.value.Version.2.2.1, I y7.tok.value.Version.2.2.2, B y7.bad, I y7.v_at], .box 32 [I 0, S [], S [], I 0, I 0, S [], I 0, I 0, I 0, I 0, .d (.ro (KD.mk 0 []).n (KD.mk 0 []).xs)], .box 32 [I 1, S p.tok.name, S y1.tok.kind, I 3, I 1, S [], I 0, I 0, I 0, I 0, .d (.ro (KD.mk 0 []).n (KD.mk 0 []).xs)]] (callable Tryz.func81 rfl rfl) (c_posture_parser_next hy7) rfl (Nat.le_of_ble_eq_true rfl) rfl rfl rfl rfl rfl rfl rfl rfl rfl rfl ?_
    refine go_ops hΓ 13 rfl ?_
    refine j_cond rfl (fun hb => ?_) (fun hb => ?_)
    · have h9 := cT h8 hb
      obtain ⟨y10, hy10, h11⟩ := bi_ok h9
      refine go hΓ 3 rfl ?_
      refine eo_callF [0] (.agg [I y10.1.Kind, S y10.1.Name, S y10.1.Op, I y10.1.Value.Kind, I y10.1.Value.Number, S y10.1.Value.Words, I y10.1.Value.Version.1, I y10.1.Value.Version.2.1, I y10.1.Value.Version.2.2.1, I y10.1.Value.Version.2.2.2, .d (.ro y10.1.Kids.n y10.1.Kids.xs)]) [.box 131 [S y10.2.s, S y10.2.tok.kind, I y10.2.tok.v_at, I y10.2.tok.v_end, S y10.2.tok.name, I y10.2.tok.value.Kind, I y10.2.tok.value.Number, S y10.2.tok.value.Words, I y10.2.tok.value.Version.1, I y10.2.tok.value.Version.2.1, I y10.2.tok.value.Version.2.2.1, I y10.2.tok.value.Version.2.2.2, B y10.2.bad, I y10.2.v_at], .box 32 [I 0, S [], S [], I 0, I 0, S [], I 0, I 0, I 0, I 0, .d (.ro (KD.mk 0 []).n (KD.mk 0 []).xs)], .box 32 [I 1, S p.tok.name, S y1.tok.kind, I 3, I 1, S [], I 0, I 0, I 0, I 0, .d (.ro (KD.mk 0 []).n (KD.mk 0 []).xs)]] (callable Tryz.func83 rfl rfl) (c_posture_parser_fail hy10) rfl (Nat.le_of_ble_eq_true rfl) rfl rfl rfl rfl rfl rfl rfl rfl rfl rfl ?_
      refine eo_store hΓ rfl rfl rfl rfl rfl rfl rfl rfl (Nat.le_of_ble_eq_true rfl) ?_
      refine eo_hp [.box 131 [S y10.2.s, S y10.2.tok.kind, I y10.2.tok.v_at, I y10.2.tok.v_end, S y10.2.tok.name, I y10.2.tok.value.Kind, I y10.2.tok.value.Number, S y10.2.tok.value.Words, I y10.2.tok.value.Version.1, I y10.2.tok.value.Version.2.1, I y10.2.tok.value.Version.2.2.1, I y10.2.tok.value.Version.2.2.2, B y10.2.bad, I y10.2.v_at], .box 32 [I y10.1.Kind, S y10.1.Name, S y10.1.Op, I y10.1.Value.Kind, I y10.1.Value.Number, S y10.1.Value.Words, I y10.1.Value.Version.1, I y10.1.Value.Version.2.1, I y10.1.Value.Version.2.2.1, I y10.1.Value.Version.2.2.2, .d (.ro y10.1.Kids.n y10.1.Kids.xs)], .box 32 [I 1, S p.tok.name, S y1.tok.kind, I 3, I 1, S [], I 0, I 0, I 0, I 0, .d (.ro (KD.mk 0 []).n (KD.mk 0 []).xs)]] rfl ?_
      refine go_ops hΓ 4 rfl ?_
      obtain rfl := Option.some.inj h11
      exact fin_objs hΓ [_, _] (.inr rfl) rfl rfl rfl rfl (.inr ⟨HB.mk rfl, rfl⟩)
    · have h12 := cF h8 hb
      refine go hΓ 10 rfl ?_
      refine eo_store hΓ rfl rfl rfl rfl rfl rfl rfl rfl (Nat.le_of_ble_eq_true rfl) ?_
      refine eo_hp [.box 131 [S y7.s, S y7.tok.kind, I y7.tok.v_at, I y7.tok.v_end, S y7.tok.name, I y7.tok.value.Kind, I y7.tok.value.Number, S y7.tok.value.Words, I y7.tok.value.Version.1, I y7.tok.value.Version.2.1, I y7.tok.value.Version.2.2.1, I y7.tok.value.Version.2.2.2, B y7.bad, I y7.v_at], .box 32 [I 0, S [], S [], I 0, I 0, S [], I 0, I 0, I 0, I 0, .d (.ro (KD.mk 0 []).n (KD.mk 0 []).xs)], .box 32 [I 1, S p.tok.name, S y1.tok.kind, I y7.tok.value.Kind, I y7.tok.value.Number, S y7.tok.value.Words, I y7.tok.value.Version.1, I y7.tok.value.Version.2.1, I y7.tok.value.Version.2.2.1, I y7.tok.value.Version.2.2.2, .d (.ro (KD.mk 0 []).n (KD.mk 0 []).xs)]] rfl ?_
      obtain ⟨y13, hy13, h14⟩ := bi_ok h12
      refine go_ops hΓ 5 rfl ?_
      refine eo_callF [0] (.tup []) [.box 131 [S y13.s, S y13.tok.kind, I y13.tok.v_at, I y13.tok.v_end, S y13.tok.name, I y13.tok.value.Kind, I y13.tok.value.Number, S y13.tok.value.Words, I y13.tok.value.Version.1, I y13.tok.value.Version.2.1, I y13.tok.value.Version.2.2.1, I y13.tok.value.Version.2.2.2, B y13.bad, I y13.v_at], .box 32 [I 0, S [], S [], I 0, I 0, S [], I 0, I 0, I 0, I 0, .d (.ro (KD.mk 0 []).n (KD.mk 0 []).xs)], .box 32 [I 1, S p.tok.name, S y1.tok.kind, I y7.tok.value.Kind, I y7.tok.value.Number, S y7.tok.value.Words, I y7.tok.value.Version.1, I y7.tok.value.Version.2.1, I y7.tok.value.Version.2.2.1, I y7.tok.value.Version.2.2.2, .d (.ro (KD.mk 0 []).n (KD.mk 0 []).xs)]] (callable Tryz.func81 rfl rfl) (c_posture_parser_next hy13) rfl (Nat.le_of_ble_eq_true rfl) rfl rfl rfl rfl rfl rfl rfl rfl rfl rfl ?_
      refine go_ops hΓ 5 rfl ?_
      refine eo_store hΓ rfl rfl rfl rfl rfl rfl rfl rfl (Nat.le_of_ble_eq_true rfl) ?_
      refine eo_hp [.box 131 [S y13.s, S y13.tok.kind, I y13.tok.v_at, I y13.tok.v_end, S y13.tok.name, I y13.tok.value.Kind, I y13.tok.value.Number, S y13.tok.value.Words, I y13.tok.value.Version.1, I y13.tok.value.Version.2.1, I y13.tok.value.Version.2.2.1, I y13.tok.value.Version.2.2.2, B y13.bad, I y13.v_at], .box 32 [I 1, S p.tok.name, S y1.tok.kind, I y7.tok.value.Kind, I y7.tok.value.Number, S y7.tok.value.Words, I y7.tok.value.Version.1, I y7.tok.value.Version.2.1, I y7.tok.value.Version.2.2.1, I y7.tok.value.Version.2.2.2, .d (.ro (KD.mk 0 []).n (KD.mk 0 []).xs)], .box 32 [I 1, S p.tok.name, S y1.tok.kind, I y7.tok.value.Kind, I y7.tok.value.Number, S y7.tok.value.Words, I y7.tok.value.Version.1, I y7.tok.value.Version.2.1, I y7.tok.value.Version.2.2.1, I y7.tok.value.Version.2.2.2, .d (.ro (KD.mk 0 []).n (KD.mk 0 []).xs)]] rfl ?_
      refine go_ops hΓ 3 rfl ?_
      obtain rfl := Option.some.inj h14
      exact fin_objs hΓ [_, _] (.inr rfl) rfl rfl rfl rfl (.inr ⟨HB.mk rfl, rfl⟩)
theorem c_posture_parser_part {rc_posture_parser_cond : T_posture_parser → Option (T_api_Cond × T_posture_parser)} (ih_posture_parser_cond : ∀ {p : T_posture_parser} {r : T_api_Cond × T_posture_parser}, rc_posture_parser_cond p = some r → EC Tryz.prog 82 [.ptr 0 0] [.box 131 [S p.s, S p.tok.kind, I p.tok.v_at, I p.tok.v_end, S p.tok.name, I p.tok.value.Kind, I p.tok.value.Number, S p.tok.value.Words, I p.tok.value.Version.1, I p.tok.value.Version.2.1, I p.tok.value.Version.2.2.1, I p.tok.value.Version.2.2.2, B p.bad, I p.v_at]] fun g hp' => g = .agg [I r.1.Kind, S r.1.Name, S r.1.Op, I r.1.Value.Kind, I r.1.Value.Number, S r.1.Value.Words, I r.1.Value.Version.1, I r.1.Value.Version.2.1, I r.1.Value.Version.2.2.1, I r.1.Value.Version.2.2.2, .d (.ro r.1.Kids.n r.1.Kids.xs)] ∧ hp' = [.box 131 [S r.2.s, S r.2.tok.kind, I r.2.tok.v_at, I r.2.tok.v_end, S r.2.tok.name, I r.2.tok.value.Kind, I r.2.tok.value.Number, S r.2.tok.value.Words, I r.2.tok.value.Version.1, I r.2.tok.value.Version.2.1, I r.2.tok.value.Version.2.2.1, I r.2.tok.value.Version.2.2.2, B r.2.bad, I r.2.v_at]]) {k : Nat} {p : T_posture_parser} {r : T_api_Cond × T_posture_parser} (h : m_posture_parser_part rc_posture_parser_cond k p = some r) : EC Tryz.prog 218 [.ptr 0 0] [.box 131 [S p.s, S p.tok.kind, I p.tok.v_at, I p.tok.v_end, S p.tok.name, I p.tok.value.Kind, I p.tok.value.Number, S p.tok.value.Words, I p.tok.value.Version.1, I p.tok.value.Version.2.1, I p.tok.value.Version.2.2.1, I p.tok.value.Version.2.2.2, B p.bad, I p.v_at]] fun g hp' => g = .agg [I r.1.Kind, S r.1.Name, S r.1.Op, I r.1.Value.Kind, I r.1.Value.Number, S r.1.Value.Words, I r.1.Value.Version.1, I r.1.Value.Version.2.1, I r.1.Value.Version.2.2.1, I r.1.Value.Version.2.2.2, .d (.ro r.1.Kids.n r.1.Kids.xs)] ∧ hp' = [.box 131 [S r.2.s, S r.2.tok.kind, I r.2.tok.v_at, I r.2.tok.v_end, S r.2.tok.name, I r.2.tok.value.Kind, I r.2.tok.value.Number, S r.2.tok.value.Words, I r.2.tok.value.Version.1, I r.2.tok.value.Version.2.1, I r.2.tok.value.Version.2.2.1, I r.2.tok.value.Version.2.2.2, B r.2.bad, I r.2.v_at]] := by
  induction k generalizing p r with
  | zero => unfold m_posture_parser_part at h; cases h
  | succ k ih0 =>
    have ih : ∀ {p : T_posture_parser} {r : T_api_Cond × T_posture_parser}, m_posture_parser_part rc_posture_parser_cond k p = some r → EC Tryz.prog 218 [.ptr 0 0] [.box 131 [S p.s, S p.tok.kind, I p.tok.v_at, I p.tok.v_end, S p.tok.name, I p.tok.value.Kind, I p.tok.value.Number, S p.tok.value.Words, I p.tok.value.Version.1, I p.tok.value.Version.2.1, I p.tok.value.Version.2.2.1, I p.tok.value.Version.2.2.2, B p.bad, I p.v_at]] fun g hp' => g = .agg [I r.1.Kind, S r.1.Name, S r.1.Op, I r.1.Value.Kind, I r.1.Value.Number, S r.1.Value.Words, I r.1.Value.Version.1, I r.1.Value.Version.2.1, I r.1.Value.Version.2.2.1, I r.1.Value.Version.2.2.2, .d (.ro r.1.Kids.n r.1.Kids.xs)] ∧ hp' = [.box 131 [S r.2.s, S r.2.tok.kind, I r.2.tok.v_at, I r.2.tok.v_end, S r.2.tok.name, I r.2.tok.value.Kind, I r.2.tok.value.Number, S r.2.tok.value.Words, I r.2.tok.value.Version.1, I r.2.tok.value.Version.2.1, I r.2.tok.value.Version.2.2.1, I r.2.tok.value.Version.2.2.2, B r.2.bad, I r.2.v_at]] := by intro p r h; first | exact ih0 h | exact ih0 _ _ h
    refine ec_enter (Fr.of 0 _) Tryz.func218 rfl (Fr.of_ok _) (Nat.le_of_ble_eq_true rfl) fun _ => ?_
    refine go_in ?_
    unfold m_posture_parser_part at h
    refine go hΓ 2 rfl ?_
    refine eo_alloc hΓ rfl rfl rfl (Nat.le_of_ble_eq_true rfl) ?_
    refine go_ops hΓ 19 rfl ?_
    refine j_cond rfl (fun hb => ?_) (fun hb => ?_)
    · have h1 := cT h hb
      obtain ⟨y2, hy2, h3⟩ := bi_ok h1
      refine go hΓ 3 rfl ?_
      refine eo_callF [0] (.tup []) [.box 131 [S y2.s, S y2.tok.kind, I y2.tok.v_at, I y2.tok.v_end, S y2.tok.name, I y2.tok.value.Kind, I y2.tok.value.Number, S y2.tok.value.Words, I y2.tok.value.Version.1, I y2.tok.value.Version.2.1, I y2.tok.value.Version.2.2.1, I y2.tok.value.Version.2.2.2, B y2.bad, I y2.v_at], .box 32 [I 0, S [], S [], I 0, I 0, S [], I 0, I 0, I 0, I 0, .d (.ro (KD.mk 0 []).n (KD.mk 0 []).xs)]] (callable Tryz.func81 rfl rfl) (c_posture_parser_next hy2) rfl (Nat.le_of_ble_eq_true rfl) rfl rfl rfl rfl rfl rfl rfl rfl rfl rfl ?_
      obtain ⟨y4, hy4, h5⟩ := bi_ok h3
      refine go_ops hΓ 5 rfl ?_
      refine eo_callF [0] (.agg [I y4.1.Kind, S y4.1.Name, S y4.1.Op, I y4.1.Value.Kind, I y4.1.Value.Number, S y4.1.Value.Words, I y4.1.Value.Version.1, I y4.1.Value.Version.2.1, I y4.1.Value.Version.2.2.1, I y4.1.Value.Version.2.2.2, .d (.ro y4.1.Kids.n y4.1.Kids.xs)]) [.box 131 [S y4.2.s, S y4.2.tok.kind, I y4.2.tok.v_at, I y4.2.tok.v_end, S y4.2.tok.name, I y4.2.tok.value.Kind, I y4.2.tok.value.Number, S y4.2.tok.value.Words, I y4.2.tok.value.Version.1, I y4.2.tok.value.Version.2.1, I y4.2.tok.value.Version.2.2.1, I y4.2.tok.value.Version.2.2.2, B y4.2.bad, I y4.2.v_at], .box 32 [I 0, S [], S [], I 0, I 0, S [], I 0, I 0, I 0, I 0, .d (.ro (KD.mk 0 []).n (KD.mk 0 []).xs)]] (callable Tryz.func218 rfl rfl) (ih hy4) rfl (Nat.le_of_ble_eq_true rfl) rfl rfl rfl rfl rfl rfl rfl rfl rfl rfl ?_
      refine eo_litT hΓ (enc := e_api_Cond) [y4.1] rfl rfl rfl rfl rfl rfl rfl rfl rfl rfl rfl rfl (Nat.le_of_ble_eq_true rfl) ?_
      refine eo_build hΓ (gs := [I 2, S [], S [], I 0, I 0, S [], I 0, I 0, I 0, I 0, .d (.ro (pk e_api_Cond [y4.1]).n (pk e_api_Cond [y4.1]).xs)]) rfl rfl rfl rfl rfl rfl rfl ?_
      refine eo_store hΓ rfl rfl rfl rfl rfl rfl rfl rfl (Nat.le_of_ble_eq_true rfl) ?_
      refine eo_hp [.box 131 [S y4.2.s, S y4.2.tok.kind, I y4.2.tok.v_at, I y4.2.tok.v_end, S y4.2.tok.name, I y4.2.tok.value.Kind, I y4.2.tok.value.Number, S y4.2.tok.value.Words, I y4.2.tok.value.Version.1, I y4.2.tok.value.Version.2.1, I y4.2.tok.value.Version.2.2.1, I y4.2.tok.value.Version.2.2.2, B y4.2.bad, I y4.2.v_at], .box 32 [I 2, S [], S [], I 0, I 0, S [], I 0, I 0, I 0, I 0, .d (.ro (pk e_api_Cond [y4.1]).n (pk e_api_Cond [y4.1]).xs)]] rfl ?_
      refine go_ops hΓ 5 rfl ?_
      obtain rfl := Option.some.inj h5
      exact fin_objs hΓ [_] (.inr rfl) rfl rfl rfl rfl (.inr ⟨HB.mk rfl, rfl⟩)
    · have h6 := cF h hb
      refine go hΓ 6 rfl ?_
      refine j_cond rfl (fun hb => ?_) (fun hb => ?_)
      · have h7 := cT h6 hb
        obtain ⟨y8, hy8, h9⟩ := bi_ok h7
        refine go hΓ 3 rfl ?_
        refine eo_callF [0] (.tup []) [.box 131 [S y8.s, S y8.tok.kind, I y8.tok.v_at, I y8.tok.v_end, S y8.tok.name, I y8.tok.value.Kind, I y8.tok.value.Number, S y8.tok.value.Words, I y8.tok.value.Version.1, I y8.tok.value.Version.2.1, I y8.tok.value.Version.2.2.1, I y8.tok.value.Version.2.2.2, B y8.bad, I y8.v_at], .box 32 [I 0, S [], S [], I 0, I 0, S [], I 0, I 0, I 0, I 0, .d (.ro (KD.mk 0 []).n (KD.mk 0 []).xs)]] (callable Tryz.func81 rfl rfl) (c_posture_parser_next hy8) rfl (Nat.le_of_ble_eq_true rfl) rfl rfl rfl rfl rfl rfl rfl rfl rfl rfl ?_
        obtain ⟨y10, hy10, h11⟩ := bi_ok h9
        refine go_ops hΓ 5 rfl ?_
        refine eo_callF [0] (.agg [I y10.1.Kind, S y10.1.Name, S y10.1.Op, I y10.1.Value.Kind, I y10.1.Value.Number, S y10.1.Value.Words, I y10.1.Value.Version.1, I y10.1.Value.Version.2.1, I y10.1.Value.Version.2.2.1, I y10.1.Value.Version.2.2.2, .d (.ro y10.1.Kids.n y10.1.Kids.xs)]) [.box 131 [S y10.2.s, S y10.2.tok.kind, I y10.2.tok.v_at, I y10.2.tok.v_end, S y10.2.tok.name, I y10.2.tok.value.Kind, I y10.2.tok.value.Number, S y10.2.tok.value.Words, I y10.2.tok.value.Version.1, I y10.2.tok.value.Version.2.1, I y10.2.tok.value.Version.2.2.1, I y10.2.tok.value.Version.2.2.2, B y10.2.bad, I y10.2.v_at], .box 32 [I 0, S [], S [], I 0, I 0, S [], I 0, I 0, I 0, I 0, .d (.ro (KD.mk 0 []).n (KD.mk 0 []).xs)]] (callable Tryz.func82 rfl rfl) (ih_posture_parser_cond hy10) rfl (Nat.le_of_ble_eq_true rfl) rfl rfl rfl rfl rfl rfl rfl rfl rfl rfl ?_
        refine eo_alloc hΓ rfl rfl rfl (Nat.le_of_ble_eq_true rfl) ?_
        refine eo_store hΓ rfl rfl rfl rfl rfl rfl rfl rfl (Nat.le_of_ble_eq_true rfl) ?_
        refine eo_hp [.box 131 [S y10.2.s, S y10.2.tok.kind, I y10.2.tok.v_at, I y10.2.tok.v_end, S y10.2.tok.name, I y10.2.tok.value.Kind, I y10.2.tok.value.Number, S y10.2.tok.value.Words, I y10.2.tok.value.Version.1, I y10.2.tok.value.Version.2.1, I y10.2.tok.value.Version.2.2.1, I y10.2.tok.value.Version.2.2.2, B y10.2.bad, I y10.2.v_at], .box 32 [I 0, S [], S [], I 0, I 0, S [], I 0, I 0, I 0, I 0, .d (.ro (KD.mk 0 []).n (KD.mk 0 []).xs)], .box 32 [I y10.1.Kind, S y10.1.Name, S y10.1.Op, I y10.1.Value.Kind, I y10.1.Value.Number, S y10.1.Value.Words, I y10.1.Value.Version.1, I y10.1.Value.Version.2.1, I y10.1.Value.Version.2.2.1, I y10.1.Value.Version.2.2.2, .d (.ro y10.1.Kids.n y10.1.Kids.xs)]] rfl ?_
        refine go_ops hΓ 11 rfl ?_
        refine j_cond rfl (fun hb => ?_) (fun hb => ?_)
        · have h12 := cT h11 hb
          refine go hΓ 3 rfl ?_
          refine eo_store hΓ rfl rfl rfl rfl rfl rfl rfl rfl (Nat.le_of_ble_eq_true rfl) ?_
          refine eo_hp [.box 131 [S y10.2.s, S y10.2.tok.kind, I y10.2.tok.v_at, I y10.2.tok.v_end, S y10.2.tok.name, I y10.2.tok.value.Kind, I y10.2.tok.value.Number, S y10.2.tok.value.Words, I y10.2.tok.value.Version.1, I y10.2.tok.value.Version.2.1, I y10.2.tok.value.Version.2.2.1, I y10.2.tok.value.Version.2.2.2, B y10.2.bad, I y10.2.v_at], .box 32 [I y10.1.Kind, S y10.1.Name, S y10.1.Op, I y10.1.Value.Kind, I y10.1.Value.Number, S y10.1.Value.Words, I y10.1.Value.Version.1, I y10.1.Value.Version.2.1, I y10.1.Value.Version.2.2.1, I y10.1.Value.Version.2.2.2, .d (.ro y10.1.Kids.n y10.1.Kids.xs)], .box 32 [I y10.1.Kind, S y10.1.Name, S y10.1.Op, I y10.1.Value.Kind, I y10.1.Value.Number, S y10.1.Value.Words, I y10.1.Value.Version.1, I y10.1.Value.Version.2.1, I y10.1.Value.Version.2.2.1, I y10.1.Value.Version.2.2.2, .d (.ro y10.1.Kids.n y10.1.Kids.xs)]] rfl ?_
          refine go_ops hΓ 6 rfl ?_
          obtain rfl := Option.some.inj h12
          exact fin_objs hΓ [_, _] (.inr rfl) rfl rfl rfl rfl (.inr ⟨HB.mk rfl, rfl⟩)
        · have h13 := cF h11 hb
          refine go hΓ 13 rfl ?_
          refine j_cond rfl (fun hb => ?_) (fun hb => ?_)
          · have h14 := cT h13 hb
            obtain ⟨y15, hy15, h16⟩ := bi_ok h14
            refine go hΓ 3 rfl ?_
            refine eo_callF [0] (.agg [I y15.1.Kind, S y15.1.Name, S y15.1.Op, I y15.1.Value.Kind, I y15.1.Value.Number, S y15.1.Value.Words, I y15.1.Value.Version.1, I y15.1.Value.Version.2.1, I y15.1.Value.Version.2.2.1, I y15.1.Value.Version.2.2.2, .d (.ro y15.1.Kids.n y15.1.Kids.xs)]) [.box 131 [S y15.2.s, S y15.2.tok.kind, I y15.2.tok.v_at, I y15.2.tok.v_end, S y15.2.tok.name, I y15.2.tok.value.Kind, I y15.2.tok.value.Number, S y15.2.tok.value.Words, I y15.2.tok.value.Version.1, I y15.2.tok.value.Version.2.1, I y15.2.tok.value.Version.2.2.1, I y15.2.tok.value.Version.2.2.2, B y15.2.bad, I y15.2.v_at], .box 32 [I 0, S [], S [], I 0, I 0, S [], I 0, I 0, I 0, I 0, .d (.ro (KD.mk 0 []).n (KD.mk 0 []).xs)], .box 32 [I y10.1.Kind, S y10.1.Name, S y10.1.Op, I y10.1.Value.Kind, I y10.1.Value.Number, S y10.1.Value.Words, I y10.1.Value.Version.1, I y10.1.Value.Version.2.1, I y10.1.Value.Version.2.2.1, I y10.1.Value.Version.2.2.2, .d (.ro y10.1.Kids.n y10.1.Kids.xs)]] (callable Tryz.func83 rfl rfl) (c_posture_parser_fail hy15) rfl (Nat.le_of_ble_eq_true rfl) rfl rfl rfl rfl rfl rfl rfl rfl rfl rfl ?_
            refine eo_store hΓ rfl rfl rfl rfl rfl rfl rfl rfl (Nat.le_of_ble_eq_true rfl) ?_
            refine eo_hp [.box 131 [S y15.2.s, S y15.2.tok.kind, I y15.2.tok.v_at, I y15.2.tok.v_end, S y15.2.tok.name, I y15.2.tok.value.Kind, I y15.2.tok.value.Number, S y15.2.tok.value.Words, I y15.2.tok.value.Version.1, I y15.2.tok.value.Version.2.1, I y15.2.tok.value.Version.2.2.1, I y15.2.tok.value.Version.2.2.2, B y15.2.bad, I y15.2.v_at], .box 32 [I y15.1.Kind, S y15.1.Name, S y15.1.Op, I y15.1.Value.Kind, I y15.1.Value.Number, S y15.1.Value.Words, I y15.1.Value.Version.1, I y15.1.Value.Version.2.1, I y15.1.Value.Version.2.2.1, I y15.1.Value.Version.2.2.2, .d (.ro y15.1.Kids.n y15.1.Kids.xs)], .box 32 [I y10.1.Kind, S y10.1.Name, S y10.1.Op, I y10.1.Value.Kind, I y10.1.Value.Number, S y10.1.Value.Words, I y10.1.Value.Version.1, I y10.1.Value.Version.2.1, I y10.1.Value.Version.2.2.1, I y10.1.Value.Version.2.2.2, .d (.ro y10.1.Kids.n y10.1.Kids.xs)]] rfl ?_
            refine go_ops hΓ 6 rfl ?_
            obtain rfl := Option.some.inj h16
            exact fin_objs hΓ [_, _] (.inr rfl) rfl rfl rfl rfl (.inr ⟨HB.mk rfl, rfl⟩)
          · have h17 := cF h13 hb
            obtain ⟨y18, hy18, h19⟩ := bi_ok h17
            refine go hΓ 5 rfl ?_
            refine eo_callF [0] (.tup []) [.box 131 [S y18.s, S y18.tok.kind, I y18.tok.v_at, I y18.tok.v_end, S y18.tok.name, I y18.tok.value.Kind, I y18.tok.value.Number, S y18.tok.value.Words, I y18.tok.value.Version.1, I y18.tok.value.Version.2.1, I y18.tok.value.Version.2.2.1, I y18.tok.value.Version.2.2.2, B y18.bad, I y18.v_at], .box 32 [I 0, S [], S [], I 0, I 0, S [], I 0, I 0, I 0, I 0, .d (.ro (KD.mk 0 []).n (KD.mk 0 []).xs)], .box 32 [I y10.1.Kind, S y10.1.Name, S y10.1.Op, I y10.1.Value.Kind, I y10.1.Value.Number, S y10.1.Value.Words, I y10.1.Value.Version.1, I y10.1.Value.Version.2.1, I y10.1.Value.Version.2.2.1, I y10.1.Value.Version.2.2.2, .d (.ro y10.1.Kids.n y10.1.Kids.xs)]] (callable Tryz.func81 rfl rfl) (c_posture_parser_next hy18) rfl (Nat.le_of_ble_eq_true rfl) rfl rfl rfl rfl rfl rfl rfl rfl rfl rfl ?_
            refine go_ops hΓ 5 rfl ?_
            refine eo_store hΓ rfl rfl rfl rfl rfl rfl rfl rfl (Nat.le_of_ble_eq_true rfl) ?_
            refine eo_hp [.box 131 [S y18.s, S y18.tok.kind, I y18.tok.v_at, I y18.tok.v_end, S y18.tok.name, I y18.tok.value.Kind, I y18.tok.value.Number, S y18.tok.value.Words, I y18.tok.value.Version.1, I y18.tok.value.Version.2.1, I y18.tok.value.Version.2.2.1, I y18.tok.value.Version.2.2.2, B y18.bad, I y18.v_at], .box 32 [I y10.1.Kind, S y10.1.Name, S y10.1.Op, I y10.1.Value.Kind, I y10.1.Value.Number, S y10.1.Value.Words, I y10.1.Value.Version.1, I y10.1.Value.Version.2.1, I y10.1.Value.Version.2.2.1, I y10.1.Value.Version.2.2.2, .d (.ro y10.1.Kids.n y10.1.Kids.xs)], .box 32 [I y10.1.Kind, S y10.1.Name, S y10.1.Op, I y10.1.Value.Kind, I y10.1.Value.Number, S y10.1.Value.Words, I y10.1.Value.Version.1, I y10.1.Value.Version.2.1, I y10.1.Value.Version.2.2.1, I y10.1.Value.Version.2.2.2, .d (.ro y10.1.Kids.n y10.1.Kids.xs)]] rfl ?_
            refine go_ops hΓ 5 rfl ?_
            obtain rfl := Option.some.inj h19
            exact fin_objs hΓ [_, _] (.inr rfl) rfl rfl rfl rfl (.inr ⟨HB.mk rfl, rfl⟩)
      · have h20 := cF h6 hb
        refine go hΓ 6 rfl ?_
        refine j_cond rfl (fun hb => ?_) (fun hb => ?_)
        · have h21 := cT h20 hb
          obtain ⟨y22, hy22, h23⟩ := bi_ok h21
          refine go hΓ 3 rfl ?_
          refine eo_callF [0] (.agg [I y22.1.Kind, S y22.1.Name, S y22.1.Op, I y22.1.Value.Kind, I y22.1.Value.Number, S y22.1.Value.Words, I y22.1.Value.Version.1, I y22.1.Value.Version.2.1, I y22.1.Value.Version.2.2.1, I y22.1.Value.Version.2.2.2, .d (.ro y22.1.Kids.n y22.1.Kids.xs)]) [.box 131 [S y22.2.s, S y22.2.tok.kind, I y22.2.tok.v_at, I y22.2.tok.v_end, S y22.2.tok.name, I y22.2.tok.value.Kind, I y22.2.tok.value.Number, S y22.2.tok.value.Words, I y22.2.tok.value.Version.1, I y22.2.tok.value.Version.2.1, I y22.2.tok.value.Version.2.2.1, I y22.2.tok.value.Version.2.2.2, B y22.2.bad, I y22.2.v_at], .box 32 [I 0, S [], S [], I 0, I 0, S [], I 0, I 0, I 0, I 0, .d (.ro (KD.mk 0 []).n (KD.mk 0 []).xs)]] (callable Tryz.func283 rfl rfl) (c_posture_parser_comparison hy22) rfl (Nat.le_of_ble_eq_true rfl) rfl rfl rfl rfl rfl rfl rfl rfl rfl rfl ?_
          refine eo_store hΓ rfl rfl rfl rfl rfl rfl rfl rfl (Nat.le_of_ble_eq_true rfl) ?_
          refine eo_hp [.box 131 [S y22.2.s, S y22.2.tok.kind, I y22.2.tok.v_at, I y22.2.tok.v_end, S y22.2.tok.name, I y22.2.tok.value.Kind, I y22.2.tok.value.Number, S y22.2.tok.value.Words, I y22.2.tok.value.Version.1, I y22.2.tok.value.Version.2.1, I y22.2.tok.value.Version.2.2.1, I y22.2.tok.value.Version.2.2.2, B y22.2.bad, I y22.2.v_at], .box 32 [I y22.1.Kind, S y22.1.Name, S y22.1.Op, I y22.1.Value.Kind, I y22.1.Value.Number, S y22.1.Value.Words, I y22.1.Value.Version.1, I y22.1.Value.Version.2.1, I y22.1.Value.Version.2.2.1, I y22.1.Value.Version.2.2.2, .d (.ro y22.1.Kids.n y22.1.Kids.xs)]] rfl ?_
          refine go_ops hΓ 5 rfl ?_
          obtain rfl := Option.some.inj h23
          exact fin_objs hΓ [_] (.inr rfl) rfl rfl rfl rfl (.inr ⟨HB.mk rfl, rfl⟩)
        · have h24 := cF h20 hb
          obtain ⟨y25, hy25, h26⟩ := bi_ok h24
          refine go hΓ 6 rfl ?_
          refine eo_callF [0] (.agg [I y25.1.Kind, S y25.1.Name, S y25.1.Op, I y25.1.Value.Kind, I y25.1.Value.Number, S y25.1.Value.Words, I y25.1.Value.Version.1, I y25.1.Value.Version.2.1, I y25.1.Value.Version.2.2.1, I y25.1.Value.Version.2.2.2, .d (.ro y25.1.Kids.n y25.1.Kids.xs)]) [.box 131 [S y25.2.s, S y25.2.tok.kind, I y25.2.tok.v_at, I y25.2.tok.v_end, S y25.2.tok.name, I y25.2.tok.value.Kind, I y25.2.tok.value.Number, S y25.2.tok.value.Words, I y25.2.tok.value.Version.1, I y25.2.tok.value.Version.2.1, I y25.2.tok.value.Version.2.2.1, I y25.2.tok.value.Version.2.2.2, B y25.2.bad, I y25.2.v_at], .box 32 [I 0, S [], S [], I 0, I 0, S [], I 0, I 0, I 0, I 0, .d (.ro (KD.mk 0 []).n (KD.mk 0 []).xs)]] (callable Tryz.func83 rfl rfl) (c_posture_parser_fail hy25) rfl (Nat.le_of_ble_eq_true rfl) rfl rfl rfl rfl rfl rfl rfl rfl rfl rfl ?_
          refine eo_store hΓ rfl rfl rfl rfl rfl rfl rfl rfl (Nat.le_of_ble_eq_true rfl) ?_
          refine eo_hp [.box 131 [S y25.2.s, S y25.2.tok.kind, I y25.2.tok.v_at, I y25.2.tok.v_end, S y25.2.tok.name, I y25.2.tok.value.Kind, I y25.2.tok.value.Number, S y25.2.tok.value.Words, I y25.2.tok.value.Version.1, I y25.2.tok.value.Version.2.1, I y25.2.tok.value.Version.2.2.1, I y25.2.tok.value.Version.2.2.2, B y25.2.bad, I y25.2.v_at], .box 32 [I y25.1.Kind, S y25.1.Name, S y25.1.Op, I y25.1.Value.Kind, I y25.1.Value.Number, S y25.1.Value.Words, I y25.1.Value.Version.1, I y25.1.Value.Version.2.1, I y25.1.Value.Version.2.2.1, I y25.1.Value.Version.2.2.2, .d (.ro y25.1.Kids.n y25.1.Kids.xs)]] rfl ?_
          refine go_ops hΓ 3 rfl ?_
          obtain rfl := Option.some.inj h26
          exact fin_objs hΓ [_] (.inr rfl) rfl rfl rfl rfl (.inr ⟨HB.mk rfl, rfl⟩)
set_option maxHeartbeats 8000000 in
theorem c_posture_joined {kind : Int} {l : List T_api_Cond} {r : T_api_Cond} (h : m_posture_joined kind l = some r) : Pure Tryz.prog 163 [I kind, .d (Sl e_api_Cond l)] (.agg [I r.Kind, S r.Name, S r.Op, I r.Value.Kind, I r.Value.Number, S r.Value.Words, I r.Value.Version.1, I r.Value.Version.2.1, I r.Value.Version.2.2.1, I r.Value.Version.2.2.2, .d (.ro r.Kids.n r.Kids.xs)]) := by
  refine Pure.enter (Fr.of 0 _) Tryz.func163 rfl (Fr.of_ok _) rfl rfl ?_
  refine go_in ?_
  unfold m_posture_joined at h
  refine go hΓ 2 rfl ?_
  refine eo_alloc hΓ rfl rfl rfl (Nat.le_of_ble_eq_true rfl) ?_
  refine go_ops hΓ 10 rfl ?_
  refine j_cond rfl (fun hb => ?_) (fun hb => ?_)
  · have h1 := cT h hb
    obtain ⟨x2, hx2, h3⟩ := bi_ok h1
    refine go hΓ 3 rfl ?_
    refine eo_o rfl (op_elemZ hΓ (enc := e_api_Cond) hx2 rfl rfl rfl rfl rfl (fun _ => rfl)) ?_
    refine go_ops hΓ 1 rfl ?_
    refine eo_store hΓ rfl rfl rfl rfl rfl rfl rfl rfl (Nat.le_of_ble_eq_true rfl) ?_
    refine eo_hp [.box 32 [I x2.Kind, S x2.Name, S x2.Op, I x2.Value.Kind, I x2.Value.Number, S x2.Value.Words, I x2.Value.Version.1, I x2.Value.Version.2.1, I x2.Value.Version.2.2.1, I x2.Value.Version.2.2.2, .d (.ro x2.Kids.n x2.Kids.xs)]] rfl ?_
    refine go_ops hΓ 4 rfl ?_
    obtain rfl := Option.some.inj h3
    exact fin_pure hΓ (.inr rfl) rfl rfl
  · have h4 := cF h hb
    refine go hΓ 5 rfl ?_
    refine eo_s (Nat.le_of_ble_eq_true rfl) (nblt.1 rfl) (ops_nilAt 32 11 10 (OpP.s (op_buildX hΓ [10] (gs := [I kind, S [], S [], I 0, I 0, S [], I 0, I 0, I 0, I 0, .d (.v (.slice none 0 0))]) rfl rfl rfl rfl rfl rfl)) rfl) ?_
    refine eo_alloc hΓ rfl rfl rfl (Nat.le_of_ble_eq_true rfl) ?_
    refine eo_store hΓ rfl rfl rfl rfl rfl rfl rfl rfl (Nat.le_of_ble_eq_true rfl) ?_
    refine eo_hp [.box 32 [I 0, S [], S [], I 0, I 0, S [], I 0, I 0, I 0, I 0, .d (.ro (KD.mk 0 []).n (KD.mk 0 []).xs)], .row 32 11 ([] : List T_api_Cond).length (([] : List T_api_Cond).flatMap e_api_Cond), .box 32 [I kind, S [], S [], I 0, I 0, S [], I 0, I 0, I 0, I 0, .sl 1 ([] : List T_api_Cond).length]] rfl ?_
    refine go_ops hΓ 10 rfl ?_
    obtain ⟨q8, hq8, h9⟩ := bi_ok h4
    refine j_bound 16 rfl fun hb11 => ?_
    refine j_cutNZ [(4, .ptr 0 0), (5, .ptr 2 0)] [.box 32 [I 0, S [], S [], I 0, I 0, S [], I 0, I 0, I 0, I 0, .d (.ro (KD.mk 0 []).n (KD.mk 0 []).xs)], .row 32 11 q8.length (q8.flatMap e_api_Cond), .box 32 [I kind, S [], S [], I 0, I 0, S [], I 0, I 0, I 0, I 0, .sl 1 q8.length]] ?_ ?_
    · refine go hΓ 1 rfl ?_
      refine j_rangeF l hq8 (fun i5 s6 => [(0, I kind), (4, .ptr 0 0), (5, .ptr 2 0), (16, .d (Sl e_api_Cond l)), (17, I (l.length : Int)), (18, I (i5 : Int))]) (fun s6 => [.box 32 [I 0, S [], S [], I 0, I 0, S [], I 0, I 0, I 0, I 0, .d (.ro (KD.mk 0 []).n (KD.mk 0 []).xs)], .row 32 11 s6.length (s6.flatMap e_api_Cond), .box 32 [I kind, S [], S [], I 0, I 0, S [], I 0, I 0, I 0, I 0, .sl 1 s6.length]]) ⟨⟨rfl, rfl, rfl, rfl, rfl, rfl, trivial⟩, [], rfl, .inl rfl⟩ (fun i5 x7 s6 y15 hx12 hlt hy13 => ?_) (?_)
      · refine go hΓ 6 rfl ?_
        refine j_condT rfl (decide_eq_true (Int.ofNat_lt.2 hlt)) ?_
        refine go hΓ 6 rfl ?_
        refine eo_o rfl (op_elemZ hΓ (enc := e_api_Cond) (getZ_nat hx12) rfl rfl rfl rfl rfl (fun _ => rfl)) ?_
        refine go_ops hΓ 1 rfl ?_
        refine eo_alloc hΓ rfl rfl rfl (Nat.le_of_ble_eq_true rfl) ?_
        refine eo_store hΓ rfl rfl rfl rfl rfl rfl rfl rfl (Nat.le_of_ble_eq_true rfl) ?_
        refine eo_hp [.box 32 [I 0, S [], S [], I 0, I 0, S [], I 0, I 0, I 0, I 0, .d (.ro (KD.mk 0 []).n (KD.mk 0 []).xs)], .row 32 11 s6.length (s6.flatMap e_api_Cond), .box 32 [I kind, S [], S [], I 0, I 0, S [], I 0, I 0, I 0, I 0, .sl 1 s6.length], .box 32 [I x7.Kind, S x7.Name, S x7.Op, I x7.Value.Kind, I x7.Value.Number, S x7.Value.Words, I x7.Value.Version.1, I x7.Value.Version.2.1, I x7.Value.Version.2.2.1, I x7.Value.Version.2.2.2, .d (.ro x7.Kids.n x7.Kids.xs)]] rfl ?_
        refine go_ops hΓ 10 rfl ?_
        refine j_cond rfl (fun hb => ?_) (fun hb => ?_)
        · have h16 := cT hy13 hb
          obtain ⟨l17, hl17, h18⟩ := bi_ok h16
          refine go hΓ 4 rfl ?_
          refine eo_o rfl (op_le (pst_ok hΓ (g := .d (.ro x7.Kids.n x7.Kids.xs)) rfl) (G.Le.unk dk_api_Cond hl17)) ?_
          obtain ⟨y19, hy19, h20⟩ := bi_ok h18
          refine eo_forg 1 [.box 32 [I 0, S [], S [], I 0, I 0, S [], I 0, I 0, I 0, I 0, .d (.ro (KD.mk 0 []).n (KD.mk 0 []).xs)], .row 32 11 s6.length (s6.flatMap e_api_Cond), .box 32 [I kind, S [], S [], I 0, I 0, S [], I 0, I 0, I 0, I 0, .junk], .box 32 [I x7.Kind, S x7.Name, S x7.Op, I x7.Value.Kind, I x7.Value.Number, S x7.Value.Words, I x7.Value.Version.1, I x7.Value.Version.2.1, I x7.Value.Version.2.2.1, I x7.Value.Version.2.2.2, .d (.ro x7.Kids.n x7.Kids.xs)]] rfl (Nat.le_of_ble_eq_true rfl) ?_
          refine eo_appendT hΓ (enc := e_api_Cond) hy19 rfl rfl rfl rfl rfl rfl rfl rfl rfl (fun _ => rfl) rfl rfl rfl rfl ?_
          refine go_ops hΓ 1 rfl ?_
          refine eo_store hΓ rfl rfl rfl rfl rfl rfl rfl rfl (Nat.le_of_ble_eq_true rfl) ?_
          refine eo_hp [.box 32 [I 0, S [], S [], I 0, I 0, S [], I 0, I 0, I 0, I 0, .d (.ro (KD.mk 0 []).n (KD.mk 0 []).xs)], .row 32 11 y19.length (y19.flatMap e_api_Cond), .box 32 [I kind, S [], S [], I 0, I 0, S [], I 0, I 0, I 0, I 0, .sl 1 y19.length], .box 32 [I x7.Kind, S x7.Name, S x7.Op, I x7.Value.Kind, I x7.Value.Number, S x7.Value.Words, I x7.Value.Version.1, I x7.Value.Version.2.1, I x7.Value.Version.2.2.1, I x7.Value.Version.2.2.2, .d (.ro x7.Kids.n x7.Kids.xs)]] rfl ?_
          refine go_ops hΓ 7 rfl ?_
          obtain rfl := Option.some.inj h20
          exact ⟨⟨rfl, rfl, rfl, rfl, rfl, get_eq rfl (w64_succ (Nat.lt_of_lt_of_le hlt hb11)), trivial⟩, [_], rfl, .inr ⟨HB.mk rfl, FB.mk rfl, (Nat.le_of_ble_eq_true rfl)⟩⟩
        · have h21 := cF hy13 hb
          refine go hΓ 4 rfl ?_
          refine eo_litT hΓ (enc := e_api_Cond) [x7] rfl rfl rfl rfl rfl rfl rfl rfl rfl rfl rfl rfl (Nat.le_of_ble_eq_true rfl) ?_
          obtain ⟨y22, hy22, h23⟩ := bi_ok h21
          refine eo_forg 1 [.box 32 [I 0, S [], S [], I 0, I 0, S [], I 0, I 0, I 0, I 0, .d (.ro (KD.mk 0 []).n (KD.mk 0 []).xs)], .row 32 11 s6.length (s6.flatMap e_api_Cond), .box 32 [I kind, S [], S [], I 0, I 0, S [], I 0, I 0, I 0, I 0, .junk], .box 32 [I x7.Kind, S x7.Name, S x7.Op, I x7.Value.Kind, I x7.Value.Number, S x7.Value.Words, I x7.Value.Version.1, I x7.Value.Version.2.1, I x7.Value.Version.2.2.1, I x7.Value.Version.2.2.2, .d (.ro x7.Kids.n x7.Kids.xs)]] rfl (Nat.le_of_ble_eq_true rfl) ?_
          refine eo_appendT hΓ (enc := e_api_Cond) hy22 rfl rfl rfl rfl rfl rfl rfl rfl rfl (fun _ => rfl) rfl rfl rfl rfl ?_
          refine go_ops hΓ 1 rfl ?_
          refine eo_store hΓ rfl rfl rfl rfl rfl rfl rfl rfl (Nat.le_of_ble_eq_true rfl) ?_
          refine eo_hp [.box 32 [I 0, S [], S [], I 0, I 0, S [], I 0, I 0, I 0, I 0, .d (.ro (KD.mk 0 []).n (KD.mk 0 []).xs)], .row 32 11 y22.length (y22.flatMap e_api_Cond), .box 32 [I kind, S [], S [], I 0, I 0, S [], I 0, I 0, I 0, I 0, .sl 1 y22.length], .box 32 [I x7.Kind, S x7.Name, S x7.Op, I x7.Value.Kind, I x7.Value.Number, S x7.Value.Words, I x7.Value.Version.1, I x7.Value.Version.2.1, I x7.Value.Version.2.2.1, I x7.Value.Version.2.2.2, .d (.ro x7.Kids.n x7.Kids.xs)]] rfl ?_
          refine go_ops hΓ 7 rfl ?_
          obtain rfl := Option.some.inj h23
          exact ⟨⟨rfl, rfl, rfl, rfl, rfl, get_eq rfl (w64_succ (Nat.lt_of_lt_of_le hlt hb11)), trivial⟩, [_], rfl, .inr ⟨HB.mk rfl, FB.mk rfl, (Nat.le_of_ble_eq_true rfl)⟩⟩
      · refine go hΓ 6 rfl ?_
        refine j_condF rfl (decide_eq_false (Int.lt_irrefl _)) ?_
        refine go hΓ 4 rfl ?_
        exact ⟨⟨rfl, rfl, trivial⟩, [], rfl, .inl rfl⟩
    · refine go hΓ 4 rfl ?_
      refine eo_shr 1 [39] _ [.box 32 [I 0, S [], S [], I 0, I 0, S [], I 0, I 0, I 0, I 0, .d (.ro (KD.mk 0 []).n (KD.mk 0 []).xs)], .dead, .box 32 [I kind, S [], S [], I 0, I 0, S [], I 0, I 0, I 0, I 0, .d (.ro (pk e_api_Cond q8).n (pk e_api_Cond q8).xs)]] rfl rfl rfl (Nat.le_of_ble_eq_true rfl) ?_
      refine eo_store hΓ rfl rfl rfl rfl rfl rfl rfl rfl (Nat.le_of_ble_eq_true rfl) ?_
      refine eo_hp [.box 32 [I kind, S [], S [], I 0, I 0, S [], I 0, I 0, I 0, I 0, .d (.ro (pk e_api_Cond q8).n (pk e_api_Cond q8).xs)], .dead, .box 32 [I kind, S [], S [], I 0, I 0, S [], I 0, I 0, I 0, I 0, .d (.ro (pk e_api_Cond q8).n (pk e_api_Cond q8).xs)]] rfl ?_
      refine go_ops hΓ 3 rfl ?_
      obtain rfl := Option.some.inj h9
      exact fin_pure hΓ (.inr rfl) rfl rfl
theorem c_posture_parser_and {rc_posture_parser_cond : T_posture_parser → Option (T_api_Cond × T_posture_parser)} (ih_posture_parser_cond : ∀ {p : T_posture_parser} {r : T_api_Cond × T_posture_parser}, rc_posture_parser_cond p = some r → EC Tryz.prog 82 [.ptr 0 0] [.box 131 [S p.s, S p.tok.kind, I p.tok.v_at, I p.tok.v_end, S p.tok.name, I p.tok.value.Kind, I p.tok.value.Number, S p.tok.value.Words, I p.tok.value.Version.1, I p.tok.value.Version.2.1, I p.tok.value.Version.2.2.1, I p.tok.value.Version.2.2.2, B p.bad, I p.v_at]] fun g hp' => g = .agg [I r.1.Kind, S r.1.Name, S r.1.Op, I r.1.Value.Kind, I r.1.Value.Number, S r.1.Value.Words, I r.1.Value.Version.1, I r.1.Value.Version.2.1, I r.1.Value.Version.2.2.1, I r.1.Value.Version.2.2.2, .d (.ro r.1.Kids.n r.1.Kids.xs)] ∧ hp' = [.box 131 [S r.2.s, S r.2.tok.kind, I r.2.tok.v_at, I r.2.tok.v_end, S r.2.tok.name, I r.2.tok.value.Kind, I r.2.tok.value.Number, S r.2.tok.value.Words, I r.2.tok.value.Version.1, I r.2.tok.value.Version.2.1, I r.2.tok.value.Version.2.2.1, I r.2.tok.value.Version.2.2.2, B r.2.bad, I r.2.v_at]]) {k : Nat} {p : T_posture_parser} {r : T_api_Cond × T_posture_parser} (h : m_posture_parser_and rc_posture_parser_cond k p = some r) : EC Tryz.prog 162 [.ptr 0 0] [.box 131 [S p.s, S p.tok.kind, I p.tok.v_at, I p.tok.v_end, S p.tok.name, I p.tok.value.Kind, I p.tok.value.Number, S p.tok.value.Words, I p.tok.value.Version.1, I p.tok.value.Version.2.1, I p.tok.value.Version.2.2.1, I p.tok.value.Version.2.2.2, B p.bad, I p.v_at]] fun g hp' => g = .agg [I r.1.Kind, S r.1.Name, S r.1.Op, I r.1.Value.Kind, I r.1.Value.Number, S r.1.Value.Words, I r.1.Value.Version.1, I r.1.Value.Version.2.1, I r.1.Value.Version.2.2.1, I r.1.Value.Version.2.2.2, .d (.ro r.1.Kids.n r.1.Kids.xs)] ∧ hp' = [.box 131 [S r.2.s, S r.2.tok.kind, I r.2.tok.v_at, I r.2.tok.v_end, S r.2.tok.name, I r.2.tok.value.Kind, I r.2.tok.value.Number, S r.2.tok.value.Words, I r.2.tok.value.Version.1, I r.2.tok.value.Version.2.1, I r.2.tok.value.Version.2.2.1, I r.2.tok.value.Version.2.2.2, B r.2.bad, I r.2.v_at]] := by
  refine ec_enter (Fr.of 0 _) Tryz.func162 rfl (Fr.of_ok _) (Nat.le_of_ble_eq_true rfl) fun _ => ?_
  refine go_in ?_
  unfold m_posture_parser_and at h
  refine go hΓ 2 rfl ?_
  refine eo_alloc hΓ rfl rfl rfl (Nat.le_of_ble_eq_true rfl) ?_
  obtain ⟨y1, hy1, h2⟩ := bi_ok h
  refine go_ops hΓ 5 rfl ?_
  refine eo_callF [0] (.agg [I y1.1.Kind, S y1.1.Name, S y1.1.Op, I y1.1.Value.Kind, I y1.1.Value.Number, S y1.1.Value.Words, I y1.1.Value.Version.1, I y1.1.Value.Version.2.1, I y1.1.Value.Version.2.2.1, I y1.1.Value.Version.2.2.2, .d (.ro y1.1.Kids.n y1.1.Kids.xs)]) [.box 131 [S y1.2.s, S y1.2.tok.kind, I y1.2.tok.v_at, I y1.2.tok.v_end, S y1.2.tok.name, I y1.2.tok.value.Kind, I y1.2.tok.value.Number, S y1.2.tok.value.Words, I y1.2.tok.value.Version.1, I y1.2.tok.value.Version.2.1, I y1.2.tok.value.Version.2.2.1, I y1.2.tok.value.Version.2.2.2, B y1.2.bad, I y1.2.v_at], .box 32 [I 0, S [], S [], I 0, I 0, S [], I 0, I 0, I 0, I 0, .d (.ro (KD.mk 0 []).n (KD.mk 0 []).xs)]] (callable Tryz.func218 rfl rfl) (c_posture_parser_part ih_posture_parser_cond hy1) rfl (Nat.le_of_ble_eq_true rfl) rfl rfl rfl rfl rfl rfl rfl rfl rfl rfl ?_
  refine eo_litRowT hΓ (enc := e_api_Cond) [y1.1] rfl rfl rfl rfl rfl rfl rfl rfl rfl rfl rfl rfl (Nat.le_of_ble_eq_true rfl) ?_
  refine go_ops hΓ 4 rfl ?_
  obtain ⟨q6, hq6, h7⟩ := bi_ok h2
  refine j_cutNZ [(2, .ptr 1 0), (3, .sl 2 q6.2.length)] [.box 131 [S q6.1.s, S q6.1.tok.kind, I q6.1.tok.v_at, I q6.1.tok.v_end, S q6.1.tok.name, I q6.1.tok.value.Kind, I q6.1.tok.value.Number, S q6.1.tok.value.Words, I q6.1.tok.value.Version.1, I q6.1.tok.value.Version.2.1, I q6.1.tok.value.Version.2.2.1, I q6.1.tok.value.Version.2.2.2, B q6.1.bad, I q6.1.v_at], .box 32 [I 0, S [], S [], I 0, I 0, S [], I 0, I 0, I 0, I 0, .d (.ro (KD.mk 0 []).n (KD.mk 0 []).xs)], .row 32 11 q6.2.length (q6.2.flatMap e_api_Cond)] ?_ ?_
  · refine go hΓ 1 rfl ?_
    refine j_loop hq6 (fun s4 => [(0, .ptr 0 0), (2, .ptr 1 0), (3, .sl 2 s4.2.length)]) (fun s4 => [.box 131 [S s4.1.s, S s4.1.tok.kind, I s4.1.tok.v_at, I s4.1.tok.v_end, S s4.1.tok.name, I s4.1.tok.value.Kind, I s4.1.tok.value.Number, S s4.1.tok.value.Words, I s4.1.tok.value.Version.1, I s4.1.tok.value.Version.2.1, I s4.1.tok.value.Version.2.2.1, I s4.1.tok.value.Version.2.2.2, B s4.1.bad, I s4.1.v_at], .box 32 [I 0, S [], S [], I 0, I 0, S [], I 0, I 0, I 0, I 0, .d (.ro (KD.mk 0 []).n (KD.mk 0 []).xs)], .row 32 11 s4.2.length (s4.2.flatMap e_api_Cond)]) ⟨⟨rfl, rfl, rfl, trivial⟩, [], rfl, .inl rfl⟩ (fun s4 y12 hy10 hout11 => ?_)
    refine go hΓ 9 rfl ?_
    refine o_cut 7 [(0, .ptr 0 0), (2, .ptr 1 0), (3, .sl 2 s4.2.length), (19, B ((!s4.1.bad) && ((s4.1.tok.kind : Str) == [38, 38])))] [.box 131 [S s4.1.s, S s4.1.tok.kind, I s4.1.tok.v_at, I s4.1.tok.v_end, S s4.1.tok.name, I s4.1.tok.value.Kind, I s4.1.tok.value.Number, S s4.1.tok.value.Words, I s4.1.tok.value.Version.1, I s4.1.tok.value.Version.2.1, I s4.1.tok.value.Version.2.2.1, I s4.1.tok.value.Version.2.2.2, B s4.1.bad, I s4.1.v_at], .box 32 [I 0, S [], S [], I 0, I 0, S [], I 0, I 0, I 0, I 0, .d (.ro (KD.mk 0 []).n (KD.mk 0 []).xs)], .row 32 11 s4.2.length (s4.2.flatMap e_api_Cond)] ?_ ?_
    · refine eo_gsplit rfl rfl (fun hb => ?_) (fun hb => ?_)
      · refine go_ops hΓ 8 rfl ?_
        exact ⟨⟨rfl, rfl, rfl, get_b rfl (and_t hb), trivial⟩, [], rfl, .inl rfl⟩
      · refine go_ops hΓ 8 rfl ?_
        exact ⟨⟨rfl, rfl, rfl, get_b rfl (and_f hb), trivial⟩, [], rfl, .inl rfl⟩
    · refine go_ops hΓ 2 rfl ?_
      refine j_cond rfl (fun hb => ?_) (fun hb => ?_)
      · have h13 := cT hy10 hb
        obtain ⟨y14, hy14, h15⟩ := bi_ok h13
        refine go hΓ 6 rfl ?_
        refine eo_callF [0] (.tup []) [.box 131 [S y14.s, S y14.tok.kind, I y14.tok.v_at, I y14.tok.v_end, S y14.tok.name, I y14.tok.value.Kind, I y14.tok.value.Number, S y14.tok.value.Words, I y14.tok.value.Version.1, I y14.tok.value.Version.2.1, I y14.tok.value.Version.2.2.1, I y14.tok.value.Version.2.2.2, B y14.bad, I y14.v_at], .box 32 [I 0, S [], S [], I 0, I 0, S [], I 0, I 0, I 0, I 0, .d (.ro (KD.mk 0 []).n (KD.mk 0 []).xs)], .row 32 11 s4.2.length (s4.2.flatMap e_api_Cond)] (callable Tryz.func81 rfl rfl) (c_posture_parser_next hy14) rfl (Nat.le_of_ble_eq_true rfl) rfl rfl rfl rfl rfl rfl rfl rfl rfl rfl ?_
        obtain ⟨y16, hy16, h17⟩ := bi_ok h15
        refine go_ops hΓ 5 rfl ?_
        refine eo_callF [0] (.agg [I y16.1.Kind, S y16.1.Name, S y16.1.Op, I y16.1.Value.Kind, I y16.1.Value.Number, S y16.1.Value.Words, I y16.1.Value.Version.1, I y16.1.Value.Version.2.1, I y16.1.Value.Version.2.2.1, I y16.1.Value.Version.2.2.2, .d (.ro y16.1.Kids.n y16.1.Kids.xs)]) [.box 131 [S y16.2.s, S y16.2.tok.kind, I y16.2.tok.v_at, I y16.2.tok.v_end, S y16.2.tok.name, I y16.2.tok.value.Kind, I y16.2.tok.value.Number, S y16.2.tok.value.Words, I y16.2.tok.value.Version.1, I y16.2.tok.value.Version.2.1, I y16.2.tok.value.Version.2.2.1, I y16.2.tok.value.Version.2.2.2, B y16.2.bad, I y16.2.v_at], .box 32 [I 0, S [], S [], I 0, I 0, S [], I 0, I 0, I 0, I 0, .d (.ro (KD.mk 0 []).n (KD.mk 0 []).xs)], .row 32 11 s4.2.length (s4.2.flatMap e_api_Cond)] (callable Tryz.func218 rfl rfl) (c_posture_parser_part ih_posture_parser_cond hy16) rfl (Nat.le_of_ble_eq_true rfl) rfl rfl rfl rfl rfl rfl rfl rfl rfl rfl ?_
        refine eo_litT hΓ (enc := e_api_Cond) [y16.1] rfl rfl rfl rfl rfl rfl rfl rfl rfl rfl rfl rfl (Nat.le_of_ble_eq_true rfl) ?_
        obtain ⟨y18, hy18, h19⟩ := bi_ok h17
        refine eo_appendT hΓ (enc := e_api_Cond) hy18 rfl rfl rfl rfl rfl rfl rfl rfl rfl (fun _ => rfl) rfl rfl rfl rfl ?_
        refine go_ops hΓ 3 rfl ?_
        obtain rfl := Option.some.inj h19
        exact ⟨_, rfl, ⟨⟨rfl, rfl, rfl, trivial⟩, [], rfl, .inl rfl⟩⟩
      · have h20 := cF hy10 hb
        refine go hΓ 4 rfl ?_
        obtain rfl := Option.some.inj h20
        obtain rfl := hout11 _ rfl
        exact ⟨⟨rfl, rfl, trivial⟩, [], rfl, .inl rfl⟩
  · obtain ⟨y21, hy21, h22⟩ := bi_ok h7
    refine go hΓ 4 rfl ?_
    refine eo_shr 2 [3, 27] _ [.box 131 [S q6.1.s, S q6.1.tok.kind, I q6.1.tok.v_at, I q6.1.tok.v_end, S q6.1.tok.name, I q6.1.tok.value.Kind, I q6.1.tok.value.Number, S q6.1.tok.value.Words, I q6.1.tok.value.Version.1, I q6.1.tok.value.Version.2.1, I q6.1.tok.value.Version.2.2.1, I q6.1.tok.value.Version.2.2.2, B q6.1.bad, I q6.1.v_at], .box 32 [I 0, S [], S [], I 0, I 0, S [], I 0, I 0, I 0, I 0, .d (.ro (KD.mk 0 []).n (KD.mk 0 []).xs)], .dead] rfl rfl rfl (Nat.le_of_ble_eq_true rfl) ?_
    refine eo_callP (callable Tryz.func163 rfl rfl) (c_posture_joined hy21) rfl (Nat.le_of_ble_eq_true rfl) rfl rfl rfl rfl rfl ?_
    refine eo_store hΓ rfl rfl rfl rfl rfl rfl rfl rfl (Nat.le_of_ble_eq_true rfl) ?_
    refine eo_hp [.box 131 [S q6.1.s, S q6.1.tok.kind, I q6.1.tok.v_at, I q6.1.tok.v_end, S q6.1.tok.name, I q6.1.tok.value.Kind, I q6.1.tok.value.Number, S q6.1.tok.value.Words, I q6.1.tok.value.Version.1, I q6.1.tok.value.Version.2.1, I q6.1.tok.value.Version.2.2.1, I q6.1.tok.value.Version.2.2.2, B q6.1.bad, I q6.1.v_at], .box 32 [I y21.Kind, S y21.Name, S y21.Op, I y21.Value.Kind, I y21.Value.Number, S y21.Value.Words, I y21.Value.Version.1, I y21.Value.Version.2.1, I y21.Value.Version.2.2.1, I y21.Value.Version.2.2.2, .d (.ro y21.Kids.n y21.Kids.xs)], .dead] rfl ?_
    refine go_ops hΓ 3 rfl ?_
    obtain rfl := Option.some.inj h22
    exact fin_objs hΓ [_, _] (.inr rfl) rfl rfl rfl rfl (.inr ⟨HB.mk rfl, rfl⟩)
theorem c_posture_parser_cond {k : Nat} {p : T_posture_parser} {r : T_api_Cond × T_posture_parser} (h : m_posture_parser_cond k p = some r) : EC Tryz.prog 82 [.ptr 0 0] [.box 131 [S p.s, S p.tok.kind, I p.tok.v_at, I p.tok.v_end, S p.tok.name, I p.tok.value.Kind, I p.tok.value.Number, S p.tok.value.Words, I p.tok.value.Version.1, I p.tok.value.Version.2.1, I p.tok.value.Version.2.2.1, I p.tok.value.Version.2.2.2, B p.bad, I p.v_at]] fun g hp' => g = .agg [I r.1.Kind, S r.1.Name, S r.1.Op, I r.1.Value.Kind, I r.1.Value.Number, S r.1.Value.Words, I r.1.Value.Version.1, I r.1.Value.Version.2.1, I r.1.Value.Version.2.2.1, I r.1.Value.Version.2.2.2, .d (.ro r.1.Kids.n r.1.Kids.xs)] ∧ hp' = [.box 131 [S r.2.s, S r.2.tok.kind, I r.2.tok.v_at, I r.2.tok.v_end, S r.2.tok.name, I r.2.tok.value.Kind, I r.2.tok.value.Number, S r.2.tok.value.Words, I r.2.tok.value.Version.1, I r.2.tok.value.Version.2.1, I r.2.tok.value.Version.2.2.1, I r.2.tok.value.Version.2.2.2, B r.2.bad, I r.2.v_at]] := by
  induction k generalizing p r with
  | zero => unfold m_posture_parser_cond at h; cases h
  | succ k ih0 =>
    have ih : ∀ {p : T_posture_parser} {r : T_api_Cond × T_posture_parser}, m_posture_parser_cond k p = some r → EC Tryz.prog 82 [.ptr 0 0] [.box 131 [S p.s, S p.tok.kind, I p.tok.v_at, I p.tok.v_end, S p.tok.name, I p.tok.value.Kind, I p.tok.value.Number, S p.tok.value.Words, I p.tok.value.Version.1, I p.tok.value.Version.2.1, I p.tok.value.Version.2.2.1, I p.tok.value.Version.2.2.2, B p.bad, I p.v_at]] fun g hp' => g = .agg [I r.1.Kind, S r.1.Name, S r.1.Op, I r.1.Value.Kind, I r.1.Value.Number, S r.1.Value.Words, I r.1.Value.Version.1, I r.1.Value.Version.2.1, I r.1.Value.Version.2.2.1, I r.1.Value.Version.2.2.2, .d (.ro r.1.Kids.n r.1.Kids.xs)] ∧ hp' = [.box 131 [S r.2.s, S r.2.tok.kind, I r.2.tok.v_at, I r.2.tok.v_end, S r.2.tok.name, I r.2.tok.value.Kind, I r.2.tok.value.Number, S r.2.tok.value.Words, I r.2.tok.value.Version.1, I r.2.tok.value.Version.2.1, I r.2.tok.value.Version.2.2.1, I r.2.tok.value.Version.2.2.2, B r.2.bad, I r.2.v_at]] := by intro p r h; first | exact ih0 h | exact ih0 _ _ h
    refine ec_enter (Fr.of 0 _) Tryz.func82 rfl (Fr.of_ok _) (Nat.le_of_ble_eq_true rfl) fun _ => ?_
    refine go_in ?_
    unfold m_posture_parser_cond at h
    refine go hΓ 2 rfl ?_
    refine eo_alloc hΓ rfl rfl rfl (Nat.le_of_ble_eq_true rfl) ?_
    obtain ⟨y1, hy1, h2⟩ := bi_ok h
    refine go_ops hΓ 5 rfl ?_
    refine eo_callF [0] (.agg [I y1.1.Kind, S y1.1.Name, S y1.1.Op, I y1.1.Value.Kind, I y1.1.Value.Number, S y1.1.Value.Words, I y1.1.Value.Version.1, I y1.1.Value.Version.2.1, I y1.1.Value.Version.2.2.1, I y1.1.Value.Version.2.2.2, .d (.ro y1.1.Kids.n y1.1.Kids.xs)]) [.box 131 [S y1.2.s, S y1.2.tok.kind, I y1.2.tok.v_at, I y1.2.tok.v_end, S y1.2.tok.name, I y1.2.tok.value.Kind, I y1.2.tok.value.Number, S y1.2.tok.value.Words, I y1.2.tok.value.Version.1, I y1.2.tok.value.Version.2.1, I y1.2.tok.value.Version.2.2.1, I y1.2.tok.value.Version.2.2.2, B y1.2.bad, I y1.2.v_at], .box 32 [I 0, S [], S [], I 0, I 0, S [], I 0, I 0, I 0, I 0, .d (.ro (KD.mk 0 []).n (KD.mk 0 []).xs)]] (callable Tryz.func162 rfl rfl) (c_posture_parser_and ih hy1) rfl (Nat.le_of_ble_eq_true rfl) rfl rfl rfl rfl rfl rfl rfl rfl rfl rfl ?_
    refine eo_litRowT hΓ (enc := e_api_Cond) [y1.1] rfl rfl rfl rfl rfl rfl rfl rfl rfl rfl rfl rfl (Nat.le_of_ble_eq_true rfl) ?_
    refine go_ops hΓ 4 rfl ?_
    obtain ⟨q6, hq6, h7⟩ := bi_ok h2
    refine j_cutNZ [(2, .ptr 1 0), (3, .sl 2 q6.2.length)] [.box 131 [S q6.1.s, S q6.1.tok.kind, I q6.1.tok.v_at, I q6.1.tok.v_end, S q6.1.tok.name, I q6.1.tok.value.Kind, I q6.1.tok.value.Number, S q6.1.tok.value.Words, I q6.1.tok.value.Version.1, I q6.1.tok.value.Version.2.1, I q6.1.tok.value.Version.2.2.1, I q6.1.tok.value.Version.2.2.2, B q6.1.bad, I q6.1.v_at], .box 32 [I 0, S [], S [], I 0, I 0, S [], I 0, I 0, I 0, I 0, .d (.ro (KD.mk 0 []).n (KD.mk 0 []).xs)], .row 32 11 q6.2.length (q6.2.flatMap e_api_Cond)] ?_ ?_
    · refine go hΓ 1 rfl ?_
      refine j_loop hq6 (fun s4 => [(0, .ptr 0 0), (2, .ptr 1 0), (3, .sl 2 s4.2.length)]) (fun s4 => [.box 131 [S s4.1.s, S s4.1.tok.kind, I s4.1.tok.v_at, I s4.1.tok.v_end, S s4.1.tok.name, I s4.1.tok.value.Kind, I s4.1.tok.value.Number, S s4.1.tok.value.Words, I s4.1.tok.value.Version.1, I s4.1.tok.value.Version.2.1, I s4.1.tok.value.Version.2.2.1, I s4.1.tok.value.Version.2.2.2, B s4.1.bad, I s4.1.v_at], .box 32 [I 0, S [], S [], I 0, I 0, S [], I 0, I 0, I 0, I 0, .d (.ro (KD.mk 0 []).n (KD.mk 0 []).xs)], .row 32 11 s4.2.length (s4.2.flatMap e_api_Cond)]) ⟨⟨rfl, rfl, rfl, trivial⟩, [], rfl, .inl rfl⟩ (fun s4 y12 hy10 hout11 => ?_)
      refine go hΓ 9 rfl ?_
      refine o_cut 7 [(0, .ptr 0 0), (2, .ptr 1 0), (3, .sl 2 s4.2.length), (19, B ((!s4.1.bad) && ((s4.1.tok.kind : Str) == [124, 124])))] [.box 131 [S s4.1.s, S s4.1.tok.kind, I s4.1.tok.v_at, I s4.1.tok.v_end, S s4.1.tok.name, I s4.1.tok.value.Kind, I s4.1.tok.value.Number, S s4.1.tok.value.Words, I s4.1.tok.value.Version.1, I s4.1.tok.value.Version.2.1, I s4.1.tok.value.Version.2.2.1, I s4.1.tok.value.Version.2.2.2, B s4.1.bad, I s4.1.v_at], .box 32 [I 0, S [], S [], I 0, I 0, S [], I 0, I 0, I 0, I 0, .d (.ro (KD.mk 0 []).n (KD.mk 0 []).xs)], .row 32 11 s4.2.length (s4.2.flatMap e_api_Cond)] ?_ ?_
      · refine eo_gsplit rfl rfl (fun hb => ?_) (fun hb => ?_)
        · refine go_ops hΓ 8 rfl ?_
          exact ⟨⟨rfl, rfl, rfl, get_b rfl (and_t hb), trivial⟩, [], rfl, .inl rfl⟩
        · refine go_ops hΓ 8 rfl ?_
          exact ⟨⟨rfl, rfl, rfl, get_b rfl (and_f hb), trivial⟩, [], rfl, .inl rfl⟩
      · refine go_ops hΓ 2 rfl ?_
        refine j_cond rfl (fun hb => ?_) (fun hb => ?_)
        · have h13 := cT hy10 hb
          obtain ⟨y14, hy14, h15⟩ := bi_ok h13
          refine go hΓ 6 rfl ?_
          refine eo_callF [0] (.tup []) [.box 131 [S y14.s, S y14.tok.kind, I y14.tok.v_at, I y14.tok.v_end, S y14.tok.name, I y14.tok.value.Kind, I y14.tok.value.Number, S y14.tok.value.Words, I y14.tok.value.Version.1, I y14.tok.value.Version.2.1, I y14.tok.value.Version.2.2.1, I y14.tok.value.Version.2.2.2, B y14.bad, I y14.v_at], .box 32 [I 0, S [], S [], I 0, I 0, S [], I 0, I 0, I 0, I 0, .d (.ro (KD.mk 0 []).n (KD.mk 0 []).xs)], .row 32 11 s4.2.length (s4.2.flatMap e_api_Cond)] (callable Tryz.func81 rfl rfl) (c_posture_parser_next hy14) rfl (Nat.le_of_ble_eq_true rfl) rfl rfl rfl rfl rfl rfl rfl rfl rfl rfl ?_
          obtain ⟨y16, hy16, h17⟩ := bi_ok h15
          refine go_ops hΓ 5 rfl ?_
          refine eo_callF [0] (.agg [I y16.1.Kind, S y16.1.Name, S y16.1.Op, I y16.1.Value.Kind, I y16.1.Value.Number, S y16.1.Value.Words, I y16.1.Value.Version.1, I y16.1.Value.Version.2.1, I y16.1.Value.Version.2.2.1, I y16.1.Value.Version.2.2.2, .d (.ro y16.1.Kids.n y16.1.Kids.xs)]) [.box 131 [S y16.2.s, S y16.2.tok.kind, I y16.2.tok.v_at, I y16.2.tok.v_end, S y16.2.tok.name, I y16.2.tok.value.Kind, I y16.2.tok.value.Number, S y16.2.tok.value.Words, I y16.2.tok.value.Version.1, I y16.2.tok.value.Version.2.1, I y16.2.tok.value.Version.2.2.1, I y16.2.tok.value.Version.2.2.2, B y16.2.bad, I y16.2.v_at], .box 32 [I 0, S [], S [], I 0, I 0, S [], I 0, I 0, I 0, I 0, .d (.ro (KD.mk 0 []).n (KD.mk 0 []).xs)], .row 32 11 s4.2.length (s4.2.flatMap e_api_Cond)] (callable Tryz.func162 rfl rfl) (c_posture_parser_and ih hy16) rfl (Nat.le_of_ble_eq_true rfl) rfl rfl rfl rfl rfl rfl rfl rfl rfl rfl ?_
          refine eo_litT hΓ (enc := e_api_Cond) [y16.1] rfl rfl rfl rfl rfl rfl rfl rfl rfl rfl rfl rfl (Nat.le_of_ble_eq_true rfl) ?_
          obtain ⟨y18, hy18, h19⟩ := bi_ok h17
          refine eo_appendT hΓ (enc := e_api_Cond) hy18 rfl rfl rfl rfl rfl rfl rfl rfl rfl (fun _ => rfl) rfl rfl rfl rfl ?_
          refine go_ops hΓ 3 rfl ?_
          obtain rfl := Option.some.inj h19
          exact ⟨_, rfl, ⟨⟨rfl, rfl, rfl, trivial⟩, [], rfl, .inl rfl⟩⟩
        · have h20 := cF hy10 hb
          refine go hΓ 4 rfl ?_
          obtain rfl := Option.some.inj h20
          obtain rfl := hout11 _ rfl
          exact ⟨⟨rfl, rfl, trivial⟩, [], rfl, .inl rfl⟩
    · obtain ⟨y21, hy21, h22⟩ := bi_ok h7
      refine go hΓ 4 rfl ?_
      refine eo_shr 2 [3, 27] _ [.box 131 [S q6.1.s, S q6.1.tok.kind, I q6.1.tok.v_at, I q6.1.tok.v_end, S q6.1.tok.name, I q6.1.tok.value.Kind, I q6.1.tok.value.Number, S q6.1.tok.value.Words, I q6.1.tok.value.Version.1, I q6.1.tok.value.Version.2.1, I q6.1.tok.value.Version.2.2.1, I q6.1.tok.value.Version.2.2.2, B q6.1.bad, I q6.1.v_at], .box 32 [I 0, S [], S [], I 0, I 0, S [], I 0, I 0, I 0, I 0, .d (.ro (KD.mk 0 []).n (KD.mk 0 []).xs)], .dead] rfl rfl rfl (Nat.le_of_ble_eq_true rfl) ?_
      refine eo_callP (callable Tryz.func163 rfl rfl) (c_posture_joined hy21) rfl (Nat.le_of_ble_eq_true rfl) rfl rfl rfl rfl rfl ?_
      refine eo_store hΓ rfl rfl rfl rfl rfl rfl rfl rfl (Nat.le_of_ble_eq_true rfl) ?_
      refine eo_hp [.box 131 [S q6.1.s, S q6.1.tok.kind, I q6.1.tok.v_at, I q6.1.tok.v_end, S q6.1.tok.name, I q6.1.tok.value.Kind, I q6.1.tok.value.Number, S q6.1.tok.value.Words, I q6.1.tok.value.Version.1, I q6.1.tok.value.Version.2.1, I q6.1.tok.value.Version.2.2.1, I q6.1.tok.value.Version.2.2.2, B q6.1.bad, I q6.1.v_at], .box 32 [I y21.Kind, S y21.Name, S y21.Op, I y21.Value.Kind, I y21.Value.Number, S y21.Value.Words, I y21.Value.Version.1, I y21.Value.Version.2.1, I y21.Value.Version.2.2.1, I y21.Value.Version.2.2.2, .d (.ro y21.Kids.n y21.Kids.xs)], .dead] rfl ?_
      refine go_ops hΓ 3 rfl ?_
      obtain rfl := Option.some.inj h22
      exact fin_objs hΓ [_, _] (.inr rfl) rfl rfl rfl rfl (.inr ⟨HB.mk rfl, rfl⟩)
theorem c_posture_size {k : Nat} {c : T_api_Cond} {r : Int × Int} (h : m_posture_size k c = some r) : Pure Tryz.prog 164 [.agg [I c.Kind, S c.Name, S c.Op, I c.Value.Kind, I c.Value.Number, S c.Value.Words, I c.Value.Version.1, I c.Value.Version.2.1, I c.Value.Version.2.2.1, I c.Value.Version.2.2.2, .d (.ro c.Kids.n c.Kids.xs)]] (.tup [I r.1, I r.2]) := by
  induction k generalizing c r with
  | zero => unfold m_posture_size at h; cases h
  | succ k ih0 =>
    have ih : ∀ {c : T_api_Cond} {r : Int × Int}, m_posture_size k c = some r → Pure Tryz.prog 164 [.agg [I c.Kind, S c.Name, S c.Op, I c.Value.Kind, I c.Value.Number, S c.Value.Words, I c.Value.Version.1, I c.Value.Version.2.1, I c.Value.Version.2.2.1, I c.Value.Version.2.2.2, .d (.ro c.Kids.n c.Kids.xs)]] (.tup [I r.1, I r.2]) := by intro c r h; first | exact ih0 h | exact ih0 _ _ h
    refine Pure.enter (Fr.of 0 _) Tryz.func164 rfl (Fr.of_ok _) rfl rfl ?_
    refine go_in ?_
    unfold m_posture_size at h
    refine go hΓ 2 rfl ?_
    refine eo_box rfl rfl rfl rfl (Nat.le_of_ble_eq_true rfl) ?_
    obtain ⟨q1, hq1, h2⟩ := bi_ok h
    refine go_ops hΓ 12 rfl ?_
    refine j_cutNZ [(1, .ptr 0 0), (2, I q1), (3, I 0)] [.box 32 [I c.Kind, S c.Name, S c.Op, I c.Value.Kind, I c.Value.Number, S c.Value.Words, I c.Value.Version.1, I c.Value.Version.2.1, I c.Value.Version.2.2.1, I c.Value.Version.2.2.2, .d (.ro c.Kids.n c.Kids.xs)]] ?_ ?_
    · refine j_cond rfl (fun hb => ?_) (fun hb => ?_)
      · have h3 := cT hq1 hb
        refine go hΓ 3 rfl ?_
        obtain rfl := Option.some.inj h3
        exact ⟨⟨rfl, rfl, rfl, trivial⟩, [], rfl, .inl rfl⟩
      · have h4 := cF hq1 hb
        refine go hΓ 1 rfl ?_
        obtain rfl := Option.some.inj h4
        exact ⟨⟨rfl, rfl, rfl, trivial⟩, [], rfl, .inl rfl⟩
    · obtain ⟨l5, hl5, h6⟩ := bi_ok h2
      refine go hΓ 5 rfl ?_
      refine eo_o rfl (op_le (pst_ok hΓ (g := .d (.ro c.Kids.n c.Kids.xs)) rfl) (G.Le.unk dk_api_Cond hl5)) ?_
      refine go_ops hΓ 4 rfl ?_
      obtain ⟨q10, hq10, h11⟩ := bi_ok h6
      refine j_bound 12 rfl fun hb13 => ?_
      refine j_cutNZ [(2, I q10.1), (3, I q10.2)] [.box 32 [I c.Kind, S c.Name, S c.Op, I c.Value.Kind, I c.Value.Number, S c.Value.Words, I c.Value.Version.1, I c.Value.Version.2.1, I c.Value.Version.2.2.1, I c.Value.Version.2.2.2, .d (.ro c.Kids.n c.Kids.xs)]] ?_ ?_
      · refine go hΓ 1 rfl ?_
        refine j_rangeF l5 hq10 (fun i7 s8 => [(2, I s8.1), (3, I s8.2), (12, .d (Sl e_api_Cond l5)), (13, I (l5.length : Int)), (14, I (i7 : Int))]) (fun s8 => [.box 32 [I c.Kind, S c.Name, S c.Op, I c.Value.Kind, I c.Value.Number, S c.Value.Words, I c.Value.Version.1, I c.Value.Version.2.1, I c.Value.Version.2.2.1, I c.Value.Version.2.2.2, .d (.ro c.Kids.n c.Kids.xs)]]) ⟨⟨rfl, rfl, rfl, rfl, rfl, trivial⟩, [], rfl, .inl rfl⟩ (fun i7 x9 s8 y17 hx14 hlt hy15 => ?_) (?_)
        · refine go hΓ 6 rfl ?_
          refine j_condT rfl (decide_eq_true (Int.ofNat_lt.2 hlt)) ?_
          refine go hΓ 6 rfl ?_
          refine eo_o rfl (op_elemZ hΓ (enc := e_api_Cond) (getZ_nat hx14) rfl rfl rfl rfl rfl (fun _ => rfl)) ?_
          refine go_ops hΓ 1 rfl ?_
          refine eo_alloc hΓ rfl rfl rfl (Nat.le_of_ble_eq_true rfl) ?_
          refine eo_store hΓ rfl rfl rfl rfl rfl rfl rfl rfl (Nat.le_of_ble_eq_true rfl) ?_
          refine eo_hp [.box 32 [I c.Kind, S c.Name, S c.Op, I c.Value.Kind, I c.Value.Number, S c.Value.Words, I c.Value.Version.1, I c.Value.Version.2.1, I c.Value.Version.2.2.1, I c.Value.Version.2.2.2, .d (.ro c.Kids.n c.Kids.xs)], .box 32 [I x9.Kind, S x9.Name, S x9.Op, I x9.Value.Kind, I x9.Value.Number, S x9.Value.Words, I x9.Value.Version.1, I x9.Value.Version.2.1, I x9.Value.Version.2.2.1, I x9.Value.Version.2.2.2, .d (.ro x9.Kids.n x9.Kids.xs)]] rfl ?_
          obtain ⟨y18, hy18, h19⟩ := bi_ok hy15
          refine go_ops hΓ 5 rfl ?_
          refine eo_callP (callable Tryz.func164 rfl rfl) (ih hy18) rfl (Nat.le_of_ble_eq_true rfl) rfl rfl rfl rfl rfl ?_
          refine go_ops hΓ 23 rfl ?_
          obtain rfl := Option.some.inj h19
          exact ⟨⟨rfl, rfl, rfl, rfl, get_eq rfl (w64_succ (Nat.lt_of_lt_of_le hlt hb13)), trivial⟩, [_], rfl, .inr ⟨HB.mk rfl, FB.mk rfl, (Nat.le_of_ble_eq_true rfl)⟩⟩
        · refine go hΓ 6 rfl ?_
          refine j_condF rfl (decide_eq_false (Int.lt_irrefl _)) ?_
          refine go hΓ 4 rfl ?_
          exact ⟨⟨rfl, rfl, trivial⟩, [], rfl, .inl rfl⟩
      · refine go hΓ 11 rfl ?_
        obtain rfl := Option.some.inj h11
        exact fin_pure hΓ (.inr rfl) rfl rfl
theorem c_kit_Outside {n : Int} {low : Int} {high : Int} {r : Bool} (h : m_kit_Outside n low high = some r) : Pure Tryz.prog 94 [I n, I low, I high] (B r) := by
  refine Pure.enter (Fr.of 0 _) Tryz.func94 rfl (Fr.of_ok _) rfl rfl ?_
  refine go_in ?_
  unfold m_kit_Outside at h
  refine go hΓ 11 rfl ?_
  refine o_cut 4 [(6, B false), (14, B ((decide ((n : Int) < low)) || (decide ((n : Int) > high))))] [] ?_ ?_
  · refine eo_gsplit rfl rfl (fun hb => ?_) (fun hb => ?_)
    · refine go_ops hΓ 5 rfl ?_
      exact ⟨⟨rfl, get_b rfl (or_t hb), trivial⟩, [], rfl, .inl rfl⟩
    · refine go_ops hΓ 5 rfl ?_
      exact ⟨⟨rfl, get_b rfl (or_f hb), trivial⟩, [], rfl, .inl rfl⟩
  · refine go_ops hΓ 4 rfl ?_
    obtain rfl := Option.some.inj h
    exact fin_pure hΓ (.inr rfl) rfl rfl
theorem c_posture_nodeForm_1 {v_k : T_api_Cond} {x : T_api_Cond} {r : Bool} (h : m_posture_nodeForm_1 v_k x = some r) : EC Tryz.prog 284 [.agg [I v_k.Kind, S v_k.Name, S v_k.Op, I v_k.Value.Kind, I v_k.Value.Number, S v_k.Value.Words, I v_k.Value.Version.1, I v_k.Value.Version.2.1, I v_k.Value.Version.2.2.1, I v_k.Value.Version.2.2.2, .d (.ro v_k.Kids.n v_k.Kids.xs)], .ptr 0 0] [.box 32 [I x.Kind, S x.Name, S x.Op, I x.Value.Kind, I x.Value.Number, S x.Value.Words, I x.Value.Version.1, I x.Value.Version.2.1, I x.Value.Version.2.2.1, I x.Value.Version.2.2.2, .d (.ro x.Kids.n x.Kids.xs)]] fun g hp' => g = B r ∧ hp' = [.box 32 [I x.Kind, S x.Name, S x.Op, I x.Value.Kind, I x.Value.Number, S x.Value.Words, I x.Value.Version.1, I x.Value.Version.2.1, I x.Value.Version.2.2.1, I x.Value.Version.2.2.2, .d (.ro x.Kids.n x.Kids.xs)]] := by
  refine ec_enter (Fr.of 0 _) Tryz.func284 rfl (Fr.of_ok _) (Nat.le_of_ble_eq_true rfl) fun _ => ?_
  refine go_in ?_
  unfold m_posture_nodeForm_1 at h
  refine go hΓ 2 rfl ?_
  refine eo_box rfl rfl rfl rfl (Nat.le_of_ble_eq_true rfl) ?_
  refine go_ops hΓ 14 rfl ?_
  obtain rfl := Option.some.inj h
  exact fin_objs hΓ [_] (.inr rfl) rfl rfl rfl rfl (.inr ⟨HB.mk rfl, rfl⟩)
theorem c_slices_IndexFunc_api_Cond_api_Cond {s : List T_api_Cond} {f : T_api_Cond} {r : Int} (h : m_slices_IndexFunc_api_Cond_api_Cond s f = some r) : EC Tryz.prog 297 [.d (Sl e_api_Cond s), .fn (.func 284) [] [.ptr 0 0]] [.box 32 [I f.Kind, S f.Name, S f.Op, I f.Value.Kind, I f.Value.Number, S f.Value.Words, I f.Value.Version.1, I f.Value.Version.2.1, I f.Value.Version.2.2.1, I f.Value.Version.2.2.2, .d (.ro f.Kids.n f.Kids.xs)]] fun g hp' => g = I r ∧ hp' = [.box 32 [I f.Kind, S f.Name, S f.Op, I f.Value.Kind, I f.Value.Number, S f.Value.Words, I f.Value.Version.1, I f.Value.Version.2.1, I f.Value.Version.2.2.1, I f.Value.Version.2.2.2, .d (.ro f.Kids.n f.Kids.xs)]] := by
  refine ec_enter (Fr.of 0 _) Tryz.func297 rfl (Fr.of_ok _) (Nat.le_of_ble_eq_true rfl) fun _ => ?_
  refine go_in ?_
  unfold m_slices_IndexFunc_api_Cond_api_Cond at h
  refine go hΓ 13 rfl ?_
  obtain ⟨q4, hq4, h5⟩ := bi_ok h
  refine j_bound 0 rfl fun hb7 => ?_
  refine j_cutEZ (R := fun a6 => q4 = .go a6) (fun a6 => []) (fun a6 => [.box 32 [I f.Kind, S f.Name, S f.Op, I f.Value.Kind, I f.Value.Number, S f.Value.Words, I f.Value.Version.1, I f.Value.Version.2.1, I f.Value.Version.2.2.1, I f.Value.Version.2.2.2, .d (.ro f.Kids.n f.Kids.xs)]]) ?_ ?_
  · refine go hΓ 1 rfl ?_
    refine j_range s hq4 (fun i1 s2 => [(0, .d (Sl e_api_Cond s)), (1, .fn (.func 284) [] [.ptr 0 0]), (7, I (s.length : Int)), (8, I (i1 : Int))]) (fun s2 => [.box 32 [I f.Kind, S f.Name, S f.Op, I f.Value.Kind, I f.Value.Number, S f.Value.Words, I f.Value.Version.1, I f.Value.Version.2.1, I f.Value.Version.2.2.1, I f.Value.Version.2.2.2, .d (.ro f.Kids.n f.Kids.xs)]]) ⟨⟨rfl, rfl, rfl, rfl, trivial⟩, [], rfl, .inl rfl⟩ (fun i1 x3 s2 y11 hx8 hlt hy9 hout10 => ?_) (fun s2 hgo => ?_)
    · refine go hΓ 6 rfl ?_
      refine j_condT rfl (decide_eq_true (Int.ofNat_lt.2 hlt)) ?_
      refine go hΓ 15 rfl ?_
      refine eo_o rfl (op_elemZ hΓ (enc := e_api_Cond) (getZ_nat hx8) rfl rfl rfl rfl rfl (fun _ => rfl)) ?_
      obtain ⟨y12, hy12, h13⟩ := bi_ok hy9
      refine go_ops hΓ 1 rfl ?_
      refine eo_callF [0] (B y12) [.box 32 [I f.Kind, S f.Name, S f.Op, I f.Value.Kind, I f.Value.Number, S f.Value.Words, I f.Value.Version.1, I f.Value.Version.2.1, I f.Value.Version.2.2.1, I f.Value.Version.2.2.2, .d (.ro f.Kids.n f.Kids.xs)]] (callable Tryz.func284 rfl rfl) (c_posture_nodeForm_1 hy12) rfl (Nat.le_of_ble_eq_true rfl) rfl rfl rfl rfl rfl rfl rfl rfl rfl rfl ?_
      refine go_ops hΓ 2 rfl ?_
      refine j_cond rfl (fun hb => ?_) (fun hb => ?_)
      · have h14 := cT h13 hb
        refine go hΓ 9 rfl ?_
        obtain ⟨v15, hv15, h16⟩ := bi_ok h14
        obtain rfl := Option.some.inj h16
        obtain rfl := hout10 _ rfl
        obtain rfl := Option.some.inj h5
        refine go hΓ 4 rfl ?_
        obtain rfl := Option.some.inj hv15
        exact fin_objs hΓ [] (.inr rfl) rfl rfl rfl rfl (.inl rfl)
      · have h17 := cF h13 hb
        refine go hΓ 7 rfl ?_
        obtain rfl := Option.some.inj h17
        exact ⟨_, rfl, ⟨⟨rfl, rfl, rfl, get_eq rfl (w64_succ (Nat.lt_of_lt_of_le hlt hb7)), trivial⟩, [], rfl, .inl rfl⟩⟩
    · subst hgo
      refine go hΓ 6 rfl ?_
      refine j_condF rfl (decide_eq_false (Int.lt_irrefl _)) ?_
      refine go hΓ 4 rfl ?_
      exact ⟨_, rfl, ⟨trivial, [], rfl, .inl rfl⟩⟩
  · intro a6 ha
    subst ha
    replace h5 := goI_l h5
    refine go hΓ 7 rfl ?_
    obtain rfl := Option.some.inj h5
    exact fin_objs hΓ [] (.inr rfl) rfl rfl rfl rfl (.inl rfl)
theorem c_slices_ContainsFunc_api_Cond_api_Cond {s : List T_api_Cond} {f : T_api_Cond} {r : Bool} (h : m_slices_ContainsFunc_api_Cond_api_Cond s f = some r) : EC Tryz.prog 233 [.d (Sl e_api_Cond s), .fn (.func 284) [] [.ptr 0 0]] [.box 32 [I f.Kind, S f.Name, S f.Op, I f.Value.Kind, I f.Value.Number, S f.Value.Words, I f.Value.Version.1, I f.Value.Version.2.1, I f.Value.Version.2.2.1, I f.Value.Version.2.2.2, .d (.ro f.Kids.n f.Kids.xs)]] fun g hp' => g = B r ∧ hp' = [.box 32 [I f.Kind, S f.Name, S f.Op, I f.Value.Kind, I f.Value.Number, S f.Value.Words, I f.Value.Version.1, I f.Value.Version.2.1, I f.Value.Version.2.2.1, I f.Value.Version.2.2.2, .d (.ro f.Kids.n f.Kids.xs)]] := by
  refine ec_enter (Fr.of 0 _) Tryz.func233 rfl (Fr.of_ok _) (Nat.le_of_ble_eq_true rfl) fun _ => ?_
  refine go_in ?_
  unfold m_slices_ContainsFunc_api_Cond_api_Cond at h
  obtain ⟨y1, hy1, h2⟩ := bi_ok h
  refine go hΓ 9 rfl ?_
  refine eo_callF [0] (I y1) [.box 32 [I f.Kind, S f.Name, S f.Op, I f.Value.Kind, I f.Value.Number, S f.Value.Words, I f.Value.Version.1, I f.Value.Version.2.1, I f.Value.Version.2.2.1, I f.Value.Version.2.2.2, .d (.ro f.Kids.n f.Kids.xs)]] (callable Tryz.func297 rfl rfl) (c_slices_IndexFunc_api_Cond_api_Cond hy1) rfl (Nat.le_of_ble_eq_true rfl) rfl rfl rfl rfl rfl rfl rfl rfl rfl rfl ?_
  refine go_ops hΓ 5 rfl ?_
  obtain rfl := Option.some.inj h2
  exact fin_objs hΓ [] (.inr rfl) rfl rfl rfl rfl (.inl rfl)
set_option maxHeartbeats 8000000 in
theorem c_posture_nodeForm {c : T_api_Cond} {r : Bool} (h : m_posture_nodeForm c = some r) : Pure Tryz.prog 219 [.agg [I c.Kind, S c.Name, S c.Op, I c.Value.Kind, I c.Value.Number, S c.Value.Words, I c.Value.Version.1, I c.Value.Version.2.1, I c.Value.Version.2.2.1, I c.Value.Version.2.2.2, .d (.ro c.Kids.n c.Kids.xs)]] (B r) := by
  refine Pure.enter (Fr.of 0 _) Tryz.func219 rfl (Fr.of_ok _) rfl rfl ?_
  refine go_in ?_
  unfold m_posture_nodeForm at h
  refine go hΓ 2 rfl ?_
  refine eo_box rfl rfl rfl rfl (Nat.le_of_ble_eq_true rfl) ?_
  obtain ⟨l1, hl1, h2⟩ := bi_ok h
  refine go_ops hΓ 6 rfl ?_
  refine eo_o rfl (op_le (pst_ok hΓ (g := .d (.ro c.Kids.n c.Kids.xs)) rfl) (G.Le.unk dk_api_Cond hl1)) ?_
  obtain ⟨q3, hq3, h4⟩ := bi_ok h2
  refine go_ops hΓ 11 rfl ?_
  refine j_cutSZ (q := q3) (fun a5 => [(1, .ptr 0 0)]) (fun a5 => [.box 32 [I c.Kind, S c.Name, S c.Op, I c.Value.Kind, I c.Value.Number, S c.Value.Words, I c.Value.Version.1, I c.Value.Version.2.1, I c.Value.Version.2.2.1, I c.Value.Version.2.2.2, .d (.ro c.Kids.n c.Kids.xs)]]) ?_ ?_
  · refine go hΓ 7 rfl ?_
    refine j_cond rfl (fun hb => ?_) (fun hb => ?_)
    · have h6 := cT hq3 hb
      refine go hΓ 9 rfl ?_
      obtain ⟨v7, hv7, h8⟩ := bi_ok h6
      obtain rfl := Option.some.inj h8
      obtain rfl := Option.some.inj h4
      refine go hΓ 2 rfl ?_
      obtain rfl := Option.some.inj hv7
      exact fin_pure hΓ (.inr rfl) rfl rfl
    · have h9 := cF hq3 hb
      refine go hΓ 6 rfl ?_
      refine j_cond rfl (fun hb => ?_) (fun hb => ?_)
      · have h10 := cT h9 hb
        refine go hΓ 6 rfl ?_
        refine j_cond rfl (fun hb => ?_) (fun hb => ?_)
        · have h11 := cT h10 hb
          refine go hΓ 7 rfl ?_
          obtain ⟨v12, hv12, h13⟩ := bi_ok h11
          obtain rfl := Option.some.inj h13
          obtain rfl := Option.some.inj h4
          refine go hΓ 2 rfl ?_
          obtain rfl := Option.some.inj hv12
          exact fin_pure hΓ (.inr rfl) rfl rfl
        · have h14 := cF h10 hb
          refine go hΓ 2 rfl ?_
          obtain rfl := Option.some.inj h14
          exact ⟨_, rfl, ⟨⟨rfl, trivial⟩, [], rfl, .inl rfl⟩⟩
      · have h15 := cF h9 hb
        refine go hΓ 5 rfl ?_
        obtain ⟨q16, hq16, h17⟩ := bi_ok h15
        refine o_cut 5 [(1, .ptr 0 0), (16, B q16)] [.box 32 [I c.Kind, S c.Name, S c.Op, I c.Value.Kind, I c.Value.Number, S c.Value.Words, I c.Value.Version.1, I c.Value.Version.2.1, I c.Value.Version.2.2.1, I c.Value.Version.2.2.2, .d (.ro c.Kids.n c.Kids.xs)]] ?_ ?_
        · refine eo_gsplit rfl rfl (fun hb => ?_) (fun hb => ?_)
          · have h18 := cT hq16 hb
            refine go_ops hΓ 6 rfl ?_
            obtain rfl := Option.some.inj h18
            exact ⟨⟨rfl, rfl, trivial⟩, [], rfl, .inl rfl⟩
          · have h19 := cF hq16 hb
            obtain ⟨l20, hl20, h21⟩ := bi_ok h19
            refine go_ops hΓ 1 rfl ?_
            refine eo_guard rfl ?_
            refine eo_o rfl (op_le (pst_ok hΓ (g := .d (.ro c.Kids.n c.Kids.xs)) rfl) (G.Le.unk dk_api_Cond hl20)) ?_
            obtain ⟨y22, hy22, h23⟩ := bi_ok h21
            refine go_ops hΓ 1 rfl ?_
            refine eo_guard rfl ?_
            refine eo_callF [0] (B y22) [.box 32 [I c.Kind, S c.Name, S c.Op, I c.Value.Kind, I c.Value.Number, S c.Value.Words, I c.Value.Version.1, I c.Value.Version.2.1, I c.Value.Version.2.2.1, I c.Value.Version.2.2.2, .d (.ro c.Kids.n c.Kids.xs)]] (callable Tryz.func233 rfl rfl) (c_slices_ContainsFunc_api_Cond_api_Cond hy22) rfl (Nat.le_of_ble_eq_true rfl) rfl rfl rfl rfl rfl rfl rfl rfl rfl rfl ?_
            refine go_ops hΓ 2 rfl ?_
            obtain rfl := Option.some.inj h23
            exact ⟨⟨rfl, rfl, trivial⟩, [], rfl, .inl rfl⟩
        · refine go_ops hΓ 2 rfl ?_
          refine j_cond rfl (fun hb => ?_) (fun hb => ?_)
          · have h24 := cT h17 hb
            refine go hΓ 7 rfl ?_
            obtain ⟨v25, hv25, h26⟩ := bi_ok h24
            obtain rfl := Option.some.inj h26
            obtain rfl := Option.some.inj h4
            refine go hΓ 2 rfl ?_
            obtain rfl := Option.some.inj hv25
            exact fin_pure hΓ (.inr rfl) rfl rfl
          · have h27 := cF h17 hb
            refine go hΓ 2 rfl ?_
            obtain rfl := Option.some.inj h27
            exact ⟨_, rfl, ⟨⟨rfl, trivial⟩, [], rfl, .inl rfl⟩⟩
  · intro a5 ha
    subst ha
    replace h4 := orI_l h4
    refine go hΓ 7 rfl ?_
    refine o_cut 4 [(1, .ptr 0 0), (32, B (((c.Name : Str) == []) && ((c.Op : Str) == [])))] [.box 32 [I c.Kind, S c.Name, S c.Op, I c.Value.Kind, I c.Value.Number, S c.Value.Words, I c.Value.Version.1, I c.Value.Version.2.1, I c.Value.Version.2.2.1, I c.Value.Version.2.2.2, .d (.ro c.Kids.n c.Kids.xs)]] ?_ ?_
    · refine eo_gsplit rfl rfl (fun hb => ?_) (fun hb => ?_)
      · refine go_ops hΓ 5 rfl ?_
        exact ⟨⟨rfl, get_b rfl (and_t hb), trivial⟩, [], rfl, .inl rfl⟩
      · refine go_ops hΓ 5 rfl ?_
        exact ⟨⟨rfl, get_b rfl (and_f hb), trivial⟩, [], rfl, .inl rfl⟩
    · refine go_ops hΓ 1 rfl ?_
      refine o_cut 5 [(38, B ((((c.Name : Str) == []) && ((c.Op : Str) == [])) && (((c.Value.Kind : Int) == 0) && (((c.Value.Number : Int) == 0) && (((c.Value.Words : Str) == []) && (decide (([c.Value.Version.1, c.Value.Version.2.1, c.Value.Version.2.2.1, c.Value.Version.2.2.2] : List Int) = [0, 0, 0, 0]) && true))))))] [.box 32 [I c.Kind, S c.Name, S c.Op, I c.Value.Kind, I c.Value.Number, S c.Value.Words, I c.Value.Version.1, I c.Value.Version.2.1, I c.Value.Version.2.2.1, I c.Value.Version.2.2.2, .d (.ro c.Kids.n c.Kids.xs)]] ?_ ?_
      · refine eo_gsplit rfl rfl (fun hb => ?_) (fun hb => ?_)
        · refine go_ops hΓ 2 rfl ?_
          refine eo_guard rfl ?_
          refine eo_build hΓ (gs := [I 0, I 0, S [], I 0, I 0, I 0, I 0]) rfl rfl rfl rfl rfl rfl rfl ?_
          refine eo_guard rfl ?_
          refine eo_o rfl (op_eqSA hΓ [29] (b := (((c.Value.Kind : Int) == 0) && (((c.Value.Number : Int) == 0) && (((c.Value.Words : Str) == []) && (decide (([c.Value.Version.1, c.Value.Version.2.1, c.Value.Version.2.2.1, c.Value.Version.2.2.2] : List Int) = [0, 0, 0, 0]) && true))))) (by kernel_rfl) (by kernel_rfl) rfl rfl rfl) ?_
          refine go_ops hΓ 2 rfl ?_
          exact ⟨⟨get_b rfl (and_t hb), trivial⟩, [], rfl, .inl rfl⟩
        · refine go_ops hΓ 6 rfl ?_
          exact ⟨⟨get_b rfl (and_f hb), trivial⟩, [], rfl, .inl rfl⟩
      · refine go_ops hΓ 4 rfl ?_
        obtain rfl := Option.some.inj h4
        exact fin_pure hΓ (.inr rfl) rfl rfl
set_option maxHeartbeats 8000000 in
theorem c_kit_IsKey {k : Nat} {s : Str} {r : Bool} (h : m_kit_IsKey k s = some r) : Pure Tryz.prog 116 [S s] (B r) := by
  refine Pure.enter (Fr.of 0 _) Tryz.func116 rfl (Fr.of_ok _) rfl rfl ?_
  refine go_in ?_
  unfold m_kit_IsKey at h
  refine go hΓ 11 rfl ?_
  obtain ⟨q4, hq4, h5⟩ := bi_ok h
  refine j_cutEZ (R := fun a6 => q4 = .inl a6) (fun a6 => [(0, S s)]) (fun a6 => []) ?_ ?_
  · refine go hΓ 1 rfl ?_
    refine j_loop hq4 (fun s2 => [(0, S s), (3, I s2)]) (fun s2 => []) ⟨⟨rfl, rfl, trivial⟩, [], rfl, .inl rfl⟩ (fun s2 y10 hy8 hout9 => ?_)
    refine go hΓ 9 rfl ?_
    refine j_cond rfl (fun hb => ?_) (fun hb => ?_)
    · have h11 := cT hy8 hb
      obtain ⟨c12, hc12, h13⟩ := bi_ok h11
      refine go hΓ 8 rfl ?_
      refine eo_o rfl (op_byteZ hΓ hc12 rfl rfl rfl rfl) ?_
      refine go_ops hΓ 8 rfl ?_
      refine o_cut 3 [(0, S s), (3, I s2), (4, .d (.v (.int .u8 (c12.toNat : Int)))), (19, B ((decide (((c12.toNat : Int) : Int) ≥ 97)) && (decide (((c12.toNat : Int) : Int) ≤ 122))))] [] ?_ ?_
      · refine eo_gsplit rfl rfl (fun hb => ?_) (fun hb => ?_)
        · refine go_ops hΓ 4 rfl ?_
          exact ⟨⟨rfl, rfl, rfl, get_b rfl (and_t hb), trivial⟩, [], rfl, .inl rfl⟩
        · refine go_ops hΓ 4 rfl ?_
          exact ⟨⟨rfl, rfl, rfl, get_b rfl (and_f hb), trivial⟩, [], rfl, .inl rfl⟩
      · refine go_ops hΓ 1 rfl ?_
        refine o_cut 19 [(0, S s), (3, I s2), (39, B (((decide (((c12.toNat : Int) : Int) ≥ 97)) && (decide (((c12.toNat : Int) : Int) ≤ 122))) || ((decide ((s2 : Int) > 0)) && ((((decide (((c12.toNat : Int) : Int) ≥ 48)) && (decide (((c12.toNat : Int) : Int) ≤ 57))) || (((c12.toNat : Int) : Int) == 45)) || (((c12.toNat : Int) : Int) == 95)))))] [] ?_ ?_
        · refine eo_gsplit rfl rfl (fun hb => ?_) (fun hb => ?_)
          · refine go_ops hΓ 20 rfl ?_
            exact ⟨⟨rfl, rfl, get_b rfl (or_t hb), trivial⟩, [], rfl, .inl rfl⟩
          · refine go_ops hΓ 3 rfl ?_
            refine o_cut 15 [(0, S s), (3, I s2), (20, B false), (38, B ((decide ((s2 : Int) > 0)) && ((((decide (((c12.toNat : Int) : Int) ≥ 48)) && (decide (((c12.toNat : Int) : Int) ≤ 57))) || (((c12.toNat : Int) : Int) == 45)) || (((c12.toNat : Int) : Int) == 95))))] [] ?_ ?_
            · refine eo_gsplit rfl rfl (fun hb => ?_) (fun hb => ?_)
              · refine go_ops hΓ 3 rfl ?_
                refine o_cut 3 [(0, S s), (3, I s2), (4, .d (.v (.int .u8 (c12.toNat : Int)))), (20, B false), (23, B true), (29, B ((decide (((c12.toNat : Int) : Int) ≥ 48)) && (decide (((c12.toNat : Int) : Int) ≤ 57))))] [] ?_ ?_
                · refine eo_gsplit rfl rfl (fun hb => ?_) (fun hb => ?_)
                  · refine go_ops hΓ 4 rfl ?_
                    exact ⟨⟨rfl, rfl, rfl, rfl, rfl, get_b rfl (and_t hb), trivial⟩, [], rfl, .inl rfl⟩
                  · refine go_ops hΓ 4 rfl ?_
                    exact ⟨⟨rfl, rfl, rfl, rfl, rfl, get_b rfl (and_f hb), trivial⟩, [], rfl, .inl rfl⟩
                · refine go_ops hΓ 1 rfl ?_
                  refine o_cut 3 [(0, S s), (3, I s2), (4, .d (.v (.int .u8 (c12.toNat : Int)))), (20, B false), (23, B true), (33, B (((decide (((c12.toNat : Int) : Int) ≥ 48)) && (decide (((c12.toNat : Int) : Int) ≤ 57))) || (((c12.toNat : Int) : Int) == 45)))] [] ?_ ?_
                  · refine eo_gsplit rfl rfl (fun hb => ?_) (fun hb => ?_)
                    · refine go_ops hΓ 4 rfl ?_
                      exact ⟨⟨rfl, rfl, rfl, rfl, rfl, get_b rfl (or_t hb), trivial⟩, [], rfl, .inl rfl⟩
                    · refine go_ops hΓ 4 rfl ?_
                      exact ⟨⟨rfl, rfl, rfl, rfl, rfl, get_b rfl (or_f hb), trivial⟩, [], rfl, .inl rfl⟩
                  · refine go_ops hΓ 1 rfl ?_
                    refine o_cut 3 [(0, S s), (3, I s2), (20, B false), (23, B true), (37, B ((((decide (((c12.toNat : Int) : Int) ≥ 48)) && (decide (((c12.toNat : Int) : Int) ≤ 57))) || (((c12.toNat : Int) : Int) == 45)) || (((c12.toNat : Int) : Int) == 95)))] [] ?_ ?_
                    · refine eo_gsplit rfl rfl (fun hb => ?_) (fun hb => ?_)
                      · refine go_ops hΓ 4 rfl ?_
                        exact ⟨⟨rfl, rfl, rfl, rfl, get_b rfl (or_t hb), trivial⟩, [], rfl, .inl rfl⟩
                      · refine go_ops hΓ 4 rfl ?_
                        exact ⟨⟨rfl, rfl, rfl, rfl, get_b rfl (or_f hb), trivial⟩, [], rfl, .inl rfl⟩
                    · refine go_ops hΓ 2 rfl ?_
                      exact ⟨⟨rfl, rfl, rfl, get_b rfl (and_t hb), trivial⟩, [], rfl, .inl rfl⟩
              · refine go_ops hΓ 16 rfl ?_
                exact ⟨⟨rfl, rfl, rfl, get_b rfl (and_f hb), trivial⟩, [], rfl, .inl rfl⟩
            · refine go_ops hΓ 2 rfl ?_
              exact ⟨⟨rfl, rfl, get_b rfl (or_f hb), trivial⟩, [], rfl, .inl rfl⟩
        · refine go_ops hΓ 3 rfl ?_
          refine j_cond rfl (fun hb => ?_) (fun hb => ?_)
          · have h14 := cT h13 hb
            refine go hΓ 8 rfl ?_
            obtain ⟨v15, hv15, h16⟩ := bi_ok h14
            obtain rfl := Option.some.inj h16
            obtain rfl := hout9 _ rfl
            obtain rfl := Option.some.inj h5
            refine go hΓ 4 rfl ?_
            obtain rfl := Option.some.inj hv15
            exact fin_pure hΓ (.inr rfl) rfl rfl
          · have h17 := cF h13 hb
            refine go hΓ 8 rfl ?_
            obtain rfl := Option.some.inj h17
            exact ⟨_, rfl, ⟨⟨rfl, rfl, trivial⟩, [], rfl, .inl rfl⟩⟩
    · have h18 := cF hy8 hb
      refine go hΓ 4 rfl ?_
      obtain rfl := Option.some.inj h18
      obtain rfl := hout9 _ rfl
      exact ⟨_, rfl, ⟨⟨rfl, trivial⟩, [], rfl, .inl rfl⟩⟩
  · intro a6 ha
    subst ha
    replace h5 := orI_l h5
    refine go hΓ 6 rfl ?_
    refine o_cut 4 [(47, B ((!((s : Str) == [])) && (decide (((s.length : Int) : Int) ≤ 40))))] [] ?_ ?_
    · refine eo_gsplit rfl rfl (fun hb => ?_) (fun hb => ?_)
      · refine go_ops hΓ 5 rfl ?_
        exact ⟨⟨get_b rfl (and_t hb), trivial⟩, [], rfl, .inl rfl⟩
      · refine go_ops hΓ 5 rfl ?_
        exact ⟨⟨get_b rfl (and_f hb), trivial⟩, [], rfl, .inl rfl⟩
    · refine go_ops hΓ 4 rfl ?_
      obtain rfl := Option.some.inj h5
      exact fin_pure hΓ (.inr rfl) rfl rfl
theorem c_posture_isWords {s : Str} {r : Bool} (h : m_posture_isWords s = some r) : Pure Tryz.prog 188 [S s] (B r) := by
  refine Pure.enter (Fr.of 0 _) Tryz.func188 rfl (Fr.of_ok _) rfl rfl ?_
  refine go_in ?_
  unfold m_posture_isWords at h
  refine go hΓ 13 rfl ?_
  obtain ⟨q4, hq4, h5⟩ := bi_ok h
  obtain ⟨hb7, h8⟩ := gd_ok hq4
  replace hb7 := of_decide_eq_true hb7
  refine j_cutEZ (R := fun a6 => q4 = .go a6) (fun a6 => [(0, S s)]) (fun a6 => []) ?_ ?_
  · refine go hΓ 1 rfl ?_
    refine j_rangeI h8 (fun i1 s2 => [(0, S s), (5, I (s.length : Int)), (6, I (i1 : Int))]) (fun s2 => []) ⟨⟨rfl, rfl, rfl, trivial⟩, [], rfl, .inl rfl⟩ (fun i1 s2 y12 hlt hy10 hout11 => ?_) (fun s2 hgo hge => ?_)
    · refine go hΓ 6 rfl ?_
      refine j_condT rfl (decide_eq_true hlt) ?_
      obtain ⟨c13, hc13, h14⟩ := bi_ok hy10
      refine go hΓ 14 rfl ?_
      refine eo_o rfl (op_byteZ hΓ hc13 rfl rfl rfl rfl) ?_
      refine go_ops hΓ 2 rfl ?_
      obtain ⟨q15, hq15, h16⟩ := bi_ok h14
      refine o_cut 5 [(0, S s), (5, I (s.length : Int)), (6, I (i1 : Int)), (18, B q15)] [] ?_ ?_
      · refine eo_gsplit rfl rfl (fun hb => ?_) (fun hb => ?_)
        · have h17 := cT hq15 hb
          refine go_ops hΓ 6 rfl ?_
          obtain rfl := Option.some.inj h17
          exact ⟨⟨rfl, rfl, rfl, rfl, trivial⟩, [], rfl, .inl rfl⟩
        · have h18 := cF hq15 hb
          obtain ⟨c19, hc19, h20⟩ := bi_ok h18
          refine go_ops hΓ 2 rfl ?_
          refine eo_guard rfl ?_
          refine eo_o rfl (op_byteZ hΓ hc19 rfl rfl rfl rfl) ?_
          refine go_ops hΓ 3 rfl ?_
          obtain rfl := Option.some.inj h20
          exact ⟨⟨rfl, rfl, rfl, rfl, trivial⟩, [], rfl, .inl rfl⟩
      · refine go_ops hΓ 2 rfl ?_
        refine j_cond rfl (fun hb => ?_) (fun hb => ?_)
        · have h21 := cT h16 hb
          refine go hΓ 8 rfl ?_
          obtain ⟨v22, hv22, h23⟩ := bi_ok h21
          obtain rfl := Option.some.inj h23
          obtain rfl := hout11 _ rfl
          obtain rfl := Option.some.inj h5
          refine go hΓ 4 rfl ?_
          obtain rfl := Option.some.inj hv22
          exact fin_pure hΓ (.inr rfl) rfl rfl
        · have h24 := cF h16 hb
          refine go hΓ 7 rfl ?_
          obtain rfl := Option.some.inj h24
          exact ⟨_, rfl, ⟨⟨rfl, rfl, get_eq rfl (w64_succ (by omega)), trivial⟩, [], rfl, .inl rfl⟩⟩
    · subst hgo
      refine go hΓ 6 rfl ?_
      refine j_condF rfl (decide_eq_false hge) ?_
      refine go hΓ 4 rfl ?_
      exact ⟨_, rfl, ⟨⟨rfl, trivial⟩, [], rfl, .inl rfl⟩⟩
  · intro a6 ha
    subst ha
    replace h5 := goI_l h5
    refine go hΓ 10 rfl ?_
    obtain rfl := Option.some.inj h5
    exact fin_pure hΓ (.inr rfl) rfl rfl
set_option maxHeartbeats 8000000 in
theorem c_posture_attrFault {k : Nat} {a : T_api_Attr} {r : Int} (h : m_posture_attrFault k a = some r) : Pure Tryz.prog 124 [.agg [I a.Kind, I a.Number, S a.Words, I a.Version.1, I a.Version.2.1, I a.Version.2.2.1, I a.Version.2.2.2]] (I r) := by
  refine Pure.enter (Fr.of 0 _) Tryz.func124 rfl (Fr.of_ok _) rfl rfl ?_
  refine go_in ?_
  unfold m_posture_attrFault at h
  refine go hΓ 2 rfl ?_
  refine eo_box rfl rfl rfl rfl (Nat.le_of_ble_eq_true rfl) ?_
  obtain ⟨y1, hy1, h2⟩ := bi_ok h
  refine go_ops hΓ 9 rfl ?_
  refine eo_callP (callable Tryz.func94 rfl rfl) (c_kit_Outside hy1) rfl (Nat.le_of_ble_eq_true rfl) rfl rfl rfl rfl rfl ?_
  refine go_ops hΓ 3 rfl ?_
  refine j_cond rfl (fun hb => ?_) (fun hb => ?_)
  · have h3 := cT h2 hb
    refine go hΓ 8 rfl ?_
    obtain rfl := Option.some.inj h3
    exact fin_pure hΓ (.inr rfl) rfl rfl
  · have h4 := cF h2 hb
    refine go hΓ 6 rfl ?_
    obtain ⟨q5, hq5, h6⟩ := bi_ok h4
    refine o_cut 4 [(1, .ptr 0 0), (17, B q5)] [.box 29 [I a.Kind, I a.Number, S a.Words, I a.Version.1, I a.Version.2.1, I a.Version.2.2.1, I a.Version.2.2.2]] ?_ ?_
    · refine eo_gsplit rfl rfl (fun hb => ?_) (fun hb => ?_)
      · have h7 := cT hq5 hb
        obtain ⟨y8, hy8, h9⟩ := bi_ok h7
        refine go_ops hΓ 2 rfl ?_
        refine eo_guard rfl ?_
        refine eo_callP (callable Tryz.func94 rfl rfl) (c_kit_Outside hy8) rfl (Nat.le_of_ble_eq_true rfl) rfl rfl rfl rfl rfl ?_
        refine go_ops hΓ 2 rfl ?_
        obtain rfl := Option.some.inj h9
        exact ⟨⟨rfl, rfl, trivial⟩, [], rfl, .inl rfl⟩
      · have h10 := cF hq5 hb
        refine go_ops hΓ 5 rfl ?_
        obtain rfl := Option.some.inj h10
        exact ⟨⟨rfl, rfl, trivial⟩, [], rfl, .inl rfl⟩
    · refine go_ops hΓ 1 rfl ?_
      obtain ⟨q11, hq11, h12⟩ := bi_ok h6
      refine o_cut 9 [(1, .ptr 0 0), (27, B q11)] [.box 29 [I a.Kind, I a.Number, S a.Words, I a.Version.1, I a.Version.2.1, I a.Version.2.2.1, I a.Version.2.2.2]] ?_ ?_
      · refine eo_gsplit rfl rfl (fun hb => ?_) (fun hb => ?_)
        · have h13 := cT hq11 hb
          refine go_ops hΓ 10 rfl ?_
          obtain rfl := Option.some.inj h13
          exact ⟨⟨rfl, rfl, trivial⟩, [], rfl, .inl rfl⟩
        · have h14 := cF hq11 hb
          refine go_ops hΓ 4 rfl ?_
          obtain ⟨q15, hq15, h16⟩ := bi_ok h14
          refine o_cut 4 [(1, .ptr 0 0), (18, B false), (26, B q15)] [.box 29 [I a.Kind, I a.Number, S a.Words, I a.Version.1, I a.Version.2.1, I a.Version.2.2.1, I a.Version.2.2.2]] ?_ ?_
          · refine eo_gsplit rfl rfl (fun hb => ?_) (fun hb => ?_)
            · have h17 := cT hq15 hb
              obtain ⟨y18, hy18, h19⟩ := bi_ok h17
              refine go_ops hΓ 2 rfl ?_
              refine eo_guard rfl ?_
              refine eo_callP (callable Tryz.func94 rfl rfl) (c_kit_Outside hy18) rfl (Nat.le_of_ble_eq_true rfl) rfl rfl rfl rfl rfl ?_
              refine go_ops hΓ 2 rfl ?_
              obtain rfl := Option.some.inj h19
              exact ⟨⟨rfl, rfl, rfl, trivial⟩, [], rfl, .inl rfl⟩
            · have h20 := cF hq15 hb
              refine go_ops hΓ 5 rfl ?_
              obtain rfl := Option.some.inj h20
              exact ⟨⟨rfl, rfl, rfl, trivial⟩, [], rfl, .inl rfl⟩
          · refine go_ops hΓ 2 rfl ?_
            obtain rfl := Option.some.inj h16
            exact ⟨⟨rfl, rfl, trivial⟩, [], rfl, .inl rfl⟩
      · refine go_ops hΓ 3 rfl ?_
        refine j_cond rfl (fun hb => ?_) (fun hb => ?_)
        · have h21 := cT h12 hb
          refine go hΓ 8 rfl ?_
          obtain rfl := Option.some.inj h21
          exact fin_pure hΓ (.inr rfl) rfl rfl
        · have h22 := cF h12 hb
          refine go hΓ 6 rfl ?_
          refine o_cut 4 [(1, .ptr 0 0), (36, B (((a.Kind : Int) != 1) && ((a.Kind : Int) != 3)))] [.box 29 [I a.Kind, I a.Number, S a.Words, I a.Version.1, I a.Version.2.1, I a.Version.2.2.1, I a.Version.2.2.2]] ?_ ?_
          · refine eo_gsplit rfl rfl (fun hb => ?_) (fun hb => ?_)
            · refine go_ops hΓ 5 rfl ?_
              exact ⟨⟨rfl, get_b rfl (and_t hb), trivial⟩, [], rfl, .inl rfl⟩
            · refine go_ops hΓ 5 rfl ?_
              exact ⟨⟨rfl, get_b rfl (and_f hb), trivial⟩, [], rfl, .inl rfl⟩
          · refine go_ops hΓ 1 rfl ?_
            refine o_cut 4 [(1, .ptr 0 0), (41, B ((((a.Kind : Int) != 1) && ((a.Kind : Int) != 3)) && ((a.Number : Int) != 0)))] [.box 29 [I a.Kind, I a.Number, S a.Words, I a.Version.1, I a.Version.2.1, I a.Version.2.2.1, I a.Version.2.2.2]] ?_ ?_
            · refine eo_gsplit rfl rfl (fun hb => ?_) (fun hb => ?_)
              · refine go_ops hΓ 5 rfl ?_
                exact ⟨⟨rfl, get_b rfl (and_t hb), trivial⟩, [], rfl, .inl rfl⟩
              · refine go_ops hΓ 5 rfl ?_
                exact ⟨⟨rfl, get_b rfl (and_f hb), trivial⟩, [], rfl, .inl rfl⟩
            · refine go_ops hΓ 3 rfl ?_
              refine j_cond rfl (fun hb => ?_) (fun hb => ?_)
              · have h23 := cT h22 hb
                refine go hΓ 8 rfl ?_
                obtain rfl := Option.some.inj h23
                exact fin_pure hΓ (.inr rfl) rfl rfl
              · have h24 := cF h22 hb
                refine go hΓ 6 rfl ?_
                obtain ⟨q25, hq25, h26⟩ := bi_ok h24
                refine o_cut 5 [(1, .ptr 0 0), (51, B q25)] [.box 29 [I a.Kind, I a.Number, S a.Words, I a.Version.1, I a.Version.2.1, I a.Version.2.2.1, I a.Version.2.2.2]] ?_ ?_
                · refine eo_gsplit rfl rfl (fun hb => ?_) (fun hb => ?_)
                  · have h27 := cT hq25 hb
                    obtain ⟨y28, hy28, h29⟩ := bi_ok h27
                    refine go_ops hΓ 2 rfl ?_
                    refine eo_guard rfl ?_
                    refine eo_callP (callable Tryz.func188 rfl rfl) (c_posture_isWords hy28) rfl (Nat.le_of_ble_eq_true rfl) rfl rfl rfl rfl rfl ?_
                    refine go_ops hΓ 3 rfl ?_
                    obtain rfl := Option.some.inj h29
                    exact ⟨⟨rfl, rfl, trivial⟩, [], rfl, .inl rfl⟩
                  · have h30 := cF hq25 hb
                    refine go_ops hΓ 6 rfl ?_
                    obtain rfl := Option.some.inj h30
                    exact ⟨⟨rfl, rfl, trivial⟩, [], rfl, .inl rfl⟩
                · refine go_ops hΓ 1 rfl ?_
                  refine o_cut 9 [(1, .ptr 0 0), (61, B (q25 || (((a.Kind : Int) != 2) && (!((a.Words : Str) == [])))))] [.box 29 [I a.Kind, I a.Number, S a.Words, I a.Version.1, I a.Version.2.1, I a.Version.2.2.1, I a.Version.2.2.2]] ?_ ?_
                  · refine eo_gsplit rfl rfl (fun hb => ?_) (fun hb => ?_)
                    · refine go_ops hΓ 10 rfl ?_
                      exact ⟨⟨rfl, get_b rfl (or_t hb), trivial⟩, [], rfl, .inl rfl⟩
                    · refine go_ops hΓ 4 rfl ?_
                      refine o_cut 4 [(1, .ptr 0 0), (52, B false), (60, B (((a.Kind : Int) != 2) && (!((a.Words : Str) == []))))] [.box 29 [I a.Kind, I a.Number, S a.Words, I a.Version.1, I a.Version.2.1, I a.Version.2.2.1, I a.Version.2.2.2]] ?_ ?_
                      · refine eo_gsplit rfl rfl (fun hb => ?_) (fun hb => ?_)
                        · refine go_ops hΓ 5 rfl ?_
                          exact ⟨⟨rfl, rfl, get_b rfl (and_t hb), trivial⟩, [], rfl, .inl rfl⟩
                        · refine go_ops hΓ 5 rfl ?_
                          exact ⟨⟨rfl, rfl, get_b rfl (and_f hb), trivial⟩, [], rfl, .inl rfl⟩
                      · refine go_ops hΓ 2 rfl ?_
                        exact ⟨⟨rfl, get_b rfl (or_f hb), trivial⟩, [], rfl, .inl rfl⟩
                  · refine go_ops hΓ 3 rfl ?_
                    refine j_cond rfl (fun hb => ?_) (fun hb => ?_)
                    · have h31 := cT h26 hb
                      refine go hΓ 8 rfl ?_
                      obtain rfl := Option.some.inj h31
                      exact fin_pure hΓ (.inr rfl) rfl rfl
                    · have h32 := cF h26 hb
                      refine go hΓ 11 rfl ?_
                      obtain ⟨q36, hq36, h37⟩ := bi_ok h32
                      refine j_cutEZ (R := fun a38 => q36 = .inl a38) (fun a38 => []) (fun a38 => [.box 29 [I a.Kind, I a.Number, S a.Words, I a.Version.1, I a.Version.2.1, I a.Version.2.2.1, I a.Version.2.2.2]]) ?_ ?_
                      · refine go hΓ 1 rfl ?_
                        refine j_loop hq36 (fun s34 => [(1, .ptr 0 0), (63, .agg [I a.Version.1, I a.Version.2.1, I a.Version.2.2.1, I a.Version.2.2.2]), (64, I s34)]) (fun s34 => [.box 29 [I a.Kind, I a.Number, S a.Words, I a.Version.1, I a.Version.2.1, I a.Version.2.2.1, I a.Version.2.2.2]]) ⟨⟨rfl, rfl, rfl, trivial⟩, [], rfl, .inl rfl⟩ (fun s34 y42 hy40 hout41 => ?_)
                        refine go hΓ 6 rfl ?_
                        refine j_cond rfl (fun hb => ?_) (fun hb => ?_)
                        · have h43 := cT hy40 hb
                          obtain ⟨x44, hx44, h45⟩ := bi_ok h43
                          refine go hΓ 6 rfl ?_
                          refine eo_o rfl (op_indexArrZ hΓ (enc := (eN .i64)) [a.Version.1, a.Version.2.1, a.Version.2.2.1, a.Version.2.2.2] hx44 rfl rfl rfl rfl rfl rfl rfl (fun _ => rfl) rfl) ?_
                          refine go_ops hΓ 10 rfl ?_
                          obtain ⟨q46, hq46, h47⟩ := bi_ok h45
                          refine o_cut 3 [(1, .ptr 0 0), (4, I x44), (63, .agg [I a.Version.1, I a.Version.2.1, I a.Version.2.2.1, I a.Version.2.2.2]), (64, I s34), (73, B q46)] [.box 29 [I a.Kind, I a.Number, S a.Words, I a.Version.1, I a.Version.2.1, I a.Version.2.2.1, I a.Version.2.2.2]] ?_ ?_
                          · refine eo_gsplit rfl rfl (fun hb => ?_) (fun hb => ?_)
                            · have h48 := cT hq46 hb
                              obtain ⟨y49, hy49, h50⟩ := bi_ok h48
                              refine go_ops hΓ 1 rfl ?_
                              refine eo_guard rfl ?_
                              refine eo_callP (callable Tryz.func94 rfl rfl) (c_kit_Outside hy49) rfl (Nat.le_of_ble_eq_true rfl) rfl rfl rfl rfl rfl ?_
                              refine go_ops hΓ 2 rfl ?_
                              obtain rfl := Option.some.inj h50
                              exact ⟨⟨rfl, rfl, rfl, rfl, rfl, trivial⟩, [], rfl, .inl rfl⟩
                            · have h51 := cF hq46 hb
                              refine go_ops hΓ 4 rfl ?_
                              obtain rfl := Option.some.inj h51
                              exact ⟨⟨rfl, rfl, rfl, rfl, rfl, trivial⟩, [], rfl, .inl rfl⟩
                          · refine go_ops hΓ 2 rfl ?_
                            refine j_cond rfl (fun hb => ?_) (fun hb => ?_)
                            · have h52 := cT h47 hb
                              refine go hΓ 9 rfl ?_
                              obtain ⟨v53, hv53, h54⟩ := bi_ok h52
                              obtain rfl := Option.some.inj h54
                              obtain rfl := hout41 _ rfl
                              obtain rfl := Option.some.inj h37
                              refine go hΓ 4 rfl ?_
                              obtain rfl := Option.some.inj hv53
                              exact fin_pure hΓ (.inr rfl) rfl rfl
                            · have h55 := cF h47 hb
                              refine go hΓ 8 rfl ?_
                              refine o_cut 3 [(1, .ptr 0 0), (63, .agg [I a.Version.1, I a.Version.2.1, I a.Version.2.2.1, I a.Version.2.2.2]), (64, I s34), (80, B (((a.Kind : Int) != 4) && ((x44 : Int) != 0)))] [.box 29 [I a.Kind, I a.Number, S a.Words, I a.Version.1, I a.Version.2.1, I a.Version.2.2.1, I a.Version.2.2.2]] ?_ ?_
                              · refine eo_gsplit rfl rfl (fun hb => ?_) (fun hb => ?_)
                                · refine go_ops hΓ 4 rfl ?_
                                  exact ⟨⟨rfl, rfl, rfl, get_b rfl (and_t hb), trivial⟩, [], rfl, .inl rfl⟩
                                · refine go_ops hΓ 4 rfl ?_
                                  exact ⟨⟨rfl, rfl, rfl, get_b rfl (and_f hb), trivial⟩, [], rfl, .inl rfl⟩
                              · refine go_ops hΓ 2 rfl ?_
                                refine j_cond rfl (fun hb => ?_) (fun hb => ?_)
                                · have h56 := cT h55 hb
                                  refine go hΓ 8 rfl ?_
                                  obtain ⟨v57, hv57, h58⟩ := bi_ok h56
                                  obtain rfl := Option.some.inj h58
                                  obtain rfl := hout41 _ rfl
                                  obtain rfl := Option.some.inj h37
                                  refine go hΓ 4 rfl ?_
                                  obtain rfl := Option.some.inj hv57
                                  exact fin_pure hΓ (.inr rfl) rfl rfl
                                · have h59 := cF h55 hb
                                  refine go hΓ 7 rfl ?_
                                  obtain rfl := Option.some.inj h59
                                  exact ⟨_, rfl, ⟨⟨rfl, rfl, rfl, trivial⟩, [], rfl, .inl rfl⟩⟩
                        · have h60 := cF hy40 hb
                          refine go hΓ 4 rfl ?_
                          obtain rfl := Option.some.inj h60
                          obtain rfl := hout41 _ rfl
                          exact ⟨_, rfl, ⟨trivial, [], rfl, .inl rfl⟩⟩
                      · intro a38 ha
                        subst ha
                        replace h37 := orI_l h37
                        refine go hΓ 7 rfl ?_
                        obtain rfl := Option.some.inj h37
                        exact fin_pure hΓ (.inr rfl) rfl rfl
end Go.Proofs.YthhdojhbohfmnaaGreatDoor
