/-
  The functions compute their models.
-/
import Derived.Test.YtpgnhnjhpnbelaaGreatDoorXAM
import Derived.Test.YtpgnhnjhpnbelaaGreatDoorGt
import Derived.Test.YtpgnhnjhpnbelaaGreatDoorStr
import Derived.Test.YtpgnhnjhpnbelaaGreatDoorStr2
import Derived.Test.YtpgnhnjhpnbelaaGreatDoorStr3
set_option linter.unusedVariables false
set_option linter.unusedSimpArgs false
set_option maxRecDepth 100000
namespace Go.Proofs.YtpgnhnjhpnbelaaGreatDoor
open Go.Gk
abbrev e_lanemake_Stream (x : T_lanemake_Stream) : List D := [Sl (eN .i64) x.L, .v (.int .i64 x.v_at)]
abbrev e_api_Split (x : T_api_Split) : List D := [.v (.string ⟨x.Suffix.toArray⟩), Sl eS x.Servers]
abbrev e_api_Addr (x : T_api_Addr) : List D := [.v (.bool x.Six), .v (.int .u64 x.Hi), .v (.int .u64 x.Lo)]
abbrev e_api_Record (x : T_api_Record) : List D := [.v (.string ⟨x.Name.toArray⟩), .v (.int .i64 x.Kind), .v (.bool x.Addr.Six), .v (.int .u64 x.Addr.Hi), .v (.int .u64 x.Addr.Lo), .v (.string ⟨x.To.toArray⟩), .v (.string ⟨x.Words.toArray⟩), .v (.int .i64 x.Life)]
abbrev e_api_Zone (x : T_api_Zone) : List D := [.v (.string ⟨x.Root.toArray⟩), Sl e_api_Record x.Records]
abbrev e_api_Source (x : T_api_Source) : List D := [.v (.string ⟨x.Server.toArray⟩), Sl e_api_Zone x.Zones]
abbrev e_api_Net (x : T_api_Net) : List D := [Sl eS x.Search, .v (.int .i64 x.Dots), Sl e_api_Split x.Splits, Sl e_api_Source x.Sources]
abbrev e_api_Answer (x : T_api_Answer) : List D := [.v (.string ⟨x.Name.toArray⟩), .v (.string ⟨x.Server.toArray⟩), Sl e_api_Record x.Records]
theorem c_lanemake_Below {x : Int} {n : Int} {r : Int} (h : m_lanemake_Below x n = some r) : Pure Tryz.prog 133 [I x, I n] (I r) := by
  refine Pure.enter (Fr.of 0 _) Tryz.func133 rfl (Fr.of_ok _) rfl rfl ?_
  refine go_in ?_
  unfold m_lanemake_Below at h
  refine go hΓ 12 rfl ?_
  refine j_cond rfl (fun hb => ?_) (fun hb => ?_)
  · have h1 := cT h hb
    refine go hΓ 7 rfl ?_
    obtain rfl := Option.some.inj h1
    exact fin_pure hΓ (.inr rfl) rfl rfl
  · have h2 := cF h hb
    obtain ⟨y3, hy3, h4⟩ := bi_ok h2
    refine go hΓ 6 rfl ?_
    refine eo_o rfl (op_remZ hy3 rfl rfl) ?_
    obtain ⟨q5, hq5, h6⟩ := bi_ok h4
    refine go_ops hΓ 10 rfl ?_
    refine j_cutNZ [(0, I q5)] [] ?_ ?_
    · refine j_cond rfl (fun hb => ?_) (fun hb => ?_)
      · have h7 := cT hq5 hb
        refine go hΓ 6 rfl ?_
        obtain rfl := Option.some.inj h7
        exact ⟨⟨rfl, trivial⟩, [], rfl, .inl rfl⟩
      · have h8 := cF hq5 hb
        refine go hΓ 1 rfl ?_
        obtain rfl := Option.some.inj h8
        exact ⟨⟨rfl, trivial⟩, [], rfl, .inl rfl⟩
    · refine go hΓ 8 rfl ?_
      obtain rfl := Option.some.inj h6
      exact fin_pure hΓ (.inr rfl) rfl rfl

theorem c_lanemake_Stream_Next {s : T_lanemake_Stream} {n : Int} {r : Int × T_lanemake_Stream} (h : m_lanemake_Stream_Next s n = some r) : EC Tryz.prog 47 [.ptr 0 0, I n] [.box 25 [.d (Sl (eN .i64) s.L), I s.v_at]] fun g hp' => g = I r.1 ∧ hp' = [.box 25 [.d (Sl (eN .i64) r.2.L), I r.2.v_at]] := by
  refine ec_enter (Fr.of 0 _) Tryz.func47 rfl (Fr.of_ok _) (Nat.le_of_ble_eq_true rfl) fun _ => ?_
  refine go_in ?_
  unfold m_lanemake_Stream_Next at h
  refine go hΓ 14 rfl ?_
  refine eo_store hΓ rfl rfl rfl rfl rfl rfl rfl rfl (Nat.le_of_ble_eq_true rfl) ?_
  refine eo_hp [.box 25 [.d (Sl (eN .i64) s.L), I (wi (s.v_at + 1))]] rfl ?_
  refine go_ops hΓ 13 rfl ?_
  refine j_cond rfl (fun hb => ?_) (fun hb => ?_)
  · have h1 := cT h hb
    obtain ⟨y2, hy2, h3⟩ := bi_ok h1
    refine go hΓ 8 rfl ?_
    refine eo_callP (callable Tryz.func133 rfl rfl) (c_lanemake_Below hy2) rfl (Nat.le_of_ble_eq_true rfl) rfl rfl rfl rfl rfl ?_
    refine go_ops hΓ 5 rfl ?_
    obtain rfl := Option.some.inj h3
    exact fin_objs hΓ [] (.inr rfl) rfl rfl rfl rfl (.inl rfl)
  · have h4 := cF h hb
    refine go hΓ 3 rfl ?_
    refine j_draw hmix (by kernel_rfl) ?_
    obtain ⟨y5, hy5, h6⟩ := bi_ok h4
    refine go hΓ 10 rfl ?_
    refine gl_o rfl (op_remZ hy5 rfl rfl) ?_
    refine go_draw hΓ 4 rfl ?_
    refine j_draw hmix (by kernel_rfl) ?_
    obtain ⟨y7, hy7, h8⟩ := bi_ok h6
    refine go hΓ 10 rfl ?_
    refine gl_o rfl (op_quoZ hy7 rfl rfl) ?_
    obtain ⟨x9, hx9, h10⟩ := bi_ok h8
    refine go_draw hΓ 10 rfl ?_
    refine eo_o rfl (op_elemZ hΓ (enc := (eN .i64)) hx9 rfl rfl rfl rfl rfl (fun _ => rfl)) ?_
    obtain ⟨y11, hy11, h12⟩ := bi_ok h10
    refine go_ops hΓ 1 rfl ?_
    refine eo_callP (callable Tryz.func133 rfl rfl) (c_lanemake_Below hy11) rfl (Nat.le_of_ble_eq_true rfl) rfl rfl rfl rfl rfl ?_
    obtain ⟨y13, hy13, h14⟩ := bi_ok h12
    refine go_ops hΓ 6 rfl ?_
    refine eo_callP (callable Tryz.func133 rfl rfl) (c_lanemake_Below hy13) rfl (Nat.le_of_ble_eq_true rfl) rfl rfl rfl rfl rfl ?_
    refine go_ops hΓ 4 rfl ?_
    obtain rfl := Option.some.inj h14
    exact fin_objs hΓ [] (.inr rfl) rfl rfl rfl rfl (.inl rfl)

theorem c_lanemake_Stream_Flip {s : T_lanemake_Stream} {n : Int} {r : Bool × T_lanemake_Stream} (h : m_lanemake_Stream_Flip s n = some r) : EC Tryz.prog 13 [.ptr 0 0, I n] [.box 25 [.d (Sl (eN .i64) s.L), I s.v_at]] fun g hp' => g = B r.1 ∧ hp' = [.box 25 [.d (Sl (eN .i64) r.2.L), I r.2.v_at]] := by
  refine ec_enter (Fr.of 0 _) Tryz.func13 rfl (Fr.of_ok _) (Nat.le_of_ble_eq_true rfl) fun _ => ?_
  refine go_in ?_
  unfold m_lanemake_Stream_Flip at h
  obtain ⟨y1, hy1, h2⟩ := bi_ok h
  refine go hΓ 9 rfl ?_
  refine eo_callF [0] (I y1.1) [.box 25 [.d (Sl (eN .i64) y1.2.L), I y1.2.v_at]] (callable Tryz.func47 rfl rfl) (c_lanemake_Stream_Next hy1) rfl (Nat.le_of_ble_eq_true rfl) rfl rfl rfl rfl rfl rfl rfl rfl rfl rfl ?_
  refine go_ops hΓ 5 rfl ?_
  obtain rfl := Option.some.inj h2
  exact fin_objs hΓ [] (.inr rfl) rfl rfl rfl rfl (.inl rfl)

theorem c_slices_Clone_string_string {s : List Str} {r : List Str} (h : m_slices_Clone_string_string s = some r) : EC Tryz.prog 244 [.d (Sl eS s)] [] fun g hp' => g = .sl 0 r.length ∧ hp' = [.row 9 1 r.length (r.flatMap eS)] := by
  refine ec_enter (Fr.of 0 _) Tryz.func244 rfl (Fr.of_ok _) (Nat.le_of_ble_eq_true rfl) fun _ => ?_
  refine go_in ?_
  unfold m_slices_Clone_string_string at h
  refine go hΓ 2 rfl ?_
  refine eo_nilOwn (t := 0) 9 1 rfl (Nat.le_of_ble_eq_true rfl) ?_
  refine go_ops hΓ 6 rfl ?_
  refine eo_isNil hΓ rfl rfl rfl rfl rfl fun b hbn => ?_
  rcases b with _ | _
  · refine go_ops hΓ 7 rfl ?_
    refine eo_litRowT hΓ (enc := eS) ([] : List Str) rfl rfl rfl rfl rfl rfl rfl rfl rfl rfl rfl rfl (Nat.le_of_ble_eq_true rfl) ?_
    obtain ⟨y1, hy1, h2⟩ := bi_ok h
    refine go_ops hΓ 1 rfl ?_
    refine eo_appendT hΓ (enc := eS) hy1 rfl rfl rfl rfl rfl rfl rfl rfl rfl (fun _ => rfl) rfl rfl rfl rfl ?_
    refine go_ops hΓ 1 rfl ?_
    refine eo_shr 0 [] _ [.dead, .row 9 1 y1.length (y1.flatMap eS)] rfl rfl rfl (Nat.le_of_ble_eq_true rfl) ?_
    refine eo_move 1 0 [.row 9 1 y1.length (y1.flatMap eS), .dead] rfl rfl rfl rfl rfl rfl ?_
    refine go_ops hΓ 3 rfl ?_
    obtain rfl := Option.some.inj h2
    exact fin_objs hΓ [_] (.inr rfl) rfl rfl rfl rfl (.inr ⟨HB.mk rfl, rfl⟩)
  · obtain rfl := List.eq_nil_of_length_eq_zero (hbn rfl).1
    replace h : (some ([] : List Str) : Option (List Str)) = some r := h
    refine go_ops hΓ 5 rfl ?_
    refine eo_nilOwn (t := 0) 9 1 rfl (Nat.le_of_ble_eq_true rfl) ?_
    refine eo_shr 0 [] _ [.dead, .row 9 1 ([] : List Str).length (([] : List Str).flatMap eS)] rfl rfl rfl (Nat.le_of_ble_eq_true rfl) ?_
    refine eo_move 1 0 [.row 9 1 ([] : List Str).length (([] : List Str).flatMap eS), .dead] rfl rfl rfl rfl rfl rfl ?_
    refine go_ops hΓ 4 rfl ?_
    obtain rfl := Option.some.inj h
    exact fin_objs hΓ [_] (.inr rfl) rfl rfl rfl rfl (.inr ⟨HB.mk rfl, rfl⟩)

theorem c_lanemake_Stream_Some {s : T_lanemake_Stream} {l : List Str} {r : Str × T_lanemake_Stream} (h : m_lanemake_Stream_Some s l = some r) : EC Tryz.prog 26 [.ptr 0 0, .d (Sl eS l)] [.box 25 [.d (Sl (eN .i64) s.L), I s.v_at]] fun g hp' => g = S r.1 ∧ hp' = [.box 25 [.d (Sl (eN .i64) r.2.L), I r.2.v_at]] := by
  refine ec_enter (Fr.of 0 _) Tryz.func26 rfl (Fr.of_ok _) (Nat.le_of_ble_eq_true rfl) fun _ => ?_
  refine go_in ?_
  unfold m_lanemake_Stream_Some at h
  obtain ⟨y1, hy1, h2⟩ := bi_ok h
  refine go hΓ 11 rfl ?_
  refine eo_callF [0] (I y1.1) [.box 25 [.d (Sl (eN .i64) y1.2.L), I y1.2.v_at]] (callable Tryz.func47 rfl rfl) (c_lanemake_Stream_Next hy1) rfl (Nat.le_of_ble_eq_true rfl) rfl rfl rfl rfl rfl rfl rfl rfl rfl rfl ?_
  obtain ⟨x3, hx3, h4⟩ := bi_ok h2
  refine eo_o rfl (op_elemZ hΓ (enc := eS) hx3 rfl rfl rfl rfl rfl (fun _ => rfl)) ?_
  refine go_ops hΓ 5 rfl ?_
  obtain rfl := Option.some.inj h4
  exact fin_objs hΓ [] (.inr rfl) rfl rfl rfl rfl (.inl rfl)

theorem c_lanemake_Stream_Domain {s : T_lanemake_Stream} {r : Str × T_lanemake_Stream} (h : m_lanemake_Stream_Domain s = some r) : EC Tryz.prog 15 [.ptr 0 0] [.box 25 [.d (Sl (eN .i64) s.L), I s.v_at]] fun g hp' => g = S r.1 ∧ hp' = [.box 25 [.d (Sl (eN .i64) r.2.L), I r.2.v_at]] := by
  refine ec_enter (Fr.of 0 _) Tryz.func15 rfl (Fr.of_ok _) (Nat.le_of_ble_eq_true rfl) fun _ => ?_
  refine go_in ?_
  unfold m_lanemake_Stream_Domain at h
  obtain ⟨y1, hy1, h2⟩ := bi_ok h
  refine go hΓ 9 rfl ?_
  refine eo_callF [0] (B y1.1) [.box 25 [.d (Sl (eN .i64) y1.2.L), I y1.2.v_at]] (callable Tryz.func13 rfl rfl) (c_lanemake_Stream_Flip hy1) rfl (Nat.le_of_ble_eq_true rfl) rfl rfl rfl rfl rfl rfl rfl rfl rfl rfl ?_
  refine go_ops hΓ 2 rfl ?_
  refine j_cond rfl (fun hb => ?_) (fun hb => ?_)
  · have h3 := cT h2 hb
    obtain ⟨y4, hy4, h5⟩ := bi_ok h3
    refine go hΓ 3 rfl ?_
    refine eo_callP (callable Tryz.func83 rfl rfl) (c_strings_Repeat hy4) rfl (Nat.le_of_ble_eq_true rfl) rfl rfl rfl rfl rfl ?_
    obtain ⟨y6, hy6, h7⟩ := bi_ok h5
    refine eo_callP (callable Tryz.func83 rfl rfl) (c_strings_Repeat hy6) rfl (Nat.le_of_ble_eq_true rfl) rfl rfl rfl rfl rfl ?_
    obtain ⟨y8, hy8, h9⟩ := bi_ok h7
    refine eo_o rfl (op_catZ hy8 rfl rfl) ?_
    obtain ⟨y10, hy10, h11⟩ := bi_ok h9
    refine eo_callP (callable Tryz.func83 rfl rfl) (c_strings_Repeat hy10) rfl (Nat.le_of_ble_eq_true rfl) rfl rfl rfl rfl rfl ?_
    obtain ⟨y12, hy12, h13⟩ := bi_ok h11
    refine eo_o rfl (op_catZ hy12 rfl rfl) ?_
    refine eo_litT hΓ (enc := eS) [[], [46], [97, 46, 46, 98], [45, 97], [65, 46, 98], [97, 95, 98], [95, 120, 46, 121], y4, y8, y12, [97, 46]] rfl rfl rfl rfl rfl rfl rfl rfl rfl rfl rfl rfl (Nat.le_of_ble_eq_true rfl) ?_
    obtain ⟨y14, hy14, h15⟩ := bi_ok h13
    refine eo_callF [0] (S y14.1) [.box 25 [.d (Sl (eN .i64) y14.2.L), I y14.2.v_at]] (callable Tryz.func26 rfl rfl) (c_lanemake_Stream_Some hy14) rfl (Nat.le_of_ble_eq_true rfl) rfl rfl rfl rfl rfl rfl rfl rfl rfl rfl ?_
    refine go_ops hΓ 5 rfl ?_
    obtain rfl := Option.some.inj h15
    exact fin_objs hΓ [] (.inr rfl) rfl rfl rfl rfl (.inl rfl)
  · have h16 := cF h2 hb
    refine go hΓ 5 rfl ?_
    refine eo_litT hΓ (enc := eS) [[110, 101, 116, 46, 120], [97, 46, 110, 101, 116, 46, 120], [98, 46, 110, 101, 116, 46, 120], [99, 46, 110, 101, 116, 46, 120], [97, 46, 98, 46, 110, 101, 116, 46, 120], [108, 97, 98, 46, 110, 101, 116, 46, 120], [113, 46, 108, 97, 98, 46, 110, 101, 116, 46, 120], [120], [97, 110, 101, 116, 46, 120], [111, 116, 104, 101, 114], [97], [98]] rfl rfl rfl rfl rfl rfl rfl rfl rfl rfl rfl rfl (Nat.le_of_ble_eq_true rfl) ?_
    obtain ⟨y17, hy17, h18⟩ := bi_ok h16
    refine eo_callF [0] (S y17.1) [.box 25 [.d (Sl (eN .i64) y17.2.L), I y17.2.v_at]] (callable Tryz.func26 rfl rfl) (c_lanemake_Stream_Some hy17) rfl (Nat.le_of_ble_eq_true rfl) rfl rfl rfl rfl rfl rfl rfl rfl rfl rfl ?_
    refine go_ops hΓ 4 rfl ?_
    obtain rfl := Option.some.inj h18
    exact fin_objs hΓ [] (.inr rfl) rfl rfl rfl rfl (.inl rfl)

theorem c_lanemake_Stream_Search {s : T_lanemake_Stream} {r : (List Str) × T_lanemake_Stream} (h : m_lanemake_Stream_Search s = some r) : EC Tryz.prog 152 [.ptr 0 0] [.box 25 [.d (Sl (eN .i64) s.L), I s.v_at]] fun g hp' => g = .d (Sl eS r.1) ∧ hp' = [.box 25 [.d (Sl (eN .i64) r.2.L), I r.2.v_at]] := by
  refine ec_enter (Fr.of 0 _) Tryz.func152 rfl (Fr.of_ok _) (Nat.le_of_ble_eq_true rfl) fun _ => ?_
  refine go_in ?_
  unfold m_lanemake_Stream_Search at h
  refine go hΓ 7 rfl ?_
  refine eo_litT hΓ (enc := eS) [[110, 101, 116, 46, 120]] rfl rfl rfl rfl rfl rfl rfl rfl rfl rfl rfl rfl (Nat.le_of_ble_eq_true rfl) ?_
  refine eo_litT hΓ (enc := eS) [[108, 97, 98, 46, 110, 101, 116, 46, 120], [110, 101, 116, 46, 120]] rfl rfl rfl rfl rfl rfl rfl rfl rfl rfl rfl rfl (Nat.le_of_ble_eq_true rfl) ?_
  refine eo_litT hΓ (enc := eS) [[110, 101, 116, 46, 120], [110, 101, 116, 46, 120]] rfl rfl rfl rfl rfl rfl rfl rfl rfl rfl rfl rfl (Nat.le_of_ble_eq_true rfl) ?_
  refine eo_litT hΓ (enc := eS) [[110, 101, 116, 46, 120], [111, 116, 104, 101, 114]] rfl rfl rfl rfl rfl rfl rfl rfl rfl rfl rfl rfl (Nat.le_of_ble_eq_true rfl) ?_
  refine eo_litT hΓ (enc := (eL eS)) [[], [[110, 101, 116, 46, 120]], [[108, 97, 98, 46, 110, 101, 116, 46, 120], [110, 101, 116, 46, 120]], [[110, 101, 116, 46, 120], [110, 101, 116, 46, 120]], [[110, 101, 116, 46, 120], [111, 116, 104, 101, 114]]] rfl rfl rfl rfl rfl rfl rfl rfl rfl rfl rfl rfl (Nat.le_of_ble_eq_true rfl) ?_
  obtain ⟨y1, hy1, h2⟩ := bi_ok h
  refine go_ops hΓ 1 rfl ?_
  refine eo_callF [0] (I y1.1) [.box 25 [.d (Sl (eN .i64) y1.2.L), I y1.2.v_at]] (callable Tryz.func47 rfl rfl) (c_lanemake_Stream_Next hy1) rfl (Nat.le_of_ble_eq_true rfl) rfl rfl rfl rfl rfl rfl rfl rfl rfl rfl ?_
  obtain ⟨x3, hx3, h4⟩ := bi_ok h2
  refine eo_o rfl (op_elemZ hΓ (enc := (eL eS)) hx3 rfl rfl rfl rfl rfl (fun _ => rfl)) ?_
  obtain ⟨y5, hy5, h6⟩ := bi_ok h4
  refine go_ops hΓ 8 rfl ?_
  refine eo_callF [0] (B y5.1) [.box 25 [.d (Sl (eN .i64) y5.2.L), I y5.2.v_at]] (callable Tryz.func13 rfl rfl) (c_lanemake_Stream_Flip hy5) rfl (Nat.le_of_ble_eq_true rfl) rfl rfl rfl rfl rfl rfl rfl rfl rfl rfl ?_
  refine go_ops hΓ 2 rfl ?_
  refine j_cond rfl (fun hb => ?_) (fun hb => ?_)
  · have h7 := cT h6 hb
    obtain ⟨y8, hy8, h9⟩ := bi_ok h7
    refine go hΓ 3 rfl ?_
    refine eo_callF [] (.sl 1 y8.length) [.box 25 [.d (Sl (eN .i64) y5.2.L), I y5.2.v_at], .row 9 1 y8.length (y8.flatMap eS)] (callable Tryz.func244 rfl rfl) (c_slices_Clone_string_string hy8) rfl (Nat.le_of_ble_eq_true rfl) rfl rfl rfl rfl rfl rfl rfl rfl rfl rfl ?_
    obtain ⟨y10, hy10, h11⟩ := bi_ok h9
    refine go_ops hΓ 1 rfl ?_
    refine eo_callF [0] (S y10.1) [.box 25 [.d (Sl (eN .i64) y10.2.L), I y10.2.v_at], .row 9 1 y8.length (y8.flatMap eS)] (callable Tryz.func15 rfl rfl) (c_lanemake_Stream_Domain hy10) rfl (Nat.le_of_ble_eq_true rfl) rfl rfl rfl rfl rfl rfl rfl rfl rfl rfl ?_
    refine eo_litT hΓ (enc := eS) [y10.1] rfl rfl rfl rfl rfl rfl rfl rfl rfl rfl rfl rfl (Nat.le_of_ble_eq_true rfl) ?_
    obtain ⟨y12, hy12, h13⟩ := bi_ok h11
    refine eo_appendT hΓ (enc := eS) hy12 rfl rfl rfl rfl rfl rfl rfl rfl rfl (fun _ => rfl) rfl rfl rfl rfl ?_
    refine go_ops hΓ 1 rfl ?_
    refine eo_shr 1 [2] _ [.box 25 [.d (Sl (eN .i64) y10.2.L), I y10.2.v_at], .dead] rfl rfl rfl (Nat.le_of_ble_eq_true rfl) ?_
    refine go_ops hΓ 4 rfl ?_
    obtain rfl := Option.some.inj h13
    exact fin_objs hΓ [_] (.inr rfl) rfl rfl rfl rfl (.inr ⟨HB.mk rfl, rfl⟩)
  · have h14 := cF h6 hb
    refine go hΓ 9 rfl ?_
    obtain rfl := Option.some.inj h14
    exact fin_objs hΓ [] (.inr rfl) rfl rfl rfl rfl (.inl rfl)

theorem c_lanemake_Stream_Pick {s : T_lanemake_Stream} {l : List Int} {r : Int × T_lanemake_Stream} (h : m_lanemake_Stream_Pick s l = some r) : EC Tryz.prog 14 [.ptr 0 0, .d (Sl (eN .i64) l)] [.box 25 [.d (Sl (eN .i64) s.L), I s.v_at]] fun g hp' => g = I r.1 ∧ hp' = [.box 25 [.d (Sl (eN .i64) r.2.L), I r.2.v_at]] := by
  refine ec_enter (Fr.of 0 _) Tryz.func14 rfl (Fr.of_ok _) (Nat.le_of_ble_eq_true rfl) fun _ => ?_
  refine go_in ?_
  unfold m_lanemake_Stream_Pick at h
  obtain ⟨y1, hy1, h2⟩ := bi_ok h
  refine go hΓ 11 rfl ?_
  refine eo_callF [0] (I y1.1) [.box 25 [.d (Sl (eN .i64) y1.2.L), I y1.2.v_at]] (callable Tryz.func47 rfl rfl) (c_lanemake_Stream_Next hy1) rfl (Nat.le_of_ble_eq_true rfl) rfl rfl rfl rfl rfl rfl rfl rfl rfl rfl ?_
  obtain ⟨x3, hx3, h4⟩ := bi_ok h2
  refine eo_o rfl (op_elemZ hΓ (enc := (eN .i64)) hx3 rfl rfl rfl rfl rfl (fun _ => rfl)) ?_
  refine go_ops hΓ 5 rfl ?_
  obtain rfl := Option.some.inj h4
  exact fin_objs hΓ [] (.inr rfl) rfl rfl rfl rfl (.inl rfl)

theorem c_lanemake_Stream_Splits {s : T_lanemake_Stream} {r : (List T_api_Split) × T_lanemake_Stream} (h : m_lanemake_Stream_Splits s = some r) : EC Tryz.prog 153 [.ptr 0 0] [.box 25 [.d (Sl (eN .i64) s.L), I s.v_at]] fun g hp' => g = .sl 1 r.1.length ∧ hp' = [.box 25 [.d (Sl (eN .i64) r.2.L), I r.2.v_at], .row 273 2 r.1.length (r.1.flatMap e_api_Split)] := by
  refine ec_enter (Fr.of 0 _) Tryz.func153 rfl (Fr.of_ok _) (Nat.le_of_ble_eq_true rfl) fun _ => ?_
  refine go_in ?_
  unfold m_lanemake_Stream_Splits at h
  refine go hΓ 7 rfl ?_
  refine eo_nilOwn (t := 0) 273 2 rfl (Nat.le_of_ble_eq_true rfl) ?_
  refine go_ops hΓ 5 rfl ?_
  refine eo_litT hΓ (enc := eS) [[], [97, 46, 110, 101, 116, 46, 120], [110, 101, 116, 46, 120], [111, 116, 104, 101, 114]] rfl rfl rfl rfl rfl rfl rfl rfl rfl rfl rfl rfl (Nat.le_of_ble_eq_true rfl) ?_
  refine go_ops hΓ 4 rfl ?_
  obtain ⟨q4, hq4, h5⟩ := bi_ok h
  refine j_bound 6 rfl fun hb7 => ?_
  refine j_cutNZ [(0, .ptr 0 0), (3, .sl 1 q4.2.length)] [.box 25 [.d (Sl (eN .i64) q4.1.L), I q4.1.v_at], .row 273 2 q4.2.length (q4.2.flatMap e_api_Split)] ?_ ?_
  · refine go hΓ 1 rfl ?_
    refine j_rangeF [[], [97, 46, 110, 101, 116, 46, 120], [110, 101, 116, 46, 120], [111, 116, 104, 101, 114]] hq4 (fun i1 s2 => [(0, .ptr 0 0), (3, .sl 1 s2.2.length), (6, .d (Sl eS [[], [97, 46, 110, 101, 116, 46, 120], [110, 101, 116, 46, 120], [111, 116, 104, 101, 114]])), (7, I ([[], [97, 46, 110, 101, 116, 46, 120], [110, 101, 116, 46, 120], [111, 116, 104, 101, 114]].length : Int)), (8, I (i1 : Int))]) (fun s2 => [.box 25 [.d (Sl (eN .i64) s2.1.L), I s2.1.v_at], .row 273 2 s2.2.length (s2.2.flatMap e_api_Split)]) ⟨⟨rfl, rfl, rfl, rfl, rfl, trivial⟩, [], rfl, .inl rfl⟩ (fun i1 x3 s2 y11 hx8 hlt hy9 => ?_) (?_)
    · refine go hΓ 6 rfl ?_
      refine j_condT rfl (decide_eq_true (Int.ofNat_lt.2 hlt)) ?_
      refine go hΓ 6 rfl ?_
      refine eo_o rfl (op_elemZ hΓ (enc := eS) (getZ_nat hx8) rfl rfl rfl rfl rfl (fun _ => rfl)) ?_
      obtain ⟨y12, hy12, h13⟩ := bi_ok hy9
      refine go_ops hΓ 7 rfl ?_
      refine eo_callF [0] (B y12.1) [.box 25 [.d (Sl (eN .i64) y12.2.L), I y12.2.v_at], .row 273 2 s2.2.length (s2.2.flatMap e_api_Split)] (callable Tryz.func13 rfl rfl) (c_lanemake_Stream_Flip hy12) rfl (Nat.le_of_ble_eq_true rfl) rfl rfl rfl rfl rfl rfl rfl rfl rfl rfl ?_
      refine go_ops hΓ 3 rfl ?_
      refine j_cond rfl (fun hb => ?_) (fun hb => ?_)
      · have h14 := cT h13 hb
        refine go hΓ 3 rfl ?_
        refine eo_litT hΓ (enc := eS) [[105, 110]] rfl rfl rfl rfl rfl rfl rfl rfl rfl rfl rfl rfl (Nat.le_of_ble_eq_true rfl) ?_
        refine eo_litT hΓ (enc := eS) [[110, 111, 110, 101], [105, 110]] rfl rfl rfl rfl rfl rfl rfl rfl rfl rfl rfl rfl (Nat.le_of_ble_eq_true rfl) ?_
        refine eo_litT hΓ (enc := eS) [[111, 117, 116], [105, 110]] rfl rfl rfl rfl rfl rfl rfl rfl rfl rfl rfl rfl (Nat.le_of_ble_eq_true rfl) ?_
        refine eo_litT hΓ (enc := eS) [[111, 117, 116]] rfl rfl rfl rfl rfl rfl rfl rfl rfl rfl rfl rfl (Nat.le_of_ble_eq_true rfl) ?_
        refine eo_litT hΓ (enc := (eL eS)) [[[105, 110]], [[110, 111, 110, 101], [105, 110]], [[111, 117, 116], [105, 110]], [[111, 117, 116]]] rfl rfl rfl rfl rfl rfl rfl rfl rfl rfl rfl rfl (Nat.le_of_ble_eq_true rfl) ?_
        obtain ⟨y15, hy15, h16⟩ := bi_ok h14
        refine go_ops hΓ 1 rfl ?_
        refine eo_callF [0] (I y15.1) [.box 25 [.d (Sl (eN .i64) y15.2.L), I y15.2.v_at], .row 273 2 s2.2.length (s2.2.flatMap e_api_Split)] (callable Tryz.func47 rfl rfl) (c_lanemake_Stream_Next hy15) rfl (Nat.le_of_ble_eq_true rfl) rfl rfl rfl rfl rfl rfl rfl rfl rfl rfl ?_
        obtain ⟨x17, hx17, h18⟩ := bi_ok h16
        refine eo_o rfl (op_elemZ hΓ (enc := (eL eS)) hx17 rfl rfl rfl rfl rfl (fun _ => rfl)) ?_
        refine go_ops hΓ 1 rfl ?_
        refine eo_build hΓ (gs := [S x3, .d (Sl eS x17)]) rfl rfl rfl rfl rfl rfl rfl ?_
        refine eo_litT hΓ (enc := e_api_Split) [(⟨x3, x17⟩ : T_api_Split)] rfl rfl rfl rfl rfl rfl rfl rfl rfl rfl rfl rfl (Nat.le_of_ble_eq_true rfl) ?_
        obtain ⟨y19, hy19, h20⟩ := bi_ok h18
        refine eo_appendT hΓ (enc := e_api_Split) hy19 rfl rfl rfl rfl rfl rfl rfl rfl rfl (fun _ => rfl) rfl rfl rfl rfl ?_
        refine go_ops hΓ 8 rfl ?_
        obtain rfl := Option.some.inj h20
        exact ⟨⟨rfl, rfl, rfl, rfl, get_eq rfl (w64_succ (Nat.lt_of_lt_of_le hlt hb7)), trivial⟩, [], rfl, .inl rfl⟩
      · have h21 := cF h13 hb
        refine go hΓ 7 rfl ?_
        obtain rfl := Option.some.inj h21
        exact ⟨⟨rfl, rfl, rfl, rfl, get_eq rfl (w64_succ (Nat.lt_of_lt_of_le hlt hb7)), trivial⟩, [], rfl, .inl rfl⟩
    · refine go hΓ 6 rfl ?_
      refine j_condF rfl (decide_eq_false (Int.lt_irrefl _)) ?_
      refine go hΓ 4 rfl ?_
      exact ⟨⟨rfl, rfl, trivial⟩, [], rfl, .inl rfl⟩
  · obtain ⟨y22, hy22, h23⟩ := bi_ok h5
    refine go hΓ 5 rfl ?_
    refine eo_callF [0] (B y22.1) [.box 25 [.d (Sl (eN .i64) y22.2.L), I y22.2.v_at], .row 273 2 q4.2.length (q4.2.flatMap e_api_Split)] (callable Tryz.func13 rfl rfl) (c_lanemake_Stream_Flip hy22) rfl (Nat.le_of_ble_eq_true rfl) rfl rfl rfl rfl rfl rfl rfl rfl rfl rfl ?_
    obtain ⟨q24, hq24, h25⟩ := bi_ok h23
    refine go_ops hΓ 2 rfl ?_
    refine j_cutNZ [(3, .sl 1 q24.2.length)] [.box 25 [.d (Sl (eN .i64) q24.1.L), I q24.1.v_at], .row 273 2 q24.2.length (q24.2.flatMap e_api_Split)] ?_ ?_
    · refine j_cond rfl (fun hb => ?_) (fun hb => ?_)
      · have h26 := cT hq24 hb
        obtain ⟨y27, hy27, h28⟩ := bi_ok h26
        refine go hΓ 3 rfl ?_
        refine eo_callF [0] (S y27.1) [.box 25 [.d (Sl (eN .i64) y27.2.L), I y27.2.v_at], .row 273 2 q4.2.length (q4.2.flatMap e_api_Split)] (callable Tryz.func15 rfl rfl) (c_lanemake_Stream_Domain hy27) rfl (Nat.le_of_ble_eq_true rfl) rfl rfl rfl rfl rfl rfl rfl rfl rfl rfl ?_
        refine eo_litT hΓ (enc := eS) [[]] rfl rfl rfl rfl rfl rfl rfl rfl rfl rfl rfl rfl (Nat.le_of_ble_eq_true rfl) ?_
        refine eo_litT hΓ (enc := eS) [[97], [97]] rfl rfl rfl rfl rfl rfl rfl rfl rfl rfl rfl rfl (Nat.le_of_ble_eq_true rfl) ?_
        refine eo_litT hΓ (enc := eS) [[97]] rfl rfl rfl rfl rfl rfl rfl rfl rfl rfl rfl rfl (Nat.le_of_ble_eq_true rfl) ?_
        refine eo_litT hΓ (enc := (eL eS)) [[], [[]], [[97], [97]], [[97]]] rfl rfl rfl rfl rfl rfl rfl rfl rfl rfl rfl rfl (Nat.le_of_ble_eq_true rfl) ?_
        obtain ⟨y29, hy29, h30⟩ := bi_ok h28
        refine go_ops hΓ 1 rfl ?_
        refine eo_callF [0] (I y29.1) [.box 25 [.d (Sl (eN .i64) y29.2.L), I y29.2.v_at], .row 273 2 q4.2.length (q4.2.flatMap e_api_Split)] (callable Tryz.func47 rfl rfl) (c_lanemake_Stream_Next hy29) rfl (Nat.le_of_ble_eq_true rfl) rfl rfl rfl rfl rfl rfl rfl rfl rfl rfl ?_
        obtain ⟨x31, hx31, h32⟩ := bi_ok h30
        refine eo_o rfl (op_elemZ hΓ (enc := (eL eS)) hx31 rfl rfl rfl rfl rfl (fun _ => rfl)) ?_
        refine go_ops hΓ 1 rfl ?_
        refine eo_build hΓ (gs := [S y27.1, .d (Sl eS x31)]) rfl rfl rfl rfl rfl rfl rfl ?_
        refine eo_litT hΓ (enc := e_api_Split) [(⟨y27.1, x31⟩ : T_api_Split)] rfl rfl rfl rfl rfl rfl rfl rfl rfl rfl rfl rfl (Nat.le_of_ble_eq_true rfl) ?_
        obtain ⟨y33, hy33, h34⟩ := bi_ok h32
        refine eo_appendT hΓ (enc := e_api_Split) hy33 rfl rfl rfl rfl rfl rfl rfl rfl rfl (fun _ => rfl) rfl rfl rfl rfl ?_
        refine go_ops hΓ 2 rfl ?_
        obtain rfl := Option.some.inj h34
        exact ⟨⟨rfl, trivial⟩, [], rfl, .inl rfl⟩
      · have h35 := cF hq24 hb
        refine go hΓ 1 rfl ?_
        obtain rfl := Option.some.inj h35
        exact ⟨⟨rfl, trivial⟩, [], rfl, .inl rfl⟩
    · refine go hΓ 8 rfl ?_
      obtain rfl := Option.some.inj h25
      exact fin_objs hΓ [] (.inr rfl) rfl rfl rfl rfl (.inl rfl)

theorem c_lanemake_Stream_Range {s : T_lanemake_Stream} {low : Int} {high : Int} {r : Int × T_lanemake_Stream} (h : m_lanemake_Stream_Range s low high = some r) : EC Tryz.prog 49 [.ptr 0 0, I low, I high] [.box 25 [.d (Sl (eN .i64) s.L), I s.v_at]] fun g hp' => g = I r.1 ∧ hp' = [.box 25 [.d (Sl (eN .i64) r.2.L), I r.2.v_at]] := by
  refine ec_enter (Fr.of 0 _) Tryz.func49 rfl (Fr.of_ok _) (Nat.le_of_ble_eq_true rfl) fun _ => ?_
  refine go_in ?_
  unfold m_lanemake_Stream_Range at h
  refine go hΓ 13 rfl ?_
  refine j_cond rfl (fun hb => ?_) (fun hb => ?_)
  · have h1 := cT h hb
    refine go hΓ 8 rfl ?_
    obtain rfl := Option.some.inj h1
    exact fin_objs hΓ [] (.inr rfl) rfl rfl rfl rfl (.inl rfl)
  · have h2 := cF h hb
    obtain ⟨y3, hy3, h4⟩ := bi_ok h2
    refine go hΓ 10 rfl ?_
    refine eo_callF [0] (I y3.1) [.box 25 [.d (Sl (eN .i64) y3.2.L), I y3.2.v_at]] (callable Tryz.func47 rfl rfl) (c_lanemake_Stream_Next hy3) rfl (Nat.le_of_ble_eq_true rfl) rfl rfl rfl rfl rfl rfl rfl rfl rfl rfl ?_
    refine go_ops hΓ 5 rfl ?_
    obtain rfl := Option.some.inj h4
    exact fin_objs hΓ [] (.inr rfl) rfl rfl rfl rfl (.inl rfl)

theorem c_lanemake_at {n : Int} {r : T_api_Addr} (h : m_lanemake_at n = some r) : Pure Tryz.prog 155 [I n] (.agg [B r.Six, .d (.v (.int .u64 r.Hi)), .d (.v (.int .u64 r.Lo))]) := by
  refine Pure.enter (Fr.of 0 _) Tryz.func155 rfl (Fr.of_ok _) rfl rfl ?_
  refine go_in ?_
  unfold m_lanemake_at at h
  refine go hΓ 2 rfl ?_
  refine eo_alloc hΓ rfl rfl rfl (Nat.le_of_ble_eq_true rfl) ?_
  refine go_ops hΓ 7 rfl ?_
  refine eo_build hΓ (gs := [B false, .d (.v (.int .u64 0)), .d (.v (.int .u64 (IntKind.u64.wrap (1681915904 + (IntKind.u64.wrap (n))))))]) rfl rfl rfl rfl rfl rfl rfl ?_
  refine eo_store hΓ rfl rfl rfl rfl rfl rfl rfl rfl (Nat.le_of_ble_eq_true rfl) ?_
  refine eo_hp [.box 36 [B false, .d (.v (.int .u64 0)), .d (.v (.int .u64 (IntKind.u64.wrap (1681915904 + (IntKind.u64.wrap (n))))))]] rfl ?_
  refine go_ops hΓ 3 rfl ?_
  obtain rfl := Option.some.inj h
  exact fin_pure hΓ (.inr rfl) rfl rfl

theorem c_lanemake_sixAt {n : Int} {r : T_api_Addr} (h : m_lanemake_sixAt n = some r) : Pure Tryz.prog 204 [I n] (.agg [B r.Six, .d (.v (.int .u64 r.Hi)), .d (.v (.int .u64 r.Lo))]) := by
  refine Pure.enter (Fr.of 0 _) Tryz.func204 rfl (Fr.of_ok _) rfl rfl ?_
  refine go_in ?_
  unfold m_lanemake_sixAt at h
  refine go hΓ 2 rfl ?_
  refine eo_alloc hΓ rfl rfl rfl (Nat.le_of_ble_eq_true rfl) ?_
  refine go_ops hΓ 6 rfl ?_
  refine eo_build hΓ (gs := [B true, .d (.v (.int .u64 18230571291595767808)), .d (.v (.int .u64 (IntKind.u64.wrap (n))))]) rfl rfl rfl rfl rfl rfl rfl ?_
  refine eo_store hΓ rfl rfl rfl rfl rfl rfl rfl rfl (Nat.le_of_ble_eq_true rfl) ?_
  refine eo_hp [.box 36 [B true, .d (.v (.int .u64 18230571291595767808)), .d (.v (.int .u64 (IntKind.u64.wrap (n))))]] rfl ?_
  refine go_ops hΓ 3 rfl ?_
  obtain rfl := Option.some.inj h
  exact fin_pure hΓ (.inr rfl) rfl rfl

theorem c_lanemake_Stream_Addr {s : T_lanemake_Stream} {r : T_api_Addr × T_lanemake_Stream} (h : m_lanemake_Stream_Addr s = some r) : EC Tryz.prog 41 [.ptr 0 0] [.box 25 [.d (Sl (eN .i64) s.L), I s.v_at]] fun g hp' => g = .agg [B r.1.Six, .d (.v (.int .u64 r.1.Hi)), .d (.v (.int .u64 r.1.Lo))] ∧ hp' = [.box 25 [.d (Sl (eN .i64) r.2.L), I r.2.v_at]] := by
  refine ec_enter (Fr.of 0 _) Tryz.func41 rfl (Fr.of_ok _) (Nat.le_of_ble_eq_true rfl) fun _ => ?_
  refine go_in ?_
  unfold m_lanemake_Stream_Addr at h
  refine go hΓ 2 rfl ?_
  refine eo_alloc hΓ rfl rfl rfl (Nat.le_of_ble_eq_true rfl) ?_
  obtain ⟨y1, hy1, h2⟩ := bi_ok h
  refine go_ops hΓ 6 rfl ?_
  refine eo_callF [0] (I y1.1) [.box 25 [.d (Sl (eN .i64) y1.2.L), I y1.2.v_at], .box 36 [B false, .d (.v (.int .u64 0)), .d (.v (.int .u64 0))]] (callable Tryz.func47 rfl rfl) (c_lanemake_Stream_Next hy1) rfl (Nat.le_of_ble_eq_true rfl) rfl rfl rfl rfl rfl rfl rfl rfl rfl rfl ?_
  refine go_ops hΓ 9 rfl ?_
  refine j_cond rfl (fun hb => ?_) (fun hb => ?_)
  · have h3 := cT h2 hb
    refine go hΓ 1 rfl ?_
    refine j_drawE [] [] [2, 7, 11] [] hmix (by kernel_rfl) (by kernel_rfl) trivial (Nat.le_of_ble_eq_true rfl) ?_
    refine ge_litT hΓ (enc := (eN .u64)) [0, 18230571291595767808, 2306139568115548160, 9223372036854775808, 18446744073709551615] rfl rfl rfl rfl rfl rfl rfl rfl rfl rfl rfl rfl ?_
    obtain ⟨y4, hy4, h5⟩ := bi_ok h3
    refine go_E hΓ 1 rfl ?_
    refine ge_h [.box 25 [.d (Sl (eN .i64) y4.2.L), I y4.2.v_at], .box 36 [B false, .d (.v (.int .u64 0)), .d (.v (.int .u64 0))]] rfl rfl rfl (st_st trivial) (qte_callF [0] (I y4.1) [.box 25 [.d (Sl (eN .i64) y4.2.L), I y4.2.v_at], .box 36 [B false, .d (.v (.int .u64 0)), .d (.v (.int .u64 0))]] (callable Tryz.func47 rfl rfl) (c_lanemake_Stream_Next hy4) rfl rfl rfl rfl rfl rfl rfl rfl rfl rfl) ?_
    obtain ⟨x6, hx6, h7⟩ := bi_ok h5
    refine ge_q rfl (.inl rfl) (fun _ _ => qte_of_qt (qt_p (op_elemZ hΓ (enc := (eN .u64)) hx6 rfl rfl rfl rfl rfl (fun _ => rfl)))) ?_
    refine go_E hΓ 1 rfl ?_
    refine ge_litT hΓ (enc := (eN .u64)) [0, 1, 2, 4294967296, 18446744073709551615] rfl rfl rfl rfl rfl rfl rfl rfl rfl rfl rfl rfl ?_
    obtain ⟨y8, hy8, h9⟩ := bi_ok h7
    refine go_E hΓ 1 rfl ?_
    refine ge_h [.box 25 [.d (Sl (eN .i64) y8.2.L), I y8.2.v_at], .box 36 [B false, .d (.v (.int .u64 0)), .d (.v (.int .u64 0))]] rfl rfl rfl (st_st trivial) (qte_callF [0] (I y8.1) [.box 25 [.d (Sl (eN .i64) y8.2.L), I y8.2.v_at], .box 36 [B false, .d (.v (.int .u64 0)), .d (.v (.int .u64 0))]] (callable Tryz.func47 rfl rfl) (c_lanemake_Stream_Next hy8) rfl rfl rfl rfl rfl rfl rfl rfl rfl rfl) ?_
    obtain ⟨x10, hx10, h11⟩ := bi_ok h9
    refine ge_q rfl (.inl rfl) (fun _ _ => qte_of_qt (qt_p (op_elemZ hΓ (enc := (eN .u64)) hx10 rfl rfl rfl rfl rfl (fun _ => rfl)))) ?_
    refine go_E hΓ 1 rfl ?_
    refine ge_q rfl (.inl rfl) (fun _ _ => qte_of_qt (qt_p (op_build hΓ (gs := [B true, .d (.v (.int .u64 x6)), .d (.v (.int .u64 x10))]) rfl rfl rfl rfl rfl rfl))) ?_
    refine ge_h0 [.box 25 [.d (Sl (eN .i64) y8.2.L), I y8.2.v_at], .box 36 [B true, .d (.v (.int .u64 x6)), .d (.v (.int .u64 x10))]] rfl rfl (st_st trivial) (qte_u (opu_store2 hΓ rfl rfl rfl rfl rfl rfl rfl rfl rfl)) ?_
    refine ge_fin ?_
    refine go hΓ 4 rfl ?_
    obtain rfl := Option.some.inj h11
    exact fin_objs hΓ [_] (.inr rfl) rfl rfl rfl rfl (.inr ⟨HB.mk rfl, rfl⟩)
  · have h12 := cF h2 hb
    refine go hΓ 6 rfl ?_
    refine j_cond rfl (fun hb => ?_) (fun hb => ?_)
    · have h13 := cT h12 hb
      refine go hΓ 2 rfl ?_
      refine eo_litT hΓ (enc := (eN .u64)) [0, 1, 4294967295, 2130706433, 3232235521] rfl rfl rfl rfl rfl rfl rfl rfl rfl rfl rfl rfl (Nat.le_of_ble_eq_true rfl) ?_
      obtain ⟨y14, hy14, h15⟩ := bi_ok h13
      refine go_ops hΓ 1 rfl ?_
      refine eo_callF [0] (I y14.1) [.box 25 [.d (Sl (eN .i64) y14.2.L), I y14.2.v_at], .box 36 [B false, .d (.v (.int .u64 0)), .d (.v (.int .u64 0))]] (callable Tryz.func47 rfl rfl) (c_lanemake_Stream_Next hy14) rfl (Nat.le_of_ble_eq_true rfl) rfl rfl rfl rfl rfl rfl rfl rfl rfl rfl ?_
      obtain ⟨x16, hx16, h17⟩ := bi_ok h15
      refine eo_o rfl (op_elemZ hΓ (enc := (eN .u64)) hx16 rfl rfl rfl rfl rfl (fun _ => rfl)) ?_
      refine go_ops hΓ 1 rfl ?_
      refine eo_build hΓ (gs := [B false, .d (.v (.int .u64 0)), .d (.v (.int .u64 x16))]) rfl rfl rfl rfl rfl rfl rfl ?_
      refine eo_store hΓ rfl rfl rfl rfl rfl rfl rfl rfl (Nat.le_of_ble_eq_true rfl) ?_
      refine eo_hp [.box 25 [.d (Sl (eN .i64) y14.2.L), I y14.2.v_at], .box 36 [B false, .d (.v (.int .u64 0)), .d (.v (.int .u64 x16))]] rfl ?_
      refine go_ops hΓ 5 rfl ?_
      obtain rfl := Option.some.inj h17
      exact fin_objs hΓ [_] (.inr rfl) rfl rfl rfl rfl (.inr ⟨HB.mk rfl, rfl⟩)
    · have h18 := cF h12 hb
      refine go hΓ 6 rfl ?_
      refine j_cond rfl (fun hb => ?_) (fun hb => ?_)
      · have h19 := cT h18 hb
        obtain ⟨y20, hy20, h21⟩ := bi_ok h19
        refine go hΓ 3 rfl ?_
        refine eo_callF [0] (I y20.1) [.box 25 [.d (Sl (eN .i64) y20.2.L), I y20.2.v_at], .box 36 [B false, .d (.v (.int .u64 0)), .d (.v (.int .u64 0))]] (callable Tryz.func49 rfl rfl) (c_lanemake_Stream_Range hy20) rfl (Nat.le_of_ble_eq_true rfl) rfl rfl rfl rfl rfl rfl rfl rfl rfl rfl ?_
        obtain ⟨y22, hy22, h23⟩ := bi_ok h21
        refine go_ops hΓ 2 rfl ?_
        refine eo_o rfl (op_remZ hy22 rfl rfl) ?_
        refine eo_build hΓ (gs := [B false, .d (.v (.int .u64 0)), .d (.v (.int .u64 y22))]) rfl rfl rfl rfl rfl rfl rfl ?_
        refine eo_store hΓ rfl rfl rfl rfl rfl rfl rfl rfl (Nat.le_of_ble_eq_true rfl) ?_
        refine eo_hp [.box 25 [.d (Sl (eN .i64) y20.2.L), I y20.2.v_at], .box 36 [B false, .d (.v (.int .u64 0)), .d (.v (.int .u64 y22))]] rfl ?_
        refine go_ops hΓ 5 rfl ?_
        obtain rfl := Option.some.inj h23
        exact fin_objs hΓ [_] (.inr rfl) rfl rfl rfl rfl (.inr ⟨HB.mk rfl, rfl⟩)
      · have h24 := cF h18 hb
        obtain ⟨y25, hy25, h26⟩ := bi_ok h24
        refine go hΓ 6 rfl ?_
        refine eo_callF [0] (I y25.1) [.box 25 [.d (Sl (eN .i64) y25.2.L), I y25.2.v_at], .box 36 [B false, .d (.v (.int .u64 0)), .d (.v (.int .u64 0))]] (callable Tryz.func49 rfl rfl) (c_lanemake_Stream_Range hy25) rfl (Nat.le_of_ble_eq_true rfl) rfl rfl rfl rfl rfl rfl rfl rfl rfl rfl ?_
        refine go_ops hΓ 2 rfl ?_
        refine eo_build hΓ (gs := [B false, .d (.v (.int .u64 0)), .d (.v (.int .u64 (IntKind.u64.wrap (167772160 + (IntKind.u64.wrap (y25.1))))))]) rfl rfl rfl rfl rfl rfl rfl ?_
        refine eo_store hΓ rfl rfl rfl rfl rfl rfl rfl rfl (Nat.le_of_ble_eq_true rfl) ?_
        refine eo_hp [.box 25 [.d (Sl (eN .i64) y25.2.L), I y25.2.v_at], .box 36 [B false, .d (.v (.int .u64 0)), .d (.v (.int .u64 (IntKind.u64.wrap (167772160 + (IntKind.u64.wrap (y25.1))))))]] rfl ?_
        refine go_ops hΓ 3 rfl ?_
        obtain rfl := Option.some.inj h26
        exact fin_objs hΓ [_] (.inr rfl) rfl rfl rfl rfl (.inr ⟨HB.mk rfl, rfl⟩)

theorem c_lanemake_Stream_Raw {s : T_lanemake_Stream} {r : T_api_Addr × T_lanemake_Stream} (h : m_lanemake_Stream_Raw s = some r) : EC Tryz.prog 37 [.ptr 0 0] [.box 25 [.d (Sl (eN .i64) s.L), I s.v_at]] fun g hp' => g = .agg [B r.1.Six, .d (.v (.int .u64 r.1.Hi)), .d (.v (.int .u64 r.1.Lo))] ∧ hp' = [.box 25 [.d (Sl (eN .i64) r.2.L), I r.2.v_at]] := by
  refine ec_enter (Fr.of 0 _) Tryz.func37 rfl (Fr.of_ok _) (Nat.le_of_ble_eq_true rfl) fun _ => ?_
  refine go_in ?_
  unfold m_lanemake_Stream_Raw at h
  refine go hΓ 2 rfl ?_
  refine eo_alloc hΓ rfl rfl rfl (Nat.le_of_ble_eq_true rfl) ?_
  obtain ⟨y1, hy1, h2⟩ := bi_ok h
  refine go_ops hΓ 5 rfl ?_
  refine eo_callF [0] (.agg [B y1.1.Six, .d (.v (.int .u64 y1.1.Hi)), .d (.v (.int .u64 y1.1.Lo))]) [.box 25 [.d (Sl (eN .i64) y1.2.L), I y1.2.v_at], .box 36 [B false, .d (.v (.int .u64 0)), .d (.v (.int .u64 0))]] (callable Tryz.func41 rfl rfl) (c_lanemake_Stream_Addr hy1) rfl (Nat.le_of_ble_eq_true rfl) rfl rfl rfl rfl rfl rfl rfl rfl rfl rfl ?_
  refine eo_alloc hΓ rfl rfl rfl (Nat.le_of_ble_eq_true rfl) ?_
  refine eo_store hΓ rfl rfl rfl rfl rfl rfl rfl rfl (Nat.le_of_ble_eq_true rfl) ?_
  refine eo_hp [.box 25 [.d (Sl (eN .i64) y1.2.L), I y1.2.v_at], .box 36 [B false, .d (.v (.int .u64 0)), .d (.v (.int .u64 0))], .box 36 [B y1.1.Six, .d (.v (.int .u64 y1.1.Hi)), .d (.v (.int .u64 y1.1.Lo))]] rfl ?_
  obtain ⟨y3, hy3, h4⟩ := bi_ok h2
  refine go_ops hΓ 6 rfl ?_
  refine eo_callF [0] (B y3.1) [.box 25 [.d (Sl (eN .i64) y3.2.L), I y3.2.v_at], .box 36 [B false, .d (.v (.int .u64 0)), .d (.v (.int .u64 0))], .box 36 [B y1.1.Six, .d (.v (.int .u64 y1.1.Hi)), .d (.v (.int .u64 y1.1.Lo))]] (callable Tryz.func13 rfl rfl) (c_lanemake_Stream_Flip hy3) rfl (Nat.le_of_ble_eq_true rfl) rfl rfl rfl rfl rfl rfl rfl rfl rfl rfl ?_
  refine go_ops hΓ 2 rfl ?_
  refine j_cond rfl (fun hb => ?_) (fun hb => ?_)
  · have h5 := cT h4 hb
    obtain ⟨y6, hy6, h7⟩ := bi_ok h5
    refine go hΓ 3 rfl ?_
    refine eo_callF [0] (I y6.1) [.box 25 [.d (Sl (eN .i64) y6.2.L), I y6.2.v_at], .box 36 [B false, .d (.v (.int .u64 0)), .d (.v (.int .u64 0))], .box 36 [B y1.1.Six, .d (.v (.int .u64 y1.1.Hi)), .d (.v (.int .u64 y1.1.Lo))]] (callable Tryz.func47 rfl rfl) (c_lanemake_Stream_Next hy6) rfl (Nat.le_of_ble_eq_true rfl) rfl rfl rfl rfl rfl rfl rfl rfl rfl rfl ?_
    refine go_ops hΓ 1 rfl ?_
    refine eo_litT hΓ (enc := (eN .u64)) [4294967296, 5, 1099511627776] rfl rfl rfl rfl rfl rfl rfl rfl rfl rfl rfl rfl (Nat.le_of_ble_eq_true rfl) ?_
    obtain ⟨y8, hy8, h9⟩ := bi_ok h7
    refine go_ops hΓ 1 rfl ?_
    refine eo_callF [0] (I y8.1) [.box 25 [.d (Sl (eN .i64) y8.2.L), I y8.2.v_at], .box 36 [B false, .d (.v (.int .u64 0)), .d (.v (.int .u64 0))], .box 36 [B y1.1.Six, .d (.v (.int .u64 y1.1.Hi)), .d (.v (.int .u64 y1.1.Lo))]] (callable Tryz.func47 rfl rfl) (c_lanemake_Stream_Next hy8) rfl (Nat.le_of_ble_eq_true rfl) rfl rfl rfl rfl rfl rfl rfl rfl rfl rfl ?_
    obtain ⟨x10, hx10, h11⟩ := bi_ok h9
    refine eo_o rfl (op_elemZ hΓ (enc := (eN .u64)) hx10 rfl rfl rfl rfl rfl (fun _ => rfl)) ?_
    refine go_ops hΓ 1 rfl ?_
    refine eo_build hΓ (gs := [B false, .d (.v (.int .u64 (IntKind.u64.wrap (y6.1)))), .d (.v (.int .u64 x10))]) rfl rfl rfl rfl rfl rfl rfl ?_
    refine eo_store hΓ rfl rfl rfl rfl rfl rfl rfl rfl (Nat.le_of_ble_eq_true rfl) ?_
    refine eo_hp [.box 25 [.d (Sl (eN .i64) y8.2.L), I y8.2.v_at], .box 36 [B false, .d (.v (.int .u64 (IntKind.u64.wrap (y6.1)))), .d (.v (.int .u64 x10))], .box 36 [B y1.1.Six, .d (.v (.int .u64 y1.1.Hi)), .d (.v (.int .u64 y1.1.Lo))]] rfl ?_
    refine go_ops hΓ 4 rfl ?_
    obtain rfl := Option.some.inj h11
    exact fin_objs hΓ [_, _] (.inr rfl) rfl rfl rfl rfl (.inr ⟨HB.mk rfl, rfl⟩)
  · have h12 := cF h4 hb
    refine go hΓ 5 rfl ?_
    refine eo_store hΓ rfl rfl rfl rfl rfl rfl rfl rfl (Nat.le_of_ble_eq_true rfl) ?_
    refine eo_hp [.box 25 [.d (Sl (eN .i64) y3.2.L), I y3.2.v_at], .box 36 [B y1.1.Six, .d (.v (.int .u64 y1.1.Hi)), .d (.v (.int .u64 y1.1.Lo))], .box 36 [B y1.1.Six, .d (.v (.int .u64 y1.1.Hi)), .d (.v (.int .u64 y1.1.Lo))]] rfl ?_
    refine go_ops hΓ 3 rfl ?_
    obtain rfl := Option.some.inj h12
    exact fin_objs hΓ [_, _] (.inr rfl) rfl rfl rfl rfl (.inr ⟨HB.mk rfl, rfl⟩)

theorem c_lanemake_Stream_Odd {s : T_lanemake_Stream} {low : Int} {high : Int} {r : Int × T_lanemake_Stream} (h : m_lanemake_Stream_Odd s low high = some r) : EC Tryz.prog 81 [.ptr 0 0, I low, I high] [.box 25 [.d (Sl (eN .i64) s.L), I s.v_at]] fun g hp' => g = I r.1 ∧ hp' = [.box 25 [.d (Sl (eN .i64) r.2.L), I r.2.v_at]] := by
  refine ec_enter (Fr.of 0 _) Tryz.func81 rfl (Fr.of_ok _) (Nat.le_of_ble_eq_true rfl) fun _ => ?_
  refine go_in ?_
  unfold m_lanemake_Stream_Odd at h
  obtain ⟨y1, hy1, h2⟩ := bi_ok h
  refine go hΓ 9 rfl ?_
  refine eo_callF [0] (B y1.1) [.box 25 [.d (Sl (eN .i64) y1.2.L), I y1.2.v_at]] (callable Tryz.func13 rfl rfl) (c_lanemake_Stream_Flip hy1) rfl (Nat.le_of_ble_eq_true rfl) rfl rfl rfl rfl rfl rfl rfl rfl rfl rfl ?_
  refine go_ops hΓ 2 rfl ?_
  refine j_cond rfl (fun hb => ?_) (fun hb => ?_)
  · have h3 := cT h2 hb
    refine go hΓ 9 rfl ?_
    refine eo_litT hΓ (enc := (eN .i64)) [wi (low - 1), wi (high + 1), low, high, -1099511627776, 1099511627776] rfl rfl rfl rfl rfl rfl rfl rfl rfl rfl rfl rfl (Nat.le_of_ble_eq_true rfl) ?_
    obtain ⟨y4, hy4, h5⟩ := bi_ok h3
    refine eo_callF [0] (I y4.1) [.box 25 [.d (Sl (eN .i64) y4.2.L), I y4.2.v_at]] (callable Tryz.func14 rfl rfl) (c_lanemake_Stream_Pick hy4) rfl (Nat.le_of_ble_eq_true rfl) rfl rfl rfl rfl rfl rfl rfl rfl rfl rfl ?_
    refine go_ops hΓ 5 rfl ?_
    obtain rfl := Option.some.inj h5
    exact fin_objs hΓ [] (.inr rfl) rfl rfl rfl rfl (.inl rfl)
  · have h6 := cF h2 hb
    obtain ⟨y7, hy7, h8⟩ := bi_ok h6
    refine go hΓ 7 rfl ?_
    refine eo_callF [0] (I y7.1) [.box 25 [.d (Sl (eN .i64) y7.2.L), I y7.2.v_at]] (callable Tryz.func49 rfl rfl) (c_lanemake_Stream_Range hy7) rfl (Nat.le_of_ble_eq_true rfl) rfl rfl rfl rfl rfl rfl rfl rfl rfl rfl ?_
    refine go_ops hΓ 4 rfl ?_
    obtain rfl := Option.some.inj h8
    exact fin_objs hΓ [] (.inr rfl) rfl rfl rfl rfl (.inl rfl)

theorem c_lanemake_Stream_record {s : T_lanemake_Stream} {name : Str} {r : T_api_Record × T_lanemake_Stream} (h : m_lanemake_Stream_record s name = some r) : EC Tryz.prog 82 [.ptr 0 0, S name] [.box 25 [.d (Sl (eN .i64) s.L), I s.v_at]] fun g hp' => g = .agg [S r.1.Name, I r.1.Kind, B r.1.Addr.Six, .d (.v (.int .u64 r.1.Addr.Hi)), .d (.v (.int .u64 r.1.Addr.Lo)), S r.1.To, S r.1.Words, I r.1.Life] ∧ hp' = [.box 25 [.d (Sl (eN .i64) r.2.L), I r.2.v_at]] := by
  refine ec_enter (Fr.of 0 _) Tryz.func82 rfl (Fr.of_ok _) (Nat.le_of_ble_eq_true rfl) fun _ => ?_
  refine go_in ?_
  unfold m_lanemake_Stream_record at h
  refine go hΓ 2 rfl ?_
  refine eo_alloc hΓ rfl rfl rfl (Nat.le_of_ble_eq_true rfl) ?_
  refine go_ops hΓ 6 rfl ?_
  refine eo_litT hΓ (enc := (eN .i64)) [0, 5, 60, 1000000] rfl rfl rfl rfl rfl rfl rfl rfl rfl rfl rfl rfl (Nat.le_of_ble_eq_true rfl) ?_
  obtain ⟨y1, hy1, h2⟩ := bi_ok h
  refine eo_callF [0] (I y1.1) [.box 25 [.d (Sl (eN .i64) y1.2.L), I y1.2.v_at], .box 38 [S [], I 0, B false, .d (.v (.int .u64 0)), .d (.v (.int .u64 0)), S [], S [], I 0]] (callable Tryz.func14 rfl rfl) (c_lanemake_Stream_Pick hy1) rfl (Nat.le_of_ble_eq_true rfl) rfl rfl rfl rfl rfl rfl rfl rfl rfl rfl ?_
  refine eo_build hΓ (gs := [S name, I 0, B false, .d (.v (.int .u64 0)), .d (.v (.int .u64 0)), S [], S [], I y1.1]) rfl rfl rfl rfl rfl rfl rfl ?_
  refine eo_alloc hΓ rfl rfl rfl (Nat.le_of_ble_eq_true rfl) ?_
  refine eo_store hΓ rfl rfl rfl rfl rfl rfl rfl rfl (Nat.le_of_ble_eq_true rfl) ?_
  refine eo_hp [.box 25 [.d (Sl (eN .i64) y1.2.L), I y1.2.v_at], .box 38 [S [], I 0, B false, .d (.v (.int .u64 0)), .d (.v (.int .u64 0)), S [], S [], I 0], .box 38 [S name, I 0, B false, .d (.v (.int .u64 0)), .d (.v (.int .u64 0)), S [], S [], I y1.1]] rfl ?_
  obtain ⟨y3, hy3, h4⟩ := bi_ok h2
  refine go_ops hΓ 6 rfl ?_
  refine eo_callF [0] (I y3.1) [.box 25 [.d (Sl (eN .i64) y3.2.L), I y3.2.v_at], .box 38 [S [], I 0, B false, .d (.v (.int .u64 0)), .d (.v (.int .u64 0)), S [], S [], I 0], .box 38 [S name, I 0, B false, .d (.v (.int .u64 0)), .d (.v (.int .u64 0)), S [], S [], I y1.1]] (callable Tryz.func47 rfl rfl) (c_lanemake_Stream_Next hy3) rfl (Nat.le_of_ble_eq_true rfl) rfl rfl rfl rfl rfl rfl rfl rfl rfl rfl ?_
  obtain ⟨q5, hq5, h6⟩ := bi_ok h4
  refine go_ops hΓ 2 rfl ?_
  refine j_cutNZ [(0, .ptr 0 0), (4, .ptr 1 0), (5, .ptr 2 0)] [.box 25 [.d (Sl (eN .i64) q5.1.L), I q5.1.v_at], .box 38 [S [], I 0, B false, .d (.v (.int .u64 0)), .d (.v (.int .u64 0)), S [], S [], I 0], .box 38 [S q5.2.Name, I q5.2.Kind, B q5.2.Addr.Six, .d (.v (.int .u64 q5.2.Addr.Hi)), .d (.v (.int .u64 q5.2.Addr.Lo)), S q5.2.To, S q5.2.Words, I q5.2.Life]] ?_ ?_
  · obtain ⟨q7, hq7, h8⟩ := bi_ok hq5
    refine go hΓ 8 rfl ?_
    refine j_cutNZ [(0, .ptr 0 0), (4, .ptr 1 0), (5, .ptr 2 0), (12, I y3.1), (18, B q7)] [.box 25 [.d (Sl (eN .i64) y3.2.L), I y3.2.v_at], .box 38 [S [], I 0, B false, .d (.v (.int .u64 0)), .d (.v (.int .u64 0)), S [], S [], I 0], .box 38 [S name, I 0, B false, .d (.v (.int .u64 0)), .d (.v (.int .u64 0)), S [], S [], I y1.1]] ?_ ?_
    · refine j_cond rfl (fun hb => ?_) (fun hb => ?_)
      · have h9 := cT hq7 hb
        refine go hΓ 1 rfl ?_
        obtain rfl := Option.some.inj h9
        exact ⟨⟨rfl, rfl, rfl, rfl, rfl, trivial⟩, [], rfl, .inl rfl⟩
      · have h10 := cF hq7 hb
        refine go hΓ 4 rfl ?_
        obtain rfl := Option.some.inj h10
        exact ⟨⟨rfl, rfl, rfl, rfl, rfl, trivial⟩, [], rfl, .inl rfl⟩
    · refine go hΓ 1 rfl ?_
      refine j_cond rfl (fun hb => ?_) (fun hb => ?_)
      · have h11 := cT h8 hb
        obtain ⟨y12, hy12, h13⟩ := bi_ok h11
        refine go hΓ 2 rfl ?_
        refine eo_callF [0] (I y12.1) [.box 25 [.d (Sl (eN .i64) y12.2.L), I y12.2.v_at], .box 38 [S [], I 0, B false, .d (.v (.int .u64 0)), .d (.v (.int .u64 0)), S [], S [], I 0], .box 38 [S name, I 0, B false, .d (.v (.int .u64 0)), .d (.v (.int .u64 0)), S [], S [], I y1.1]] (callable Tryz.func49 rfl rfl) (c_lanemake_Stream_Range hy12) rfl (Nat.le_of_ble_eq_true rfl) rfl rfl rfl rfl rfl rfl rfl rfl rfl rfl ?_
        obtain ⟨y14, hy14, h15⟩ := bi_ok h13
        refine eo_callP (callable Tryz.func155 rfl rfl) (c_lanemake_at hy14) rfl (Nat.le_of_ble_eq_true rfl) rfl rfl rfl rfl rfl ?_
        refine go_ops hΓ 1 rfl ?_
        refine eo_store hΓ rfl rfl rfl rfl rfl rfl rfl rfl (Nat.le_of_ble_eq_true rfl) ?_
        refine eo_hp [.box 25 [.d (Sl (eN .i64) y12.2.L), I y12.2.v_at], .box 38 [S [], I 0, B false, .d (.v (.int .u64 0)), .d (.v (.int .u64 0)), S [], S [], I 0], .box 38 [S name, I 1, B false, .d (.v (.int .u64 0)), .d (.v (.int .u64 0)), S [], S [], I y1.1]] rfl ?_
        refine go_ops hΓ 1 rfl ?_
        refine eo_store hΓ rfl rfl rfl rfl rfl rfl rfl rfl (Nat.le_of_ble_eq_true rfl) ?_
        refine eo_hp [.box 25 [.d (Sl (eN .i64) y12.2.L), I y12.2.v_at], .box 38 [S [], I 0, B false, .d (.v (.int .u64 0)), .d (.v (.int .u64 0)), S [], S [], I 0], .box 38 [S name, I 1, B y14.Six, .d (.v (.int .u64 y14.Hi)), .d (.v (.int .u64 y14.Lo)), S [], S [], I y1.1]] rfl ?_
        refine go_ops hΓ 2 rfl ?_
        obtain rfl := Option.some.inj h15
        exact ⟨⟨rfl, rfl, rfl, trivial⟩, [], rfl, .inl rfl⟩
      · have h16 := cF h8 hb
        refine go hΓ 6 rfl ?_
        refine j_cond rfl (fun hb => ?_) (fun hb => ?_)
        · have h17 := cT h16 hb
          obtain ⟨y18, hy18, h19⟩ := bi_ok h17
          refine go hΓ 2 rfl ?_
          refine eo_callF [0] (I y18.1) [.box 25 [.d (Sl (eN .i64) y18.2.L), I y18.2.v_at], .box 38 [S [], I 0, B false, .d (.v (.int .u64 0)), .d (.v (.int .u64 0)), S [], S [], I 0], .box 38 [S name, I 0, B false, .d (.v (.int .u64 0)), .d (.v (.int .u64 0)), S [], S [], I y1.1]] (callable Tryz.func49 rfl rfl) (c_lanemake_Stream_Range hy18) rfl (Nat.le_of_ble_eq_true rfl) rfl rfl rfl rfl rfl rfl rfl rfl rfl rfl ?_
          obtain ⟨y20, hy20, h21⟩ := bi_ok h19
          refine eo_callP (callable Tryz.func204 rfl rfl) (c_lanemake_sixAt hy20) rfl (Nat.le_of_ble_eq_true rfl) rfl rfl rfl rfl rfl ?_
          refine go_ops hΓ 1 rfl ?_
          refine eo_store hΓ rfl rfl rfl rfl rfl rfl rfl rfl (Nat.le_of_ble_eq_true rfl) ?_
          refine eo_hp [.box 25 [.d (Sl (eN .i64) y18.2.L), I y18.2.v_at], .box 38 [S [], I 0, B false, .d (.v (.int .u64 0)), .d (.v (.int .u64 0)), S [], S [], I 0], .box 38 [S name, I 28, B false, .d (.v (.int .u64 0)), .d (.v (.int .u64 0)), S [], S [], I y1.1]] rfl ?_
          refine go_ops hΓ 1 rfl ?_
          refine eo_store hΓ rfl rfl rfl rfl rfl rfl rfl rfl (Nat.le_of_ble_eq_true rfl) ?_
          refine eo_hp [.box 25 [.d (Sl (eN .i64) y18.2.L), I y18.2.v_at], .box 38 [S [], I 0, B false, .d (.v (.int .u64 0)), .d (.v (.int .u64 0)), S [], S [], I 0], .box 38 [S name, I 28, B y20.Six, .d (.v (.int .u64 y20.Hi)), .d (.v (.int .u64 y20.Lo)), S [], S [], I y1.1]] rfl ?_
          refine go_ops hΓ 2 rfl ?_
          obtain rfl := Option.some.inj h21
          exact ⟨⟨rfl, rfl, rfl, trivial⟩, [], rfl, .inl rfl⟩
        · have h22 := cF h16 hb
          refine go hΓ 6 rfl ?_
          refine j_cond rfl (fun hb => ?_) (fun hb => ?_)
          · have h23 := cT h22 hb
            refine go hΓ 2 rfl ?_
            refine eo_litT hΓ (enc := eS) [[], [104, 105], [97, 32, 98], [118, 61, 49]] rfl rfl rfl rfl rfl rfl rfl rfl rfl rfl rfl rfl (Nat.le_of_ble_eq_true rfl) ?_
            obtain ⟨y24, hy24, h25⟩ := bi_ok h23
            refine eo_callF [0] (S y24.1) [.box 25 [.d (Sl (eN .i64) y24.2.L), I y24.2.v_at], .box 38 [S [], I 0, B false, .d (.v (.int .u64 0)), .d (.v (.int .u64 0)), S [], S [], I 0], .box 38 [S name, I 0, B false, .d (.v (.int .u64 0)), .d (.v (.int .u64 0)), S [], S [], I y1.1]] (callable Tryz.func26 rfl rfl) (c_lanemake_Stream_Some hy24) rfl (Nat.le_of_ble_eq_true rfl) rfl rfl rfl rfl rfl rfl rfl rfl rfl rfl ?_
            refine go_ops hΓ 1 rfl ?_
            refine eo_store hΓ rfl rfl rfl rfl rfl rfl rfl rfl (Nat.le_of_ble_eq_true rfl) ?_
            refine eo_hp [.box 25 [.d (Sl (eN .i64) y24.2.L), I y24.2.v_at], .box 38 [S [], I 0, B false, .d (.v (.int .u64 0)), .d (.v (.int .u64 0)), S [], S [], I 0], .box 38 [S name, I 16, B false, .d (.v (.int .u64 0)), .d (.v (.int .u64 0)), S [], S [], I y1.1]] rfl ?_
            refine go_ops hΓ 1 rfl ?_
            refine eo_store hΓ rfl rfl rfl rfl rfl rfl rfl rfl (Nat.le_of_ble_eq_true rfl) ?_
            refine eo_hp [.box 25 [.d (Sl (eN .i64) y24.2.L), I y24.2.v_at], .box 38 [S [], I 0, B false, .d (.v (.int .u64 0)), .d (.v (.int .u64 0)), S [], S [], I 0], .box 38 [S name, I 16, B false, .d (.v (.int .u64 0)), .d (.v (.int .u64 0)), S [], S y24.1, I y1.1]] rfl ?_
            refine go_ops hΓ 2 rfl ?_
            obtain rfl := Option.some.inj h25
            exact ⟨⟨rfl, rfl, rfl, trivial⟩, [], rfl, .inl rfl⟩
          · have h26 := cF h22 hb
            refine go hΓ 6 rfl ?_
            refine j_cond rfl (fun hb => ?_) (fun hb => ?_)
            · have h27 := cT h26 hb
              refine go hΓ 2 rfl ?_
              refine eo_litT hΓ (enc := eS) [[97, 46, 110, 101, 116, 46, 120], [98, 46, 110, 101, 116, 46, 120]] rfl rfl rfl rfl rfl rfl rfl rfl rfl rfl rfl rfl (Nat.le_of_ble_eq_true rfl) ?_
              obtain ⟨y28, hy28, h29⟩ := bi_ok h27
              refine eo_callF [0] (S y28.1) [.box 25 [.d (Sl (eN .i64) y28.2.L), I y28.2.v_at], .box 38 [S [], I 0, B false, .d (.v (.int .u64 0)), .d (.v (.int .u64 0)), S [], S [], I 0], .box 38 [S name, I 0, B false, .d (.v (.int .u64 0)), .d (.v (.int .u64 0)), S [], S [], I y1.1]] (callable Tryz.func26 rfl rfl) (c_lanemake_Stream_Some hy28) rfl (Nat.le_of_ble_eq_true rfl) rfl rfl rfl rfl rfl rfl rfl rfl rfl rfl ?_
              refine go_ops hΓ 1 rfl ?_
              refine eo_store hΓ rfl rfl rfl rfl rfl rfl rfl rfl (Nat.le_of_ble_eq_true rfl) ?_
              refine eo_hp [.box 25 [.d (Sl (eN .i64) y28.2.L), I y28.2.v_at], .box 38 [S [], I 0, B false, .d (.v (.int .u64 0)), .d (.v (.int .u64 0)), S [], S [], I 0], .box 38 [S name, I 12, B false, .d (.v (.int .u64 0)), .d (.v (.int .u64 0)), S [], S [], I y1.1]] rfl ?_
              refine go_ops hΓ 1 rfl ?_
              refine eo_store hΓ rfl rfl rfl rfl rfl rfl rfl rfl (Nat.le_of_ble_eq_true rfl) ?_
              refine eo_hp [.box 25 [.d (Sl (eN .i64) y28.2.L), I y28.2.v_at], .box 38 [S [], I 0, B false, .d (.v (.int .u64 0)), .d (.v (.int .u64 0)), S [], S [], I 0], .box 38 [S name, I 12, B false, .d (.v (.int .u64 0)), .d (.v (.int .u64 0)), S y28.1, S [], I y1.1]] rfl ?_
              refine go_ops hΓ 2 rfl ?_
              obtain rfl := Option.some.inj h29
              exact ⟨⟨rfl, rfl, rfl, trivial⟩, [], rfl, .inl rfl⟩
            · have h30 := cF h26 hb
              refine go hΓ 2 rfl ?_
              refine eo_litT hΓ (enc := eS) [[97, 46, 110, 101, 116, 46, 120], [98, 46, 110, 101, 116, 46, 120], [99, 46, 110, 101, 116, 46, 120], [113, 46, 108, 97, 98, 46, 110, 101, 116, 46, 120], [100, 46, 110, 101, 116, 46, 120], [111, 116, 104, 101, 114]] rfl rfl rfl rfl rfl rfl rfl rfl rfl rfl rfl rfl (Nat.le_of_ble_eq_true rfl) ?_
              obtain ⟨y31, hy31, h32⟩ := bi_ok h30
              refine eo_callF [0] (S y31.1) [.box 25 [.d (Sl (eN .i64) y31.2.L), I y31.2.v_at], .box 38 [S [], I 0, B false, .d (.v (.int .u64 0)), .d (.v (.int .u64 0)), S [], S [], I 0], .box 38 [S name, I 0, B false, .d (.v (.int .u64 0)), .d (.v (.int .u64 0)), S [], S [], I y1.1]] (callable Tryz.func26 rfl rfl) (c_lanemake_Stream_Some hy31) rfl (Nat.le_of_ble_eq_true rfl) rfl rfl rfl rfl rfl rfl rfl rfl rfl rfl ?_
              refine go_ops hΓ 1 rfl ?_
              refine eo_store hΓ rfl rfl rfl rfl rfl rfl rfl rfl (Nat.le_of_ble_eq_true rfl) ?_
              refine eo_hp [.box 25 [.d (Sl (eN .i64) y31.2.L), I y31.2.v_at], .box 38 [S [], I 0, B false, .d (.v (.int .u64 0)), .d (.v (.int .u64 0)), S [], S [], I 0], .box 38 [S name, I 5, B false, .d (.v (.int .u64 0)), .d (.v (.int .u64 0)), S [], S [], I y1.1]] rfl ?_
              refine go_ops hΓ 1 rfl ?_
              refine eo_store hΓ rfl rfl rfl rfl rfl rfl rfl rfl (Nat.le_of_ble_eq_true rfl) ?_
              refine eo_hp [.box 25 [.d (Sl (eN .i64) y31.2.L), I y31.2.v_at], .box 38 [S [], I 0, B false, .d (.v (.int .u64 0)), .d (.v (.int .u64 0)), S [], S [], I 0], .box 38 [S name, I 5, B false, .d (.v (.int .u64 0)), .d (.v (.int .u64 0)), S y31.1, S [], I y1.1]] rfl ?_
              refine go_ops hΓ 2 rfl ?_
              obtain rfl := Option.some.inj h32
              exact ⟨⟨rfl, rfl, rfl, trivial⟩, [], rfl, .inl rfl⟩
  · obtain ⟨y33, hy33, h34⟩ := bi_ok h6
    refine go hΓ 5 rfl ?_
    refine eo_callF [0] (B y33.1) [.box 25 [.d (Sl (eN .i64) y33.2.L), I y33.2.v_at], .box 38 [S [], I 0, B false, .d (.v (.int .u64 0)), .d (.v (.int .u64 0)), S [], S [], I 0], .box 38 [S q5.2.Name, I q5.2.Kind, B q5.2.Addr.Six, .d (.v (.int .u64 q5.2.Addr.Hi)), .d (.v (.int .u64 q5.2.Addr.Lo)), S q5.2.To, S q5.2.Words, I q5.2.Life]] (callable Tryz.func13 rfl rfl) (c_lanemake_Stream_Flip hy33) rfl (Nat.le_of_ble_eq_true rfl) rfl rfl rfl rfl rfl rfl rfl rfl rfl rfl ?_
    obtain ⟨q35, hq35, h36⟩ := bi_ok h34
    refine go_ops hΓ 2 rfl ?_
    refine j_cutNZ [(4, .ptr 1 0), (5, .ptr 2 0)] [.box 25 [.d (Sl (eN .i64) q35.1.L), I q35.1.v_at], .box 38 [S [], I 0, B false, .d (.v (.int .u64 0)), .d (.v (.int .u64 0)), S [], S [], I 0], .box 38 [S q35.2.Name, I q35.2.Kind, B q35.2.Addr.Six, .d (.v (.int .u64 q35.2.Addr.Hi)), .d (.v (.int .u64 q35.2.Addr.Lo)), S q35.2.To, S q35.2.Words, I q35.2.Life]] ?_ ?_
    · refine j_cond rfl (fun hb => ?_) (fun hb => ?_)
      · have h37 := cT hq35 hb
        obtain ⟨y38, hy38, h39⟩ := bi_ok h37
        refine go hΓ 3 rfl ?_
        refine eo_callF [0] (I y38.1) [.box 25 [.d (Sl (eN .i64) y38.2.L), I y38.2.v_at], .box 38 [S [], I 0, B false, .d (.v (.int .u64 0)), .d (.v (.int .u64 0)), S [], S [], I 0], .box 38 [S q5.2.Name, I q5.2.Kind, B q5.2.Addr.Six, .d (.v (.int .u64 q5.2.Addr.Hi)), .d (.v (.int .u64 q5.2.Addr.Lo)), S q5.2.To, S q5.2.Words, I q5.2.Life]] (callable Tryz.func47 rfl rfl) (c_lanemake_Stream_Next hy38) rfl (Nat.le_of_ble_eq_true rfl) rfl rfl rfl rfl rfl rfl rfl rfl rfl rfl ?_
        refine go_ops hΓ 9 rfl ?_
        refine j_cond rfl (fun hb => ?_) (fun hb => ?_)
        · have h40 := cT h39 hb
          refine go hΓ 2 rfl ?_
          refine eo_litT hΓ (enc := (eN .i64)) [0, 2, 5] rfl rfl rfl rfl rfl rfl rfl rfl rfl rfl rfl rfl (Nat.le_of_ble_eq_true rfl) ?_
          obtain ⟨y41, hy41, h42⟩ := bi_ok h40
          refine eo_callF [0] (I y41.1) [.box 25 [.d (Sl (eN .i64) y41.2.L), I y41.2.v_at], .box 38 [S [], I 0, B false, .d (.v (.int .u64 0)), .d (.v (.int .u64 0)), S [], S [], I 0], .box 38 [S q5.2.Name, I q5.2.Kind, B q5.2.Addr.Six, .d (.v (.int .u64 q5.2.Addr.Hi)), .d (.v (.int .u64 q5.2.Addr.Lo)), S q5.2.To, S q5.2.Words, I q5.2.Life]] (callable Tryz.func14 rfl rfl) (c_lanemake_Stream_Pick hy41) rfl (Nat.le_of_ble_eq_true rfl) rfl rfl rfl rfl rfl rfl rfl rfl rfl rfl ?_
          refine go_ops hΓ 1 rfl ?_
          refine eo_store hΓ rfl rfl rfl rfl rfl rfl rfl rfl (Nat.le_of_ble_eq_true rfl) ?_
          refine eo_hp [.box 25 [.d (Sl (eN .i64) y41.2.L), I y41.2.v_at], .box 38 [S [], I 0, B false, .d (.v (.int .u64 0)), .d (.v (.int .u64 0)), S [], S [], I 0], .box 38 [S q5.2.Name, I y41.1, B q5.2.Addr.Six, .d (.v (.int .u64 q5.2.Addr.Hi)), .d (.v (.int .u64 q5.2.Addr.Lo)), S q5.2.To, S q5.2.Words, I q5.2.Life]] rfl ?_
          refine go_ops hΓ 2 rfl ?_
          obtain rfl := Option.some.inj h42
          exact ⟨⟨rfl, rfl, trivial⟩, [], rfl, .inl rfl⟩
        · have h43 := cF h39 hb
          refine go hΓ 6 rfl ?_
          refine j_cond rfl (fun hb => ?_) (fun hb => ?_)
          · have h44 := cT h43 hb
            obtain ⟨y45, hy45, h46⟩ := bi_ok h44
            refine go hΓ 2 rfl ?_
            refine eo_callF [0] (.agg [B y45.1.Six, .d (.v (.int .u64 y45.1.Hi)), .d (.v (.int .u64 y45.1.Lo))]) [.box 25 [.d (Sl (eN .i64) y45.2.L), I y45.2.v_at], .box 38 [S [], I 0, B false, .d (.v (.int .u64 0)), .d (.v (.int .u64 0)), S [], S [], I 0], .box 38 [S q5.2.Name, I q5.2.Kind, B q5.2.Addr.Six, .d (.v (.int .u64 q5.2.Addr.Hi)), .d (.v (.int .u64 q5.2.Addr.Lo)), S q5.2.To, S q5.2.Words, I q5.2.Life]] (callable Tryz.func37 rfl rfl) (c_lanemake_Stream_Raw hy45) rfl (Nat.le_of_ble_eq_true rfl) rfl rfl rfl rfl rfl rfl rfl rfl rfl rfl ?_
            refine go_ops hΓ 1 rfl ?_
            refine eo_store hΓ rfl rfl rfl rfl rfl rfl rfl rfl (Nat.le_of_ble_eq_true rfl) ?_
            refine eo_hp [.box 25 [.d (Sl (eN .i64) y45.2.L), I y45.2.v_at], .box 38 [S [], I 0, B false, .d (.v (.int .u64 0)), .d (.v (.int .u64 0)), S [], S [], I 0], .box 38 [S q5.2.Name, I q5.2.Kind, B y45.1.Six, .d (.v (.int .u64 y45.1.Hi)), .d (.v (.int .u64 y45.1.Lo)), S q5.2.To, S q5.2.Words, I q5.2.Life]] rfl ?_
            refine go_ops hΓ 2 rfl ?_
            obtain rfl := Option.some.inj h46
            exact ⟨⟨rfl, rfl, trivial⟩, [], rfl, .inl rfl⟩
          · have h47 := cF h43 hb
            refine go hΓ 6 rfl ?_
            refine j_cond rfl (fun hb => ?_) (fun hb => ?_)
            · have h48 := cT h47 hb
              refine go hΓ 2 rfl ?_
              refine eo_litT hΓ (enc := eS) [[], [65], [120]] rfl rfl rfl rfl rfl rfl rfl rfl rfl rfl rfl rfl (Nat.le_of_ble_eq_true rfl) ?_
              obtain ⟨y49, hy49, h50⟩ := bi_ok h48
              refine eo_callF [0] (S y49.1) [.box 25 [.d (Sl (eN .i64) y49.2.L), I y49.2.v_at], .box 38 [S [], I 0, B false, .d (.v (.int .u64 0)), .d (.v (.int .u64 0)), S [], S [], I 0], .box 38 [S q5.2.Name, I q5.2.Kind, B q5.2.Addr.Six, .d (.v (.int .u64 q5.2.Addr.Hi)), .d (.v (.int .u64 q5.2.Addr.Lo)), S q5.2.To, S q5.2.Words, I q5.2.Life]] (callable Tryz.func26 rfl rfl) (c_lanemake_Stream_Some hy49) rfl (Nat.le_of_ble_eq_true rfl) rfl rfl rfl rfl rfl rfl rfl rfl rfl rfl ?_
              refine go_ops hΓ 1 rfl ?_
              refine eo_store hΓ rfl rfl rfl rfl rfl rfl rfl rfl (Nat.le_of_ble_eq_true rfl) ?_
              refine eo_hp [.box 25 [.d (Sl (eN .i64) y49.2.L), I y49.2.v_at], .box 38 [S [], I 0, B false, .d (.v (.int .u64 0)), .d (.v (.int .u64 0)), S [], S [], I 0], .box 38 [S q5.2.Name, I q5.2.Kind, B q5.2.Addr.Six, .d (.v (.int .u64 q5.2.Addr.Hi)), .d (.v (.int .u64 q5.2.Addr.Lo)), S y49.1, S q5.2.Words, I q5.2.Life]] rfl ?_
              refine go_ops hΓ 2 rfl ?_
              obtain rfl := Option.some.inj h50
              exact ⟨⟨rfl, rfl, trivial⟩, [], rfl, .inl rfl⟩
            · have h51 := cF h47 hb
              refine go hΓ 2 rfl ?_
              refine eo_litT hΓ (enc := eS) [[32, 120], [97, 10, 98], [], [121]] rfl rfl rfl rfl rfl rfl rfl rfl rfl rfl rfl rfl (Nat.le_of_ble_eq_true rfl) ?_
              obtain ⟨y52, hy52, h53⟩ := bi_ok h51
              refine eo_callF [0] (S y52.1) [.box 25 [.d (Sl (eN .i64) y52.2.L), I y52.2.v_at], .box 38 [S [], I 0, B false, .d (.v (.int .u64 0)), .d (.v (.int .u64 0)), S [], S [], I 0], .box 38 [S q5.2.Name, I q5.2.Kind, B q5.2.Addr.Six, .d (.v (.int .u64 q5.2.Addr.Hi)), .d (.v (.int .u64 q5.2.Addr.Lo)), S q5.2.To, S q5.2.Words, I q5.2.Life]] (callable Tryz.func26 rfl rfl) (c_lanemake_Stream_Some hy52) rfl (Nat.le_of_ble_eq_true rfl) rfl rfl rfl rfl rfl rfl rfl rfl rfl rfl ?_
              obtain ⟨y54, hy54, h55⟩ := bi_ok h53
              refine go_ops hΓ 1 rfl ?_
              refine eo_callF [0] (I y54.1) [.box 25 [.d (Sl (eN .i64) y54.2.L), I y54.2.v_at], .box 38 [S [], I 0, B false, .d (.v (.int .u64 0)), .d (.v (.int .u64 0)), S [], S [], I 0], .box 38 [S q5.2.Name, I q5.2.Kind, B q5.2.Addr.Six, .d (.v (.int .u64 q5.2.Addr.Hi)), .d (.v (.int .u64 q5.2.Addr.Lo)), S q5.2.To, S q5.2.Words, I q5.2.Life]] (callable Tryz.func81 rfl rfl) (c_lanemake_Stream_Odd hy54) rfl (Nat.le_of_ble_eq_true rfl) rfl rfl rfl rfl rfl rfl rfl rfl rfl rfl ?_
              refine go_ops hΓ 1 rfl ?_
              refine eo_store hΓ rfl rfl rfl rfl rfl rfl rfl rfl (Nat.le_of_ble_eq_true rfl) ?_
              refine eo_hp [.box 25 [.d (Sl (eN .i64) y54.2.L), I y54.2.v_at], .box 38 [S [], I 0, B false, .d (.v (.int .u64 0)), .d (.v (.int .u64 0)), S [], S [], I 0], .box 38 [S q5.2.Name, I q5.2.Kind, B q5.2.Addr.Six, .d (.v (.int .u64 q5.2.Addr.Hi)), .d (.v (.int .u64 q5.2.Addr.Lo)), S q5.2.To, S y52.1, I q5.2.Life]] rfl ?_
              refine go_ops hΓ 1 rfl ?_
              refine eo_store hΓ rfl rfl rfl rfl rfl rfl rfl rfl (Nat.le_of_ble_eq_true rfl) ?_
              refine eo_hp [.box 25 [.d (Sl (eN .i64) y54.2.L), I y54.2.v_at], .box 38 [S [], I 0, B false, .d (.v (.int .u64 0)), .d (.v (.int .u64 0)), S [], S [], I 0], .box 38 [S q5.2.Name, I q5.2.Kind, B q5.2.Addr.Six, .d (.v (.int .u64 q5.2.Addr.Hi)), .d (.v (.int .u64 q5.2.Addr.Lo)), S q5.2.To, S y52.1, I y54.1]] rfl ?_
              refine go_ops hΓ 2 rfl ?_
              obtain rfl := Option.some.inj h55
              exact ⟨⟨rfl, rfl, trivial⟩, [], rfl, .inl rfl⟩
      · have h56 := cF hq35 hb
        refine go hΓ 1 rfl ?_
        obtain rfl := Option.some.inj h56
        exact ⟨⟨rfl, rfl, trivial⟩, [], rfl, .inl rfl⟩
    · refine go hΓ 4 rfl ?_
      refine eo_store hΓ rfl rfl rfl rfl rfl rfl rfl rfl (Nat.le_of_ble_eq_true rfl) ?_
      refine eo_hp [.box 25 [.d (Sl (eN .i64) q35.1.L), I q35.1.v_at], .box 38 [S q35.2.Name, I q35.2.Kind, B q35.2.Addr.Six, .d (.v (.int .u64 q35.2.Addr.Hi)), .d (.v (.int .u64 q35.2.Addr.Lo)), S q35.2.To, S q35.2.Words, I q35.2.Life], .box 38 [S q35.2.Name, I q35.2.Kind, B q35.2.Addr.Six, .d (.v (.int .u64 q35.2.Addr.Hi)), .d (.v (.int .u64 q35.2.Addr.Lo)), S q35.2.To, S q35.2.Words, I q35.2.Life]] rfl ?_
      refine go_ops hΓ 3 rfl ?_
      obtain rfl := Option.some.inj h36
      exact fin_objs hΓ [_, _] (.inr rfl) rfl rfl rfl rfl (.inr ⟨HB.mk rfl, rfl⟩)

theorem c_cmp_isNaN_int {x : Int} {r : Bool} (h : m_cmp_isNaN_int x = some r) : Pure Tryz.prog 242 [I x] (B r) := by
  refine Pure.enter (Fr.of 0 _) Tryz.func242 rfl (Fr.of_ok _) rfl rfl ?_
  refine go_in ?_
  unfold m_cmp_isNaN_int at h
  refine go hΓ 14 rfl ?_
  obtain rfl := Option.some.inj h
  exact fin_pure hΓ (.inr rfl) rfl rfl

theorem c_cmp_Compare_int {x : Int} {y : Int} {r : Int} (h : m_cmp_Compare_int x y = some r) : Pure Tryz.prog 146 [I x, I y] (I r) := by
  refine Pure.enter (Fr.of 0 _) Tryz.func146 rfl (Fr.of_ok _) rfl rfl ?_
  refine go_in ?_
  unfold m_cmp_Compare_int at h
  obtain ⟨y1, hy1, h2⟩ := bi_ok h
  refine go hΓ 8 rfl ?_
  refine eo_callP (callable Tryz.func242 rfl rfl) (c_cmp_isNaN_int hy1) rfl (Nat.le_of_ble_eq_true rfl) rfl rfl rfl rfl rfl ?_
  obtain ⟨y3, hy3, h4⟩ := bi_ok h2
  refine go_ops hΓ 6 rfl ?_
  refine eo_callP (callable Tryz.func242 rfl rfl) (c_cmp_isNaN_int hy3) rfl (Nat.le_of_ble_eq_true rfl) rfl rfl rfl rfl rfl ?_
  refine go_ops hΓ 9 rfl ?_
  refine j_cond rfl (fun hb => ?_) (fun hb => ?_)
  · have h5 := cT h4 hb
    refine go hΓ 6 rfl ?_
    refine j_cond rfl (fun hb => ?_) (fun hb => ?_)
    · have h6 := cT h5 hb
      refine go hΓ 8 rfl ?_
      obtain rfl := Option.some.inj h6
      exact fin_pure hΓ (.inr rfl) rfl rfl
    · have h7 := cF h5 hb
      refine go hΓ 9 rfl ?_
      obtain rfl := Option.some.inj h7
      exact fin_pure hΓ (.inr rfl) rfl rfl
  · have h8 := cF h4 hb
    refine go hΓ 8 rfl ?_
    refine j_cond rfl (fun hb => ?_) (fun hb => ?_)
    · have h9 := cT h8 hb
      refine go hΓ 7 rfl ?_
      obtain rfl := Option.some.inj h9
      exact fin_pure hΓ (.inr rfl) rfl rfl
    · have h10 := cF h8 hb
      refine go hΓ 10 rfl ?_
      refine j_cond rfl (fun hb => ?_) (fun hb => ?_)
      · have h11 := cT h10 hb
        refine go hΓ 7 rfl ?_
        obtain rfl := Option.some.inj h11
        exact fin_pure hΓ (.inr rfl) rfl rfl
      · have h12 := cF h10 hb
        refine go hΓ 10 rfl ?_
        refine j_cond rfl (fun hb => ?_) (fun hb => ?_)
        · have h13 := cT h12 hb
          refine go hΓ 7 rfl ?_
          obtain rfl := Option.some.inj h13
          exact fin_pure hΓ (.inr rfl) rfl rfl
        · have h14 := cF h12 hb
          refine go hΓ 8 rfl ?_
          obtain rfl := Option.some.inj h14
          exact fin_pure hΓ (.inr rfl) rfl rfl

theorem c_slices_Compare_int_int {s1 : List Int} {s2 : List Int} {r : Int} (h : m_slices_Compare_int_int s1 s2 = some r) : Pure Tryz.prog 103 [.d (Sl (eN .i64) s1), .d (Sl (eN .i64) s2)] (I r) := by
  refine Pure.enter (Fr.of 0 _) Tryz.func103 rfl (Fr.of_ok _) rfl rfl ?_
  refine go_in ?_
  unfold m_slices_Compare_int_int at h
  refine go hΓ 13 rfl ?_
  obtain ⟨q5, hq5, h6⟩ := bi_ok h
  refine j_bound 0 rfl fun hb8 => ?_
  refine j_cutEZ (R := fun a7 => q5 = .go a7) (fun a7 => [(0, .d (Sl (eN .i64) s1)), (1, .d (Sl (eN .i64) s2))]) (fun a7 => []) ?_ ?_
  · refine go hΓ 1 rfl ?_
    refine j_range s1 hq5 (fun i1 s3 => [(0, .d (Sl (eN .i64) s1)), (1, .d (Sl (eN .i64) s2)), (9, .d (Sl (eN .i64) s1)), (10, I (s1.length : Int)), (11, I (i1 : Int))]) (fun s3 => []) ⟨⟨rfl, rfl, rfl, rfl, rfl, trivial⟩, [], rfl, .inl rfl⟩ (fun i1 x4 s3 y12 hx9 hlt hy10 hout11 => ?_) (fun s3 hgo => ?_)
    · refine go hΓ 6 rfl ?_
      refine j_condT rfl (decide_eq_true (Int.ofNat_lt.2 hlt)) ?_
      refine go hΓ 7 rfl ?_
      refine eo_o rfl (op_elemZ hΓ (enc := (eN .i64)) (getZ_nat hx9) rfl rfl rfl rfl rfl (fun _ => rfl)) ?_
      refine go_ops hΓ 14 rfl ?_
      refine j_cond rfl (fun hb => ?_) (fun hb => ?_)
      · have h13 := cT hy10 hb
        refine go hΓ 9 rfl ?_
        obtain ⟨v14, hv14, h15⟩ := bi_ok h13
        obtain rfl := Option.some.inj h15
        obtain rfl := hout11 _ rfl
        obtain rfl := Option.some.inj h6
        refine go hΓ 4 rfl ?_
        obtain rfl := Option.some.inj hv14
        exact fin_pure hΓ (.inr rfl) rfl rfl
      · have h16 := cF hy10 hb
        obtain ⟨x17, hx17, h18⟩ := bi_ok h16
        refine go hΓ 6 rfl ?_
        refine eo_o rfl (op_elemZ hΓ (enc := (eN .i64)) hx17 rfl rfl rfl rfl rfl (fun _ => rfl)) ?_
        obtain ⟨y19, hy19, h20⟩ := bi_ok h18
        refine go_ops hΓ 8 rfl ?_
        refine eo_callP (callable Tryz.func146 rfl rfl) (c_cmp_Compare_int hy19) rfl (Nat.le_of_ble_eq_true rfl) rfl rfl rfl rfl rfl ?_
        refine go_ops hΓ 9 rfl ?_
        refine j_cond rfl (fun hb => ?_) (fun hb => ?_)
        · have h21 := cT h20 hb
          refine go hΓ 9 rfl ?_
          obtain ⟨v22, hv22, h23⟩ := bi_ok h21
          obtain rfl := Option.some.inj h23
          obtain rfl := hout11 _ rfl
          obtain rfl := Option.some.inj h6
          refine go hΓ 4 rfl ?_
          obtain rfl := Option.some.inj hv22
          exact fin_pure hΓ (.inr rfl) rfl rfl
        · have h24 := cF h20 hb
          refine go hΓ 7 rfl ?_
          obtain rfl := Option.some.inj h24
          exact ⟨_, rfl, ⟨⟨rfl, rfl, rfl, rfl, get_eq rfl (w64_succ (Nat.lt_of_lt_of_le hlt hb8)), trivial⟩, [], rfl, .inl rfl⟩⟩
    · subst hgo
      refine go hΓ 6 rfl ?_
      refine j_condF rfl (decide_eq_false (Int.lt_irrefl _)) ?_
      refine go hΓ 4 rfl ?_
      exact ⟨_, rfl, ⟨⟨rfl, rfl, trivial⟩, [], rfl, .inl rfl⟩⟩
  · intro a7 ha
    subst ha
    replace h6 := goI_l h6
    refine go hΓ 11 rfl ?_
    refine j_cond rfl (fun hb => ?_) (fun hb => ?_)
    · have h25 := cT h6 hb
      refine go hΓ 7 rfl ?_
      obtain rfl := Option.some.inj h25
      exact fin_pure hΓ (.inr rfl) rfl rfl
    · have h26 := cF h6 hb
      refine go hΓ 8 rfl ?_
      obtain rfl := Option.some.inj h26
      exact fin_pure hΓ (.inr rfl) rfl rfl

theorem c_lanemake_Stream_Zone_1 {a : T_api_Record} {b : T_api_Record} {r : Int} (h : m_lanemake_Stream_Zone_1 a b = some r) : Pure Tryz.prog 102 [.agg [S a.Name, I a.Kind, B a.Addr.Six, .d (.v (.int .u64 a.Addr.Hi)), .d (.v (.int .u64 a.Addr.Lo)), S a.To, S a.Words, I a.Life], .agg [S b.Name, I b.Kind, B b.Addr.Six, .d (.v (.int .u64 b.Addr.Hi)), .d (.v (.int .u64 b.Addr.Lo)), S b.To, S b.Words, I b.Life]] (I r) := by
  refine Pure.enter (Fr.of 0 _) Tryz.func102 rfl (Fr.of_ok _) rfl rfl ?_
  refine go_in ?_
  unfold m_lanemake_Stream_Zone_1 at h
  refine go hΓ 2 rfl ?_
  refine eo_box rfl rfl rfl rfl (Nat.le_of_ble_eq_true rfl) ?_
  refine eo_box rfl rfl rfl rfl (Nat.le_of_ble_eq_true rfl) ?_
  refine go_ops hΓ 11 rfl ?_
  refine eo_litT hΓ (enc := (eN .i64)) [a.Kind, wi (a.Addr.Lo)] rfl rfl rfl rfl rfl rfl rfl rfl rfl rfl rfl rfl (Nat.le_of_ble_eq_true rfl) ?_
  refine go_ops hΓ 6 rfl ?_
  refine eo_litT hΓ (enc := (eN .i64)) [b.Kind, wi (b.Addr.Lo)] rfl rfl rfl rfl rfl rfl rfl rfl rfl rfl rfl rfl (Nat.le_of_ble_eq_true rfl) ?_
  obtain ⟨y1, hy1, h2⟩ := bi_ok h
  refine eo_callP (callable Tryz.func103 rfl rfl) (c_slices_Compare_int_int hy1) rfl (Nat.le_of_ble_eq_true rfl) rfl rfl rfl rfl rfl ?_
  refine go_ops hΓ 4 rfl ?_
  obtain rfl := Option.some.inj h2
  exact fin_pure hΓ (.inr rfl) rfl rfl

theorem c_slices_insertionSortCmpFunc_api_Record {k : Nat} {data : List T_api_Record} {a : Int} {b : Int} {r : List T_api_Record} (h : m_slices_insertionSortCmpFunc_api_Record k data a b = some r) : EC Tryz.prog 284 [.sl 0 data.length, I a, I b, .fn (.func 102) [] []] [.row 38 8 data.length (data.flatMap e_api_Record)] fun g hp' => g = .tup [] ∧ hp' = [.row 38 8 r.length (r.flatMap e_api_Record)] := by
  refine ec_enter (Fr.of 0 _) Tryz.func284 rfl (Fr.of_ok _) (Nat.le_of_ble_eq_true rfl) fun _ => ?_
  refine go_in ?_
  unfold m_slices_insertionSortCmpFunc_api_Record at h
  refine go hΓ 7 rfl ?_
  obtain ⟨q4, hq4, h5⟩ := bi_ok h
  refine j_cutNZ [] [.row 38 8 q4.length (q4.flatMap e_api_Record)] ?_ ?_
  · refine go hΓ 1 rfl ?_
    refine j_loop hq4 (fun s2 => [(0, .sl 0 s2.1.length), (1, I a), (2, I b), (3, .fn (.func 102) [] []), (8, I s2.2)]) (fun s2 => [.row 38 8 s2.1.length (s2.1.flatMap e_api_Record)]) ⟨⟨rfl, rfl, rfl, rfl, rfl, trivial⟩, [], rfl, .inl rfl⟩ (fun s2 y10 hy8 hout9 => ?_)
    refine go hΓ 8 rfl ?_
    refine j_cond rfl (fun hb => ?_) (fun hb => ?_)
    · have h11 := cT hy8 hb
      refine go hΓ 10 rfl ?_
      obtain ⟨q15, hq15, h16⟩ := bi_ok h11
      refine j_cutNZ [(0, .sl 0 q15.length), (1, I a), (2, I b), (3, .fn (.func 102) [] []), (8, I s2.2)] [.row 38 8 q15.length (q15.flatMap e_api_Record)] ?_ ?_
      · refine go hΓ 1 rfl ?_
        refine j_loop hq15 (fun s13 => [(0, .sl 0 s13.1.length), (1, I a), (2, I b), (3, .fn (.func 102) [] []), (8, I s2.2), (9, I s13.2)]) (fun s13 => [.row 38 8 s13.1.length (s13.1.flatMap e_api_Record)]) ⟨⟨rfl, rfl, rfl, rfl, rfl, rfl, trivial⟩, [], rfl, .inl rfl⟩ (fun s13 y21 hy19 hout20 => ?_)
        obtain ⟨q22, hq22, h23⟩ := bi_ok hy19
        refine go hΓ 2 rfl ?_
        refine j_cutNZ [(0, .sl 0 s13.1.length), (1, I a), (2, I b), (3, .fn (.func 102) [] []), (8, I s2.2), (9, I s13.2), (34, B q22)] [.row 38 8 s13.1.length (s13.1.flatMap e_api_Record)] ?_ ?_
        · refine j_draw hmix (by kernel_rfl) ?_
          refine go hΓ 4 rfl ?_
          refine gl_gsplit rfl rfl (fun hb => ?_) (fun hb => ?_)
          · have h24 := cT hq22 hb
            obtain ⟨x25, hx25, h26⟩ := bi_ok h24
            have hj27 := getZ_at hx25
            refine go_draw hΓ 3 rfl ?_
            refine gl_og rfl rfl (op_elemRowZ hΓ hx25 rfl rfl rfl rfl rfl rfl) ?_
            refine gl_og rfl rfl (op_loadRowZ hΓ (enc := e_api_Record) s13.2.toNat 0 hj27 rfl rfl rfl rfl (fun _ => rfl) (g := .agg [S x25.Name, I x25.Kind, B x25.Addr.Six, .d (.v (.int .u64 x25.Addr.Hi)), .d (.v (.int .u64 x25.Addr.Lo)), S x25.To, S x25.Words, I x25.Life]) rfl) ?_
            obtain ⟨x28, hx28, h29⟩ := bi_ok h26
            have hj30 := getZ_at hx28
            refine go_draw hΓ 3 rfl ?_
            refine gl_og rfl rfl (op_elemRowZ hΓ hx28 rfl rfl rfl rfl rfl rfl) ?_
            refine gl_og rfl rfl (op_loadRowZ hΓ (enc := e_api_Record) ((wi (s13.2 - 1)).toNat) 0 hj30 rfl rfl rfl rfl (fun _ => rfl) (g := .agg [S x28.Name, I x28.Kind, B x28.Addr.Six, .d (.v (.int .u64 x28.Addr.Hi)), .d (.v (.int .u64 x28.Addr.Lo)), S x28.To, S x28.Words, I x28.Life]) rfl) ?_
            obtain ⟨y31, hy31, h32⟩ := bi_ok h29
            refine gl_callPg (callable Tryz.func102 rfl rfl) (c_lanemake_Stream_Zone_1 hy31) rfl rfl rfl rfl rfl rfl rfl ?_
            refine go_draw hΓ 3 rfl ?_
            obtain rfl := Option.some.inj h32
            exact ⟨⟨rfl, rfl, rfl, rfl, rfl, rfl, rfl, trivial⟩, [], rfl, .inl rfl⟩
          · have h33 := cF hq22 hb
            refine go_draw hΓ 14 rfl ?_
            obtain rfl := Option.some.inj h33
            exact ⟨⟨rfl, rfl, rfl, rfl, rfl, rfl, rfl, trivial⟩, [], rfl, .inl rfl⟩
        · refine go hΓ 1 rfl ?_
          refine j_cond rfl (fun hb => ?_) (fun hb => ?_)
          · have h34 := cT h23 hb
            refine go hΓ 4 rfl ?_
            refine j_drawE [.row 38 8 s13.1.length (s13.1.flatMap e_api_Record)] [9, 13] [15, 17] [15, 17] hmix (by kernel_rfl) (by kernel_rfl) ⟨rfl, trivial⟩ (Nat.le_of_ble_eq_true rfl) ?_
            obtain ⟨x35, hx35, h36⟩ := bi_ok h34
            have hj37 := getZ_at hx35
            refine go_E hΓ 8 rfl ?_
            refine ge_q rfl (.inl rfl) (fun _ _ => qte_of_qt (qt_p (op_elemRowZ hΓ hx35 rfl rfl rfl rfl rfl rfl))) ?_
            refine ge_p rfl (fun hp hs => op_loadRowZ hΓ (enc := e_api_Record) ((wi (s13.2 - 1)).toNat) 0 hj37 rfl rfl rfl (hs 0 _ rfl rfl) (fun _ => rfl) (g := .agg [S x35.Name, I x35.Kind, B x35.Addr.Six, .d (.v (.int .u64 x35.Addr.Hi)), .d (.v (.int .u64 x35.Addr.Lo)), S x35.To, S x35.Words, I x35.Life]) rfl) rfl ?_
            obtain ⟨x38, hx38, h39⟩ := bi_ok h36
            have hj40 := getZ_at hx38
            refine go_E hΓ 2 rfl ?_
            refine ge_q rfl (.inl rfl) (fun _ _ => qte_of_qt (qt_p (op_elemRowZ hΓ hx38 rfl rfl rfl rfl rfl rfl))) ?_
            refine ge_p rfl (fun hp hs => op_loadRowZ hΓ (enc := e_api_Record) s13.2.toNat 0 hj40 rfl rfl rfl (hs 0 _ rfl rfl) (fun _ => rfl) (g := .agg [S x38.Name, I x38.Kind, B x38.Addr.Six, .d (.v (.int .u64 x38.Addr.Hi)), .d (.v (.int .u64 x38.Addr.Lo)), S x38.To, S x38.Words, I x38.Life]) rfl) rfl ?_
            obtain ⟨x41, hx41, h42⟩ := bi_ok h39
            have hj43 := getZ_at hx41
            refine ge_q rfl (.inl rfl) (fun _ _ => qte_of_qt (qt_p (op_elemRowZ hΓ hx41 rfl rfl rfl rfl rfl rfl))) ?_
            refine ge_h0 [.row 38 8 (s13.1.set s13.2.toNat x35).length ((s13.1.set s13.2.toNat x35).flatMap e_api_Record)] rfl rfl (brk_st rfl) (qte_u (opu_setRowZ hΓ (enc := e_api_Record) (z' := x35) s13.2.toNat (by have := (List.getElem?_eq_some_iff.1 hj43).1; simpa using this) rfl rfl rfl rfl (fun _ => rfl) rfl rfl rfl rfl rfl)) ?_
            obtain ⟨x44, hx44, h45⟩ := bi_ok h42
            have hj46 := getZ_at hx44
            refine ge_q rfl (.inl rfl) (fun _ _ => qte_of_qt (qt_p (op_elemRowZ hΓ hx44 rfl rfl rfl rfl rfl rfl))) ?_
            refine ge_h0 [.row 38 8 ((s13.1.set s13.2.toNat x35).set ((wi (s13.2 - 1)).toNat) x38).length (((s13.1.set s13.2.toNat x35).set ((wi (s13.2 - 1)).toNat) x38).flatMap e_api_Record)] rfl rfl (brk_st rfl) (qte_u (opu_setRowZ hΓ (enc := e_api_Record) (z' := x38) ((wi (s13.2 - 1)).toNat) (by have := (List.getElem?_eq_some_iff.1 hj46).1; simpa using this) rfl rfl rfl rfl (fun _ => rfl) rfl rfl rfl rfl rfl)) ?_
            refine ge_fin ?_
            refine go hΓ 2 rfl ?_
            refine j_relen 0 (n' := ((s13.1.set s13.2.toNat x35).set ((wi (s13.2 - 1)).toNat) x38).length) rfl (by simp) ?_
            refine j_relen 37 (n' := ((s13.1.set s13.2.toNat x35).set ((wi (s13.2 - 1)).toNat) x38).length) rfl (by simp) ?_
            refine j_relen 39 (n' := ((s13.1.set s13.2.toNat x35).set ((wi (s13.2 - 1)).toNat) x38).length) rfl (by simp) ?_
            refine j_relen 42 (n' := ((s13.1.set s13.2.toNat x35).set ((wi (s13.2 - 1)).toNat) x38).length) rfl (by simp) ?_
            refine j_relen 47 (n' := ((s13.1.set s13.2.toNat x35).set ((wi (s13.2 - 1)).toNat) x38).length) rfl (by simp) ?_
            refine go hΓ 5 rfl ?_
            obtain rfl := Option.some.inj h45
            exact ⟨_, rfl, ⟨⟨rfl, rfl, rfl, rfl, rfl, rfl, trivial⟩, [], rfl, .inl rfl⟩⟩
          · have h47 := cF h23 hb
            refine go hΓ 4 rfl ?_
            obtain rfl := Option.some.inj h47
            obtain rfl := hout20 _ rfl
            exact ⟨⟨rfl, rfl, rfl, rfl, rfl, trivial⟩, [], rfl, .inl rfl⟩
      · refine go hΓ 7 rfl ?_
        obtain rfl := Option.some.inj h16
        exact ⟨_, rfl, ⟨⟨rfl, rfl, rfl, rfl, rfl, trivial⟩, [], rfl, .inl rfl⟩⟩
    · have h48 := cF hy8 hb
      refine go hΓ 4 rfl ?_
      obtain rfl := Option.some.inj h48
      obtain rfl := hout9 _ rfl
      exact ⟨trivial, [], rfl, .inl rfl⟩
  · obtain rfl := Option.some.inj h5
    exact fin_objs hΓ [] (.inl rfl) rfl rfl rfl rfl (.inl rfl)

theorem c_slices_stableCmpFunc_api_Record {k : Nat} {data : List T_api_Record} {n : Int} {r : List T_api_Record} (h : m_slices_stableCmpFunc_api_Record k data n = some r) : EC Tryz.prog 214 [.sl 0 data.length, I n, .fn (.func 102) [] []] [.row 38 8 data.length (data.flatMap e_api_Record)] fun g hp' => g = .tup [] ∧ hp' = [.row 38 8 r.length (r.flatMap e_api_Record)] := by
  refine ec_enter (Fr.of 0 _) Tryz.func214 rfl (Fr.of_ok _) (Nat.le_of_ble_eq_true rfl) fun _ => ?_
  refine go_in ?_
  unfold m_slices_stableCmpFunc_api_Record at h
  refine go hΓ 13 rfl ?_
  obtain ⟨q4, hq4, h5⟩ := bi_ok h
  refine j_cutNZ [(0, .sl 0 q4.1.length), (1, I n), (2, .fn (.func 102) [] []), (6, I 20), (7, I q4.2)] [.row 38 8 q4.1.length (q4.1.flatMap e_api_Record)] ?_ ?_
  · refine go hΓ 1 rfl ?_
    refine j_loop hq4 (fun s2 => [(0, .sl 0 s2.1.length), (1, I n), (2, .fn (.func 102) [] []), (6, I 20), (7, I s2.2.1), (8, I s2.2.2)]) (fun s2 => [.row 38 8 s2.1.length (s2.1.flatMap e_api_Record)]) ⟨⟨rfl, rfl, rfl, rfl, rfl, rfl, trivial⟩, [], rfl, .inl rfl⟩ (fun s2 y10 hy8 hout9 => ?_)
    refine go hΓ 8 rfl ?_
    refine j_cond rfl (fun hb => ?_) (fun hb => ?_)
    · have h11 := cT hy8 hb
      obtain ⟨y12, hy12, h13⟩ := bi_ok h11
      refine go hΓ 9 rfl ?_
      refine eo_callF [0] (.tup []) [.row 38 8 y12.length (y12.flatMap e_api_Record)] (callable Tryz.func284 rfl rfl) (c_slices_insertionSortCmpFunc_api_Record hy12) rfl (Nat.le_of_ble_eq_true rfl) rfl rfl rfl rfl rfl rfl rfl rfl rfl rfl ?_
      obtain ⟨hg15, h14⟩ := gd_ok h13
      refine eo_relen 0 rfl (of_decide_eq_true hg15).symm ?_
      refine go_ops hΓ 15 rfl ?_
      obtain rfl := Option.some.inj h14
      exact ⟨_, rfl, ⟨⟨rfl, rfl, rfl, rfl, rfl, rfl, trivial⟩, [], rfl, .inl rfl⟩⟩
    · have h16 := cF hy8 hb
      refine go hΓ 4 rfl ?_
      obtain rfl := Option.some.inj h16
      obtain rfl := hout9 _ rfl
      exact ⟨⟨rfl, rfl, rfl, rfl, rfl, trivial⟩, [], rfl, .inl rfl⟩
  · obtain ⟨y17, hy17, h18⟩ := bi_ok h5
    refine go hΓ 7 rfl ?_
    refine eo_callF [0] (.tup []) [.row 38 8 y17.length (y17.flatMap e_api_Record)] (callable Tryz.func284 rfl rfl) (c_slices_insertionSortCmpFunc_api_Record hy17) rfl (Nat.le_of_ble_eq_true rfl) rfl rfl rfl rfl rfl rfl rfl rfl rfl rfl ?_
    obtain ⟨hg20, h19⟩ := gd_ok h18
    refine eo_relen 0 rfl (of_decide_eq_true hg20).symm ?_
    refine go_ops hΓ 2 rfl ?_
    obtain ⟨q24, hq24, h25⟩ := bi_ok h19
    refine j_cutNZ [] [.row 38 8 y17.length (y17.flatMap e_api_Record)] ?_ ?_
    · refine go hΓ 1 rfl ?_
      refine j_loop hq24 (fun s22 => [(0, .sl 0 y17.length), (1, I n), (2, .fn (.func 102) [] []), (6, I s22)]) (fun s22 => [.row 38 8 y17.length (y17.flatMap e_api_Record)]) ⟨⟨rfl, rfl, rfl, rfl, trivial⟩, [], rfl, .inl rfl⟩ (fun s22 y30 hy28 hout29 => ?_)
      refine go hΓ 8 rfl ?_
      refine j_cond rfl (fun hb => ?_) (fun hb => ?_)
      · have h31 := cT hy28 hb
        refine go hΓ 12 rfl ?_
        obtain ⟨q35, hq35, h36⟩ := bi_ok h31
        refine j_cutNZ [(0, .sl 0 y17.length), (1, I n), (2, .fn (.func 102) [] []), (6, I s22), (7, I 0)] [.row 38 8 y17.length (y17.flatMap e_api_Record)] ?_ ?_
        · refine go hΓ 1 rfl ?_
          refine j_loop hq35 (fun s33 => [(0, .sl 0 y17.length), (1, I n), (2, .fn (.func 102) [] []), (6, I s22), (7, I 0), (8, I (wi (2 * s22)))]) (fun s33 => [.row 38 8 y17.length (y17.flatMap e_api_Record)]) ⟨⟨rfl, rfl, rfl, rfl, rfl, rfl, trivial⟩, [], rfl, .inl rfl⟩ (fun s33 y41 hy39 hout40 => ?_)
          refine go hΓ 8 rfl ?_
          refine j_cond rfl (fun hb => ?_) (fun hb => ?_)
          · have h42 := cT hy39 hb
            refine go hΓ 12 rfl ?_
            cases h42
          · have h43 := cF hy39 hb
            refine go hΓ 4 rfl ?_
            obtain rfl := Option.some.inj h43
            obtain rfl := hout40 _ rfl
            exact ⟨⟨rfl, rfl, rfl, rfl, rfl, trivial⟩, [], rfl, .inl rfl⟩
        · refine go hΓ 17 rfl ?_
          refine j_cond rfl (fun hb => ?_) (fun hb => ?_)
          · have h44 := cT h36 hb
            refine go hΓ 6 rfl ?_
            cases h44
          · have h45 := cF h36 hb
            refine go hΓ 8 rfl ?_
            obtain rfl := Option.some.inj h45
            exact ⟨_, rfl, ⟨⟨rfl, rfl, rfl, rfl, trivial⟩, [], rfl, .inl rfl⟩⟩
      · have h46 := cF hy28 hb
        refine go hΓ 4 rfl ?_
        obtain rfl := Option.some.inj h46
        obtain rfl := hout29 _ rfl
        exact ⟨trivial, [], rfl, .inl rfl⟩
    · obtain rfl := Option.some.inj h25
      exact fin_objs hΓ [] (.inl rfl) rfl rfl rfl rfl (.inl rfl)

theorem c_slices_SortStableFunc_api_Record_api_Record {k : Nat} {x : List T_api_Record} {r : List T_api_Record} (h : m_slices_SortStableFunc_api_Record_api_Record k x = some r) : EC Tryz.prog 101 [.sl 0 x.length, .fn (.func 102) [] []] [.row 38 8 x.length (x.flatMap e_api_Record)] fun g hp' => g = .tup [] ∧ hp' = [.row 38 8 r.length (r.flatMap e_api_Record)] := by
  refine ec_enter (Fr.of 0 _) Tryz.func101 rfl (Fr.of_ok _) (Nat.le_of_ble_eq_true rfl) fun _ => ?_
  refine go_in ?_
  unfold m_slices_SortStableFunc_api_Record_api_Record at h
  obtain ⟨y1, hy1, h2⟩ := bi_ok h
  refine go hΓ 5 rfl ?_
  refine eo_callF [0] (.tup []) [.row 38 8 y1.length (y1.flatMap e_api_Record)] (callable Tryz.func214 rfl rfl) (c_slices_stableCmpFunc_api_Record hy1) rfl (Nat.le_of_ble_eq_true rfl) rfl rfl rfl rfl rfl rfl rfl rfl rfl rfl ?_
  refine go_ops hΓ 1 rfl ?_
  obtain rfl := Option.some.inj h2
  exact fin_objs hΓ [] (.inl rfl) rfl rfl rfl rfl (.inl rfl)

theorem c_lanemake_Stream_Zone_2 {a : T_api_Record} {b : T_api_Record} {x : T_lanemake_Stream} {r : Bool × T_lanemake_Stream} (h : m_lanemake_Stream_Zone_2 a b x = some r) : EC Tryz.prog 105 [.agg [S a.Name, I a.Kind, B a.Addr.Six, .d (.v (.int .u64 a.Addr.Hi)), .d (.v (.int .u64 a.Addr.Lo)), S a.To, S a.Words, I a.Life], .agg [S b.Name, I b.Kind, B b.Addr.Six, .d (.v (.int .u64 b.Addr.Hi)), .d (.v (.int .u64 b.Addr.Lo)), S b.To, S b.Words, I b.Life], .ptr 1 0] [.box 25 [.d (Sl (eN .i64) x.L), I x.v_at], .box 23 [.ptr 0 0]] fun g hp' => g = B r.1 ∧ hp' = [.box 25 [.d (Sl (eN .i64) r.2.L), I r.2.v_at], .box 23 [.ptr 0 0]] := by
  refine ec_enter (Fr.of 0 _) Tryz.func105 rfl (Fr.of_ok _) (Nat.le_of_ble_eq_true rfl) fun _ => ?_
  refine go_in ?_
  unfold m_lanemake_Stream_Zone_2 at h
  refine go hΓ 2 rfl ?_
  refine eo_box rfl rfl rfl rfl (Nat.le_of_ble_eq_true rfl) ?_
  refine eo_box rfl rfl rfl rfl (Nat.le_of_ble_eq_true rfl) ?_
  refine go_ops hΓ 11 rfl ?_
  refine o_cut 18 [(2, .ptr 1 0), (5, B false), (29, B (((a.Kind : Int) == b.Kind) && (((((a.Addr.Six : Bool) == b.Addr.Six) && (((a.Addr.Hi : Int) == b.Addr.Hi) && (((a.Addr.Lo : Int) == b.Addr.Lo) && true))) && (!(((a.Addr.Six : Bool) == false) && (((a.Addr.Hi : Int) == 0) && (((a.Addr.Lo : Int) == 0) && true))))) || (((a.Addr.Six : Bool) == false) && (((a.Addr.Hi : Int) == 0) && (((a.Addr.Lo : Int) == 0) && true))))))] [.box 25 [.d (Sl (eN .i64) x.L), I x.v_at], .box 23 [.ptr 0 0], .box 38 [S a.Name, I a.Kind, B a.Addr.Six, .d (.v (.int .u64 a.Addr.Hi)), .d (.v (.int .u64 a.Addr.Lo)), S a.To, S a.Words, I a.Life], .box 38 [S b.Name, I b.Kind, B b.Addr.Six, .d (.v (.int .u64 b.Addr.Hi)), .d (.v (.int .u64 b.Addr.Lo)), S b.To, S b.Words, I b.Life]] ?_ ?_
  · refine eo_gsplit rfl rfl (fun hb => ?_) (fun hb => ?_)
    · refine go_ops hΓ 4 rfl ?_
      refine eo_guard rfl ?_
      refine eo_o rfl (op_eqS hΓ [36] (b := (((a.Addr.Six : Bool) == b.Addr.Six) && (((a.Addr.Hi : Int) == b.Addr.Hi) && (((a.Addr.Lo : Int) == b.Addr.Lo) && true)))) (by kernel_rfl) (by kernel_rfl) rfl rfl rfl) ?_
      refine go_ops hΓ 1 rfl ?_
      refine o_cut 5 [(2, .ptr 1 0), (3, .ptr 2 0), (5, B false), (11, B true), (22, B ((((a.Addr.Six : Bool) == b.Addr.Six) && (((a.Addr.Hi : Int) == b.Addr.Hi) && (((a.Addr.Lo : Int) == b.Addr.Lo) && true))) && (!(((a.Addr.Six : Bool) == false) && (((a.Addr.Hi : Int) == 0) && (((a.Addr.Lo : Int) == 0) && true))))))] [.box 25 [.d (Sl (eN .i64) x.L), I x.v_at], .box 23 [.ptr 0 0], .box 38 [S a.Name, I a.Kind, B a.Addr.Six, .d (.v (.int .u64 a.Addr.Hi)), .d (.v (.int .u64 a.Addr.Lo)), S a.To, S a.Words, I a.Life], .box 38 [S b.Name, I b.Kind, B b.Addr.Six, .d (.v (.int .u64 b.Addr.Hi)), .d (.v (.int .u64 b.Addr.Lo)), S b.To, S b.Words, I b.Life]] ?_ ?_
      · refine eo_gsplit rfl rfl (fun hb => ?_) (fun hb => ?_)
        · refine go_ops hΓ 2 rfl ?_
          refine eo_guard rfl ?_
          refine eo_build hΓ (gs := [B false, .d (.v (.int .u64 0)), .d (.v (.int .u64 0))]) rfl rfl rfl rfl rfl rfl rfl ?_
          refine eo_guard rfl ?_
          refine eo_o rfl (op_neS hΓ [36] (b := (((a.Addr.Six : Bool) == false) && (((a.Addr.Hi : Int) == 0) && (((a.Addr.Lo : Int) == 0) && true)))) (by kernel_rfl) (by kernel_rfl) rfl rfl rfl) ?_
          refine go_ops hΓ 2 rfl ?_
          exact ⟨⟨rfl, rfl, rfl, rfl, get_b rfl (and_t hb), trivial⟩, [], rfl, .inl rfl⟩
        · refine go_ops hΓ 6 rfl ?_
          exact ⟨⟨rfl, rfl, rfl, rfl, get_b rfl (and_f hb), trivial⟩, [], rfl, .inl rfl⟩
      · refine go_ops hΓ 1 rfl ?_
        refine o_cut 5 [(2, .ptr 1 0), (5, B false), (11, B true), (28, B (((((a.Addr.Six : Bool) == b.Addr.Six) && (((a.Addr.Hi : Int) == b.Addr.Hi) && (((a.Addr.Lo : Int) == b.Addr.Lo) && true))) && (!(((a.Addr.Six : Bool) == false) && (((a.Addr.Hi : Int) == 0) && (((a.Addr.Lo : Int) == 0) && true))))) || (((a.Addr.Six : Bool) == false) && (((a.Addr.Hi : Int) == 0) && (((a.Addr.Lo : Int) == 0) && true)))))] [.box 25 [.d (Sl (eN .i64) x.L), I x.v_at], .box 23 [.ptr 0 0], .box 38 [S a.Name, I a.Kind, B a.Addr.Six, .d (.v (.int .u64 a.Addr.Hi)), .d (.v (.int .u64 a.Addr.Lo)), S a.To, S a.Words, I a.Life], .box 38 [S b.Name, I b.Kind, B b.Addr.Six, .d (.v (.int .u64 b.Addr.Hi)), .d (.v (.int .u64 b.Addr.Lo)), S b.To, S b.Words, I b.Life]] ?_ ?_
        · refine eo_gsplit rfl rfl (fun hb => ?_) (fun hb => ?_)
          · refine go_ops hΓ 6 rfl ?_
            exact ⟨⟨rfl, rfl, rfl, get_b rfl (or_t hb), trivial⟩, [], rfl, .inl rfl⟩
          · refine go_ops hΓ 2 rfl ?_
            refine eo_guard rfl ?_
            refine eo_build hΓ (gs := [B false, .d (.v (.int .u64 0)), .d (.v (.int .u64 0))]) rfl rfl rfl rfl rfl rfl rfl ?_
            refine eo_guard rfl ?_
            refine eo_o rfl (op_eqS hΓ [36] (b := (((a.Addr.Six : Bool) == false) && (((a.Addr.Hi : Int) == 0) && (((a.Addr.Lo : Int) == 0) && true)))) (by kernel_rfl) (by kernel_rfl) rfl rfl rfl) ?_
            refine go_ops hΓ 2 rfl ?_
            exact ⟨⟨rfl, rfl, rfl, get_b rfl (or_f hb), trivial⟩, [], rfl, .inl rfl⟩
        · refine go_ops hΓ 2 rfl ?_
          exact ⟨⟨rfl, rfl, get_b rfl (and_t hb), trivial⟩, [], rfl, .inl rfl⟩
    · refine go_ops hΓ 19 rfl ?_
      exact ⟨⟨rfl, rfl, get_b rfl (and_f hb), trivial⟩, [], rfl, .inl rfl⟩
  · refine go_ops hΓ 1 rfl ?_
    obtain ⟨q1, hq1, h2⟩ := bi_ok h
    refine o_cut 4 [(5, B false), (34, B q1.2)] [.box 25 [.d (Sl (eN .i64) q1.1.L), I q1.1.v_at], .box 23 [.ptr 0 0], .box 38 [S a.Name, I a.Kind, B a.Addr.Six, .d (.v (.int .u64 a.Addr.Hi)), .d (.v (.int .u64 a.Addr.Lo)), S a.To, S a.Words, I a.Life], .box 38 [S b.Name, I b.Kind, B b.Addr.Six, .d (.v (.int .u64 b.Addr.Hi)), .d (.v (.int .u64 b.Addr.Lo)), S b.To, S b.Words, I b.Life]] ?_ ?_
    · refine eo_gsplit rfl rfl (fun hb => ?_) (fun hb => ?_)
      · have h3 := cT hq1 hb
        obtain ⟨y4, hy4, h5⟩ := bi_ok h3
        refine go_ops hΓ 1 rfl ?_
        refine eo_guard rfl ?_
        refine eo_callF [0] (B y4.1) [.box 25 [.d (Sl (eN .i64) y4.2.L), I y4.2.v_at], .box 23 [.ptr 0 0], .box 38 [S a.Name, I a.Kind, B a.Addr.Six, .d (.v (.int .u64 a.Addr.Hi)), .d (.v (.int .u64 a.Addr.Lo)), S a.To, S a.Words, I a.Life], .box 38 [S b.Name, I b.Kind, B b.Addr.Six, .d (.v (.int .u64 b.Addr.Hi)), .d (.v (.int .u64 b.Addr.Lo)), S b.To, S b.Words, I b.Life]] (callable Tryz.func13 rfl rfl) (c_lanemake_Stream_Flip hy4) rfl (Nat.le_of_ble_eq_true rfl) rfl rfl rfl rfl rfl rfl rfl rfl rfl rfl ?_
        refine go_ops hΓ 3 rfl ?_
        obtain rfl := Option.some.inj h5
        exact ⟨⟨rfl, rfl, trivial⟩, [], rfl, .inl rfl⟩
      · have h6 := cF hq1 hb
        refine go_ops hΓ 5 rfl ?_
        obtain rfl := Option.some.inj h6
        exact ⟨⟨rfl, rfl, trivial⟩, [], rfl, .inl rfl⟩
    · refine go_ops hΓ 4 rfl ?_
      obtain rfl := Option.some.inj h2
      exact fin_objs hΓ [_, _] (.inr rfl) rfl rfl rfl rfl (.inr ⟨HB.mk rfl, rfl⟩)

theorem c_slices_CompactFunc_api_Record_api_Record {k : Nat} {s : List T_api_Record} {f : T_lanemake_Stream} {r : (List T_api_Record) × T_lanemake_Stream} (h : m_slices_CompactFunc_api_Record_api_Record k s f = some r) : EC Tryz.prog 104 [.sl 0 s.length, .fn (.func 105) [] [.ptr 2 0]] [.row 38 8 s.length (s.flatMap e_api_Record), .box 25 [.d (Sl (eN .i64) f.L), I f.v_at], .box 23 [.ptr 1 0]] fun g hp' => g = .sl 0 r.1.length ∧ hp' = [.row 38 8 r.1.length (r.1.flatMap e_api_Record), .box 25 [.d (Sl (eN .i64) r.2.L), I r.2.v_at], .box 23 [.ptr 1 0]] := by
  refine ec_enter (Fr.of 0 _) Tryz.func104 rfl (Fr.of_ok _) (Nat.le_of_ble_eq_true rfl) fun _ => ?_
  refine go_in ?_
  unfold m_slices_CompactFunc_api_Record_api_Record at h
  refine go hΓ 2 rfl ?_
  refine eo_nilOwn (t := 0) 38 8 rfl (Nat.le_of_ble_eq_true rfl) ?_
  refine go_ops hΓ 10 rfl ?_
  refine j_cond rfl (fun hb => ?_) (fun hb => ?_)
  · have h1 := cT h hb
    refine go hΓ 8 rfl ?_
    obtain rfl := Option.some.inj h1
    exact fin_objs hΓ [_] (.inr rfl) rfl rfl rfl rfl (.inr ⟨HB.mk rfl, rfl⟩)
  · have h2 := cF h hb
    refine go hΓ 8 rfl ?_
    obtain ⟨q6, hq6, h7⟩ := bi_ok h2
    refine j_cutEZ (R := fun a8 => q6 = .inl a8) (fun a8 => [(0, .sl 0 s.length)]) (fun a8 => [.row 38 8 s.length (s.flatMap e_api_Record), .box 25 [.d (Sl (eN .i64) a8.L), I a8.v_at], .box 23 [.ptr 1 0], .row 38 8 ([] : List T_api_Record).length (([] : List T_api_Record).flatMap e_api_Record)]) ?_ ?_
    · refine go hΓ 1 rfl ?_
      refine j_loop hq6 (fun s4 => [(0, .sl 0 s.length), (1, .fn (.func 105) [] [.ptr 2 0]), (5, I s4.2)]) (fun s4 => [.row 38 8 s.length (s.flatMap e_api_Record), .box 25 [.d (Sl (eN .i64) s4.1.L), I s4.1.v_at], .box 23 [.ptr 1 0], .row 38 8 ([] : List T_api_Record).length (([] : List T_api_Record).flatMap e_api_Record)]) ⟨⟨rfl, rfl, rfl, trivial⟩, [], rfl, .inl rfl⟩ (fun s4 y12 hy10 hout11 => ?_)
      refine go hΓ 9 rfl ?_
      refine j_cond rfl (fun hb => ?_) (fun hb => ?_)
      · have h13 := cT hy10 hb
        refine go hΓ 5 rfl ?_
        refine j_drawE [.row 38 8 s.length (s.flatMap e_api_Record)] [4, 9] [10] [] hmix (by kernel_rfl) (by kernel_rfl) ⟨rfl, trivial⟩ (Nat.le_of_ble_eq_true rfl) ?_
        obtain ⟨x14, hx14, h15⟩ := bi_ok h13
        have hj16 := getZ_at hx14
        refine go_E hΓ 3 rfl ?_
        refine ge_q rfl (.inl rfl) (fun _ _ => qte_of_qt (qt_p (op_elemRowZ hΓ hx14 rfl rfl rfl rfl rfl rfl))) ?_
        refine ge_p rfl (fun hp hs => op_loadRowZ hΓ (enc := e_api_Record) s4.2.toNat 0 hj16 rfl rfl rfl (hs 0 _ rfl rfl) (fun _ => rfl) (g := .agg [S x14.Name, I x14.Kind, B x14.Addr.Six, .d (.v (.int .u64 x14.Addr.Hi)), .d (.v (.int .u64 x14.Addr.Lo)), S x14.To, S x14.Words, I x14.Life]) rfl) rfl ?_
        obtain ⟨x17, hx17, h18⟩ := bi_ok h15
        have hj19 := getZ_at hx17
        refine go_E hΓ 3 rfl ?_
        refine ge_q rfl (.inl rfl) (fun _ _ => qte_of_qt (qt_p (op_elemRowZ hΓ hx17 rfl rfl rfl rfl rfl rfl))) ?_
        refine ge_p rfl (fun hp hs => op_loadRowZ hΓ (enc := e_api_Record) ((wi (s4.2 - 1)).toNat) 0 hj19 rfl rfl rfl (hs 0 _ rfl rfl) (fun _ => rfl) (g := .agg [S x17.Name, I x17.Kind, B x17.Addr.Six, .d (.v (.int .u64 x17.Addr.Hi)), .d (.v (.int .u64 x17.Addr.Lo)), S x17.To, S x17.Words, I x17.Life]) rfl) rfl ?_
        obtain ⟨y20, hy20, h21⟩ := bi_ok h18
        refine ge_h [.row 38 8 s.length (s.flatMap e_api_Record), .box 25 [.d (Sl (eN .i64) y20.2.L), I y20.2.v_at], .box 23 [.ptr 1 0], .row 38 8 ([] : List T_api_Record).length (([] : List T_api_Record).flatMap e_api_Record)] rfl rfl rfl (st_st ⟨rfl, trivial⟩) (qte_callF [1, 2] (B y20.1) [.row 38 8 s.length (s.flatMap e_api_Record), .box 25 [.d (Sl (eN .i64) y20.2.L), I y20.2.v_at], .box 23 [.ptr 1 0], .row 38 8 ([] : List T_api_Record).length (([] : List T_api_Record).flatMap e_api_Record)] (callable Tryz.func105 rfl rfl) (c_lanemake_Stream_Zone_2 hy20) rfl rfl rfl rfl rfl rfl rfl rfl rfl rfl) ?_
        refine ge_fin ?_
        refine go hΓ 1 rfl ?_
        refine j_cond rfl (fun hb => ?_) (fun hb => ?_)
        · have h22 := cT h21 hb
          obtain ⟨z23, hz23, h24⟩ := bi_ok h22
          refine go hΓ 4 rfl ?_
          refine eo_o rfl (op_viewI hΓ hz23 rfl rfl rfl rfl rfl rfl) ?_
          refine go_ops hΓ 9 rfl ?_
          obtain ⟨q28, hq28, h29⟩ := bi_ok h24
          refine j_cutNZ [(0, .sl 0 q28.1.length), (5, I q28.2.2)] [.row 38 8 q28.1.length (q28.1.flatMap e_api_Record), .box 25 [.d (Sl (eN .i64) q28.2.1.L), I q28.2.1.v_at], .box 23 [.ptr 1 0], .row 38 8 ([] : List T_api_Record).length (([] : List T_api_Record).flatMap e_api_Record)] ?_ ?_
          · refine go hΓ 1 rfl ?_
            refine j_loop hq28 (fun s26 => [(0, .sl 0 s26.1.length), (1, .fn (.func 105) [] [.ptr 2 0]), (5, I s26.2.2.1), (6, .slo 0 8 s4.2.toNat z23.length), (7, I s26.2.2.2)]) (fun s26 => [.row 38 8 s26.1.length (s26.1.flatMap e_api_Record), .box 25 [.d (Sl (eN .i64) s26.2.1.L), I s26.2.1.v_at], .box 23 [.ptr 1 0], .row 38 8 ([] : List T_api_Record).length (([] : List T_api_Record).flatMap e_api_Record)]) ⟨⟨rfl, rfl, rfl, rfl, rfl, trivial⟩, [], rfl, .inl rfl⟩ (fun s26 y34 hy32 hout33 => ?_)
            refine go hΓ 9 rfl ?_
            refine j_cond rfl (fun hb => ?_) (fun hb => ?_)
            · have h35 := cT hy32 hb
              refine go hΓ 5 rfl ?_
              refine j_drawE [.row 38 8 s26.1.length (s26.1.flatMap e_api_Record)] [4, 9] [10] [] hmix (by kernel_rfl) (by kernel_rfl) ⟨rfl, trivial⟩ (Nat.le_of_ble_eq_true rfl) ?_
              obtain ⟨x36, hx36, h37⟩ := bi_ok h35
              obtain ⟨x38, hx38, h39⟩ := bi_ok h37
              have hj40 : s26.1[(s4.2.toNat + s26.2.2.2.toNat)]? = some x38 := hx38
              refine go_E hΓ 3 rfl ?_
              refine ge_q rfl (.inl rfl) (fun _ _ => qte_of_qt (qt_p (op_elemView hΓ hx36 rfl rfl rfl rfl rfl rfl rfl))) ?_
              refine ge_p rfl (fun hp hs => op_loadRowZ hΓ (enc := e_api_Record) (s4.2.toNat + s26.2.2.2.toNat) 0 hj40 rfl rfl rfl (hs 0 _ rfl rfl) (fun _ => rfl) (g := .agg [S x38.Name, I x38.Kind, B x38.Addr.Six, .d (.v (.int .u64 x38.Addr.Hi)), .d (.v (.int .u64 x38.Addr.Lo)), S x38.To, S x38.Words, I x38.Life]) rfl) rfl ?_
              obtain ⟨x41, hx41, h42⟩ := bi_ok h39
              obtain ⟨x43, hx43, h44⟩ := bi_ok h42
              have hj45 : s26.1[(s4.2.toNat + (wi (s26.2.2.2 - 1)).toNat)]? = some x43 := hx43
              refine go_E hΓ 3 rfl ?_
              refine ge_q rfl (.inl rfl) (fun _ _ => qte_of_qt (qt_p (op_elemView hΓ hx41 rfl rfl rfl rfl rfl rfl rfl))) ?_
              refine ge_p rfl (fun hp hs => op_loadRowZ hΓ (enc := e_api_Record) (s4.2.toNat + (wi (s26.2.2.2 - 1)).toNat) 0 hj45 rfl rfl rfl (hs 0 _ rfl rfl) (fun _ => rfl) (g := .agg [S x43.Name, I x43.Kind, B x43.Addr.Six, .d (.v (.int .u64 x43.Addr.Hi)), .d (.v (.int .u64 x43.Addr.Lo)), S x43.To, S x43.Words, I x43.Life]) rfl) rfl ?_
              obtain ⟨y46, hy46, h47⟩ := bi_ok h44
              refine ge_h [.row 38 8 s26.1.length (s26.1.flatMap e_api_Record), .box 25 [.d (Sl (eN .i64) y46.2.L), I y46.2.v_at], .box 23 [.ptr 1 0], .row 38 8 ([] : List T_api_Record).length (([] : List T_api_Record).flatMap e_api_Record)] rfl rfl rfl (st_st ⟨rfl, trivial⟩) (qte_callF [1, 2] (B y46.1) [.row 38 8 s26.1.length (s26.1.flatMap e_api_Record), .box 25 [.d (Sl (eN .i64) y46.2.L), I y46.2.v_at], .box 23 [.ptr 1 0], .row 38 8 ([] : List T_api_Record).length (([] : List T_api_Record).flatMap e_api_Record)] (callable Tryz.func105 rfl rfl) (c_lanemake_Stream_Zone_2 hy46) rfl rfl rfl rfl rfl rfl rfl rfl rfl rfl) ?_
              refine go_E hΓ 1 rfl ?_
              refine ge_fin ?_
              refine go hΓ 1 rfl ?_
              refine j_cond rfl (fun hb => ?_) (fun hb => ?_)
              · have h48 := cT h47 hb
                obtain ⟨x49, hx49, h50⟩ := bi_ok h48
                obtain ⟨x51, hx51, h52⟩ := bi_ok h50
                have hj53 : s26.1[(s4.2.toNat + s26.2.2.2.toNat)]? = some x51 := hx51
                refine go hΓ 6 rfl ?_
                refine eo_o rfl (op_elemView hΓ hx49 rfl rfl rfl rfl rfl rfl rfl) ?_
                refine eo_o rfl (op_loadRowZ hΓ (enc := e_api_Record) (s4.2.toNat + s26.2.2.2.toNat) 0 hj53 rfl rfl rfl rfl (fun _ => rfl) (g := .agg [S x51.Name, I x51.Kind, B x51.Addr.Six, .d (.v (.int .u64 x51.Addr.Hi)), .d (.v (.int .u64 x51.Addr.Lo)), S x51.To, S x51.Words, I x51.Life]) rfl) ?_
                obtain ⟨x54, hx54, h55⟩ := bi_ok h52
                have hj56 := getZ_at hx54
                refine eo_o rfl (op_elemRowZ hΓ hx54 rfl rfl rfl rfl rfl rfl) ?_
                refine eo_storeRowZ hΓ (enc := e_api_Record) (z' := x51) s26.2.2.1.toNat 0 hj56 rfl rfl rfl rfl (fun _ => rfl) rfl rfl rfl rfl rfl rfl (Nat.le_of_ble_eq_true rfl) ?_
                refine eo_hp [.row 38 8 (s26.1.set s26.2.2.1.toNat x51).length ((s26.1.set s26.2.2.1.toNat x51).flatMap e_api_Record), .box 25 [.d (Sl (eN .i64) y46.2.L), I y46.2.v_at], .box 23 [.ptr 1 0], .row 38 8 ([] : List T_api_Record).length (([] : List T_api_Record).flatMap e_api_Record)] rfl ?_
                refine eo_relen 0 (n' := (s26.1.set s26.2.2.1.toNat x51).length) rfl List.length_set.symm ?_
                refine go_ops hΓ 14 rfl ?_
                obtain rfl := Option.some.inj h55
                exact ⟨_, rfl, ⟨⟨rfl, rfl, rfl, rfl, rfl, trivial⟩, [], rfl, .inl rfl⟩⟩
              · have h57 := cF h47 hb
                refine go hΓ 8 rfl ?_
                obtain rfl := Option.some.inj h57
                exact ⟨_, rfl, ⟨⟨rfl, rfl, rfl, rfl, rfl, trivial⟩, [], rfl, .inl rfl⟩⟩
            · have h58 := cF hy32 hb
              refine go hΓ 4 rfl ?_
              obtain rfl := Option.some.inj h58
              obtain rfl := hout33 _ rfl
              exact ⟨⟨rfl, rfl, trivial⟩, [], rfl, .inl rfl⟩
          · obtain ⟨z59, hz59, h60⟩ := bi_ok h29
            refine go hΓ 5 rfl ?_
            refine eo_o rfl (op_viewI hΓ hz59 rfl rfl rfl rfl rfl rfl) ?_
            refine eo_s0 (Nat.le_of_ble_eq_true rfl) (ops_clearT hΓ (enc := e_api_Record) (a := q28.2.2) hz59 rfl rfl rfl rfl rfl rfl rfl rfl rfl rfl (fun _ => rfl)) ?_
            refine go_ops hΓ 6 rfl ?_
            refine eo_subCut hΓ hz59 rfl rfl rfl rfl rfl rfl rfl rfl ?_
            refine go_ops hΓ 6 rfl ?_
            obtain ⟨v61, hv61, h62⟩ := bi_ok h60
            obtain rfl := Option.some.inj h62
            obtain rfl := hout11 _ rfl
            obtain rfl := Option.some.inj h7
            refine go hΓ 4 rfl ?_
            obtain rfl := Option.some.inj hv61
            exact fin_objs hΓ [_] (.inr rfl) rfl rfl rfl rfl (.inr ⟨HB.mk rfl, rfl⟩)
        · have h63 := cF h21 hb
          refine go hΓ 8 rfl ?_
          obtain rfl := Option.some.inj h63
          exact ⟨_, rfl, ⟨⟨rfl, rfl, rfl, trivial⟩, [], rfl, .inl rfl⟩⟩
      · have h64 := cF hy10 hb
        refine go hΓ 4 rfl ?_
        obtain rfl := Option.some.inj h64
        obtain rfl := hout11 _ rfl
        exact ⟨_, rfl, ⟨⟨rfl, trivial⟩, [], rfl, .inl rfl⟩⟩
    · intro a8 ha
      subst ha
      replace h7 := orI_l h7
      refine go hΓ 8 rfl ?_
      obtain rfl := Option.some.inj h7
      exact fin_objs hΓ [_] (.inr rfl) rfl rfl rfl rfl (.inr ⟨HB.mk rfl, rfl⟩)

theorem c_lanemake_Stream_Zone {k : Nat} {s : T_lanemake_Stream} {r : T_api_Zone × T_lanemake_Stream} (h : m_lanemake_Stream_Zone k s = some r) : EC Tryz.prog 24 [.ptr 0 0] [.box 25 [.d (Sl (eN .i64) s.L), I s.v_at]] fun g hp' => g = .agg [S r.1.Root, .d (Sl e_api_Record r.1.Records)] ∧ hp' = [.box 25 [.d (Sl (eN .i64) r.2.L), I r.2.v_at]] := by
  refine ec_enter (Fr.of 0 _) Tryz.func24 rfl (Fr.of_ok _) (Nat.le_of_ble_eq_true rfl) fun _ => ?_
  refine go_in ?_
  unfold m_lanemake_Stream_Zone at h
  refine go hΓ 2 rfl ?_
  refine eo_box rfl rfl rfl rfl (Nat.le_of_ble_eq_true rfl) ?_
  refine eo_alloc hΓ rfl rfl rfl (Nat.le_of_ble_eq_true rfl) ?_
  refine go_ops hΓ 4 rfl ?_
  refine eo_s (Nat.le_of_ble_eq_true rfl) (nblt.1 rfl) (ops_nilAt 38 8 1 (OpP.s (op_buildX hΓ [1] (gs := [S [110, 101, 116, 46, 120], .d (.v (.slice none 0 0))]) rfl rfl rfl rfl rfl rfl)) rfl) ?_
  refine eo_alloc hΓ rfl rfl rfl (Nat.le_of_ble_eq_true rfl) ?_
  refine eo_store hΓ rfl rfl rfl rfl rfl rfl rfl rfl (Nat.le_of_ble_eq_true rfl) ?_
  refine eo_hp [.box 25 [.d (Sl (eN .i64) s.L), I s.v_at], .box 23 [.ptr 0 0], .box 51 [S [], .d (Sl e_api_Record [])], .row 38 8 ([] : List T_api_Record).length (([] : List T_api_Record).flatMap e_api_Record), .box 51 [S [110, 101, 116, 46, 120], .sl 3 ([] : List T_api_Record).length]] rfl ?_
  refine go_ops hΓ 5 rfl ?_
  refine eo_litT hΓ (enc := eS) [[42, 46, 108, 97, 98, 46, 110, 101, 116, 46, 120], [42, 46, 110, 101, 116, 46, 120], [97, 46, 110, 101, 116, 46, 120], [98, 46, 110, 101, 116, 46, 120], [99, 46, 110, 101, 116, 46, 120], [100, 101, 101, 112, 46, 97, 46, 110, 101, 116, 46, 120], [110, 101, 116, 46, 120], [115, 46, 116, 46, 110, 101, 116, 46, 120]] rfl rfl rfl rfl rfl rfl rfl rfl rfl rfl rfl rfl (Nat.le_of_ble_eq_true rfl) ?_
  refine go_ops hΓ 4 rfl ?_
  obtain ⟨q4, hq4, h5⟩ := bi_ok h
  refine j_bound 9 rfl fun hb7 => ?_
  refine j_cutNZ [(1, .ptr 1 0), (2, .ptr 2 0), (3, .ptr 4 0)] [.box 25 [.d (Sl (eN .i64) q4.1.L), I q4.1.v_at], .box 23 [.ptr 0 0], .box 51 [S [], .d (Sl e_api_Record [])], .row 38 8 q4.2.length (q4.2.flatMap e_api_Record), .box 51 [S [110, 101, 116, 46, 120], .sl 3 q4.2.length]] ?_ ?_
  · refine go hΓ 1 rfl ?_
    refine j_rangeF [[42, 46, 108, 97, 98, 46, 110, 101, 116, 46, 120], [42, 46, 110, 101, 116, 46, 120], [97, 46, 110, 101, 116, 46, 120], [98, 46, 110, 101, 116, 46, 120], [99, 46, 110, 101, 116, 46, 120], [100, 101, 101, 112, 46, 97, 46, 110, 101, 116, 46, 120], [110, 101, 116, 46, 120], [115, 46, 116, 46, 110, 101, 116, 46, 120]] hq4 (fun i1 s2 => [(1, .ptr 1 0), (2, .ptr 2 0), (3, .ptr 4 0), (9, .d (Sl eS [[42, 46, 108, 97, 98, 46, 110, 101, 116, 46, 120], [42, 46, 110, 101, 116, 46, 120], [97, 46, 110, 101, 116, 46, 120], [98, 46, 110, 101, 116, 46, 120], [99, 46, 110, 101, 116, 46, 120], [100, 101, 101, 112, 46, 97, 46, 110, 101, 116, 46, 120], [110, 101, 116, 46, 120], [115, 46, 116, 46, 110, 101, 116, 46, 120]])), (10, I ([[42, 46, 108, 97, 98, 46, 110, 101, 116, 46, 120], [42, 46, 110, 101, 116, 46, 120], [97, 46, 110, 101, 116, 46, 120], [98, 46, 110, 101, 116, 46, 120], [99, 46, 110, 101, 116, 46, 120], [100, 101, 101, 112, 46, 97, 46, 110, 101, 116, 46, 120], [110, 101, 116, 46, 120], [115, 46, 116, 46, 110, 101, 116, 46, 120]].length : Int)), (11, I (i1 : Int))]) (fun s2 => [.box 25 [.d (Sl (eN .i64) s2.1.L), I s2.1.v_at], .box 23 [.ptr 0 0], .box 51 [S [], .d (Sl e_api_Record [])], .row 38 8 s2.2.length (s2.2.flatMap e_api_Record), .box 51 [S [110, 101, 116, 46, 120], .sl 3 s2.2.length]]) ⟨⟨rfl, rfl, rfl, rfl, rfl, rfl, trivial⟩, [], rfl, .inl rfl⟩ (fun i1 x3 s2 y11 hx8 hlt hy9 => ?_) (?_)
    · refine go hΓ 6 rfl ?_
      refine j_condT rfl (decide_eq_true (Int.ofNat_lt.2 hlt)) ?_
      refine go hΓ 6 rfl ?_
      refine eo_o rfl (op_elemZ hΓ (enc := eS) (getZ_nat hx8) rfl rfl rfl rfl rfl (fun _ => rfl)) ?_
      obtain ⟨y12, hy12, h13⟩ := bi_ok hy9
      refine go_ops hΓ 8 rfl ?_
      refine eo_callF [0] (B y12.1) [.box 25 [.d (Sl (eN .i64) y12.2.L), I y12.2.v_at], .box 23 [.ptr 0 0], .box 51 [S [], .d (Sl e_api_Record [])], .row 38 8 s2.2.length (s2.2.flatMap e_api_Record), .box 51 [S [110, 101, 116, 46, 120], .sl 3 s2.2.length]] (callable Tryz.func13 rfl rfl) (c_lanemake_Stream_Flip hy12) rfl (Nat.le_of_ble_eq_true rfl) rfl rfl rfl rfl rfl rfl rfl rfl rfl rfl ?_
      refine go_ops hΓ 2 rfl ?_
      refine j_cond rfl (fun hb => ?_) (fun hb => ?_)
      · have h14 := cT h13 hb
        refine go hΓ 8 rfl ?_
        obtain rfl := Option.some.inj h14
        exact ⟨⟨rfl, rfl, rfl, rfl, rfl, get_eq rfl (w64_succ (Nat.lt_of_lt_of_le hlt hb7)), trivial⟩, [], rfl, .inl rfl⟩
      · have h15 := cF h13 hb
        refine go hΓ 4 rfl ?_
        refine eo_nilOwn (t := 0) 38 8 rfl (Nat.le_of_ble_eq_true rfl) ?_
        refine go_ops hΓ 6 rfl ?_
        refine eo_litT hΓ (enc := (eN .i64)) [1, 1, 2, 3] rfl rfl rfl rfl rfl rfl rfl rfl rfl rfl rfl rfl (Nat.le_of_ble_eq_true rfl) ?_
        obtain ⟨y16, hy16, h17⟩ := bi_ok h15
        refine eo_callF [0] (I y16.1) [.box 25 [.d (Sl (eN .i64) y16.2.L), I y16.2.v_at], .box 23 [.ptr 0 0], .box 51 [S [], .d (Sl e_api_Record [])], .row 38 8 s2.2.length (s2.2.flatMap e_api_Record), .box 51 [S [110, 101, 116, 46, 120], .sl 3 s2.2.length], .row 38 8 ([] : List T_api_Record).length (([] : List T_api_Record).flatMap e_api_Record)] (callable Tryz.func14 rfl rfl) (c_lanemake_Stream_Pick hy16) rfl (Nat.le_of_ble_eq_true rfl) rfl rfl rfl rfl rfl rfl rfl rfl rfl rfl ?_
        refine go_ops hΓ 3 rfl ?_
        obtain ⟨q21, hq21, h22⟩ := bi_ok h17
        obtain ⟨hb24, h25⟩ := gd_ok hq21
        replace hb24 := of_decide_eq_true hb24
        refine j_cutNZ [(1, .ptr 1 0), (2, .ptr 2 0), (3, .ptr 4 0), (6, .sl 5 q21.2.length), (9, .d (Sl eS [[42, 46, 108, 97, 98, 46, 110, 101, 116, 46, 120], [42, 46, 110, 101, 116, 46, 120], [97, 46, 110, 101, 116, 46, 120], [98, 46, 110, 101, 116, 46, 120], [99, 46, 110, 101, 116, 46, 120], [100, 101, 101, 112, 46, 97, 46, 110, 101, 116, 46, 120], [110, 101, 116, 46, 120], [115, 46, 116, 46, 110, 101, 116, 46, 120]])), (10, I ([[42, 46, 108, 97, 98, 46, 110, 101, 116, 46, 120], [42, 46, 110, 101, 116, 46, 120], [97, 46, 110, 101, 116, 46, 120], [98, 46, 110, 101, 116, 46, 120], [99, 46, 110, 101, 116, 46, 120], [100, 101, 101, 112, 46, 97, 46, 110, 101, 116, 46, 120], [110, 101, 116, 46, 120], [115, 46, 116, 46, 110, 101, 116, 46, 120]].length : Int)), (11, I (i1 : Int))] [.box 25 [.d (Sl (eN .i64) q21.1.L), I q21.1.v_at], .box 23 [.ptr 0 0], .box 51 [S [], .d (Sl e_api_Record [])], .row 38 8 s2.2.length (s2.2.flatMap e_api_Record), .box 51 [S [110, 101, 116, 46, 120], .sl 3 s2.2.length], .row 38 8 q21.2.length (q21.2.flatMap e_api_Record)] ?_ ?_
        · refine go hΓ 1 rfl ?_
          refine j_rangeG h25 (fun i18 s19 => [(1, .ptr 1 0), (2, .ptr 2 0), (3, .ptr 4 0), (5, S x3), (6, .sl 5 s19.2.length), (9, .d (Sl eS [[42, 46, 108, 97, 98, 46, 110, 101, 116, 46, 120], [42, 46, 110, 101, 116, 46, 120], [97, 46, 110, 101, 116, 46, 120], [98, 46, 110, 101, 116, 46, 120], [99, 46, 110, 101, 116, 46, 120], [100, 101, 101, 112, 46, 97, 46, 110, 101, 116, 46, 120], [110, 101, 116, 46, 120], [115, 46, 116, 46, 110, 101, 116, 46, 120]])), (10, I ([[42, 46, 108, 97, 98, 46, 110, 101, 116, 46, 120], [42, 46, 110, 101, 116, 46, 120], [97, 46, 110, 101, 116, 46, 120], [98, 46, 110, 101, 116, 46, 120], [99, 46, 110, 101, 116, 46, 120], [100, 101, 101, 112, 46, 97, 46, 110, 101, 116, 46, 120], [110, 101, 116, 46, 120], [115, 46, 116, 46, 110, 101, 116, 46, 120]].length : Int)), (11, I (i1 : Int)), (19, I y16.1), (20, I (i18 : Int))]) (fun s19 => [.box 25 [.d (Sl (eN .i64) s19.1.L), I s19.1.v_at], .box 23 [.ptr 0 0], .box 51 [S [], .d (Sl e_api_Record [])], .row 38 8 s2.2.length (s2.2.flatMap e_api_Record), .box 51 [S [110, 101, 116, 46, 120], .sl 3 s2.2.length], .row 38 8 s19.2.length (s19.2.flatMap e_api_Record)]) ⟨⟨rfl, rfl, rfl, rfl, rfl, rfl, rfl, rfl, rfl, rfl, trivial⟩, [], rfl, .inl rfl⟩ (fun i18 s19 y29 hlt hy27 => ?_) (fun hge => ?_)
          · refine go hΓ 6 rfl ?_
            refine j_condT rfl (decide_eq_true hlt) ?_
            obtain ⟨y30, hy30, h31⟩ := bi_ok hy27
            refine go hΓ 8 rfl ?_
            refine eo_callF [0] (.agg [S y30.1.Name, I y30.1.Kind, B y30.1.Addr.Six, .d (.v (.int .u64 y30.1.Addr.Hi)), .d (.v (.int .u64 y30.1.Addr.Lo)), S y30.1.To, S y30.1.Words, I y30.1.Life]) [.box 25 [.d (Sl (eN .i64) y30.2.L), I y30.2.v_at], .box 23 [.ptr 0 0], .box 51 [S [], .d (Sl e_api_Record [])], .row 38 8 s2.2.length (s2.2.flatMap e_api_Record), .box 51 [S [110, 101, 116, 46, 120], .sl 3 s2.2.length], .row 38 8 s19.2.length (s19.2.flatMap e_api_Record)] (callable Tryz.func82 rfl rfl) (c_lanemake_Stream_record hy30) rfl (Nat.le_of_ble_eq_true rfl) rfl rfl rfl rfl rfl rfl rfl rfl rfl rfl ?_
            refine eo_alloc hΓ rfl rfl rfl (Nat.le_of_ble_eq_true rfl) ?_
            refine eo_store hΓ rfl rfl rfl rfl rfl rfl rfl rfl (Nat.le_of_ble_eq_true rfl) ?_
            refine eo_hp [.box 25 [.d (Sl (eN .i64) y30.2.L), I y30.2.v_at], .box 23 [.ptr 0 0], .box 51 [S [], .d (Sl e_api_Record [])], .row 38 8 s2.2.length (s2.2.flatMap e_api_Record), .box 51 [S [110, 101, 116, 46, 120], .sl 3 s2.2.length], .row 38 8 s19.2.length (s19.2.flatMap e_api_Record), .box 38 [S y30.1.Name, I y30.1.Kind, B y30.1.Addr.Six, .d (.v (.int .u64 y30.1.Addr.Hi)), .d (.v (.int .u64 y30.1.Addr.Lo)), S y30.1.To, S y30.1.Words, I y30.1.Life]] rfl ?_
            refine go_ops hΓ 8 rfl ?_
            obtain ⟨q32, hq32, h33⟩ := bi_ok h31
            refine o_cut 11 [(1, .ptr 1 0), (2, .ptr 2 0), (3, .ptr 4 0), (5, S x3), (6, .sl 5 s19.2.length), (7, .ptr 6 0), (9, .d (Sl eS [[42, 46, 108, 97, 98, 46, 110, 101, 116, 46, 120], [42, 46, 110, 101, 116, 46, 120], [97, 46, 110, 101, 116, 46, 120], [98, 46, 110, 101, 116, 46, 120], [99, 46, 110, 101, 116, 46, 120], [100, 101, 101, 112, 46, 97, 46, 110, 101, 116, 46, 120], [110, 101, 116, 46, 120], [115, 46, 116, 46, 110, 101, 116, 46, 120]])), (10, I ([[42, 46, 108, 97, 98, 46, 110, 101, 116, 46, 120], [42, 46, 110, 101, 116, 46, 120], [97, 46, 110, 101, 116, 46, 120], [98, 46, 110, 101, 116, 46, 120], [99, 46, 110, 101, 116, 46, 120], [100, 101, 101, 112, 46, 97, 46, 110, 101, 116, 46, 120], [110, 101, 116, 46, 120], [115, 46, 116, 46, 110, 101, 116, 46, 120]].length : Int)), (11, I (i1 : Int)), (19, I y16.1), (20, I (i18 : Int)), (39, B q32)] [.box 25 [.d (Sl (eN .i64) y30.2.L), I y30.2.v_at], .box 23 [.ptr 0 0], .box 51 [S [], .d (Sl e_api_Record [])], .row 38 8 s2.2.length (s2.2.flatMap e_api_Record), .box 51 [S [110, 101, 116, 46, 120], .sl 3 s2.2.length], .row 38 8 s19.2.length (s19.2.flatMap e_api_Record), .box 38 [S y30.1.Name, I y30.1.Kind, B y30.1.Addr.Six, .d (.v (.int .u64 y30.1.Addr.Hi)), .d (.v (.int .u64 y30.1.Addr.Lo)), S y30.1.To, S y30.1.Words, I y30.1.Life]] ?_ ?_
            · refine eo_gsplit rfl rfl (fun hb => ?_) (fun hb => ?_)
              · have h34 := cT hq32 hb
                refine go_ops hΓ 12 rfl ?_
                obtain rfl := Option.some.inj h34
                exact ⟨⟨rfl, rfl, rfl, rfl, rfl, rfl, rfl, rfl, rfl, rfl, rfl, rfl, trivial⟩, [], rfl, .inl rfl⟩
              · have h35 := cF hq32 hb
                refine go_ops hΓ 4 rfl ?_
                obtain ⟨q36, hq36, h37⟩ := bi_ok h35
                refine o_cut 6 [(1, .ptr 1 0), (2, .ptr 2 0), (3, .ptr 4 0), (5, S x3), (6, .sl 5 s19.2.length), (7, .ptr 6 0), (9, .d (Sl eS [[42, 46, 108, 97, 98, 46, 110, 101, 116, 46, 120], [42, 46, 110, 101, 116, 46, 120], [97, 46, 110, 101, 116, 46, 120], [98, 46, 110, 101, 116, 46, 120], [99, 46, 110, 101, 116, 46, 120], [100, 101, 101, 112, 46, 97, 46, 110, 101, 116, 46, 120], [110, 101, 116, 46, 120], [115, 46, 116, 46, 110, 101, 116, 46, 120]])), (10, I ([[42, 46, 108, 97, 98, 46, 110, 101, 116, 46, 120], [42, 46, 110, 101, 116, 46, 120], [97, 46, 110, 101, 116, 46, 120], [98, 46, 110, 101, 116, 46, 120], [99, 46, 110, 101, 116, 46, 120], [100, 101, 101, 112, 46, 97, 46, 110, 101, 116, 46, 120], [110, 101, 116, 46, 120], [115, 46, 116, 46, 110, 101, 116, 46, 120]].length : Int)), (11, I (i1 : Int)), (19, I y16.1), (20, I (i18 : Int)), (28, B false), (38, B q36)] [.box 25 [.d (Sl (eN .i64) y30.2.L), I y30.2.v_at], .box 23 [.ptr 0 0], .box 51 [S [], .d (Sl e_api_Record [])], .row 38 8 s2.2.length (s2.2.flatMap e_api_Record), .box 51 [S [110, 101, 116, 46, 120], .sl 3 s2.2.length], .row 38 8 s19.2.length (s19.2.flatMap e_api_Record), .box 38 [S y30.1.Name, I y30.1.Kind, B y30.1.Addr.Six, .d (.v (.int .u64 y30.1.Addr.Hi)), .d (.v (.int .u64 y30.1.Addr.Lo)), S y30.1.To, S y30.1.Words, I y30.1.Life]] ?_ ?_
                · refine eo_gsplit rfl rfl (fun hb => ?_) (fun hb => ?_)
                  · have h38 := cT hq36 hb
                    obtain ⟨x39, hx39, h40⟩ := bi_ok h38
                    have hj41 := getZ_at hx39
                    refine go_ops hΓ 1 rfl ?_
                    refine eo_guard rfl ?_
                    refine eo_o rfl (op_elemRowZ hΓ hx39 rfl rfl rfl rfl rfl rfl) ?_
                    refine go_ops hΓ 1 rfl ?_
                    refine eo_guard rfl ?_
                    refine eo_o rfl (op_loadRowZ hΓ (enc := e_api_Record) ((0 : Int).toNat) 1 hj41 rfl rfl rfl rfl (fun _ => rfl) (g := I x39.Kind) rfl) ?_
                    refine go_ops hΓ 3 rfl ?_
                    obtain rfl := Option.some.inj h40
                    exact ⟨⟨rfl, rfl, rfl, rfl, rfl, rfl, rfl, rfl, rfl, rfl, rfl, rfl, rfl, trivial⟩, [], rfl, .inl rfl⟩
                  · have h42 := cF hq36 hb
                    refine go_ops hΓ 7 rfl ?_
                    obtain rfl := Option.some.inj h42
                    exact ⟨⟨rfl, rfl, rfl, rfl, rfl, rfl, rfl, rfl, rfl, rfl, rfl, rfl, rfl, trivial⟩, [], rfl, .inl rfl⟩
                · refine go_ops hΓ 2 rfl ?_
                  obtain rfl := Option.some.inj h37
                  exact ⟨⟨rfl, rfl, rfl, rfl, rfl, rfl, rfl, rfl, rfl, rfl, rfl, rfl, trivial⟩, [], rfl, .inl rfl⟩
            · refine go_ops hΓ 1 rfl ?_
              obtain ⟨q43, hq43, h44⟩ := bi_ok h33
              refine o_cut 3 [(1, .ptr 1 0), (2, .ptr 2 0), (3, .ptr 4 0), (5, S x3), (6, .sl 5 s19.2.length), (7, .ptr 6 0), (9, .d (Sl eS [[42, 46, 108, 97, 98, 46, 110, 101, 116, 46, 120], [42, 46, 110, 101, 116, 46, 120], [97, 46, 110, 101, 116, 46, 120], [98, 46, 110, 101, 116, 46, 120], [99, 46, 110, 101, 116, 46, 120], [100, 101, 101, 112, 46, 97, 46, 110, 101, 116, 46, 120], [110, 101, 116, 46, 120], [115, 46, 116, 46, 110, 101, 116, 46, 120]])), (10, I ([[42, 46, 108, 97, 98, 46, 110, 101, 116, 46, 120], [42, 46, 110, 101, 116, 46, 120], [97, 46, 110, 101, 116, 46, 120], [98, 46, 110, 101, 116, 46, 120], [99, 46, 110, 101, 116, 46, 120], [100, 101, 101, 112, 46, 97, 46, 110, 101, 116, 46, 120], [110, 101, 116, 46, 120], [115, 46, 116, 46, 110, 101, 116, 46, 120]].length : Int)), (11, I (i1 : Int)), (19, I y16.1), (20, I (i18 : Int)), (43, B q43.2)] [.box 25 [.d (Sl (eN .i64) q43.1.L), I q43.1.v_at], .box 23 [.ptr 0 0], .box 51 [S [], .d (Sl e_api_Record [])], .row 38 8 s2.2.length (s2.2.flatMap e_api_Record), .box 51 [S [110, 101, 116, 46, 120], .sl 3 s2.2.length], .row 38 8 s19.2.length (s19.2.flatMap e_api_Record), .box 38 [S y30.1.Name, I y30.1.Kind, B y30.1.Addr.Six, .d (.v (.int .u64 y30.1.Addr.Hi)), .d (.v (.int .u64 y30.1.Addr.Lo)), S y30.1.To, S y30.1.Words, I y30.1.Life]] ?_ ?_
              · refine eo_gsplit rfl rfl (fun hb => ?_) (fun hb => ?_)
                · have h45 := cT hq43 hb
                  refine go_ops hΓ 4 rfl ?_
                  obtain rfl := Option.some.inj h45
                  exact ⟨⟨rfl, rfl, rfl, rfl, rfl, rfl, rfl, rfl, rfl, rfl, rfl, rfl, trivial⟩, [], rfl, .inl rfl⟩
                · have h46 := cF hq43 hb
                  obtain ⟨y47, hy47, h48⟩ := bi_ok h46
                  refine go_ops hΓ 1 rfl ?_
                  refine eo_guard rfl ?_
                  refine eo_callF [0] (B y47.1) [.box 25 [.d (Sl (eN .i64) y47.2.L), I y47.2.v_at], .box 23 [.ptr 0 0], .box 51 [S [], .d (Sl e_api_Record [])], .row 38 8 s2.2.length (s2.2.flatMap e_api_Record), .box 51 [S [110, 101, 116, 46, 120], .sl 3 s2.2.length], .row 38 8 s19.2.length (s19.2.flatMap e_api_Record), .box 38 [S y30.1.Name, I y30.1.Kind, B y30.1.Addr.Six, .d (.v (.int .u64 y30.1.Addr.Hi)), .d (.v (.int .u64 y30.1.Addr.Lo)), S y30.1.To, S y30.1.Words, I y30.1.Life]] (callable Tryz.func13 rfl rfl) (c_lanemake_Stream_Flip hy47) rfl (Nat.le_of_ble_eq_true rfl) rfl rfl rfl rfl rfl rfl rfl rfl rfl rfl ?_
                  refine go_ops hΓ 2 rfl ?_
                  obtain rfl := Option.some.inj h48
                  exact ⟨⟨rfl, rfl, rfl, rfl, rfl, rfl, rfl, rfl, rfl, rfl, rfl, rfl, trivial⟩, [], rfl, .inl rfl⟩
              · refine go_ops hΓ 2 rfl ?_
                refine j_cond rfl (fun hb => ?_) (fun hb => ?_)
                · have h49 := cT h44 hb
                  refine go hΓ 3 rfl ?_
                  refine eo_litT hΓ (enc := e_api_Record) [y30.1] rfl rfl rfl rfl rfl rfl rfl rfl rfl rfl rfl rfl (Nat.le_of_ble_eq_true rfl) ?_
                  obtain ⟨y50, hy50, h51⟩ := bi_ok h49
                  refine eo_appendT hΓ (enc := e_api_Record) hy50 rfl rfl rfl rfl rfl rfl rfl rfl rfl (fun _ => rfl) rfl rfl rfl rfl ?_
                  refine go_ops hΓ 8 rfl ?_
                  obtain rfl := Option.some.inj h51
                  exact ⟨⟨rfl, rfl, rfl, rfl, rfl, rfl, rfl, rfl, rfl, get_eq rfl (w64_succ (by omega)), trivial⟩, [_], rfl, .inr ⟨HB.mk rfl, FB.mk rfl, (Nat.le_of_ble_eq_true rfl)⟩⟩
                · have h52 := cF h44 hb
                  refine go hΓ 7 rfl ?_
                  obtain rfl := Option.some.inj h52
                  exact ⟨⟨rfl, rfl, rfl, rfl, rfl, rfl, rfl, rfl, rfl, get_eq rfl (w64_succ (by omega)), trivial⟩, [_], rfl, .inr ⟨HB.mk rfl, FB.mk rfl, (Nat.le_of_ble_eq_true rfl)⟩⟩
          · refine go hΓ 6 rfl ?_
            refine j_condF rfl (decide_eq_false hge) ?_
            refine go hΓ 4 rfl ?_
            exact ⟨⟨rfl, rfl, rfl, rfl, rfl, rfl, rfl, trivial⟩, [], rfl, .inl rfl⟩
        · obtain ⟨y53, hy53, h54⟩ := bi_ok h22
          refine go hΓ 4 rfl ?_
          refine eo_callF [5] (.tup []) [.box 25 [.d (Sl (eN .i64) q21.1.L), I q21.1.v_at], .box 23 [.ptr 0 0], .box 51 [S [], .d (Sl e_api_Record [])], .row 38 8 s2.2.length (s2.2.flatMap e_api_Record), .box 51 [S [110, 101, 116, 46, 120], .sl 3 s2.2.length], .row 38 8 y53.length (y53.flatMap e_api_Record)] (callable Tryz.func101 rfl rfl) (c_slices_SortStableFunc_api_Record_api_Record hy53) rfl (Nat.le_of_ble_eq_true rfl) rfl rfl rfl rfl rfl rfl rfl rfl rfl rfl ?_
          obtain ⟨hg56, h55⟩ := gd_ok h54
          refine eo_relen 6 rfl (of_decide_eq_true hg56).symm ?_
          obtain ⟨y57, hy57, h58⟩ := bi_ok h55
          refine go_ops hΓ 6 rfl ?_
          refine eo_callF [5, 0, 1] (.sl 5 y57.1.length) [.box 25 [.d (Sl (eN .i64) y57.2.L), I y57.2.v_at], .box 23 [.ptr 0 0], .box 51 [S [], .d (Sl e_api_Record [])], .row 38 8 s2.2.length (s2.2.flatMap e_api_Record), .box 51 [S [110, 101, 116, 46, 120], .sl 3 s2.2.length], .row 38 8 y57.1.length (y57.1.flatMap e_api_Record)] (callable Tryz.func104 rfl rfl) (c_slices_CompactFunc_api_Record_api_Record hy57) rfl (Nat.le_of_ble_eq_true rfl) rfl rfl rfl rfl rfl rfl rfl rfl rfl rfl ?_
          refine go_ops hΓ 7 rfl ?_
          refine eo_shr 5 [6, 53, 56] _ [.box 25 [.d (Sl (eN .i64) y57.2.L), I y57.2.v_at], .box 23 [.ptr 0 0], .box 51 [S [], .d (Sl e_api_Record [])], .row 38 8 s2.2.length (s2.2.flatMap e_api_Record), .box 51 [S [110, 101, 116, 46, 120], .sl 3 s2.2.length], .dead] rfl rfl rfl (Nat.le_of_ble_eq_true rfl) ?_
          obtain ⟨y59, hy59, h60⟩ := bi_ok h58
          refine eo_forg 3 [.box 25 [.d (Sl (eN .i64) y57.2.L), I y57.2.v_at], .box 23 [.ptr 0 0], .box 51 [S [], .d (Sl e_api_Record [])], .row 38 8 s2.2.length (s2.2.flatMap e_api_Record), .box 51 [S [110, 101, 116, 46, 120], .junk], .dead] rfl (Nat.le_of_ble_eq_true rfl) ?_
          refine eo_appendT hΓ (enc := e_api_Record) hy59 rfl rfl rfl rfl rfl rfl rfl rfl rfl (fun _ => rfl) rfl rfl rfl rfl ?_
          refine go_ops hΓ 1 rfl ?_
          refine eo_store hΓ rfl rfl rfl rfl rfl rfl rfl rfl (Nat.le_of_ble_eq_true rfl) ?_
          refine eo_hp [.box 25 [.d (Sl (eN .i64) y57.2.L), I y57.2.v_at], .box 23 [.ptr 0 0], .box 51 [S [], .d (Sl e_api_Record [])], .row 38 8 y59.length (y59.flatMap e_api_Record), .box 51 [S [110, 101, 116, 46, 120], .sl 3 y59.length], .dead] rfl ?_
          refine go_ops hΓ 7 rfl ?_
          obtain rfl := Option.some.inj h60
          exact ⟨⟨rfl, rfl, rfl, rfl, rfl, get_eq rfl (w64_succ (Nat.lt_of_lt_of_le hlt hb7)), trivial⟩, [_], rfl, .inr ⟨HB.mk rfl, FB.mk rfl, (Nat.le_of_ble_eq_true rfl)⟩⟩
    · refine go hΓ 6 rfl ?_
      refine j_condF rfl (decide_eq_false (Int.lt_irrefl _)) ?_
      refine go hΓ 4 rfl ?_
      exact ⟨⟨rfl, rfl, rfl, trivial⟩, [], rfl, .inl rfl⟩
  · obtain ⟨y61, hy61, h62⟩ := bi_ok h5
    refine go hΓ 5 rfl ?_
    refine eo_callF [0] (B y61.1) [.box 25 [.d (Sl (eN .i64) y61.2.L), I y61.2.v_at], .box 23 [.ptr 0 0], .box 51 [S [], .d (Sl e_api_Record [])], .row 38 8 q4.2.length (q4.2.flatMap e_api_Record), .box 51 [S [110, 101, 116, 46, 120], .sl 3 q4.2.length]] (callable Tryz.func13 rfl rfl) (c_lanemake_Stream_Flip hy61) rfl (Nat.le_of_ble_eq_true rfl) rfl rfl rfl rfl rfl rfl rfl rfl rfl rfl ?_
    obtain ⟨q63, hq63, h64⟩ := bi_ok h62
    refine go_ops hΓ 2 rfl ?_
    refine j_cutNZ [(2, .ptr 2 0), (3, .ptr 4 0)] [.box 25 [.d (Sl (eN .i64) q63.1.L), I q63.1.v_at], .box 23 [.ptr 0 0], .box 51 [S [], .d (Sl e_api_Record [])], .row 38 8 q4.2.length (q4.2.flatMap e_api_Record), .box 51 [S q63.2, .sl 3 q4.2.length]] ?_ ?_
    · refine j_cond rfl (fun hb => ?_) (fun hb => ?_)
      · have h65 := cT hq63 hb
        obtain ⟨y66, hy66, h67⟩ := bi_ok h65
        refine go hΓ 2 rfl ?_
        refine eo_callF [0] (S y66.1) [.box 25 [.d (Sl (eN .i64) y66.2.L), I y66.2.v_at], .box 23 [.ptr 0 0], .box 51 [S [], .d (Sl e_api_Record [])], .row 38 8 q4.2.length (q4.2.flatMap e_api_Record), .box 51 [S [110, 101, 116, 46, 120], .sl 3 q4.2.length]] (callable Tryz.func15 rfl rfl) (c_lanemake_Stream_Domain hy66) rfl (Nat.le_of_ble_eq_true rfl) rfl rfl rfl rfl rfl rfl rfl rfl rfl rfl ?_
        refine go_ops hΓ 1 rfl ?_
        refine eo_store hΓ rfl rfl rfl rfl rfl rfl rfl rfl (Nat.le_of_ble_eq_true rfl) ?_
        refine eo_hp [.box 25 [.d (Sl (eN .i64) y66.2.L), I y66.2.v_at], .box 23 [.ptr 0 0], .box 51 [S [], .d (Sl e_api_Record [])], .row 38 8 q4.2.length (q4.2.flatMap e_api_Record), .box 51 [S y66.1, .sl 3 q4.2.length]] rfl ?_
        refine go_ops hΓ 1 rfl ?_
        obtain rfl := Option.some.inj h67
        exact ⟨⟨rfl, rfl, trivial⟩, [], rfl, .inl rfl⟩
      · have h68 := cF hq63 hb
        refine go hΓ 1 rfl ?_
        obtain rfl := Option.some.inj h68
        exact ⟨⟨rfl, rfl, trivial⟩, [], rfl, .inl rfl⟩
    · refine go hΓ 4 rfl ?_
      refine eo_shr 3 [65] _ [.box 25 [.d (Sl (eN .i64) q63.1.L), I q63.1.v_at], .box 23 [.ptr 0 0], .box 51 [S [], .d (Sl e_api_Record [])], .dead, .box 51 [S q63.2, .d (Sl e_api_Record q4.2)]] rfl rfl rfl (Nat.le_of_ble_eq_true rfl) ?_
      refine eo_store hΓ rfl rfl rfl rfl rfl rfl rfl rfl (Nat.le_of_ble_eq_true rfl) ?_
      refine eo_hp [.box 25 [.d (Sl (eN .i64) q63.1.L), I q63.1.v_at], .box 23 [.ptr 0 0], .box 51 [S q63.2, .d (Sl e_api_Record q4.2)], .dead, .box 51 [S q63.2, .d (Sl e_api_Record q4.2)]] rfl ?_
      refine go_ops hΓ 3 rfl ?_
      obtain rfl := Option.some.inj h64
      exact fin_objs hΓ [_, _, _, _] (.inr rfl) rfl rfl rfl rfl (.inr ⟨HB.mk rfl, rfl⟩)

theorem c_laneref1_LabelForm {s : Str} {r : Bool} (h : m_laneref1_LabelForm s = some r) : Pure Tryz.prog 117 [S s] (B r) := by
  refine Pure.enter (Fr.of 0 _) Tryz.func117 rfl (Fr.of_ok _) rfl rfl ?_
  refine go_in ?_
  unfold m_laneref1_LabelForm at h
  refine go hΓ 13 rfl ?_
  refine j_cond rfl (fun hb => ?_) (fun hb => ?_)
  · have h1 := cT h hb
    refine go hΓ 7 rfl ?_
    obtain rfl := Option.some.inj h1
    exact fin_pure hΓ (.inr rfl) rfl rfl
  · have h2 := cF h hb
    obtain ⟨y3, hy3, h4⟩ := bi_ok h2
    refine go hΓ 5 rfl ?_
    refine eo_callP (callable Tryz.func220 rfl rfl) (c_strings_TrimPrefix hy3) rfl (Nat.le_of_ble_eq_true rfl) rfl rfl rfl rfl rfl ?_
    refine go_ops hΓ 8 rfl ?_
    obtain ⟨q5, hq5, h6⟩ := bi_ok h4
    refine o_cut 4 [(0, S y3), (2, B false), (14, B q5)] [] ?_ ?_
    · refine eo_gsplit rfl rfl (fun hb => ?_) (fun hb => ?_)
      · have h7 := cT hq5 hb
        obtain ⟨y8, hy8, h9⟩ := bi_ok h7
        refine go_ops hΓ 1 rfl ?_
        refine eo_guard rfl ?_
        refine eo_callP (callable Tryz.func176 rfl rfl) (c_strings_Trim hy8) rfl (Nat.le_of_ble_eq_true rfl) rfl rfl rfl rfl rfl ?_
        refine go_ops hΓ 3 rfl ?_
        obtain rfl := Option.some.inj h9
        exact ⟨⟨rfl, rfl, rfl, trivial⟩, [], rfl, .inl rfl⟩
      · have h10 := cF hq5 hb
        refine go_ops hΓ 5 rfl ?_
        obtain rfl := Option.some.inj h10
        exact ⟨⟨rfl, rfl, rfl, trivial⟩, [], rfl, .inl rfl⟩
    · refine go_ops hΓ 1 rfl ?_
      obtain ⟨q11, hq11, h12⟩ := bi_ok h6
      refine o_cut 4 [(0, S y3), (2, B false), (19, B q11)] [] ?_ ?_
      · refine eo_gsplit rfl rfl (fun hb => ?_) (fun hb => ?_)
        · have h13 := cT hq11 hb
          obtain ⟨c14, hc14, h15⟩ := bi_ok h13
          refine go_ops hΓ 1 rfl ?_
          refine eo_guard rfl ?_
          refine eo_o rfl (op_byteZ hΓ hc14 rfl rfl rfl rfl) ?_
          refine go_ops hΓ 3 rfl ?_
          obtain rfl := Option.some.inj h15
          exact ⟨⟨rfl, rfl, rfl, trivial⟩, [], rfl, .inl rfl⟩
        · have h16 := cF hq11 hb
          refine go_ops hΓ 5 rfl ?_
          obtain rfl := Option.some.inj h16
          exact ⟨⟨rfl, rfl, rfl, trivial⟩, [], rfl, .inl rfl⟩
      · refine go_ops hΓ 1 rfl ?_
        obtain ⟨q17, hq17, h18⟩ := bi_ok h12
        refine o_cut 7 [(2, B false), (27, B q17)] [] ?_ ?_
        · refine eo_gsplit rfl rfl (fun hb => ?_) (fun hb => ?_)
          · have h19 := cT hq17 hb
            obtain ⟨c20, hc20, h21⟩ := bi_ok h19
            refine go_ops hΓ 4 rfl ?_
            refine eo_guard rfl ?_
            refine eo_o rfl (op_byteZ hΓ hc20 rfl rfl rfl rfl) ?_
            refine go_ops hΓ 3 rfl ?_
            obtain rfl := Option.some.inj h21
            exact ⟨⟨rfl, rfl, trivial⟩, [], rfl, .inl rfl⟩
          · have h22 := cF hq17 hb
            refine go_ops hΓ 8 rfl ?_
            obtain rfl := Option.some.inj h22
            exact ⟨⟨rfl, rfl, trivial⟩, [], rfl, .inl rfl⟩
        · refine go_ops hΓ 4 rfl ?_
          obtain rfl := Option.some.inj h18
          exact fin_pure hΓ (.inr rfl) rfl rfl

theorem c_laneref1_DomainFault {s : Str} {r : Int} (h : m_laneref1_DomainFault s = some r) : Pure Tryz.prog 31 [S s] (I r) := by
  refine Pure.enter (Fr.of 0 _) Tryz.func31 rfl (Fr.of_ok _) rfl rfl ?_
  refine go_in ?_
  unfold m_laneref1_DomainFault at h
  refine go hΓ 13 rfl ?_
  refine j_cond rfl (fun hb => ?_) (fun hb => ?_)
  · have h1 := cT h hb
    refine go hΓ 7 rfl ?_
    obtain rfl := Option.some.inj h1
    exact fin_pure hΓ (.inr rfl) rfl rfl
  · have h2 := cF h hb
    obtain ⟨y3, hy3, h4⟩ := bi_ok h2
    refine go hΓ 6 rfl ?_
    refine eo_callP (callable Tryz.func116 rfl rfl) (Pure.rows (c_strings_Split hy3) rfl rfl) rfl (Nat.le_of_ble_eq_true rfl) rfl rfl rfl rfl rfl ?_
    refine go_ops hΓ 4 rfl ?_
    obtain ⟨q8, hq8, h9⟩ := bi_ok h4
    refine j_bound 9 rfl fun hb11 => ?_
    refine j_cutEZ (R := fun a10 => q8 = .go a10) (fun a10 => []) (fun a10 => []) ?_ ?_
    · refine go hΓ 1 rfl ?_
      refine j_range y3 hq8 (fun i5 s6 => [(9, .d (Sl eS y3)), (10, I (y3.length : Int)), (11, I (i5 : Int))]) (fun s6 => []) ⟨⟨rfl, rfl, rfl, trivial⟩, [], rfl, .inl rfl⟩ (fun i5 x7 s6 y15 hx12 hlt hy13 hout14 => ?_) (fun s6 hgo => ?_)
      · refine go hΓ 6 rfl ?_
        refine j_condT rfl (decide_eq_true (Int.ofNat_lt.2 hlt)) ?_
        refine go hΓ 6 rfl ?_
        refine eo_o rfl (op_elemZ hΓ (enc := eS) (getZ_nat hx12) rfl rfl rfl rfl rfl (fun _ => rfl)) ?_
        obtain ⟨y16, hy16, h17⟩ := bi_ok hy13
        refine go_ops hΓ 7 rfl ?_
        refine eo_callP (callable Tryz.func117 rfl rfl) (c_laneref1_LabelForm hy16) rfl (Nat.le_of_ble_eq_true rfl) rfl rfl rfl rfl rfl ?_
        refine go_ops hΓ 3 rfl ?_
        refine j_cond rfl (fun hb => ?_) (fun hb => ?_)
        · have h18 := cT h17 hb
          refine go hΓ 8 rfl ?_
          obtain ⟨v19, hv19, h20⟩ := bi_ok h18
          obtain rfl := Option.some.inj h20
          obtain rfl := hout14 _ rfl
          obtain rfl := Option.some.inj h9
          refine go hΓ 4 rfl ?_
          obtain rfl := Option.some.inj hv19
          exact fin_pure hΓ (.inr rfl) rfl rfl
        · have h21 := cF h17 hb
          refine go hΓ 7 rfl ?_
          obtain rfl := Option.some.inj h21
          exact ⟨_, rfl, ⟨⟨rfl, rfl, get_eq rfl (w64_succ (Nat.lt_of_lt_of_le hlt hb11)), trivial⟩, [], rfl, .inl rfl⟩⟩
      · subst hgo
        refine go hΓ 6 rfl ?_
        refine j_condF rfl (decide_eq_false (Int.lt_irrefl _)) ?_
        refine go hΓ 4 rfl ?_
        exact ⟨_, rfl, ⟨trivial, [], rfl, .inl rfl⟩⟩
    · intro a10 ha
      subst ha
      replace h9 := goI_l h9
      refine go hΓ 7 rfl ?_
      obtain rfl := Option.some.inj h9
      exact fin_pure hΓ (.inr rfl) rfl rfl

theorem c_laneref1_Kinds {r : List Int} (h : m_laneref1_Kinds = some r) : Pure Tryz.prog 34 [] (.d (Sl (eN .i64) r)) := by
  refine Pure.enter (Fr.of 0 _) Tryz.func34 rfl (Fr.of_ok _) rfl rfl ?_
  refine go_in ?_
  unfold m_laneref1_Kinds at h
  refine go hΓ 7 rfl ?_
  refine eo_litT hΓ (enc := (eN .i64)) [1, 5, 12, 16, 28] rfl rfl rfl rfl rfl rfl rfl rfl rfl rfl rfl rfl (Nat.le_of_ble_eq_true rfl) ?_
  refine go_ops hΓ 4 rfl ?_
  obtain rfl := Option.some.inj h
  exact fin_pure hΓ (.inr rfl) rfl rfl

theorem c_slices_Index_int_int {s : List Int} {v : Int} {r : Int} (h : m_slices_Index_int_int s v = some r) : Pure Tryz.prog 118 [.d (Sl (eN .i64) s), I v] (I r) := by
  refine Pure.enter (Fr.of 0 _) Tryz.func118 rfl (Fr.of_ok _) rfl rfl ?_
  refine go_in ?_
  unfold m_slices_Index_int_int at h
  refine go hΓ 13 rfl ?_
  obtain ⟨q4, hq4, h5⟩ := bi_ok h
  refine j_bound 0 rfl fun hb7 => ?_
  refine j_cutEZ (R := fun a6 => q4 = .go a6) (fun a6 => []) (fun a6 => []) ?_ ?_
  · refine go hΓ 1 rfl ?_
    refine j_range s hq4 (fun i1 s2 => [(0, .d (Sl (eN .i64) s)), (1, I v), (7, I (s.length : Int)), (8, I (i1 : Int))]) (fun s2 => []) ⟨⟨rfl, rfl, rfl, rfl, trivial⟩, [], rfl, .inl rfl⟩ (fun i1 x3 s2 y11 hx8 hlt hy9 hout10 => ?_) (fun s2 hgo => ?_)
    · refine go hΓ 6 rfl ?_
      refine j_condT rfl (decide_eq_true (Int.ofNat_lt.2 hlt)) ?_
      refine go hΓ 15 rfl ?_
      refine eo_o rfl (op_elemZ hΓ (enc := (eN .i64)) (getZ_nat hx8) rfl rfl rfl rfl rfl (fun _ => rfl)) ?_
      refine go_ops hΓ 4 rfl ?_
      refine j_cond rfl (fun hb => ?_) (fun hb => ?_)
      · have h12 := cT hy9 hb
        refine go hΓ 9 rfl ?_
        obtain ⟨v13, hv13, h14⟩ := bi_ok h12
        obtain rfl := Option.some.inj h14
        obtain rfl := hout10 _ rfl
        obtain rfl := Option.some.inj h5
        refine go hΓ 4 rfl ?_
        obtain rfl := Option.some.inj hv13
        exact fin_pure hΓ (.inr rfl) rfl rfl
      · have h15 := cF hy9 hb
        refine go hΓ 7 rfl ?_
        obtain rfl := Option.some.inj h15
        exact ⟨_, rfl, ⟨⟨rfl, rfl, rfl, get_eq rfl (w64_succ (Nat.lt_of_lt_of_le hlt hb7)), trivial⟩, [], rfl, .inl rfl⟩⟩
    · subst hgo
      refine go hΓ 6 rfl ?_
      refine j_condF rfl (decide_eq_false (Int.lt_irrefl _)) ?_
      refine go hΓ 4 rfl ?_
      exact ⟨_, rfl, ⟨trivial, [], rfl, .inl rfl⟩⟩
  · intro a6 ha
    subst ha
    replace h5 := goI_l h5
    refine go hΓ 7 rfl ?_
    obtain rfl := Option.some.inj h5
    exact fin_pure hΓ (.inr rfl) rfl rfl

theorem c_slices_Contains_int_int {s : List Int} {v : Int} {r : Bool} (h : m_slices_Contains_int_int s v = some r) : Pure Tryz.prog 33 [.d (Sl (eN .i64) s), I v] (B r) := by
  refine Pure.enter (Fr.of 0 _) Tryz.func33 rfl (Fr.of_ok _) rfl rfl ?_
  refine go_in ?_
  unfold m_slices_Contains_int_int at h
  obtain ⟨y1, hy1, h2⟩ := bi_ok h
  refine go hΓ 9 rfl ?_
  refine eo_callP (callable Tryz.func118 rfl rfl) (c_slices_Index_int_int hy1) rfl (Nat.le_of_ble_eq_true rfl) rfl rfl rfl rfl rfl ?_
  refine go_ops hΓ 5 rfl ?_
  obtain rfl := Option.some.inj h2
  exact fin_pure hΓ (.inr rfl) rfl rfl

theorem c_laneref2_AddrFault {a : T_api_Addr} {r : Int} (h : m_laneref2_AddrFault a = some r) : Pure Tryz.prog 39 [.agg [B a.Six, .d (.v (.int .u64 a.Hi)), .d (.v (.int .u64 a.Lo))]] (I r) := by
  refine Pure.enter (Fr.of 0 _) Tryz.func39 rfl (Fr.of_ok _) rfl rfl ?_
  refine go_in ?_
  unfold m_laneref2_AddrFault at h
  refine go hΓ 2 rfl ?_
  refine eo_box rfl rfl rfl rfl (Nat.le_of_ble_eq_true rfl) ?_
  refine go_ops hΓ 10 rfl ?_
  refine o_cut 9 [(15, B ((!a.Six) && ((decide ((a.Hi : Int) > 0)) || (decide ((a.Lo : Int) > 4294967295)))))] [.box 36 [B a.Six, .d (.v (.int .u64 a.Hi)), .d (.v (.int .u64 a.Lo))]] ?_ ?_
  · refine eo_gsplit rfl rfl (fun hb => ?_) (fun hb => ?_)
    · refine go_ops hΓ 4 rfl ?_
      refine o_cut 4 [(6, B true), (14, B ((decide ((a.Hi : Int) > 0)) || (decide ((a.Lo : Int) > 4294967295))))] [.box 36 [B a.Six, .d (.v (.int .u64 a.Hi)), .d (.v (.int .u64 a.Lo))]] ?_ ?_
      · refine eo_gsplit rfl rfl (fun hb => ?_) (fun hb => ?_)
        · refine go_ops hΓ 5 rfl ?_
          exact ⟨⟨rfl, get_b rfl (or_t hb), trivial⟩, [], rfl, .inl rfl⟩
        · refine go_ops hΓ 5 rfl ?_
          exact ⟨⟨rfl, get_b rfl (or_f hb), trivial⟩, [], rfl, .inl rfl⟩
      · refine go_ops hΓ 2 rfl ?_
        exact ⟨⟨get_b rfl (and_t hb), trivial⟩, [], rfl, .inl rfl⟩
    · refine go_ops hΓ 10 rfl ?_
      exact ⟨⟨get_b rfl (and_f hb), trivial⟩, [], rfl, .inl rfl⟩
  · refine go_ops hΓ 2 rfl ?_
    refine j_cond rfl (fun hb => ?_) (fun hb => ?_)
    · have h1 := cT h hb
      refine go hΓ 7 rfl ?_
      obtain rfl := Option.some.inj h1
      exact fin_pure hΓ (.inr rfl) rfl rfl
    · have h2 := cF h hb
      refine go hΓ 8 rfl ?_
      obtain rfl := Option.some.inj h2
      exact fin_pure hΓ (.inr rfl) rfl rfl

theorem c_laneref1_plain {s : Str} {r : Bool} (h : m_laneref1_plain s = some r) : Pure Tryz.prog 221 [S s] (B r) := by
  refine Pure.enter (Fr.of 0 _) Tryz.func221 rfl (Fr.of_ok _) rfl rfl ?_
  refine go_in ?_
  unfold m_laneref1_plain at h
  refine go hΓ 13 rfl ?_
  obtain ⟨q4, hq4, h5⟩ := bi_ok h
  obtain ⟨hb7, h8⟩ := gd_ok hq4
  replace hb7 := of_decide_eq_true hb7
  refine j_cutEZ (R := fun a6 => q4 = .go a6) (fun a6 => [(0, S s)]) (fun a6 => []) ?_ ?_
  · refine go hΓ 1 rfl ?_
    refine j_rangeI h8 (fun i1 s2 => [(0, S s), (5, I (s.length : Int)), (6, I (i1 : Int))]) (fun s2 => []) ⟨⟨rfl, rfl, rfl, trivial⟩, [], rfl, .inl rfl⟩ (fun i1 s2 y12 hlt hy10 hout11 => ?_) (fun s2 hgo hge => ?_)
    · refine go hΓ 6 rfl ?_
      refine j_condT rfl (decide_eq_true hlt) ?_
      obtain ⟨c13, hc13, h14⟩ := bi_ok hy10
      refine go hΓ 14 rfl ?_
      refine eo_o rfl (op_byteZ hΓ hc13 rfl rfl rfl rfl) ?_
      refine go_ops hΓ 2 rfl ?_
      obtain ⟨q15, hq15, h16⟩ := bi_ok h14
      refine o_cut 5 [(0, S s), (5, I (s.length : Int)), (6, I (i1 : Int)), (18, B q15)] [] ?_ ?_
      · refine eo_gsplit rfl rfl (fun hb => ?_) (fun hb => ?_)
        · have h17 := cT hq15 hb
          refine go_ops hΓ 6 rfl ?_
          obtain rfl := Option.some.inj h17
          exact ⟨⟨rfl, rfl, rfl, rfl, trivial⟩, [], rfl, .inl rfl⟩
        · have h18 := cF hq15 hb
          obtain ⟨c19, hc19, h20⟩ := bi_ok h18
          refine go_ops hΓ 2 rfl ?_
          refine eo_guard rfl ?_
          refine eo_o rfl (op_byteZ hΓ hc19 rfl rfl rfl rfl) ?_
          refine go_ops hΓ 3 rfl ?_
          obtain rfl := Option.some.inj h20
          exact ⟨⟨rfl, rfl, rfl, rfl, trivial⟩, [], rfl, .inl rfl⟩
      · refine go_ops hΓ 2 rfl ?_
        refine j_cond rfl (fun hb => ?_) (fun hb => ?_)
        · have h21 := cT h16 hb
          refine go hΓ 8 rfl ?_
          obtain ⟨v22, hv22, h23⟩ := bi_ok h21
          obtain rfl := Option.some.inj h23
          obtain rfl := hout11 _ rfl
          obtain rfl := Option.some.inj h5
          refine go hΓ 4 rfl ?_
          obtain rfl := Option.some.inj hv22
          exact fin_pure hΓ (.inr rfl) rfl rfl
        · have h24 := cF h16 hb
          refine go hΓ 7 rfl ?_
          obtain rfl := Option.some.inj h24
          exact ⟨_, rfl, ⟨⟨rfl, rfl, get_eq rfl (w64_succ (by omega)), trivial⟩, [], rfl, .inl rfl⟩⟩
    · subst hgo
      refine go hΓ 6 rfl ?_
      refine j_condF rfl (decide_eq_false hge) ?_
      refine go hΓ 4 rfl ?_
      exact ⟨_, rfl, ⟨⟨rfl, trivial⟩, [], rfl, .inl rfl⟩⟩
  · intro a6 ha
    subst ha
    replace h5 := goI_l h5
    obtain ⟨y25, hy25, h26⟩ := bi_ok h5
    refine go hΓ 4 rfl ?_
    refine eo_callP (callable Tryz.func289 rfl rfl) (c_utf8_ValidString hy25) rfl (Nat.le_of_ble_eq_true rfl) rfl rfl rfl rfl rfl ?_
    refine go_ops hΓ 1 rfl ?_
    obtain ⟨q27, hq27, h28⟩ := bi_ok h26
    refine o_cut 5 [(0, S s), (27, B q27)] [] ?_ ?_
    · refine eo_gsplit rfl rfl (fun hb => ?_) (fun hb => ?_)
      · have h29 := cT hq27 hb
        obtain ⟨y30, hy30, h31⟩ := bi_ok h29
        refine go_ops hΓ 2 rfl ?_
        refine eo_guard rfl ?_
        refine eo_callP (callable Tryz.func176 rfl rfl) (c_strings_Trim hy30) rfl (Nat.le_of_ble_eq_true rfl) rfl rfl rfl rfl rfl ?_
        refine go_ops hΓ 3 rfl ?_
        obtain rfl := Option.some.inj h31
        exact ⟨⟨rfl, rfl, trivial⟩, [], rfl, .inl rfl⟩
      · have h32 := cF hq27 hb
        refine go_ops hΓ 6 rfl ?_
        obtain rfl := Option.some.inj h32
        exact ⟨⟨rfl, rfl, trivial⟩, [], rfl, .inl rfl⟩
    · refine go_ops hΓ 1 rfl ?_
      obtain ⟨q33, hq33, h34⟩ := bi_ok h28
      refine o_cut 4 [(32, B q33)] [] ?_ ?_
      · refine eo_gsplit rfl rfl (fun hb => ?_) (fun hb => ?_)
        · have h35 := cT hq33 hb
          obtain ⟨y36, hy36, h37⟩ := bi_ok h35
          refine go_ops hΓ 1 rfl ?_
          refine eo_guard rfl ?_
          refine eo_callP (callable Tryz.func274 rfl rfl) (c_strings_Contains hy36) rfl (Nat.le_of_ble_eq_true rfl) rfl rfl rfl rfl rfl ?_
          refine go_ops hΓ 3 rfl ?_
          obtain rfl := Option.some.inj h37
          exact ⟨⟨rfl, trivial⟩, [], rfl, .inl rfl⟩
        · have h38 := cF hq33 hb
          refine go_ops hΓ 5 rfl ?_
          obtain rfl := Option.some.inj h38
          exact ⟨⟨rfl, trivial⟩, [], rfl, .inl rfl⟩
      · refine go_ops hΓ 4 rfl ?_
        obtain rfl := Option.some.inj h34
        exact fin_pure hΓ (.inr rfl) rfl rfl

theorem c_laneref1_in {n : Int} {low : Int} {high : Int} {r : Bool} (h : m_laneref1_in n low high = some r) : Pure Tryz.prog 140 [I n, I low, I high] (B r) := by
  refine Pure.enter (Fr.of 0 _) Tryz.func140 rfl (Fr.of_ok _) rfl rfl ?_
  refine go_in ?_
  unfold m_laneref1_in at h
  refine go hΓ 11 rfl ?_
  refine o_cut 4 [(6, B false), (14, B ((decide ((low : Int) ≤ n)) && (decide ((n : Int) ≤ high))))] [] ?_ ?_
  · refine eo_gsplit rfl rfl (fun hb => ?_) (fun hb => ?_)
    · refine go_ops hΓ 5 rfl ?_
      exact ⟨⟨rfl, get_b rfl (and_t hb), trivial⟩, [], rfl, .inl rfl⟩
    · refine go_ops hΓ 5 rfl ?_
      exact ⟨⟨rfl, get_b rfl (and_f hb), trivial⟩, [], rfl, .inl rfl⟩
  · refine go_ops hΓ 4 rfl ?_
    obtain rfl := Option.some.inj h
    exact fin_pure hΓ (.inr rfl) rfl rfl

theorem c_laneref1_RecordFault {v_r : T_api_Record} {r : Int} (h : m_laneref1_RecordFault v_r = some r) : Pure Tryz.prog 109 [.agg [S v_r.Name, I v_r.Kind, B v_r.Addr.Six, .d (.v (.int .u64 v_r.Addr.Hi)), .d (.v (.int .u64 v_r.Addr.Lo)), S v_r.To, S v_r.Words, I v_r.Life]] (I r) := by
  refine Pure.enter (Fr.of 0 _) Tryz.func109 rfl (Fr.of_ok _) rfl rfl ?_
  refine go_in ?_
  unfold m_laneref1_RecordFault at h
  refine go hΓ 2 rfl ?_
  refine eo_box rfl rfl rfl rfl (Nat.le_of_ble_eq_true rfl) ?_
  refine go_ops hΓ 11 rfl ?_
  obtain ⟨q1, hq1, h2⟩ := bi_ok h
  refine o_cut 6 [(1, .ptr 0 0), (15, B q1)] [.box 38 [S v_r.Name, I v_r.Kind, B v_r.Addr.Six, .d (.v (.int .u64 v_r.Addr.Hi)), .d (.v (.int .u64 v_r.Addr.Lo)), S v_r.To, S v_r.Words, I v_r.Life]] ?_ ?_
  · refine eo_gsplit rfl rfl (fun hb => ?_) (fun hb => ?_)
    · have h3 := cT hq1 hb
      refine go_ops hΓ 7 rfl ?_
      obtain rfl := Option.some.inj h3
      exact ⟨⟨rfl, rfl, trivial⟩, [], rfl, .inl rfl⟩
    · have h4 := cF hq1 hb
      obtain ⟨y5, hy5, h6⟩ := bi_ok h4
      refine go_ops hΓ 2 rfl ?_
      refine eo_guard rfl ?_
      refine eo_callP (callable Tryz.func220 rfl rfl) (c_strings_TrimPrefix hy5) rfl (Nat.le_of_ble_eq_true rfl) rfl rfl rfl rfl rfl ?_
      obtain ⟨y7, hy7, h8⟩ := bi_ok h6
      refine eo_guard rfl ?_
      refine eo_callP (callable Tryz.func31 rfl rfl) (c_laneref1_DomainFault hy7) rfl (Nat.le_of_ble_eq_true rfl) rfl rfl rfl rfl rfl ?_
      refine go_ops hΓ 3 rfl ?_
      obtain rfl := Option.some.inj h8
      exact ⟨⟨rfl, rfl, trivial⟩, [], rfl, .inl rfl⟩
  · refine go_ops hΓ 2 rfl ?_
    refine j_cond rfl (fun hb => ?_) (fun hb => ?_)
    · have h9 := cT h2 hb
      refine go hΓ 7 rfl ?_
      obtain rfl := Option.some.inj h9
      exact fin_pure hΓ (.inr rfl) rfl rfl
    · have h10 := cF h2 hb
      refine go hΓ 4 rfl ?_
      refine j_draw hmix (by kernel_rfl) ?_
      obtain ⟨y11, hy11, h12⟩ := bi_ok h10
      refine gl_callP (callable Tryz.func34 rfl rfl) (c_laneref1_Kinds hy11) rfl rfl rfl rfl rfl rfl ?_
      obtain ⟨y13, hy13, h14⟩ := bi_ok h12
      refine go_draw hΓ 2 rfl ?_
      refine gl_callP (callable Tryz.func33 rfl rfl) (c_slices_Contains_int_int hy13) rfl rfl rfl rfl rfl rfl ?_
      refine go_draw hΓ 3 rfl ?_
      refine j_cond rfl (fun hb => ?_) (fun hb => ?_)
      · have h15 := cT h14 hb
        refine go hΓ 7 rfl ?_
        obtain rfl := Option.some.inj h15
        exact fin_pure hΓ (.inr rfl) rfl rfl
      · have h16 := cF h14 hb
        obtain ⟨q17, hq17, h18⟩ := bi_ok h16
        refine go hΓ 3 rfl ?_
        refine j_cutNZ [(1, .ptr 0 0), (3, B q17), (4, B ((v_r.Kind : Int) == 28))] [.box 38 [S v_r.Name, I v_r.Kind, B v_r.Addr.Six, .d (.v (.int .u64 v_r.Addr.Hi)), .d (.v (.int .u64 v_r.Addr.Lo)), S v_r.To, S v_r.Words, I v_r.Life]] ?_ ?_
        · refine j_draw hmix (by kernel_rfl) ?_
          refine go hΓ 4 rfl ?_
          refine gl_gsplit rfl rfl (fun hb => ?_) (fun hb => ?_)
          · have h19 := cT hq17 hb
            refine go_draw hΓ 10 rfl ?_
            obtain rfl := Option.some.inj h19
            exact ⟨⟨rfl, rfl, rfl, trivial⟩, [], rfl, .inl rfl⟩
          · have h20 := cF hq17 hb
            refine go_draw hΓ 10 rfl ?_
            obtain rfl := Option.some.inj h20
            exact ⟨⟨rfl, rfl, rfl, trivial⟩, [], rfl, .inl rfl⟩
        · refine go hΓ 6 rfl ?_
          obtain ⟨q21, hq21, h22⟩ := bi_ok h18
          refine o_cut 12 [(1, .ptr 0 0), (3, B q17), (45, B q21)] [.box 38 [S v_r.Name, I v_r.Kind, B v_r.Addr.Six, .d (.v (.int .u64 v_r.Addr.Hi)), .d (.v (.int .u64 v_r.Addr.Lo)), S v_r.To, S v_r.Words, I v_r.Life]] ?_ ?_
          · refine eo_gsplit rfl rfl (fun hb => ?_) (fun hb => ?_)
            · have h23 := cT hq21 hb
              obtain ⟨y24, hy24, h25⟩ := bi_ok h23
              refine go_ops hΓ 2 rfl ?_
              refine eo_guard rfl ?_
              refine eo_callP (callable Tryz.func39 rfl rfl) (c_laneref2_AddrFault hy24) rfl (Nat.le_of_ble_eq_true rfl) rfl rfl rfl rfl rfl ?_
              refine go_ops hΓ 2 rfl ?_
              refine o_cut 6 [(1, .ptr 0 0), (3, B q17), (33, B true), (44, B (((y24 : Int) != 0) || (!((v_r.Addr.Six : Bool) == ((v_r.Kind : Int) == 28)))))] [.box 38 [S v_r.Name, I v_r.Kind, B v_r.Addr.Six, .d (.v (.int .u64 v_r.Addr.Hi)), .d (.v (.int .u64 v_r.Addr.Lo)), S v_r.To, S v_r.Words, I v_r.Life]] ?_ ?_
              · refine eo_gsplit rfl rfl (fun hb => ?_) (fun hb => ?_)
                · refine go_ops hΓ 7 rfl ?_
                  exact ⟨⟨rfl, rfl, rfl, get_b rfl (or_t hb), trivial⟩, [], rfl, .inl rfl⟩
                · refine go_ops hΓ 7 rfl ?_
                  exact ⟨⟨rfl, rfl, rfl, get_b rfl (or_f hb), trivial⟩, [], rfl, .inl rfl⟩
              · refine go_ops hΓ 2 rfl ?_
                obtain rfl := Option.some.inj h25
                exact ⟨⟨rfl, rfl, rfl, trivial⟩, [], rfl, .inl rfl⟩
            · have h26 := cF hq21 hb
              refine go_ops hΓ 13 rfl ?_
              obtain rfl := Option.some.inj h26
              exact ⟨⟨rfl, rfl, rfl, trivial⟩, [], rfl, .inl rfl⟩
          · refine go_ops hΓ 1 rfl ?_
            refine o_cut 9 [(1, .ptr 0 0), (55, B (q21 || ((!q17) && (!(((v_r.Addr.Six : Bool) == false) && (((v_r.Addr.Hi : Int) == 0) && (((v_r.Addr.Lo : Int) == 0) && true)))))))] [.box 38 [S v_r.Name, I v_r.Kind, B v_r.Addr.Six, .d (.v (.int .u64 v_r.Addr.Hi)), .d (.v (.int .u64 v_r.Addr.Lo)), S v_r.To, S v_r.Words, I v_r.Life]] ?_ ?_
            · refine eo_gsplit rfl rfl (fun hb => ?_) (fun hb => ?_)
              · refine go_ops hΓ 10 rfl ?_
                exact ⟨⟨rfl, get_b rfl (or_t hb), trivial⟩, [], rfl, .inl rfl⟩
              · refine go_ops hΓ 3 rfl ?_
                refine o_cut 5 [(1, .ptr 0 0), (46, B false), (54, B ((!q17) && (!(((v_r.Addr.Six : Bool) == false) && (((v_r.Addr.Hi : Int) == 0) && (((v_r.Addr.Lo : Int) == 0) && true))))))] [.box 38 [S v_r.Name, I v_r.Kind, B v_r.Addr.Six, .d (.v (.int .u64 v_r.Addr.Hi)), .d (.v (.int .u64 v_r.Addr.Lo)), S v_r.To, S v_r.Words, I v_r.Life]] ?_ ?_
                · refine eo_gsplit rfl rfl (fun hb => ?_) (fun hb => ?_)
                  · refine go_ops hΓ 2 rfl ?_
                    refine eo_guard rfl ?_
                    refine eo_build hΓ (gs := [B false, .d (.v (.int .u64 0)), .d (.v (.int .u64 0))]) rfl rfl rfl rfl rfl rfl rfl ?_
                    refine eo_guard rfl ?_
                    refine eo_o rfl (op_neS hΓ [36] (b := (((v_r.Addr.Six : Bool) == false) && (((v_r.Addr.Hi : Int) == 0) && (((v_r.Addr.Lo : Int) == 0) && true)))) (by kernel_rfl) (by kernel_rfl) rfl rfl rfl) ?_
                    refine go_ops hΓ 2 rfl ?_
                    exact ⟨⟨rfl, rfl, get_b rfl (and_t hb), trivial⟩, [], rfl, .inl rfl⟩
                  · refine go_ops hΓ 6 rfl ?_
                    exact ⟨⟨rfl, rfl, get_b rfl (and_f hb), trivial⟩, [], rfl, .inl rfl⟩
                · refine go_ops hΓ 2 rfl ?_
                  exact ⟨⟨rfl, get_b rfl (or_f hb), trivial⟩, [], rfl, .inl rfl⟩
            · refine go_ops hΓ 2 rfl ?_
              refine j_cond rfl (fun hb => ?_) (fun hb => ?_)
              · have h27 := cT h22 hb
                refine go hΓ 7 rfl ?_
                obtain rfl := Option.some.inj h27
                exact fin_pure hΓ (.inr rfl) rfl rfl
              · have h28 := cF h22 hb
                refine go hΓ 9 rfl ?_
                refine o_cut 4 [(1, .ptr 0 0), (63, B (((v_r.Kind : Int) == 5) || ((v_r.Kind : Int) == 12)))] [.box 38 [S v_r.Name, I v_r.Kind, B v_r.Addr.Six, .d (.v (.int .u64 v_r.Addr.Hi)), .d (.v (.int .u64 v_r.Addr.Lo)), S v_r.To, S v_r.Words, I v_r.Life]] ?_ ?_
                · refine eo_gsplit rfl rfl (fun hb => ?_) (fun hb => ?_)
                  · refine go_ops hΓ 5 rfl ?_
                    exact ⟨⟨rfl, get_b rfl (or_t hb), trivial⟩, [], rfl, .inl rfl⟩
                  · refine go_ops hΓ 5 rfl ?_
                    exact ⟨⟨rfl, get_b rfl (or_f hb), trivial⟩, [], rfl, .inl rfl⟩
                · obtain ⟨q29, hq29, h30⟩ := bi_ok h28
                  refine go_ops hΓ 2 rfl ?_
                  refine j_cutSZ (q := q29) (fun a31 => [(1, .ptr 0 0)]) (fun a31 => [.box 38 [S v_r.Name, I v_r.Kind, B v_r.Addr.Six, .d (.v (.int .u64 v_r.Addr.Hi)), .d (.v (.int .u64 v_r.Addr.Lo)), S v_r.To, S v_r.Words, I v_r.Life]]) ?_ ?_
                  · refine j_cond rfl (fun hb => ?_) (fun hb => ?_)
                    · have h32 := cT hq29 hb
                      obtain ⟨y33, hy33, h34⟩ := bi_ok h32
                      refine go hΓ 4 rfl ?_
                      refine eo_callP (callable Tryz.func31 rfl rfl) (c_laneref1_DomainFault hy33) rfl (Nat.le_of_ble_eq_true rfl) rfl rfl rfl rfl rfl ?_
                      refine go_ops hΓ 3 rfl ?_
                      refine j_cond rfl (fun hb => ?_) (fun hb => ?_)
                      · have h35 := cT h34 hb
                        refine go hΓ 6 rfl ?_
                        obtain ⟨v36, hv36, h37⟩ := bi_ok h35
                        obtain rfl := Option.some.inj h37
                        obtain rfl := Option.some.inj h30
                        refine go hΓ 2 rfl ?_
                        obtain rfl := Option.some.inj hv36
                        exact fin_pure hΓ (.inr rfl) rfl rfl
                      · have h38 := cF h34 hb
                        refine go hΓ 1 rfl ?_
                        obtain rfl := Option.some.inj h38
                        exact ⟨_, rfl, ⟨⟨rfl, trivial⟩, [], rfl, .inl rfl⟩⟩
                    · have h39 := cF hq29 hb
                      refine go hΓ 7 rfl ?_
                      refine j_cond rfl (fun hb => ?_) (fun hb => ?_)
                      · have h40 := cT h39 hb
                        refine go hΓ 6 rfl ?_
                        obtain ⟨v41, hv41, h42⟩ := bi_ok h40
                        obtain rfl := Option.some.inj h42
                        obtain rfl := Option.some.inj h30
                        refine go hΓ 2 rfl ?_
                        obtain rfl := Option.some.inj hv41
                        exact fin_pure hΓ (.inr rfl) rfl rfl
                      · have h43 := cF h39 hb
                        refine go hΓ 1 rfl ?_
                        obtain rfl := Option.some.inj h43
                        exact ⟨_, rfl, ⟨⟨rfl, trivial⟩, [], rfl, .inl rfl⟩⟩
                  · intro a31 ha
                    subst ha
                    replace h30 := orI_l h30
                    refine go hΓ 8 rfl ?_
                    refine o_cut 4 [(1, .ptr 0 0), (78, B (((v_r.Kind : Int) != 16) && (!((v_r.Words : Str) == []))))] [.box 38 [S v_r.Name, I v_r.Kind, B v_r.Addr.Six, .d (.v (.int .u64 v_r.Addr.Hi)), .d (.v (.int .u64 v_r.Addr.Lo)), S v_r.To, S v_r.Words, I v_r.Life]] ?_ ?_
                    · refine eo_gsplit rfl rfl (fun hb => ?_) (fun hb => ?_)
                      · refine go_ops hΓ 5 rfl ?_
                        exact ⟨⟨rfl, get_b rfl (and_t hb), trivial⟩, [], rfl, .inl rfl⟩
                      · refine go_ops hΓ 5 rfl ?_
                        exact ⟨⟨rfl, get_b rfl (and_f hb), trivial⟩, [], rfl, .inl rfl⟩
                    · refine go_ops hΓ 1 rfl ?_
                      obtain ⟨q44, hq44, h45⟩ := bi_ok h30
                      refine o_cut 5 [(1, .ptr 0 0), (84, B q44)] [.box 38 [S v_r.Name, I v_r.Kind, B v_r.Addr.Six, .d (.v (.int .u64 v_r.Addr.Hi)), .d (.v (.int .u64 v_r.Addr.Lo)), S v_r.To, S v_r.Words, I v_r.Life]] ?_ ?_
                      · refine eo_gsplit rfl rfl (fun hb => ?_) (fun hb => ?_)
                        · have h46 := cT hq44 hb
                          refine go_ops hΓ 6 rfl ?_
                          obtain rfl := Option.some.inj h46
                          exact ⟨⟨rfl, rfl, trivial⟩, [], rfl, .inl rfl⟩
                        · have h47 := cF hq44 hb
                          obtain ⟨y48, hy48, h49⟩ := bi_ok h47
                          refine go_ops hΓ 2 rfl ?_
                          refine eo_guard rfl ?_
                          refine eo_callP (callable Tryz.func221 rfl rfl) (c_laneref1_plain hy48) rfl (Nat.le_of_ble_eq_true rfl) rfl rfl rfl rfl rfl ?_
                          refine go_ops hΓ 3 rfl ?_
                          obtain rfl := Option.some.inj h49
                          exact ⟨⟨rfl, rfl, trivial⟩, [], rfl, .inl rfl⟩
                      · refine go_ops hΓ 1 rfl ?_
                        refine o_cut 5 [(1, .ptr 0 0), (90, B (q44 || (decide (((v_r.Words.length : Int) : Int) > 200))))] [.box 38 [S v_r.Name, I v_r.Kind, B v_r.Addr.Six, .d (.v (.int .u64 v_r.Addr.Hi)), .d (.v (.int .u64 v_r.Addr.Lo)), S v_r.To, S v_r.Words, I v_r.Life]] ?_ ?_
                        · refine eo_gsplit rfl rfl (fun hb => ?_) (fun hb => ?_)
                          · refine go_ops hΓ 6 rfl ?_
                            exact ⟨⟨rfl, get_b rfl (or_t hb), trivial⟩, [], rfl, .inl rfl⟩
                          · refine go_ops hΓ 6 rfl ?_
                            exact ⟨⟨rfl, get_b rfl (or_f hb), trivial⟩, [], rfl, .inl rfl⟩
                        · refine go_ops hΓ 2 rfl ?_
                          refine j_cond rfl (fun hb => ?_) (fun hb => ?_)
                          · have h50 := cT h45 hb
                            refine go hΓ 7 rfl ?_
                            obtain rfl := Option.some.inj h50
                            exact fin_pure hΓ (.inr rfl) rfl rfl
                          · have h51 := cF h45 hb
                            obtain ⟨y52, hy52, h53⟩ := bi_ok h51
                            refine go hΓ 7 rfl ?_
                            refine eo_callP (callable Tryz.func140 rfl rfl) (c_laneref1_in hy52) rfl (Nat.le_of_ble_eq_true rfl) rfl rfl rfl rfl rfl ?_
                            refine go_ops hΓ 3 rfl ?_
                            refine j_cond rfl (fun hb => ?_) (fun hb => ?_)
                            · have h54 := cT h53 hb
                              refine go hΓ 7 rfl ?_
                              obtain rfl := Option.some.inj h54
                              exact fin_pure hΓ (.inr rfl) rfl rfl
                            · have h55 := cF h53 hb
                              refine go hΓ 8 rfl ?_
                              obtain rfl := Option.some.inj h55
                              exact fin_pure hΓ (.inr rfl) rfl rfl

theorem c_laneref1_bare {s : Str} {r : Str} (h : m_laneref1_bare s = some r) : Pure Tryz.prog 111 [S s] (S r) := by
  refine Pure.enter (Fr.of 0 _) Tryz.func111 rfl (Fr.of_ok _) rfl rfl ?_
  refine go_in ?_
  unfold m_laneref1_bare at h
  obtain ⟨y1, hy1, h2⟩ := bi_ok h
  refine go hΓ 8 rfl ?_
  refine eo_callP (callable Tryz.func220 rfl rfl) (c_strings_TrimPrefix hy1) rfl (Nat.le_of_ble_eq_true rfl) rfl rfl rfl rfl rfl ?_
  refine go_ops hΓ 4 rfl ?_
  obtain rfl := Option.some.inj h2
  exact fin_pure hΓ (.inr rfl) rfl rfl

theorem c_laneref1_IsUnder {name : Str} {zone : Str} {r : Bool} (h : m_laneref1_IsUnder name zone = some r) : Pure Tryz.prog 110 [S name, S zone] (B r) := by
  refine Pure.enter (Fr.of 0 _) Tryz.func110 rfl (Fr.of_ok _) rfl rfl ?_
  refine go_in ?_
  unfold m_laneref1_IsUnder at h
  refine go hΓ 11 rfl ?_
  obtain ⟨q1, hq1, h2⟩ := bi_ok h
  refine o_cut 5 [(4, B false), (13, B q1)] [] ?_ ?_
  · refine eo_gsplit rfl rfl (fun hb => ?_) (fun hb => ?_)
    · have h3 := cT hq1 hb
      refine go_ops hΓ 6 rfl ?_
      obtain rfl := Option.some.inj h3
      exact ⟨⟨rfl, rfl, trivial⟩, [], rfl, .inl rfl⟩
    · have h4 := cF hq1 hb
      obtain ⟨y5, hy5, h6⟩ := bi_ok h4
      refine go_ops hΓ 2 rfl ?_
      refine eo_guard rfl ?_
      refine eo_o rfl (op_catZ hy5 rfl rfl) ?_
      obtain ⟨y7, hy7, h8⟩ := bi_ok h6
      refine eo_guard rfl ?_
      refine eo_callP (callable Tryz.func215 rfl rfl) (c_strings_HasSuffix hy7) rfl (Nat.le_of_ble_eq_true rfl) rfl rfl rfl rfl rfl ?_
      refine go_ops hΓ 2 rfl ?_
      obtain rfl := Option.some.inj h8
      exact ⟨⟨rfl, rfl, trivial⟩, [], rfl, .inl rfl⟩
  · refine go_ops hΓ 4 rfl ?_
    obtain rfl := Option.some.inj h2
    exact fin_pure hΓ (.inr rfl) rfl rfl

theorem c_cmp_isNaN_uint64 {x : Int} {r : Bool} (h : m_cmp_isNaN_uint64 x = some r) : Pure Tryz.prog 290 [.d (.v (.int .u64 x))] (B r) := by
  refine Pure.enter (Fr.of 0 _) Tryz.func290 rfl (Fr.of_ok _) rfl rfl ?_
  refine go_in ?_
  unfold m_cmp_isNaN_uint64 at h
  refine go hΓ 14 rfl ?_
  obtain rfl := Option.some.inj h
  exact fin_pure hΓ (.inr rfl) rfl rfl

theorem c_cmp_Compare_uint64 {x : Int} {y : Int} {r : Int} (h : m_cmp_Compare_uint64 x y = some r) : Pure Tryz.prog 223 [.d (.v (.int .u64 x)), .d (.v (.int .u64 y))] (I r) := by
  refine Pure.enter (Fr.of 0 _) Tryz.func223 rfl (Fr.of_ok _) rfl rfl ?_
  refine go_in ?_
  unfold m_cmp_Compare_uint64 at h
  obtain ⟨y1, hy1, h2⟩ := bi_ok h
  refine go hΓ 8 rfl ?_
  refine eo_callP (callable Tryz.func290 rfl rfl) (c_cmp_isNaN_uint64 hy1) rfl (Nat.le_of_ble_eq_true rfl) rfl rfl rfl rfl rfl ?_
  obtain ⟨y3, hy3, h4⟩ := bi_ok h2
  refine go_ops hΓ 6 rfl ?_
  refine eo_callP (callable Tryz.func290 rfl rfl) (c_cmp_isNaN_uint64 hy3) rfl (Nat.le_of_ble_eq_true rfl) rfl rfl rfl rfl rfl ?_
  refine go_ops hΓ 9 rfl ?_
  refine j_cond rfl (fun hb => ?_) (fun hb => ?_)
  · have h5 := cT h4 hb
    refine go hΓ 6 rfl ?_
    refine j_cond rfl (fun hb => ?_) (fun hb => ?_)
    · have h6 := cT h5 hb
      refine go hΓ 8 rfl ?_
      obtain rfl := Option.some.inj h6
      exact fin_pure hΓ (.inr rfl) rfl rfl
    · have h7 := cF h5 hb
      refine go hΓ 9 rfl ?_
      obtain rfl := Option.some.inj h7
      exact fin_pure hΓ (.inr rfl) rfl rfl
  · have h8 := cF h4 hb
    refine go hΓ 8 rfl ?_
    refine j_cond rfl (fun hb => ?_) (fun hb => ?_)
    · have h9 := cT h8 hb
      refine go hΓ 7 rfl ?_
      obtain rfl := Option.some.inj h9
      exact fin_pure hΓ (.inr rfl) rfl rfl
    · have h10 := cF h8 hb
      refine go hΓ 10 rfl ?_
      refine j_cond rfl (fun hb => ?_) (fun hb => ?_)
      · have h11 := cT h10 hb
        refine go hΓ 7 rfl ?_
        obtain rfl := Option.some.inj h11
        exact fin_pure hΓ (.inr rfl) rfl rfl
      · have h12 := cF h10 hb
        refine go hΓ 10 rfl ?_
        refine j_cond rfl (fun hb => ?_) (fun hb => ?_)
        · have h13 := cT h12 hb
          refine go hΓ 7 rfl ?_
          obtain rfl := Option.some.inj h13
          exact fin_pure hΓ (.inr rfl) rfl rfl
        · have h14 := cF h12 hb
          refine go hΓ 8 rfl ?_
          obtain rfl := Option.some.inj h14
          exact fin_pure hΓ (.inr rfl) rfl rfl

theorem c_cmp_Or_int {vals : List Int} {r : Int} (h : m_cmp_Or_int vals = some r) : Pure Tryz.prog 222 [.d (Sl (eN .i64) vals)] (I r) := by
  refine Pure.enter (Fr.of 0 _) Tryz.func222 rfl (Fr.of_ok _) rfl rfl ?_
  refine go_in ?_
  unfold m_cmp_Or_int at h
  refine go hΓ 18 rfl ?_
  obtain ⟨q4, hq4, h5⟩ := bi_ok h
  refine j_bound 6 rfl fun hb7 => ?_
  refine j_cutEZ (R := fun a6 => q4 = .go a6) (fun a6 => [(3, I 0)]) (fun a6 => []) ?_ ?_
  · refine go hΓ 1 rfl ?_
    refine j_range vals hq4 (fun i1 s2 => [(3, I 0), (6, .d (Sl (eN .i64) vals)), (7, I (vals.length : Int)), (8, I (i1 : Int))]) (fun s2 => []) ⟨⟨rfl, rfl, rfl, rfl, trivial⟩, [], rfl, .inl rfl⟩ (fun i1 x3 s2 y11 hx8 hlt hy9 hout10 => ?_) (fun s2 hgo => ?_)
    · refine go hΓ 6 rfl ?_
      refine j_condT rfl (decide_eq_true (Int.ofNat_lt.2 hlt)) ?_
      refine go hΓ 6 rfl ?_
      refine eo_o rfl (op_elemZ hΓ (enc := (eN .i64)) (getZ_nat hx8) rfl rfl rfl rfl rfl (fun _ => rfl)) ?_
      refine go_ops hΓ 11 rfl ?_
      refine j_cond rfl (fun hb => ?_) (fun hb => ?_)
      · have h12 := cT hy9 hb
        refine go hΓ 9 rfl ?_
        obtain ⟨v13, hv13, h14⟩ := bi_ok h12
        obtain rfl := Option.some.inj h14
        obtain rfl := hout10 _ rfl
        obtain rfl := Option.some.inj h5
        refine go hΓ 4 rfl ?_
        obtain rfl := Option.some.inj hv13
        exact fin_pure hΓ (.inr rfl) rfl rfl
      · have h15 := cF hy9 hb
        refine go hΓ 7 rfl ?_
        obtain rfl := Option.some.inj h15
        exact ⟨_, rfl, ⟨⟨rfl, rfl, rfl, get_eq rfl (w64_succ (Nat.lt_of_lt_of_le hlt hb7)), trivial⟩, [], rfl, .inl rfl⟩⟩
    · subst hgo
      refine go hΓ 6 rfl ?_
      refine j_condF rfl (decide_eq_false (Int.lt_irrefl _)) ?_
      refine go hΓ 4 rfl ?_
      exact ⟨_, rfl, ⟨⟨rfl, trivial⟩, [], rfl, .inl rfl⟩⟩
  · intro a6 ha
    subst ha
    replace h5 := goI_l h5
    refine go hΓ 8 rfl ?_
    obtain rfl := Option.some.inj h5
    exact fin_pure hΓ (.inr rfl) rfl rfl

theorem c_laneref1_recordOrder {a : T_api_Record} {b : T_api_Record} {r : Int} (h : m_laneref1_recordOrder a b = some r) : Pure Tryz.prog 112 [.agg [S a.Name, I a.Kind, B a.Addr.Six, .d (.v (.int .u64 a.Addr.Hi)), .d (.v (.int .u64 a.Addr.Lo)), S a.To, S a.Words, I a.Life], .agg [S b.Name, I b.Kind, B b.Addr.Six, .d (.v (.int .u64 b.Addr.Hi)), .d (.v (.int .u64 b.Addr.Lo)), S b.To, S b.Words, I b.Life]] (I r) := by
  refine Pure.enter (Fr.of 0 _) Tryz.func112 rfl (Fr.of_ok _) rfl rfl ?_
  refine go_in ?_
  unfold m_laneref1_recordOrder at h
  refine go hΓ 2 rfl ?_
  refine eo_box rfl rfl rfl rfl (Nat.le_of_ble_eq_true rfl) ?_
  refine eo_box rfl rfl rfl rfl (Nat.le_of_ble_eq_true rfl) ?_
  refine go_ops hΓ 4 rfl ?_
  refine j_draw hmix (by kernel_rfl) ?_
  obtain ⟨y1, hy1, h2⟩ := bi_ok h
  refine go hΓ 4 rfl ?_
  refine gl_callP (callable Tryz.func174 rfl rfl) (c_strings_Compare hy1) rfl rfl rfl rfl rfl rfl ?_
  obtain ⟨y3, hy3, h4⟩ := bi_ok h2
  refine go_draw hΓ 4 rfl ?_
  refine gl_callP (callable Tryz.func146 rfl rfl) (c_cmp_Compare_int hy3) rfl rfl rfl rfl rfl rfl ?_
  obtain ⟨y5, hy5, h6⟩ := bi_ok h4
  refine go_draw hΓ 6 rfl ?_
  refine gl_callP (callable Tryz.func223 rfl rfl) (c_cmp_Compare_uint64 hy5) rfl rfl rfl rfl rfl rfl ?_
  obtain ⟨y7, hy7, h8⟩ := bi_ok h6
  refine go_draw hΓ 6 rfl ?_
  refine gl_callP (callable Tryz.func223 rfl rfl) (c_cmp_Compare_uint64 hy7) rfl rfl rfl rfl rfl rfl ?_
  obtain ⟨y9, hy9, h10⟩ := bi_ok h8
  refine go_draw hΓ 4 rfl ?_
  refine gl_callP (callable Tryz.func174 rfl rfl) (c_strings_Compare hy9) rfl rfl rfl rfl rfl rfl ?_
  obtain ⟨y11, hy11, h12⟩ := bi_ok h10
  refine go_draw hΓ 4 rfl ?_
  refine gl_callP (callable Tryz.func174 rfl rfl) (c_strings_Compare hy11) rfl rfl rfl rfl rfl rfl ?_
  refine gl_litT hΓ (enc := (eN .i64)) [y1, y3, y5, y7, y9, y11] rfl rfl rfl rfl rfl rfl rfl rfl rfl rfl rfl rfl ?_
  obtain ⟨y13, hy13, h14⟩ := bi_ok h12
  refine gl_callP (callable Tryz.func222 rfl rfl) (c_cmp_Or_int hy13) rfl rfl rfl rfl rfl rfl ?_
  refine go_draw hΓ 4 rfl ?_
  obtain rfl := Option.some.inj h14
  exact fin_pure hΓ (.inr rfl) rfl rfl

theorem c_laneref1_ZoneFault {z : T_api_Zone} {r : Int} (h : m_laneref1_ZoneFault z = some r) : Pure Tryz.prog 28 [.agg [S z.Root, .d (Sl e_api_Record z.Records)]] (I r) := by
  refine Pure.enter (Fr.of 0 _) Tryz.func28 rfl (Fr.of_ok _) rfl rfl ?_
  refine go_in ?_
  unfold m_laneref1_ZoneFault at h
  refine go hΓ 2 rfl ?_
  refine eo_box rfl rfl rfl rfl (Nat.le_of_ble_eq_true rfl) ?_
  obtain ⟨y1, hy1, h2⟩ := bi_ok h
  refine go_ops hΓ 8 rfl ?_
  refine eo_callP (callable Tryz.func31 rfl rfl) (c_laneref1_DomainFault hy1) rfl (Nat.le_of_ble_eq_true rfl) rfl rfl rfl rfl rfl ?_
  refine go_ops hΓ 9 rfl ?_
  refine j_cond rfl (fun hb => ?_) (fun hb => ?_)
  · have h3 := cT h2 hb
    refine go hΓ 8 rfl ?_
    obtain rfl := Option.some.inj h3
    exact fin_pure hΓ (.inr rfl) rfl rfl
  · have h4 := cF h2 hb
    refine go hΓ 11 rfl ?_
    refine j_cond rfl (fun hb => ?_) (fun hb => ?_)
    · have h5 := cT h4 hb
      refine go hΓ 7 rfl ?_
      obtain rfl := Option.some.inj h5
      exact fin_pure hΓ (.inr rfl) rfl rfl
    · have h6 := cF h4 hb
      refine go hΓ 11 rfl ?_
      obtain ⟨q10, hq10, h11⟩ := bi_ok h6
      refine j_bound 21 rfl fun hb13 => ?_
      refine j_cutEZ (R := fun a12 => q10 = .go a12) (fun a12 => []) (fun a12 => [.box 51 [S z.Root, .d (Sl e_api_Record z.Records)]]) ?_ ?_
      · refine go hΓ 1 rfl ?_
        refine j_range z.Records hq10 (fun i7 s8 => [(1, .ptr 0 0), (21, .d (Sl e_api_Record z.Records)), (22, I (z.Records.length : Int)), (23, I (i7 : Int))]) (fun s8 => [.box 51 [S z.Root, .d (Sl e_api_Record z.Records)]]) ⟨⟨rfl, rfl, rfl, rfl, trivial⟩, [], rfl, .inl rfl⟩ (fun i7 x9 s8 y17 hx14 hlt hy15 hout16 => ?_) (fun s8 hgo => ?_)
        · refine go hΓ 6 rfl ?_
          refine j_condT rfl (decide_eq_true (Int.ofNat_lt.2 hlt)) ?_
          refine go hΓ 7 rfl ?_
          refine eo_o rfl (op_elemZ hΓ (enc := e_api_Record) (getZ_nat hx14) rfl rfl rfl rfl rfl (fun _ => rfl)) ?_
          refine go_ops hΓ 1 rfl ?_
          refine eo_alloc hΓ rfl rfl rfl (Nat.le_of_ble_eq_true rfl) ?_
          refine go_ops hΓ 1 rfl ?_
          refine eo_store hΓ rfl rfl rfl rfl rfl rfl rfl rfl (Nat.le_of_ble_eq_true rfl) ?_
          refine eo_hp [.box 51 [S z.Root, .d (Sl e_api_Record z.Records)], .box 38 [S x9.Name, I x9.Kind, B x9.Addr.Six, .d (.v (.int .u64 x9.Addr.Hi)), .d (.v (.int .u64 x9.Addr.Lo)), S x9.To, S x9.Words, I x9.Life]] rfl ?_
          obtain ⟨y18, hy18, h19⟩ := bi_ok hy15
          refine go_ops hΓ 6 rfl ?_
          refine eo_callP (callable Tryz.func109 rfl rfl) (c_laneref1_RecordFault hy18) rfl (Nat.le_of_ble_eq_true rfl) rfl rfl rfl rfl rfl ?_
          refine go_ops hΓ 9 rfl ?_
          refine j_cond rfl (fun hb => ?_) (fun hb => ?_)
          · have h20 := cT h19 hb
            refine go hΓ 10 rfl ?_
            obtain ⟨v21, hv21, h22⟩ := bi_ok h20
            obtain rfl := Option.some.inj h22
            obtain rfl := hout16 _ rfl
            obtain rfl := Option.some.inj h11
            refine go hΓ 4 rfl ?_
            obtain rfl := Option.some.inj hv21
            exact fin_pure hΓ (.inr rfl) rfl rfl
          · have h23 := cF h19 hb
            refine go hΓ 4 rfl ?_
            refine j_draw hmix (by kernel_rfl) ?_
            obtain ⟨y24, hy24, h25⟩ := bi_ok h23
            refine go hΓ 2 rfl ?_
            refine gl_callP (callable Tryz.func111 rfl rfl) (c_laneref1_bare hy24) rfl rfl rfl rfl rfl rfl ?_
            obtain ⟨y26, hy26, h27⟩ := bi_ok h25
            refine go_draw hΓ 2 rfl ?_
            refine gl_callP (callable Tryz.func110 rfl rfl) (c_laneref1_IsUnder hy26) rfl rfl rfl rfl rfl rfl ?_
            refine go_draw hΓ 3 rfl ?_
            refine j_cond rfl (fun hb => ?_) (fun hb => ?_)
            · have h28 := cT h27 hb
              refine go hΓ 9 rfl ?_
              obtain ⟨v29, hv29, h30⟩ := bi_ok h28
              obtain rfl := Option.some.inj h30
              obtain rfl := hout16 _ rfl
              obtain rfl := Option.some.inj h11
              refine go hΓ 4 rfl ?_
              obtain rfl := Option.some.inj hv29
              exact fin_pure hΓ (.inr rfl) rfl rfl
            · have h31 := cF h27 hb
              refine go hΓ 9 rfl ?_
              refine j_cond rfl (fun hb => ?_) (fun hb => ?_)
              · have h32 := cT h31 hb
                refine go hΓ 8 rfl ?_
                obtain rfl := Option.some.inj h32
                exact ⟨_, rfl, ⟨⟨rfl, rfl, rfl, get_eq rfl (w64_succ (Nat.lt_of_lt_of_le hlt hb13)), trivial⟩, [_], rfl, .inr ⟨HB.mk rfl, FB.mk rfl, (Nat.le_of_ble_eq_true rfl)⟩⟩⟩
              · have h33 := cF h31 hb
                obtain ⟨x34, hx34, h35⟩ := bi_ok h33
                refine go hΓ 8 rfl ?_
                refine eo_o rfl (op_elemZ hΓ (enc := e_api_Record) hx34 rfl rfl rfl rfl rfl (fun _ => rfl)) ?_
                refine go_ops hΓ 1 rfl ?_
                refine eo_alloc hΓ rfl rfl rfl (Nat.le_of_ble_eq_true rfl) ?_
                refine eo_store hΓ rfl rfl rfl rfl rfl rfl rfl rfl (Nat.le_of_ble_eq_true rfl) ?_
                refine eo_hp [.box 51 [S z.Root, .d (Sl e_api_Record z.Records)], .box 38 [S x9.Name, I x9.Kind, B x9.Addr.Six, .d (.v (.int .u64 x9.Addr.Hi)), .d (.v (.int .u64 x9.Addr.Lo)), S x9.To, S x9.Words, I x9.Life], .box 38 [S x34.Name, I x34.Kind, B x34.Addr.Six, .d (.v (.int .u64 x34.Addr.Hi)), .d (.v (.int .u64 x34.Addr.Lo)), S x34.To, S x34.Words, I x34.Life]] rfl ?_
                refine go_ops hΓ 8 rfl ?_
                refine o_cut 4 [(1, .ptr 0 0), (5, .ptr 1 0), (7, .ptr 2 0), (21, .d (Sl e_api_Record z.Records)), (22, I (z.Records.length : Int)), (23, I (i7 : Int)), (55, B (((x9.Kind : Int) == 5) || ((x34.Kind : Int) == 5)))] [.box 51 [S z.Root, .d (Sl e_api_Record z.Records)], .box 38 [S x9.Name, I x9.Kind, B x9.Addr.Six, .d (.v (.int .u64 x9.Addr.Hi)), .d (.v (.int .u64 x9.Addr.Lo)), S x9.To, S x9.Words, I x9.Life], .box 38 [S x34.Name, I x34.Kind, B x34.Addr.Six, .d (.v (.int .u64 x34.Addr.Hi)), .d (.v (.int .u64 x34.Addr.Lo)), S x34.To, S x34.Words, I x34.Life]] ?_ ?_
                · refine eo_gsplit rfl rfl (fun hb => ?_) (fun hb => ?_)
                  · refine go_ops hΓ 5 rfl ?_
                    exact ⟨⟨rfl, rfl, rfl, rfl, rfl, rfl, get_b rfl (or_t hb), trivial⟩, [], rfl, .inl rfl⟩
                  · refine go_ops hΓ 5 rfl ?_
                    exact ⟨⟨rfl, rfl, rfl, rfl, rfl, rfl, get_b rfl (or_f hb), trivial⟩, [], rfl, .inl rfl⟩
                · obtain ⟨y36, hy36, h37⟩ := bi_ok h35
                  refine go_ops hΓ 7 rfl ?_
                  refine eo_callP (callable Tryz.func112 rfl rfl) (c_laneref1_recordOrder hy36) rfl (Nat.le_of_ble_eq_true rfl) rfl rfl rfl rfl rfl ?_
                  refine go_ops hΓ 11 rfl ?_
                  refine j_cond rfl (fun hb => ?_) (fun hb => ?_)
                  · have h38 := cT h37 hb
                    refine go hΓ 9 rfl ?_
                    obtain ⟨v39, hv39, h40⟩ := bi_ok h38
                    obtain rfl := Option.some.inj h40
                    obtain rfl := hout16 _ rfl
                    obtain rfl := Option.some.inj h11
                    refine go hΓ 4 rfl ?_
                    obtain rfl := Option.some.inj hv39
                    exact fin_pure hΓ (.inr rfl) rfl rfl
                  · have h41 := cF h37 hb
                    refine go hΓ 7 rfl ?_
                    refine j_cond rfl (fun hb => ?_) (fun hb => ?_)
                    · have h42 := cT h41 hb
                      refine go hΓ 9 rfl ?_
                      obtain ⟨v43, hv43, h44⟩ := bi_ok h42
                      obtain rfl := Option.some.inj h44
                      obtain rfl := hout16 _ rfl
                      obtain rfl := Option.some.inj h11
                      refine go hΓ 4 rfl ?_
                      obtain rfl := Option.some.inj hv43
                      exact fin_pure hΓ (.inr rfl) rfl rfl
                    · have h45 := cF h41 hb
                      refine go hΓ 8 rfl ?_
                      refine o_cut 2 [(1, .ptr 0 0), (21, .d (Sl e_api_Record z.Records)), (22, I (z.Records.length : Int)), (23, I (i7 : Int)), (73, B (((x34.Name : Str) == x9.Name) && (((x9.Kind : Int) == 5) || ((x34.Kind : Int) == 5))))] [.box 51 [S z.Root, .d (Sl e_api_Record z.Records)], .box 38 [S x9.Name, I x9.Kind, B x9.Addr.Six, .d (.v (.int .u64 x9.Addr.Hi)), .d (.v (.int .u64 x9.Addr.Lo)), S x9.To, S x9.Words, I x9.Life], .box 38 [S x34.Name, I x34.Kind, B x34.Addr.Six, .d (.v (.int .u64 x34.Addr.Hi)), .d (.v (.int .u64 x34.Addr.Lo)), S x34.To, S x34.Words, I x34.Life]] ?_ ?_
                      · refine eo_gsplit rfl rfl (fun hb => ?_) (fun hb => ?_)
                        · refine go_ops hΓ 3 rfl ?_
                          exact ⟨⟨rfl, rfl, rfl, rfl, get_b rfl (and_t hb), trivial⟩, [], rfl, .inl rfl⟩
                        · refine go_ops hΓ 3 rfl ?_
                          exact ⟨⟨rfl, rfl, rfl, rfl, get_b rfl (and_f hb), trivial⟩, [], rfl, .inl rfl⟩
                      · refine go_ops hΓ 3 rfl ?_
                        refine j_cond rfl (fun hb => ?_) (fun hb => ?_)
                        · have h46 := cT h45 hb
                          refine go hΓ 9 rfl ?_
                          obtain ⟨v47, hv47, h48⟩ := bi_ok h46
                          obtain rfl := Option.some.inj h48
                          obtain rfl := hout16 _ rfl
                          obtain rfl := Option.some.inj h11
                          refine go hΓ 4 rfl ?_
                          obtain rfl := Option.some.inj hv47
                          exact fin_pure hΓ (.inr rfl) rfl rfl
                        · have h49 := cF h45 hb
                          refine go hΓ 8 rfl ?_
                          obtain rfl := Option.some.inj h49
                          exact ⟨_, rfl, ⟨⟨rfl, rfl, rfl, get_eq rfl (w64_succ (Nat.lt_of_lt_of_le hlt hb13)), trivial⟩, [_, _], rfl, .inr ⟨HB.mk rfl, FB.mk rfl, (Nat.le_of_ble_eq_true rfl)⟩⟩⟩
        · subst hgo
          refine go hΓ 6 rfl ?_
          refine j_condF rfl (decide_eq_false (Int.lt_irrefl _)) ?_
          refine go hΓ 4 rfl ?_
          exact ⟨_, rfl, ⟨trivial, [], rfl, .inl rfl⟩⟩
      · intro a12 ha
        subst ha
        replace h11 := goI_l h11
        refine go hΓ 7 rfl ?_
        obtain rfl := Option.some.inj h11
        exact fin_pure hΓ (.inr rfl) rfl rfl

theorem c_lanemake_Stream_RightZone {k : Nat} {s : T_lanemake_Stream} {r : T_api_Zone × T_lanemake_Stream} (h : m_lanemake_Stream_RightZone k s = some r) : EC Tryz.prog 154 [.ptr 0 0] [.box 25 [.d (Sl (eN .i64) s.L), I s.v_at]] fun g hp' => g = .agg [S r.1.Root, .d (Sl e_api_Record r.1.Records)] ∧ hp' = [.box 25 [.d (Sl (eN .i64) r.2.L), I r.2.v_at]] := by
  refine ec_enter (Fr.of 0 _) Tryz.func154 rfl (Fr.of_ok _) (Nat.le_of_ble_eq_true rfl) fun _ => ?_
  refine go_in ?_
  unfold m_lanemake_Stream_RightZone at h
  refine go hΓ 2 rfl ?_
  refine eo_alloc hΓ rfl rfl rfl (Nat.le_of_ble_eq_true rfl) ?_
  refine go_ops hΓ 8 rfl ?_
  obtain ⟨q4, hq4, h5⟩ := bi_ok h
  refine j_cutEZ (R := fun a6 => q4 = .inl a6) (fun a6 => [(2, .ptr 1 0)]) (fun a6 => [.box 25 [.d (Sl (eN .i64) a6.L), I a6.v_at], .box 51 [S [], .d (Sl e_api_Record [])]]) ?_ ?_
  · refine go hΓ 1 rfl ?_
    refine j_loop hq4 (fun s2 => [(0, .ptr 0 0), (2, .ptr 1 0), (4, I s2.2)]) (fun s2 => [.box 25 [.d (Sl (eN .i64) s2.1.L), I s2.1.v_at], .box 51 [S [], .d (Sl e_api_Record [])]]) ⟨⟨rfl, rfl, rfl, trivial⟩, [], rfl, .inl rfl⟩ (fun s2 y10 hy8 hout9 => ?_)
    refine go hΓ 6 rfl ?_
    refine j_cond rfl (fun hb => ?_) (fun hb => ?_)
    · have h11 := cT hy8 hb
      obtain ⟨y12, hy12, h13⟩ := bi_ok h11
      refine go hΓ 7 rfl ?_
      refine eo_callF [0] (.agg [S y12.1.Root, .d (Sl e_api_Record y12.1.Records)]) [.box 25 [.d (Sl (eN .i64) y12.2.L), I y12.2.v_at], .box 51 [S [], .d (Sl e_api_Record [])]] (callable Tryz.func24 rfl rfl) (c_lanemake_Stream_Zone hy12) rfl (Nat.le_of_ble_eq_true rfl) rfl rfl rfl rfl rfl rfl rfl rfl rfl rfl ?_
      refine eo_alloc hΓ rfl rfl rfl (Nat.le_of_ble_eq_true rfl) ?_
      refine eo_store hΓ rfl rfl rfl rfl rfl rfl rfl rfl (Nat.le_of_ble_eq_true rfl) ?_
      refine eo_hp [.box 25 [.d (Sl (eN .i64) y12.2.L), I y12.2.v_at], .box 51 [S [], .d (Sl e_api_Record [])], .box 51 [S y12.1.Root, .d (Sl e_api_Record y12.1.Records)]] rfl ?_
      obtain ⟨y14, hy14, h15⟩ := bi_ok h13
      refine go_ops hΓ 5 rfl ?_
      refine eo_callP (callable Tryz.func28 rfl rfl) (c_laneref1_ZoneFault hy14) rfl (Nat.le_of_ble_eq_true rfl) rfl rfl rfl rfl rfl ?_
      refine go_ops hΓ 3 rfl ?_
      refine j_cond rfl (fun hb => ?_) (fun hb => ?_)
      · have h16 := cT h15 hb
        refine go hΓ 3 rfl ?_
        refine eo_store hΓ rfl rfl rfl rfl rfl rfl rfl rfl (Nat.le_of_ble_eq_true rfl) ?_
        refine eo_hp [.box 25 [.d (Sl (eN .i64) y12.2.L), I y12.2.v_at], .box 51 [S y12.1.Root, .d (Sl e_api_Record y12.1.Records)], .box 51 [S y12.1.Root, .d (Sl e_api_Record y12.1.Records)]] rfl ?_
        refine go_ops hΓ 5 rfl ?_
        obtain ⟨v17, hv17, h18⟩ := bi_ok h16
        obtain rfl := Option.some.inj h18
        obtain rfl := hout9 _ rfl
        obtain rfl := Option.some.inj h5
        refine go hΓ 4 rfl ?_
        obtain rfl := Option.some.inj hv17
        exact fin_objs hΓ [_, _] (.inr rfl) rfl rfl rfl rfl (.inr ⟨HB.mk rfl, rfl⟩)
      · have h19 := cF h15 hb
        refine go hΓ 7 rfl ?_
        obtain rfl := Option.some.inj h19
        exact ⟨_, rfl, ⟨⟨rfl, rfl, rfl, trivial⟩, [_], rfl, .inr ⟨HB.mk rfl, FB.mk rfl, (Nat.le_of_ble_eq_true rfl)⟩⟩⟩
    · have h20 := cF hy8 hb
      refine go hΓ 4 rfl ?_
      obtain rfl := Option.some.inj h20
      obtain rfl := hout9 _ rfl
      exact ⟨_, rfl, ⟨⟨rfl, trivial⟩, [], rfl, .inl rfl⟩⟩
  · intro a6 ha
    subst ha
    replace h5 := orI_l h5
    refine go hΓ 3 rfl ?_
    refine eo_build hΓ (gs := [S [110, 101, 116, 46, 120], .d (Sl e_api_Record [])]) rfl rfl rfl rfl rfl rfl rfl ?_
    refine eo_store hΓ rfl rfl rfl rfl rfl rfl rfl rfl (Nat.le_of_ble_eq_true rfl) ?_
    refine eo_hp [.box 25 [.d (Sl (eN .i64) a6.L), I a6.v_at], .box 51 [S [110, 101, 116, 46, 120], .d (Sl e_api_Record [])]] rfl ?_
    refine go_ops hΓ 3 rfl ?_
    obtain rfl := Option.some.inj h5
    exact fin_objs hΓ [_] (.inr rfl) rfl rfl rfl rfl (.inr ⟨HB.mk rfl, rfl⟩)

theorem c_lanemake_Stream_Net {k : Nat} {s : T_lanemake_Stream} {r : T_api_Net × T_lanemake_Stream} (h : m_lanemake_Stream_Net k s = some r) : EC Tryz.prog 58 [.ptr 0 0] [.box 25 [.d (Sl (eN .i64) s.L), I s.v_at]] fun g hp' => g = .agg [.d (Sl eS r.1.Search), I r.1.Dots, .d (Sl e_api_Split r.1.Splits), .d (Sl e_api_Source r.1.Sources)] ∧ hp' = [.box 25 [.d (Sl (eN .i64) r.2.L), I r.2.v_at]] := by
  refine ec_enter (Fr.of 0 _) Tryz.func58 rfl (Fr.of_ok _) (Nat.le_of_ble_eq_true rfl) fun _ => ?_
  refine go_in ?_
  unfold m_lanemake_Stream_Net at h
  refine go hΓ 2 rfl ?_
  refine eo_alloc hΓ rfl rfl rfl (Nat.le_of_ble_eq_true rfl) ?_
  obtain ⟨y1, hy1, h2⟩ := bi_ok h
  refine go_ops hΓ 5 rfl ?_
  refine eo_callF [0] (.d (Sl eS y1.1)) [.box 25 [.d (Sl (eN .i64) y1.2.L), I y1.2.v_at], .box 92 [.d (Sl eS []), I 0, .d (Sl e_api_Split []), .d (Sl e_api_Source [])]] (callable Tryz.func152 rfl rfl) (c_lanemake_Stream_Search hy1) rfl (Nat.le_of_ble_eq_true rfl) rfl rfl rfl rfl rfl rfl rfl rfl rfl rfl ?_
  refine go_ops hΓ 1 rfl ?_
  refine eo_litT hΓ (enc := (eN .i64)) [0, 1, 1, 2, 15] rfl rfl rfl rfl rfl rfl rfl rfl rfl rfl rfl rfl (Nat.le_of_ble_eq_true rfl) ?_
  obtain ⟨y3, hy3, h4⟩ := bi_ok h2
  refine eo_callF [0] (I y3.1) [.box 25 [.d (Sl (eN .i64) y3.2.L), I y3.2.v_at], .box 92 [.d (Sl eS []), I 0, .d (Sl e_api_Split []), .d (Sl e_api_Source [])]] (callable Tryz.func14 rfl rfl) (c_lanemake_Stream_Pick hy3) rfl (Nat.le_of_ble_eq_true rfl) rfl rfl rfl rfl rfl rfl rfl rfl rfl rfl ?_
  obtain ⟨y5, hy5, h6⟩ := bi_ok h4
  refine go_ops hΓ 1 rfl ?_
  refine eo_callF [0] (.sl 2 y5.1.length) [.box 25 [.d (Sl (eN .i64) y5.2.L), I y5.2.v_at], .box 92 [.d (Sl eS []), I 0, .d (Sl e_api_Split []), .d (Sl e_api_Source [])], .row 273 2 y5.1.length (y5.1.flatMap e_api_Split)] (callable Tryz.func153 rfl rfl) (c_lanemake_Stream_Splits hy5) rfl (Nat.le_of_ble_eq_true rfl) rfl rfl rfl rfl rfl rfl rfl rfl rfl rfl ?_
  refine eo_s (Nat.le_of_ble_eq_true rfl) (nblt.1 rfl) (ops_nilAt 207 2 3 (OpP.s (op_buildX hΓ [3] (gs := [.d (Sl eS y1.1), I y3.1, .sl 2 y5.1.length, .d (.v (.slice none 0 0))]) rfl rfl rfl rfl rfl rfl)) rfl) ?_
  refine eo_alloc hΓ rfl rfl rfl (Nat.le_of_ble_eq_true rfl) ?_
  refine eo_store hΓ rfl rfl rfl rfl rfl rfl rfl rfl (Nat.le_of_ble_eq_true rfl) ?_
  refine eo_hp [.box 25 [.d (Sl (eN .i64) y5.2.L), I y5.2.v_at], .box 92 [.d (Sl eS []), I 0, .d (Sl e_api_Split []), .d (Sl e_api_Source [])], .row 273 2 y5.1.length (y5.1.flatMap e_api_Split), .row 207 2 ([] : List T_api_Source).length (([] : List T_api_Source).flatMap e_api_Source), .box 92 [.d (Sl eS y1.1), I y3.1, .sl 2 y5.1.length, .sl 3 ([] : List T_api_Source).length]] rfl ?_
  obtain ⟨y7, hy7, h8⟩ := bi_ok h6
  refine go_ops hΓ 5 rfl ?_
  refine eo_callF [0] (.agg [S y7.1.Root, .d (Sl e_api_Record y7.1.Records)]) [.box 25 [.d (Sl (eN .i64) y7.2.L), I y7.2.v_at], .box 92 [.d (Sl eS []), I 0, .d (Sl e_api_Split []), .d (Sl e_api_Source [])], .row 273 2 y5.1.length (y5.1.flatMap e_api_Split), .row 207 2 ([] : List T_api_Source).length (([] : List T_api_Source).flatMap e_api_Source), .box 92 [.d (Sl eS y1.1), I y3.1, .sl 2 y5.1.length, .sl 3 ([] : List T_api_Source).length]] (callable Tryz.func154 rfl rfl) (c_lanemake_Stream_RightZone hy7) rfl (Nat.le_of_ble_eq_true rfl) rfl rfl rfl rfl rfl rfl rfl rfl rfl rfl ?_
  refine eo_s (Nat.le_of_ble_eq_true rfl) (nblt.1 rfl) (ops_litFT hΓ (enc := e_api_Zone) [y7.1] rfl rfl rfl rfl rfl rfl rfl rfl rfl rfl rfl) ?_
  refine eo_build hΓ (gs := [S [105, 110], .d (Slf e_api_Zone [y7.1])]) rfl rfl rfl rfl rfl rfl rfl ?_
  obtain ⟨y9, hy9, h10⟩ := bi_ok h8
  refine eo_callP (callable Tryz.func155 rfl rfl) (c_lanemake_at hy9) rfl (Nat.le_of_ble_eq_true rfl) rfl rfl rfl rfl rfl ?_
  refine eo_build hΓ (gs := [S [42, 46, 108, 97, 98, 46, 110, 101, 116, 46, 120], I 1, B y9.Six, .d (.v (.int .u64 y9.Hi)), .d (.v (.int .u64 y9.Lo)), S [], S [], I 5]) rfl rfl rfl rfl rfl rfl rfl ?_
  refine eo_litT hΓ (enc := e_api_Record) [(⟨[42, 46, 108, 97, 98, 46, 110, 101, 116, 46, 120], 1, y9, [], [], 5⟩ : T_api_Record)] rfl rfl rfl rfl rfl rfl rfl rfl rfl rfl rfl rfl (Nat.le_of_ble_eq_true rfl) ?_
  refine eo_build hΓ (gs := [S [108, 97, 98, 46, 110, 101, 116, 46, 120], .d (Sl e_api_Record [(⟨[42, 46, 108, 97, 98, 46, 110, 101, 116, 46, 120], 1, y9, [], [], 5⟩ : T_api_Record)])]) rfl rfl rfl rfl rfl rfl rfl ?_
  refine eo_build hΓ (gs := [S [111, 116, 104, 101, 114], .d (Sl e_api_Record [])]) rfl rfl rfl rfl rfl rfl rfl ?_
  refine eo_s (Nat.le_of_ble_eq_true rfl) (nblt.1 rfl) (ops_litFT hΓ (enc := e_api_Zone) [(⟨[108, 97, 98, 46, 110, 101, 116, 46, 120], [(⟨[42, 46, 108, 97, 98, 46, 110, 101, 116, 46, 120], 1, y9, [], [], 5⟩ : T_api_Record)]⟩ : T_api_Zone), (⟨[111, 116, 104, 101, 114], []⟩ : T_api_Zone)] rfl rfl rfl rfl rfl rfl rfl rfl rfl rfl rfl) ?_
  refine eo_build hΓ (gs := [S [111, 117, 116], .d (Slf e_api_Zone [(⟨[108, 97, 98, 46, 110, 101, 116, 46, 120], [(⟨[42, 46, 108, 97, 98, 46, 110, 101, 116, 46, 120], 1, y9, [], [], 5⟩ : T_api_Record)]⟩ : T_api_Zone), (⟨[111, 116, 104, 101, 114], []⟩ : T_api_Zone)])]) rfl rfl rfl rfl rfl rfl rfl ?_
  refine eo_litRowT hΓ (enc := (fun (x : T_api_Source) => [.v (.string ⟨x.Server.toArray⟩), Slf e_api_Zone x.Zones])) [(⟨[105, 110], [y7.1]⟩ : T_api_Source), (⟨[111, 117, 116], [(⟨[108, 97, 98, 46, 110, 101, 116, 46, 120], [(⟨[42, 46, 108, 97, 98, 46, 110, 101, 116, 46, 120], 1, y9, [], [], 5⟩ : T_api_Record)]⟩ : T_api_Zone), (⟨[111, 116, 104, 101, 114], []⟩ : T_api_Zone)]⟩ : T_api_Source)] rfl rfl rfl rfl rfl rfl rfl rfl rfl rfl rfl rfl (Nat.le_of_ble_eq_true rfl) ?_
  refine go_ops hΓ 1 rfl ?_
  refine eo_store hΓ rfl rfl rfl rfl rfl rfl rfl rfl (Nat.le_of_ble_eq_true rfl) ?_
  refine eo_hp [.box 25 [.d (Sl (eN .i64) y7.2.L), I y7.2.v_at], .box 92 [.d (Sl eS []), I 0, .d (Sl e_api_Split []), .d (Sl e_api_Source [])], .row 273 2 y5.1.length (y5.1.flatMap e_api_Split), .row 207 2 ([] : List T_api_Source).length (([] : List T_api_Source).flatMap e_api_Source), .box 92 [.d (Sl eS y1.1), I y3.1, .sl 2 y5.1.length, .sl 5 [(⟨[105, 110], [y7.1]⟩ : T_api_Source), (⟨[111, 117, 116], [(⟨[108, 97, 98, 46, 110, 101, 116, 46, 120], [(⟨[42, 46, 108, 97, 98, 46, 110, 101, 116, 46, 120], 1, y9, [], [], 5⟩ : T_api_Record)]⟩ : T_api_Zone), (⟨[111, 116, 104, 101, 114], []⟩ : T_api_Zone)]⟩ : T_api_Source)].length], .row 207 2 [(⟨[105, 110], [y7.1]⟩ : T_api_Source), (⟨[111, 117, 116], [(⟨[108, 97, 98, 46, 110, 101, 116, 46, 120], [(⟨[42, 46, 108, 97, 98, 46, 110, 101, 116, 46, 120], 1, y9, [], [], 5⟩ : T_api_Record)]⟩ : T_api_Zone), (⟨[111, 116, 104, 101, 114], []⟩ : T_api_Zone)]⟩ : T_api_Source)].length ([(⟨[105, 110], [y7.1]⟩ : T_api_Source), (⟨[111, 117, 116], [(⟨[108, 97, 98, 46, 110, 101, 116, 46, 120], [(⟨[42, 46, 108, 97, 98, 46, 110, 101, 116, 46, 120], 1, y9, [], [], 5⟩ : T_api_Record)]⟩ : T_api_Zone), (⟨[111, 116, 104, 101, 114], []⟩ : T_api_Zone)]⟩ : T_api_Source)].flatMap (fun (x : T_api_Source) => [.v (.string ⟨x.Server.toArray⟩), Slf e_api_Zone x.Zones]))] rfl ?_
  obtain ⟨y11, hy11, h12⟩ := bi_ok h10
  refine go_ops hΓ 6 rfl ?_
  refine eo_callF [0] (B y11.1) [.box 25 [.d (Sl (eN .i64) y11.2.L), I y11.2.v_at], .box 92 [.d (Sl eS []), I 0, .d (Sl e_api_Split []), .d (Sl e_api_Source [])], .row 273 2 y5.1.length (y5.1.flatMap e_api_Split), .row 207 2 ([] : List T_api_Source).length (([] : List T_api_Source).flatMap e_api_Source), .box 92 [.d (Sl eS y1.1), I y3.1, .sl 2 y5.1.length, .sl 5 [(⟨[105, 110], [y7.1]⟩ : T_api_Source), (⟨[111, 117, 116], [(⟨[108, 97, 98, 46, 110, 101, 116, 46, 120], [(⟨[42, 46, 108, 97, 98, 46, 110, 101, 116, 46, 120], 1, y9, [], [], 5⟩ : T_api_Record)]⟩ : T_api_Zone), (⟨[111, 116, 104, 101, 114], []⟩ : T_api_Zone)]⟩ : T_api_Source)].length], .row 207 2 [(⟨[105, 110], [y7.1]⟩ : T_api_Source), (⟨[111, 117, 116], [(⟨[108, 97, 98, 46, 110, 101, 116, 46, 120], [(⟨[42, 46, 108, 97, 98, 46, 110, 101, 116, 46, 120], 1, y9, [], [], 5⟩ : T_api_Record)]⟩ : T_api_Zone), (⟨[111, 116, 104, 101, 114], []⟩ : T_api_Zone)]⟩ : T_api_Source)].length ([(⟨[105, 110], [y7.1]⟩ : T_api_Source), (⟨[111, 117, 116], [(⟨[108, 97, 98, 46, 110, 101, 116, 46, 120], [(⟨[42, 46, 108, 97, 98, 46, 110, 101, 116, 46, 120], 1, y9, [], [], 5⟩ : T_api_Record)]⟩ : T_api_Zone), (⟨[111, 116, 104, 101, 114], []⟩ : T_api_Zone)]⟩ : T_api_Source)].flatMap (fun (x : T_api_Source) => [.v (.string ⟨x.Server.toArray⟩), Slf e_api_Zone x.Zones]))] (callable Tryz.func13 rfl rfl) (c_lanemake_Stream_Flip hy11) rfl (Nat.le_of_ble_eq_true rfl) rfl rfl rfl rfl rfl rfl rfl rfl rfl rfl ?_
  obtain ⟨q13, hq13, h14⟩ := bi_ok h12
  refine go_ops hΓ 2 rfl ?_
  refine j_cutNC [(2, .ptr 1 0), (3, .ptr 4 0)] [.box 25 [.d (Sl (eN .i64) q13.1.L), I q13.1.v_at], .box 92 [.d (Sl eS []), I 0, .d (Sl e_api_Split []), .d (Sl e_api_Source [])], .row 273 2 y5.1.length (y5.1.flatMap e_api_Split), .row 207 2 ([] : List T_api_Source).length (([] : List T_api_Source).flatMap e_api_Source), .box 92 [.d (Sl eS y1.1), I q13.2.1, .sl 2 y5.1.length, .d (Sl e_api_Source q13.2.2)], .dead] ?_ ?_
  · refine j_cond rfl (fun hb => ?_) (fun hb => ?_)
    · have h15 := cT hq13 hb
      obtain ⟨y16, hy16, h17⟩ := bi_ok h15
      refine go hΓ 3 rfl ?_
      refine eo_callF [0] (I y16.1) [.box 25 [.d (Sl (eN .i64) y16.2.L), I y16.2.v_at], .box 92 [.d (Sl eS []), I 0, .d (Sl e_api_Split []), .d (Sl e_api_Source [])], .row 273 2 y5.1.length (y5.1.flatMap e_api_Split), .row 207 2 ([] : List T_api_Source).length (([] : List T_api_Source).flatMap e_api_Source), .box 92 [.d (Sl eS y1.1), I y3.1, .sl 2 y5.1.length, .sl 5 [(⟨[105, 110], [y7.1]⟩ : T_api_Source), (⟨[111, 117, 116], [(⟨[108, 97, 98, 46, 110, 101, 116, 46, 120], [(⟨[42, 46, 108, 97, 98, 46, 110, 101, 116, 46, 120], 1, y9, [], [], 5⟩ : T_api_Record)]⟩ : T_api_Zone), (⟨[111, 116, 104, 101, 114], []⟩ : T_api_Zone)]⟩ : T_api_Source)].length], .row 207 2 [(⟨[105, 110], [y7.1]⟩ : T_api_Source), (⟨[111, 117, 116], [(⟨[108, 97, 98, 46, 110, 101, 116, 46, 120], [(⟨[42, 46, 108, 97, 98, 46, 110, 101, 116, 46, 120], 1, y9, [], [], 5⟩ : T_api_Record)]⟩ : T_api_Zone), (⟨[111, 116, 104, 101, 114], []⟩ : T_api_Zone)]⟩ : T_api_Source)].length ([(⟨[105, 110], [y7.1]⟩ : T_api_Source), (⟨[111, 117, 116], [(⟨[108, 97, 98, 46, 110, 101, 116, 46, 120], [(⟨[42, 46, 108, 97, 98, 46, 110, 101, 116, 46, 120], 1, y9, [], [], 5⟩ : T_api_Record)]⟩ : T_api_Zone), (⟨[111, 116, 104, 101, 114], []⟩ : T_api_Zone)]⟩ : T_api_Source)].flatMap (fun (x : T_api_Source) => [.v (.string ⟨x.Server.toArray⟩), Slf e_api_Zone x.Zones]))] (callable Tryz.func47 rfl rfl) (c_lanemake_Stream_Next hy16) rfl (Nat.le_of_ble_eq_true rfl) rfl rfl rfl rfl rfl rfl rfl rfl rfl rfl ?_
      refine go_ops hΓ 9 rfl ?_
      refine j_cond rfl (fun hb => ?_) (fun hb => ?_)
      · have h18 := cT h17 hb
        obtain ⟨y19, hy19, h20⟩ := bi_ok h18
        refine go hΓ 2 rfl ?_
        refine eo_callF [0] (I y19.1) [.box 25 [.d (Sl (eN .i64) y19.2.L), I y19.2.v_at], .box 92 [.d (Sl eS []), I 0, .d (Sl e_api_Split []), .d (Sl e_api_Source [])], .row 273 2 y5.1.length (y5.1.flatMap e_api_Split), .row 207 2 ([] : List T_api_Source).length (([] : List T_api_Source).flatMap e_api_Source), .box 92 [.d (Sl eS y1.1), I y3.1, .sl 2 y5.1.length, .sl 5 [(⟨[105, 110], [y7.1]⟩ : T_api_Source), (⟨[111, 117, 116], [(⟨[108, 97, 98, 46, 110, 101, 116, 46, 120], [(⟨[42, 46, 108, 97, 98, 46, 110, 101, 116, 46, 120], 1, y9, [], [], 5⟩ : T_api_Record)]⟩ : T_api_Zone), (⟨[111, 116, 104, 101, 114], []⟩ : T_api_Zone)]⟩ : T_api_Source)].length], .row 207 2 [(⟨[105, 110], [y7.1]⟩ : T_api_Source), (⟨[111, 117, 116], [(⟨[108, 97, 98, 46, 110, 101, 116, 46, 120], [(⟨[42, 46, 108, 97, 98, 46, 110, 101, 116, 46, 120], 1, y9, [], [], 5⟩ : T_api_Record)]⟩ : T_api_Zone), (⟨[111, 116, 104, 101, 114], []⟩ : T_api_Zone)]⟩ : T_api_Source)].length ([(⟨[105, 110], [y7.1]⟩ : T_api_Source), (⟨[111, 117, 116], [(⟨[108, 97, 98, 46, 110, 101, 116, 46, 120], [(⟨[42, 46, 108, 97, 98, 46, 110, 101, 116, 46, 120], 1, y9, [], [], 5⟩ : T_api_Record)]⟩ : T_api_Zone), (⟨[111, 116, 104, 101, 114], []⟩ : T_api_Zone)]⟩ : T_api_Source)].flatMap (fun (x : T_api_Source) => [.v (.string ⟨x.Server.toArray⟩), Slf e_api_Zone x.Zones]))] (callable Tryz.func81 rfl rfl) (c_lanemake_Stream_Odd hy19) rfl (Nat.le_of_ble_eq_true rfl) rfl rfl rfl rfl rfl rfl rfl rfl rfl rfl ?_
        refine go_ops hΓ 1 rfl ?_
        refine eo_store hΓ rfl rfl rfl rfl rfl rfl rfl rfl (Nat.le_of_ble_eq_true rfl) ?_
        refine eo_hp [.box 25 [.d (Sl (eN .i64) y19.2.L), I y19.2.v_at], .box 92 [.d (Sl eS []), I 0, .d (Sl e_api_Split []), .d (Sl e_api_Source [])], .row 273 2 y5.1.length (y5.1.flatMap e_api_Split), .row 207 2 ([] : List T_api_Source).length (([] : List T_api_Source).flatMap e_api_Source), .box 92 [.d (Sl eS y1.1), I y19.1, .sl 2 y5.1.length, .sl 5 [(⟨[105, 110], [y7.1]⟩ : T_api_Source), (⟨[111, 117, 116], [(⟨[108, 97, 98, 46, 110, 101, 116, 46, 120], [(⟨[42, 46, 108, 97, 98, 46, 110, 101, 116, 46, 120], 1, y9, [], [], 5⟩ : T_api_Record)]⟩ : T_api_Zone), (⟨[111, 116, 104, 101, 114], []⟩ : T_api_Zone)]⟩ : T_api_Source)].length], .row 207 2 [(⟨[105, 110], [y7.1]⟩ : T_api_Source), (⟨[111, 117, 116], [(⟨[108, 97, 98, 46, 110, 101, 116, 46, 120], [(⟨[42, 46, 108, 97, 98, 46, 110, 101, 116, 46, 120], 1, y9, [], [], 5⟩ : T_api_Record)]⟩ : T_api_Zone), (⟨[111, 116, 104, 101, 114], []⟩ : T_api_Zone)]⟩ : T_api_Source)].length ([(⟨[105, 110], [y7.1]⟩ : T_api_Source), (⟨[111, 117, 116], [(⟨[108, 97, 98, 46, 110, 101, 116, 46, 120], [(⟨[42, 46, 108, 97, 98, 46, 110, 101, 116, 46, 120], 1, y9, [], [], 5⟩ : T_api_Record)]⟩ : T_api_Zone), (⟨[111, 116, 104, 101, 114], []⟩ : T_api_Zone)]⟩ : T_api_Source)].flatMap (fun (x : T_api_Source) => [.v (.string ⟨x.Server.toArray⟩), Slf e_api_Zone x.Zones]))] rfl ?_
        refine go_ops hΓ 2 rfl ?_
        refine cv_wkRow (enc' := e_api_Source) 5 [.box 25 [.d (Sl (eN .i64) y19.2.L), I y19.2.v_at], .box 92 [.d (Sl eS []), I 0, .d (Sl e_api_Split []), .d (Sl e_api_Source [])], .row 273 2 y5.1.length (y5.1.flatMap e_api_Split), .row 207 2 ([] : List T_api_Source).length (([] : List T_api_Source).flatMap e_api_Source), .box 92 [.d (Sl eS y1.1), I y19.1, .sl 2 y5.1.length, .sl 5 [(⟨[105, 110], [y7.1]⟩ : T_api_Source), (⟨[111, 117, 116], [(⟨[108, 97, 98, 46, 110, 101, 116, 46, 120], [(⟨[42, 46, 108, 97, 98, 46, 110, 101, 116, 46, 120], 1, y9, [], [], 5⟩ : T_api_Record)]⟩ : T_api_Zone), (⟨[111, 116, 104, 101, 114], []⟩ : T_api_Zone)]⟩ : T_api_Source)].length], .row 207 2 [(⟨[105, 110], [y7.1]⟩ : T_api_Source), (⟨[111, 117, 116], [(⟨[108, 97, 98, 46, 110, 101, 116, 46, 120], [(⟨[42, 46, 108, 97, 98, 46, 110, 101, 116, 46, 120], 1, y9, [], [], 5⟩ : T_api_Record)]⟩ : T_api_Zone), (⟨[111, 116, 104, 101, 114], []⟩ : T_api_Zone)]⟩ : T_api_Source)].length ([(⟨[105, 110], [y7.1]⟩ : T_api_Source), (⟨[111, 117, 116], [(⟨[108, 97, 98, 46, 110, 101, 116, 46, 120], [(⟨[42, 46, 108, 97, 98, 46, 110, 101, 116, 46, 120], 1, y9, [], [], 5⟩ : T_api_Record)]⟩ : T_api_Zone), (⟨[111, 116, 104, 101, 114], []⟩ : T_api_Zone)]⟩ : T_api_Source)].flatMap e_api_Source)] rfl (fun _ => ⟨.refl _, .rf _ _, trivial⟩) rfl (Nat.le_of_ble_eq_true rfl) ?_
        refine cv_shr 5 [23] _ [.box 25 [.d (Sl (eN .i64) y19.2.L), I y19.2.v_at], .box 92 [.d (Sl eS []), I 0, .d (Sl e_api_Split []), .d (Sl e_api_Source [])], .row 273 2 y5.1.length (y5.1.flatMap e_api_Split), .row 207 2 ([] : List T_api_Source).length (([] : List T_api_Source).flatMap e_api_Source), .box 92 [.d (Sl eS y1.1), I y19.1, .sl 2 y5.1.length, .d (Sl e_api_Source [(⟨[105, 110], [y7.1]⟩ : T_api_Source), (⟨[111, 117, 116], [(⟨[108, 97, 98, 46, 110, 101, 116, 46, 120], [(⟨[42, 46, 108, 97, 98, 46, 110, 101, 116, 46, 120], 1, y9, [], [], 5⟩ : T_api_Record)]⟩ : T_api_Zone), (⟨[111, 116, 104, 101, 114], []⟩ : T_api_Zone)]⟩ : T_api_Source)])], .dead] rfl rfl rfl (Nat.le_of_ble_eq_true rfl) ?_
        refine cv_here ?_
        obtain rfl := Option.some.inj h20
        exact ⟨⟨rfl, rfl, trivial⟩, [], rfl, .inl rfl⟩
      · have h21 := cF h17 hb
        refine go hΓ 6 rfl ?_
        refine j_cond rfl (fun hb => ?_) (fun hb => ?_)
        · have h22 := cT h21 hb
          refine j_drawE [.dead, .dead, .dead, .dead, .box 92 [.d (Sl eS y1.1), I y3.1, .sl 2 y5.1.length, .sl 5 [(⟨[105, 110], [y7.1]⟩ : T_api_Source), (⟨[111, 117, 116], [(⟨[108, 97, 98, 46, 110, 101, 116, 46, 120], [(⟨[42, 46, 108, 97, 98, 46, 110, 101, 116, 46, 120], 1, y9, [], [], 5⟩ : T_api_Record)]⟩ : T_api_Zone), (⟨[111, 116, 104, 101, 114], []⟩ : T_api_Zone)]⟩ : T_api_Source)].length], .row 207 2 [(⟨[105, 110], [y7.1]⟩ : T_api_Source), (⟨[111, 117, 116], [(⟨[108, 97, 98, 46, 110, 101, 116, 46, 120], [(⟨[42, 46, 108, 97, 98, 46, 110, 101, 116, 46, 120], 1, y9, [], [], 5⟩ : T_api_Record)]⟩ : T_api_Zone), (⟨[111, 116, 104, 101, 114], []⟩ : T_api_Zone)]⟩ : T_api_Source)].length ([(⟨[105, 110], [y7.1]⟩ : T_api_Source), (⟨[111, 117, 116], [(⟨[108, 97, 98, 46, 110, 101, 116, 46, 120], [(⟨[42, 46, 108, 97, 98, 46, 110, 101, 116, 46, 120], 1, y9, [], [], 5⟩ : T_api_Record)]⟩ : T_api_Zone), (⟨[111, 116, 104, 101, 114], []⟩ : T_api_Zone)]⟩ : T_api_Source)].flatMap (fun (x : T_api_Source) => [.v (.string ⟨x.Server.toArray⟩), Slf e_api_Zone x.Zones]))] [1, 3, 6] [8, 10, 13] [13] hmix (by kernel_rfl) (by kernel_rfl) ⟨rfl, rfl, trivial⟩ (Nat.le_of_ble_eq_true rfl) ?_
          obtain ⟨x23, hx23, h24⟩ := bi_ok h22
          have hj25 := getZ_at hx23
          refine go_E hΓ 4 rfl ?_
          refine ge_q rfl (.inl rfl) (fun _ _ => qte_of_qt (qt_p (op_elemRowZ hΓ hx23 rfl rfl rfl rfl rfl rfl))) ?_
          refine go_E hΓ 1 rfl ?_
          refine ge_p rfl (fun hp hs => op_loadRowZ hΓ (enc := (fun (x : T_api_Source) => [.v (.string ⟨x.Server.toArray⟩), Slf e_api_Zone x.Zones])) ((0 : Int).toNat) 1 hj25 rfl rfl rfl (hs 5 _ rfl rfl) (fun _ => rfl) (g := .d (Slf e_api_Zone x23.Zones)) rfl) rfl ?_
          obtain ⟨y26, hy26, h27⟩ := bi_ok h24
          refine go_E hΓ 1 rfl ?_
          refine ge_h [.box 25 [.d (Sl (eN .i64) y26.2.L), I y26.2.v_at], .box 92 [.d (Sl eS []), I 0, .d (Sl e_api_Split []), .d (Sl e_api_Source [])], .row 273 2 y5.1.length (y5.1.flatMap e_api_Split), .row 207 2 ([] : List T_api_Source).length (([] : List T_api_Source).flatMap e_api_Source), .box 92 [.d (Sl eS y1.1), I y3.1, .sl 2 y5.1.length, .sl 5 [(⟨[105, 110], [y7.1]⟩ : T_api_Source), (⟨[111, 117, 116], [(⟨[108, 97, 98, 46, 110, 101, 116, 46, 120], [(⟨[42, 46, 108, 97, 98, 46, 110, 101, 116, 46, 120], 1, y9, [], [], 5⟩ : T_api_Record)]⟩ : T_api_Zone), (⟨[111, 116, 104, 101, 114], []⟩ : T_api_Zone)]⟩ : T_api_Source)].length], .row 207 2 [(⟨[105, 110], [y7.1]⟩ : T_api_Source), (⟨[111, 117, 116], [(⟨[108, 97, 98, 46, 110, 101, 116, 46, 120], [(⟨[42, 46, 108, 97, 98, 46, 110, 101, 116, 46, 120], 1, y9, [], [], 5⟩ : T_api_Record)]⟩ : T_api_Zone), (⟨[111, 116, 104, 101, 114], []⟩ : T_api_Zone)]⟩ : T_api_Source)].length ([(⟨[105, 110], [y7.1]⟩ : T_api_Source), (⟨[111, 117, 116], [(⟨[108, 97, 98, 46, 110, 101, 116, 46, 120], [(⟨[42, 46, 108, 97, 98, 46, 110, 101, 116, 46, 120], 1, y9, [], [], 5⟩ : T_api_Record)]⟩ : T_api_Zone), (⟨[111, 116, 104, 101, 114], []⟩ : T_api_Zone)]⟩ : T_api_Source)].flatMap (fun (x : T_api_Source) => [.v (.string ⟨x.Server.toArray⟩), Slf e_api_Zone x.Zones]))] rfl rfl rfl (st_st ⟨rfl, rfl, trivial⟩) (qte_callF [0] (.agg [S y26.1.Root, .d (Sl e_api_Record y26.1.Records)]) [.box 25 [.d (Sl (eN .i64) y26.2.L), I y26.2.v_at], .box 92 [.d (Sl eS []), I 0, .d (Sl e_api_Split []), .d (Sl e_api_Source [])], .row 273 2 y5.1.length (y5.1.flatMap e_api_Split), .row 207 2 ([] : List T_api_Source).length (([] : List T_api_Source).flatMap e_api_Source), .box 92 [.d (Sl eS y1.1), I y3.1, .sl 2 y5.1.length, .sl 5 [(⟨[105, 110], [y7.1]⟩ : T_api_Source), (⟨[111, 117, 116], [(⟨[108, 97, 98, 46, 110, 101, 116, 46, 120], [(⟨[42, 46, 108, 97, 98, 46, 110, 101, 116, 46, 120], 1, y9, [], [], 5⟩ : T_api_Record)]⟩ : T_api_Zone), (⟨[111, 116, 104, 101, 114], []⟩ : T_api_Zone)]⟩ : T_api_Source)].length], .row 207 2 [(⟨[105, 110], [y7.1]⟩ : T_api_Source), (⟨[111, 117, 116], [(⟨[108, 97, 98, 46, 110, 101, 116, 46, 120], [(⟨[42, 46, 108, 97, 98, 46, 110, 101, 116, 46, 120], 1, y9, [], [], 5⟩ : T_api_Record)]⟩ : T_api_Zone), (⟨[111, 116, 104, 101, 114], []⟩ : T_api_Zone)]⟩ : T_api_Source)].length ([(⟨[105, 110], [y7.1]⟩ : T_api_Source), (⟨[111, 117, 116], [(⟨[108, 97, 98, 46, 110, 101, 116, 46, 120], [(⟨[42, 46, 108, 97, 98, 46, 110, 101, 116, 46, 120], 1, y9, [], [], 5⟩ : T_api_Record)]⟩ : T_api_Zone), (⟨[111, 116, 104, 101, 114], []⟩ : T_api_Zone)]⟩ : T_api_Source)].flatMap (fun (x : T_api_Source) => [.v (.string ⟨x.Server.toArray⟩), Slf e_api_Zone x.Zones]))] (callable Tryz.func24 rfl rfl) (c_lanemake_Stream_Zone hy26) rfl rfl rfl rfl rfl rfl rfl rfl rfl rfl) ?_
          refine ge_litT hΓ (enc := e_api_Zone) [y26.1] rfl rfl rfl rfl rfl rfl rfl rfl rfl rfl rfl rfl ?_
          obtain ⟨y28, hy28, h29⟩ := bi_ok h27
          refine ge_h [.box 25 [.d (Sl (eN .i64) y26.2.L), I y26.2.v_at], .box 92 [.d (Sl eS []), I 0, .d (Sl e_api_Split []), .d (Sl e_api_Source [])], .row 273 2 y5.1.length (y5.1.flatMap e_api_Split), .row 207 2 ([] : List T_api_Source).length (([] : List T_api_Source).flatMap e_api_Source), .box 92 [.d (Sl eS y1.1), I y3.1, .sl 2 y5.1.length, .sl 5 [(⟨[105, 110], [y7.1]⟩ : T_api_Source), (⟨[111, 117, 116], [(⟨[108, 97, 98, 46, 110, 101, 116, 46, 120], [(⟨[42, 46, 108, 97, 98, 46, 110, 101, 116, 46, 120], 1, y9, [], [], 5⟩ : T_api_Record)]⟩ : T_api_Zone), (⟨[111, 116, 104, 101, 114], []⟩ : T_api_Zone)]⟩ : T_api_Source)].length], .row 207 2 [(⟨[105, 110], [y7.1]⟩ : T_api_Source), (⟨[111, 117, 116], [(⟨[108, 97, 98, 46, 110, 101, 116, 46, 120], [(⟨[42, 46, 108, 97, 98, 46, 110, 101, 116, 46, 120], 1, y9, [], [], 5⟩ : T_api_Record)]⟩ : T_api_Zone), (⟨[111, 116, 104, 101, 114], []⟩ : T_api_Zone)]⟩ : T_api_Source)].length ([(⟨[105, 110], [y7.1]⟩ : T_api_Source), (⟨[111, 117, 116], [(⟨[108, 97, 98, 46, 110, 101, 116, 46, 120], [(⟨[42, 46, 108, 97, 98, 46, 110, 101, 116, 46, 120], 1, y9, [], [], 5⟩ : T_api_Record)]⟩ : T_api_Zone), (⟨[111, 116, 104, 101, 114], []⟩ : T_api_Zone)]⟩ : T_api_Source)].flatMap (fun (x : T_api_Source) => [.v (.string ⟨x.Server.toArray⟩), Slf e_api_Zone x.Zones]))] rfl rfl rfl (st_st ⟨rfl, rfl, trivial⟩) (qte_s (ops_appendFT hΓ (enc := e_api_Zone) hy28 rfl rfl rfl rfl rfl rfl rfl (fun _ => rfl) rfl rfl)) ?_
          obtain ⟨x30, hx30, h31⟩ := bi_ok h29
          have hj32 := getZ_at hx30
          refine ge_q rfl (.inl rfl) (fun _ _ => qte_of_qt (qt_p (op_elemRowZ hΓ hx30 rfl rfl rfl rfl rfl rfl))) ?_
          refine go_E hΓ 1 rfl ?_
          refine ge_h0 [.box 25 [.d (Sl (eN .i64) y26.2.L), I y26.2.v_at], .box 92 [.d (Sl eS []), I 0, .d (Sl e_api_Split []), .d (Sl e_api_Source [])], .row 273 2 y5.1.length (y5.1.flatMap e_api_Split), .row 207 2 ([] : List T_api_Source).length (([] : List T_api_Source).flatMap e_api_Source), .box 92 [.d (Sl eS y1.1), I y3.1, .sl 2 y5.1.length, .sl 5 ([(⟨[105, 110], [y7.1]⟩ : T_api_Source), (⟨[111, 117, 116], [(⟨[108, 97, 98, 46, 110, 101, 116, 46, 120], [(⟨[42, 46, 108, 97, 98, 46, 110, 101, 116, 46, 120], 1, y9, [], [], 5⟩ : T_api_Record)]⟩ : T_api_Zone), (⟨[111, 116, 104, 101, 114], []⟩ : T_api_Zone)]⟩ : T_api_Source)].set ((0 : Int).toNat) (⟨x30.Server, y28⟩ : T_api_Source)).length], .row 207 2 ([(⟨[105, 110], [y7.1]⟩ : T_api_Source), (⟨[111, 117, 116], [(⟨[108, 97, 98, 46, 110, 101, 116, 46, 120], [(⟨[42, 46, 108, 97, 98, 46, 110, 101, 116, 46, 120], 1, y9, [], [], 5⟩ : T_api_Record)]⟩ : T_api_Zone), (⟨[111, 116, 104, 101, 114], []⟩ : T_api_Zone)]⟩ : T_api_Source)].set ((0 : Int).toNat) (⟨x30.Server, y28⟩ : T_api_Source)).length (([(⟨[105, 110], [y7.1]⟩ : T_api_Source), (⟨[111, 117, 116], [(⟨[108, 97, 98, 46, 110, 101, 116, 46, 120], [(⟨[42, 46, 108, 97, 98, 46, 110, 101, 116, 46, 120], 1, y9, [], [], 5⟩ : T_api_Record)]⟩ : T_api_Zone), (⟨[111, 116, 104, 101, 114], []⟩ : T_api_Zone)]⟩ : T_api_Source)].set ((0 : Int).toNat) (⟨x30.Server, y28⟩ : T_api_Source)).flatMap e_api_Source)] rfl rfl (brk_st rfl) (qte_u (opu_wk (enc := (fun (x : T_api_Source) => [.v (.string ⟨x.Server.toArray⟩), Slf e_api_Zone x.Zones])) e_api_Source 5 rfl (fun _ => ⟨.refl _, .rf _ _, trivial⟩) (opu_storeRowZ hΓ (enc := e_api_Source) (z' := (⟨x30.Server, y28⟩ : T_api_Source)) ((0 : Int).toNat) 1 hj32 rfl rfl rfl rfl (fun _ => rfl) rfl rfl rfl rfl rfl rfl rfl))) ?_
          refine ge_fin ?_
          refine go hΓ 1 rfl ?_
          refine cv_shr 5 [23, 38, 40] _ [.box 25 [.d (Sl (eN .i64) y26.2.L), I y26.2.v_at], .box 92 [.d (Sl eS []), I 0, .d (Sl e_api_Split []), .d (Sl e_api_Source [])], .row 273 2 y5.1.length (y5.1.flatMap e_api_Split), .row 207 2 ([] : List T_api_Source).length (([] : List T_api_Source).flatMap e_api_Source), .box 92 [.d (Sl eS y1.1), I y3.1, .sl 2 y5.1.length, .d (Sl e_api_Source ([(⟨[105, 110], [y7.1]⟩ : T_api_Source), (⟨[111, 117, 116], [(⟨[108, 97, 98, 46, 110, 101, 116, 46, 120], [(⟨[42, 46, 108, 97, 98, 46, 110, 101, 116, 46, 120], 1, y9, [], [], 5⟩ : T_api_Record)]⟩ : T_api_Zone), (⟨[111, 116, 104, 101, 114], []⟩ : T_api_Zone)]⟩ : T_api_Source)].set ((0 : Int).toNat) (⟨x30.Server, y28⟩ : T_api_Source)))], .dead] rfl rfl rfl (Nat.le_of_ble_eq_true rfl) ?_
          refine cv_here ?_
          obtain rfl := Option.some.inj h31
          exact ⟨⟨rfl, rfl, trivial⟩, [], rfl, .inl rfl⟩
        · have h33 := cF h21 hb
          refine go hΓ 6 rfl ?_
          refine j_cond rfl (fun hb => ?_) (fun hb => ?_)
          · have h34 := cT h33 hb
            refine j_drawE [.dead, .dead, .dead, .dead, .box 92 [.d (Sl eS y1.1), I y3.1, .sl 2 y5.1.length, .sl 5 [(⟨[105, 110], [y7.1]⟩ : T_api_Source), (⟨[111, 117, 116], [(⟨[108, 97, 98, 46, 110, 101, 116, 46, 120], [(⟨[42, 46, 108, 97, 98, 46, 110, 101, 116, 46, 120], 1, y9, [], [], 5⟩ : T_api_Record)]⟩ : T_api_Zone), (⟨[111, 116, 104, 101, 114], []⟩ : T_api_Zone)]⟩ : T_api_Source)].length]] [1] [4, 7] [] hmix (by kernel_rfl) (by kernel_rfl) ⟨rfl, trivial⟩ (Nat.le_of_ble_eq_true rfl) ?_
            refine go_E hΓ 3 rfl ?_
            refine ge_litT hΓ (enc := eS) [[], [105, 110]] rfl rfl rfl rfl rfl rfl rfl rfl rfl rfl rfl rfl ?_
            obtain ⟨y35, hy35, h36⟩ := bi_ok h34
            refine ge_h [.box 25 [.d (Sl (eN .i64) y35.2.L), I y35.2.v_at], .box 92 [.d (Sl eS []), I 0, .d (Sl e_api_Split []), .d (Sl e_api_Source [])], .row 273 2 y5.1.length (y5.1.flatMap e_api_Split), .row 207 2 ([] : List T_api_Source).length (([] : List T_api_Source).flatMap e_api_Source), .box 92 [.d (Sl eS y1.1), I y3.1, .sl 2 y5.1.length, .sl 5 [(⟨[105, 110], [y7.1]⟩ : T_api_Source), (⟨[111, 117, 116], [(⟨[108, 97, 98, 46, 110, 101, 116, 46, 120], [(⟨[42, 46, 108, 97, 98, 46, 110, 101, 116, 46, 120], 1, y9, [], [], 5⟩ : T_api_Record)]⟩ : T_api_Zone), (⟨[111, 116, 104, 101, 114], []⟩ : T_api_Zone)]⟩ : T_api_Source)].length], .row 207 2 [(⟨[105, 110], [y7.1]⟩ : T_api_Source), (⟨[111, 117, 116], [(⟨[108, 97, 98, 46, 110, 101, 116, 46, 120], [(⟨[42, 46, 108, 97, 98, 46, 110, 101, 116, 46, 120], 1, y9, [], [], 5⟩ : T_api_Record)]⟩ : T_api_Zone), (⟨[111, 116, 104, 101, 114], []⟩ : T_api_Zone)]⟩ : T_api_Source)].length ([(⟨[105, 110], [y7.1]⟩ : T_api_Source), (⟨[111, 117, 116], [(⟨[108, 97, 98, 46, 110, 101, 116, 46, 120], [(⟨[42, 46, 108, 97, 98, 46, 110, 101, 116, 46, 120], 1, y9, [], [], 5⟩ : T_api_Record)]⟩ : T_api_Zone), (⟨[111, 116, 104, 101, 114], []⟩ : T_api_Zone)]⟩ : T_api_Source)].flatMap (fun (x : T_api_Source) => [.v (.string ⟨x.Server.toArray⟩), Slf e_api_Zone x.Zones]))] rfl rfl rfl (st_st ⟨rfl, trivial⟩) (qte_callF [0] (S y35.1) [.box 25 [.d (Sl (eN .i64) y35.2.L), I y35.2.v_at], .box 92 [.d (Sl eS []), I 0, .d (Sl e_api_Split []), .d (Sl e_api_Source [])], .row 273 2 y5.1.length (y5.1.flatMap e_api_Split), .row 207 2 ([] : List T_api_Source).length (([] : List T_api_Source).flatMap e_api_Source), .box 92 [.d (Sl eS y1.1), I y3.1, .sl 2 y5.1.length, .sl 5 [(⟨[105, 110], [y7.1]⟩ : T_api_Source), (⟨[111, 117, 116], [(⟨[108, 97, 98, 46, 110, 101, 116, 46, 120], [(⟨[42, 46, 108, 97, 98, 46, 110, 101, 116, 46, 120], 1, y9, [], [], 5⟩ : T_api_Record)]⟩ : T_api_Zone), (⟨[111, 116, 104, 101, 114], []⟩ : T_api_Zone)]⟩ : T_api_Source)].length], .row 207 2 [(⟨[105, 110], [y7.1]⟩ : T_api_Source), (⟨[111, 117, 116], [(⟨[108, 97, 98, 46, 110, 101, 116, 46, 120], [(⟨[42, 46, 108, 97, 98, 46, 110, 101, 116, 46, 120], 1, y9, [], [], 5⟩ : T_api_Record)]⟩ : T_api_Zone), (⟨[111, 116, 104, 101, 114], []⟩ : T_api_Zone)]⟩ : T_api_Source)].length ([(⟨[105, 110], [y7.1]⟩ : T_api_Source), (⟨[111, 117, 116], [(⟨[108, 97, 98, 46, 110, 101, 116, 46, 120], [(⟨[42, 46, 108, 97, 98, 46, 110, 101, 116, 46, 120], 1, y9, [], [], 5⟩ : T_api_Record)]⟩ : T_api_Zone), (⟨[111, 116, 104, 101, 114], []⟩ : T_api_Zone)]⟩ : T_api_Source)].flatMap (fun (x : T_api_Source) => [.v (.string ⟨x.Server.toArray⟩), Slf e_api_Zone x.Zones]))] (callable Tryz.func26 rfl rfl) (c_lanemake_Stream_Some hy35) rfl rfl rfl rfl rfl rfl rfl rfl rfl rfl) ?_
            obtain ⟨x37, hx37, h38⟩ := bi_ok h36
            have hj39 := getZ_at hx37
            refine ge_q rfl (.inl rfl) (fun _ _ => qte_of_qt (qt_p (op_elemRowZ hΓ hx37 rfl rfl rfl rfl rfl rfl))) ?_
            refine go_E hΓ 1 rfl ?_
            refine ge_h0 [.box 25 [.d (Sl (eN .i64) y35.2.L), I y35.2.v_at], .box 92 [.d (Sl eS []), I 0, .d (Sl e_api_Split []), .d (Sl e_api_Source [])], .row 273 2 y5.1.length (y5.1.flatMap e_api_Split), .row 207 2 ([] : List T_api_Source).length (([] : List T_api_Source).flatMap e_api_Source), .box 92 [.d (Sl eS y1.1), I y3.1, .sl 2 y5.1.length, .sl 5 ([(⟨[105, 110], [y7.1]⟩ : T_api_Source), (⟨[111, 117, 116], [(⟨[108, 97, 98, 46, 110, 101, 116, 46, 120], [(⟨[42, 46, 108, 97, 98, 46, 110, 101, 116, 46, 120], 1, y9, [], [], 5⟩ : T_api_Record)]⟩ : T_api_Zone), (⟨[111, 116, 104, 101, 114], []⟩ : T_api_Zone)]⟩ : T_api_Source)].set ((1 : Int).toNat) (⟨y35.1, x37.Zones⟩ : T_api_Source)).length], .row 207 2 ([(⟨[105, 110], [y7.1]⟩ : T_api_Source), (⟨[111, 117, 116], [(⟨[108, 97, 98, 46, 110, 101, 116, 46, 120], [(⟨[42, 46, 108, 97, 98, 46, 110, 101, 116, 46, 120], 1, y9, [], [], 5⟩ : T_api_Record)]⟩ : T_api_Zone), (⟨[111, 116, 104, 101, 114], []⟩ : T_api_Zone)]⟩ : T_api_Source)].set ((1 : Int).toNat) (⟨y35.1, x37.Zones⟩ : T_api_Source)).length (([(⟨[105, 110], [y7.1]⟩ : T_api_Source), (⟨[111, 117, 116], [(⟨[108, 97, 98, 46, 110, 101, 116, 46, 120], [(⟨[42, 46, 108, 97, 98, 46, 110, 101, 116, 46, 120], 1, y9, [], [], 5⟩ : T_api_Record)]⟩ : T_api_Zone), (⟨[111, 116, 104, 101, 114], []⟩ : T_api_Zone)]⟩ : T_api_Source)].set ((1 : Int).toNat) (⟨y35.1, x37.Zones⟩ : T_api_Source)).flatMap (fun (x : T_api_Source) => [.v (.string ⟨x.Server.toArray⟩), Slf e_api_Zone x.Zones]))] rfl rfl (st_st ⟨rfl, trivial⟩) (qte_u (opu_storeRowZ hΓ (enc := (fun (x : T_api_Source) => [.v (.string ⟨x.Server.toArray⟩), Slf e_api_Zone x.Zones])) (z' := (⟨y35.1, x37.Zones⟩ : T_api_Source)) ((1 : Int).toNat) 0 hj39 rfl rfl rfl rfl (fun _ => rfl) rfl rfl rfl rfl rfl rfl rfl)) ?_
            refine ge_fin ?_
            refine go hΓ 1 rfl ?_
            refine cv_wkRow (enc' := e_api_Source) 5 [.box 25 [.d (Sl (eN .i64) y35.2.L), I y35.2.v_at], .box 92 [.d (Sl eS []), I 0, .d (Sl e_api_Split []), .d (Sl e_api_Source [])], .row 273 2 y5.1.length (y5.1.flatMap e_api_Split), .row 207 2 ([] : List T_api_Source).length (([] : List T_api_Source).flatMap e_api_Source), .box 92 [.d (Sl eS y1.1), I y3.1, .sl 2 y5.1.length, .sl 5 ([(⟨[105, 110], [y7.1]⟩ : T_api_Source), (⟨[111, 117, 116], [(⟨[108, 97, 98, 46, 110, 101, 116, 46, 120], [(⟨[42, 46, 108, 97, 98, 46, 110, 101, 116, 46, 120], 1, y9, [], [], 5⟩ : T_api_Record)]⟩ : T_api_Zone), (⟨[111, 116, 104, 101, 114], []⟩ : T_api_Zone)]⟩ : T_api_Source)].set ((1 : Int).toNat) (⟨y35.1, x37.Zones⟩ : T_api_Source)).length], .row 207 2 ([(⟨[105, 110], [y7.1]⟩ : T_api_Source), (⟨[111, 117, 116], [(⟨[108, 97, 98, 46, 110, 101, 116, 46, 120], [(⟨[42, 46, 108, 97, 98, 46, 110, 101, 116, 46, 120], 1, y9, [], [], 5⟩ : T_api_Record)]⟩ : T_api_Zone), (⟨[111, 116, 104, 101, 114], []⟩ : T_api_Zone)]⟩ : T_api_Source)].set ((1 : Int).toNat) (⟨y35.1, x37.Zones⟩ : T_api_Source)).length (([(⟨[105, 110], [y7.1]⟩ : T_api_Source), (⟨[111, 117, 116], [(⟨[108, 97, 98, 46, 110, 101, 116, 46, 120], [(⟨[42, 46, 108, 97, 98, 46, 110, 101, 116, 46, 120], 1, y9, [], [], 5⟩ : T_api_Record)]⟩ : T_api_Zone), (⟨[111, 116, 104, 101, 114], []⟩ : T_api_Zone)]⟩ : T_api_Source)].set ((1 : Int).toNat) (⟨y35.1, x37.Zones⟩ : T_api_Source)).flatMap e_api_Source)] rfl (fun _ => ⟨.refl _, .rf _ _, trivial⟩) rfl (Nat.le_of_ble_eq_true rfl) ?_
            refine cv_shr 5 [23, 53] _ [.box 25 [.d (Sl (eN .i64) y35.2.L), I y35.2.v_at], .box 92 [.d (Sl eS []), I 0, .d (Sl e_api_Split []), .d (Sl e_api_Source [])], .row 273 2 y5.1.length (y5.1.flatMap e_api_Split), .row 207 2 ([] : List T_api_Source).length (([] : List T_api_Source).flatMap e_api_Source), .box 92 [.d (Sl eS y1.1), I y3.1, .sl 2 y5.1.length, .d (Sl e_api_Source ([(⟨[105, 110], [y7.1]⟩ : T_api_Source), (⟨[111, 117, 116], [(⟨[108, 97, 98, 46, 110, 101, 116, 46, 120], [(⟨[42, 46, 108, 97, 98, 46, 110, 101, 116, 46, 120], 1, y9, [], [], 5⟩ : T_api_Record)]⟩ : T_api_Zone), (⟨[111, 116, 104, 101, 114], []⟩ : T_api_Zone)]⟩ : T_api_Source)].set ((1 : Int).toNat) (⟨y35.1, x37.Zones⟩ : T_api_Source)))], .dead] rfl rfl rfl (Nat.le_of_ble_eq_true rfl) ?_
            refine cv_here ?_
            obtain rfl := Option.some.inj h38
            exact ⟨⟨rfl, rfl, trivial⟩, [], rfl, .inl rfl⟩
          · have h40 := cF h33 hb
            refine go hΓ 2 rfl ?_
            refine eo_store hΓ rfl rfl rfl rfl rfl rfl rfl rfl (Nat.le_of_ble_eq_true rfl) ?_
            refine eo_hp [.box 25 [.d (Sl (eN .i64) y16.2.L), I y16.2.v_at], .box 92 [.d (Sl eS []), I 0, .d (Sl e_api_Split []), .d (Sl e_api_Source [])], .row 273 2 y5.1.length (y5.1.flatMap e_api_Split), .row 207 2 ([] : List T_api_Source).length (([] : List T_api_Source).flatMap e_api_Source), .box 92 [.d (Sl eS y1.1), I y3.1, .sl 2 y5.1.length, .d (Sl e_api_Source [])], .row 207 2 [(⟨[105, 110], [y7.1]⟩ : T_api_Source), (⟨[111, 117, 116], [(⟨[108, 97, 98, 46, 110, 101, 116, 46, 120], [(⟨[42, 46, 108, 97, 98, 46, 110, 101, 116, 46, 120], 1, y9, [], [], 5⟩ : T_api_Record)]⟩ : T_api_Zone), (⟨[111, 116, 104, 101, 114], []⟩ : T_api_Zone)]⟩ : T_api_Source)].length ([(⟨[105, 110], [y7.1]⟩ : T_api_Source), (⟨[111, 117, 116], [(⟨[108, 97, 98, 46, 110, 101, 116, 46, 120], [(⟨[42, 46, 108, 97, 98, 46, 110, 101, 116, 46, 120], 1, y9, [], [], 5⟩ : T_api_Record)]⟩ : T_api_Zone), (⟨[111, 116, 104, 101, 114], []⟩ : T_api_Zone)]⟩ : T_api_Source)].flatMap (fun (x : T_api_Source) => [.v (.string ⟨x.Server.toArray⟩), Slf e_api_Zone x.Zones]))] rfl ?_
            refine go_ops hΓ 2 rfl ?_
            refine cv_wkRow (enc' := e_api_Source) 5 [.box 25 [.d (Sl (eN .i64) y16.2.L), I y16.2.v_at], .box 92 [.d (Sl eS []), I 0, .d (Sl e_api_Split []), .d (Sl e_api_Source [])], .row 273 2 y5.1.length (y5.1.flatMap e_api_Split), .row 207 2 ([] : List T_api_Source).length (([] : List T_api_Source).flatMap e_api_Source), .box 92 [.d (Sl eS y1.1), I y3.1, .sl 2 y5.1.length, .d (Sl e_api_Source [])], .row 207 2 [(⟨[105, 110], [y7.1]⟩ : T_api_Source), (⟨[111, 117, 116], [(⟨[108, 97, 98, 46, 110, 101, 116, 46, 120], [(⟨[42, 46, 108, 97, 98, 46, 110, 101, 116, 46, 120], 1, y9, [], [], 5⟩ : T_api_Record)]⟩ : T_api_Zone), (⟨[111, 116, 104, 101, 114], []⟩ : T_api_Zone)]⟩ : T_api_Source)].length ([(⟨[105, 110], [y7.1]⟩ : T_api_Source), (⟨[111, 117, 116], [(⟨[108, 97, 98, 46, 110, 101, 116, 46, 120], [(⟨[42, 46, 108, 97, 98, 46, 110, 101, 116, 46, 120], 1, y9, [], [], 5⟩ : T_api_Record)]⟩ : T_api_Zone), (⟨[111, 116, 104, 101, 114], []⟩ : T_api_Zone)]⟩ : T_api_Source)].flatMap e_api_Source)] rfl (fun _ => ⟨.refl _, .rf _ _, trivial⟩) rfl (Nat.le_of_ble_eq_true rfl) ?_
            refine cv_shr 5 [23] _ [.box 25 [.d (Sl (eN .i64) y16.2.L), I y16.2.v_at], .box 92 [.d (Sl eS []), I 0, .d (Sl e_api_Split []), .d (Sl e_api_Source [])], .row 273 2 y5.1.length (y5.1.flatMap e_api_Split), .row 207 2 ([] : List T_api_Source).length (([] : List T_api_Source).flatMap e_api_Source), .box 92 [.d (Sl eS y1.1), I y3.1, .sl 2 y5.1.length, .d (Sl e_api_Source [])], .dead] rfl rfl rfl (Nat.le_of_ble_eq_true rfl) ?_
            refine cv_here ?_
            obtain rfl := Option.some.inj h40
            exact ⟨⟨rfl, rfl, trivial⟩, [], rfl, .inl rfl⟩
    · have h41 := cF hq13 hb
      refine go hΓ 1 rfl ?_
      refine cv_wkRow (enc' := e_api_Source) 5 [.box 25 [.d (Sl (eN .i64) y11.2.L), I y11.2.v_at], .box 92 [.d (Sl eS []), I 0, .d (Sl e_api_Split []), .d (Sl e_api_Source [])], .row 273 2 y5.1.length (y5.1.flatMap e_api_Split), .row 207 2 ([] : List T_api_Source).length (([] : List T_api_Source).flatMap e_api_Source), .box 92 [.d (Sl eS y1.1), I y3.1, .sl 2 y5.1.length, .sl 5 [(⟨[105, 110], [y7.1]⟩ : T_api_Source), (⟨[111, 117, 116], [(⟨[108, 97, 98, 46, 110, 101, 116, 46, 120], [(⟨[42, 46, 108, 97, 98, 46, 110, 101, 116, 46, 120], 1, y9, [], [], 5⟩ : T_api_Record)]⟩ : T_api_Zone), (⟨[111, 116, 104, 101, 114], []⟩ : T_api_Zone)]⟩ : T_api_Source)].length], .row 207 2 [(⟨[105, 110], [y7.1]⟩ : T_api_Source), (⟨[111, 117, 116], [(⟨[108, 97, 98, 46, 110, 101, 116, 46, 120], [(⟨[42, 46, 108, 97, 98, 46, 110, 101, 116, 46, 120], 1, y9, [], [], 5⟩ : T_api_Record)]⟩ : T_api_Zone), (⟨[111, 116, 104, 101, 114], []⟩ : T_api_Zone)]⟩ : T_api_Source)].length ([(⟨[105, 110], [y7.1]⟩ : T_api_Source), (⟨[111, 117, 116], [(⟨[108, 97, 98, 46, 110, 101, 116, 46, 120], [(⟨[42, 46, 108, 97, 98, 46, 110, 101, 116, 46, 120], 1, y9, [], [], 5⟩ : T_api_Record)]⟩ : T_api_Zone), (⟨[111, 116, 104, 101, 114], []⟩ : T_api_Zone)]⟩ : T_api_Source)].flatMap e_api_Source)] rfl (fun _ => ⟨.refl _, .rf _ _, trivial⟩) rfl (Nat.le_of_ble_eq_true rfl) ?_
      refine cv_shr 5 [23] _ [.box 25 [.d (Sl (eN .i64) y11.2.L), I y11.2.v_at], .box 92 [.d (Sl eS []), I 0, .d (Sl e_api_Split []), .d (Sl e_api_Source [])], .row 273 2 y5.1.length (y5.1.flatMap e_api_Split), .row 207 2 ([] : List T_api_Source).length (([] : List T_api_Source).flatMap e_api_Source), .box 92 [.d (Sl eS y1.1), I y3.1, .sl 2 y5.1.length, .d (Sl e_api_Source [(⟨[105, 110], [y7.1]⟩ : T_api_Source), (⟨[111, 117, 116], [(⟨[108, 97, 98, 46, 110, 101, 116, 46, 120], [(⟨[42, 46, 108, 97, 98, 46, 110, 101, 116, 46, 120], 1, y9, [], [], 5⟩ : T_api_Record)]⟩ : T_api_Zone), (⟨[111, 116, 104, 101, 114], []⟩ : T_api_Zone)]⟩ : T_api_Source)])], .dead] rfl rfl rfl (Nat.le_of_ble_eq_true rfl) ?_
      refine cv_here ?_
      obtain rfl := Option.some.inj h41
      exact ⟨⟨rfl, rfl, trivial⟩, [], rfl, .inl rfl⟩
  · refine go hΓ 4 rfl ?_
    refine eo_shr 2 [59] _ [.box 25 [.d (Sl (eN .i64) q13.1.L), I q13.1.v_at], .box 92 [.d (Sl eS []), I 0, .d (Sl e_api_Split []), .d (Sl e_api_Source [])], .dead, .row 207 2 ([] : List T_api_Source).length (([] : List T_api_Source).flatMap e_api_Source), .box 92 [.d (Sl eS y1.1), I q13.2.1, .d (Sl e_api_Split y5.1), .d (Sl e_api_Source q13.2.2)], .dead] rfl rfl rfl (Nat.le_of_ble_eq_true rfl) ?_
    refine eo_store hΓ rfl rfl rfl rfl rfl rfl rfl rfl (Nat.le_of_ble_eq_true rfl) ?_
    refine eo_hp [.box 25 [.d (Sl (eN .i64) q13.1.L), I q13.1.v_at], .box 92 [.d (Sl eS y1.1), I q13.2.1, .d (Sl e_api_Split y5.1), .d (Sl e_api_Source q13.2.2)], .dead, .row 207 2 ([] : List T_api_Source).length (([] : List T_api_Source).flatMap e_api_Source), .box 92 [.d (Sl eS y1.1), I q13.2.1, .d (Sl e_api_Split y5.1), .d (Sl e_api_Source q13.2.2)], .dead] rfl ?_
    refine go_ops hΓ 3 rfl ?_
    obtain rfl := Option.some.inj h14
    exact fin_objs hΓ [_, _, _, _, _] (.inr rfl) rfl rfl rfl rfl (.inr ⟨HB.mk rfl, rfl⟩)

theorem c_lanemake_Stream_RecordKind {s : T_lanemake_Stream} {r : Int × T_lanemake_Stream} (h : m_lanemake_Stream_RecordKind s = some r) : EC Tryz.prog 25 [.ptr 0 0] [.box 25 [.d (Sl (eN .i64) s.L), I s.v_at]] fun g hp' => g = I r.1 ∧ hp' = [.box 25 [.d (Sl (eN .i64) r.2.L), I r.2.v_at]] := by
  refine ec_enter (Fr.of 0 _) Tryz.func25 rfl (Fr.of_ok _) (Nat.le_of_ble_eq_true rfl) fun _ => ?_
  refine go_in ?_
  unfold m_lanemake_Stream_RecordKind at h
  refine go hΓ 8 rfl ?_
  refine eo_litT hΓ (enc := (eN .i64)) [1, 1, 1, 28, 5, 16, 12, 0] rfl rfl rfl rfl rfl rfl rfl rfl rfl rfl rfl rfl (Nat.le_of_ble_eq_true rfl) ?_
  obtain ⟨y1, hy1, h2⟩ := bi_ok h
  refine eo_callF [0] (I y1.1) [.box 25 [.d (Sl (eN .i64) y1.2.L), I y1.2.v_at]] (callable Tryz.func14 rfl rfl) (c_lanemake_Stream_Pick hy1) rfl (Nat.le_of_ble_eq_true rfl) rfl rfl rfl rfl rfl rfl rfl rfl rfl rfl ?_
  refine go_ops hΓ 4 rfl ?_
  obtain rfl := Option.some.inj h2
  exact fin_objs hΓ [] (.inr rfl) rfl rfl rfl rfl (.inl rfl)

theorem c_name_isLetter {c : Int} {r : Bool} (h : m_name_isLetter c = some r) : Pure Tryz.prog 175 [.d (.v (.int .u8 c))] (B r) := by
  refine Pure.enter (Fr.of 0 _) Tryz.func175 rfl (Fr.of_ok _) rfl rfl ?_
  refine go_in ?_
  unfold m_name_isLetter at h
  refine go hΓ 10 rfl ?_
  refine o_cut 3 [(0, .d (.v (.int .u8 c))), (2, B false), (8, B ((decide ((c : Int) ≥ 97)) && (decide ((c : Int) ≤ 122))))] [] ?_ ?_
  · refine eo_gsplit rfl rfl (fun hb => ?_) (fun hb => ?_)
    · refine go_ops hΓ 4 rfl ?_
      exact ⟨⟨rfl, rfl, get_b rfl (and_t hb), trivial⟩, [], rfl, .inl rfl⟩
    · refine go_ops hΓ 4 rfl ?_
      exact ⟨⟨rfl, rfl, get_b rfl (and_f hb), trivial⟩, [], rfl, .inl rfl⟩
  · refine go_ops hΓ 1 rfl ?_
    refine o_cut 7 [(2, B false), (16, B (((decide ((c : Int) ≥ 97)) && (decide ((c : Int) ≤ 122))) || ((decide ((c : Int) ≥ 48)) && (decide ((c : Int) ≤ 57)))))] [] ?_ ?_
    · refine eo_gsplit rfl rfl (fun hb => ?_) (fun hb => ?_)
      · refine go_ops hΓ 8 rfl ?_
        exact ⟨⟨rfl, get_b rfl (or_t hb), trivial⟩, [], rfl, .inl rfl⟩
      · refine go_ops hΓ 3 rfl ?_
        refine o_cut 3 [(2, B false), (9, B false), (15, B ((decide ((c : Int) ≥ 48)) && (decide ((c : Int) ≤ 57))))] [] ?_ ?_
        · refine eo_gsplit rfl rfl (fun hb => ?_) (fun hb => ?_)
          · refine go_ops hΓ 4 rfl ?_
            exact ⟨⟨rfl, rfl, get_b rfl (and_t hb), trivial⟩, [], rfl, .inl rfl⟩
          · refine go_ops hΓ 4 rfl ?_
            exact ⟨⟨rfl, rfl, get_b rfl (and_f hb), trivial⟩, [], rfl, .inl rfl⟩
        · refine go_ops hΓ 2 rfl ?_
          exact ⟨⟨rfl, get_b rfl (or_f hb), trivial⟩, [], rfl, .inl rfl⟩
    · refine go_ops hΓ 4 rfl ?_
      obtain rfl := Option.some.inj h
      exact fin_pure hΓ (.inr rfl) rfl rfl

theorem c_name_isLabel {k : Nat} {s : Str} {r : Bool} (h : m_name_isLabel k s = some r) : Pure Tryz.prog 211 [S s] (B r) := by
  induction k generalizing s r with
  | zero => unfold m_name_isLabel at h; cases h
  | succ k ih0 =>
    have ih : ∀ {s : Str} {r : Bool}, m_name_isLabel k s = some r → Pure Tryz.prog 211 [S s] (B r) := by intro s r h; first | exact ih0 h | exact ih0 _ _ h
    refine Pure.enter (Fr.of 0 _) Tryz.func211 rfl (Fr.of_ok _) rfl rfl ?_
    refine go_in ?_
    unfold m_name_isLabel at h
    obtain ⟨y1, hy1, h2⟩ := bi_ok h
    refine go hΓ 9 rfl ?_
    refine eo_callP (callable Tryz.func283 rfl rfl) (c_strings_CutPrefix hy1) rfl (Nat.le_of_ble_eq_true rfl) rfl rfl rfl rfl rfl ?_
    refine go_ops hΓ 12 rfl ?_
    refine j_cond rfl (fun hb => ?_) (fun hb => ?_)
    · have h3 := cT h2 hb
      obtain ⟨y4, hy4, h5⟩ := bi_ok h3
      refine go hΓ 3 rfl ?_
      refine eo_callP (callable Tryz.func206 rfl rfl) (c_strings_HasPrefix hy4) rfl (Nat.le_of_ble_eq_true rfl) rfl rfl rfl rfl rfl ?_
      refine go_ops hΓ 2 rfl ?_
      obtain ⟨q6, hq6, h7⟩ := bi_ok h5
      refine o_cut 3 [(0, S s), (2, B false), (18, B q6)] [] ?_ ?_
      · refine eo_gsplit rfl rfl (fun hb => ?_) (fun hb => ?_)
        · have h8 := cT hq6 hb
          obtain ⟨y9, hy9, h10⟩ := bi_ok h8
          refine go_ops hΓ 1 rfl ?_
          refine eo_guard rfl ?_
          refine eo_callP (callable Tryz.func211 rfl rfl) (ih hy9) rfl (Nat.le_of_ble_eq_true rfl) rfl rfl rfl rfl rfl ?_
          refine go_ops hΓ 2 rfl ?_
          obtain rfl := Option.some.inj h10
          exact ⟨⟨rfl, rfl, rfl, trivial⟩, [], rfl, .inl rfl⟩
        · have h11 := cF hq6 hb
          refine go_ops hΓ 4 rfl ?_
          obtain rfl := Option.some.inj h11
          exact ⟨⟨rfl, rfl, rfl, trivial⟩, [], rfl, .inl rfl⟩
      · refine go_ops hΓ 1 rfl ?_
        refine o_cut 4 [(2, B false), (23, B (q6 && (decide (((s.length : Int) : Int) ≤ 63))))] [] ?_ ?_
        · refine eo_gsplit rfl rfl (fun hb => ?_) (fun hb => ?_)
          · refine go_ops hΓ 5 rfl ?_
            exact ⟨⟨rfl, get_b rfl (and_t hb), trivial⟩, [], rfl, .inl rfl⟩
          · refine go_ops hΓ 5 rfl ?_
            exact ⟨⟨rfl, get_b rfl (and_f hb), trivial⟩, [], rfl, .inl rfl⟩
        · refine go_ops hΓ 5 rfl ?_
          obtain rfl := Option.some.inj h7
          exact fin_pure hΓ (.inr rfl) rfl rfl
    · have h12 := cF h2 hb
      refine go hΓ 10 rfl ?_
      obtain ⟨q16, hq16, h17⟩ := bi_ok h12
      obtain ⟨hb19, h20⟩ := gd_ok hq16
      replace hb19 := of_decide_eq_true hb19
      refine j_cutEZ (R := fun a18 => q16 = .go a18) (fun a18 => [(0, S s)]) (fun a18 => []) ?_ ?_
      · refine go hΓ 1 rfl ?_
        refine j_rangeI h20 (fun i13 s14 => [(0, S s), (25, I (s.length : Int)), (26, I (i13 : Int))]) (fun s14 => []) ⟨⟨rfl, rfl, rfl, trivial⟩, [], rfl, .inl rfl⟩ (fun i13 s14 y24 hlt hy22 hout23 => ?_) (fun s14 hgo hge => ?_)
        · refine go hΓ 6 rfl ?_
          refine j_condT rfl (decide_eq_true hlt) ?_
          obtain ⟨c25, hc25, h26⟩ := bi_ok hy22
          refine go hΓ 14 rfl ?_
          refine eo_o rfl (op_byteZ hΓ hc25 rfl rfl rfl rfl) ?_
          obtain ⟨y27, hy27, h28⟩ := bi_ok h26
          refine eo_callP (callable Tryz.func175 rfl rfl) (c_name_isLetter hy27) rfl (Nat.le_of_ble_eq_true rfl) rfl rfl rfl rfl rfl ?_
          refine go_ops hΓ 2 rfl ?_
          obtain ⟨q29, hq29, h30⟩ := bi_ok h28
          refine o_cut 5 [(0, S s), (25, I (s.length : Int)), (26, I (i13 : Int)), (39, B q29)] [] ?_ ?_
          · refine eo_gsplit rfl rfl (fun hb => ?_) (fun hb => ?_)
            · have h31 := cT hq29 hb
              obtain ⟨c32, hc32, h33⟩ := bi_ok h31
              refine go_ops hΓ 2 rfl ?_
              refine eo_guard rfl ?_
              refine eo_o rfl (op_byteZ hΓ hc32 rfl rfl rfl rfl) ?_
              refine go_ops hΓ 3 rfl ?_
              obtain rfl := Option.some.inj h33
              exact ⟨⟨rfl, rfl, rfl, rfl, trivial⟩, [], rfl, .inl rfl⟩
            · have h34 := cF hq29 hb
              refine go_ops hΓ 6 rfl ?_
              obtain rfl := Option.some.inj h34
              exact ⟨⟨rfl, rfl, rfl, rfl, trivial⟩, [], rfl, .inl rfl⟩
          · refine go_ops hΓ 2 rfl ?_
            refine j_cond rfl (fun hb => ?_) (fun hb => ?_)
            · have h35 := cT h30 hb
              refine go hΓ 8 rfl ?_
              obtain ⟨v36, hv36, h37⟩ := bi_ok h35
              obtain rfl := Option.some.inj h37
              obtain rfl := hout23 _ rfl
              obtain rfl := Option.some.inj h17
              refine go hΓ 4 rfl ?_
              obtain rfl := Option.some.inj hv36
              exact fin_pure hΓ (.inr rfl) rfl rfl
            · have h38 := cF h30 hb
              refine go hΓ 7 rfl ?_
              obtain rfl := Option.some.inj h38
              exact ⟨_, rfl, ⟨⟨rfl, rfl, get_eq rfl (w64_succ (by omega)), trivial⟩, [], rfl, .inl rfl⟩⟩
        · subst hgo
          refine go hΓ 6 rfl ?_
          refine j_condF rfl (decide_eq_false hge) ?_
          refine go hΓ 4 rfl ?_
          exact ⟨_, rfl, ⟨⟨rfl, trivial⟩, [], rfl, .inl rfl⟩⟩
      · intro a18 ha
        subst ha
        replace h17 := goI_l h17
        refine go hΓ 6 rfl ?_
        refine o_cut 4 [(0, S s), (47, B ((!((s : Str) == [])) && (decide (((s.length : Int) : Int) ≤ 63))))] [] ?_ ?_
        · refine eo_gsplit rfl rfl (fun hb => ?_) (fun hb => ?_)
          · refine go_ops hΓ 5 rfl ?_
            exact ⟨⟨rfl, get_b rfl (and_t hb), trivial⟩, [], rfl, .inl rfl⟩
          · refine go_ops hΓ 5 rfl ?_
            exact ⟨⟨rfl, get_b rfl (and_f hb), trivial⟩, [], rfl, .inl rfl⟩
        · refine go_ops hΓ 1 rfl ?_
          obtain ⟨q39, hq39, h40⟩ := bi_ok h17
          refine o_cut 4 [(0, S s), (52, B q39)] [] ?_ ?_
          · refine eo_gsplit rfl rfl (fun hb => ?_) (fun hb => ?_)
            · have h41 := cT hq39 hb
              obtain ⟨c42, hc42, h43⟩ := bi_ok h41
              refine go_ops hΓ 1 rfl ?_
              refine eo_guard rfl ?_
              refine eo_o rfl (op_byteZ hΓ hc42 rfl rfl rfl rfl) ?_
              refine go_ops hΓ 3 rfl ?_
              obtain rfl := Option.some.inj h43
              exact ⟨⟨rfl, rfl, trivial⟩, [], rfl, .inl rfl⟩
            · have h44 := cF hq39 hb
              refine go_ops hΓ 5 rfl ?_
              obtain rfl := Option.some.inj h44
              exact ⟨⟨rfl, rfl, trivial⟩, [], rfl, .inl rfl⟩
          · refine go_ops hΓ 1 rfl ?_
            obtain ⟨q45, hq45, h46⟩ := bi_ok h40
            refine o_cut 7 [(60, B q45)] [] ?_ ?_
            · refine eo_gsplit rfl rfl (fun hb => ?_) (fun hb => ?_)
              · have h47 := cT hq45 hb
                obtain ⟨c48, hc48, h49⟩ := bi_ok h47
                refine go_ops hΓ 4 rfl ?_
                refine eo_guard rfl ?_
                refine eo_o rfl (op_byteZ hΓ hc48 rfl rfl rfl rfl) ?_
                refine go_ops hΓ 3 rfl ?_
                obtain rfl := Option.some.inj h49
                exact ⟨⟨rfl, trivial⟩, [], rfl, .inl rfl⟩
              · have h50 := cF hq45 hb
                refine go_ops hΓ 8 rfl ?_
                obtain rfl := Option.some.inj h50
                exact ⟨⟨rfl, trivial⟩, [], rfl, .inl rfl⟩
            · refine go_ops hΓ 4 rfl ?_
              obtain rfl := Option.some.inj h46
              exact fin_pure hΓ (.inr rfl) rfl rfl

theorem c_name_CheckDomain {k : Nat} {s : Str} {r : Int} (h : m_name_CheckDomain k s = some r) : Pure Tryz.prog 90 [S s] (I r) := by
  refine Pure.enter (Fr.of 0 _) Tryz.func90 rfl (Fr.of_ok _) rfl rfl ?_
  refine go_in ?_
  unfold m_name_CheckDomain at h
  refine go hΓ 13 rfl ?_
  refine j_cond rfl (fun hb => ?_) (fun hb => ?_)
  · have h1 := cT h hb
    refine go hΓ 7 rfl ?_
    obtain rfl := Option.some.inj h1
    exact fin_pure hΓ (.inr rfl) rfl rfl
  · have h2 := cF h hb
    obtain ⟨y3, hy3, h4⟩ := bi_ok h2
    refine go hΓ 6 rfl ?_
    refine eo_callP (callable Tryz.func116 rfl rfl) (Pure.rows (c_strings_Split hy3) rfl rfl) rfl (Nat.le_of_ble_eq_true rfl) rfl rfl rfl rfl rfl ?_
    refine go_ops hΓ 4 rfl ?_
    obtain ⟨q8, hq8, h9⟩ := bi_ok h4
    refine j_bound 9 rfl fun hb11 => ?_
    refine j_cutEZ (R := fun a10 => q8 = .go a10) (fun a10 => []) (fun a10 => []) ?_ ?_
    · refine go hΓ 1 rfl ?_
      refine j_range y3 hq8 (fun i5 s6 => [(9, .d (Sl eS y3)), (10, I (y3.length : Int)), (11, I (i5 : Int))]) (fun s6 => []) ⟨⟨rfl, rfl, rfl, trivial⟩, [], rfl, .inl rfl⟩ (fun i5 x7 s6 y15 hx12 hlt hy13 hout14 => ?_) (fun s6 hgo => ?_)
      · refine go hΓ 6 rfl ?_
        refine j_condT rfl (decide_eq_true (Int.ofNat_lt.2 hlt)) ?_
        refine go hΓ 6 rfl ?_
        refine eo_o rfl (op_elemZ hΓ (enc := eS) (getZ_nat hx12) rfl rfl rfl rfl rfl (fun _ => rfl)) ?_
        obtain ⟨y16, hy16, h17⟩ := bi_ok hy13
        refine go_ops hΓ 7 rfl ?_
        refine eo_callP (callable Tryz.func211 rfl rfl) (c_name_isLabel hy16) rfl (Nat.le_of_ble_eq_true rfl) rfl rfl rfl rfl rfl ?_
        refine go_ops hΓ 3 rfl ?_
        refine j_cond rfl (fun hb => ?_) (fun hb => ?_)
        · have h18 := cT h17 hb
          refine go hΓ 8 rfl ?_
          obtain ⟨v19, hv19, h20⟩ := bi_ok h18
          obtain rfl := Option.some.inj h20
          obtain rfl := hout14 _ rfl
          obtain rfl := Option.some.inj h9
          refine go hΓ 4 rfl ?_
          obtain rfl := Option.some.inj hv19
          exact fin_pure hΓ (.inr rfl) rfl rfl
        · have h21 := cF h17 hb
          refine go hΓ 7 rfl ?_
          obtain rfl := Option.some.inj h21
          exact ⟨_, rfl, ⟨⟨rfl, rfl, get_eq rfl (w64_succ (Nat.lt_of_lt_of_le hlt hb11)), trivial⟩, [], rfl, .inl rfl⟩⟩
      · subst hgo
        refine go hΓ 6 rfl ?_
        refine j_condF rfl (decide_eq_false (Int.lt_irrefl _)) ?_
        refine go hΓ 4 rfl ?_
        exact ⟨_, rfl, ⟨trivial, [], rfl, .inl rfl⟩⟩
    · intro a10 ha
      subst ha
      replace h9 := goI_l h9
      refine go hΓ 7 rfl ?_
      obtain rfl := Option.some.inj h9
      exact fin_pure hΓ (.inr rfl) rfl rfl

theorem c_name_checkDomains {k : Nat} {l : List Str} {r : Int} (h : m_name_checkDomains k l = some r) : Pure Tryz.prog 252 [.d (Sl eS l)] (I r) := by
  refine Pure.enter (Fr.of 0 _) Tryz.func252 rfl (Fr.of_ok _) rfl rfl ?_
  refine go_in ?_
  unfold m_name_checkDomains at h
  refine go hΓ 13 rfl ?_
  obtain ⟨q4, hq4, h5⟩ := bi_ok h
  refine j_bound 6 rfl fun hb7 => ?_
  refine j_cutEZ (R := fun a6 => q4 = .go a6) (fun a6 => []) (fun a6 => []) ?_ ?_
  · refine go hΓ 1 rfl ?_
    refine j_range l hq4 (fun i1 s2 => [(6, .d (Sl eS l)), (7, I (l.length : Int)), (8, I (i1 : Int))]) (fun s2 => []) ⟨⟨rfl, rfl, rfl, trivial⟩, [], rfl, .inl rfl⟩ (fun i1 x3 s2 y11 hx8 hlt hy9 hout10 => ?_) (fun s2 hgo => ?_)
    · refine go hΓ 6 rfl ?_
      refine j_condT rfl (decide_eq_true (Int.ofNat_lt.2 hlt)) ?_
      refine go hΓ 6 rfl ?_
      refine eo_o rfl (op_elemZ hΓ (enc := eS) (getZ_nat hx8) rfl rfl rfl rfl rfl (fun _ => rfl)) ?_
      obtain ⟨y12, hy12, h13⟩ := bi_ok hy9
      refine go_ops hΓ 7 rfl ?_
      refine eo_callP (callable Tryz.func90 rfl rfl) (c_name_CheckDomain hy12) rfl (Nat.le_of_ble_eq_true rfl) rfl rfl rfl rfl rfl ?_
      refine go_ops hΓ 9 rfl ?_
      refine j_cond rfl (fun hb => ?_) (fun hb => ?_)
      · have h14 := cT h13 hb
        refine go hΓ 9 rfl ?_
        obtain ⟨v15, hv15, h16⟩ := bi_ok h14
        obtain rfl := Option.some.inj h16
        obtain rfl := hout10 _ rfl
        obtain rfl := Option.some.inj h5
        refine go hΓ 4 rfl ?_
        obtain rfl := Option.some.inj hv15
        exact fin_pure hΓ (.inr rfl) rfl rfl
      · have h17 := cF h13 hb
        refine go hΓ 7 rfl ?_
        obtain rfl := Option.some.inj h17
        exact ⟨_, rfl, ⟨⟨rfl, rfl, get_eq rfl (w64_succ (Nat.lt_of_lt_of_le hlt hb7)), trivial⟩, [], rfl, .inl rfl⟩⟩
    · subst hgo
      refine go hΓ 6 rfl ?_
      refine j_condF rfl (decide_eq_false (Int.lt_irrefl _)) ?_
      refine go hΓ 4 rfl ?_
      exact ⟨_, rfl, ⟨trivial, [], rfl, .inl rfl⟩⟩
  · intro a6 ha
    subst ha
    replace h5 := goI_l h5
    refine go hΓ 7 rfl ?_
    obtain rfl := Option.some.inj h5
    exact fin_pure hΓ (.inr rfl) rfl rfl

theorem c_kit_Outside {n : Int} {low : Int} {high : Int} {r : Bool} (h : m_kit_Outside n low high = some r) : Pure Tryz.prog 132 [I n, I low, I high] (B r) := by
  refine Pure.enter (Fr.of 0 _) Tryz.func132 rfl (Fr.of_ok _) rfl rfl ?_
  refine go_in ?_
  unfold m_kit_Outside at h
  refine go hΓ 11 rfl ?_
  refine o_cut 4 [(6, B false), (14, B ((decide ((n : Int) < low)) || (decide ((n : Int) > high))))] [] ?_ ?_
  · refine eo_gsplit rfl rfl (fun hb => ?_) (fun hb => ?_)
    · refine go_ops hΓ 5 rfl ?_
      exact ⟨⟨rfl, get_b rfl (or_t hb), trivial⟩, [], rfl, .inl rfl⟩
    · refine go_ops hΓ 5 rfl ?_
      exact ⟨⟨rfl, get_b rfl (or_f hb), trivial⟩, [], rfl, .inl rfl⟩
  · refine go_ops hΓ 4 rfl ?_
    obtain rfl := Option.some.inj h
    exact fin_pure hΓ (.inr rfl) rfl rfl

theorem c_name_searchFault {k : Nat} {search : List Str} {dots : Int} {r : Int} (h : m_name_searchFault k search dots = some r) : Pure Tryz.prog 161 [.d (Sl eS search), I dots] (I r) := by
  refine Pure.enter (Fr.of 0 _) Tryz.func161 rfl (Fr.of_ok _) rfl rfl ?_
  refine go_in ?_
  unfold m_name_searchFault at h
  refine go hΓ 13 rfl ?_
  refine j_cond rfl (fun hb => ?_) (fun hb => ?_)
  · have h1 := cT h hb
    refine go hΓ 7 rfl ?_
    obtain rfl := Option.some.inj h1
    exact fin_pure hΓ (.inr rfl) rfl rfl
  · have h2 := cF h hb
    obtain ⟨y3, hy3, h4⟩ := bi_ok h2
    refine go hΓ 6 rfl ?_
    refine eo_callP (callable Tryz.func252 rfl rfl) (c_name_checkDomains hy3) rfl (Nat.le_of_ble_eq_true rfl) rfl rfl rfl rfl rfl ?_
    refine go_ops hΓ 9 rfl ?_
    refine j_cond rfl (fun hb => ?_) (fun hb => ?_)
    · have h5 := cT h4 hb
      refine go hΓ 8 rfl ?_
      obtain rfl := Option.some.inj h5
      exact fin_pure hΓ (.inr rfl) rfl rfl
    · have h6 := cF h4 hb
      obtain ⟨y7, hy7, h8⟩ := bi_ok h6
      refine go hΓ 6 rfl ?_
      refine eo_callP (callable Tryz.func132 rfl rfl) (c_kit_Outside hy7) rfl (Nat.le_of_ble_eq_true rfl) rfl rfl rfl rfl rfl ?_
      refine go_ops hΓ 2 rfl ?_
      refine j_cond rfl (fun hb => ?_) (fun hb => ?_)
      · have h9 := cT h8 hb
        refine go hΓ 7 rfl ?_
        obtain rfl := Option.some.inj h9
        exact fin_pure hΓ (.inr rfl) rfl rfl
      · have h10 := cF h8 hb
        refine go hΓ 8 rfl ?_
        obtain rfl := Option.some.inj h10
        exact fin_pure hΓ (.inr rfl) rfl rfl

end Go.Proofs.YtpgnhnjhpnbelaaGreatDoor
