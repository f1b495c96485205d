/-
  The functions compute their models.
-/
import Derived.Test.YtfnjahjbpaoepaaGreatDoorXCM
import Derived.Test.YtfnjahjbpaoepaaGreatDoorGt
import Derived.Test.YtfnjahjbpaoepaaGreatDoorStr
import Derived.Test.YtfnjahjbpaoepaaGreatDoorStr2
import Derived.Test.YtfnjahjbpaoepaaGreatDoorGk68
set_option linter.unusedVariables false
set_option linter.unusedSimpArgs false
set_option maxRecDepth 100000
namespace Go.Proofs.YtfnjahjbpaoepaaGreatDoor
open Go.Gk
abbrev e_lanemake_Stream (x : T_lanemake_Stream) : List D := [Sl (eN .i64) x.L, .v (.int .i64 x.v_at)]
abbrev e_name_asking (x : T_name_asking) : List D := [.v (.string ⟨x.name.toArray⟩), .v (.int .i64 x.kind)]
abbrev e_api_Addr (x : T_api_Addr) : List D := [.v (.bool x.Six), .v (.int .u64 x.Hi), .v (.int .u64 x.Lo)]
abbrev e_api_Record (x : T_api_Record) : List D := [.v (.string ⟨x.Name.toArray⟩), .v (.int .i64 x.Kind), .v (.bool x.Addr.Six), .v (.int .u64 x.Addr.Hi), .v (.int .u64 x.Addr.Lo), .v (.string ⟨x.To.toArray⟩), .v (.string ⟨x.Words.toArray⟩), .v (.int .i64 x.Life)]
abbrev e_name_kept (x : T_name_kept) : List D := [.v (.string ⟨x.asking.name.toArray⟩), .v (.int .i64 x.asking.kind), .v (.int .i64 x.put), .v (.int .i64 x.life), .v (.int .i64 x.used), Sl e_api_Record x.list]
abbrev e_name_Cache (x : T_name_Cache) : List D := [.v (.int .i64 x.most), .v (.int .i64 x.now), .v (.int .i64 x.calls), Sl e_name_kept x.list]
abbrev e_laneref1_kept (x : T_laneref1_kept) : List D := [.v (.string ⟨x.name.toArray⟩), .v (.int .i64 x.kind), .v (.int .i64 x.v_at), .v (.int .i64 x.v_end), Sl e_api_Record x.l, .v (.int .i64 x.used)]
abbrev e_laneref1_Cache (x : T_laneref1_Cache) : List D := [.v (.int .i64 x.most), .v (.int .i64 x.now), .v (.int .i64 x.calls), Sl e_laneref1_kept x.l]
theorem c_lanemake_Below {x : Int} {n : Int} {r : Int} (h : m_lanemake_Below x n = some r) : Pure Tryz.prog 124 [I x, I n] (I r) := by
  refine Pure.enter (Fr.of 0 _) Tryz.func124 rfl (Fr.of_ok _) rfl rfl ?_
  refine go_in ?_
  unfold m_lanemake_Below at h
  refine go hΓ 12 rfl ?_
  refine j_cond rfl (fun hb => ?_) (fun hb => ?_)
  · have h1 := cT h hb
    refine go hΓ 7 rfl ?_
    obtain rfl := Option.some.inj h1
    exact fin_pure hΓ (.inr rfl) rfl rfl
  · have h2 := cF h hb
    obtain ⟨y3, hy3, h4⟩ := bi_ok h2
    refine go hΓ 6 rfl ?_
    refine eo_o rfl (op_remZ hy3 rfl rfl) ?_
    obtain ⟨q5, hq5, h6⟩ := bi_ok h4
    refine go_ops hΓ 10 rfl ?_
    refine j_cutNZ [(0, I q5)] [] ?_ ?_
    · refine j_cond rfl (fun hb => ?_) (fun hb => ?_)
      · have h7 := cT hq5 hb
        refine go hΓ 6 rfl ?_
        obtain rfl := Option.some.inj h7
        exact ⟨⟨rfl, trivial⟩, [], rfl, .inl rfl⟩
      · have h8 := cF hq5 hb
        refine go hΓ 1 rfl ?_
        obtain rfl := Option.some.inj h8
        exact ⟨⟨rfl, trivial⟩, [], rfl, .inl rfl⟩
    · refine go hΓ 8 rfl ?_
      obtain rfl := Option.some.inj h6
      exact fin_pure hΓ (.inr rfl) rfl rfl
theorem c_lanemake_Stream_Next {s : T_lanemake_Stream} {n : Int} {r : Int × T_lanemake_Stream} (h : m_lanemake_Stream_Next s n = some r) : EC Tryz.prog 38 [.ptr 0 0, I n] [.box 25 [.d (Sl (eN .i64) s.L), I s.v_at]] fun g hp' => g = I r.1 ∧ hp' = [.box 25 [.d (Sl (eN .i64) r.2.L), I r.2.v_at]] := by
  refine ec_enter (Fr.of 0 _) Tryz.func38 rfl (Fr.of_ok _) (Nat.le_of_ble_eq_true rfl) fun _ => ?_
  refine go_in ?_
  unfold m_lanemake_Stream_Next at h
  refine go hΓ 14 rfl ?_
  refine eo_store hΓ rfl rfl rfl rfl rfl rfl rfl rfl (Nat.le_of_ble_eq_true rfl) ?_
  refine eo_hp [.box 25 [.d (Sl (eN .i64) s.L), I (wi (s.v_at + 1))]] rfl ?_
  refine go_ops hΓ 13 rfl ?_
  refine j_cond rfl (fun hb => ?_) (fun hb => ?_)
  · have h1 := cT h hb
    obtain ⟨y2, hy2, h3⟩ := bi_ok h1
    refine go hΓ 8 rfl ?_
    refine eo_callP (callable Tryz.func124 rfl rfl) (c_lanemake_Below hy2) rfl (Nat.le_of_ble_eq_true rfl) rfl rfl rfl rfl rfl ?_
    refine go_ops hΓ 5 rfl ?_
    obtain rfl := Option.some.inj h3
    exact fin_objs hΓ [] (.inr rfl) rfl rfl rfl rfl (.inl rfl)
  · have h4 := cF h hb
    refine go hΓ 3 rfl ?_
    refine j_draw hmix (by kernel_rfl) ?_
    obtain ⟨y5, hy5, h6⟩ := bi_ok h4
    refine go hΓ 10 rfl ?_
    refine gl_o rfl (op_remZ hy5 rfl rfl) ?_
    refine go_draw hΓ 4 rfl ?_
    refine j_draw hmix (by kernel_rfl) ?_
    obtain ⟨y7, hy7, h8⟩ := bi_ok h6
    refine go hΓ 10 rfl ?_
    refine gl_o rfl (op_quoZ hy7 rfl rfl) ?_
    obtain ⟨x9, hx9, h10⟩ := bi_ok h8
    refine go_draw hΓ 10 rfl ?_
    refine eo_o rfl (op_elemZ hΓ (enc := (eN .i64)) hx9 rfl rfl rfl rfl rfl (fun _ => rfl)) ?_
    obtain ⟨y11, hy11, h12⟩ := bi_ok h10
    refine go_ops hΓ 1 rfl ?_
    refine eo_callP (callable Tryz.func124 rfl rfl) (c_lanemake_Below hy11) rfl (Nat.le_of_ble_eq_true rfl) rfl rfl rfl rfl rfl ?_
    obtain ⟨y13, hy13, h14⟩ := bi_ok h12
    refine go_ops hΓ 6 rfl ?_
    refine eo_callP (callable Tryz.func124 rfl rfl) (c_lanemake_Below hy13) rfl (Nat.le_of_ble_eq_true rfl) rfl rfl rfl rfl rfl ?_
    refine go_ops hΓ 4 rfl ?_
    obtain rfl := Option.some.inj h14
    exact fin_objs hΓ [] (.inr rfl) rfl rfl rfl rfl (.inl rfl)
theorem c_lanemake_Stream_Pick {s : T_lanemake_Stream} {l : List Int} {r : Int × T_lanemake_Stream} (h : m_lanemake_Stream_Pick s l = some r) : EC Tryz.prog 35 [.ptr 0 0, .d (Sl (eN .i64) l)] [.box 25 [.d (Sl (eN .i64) s.L), I s.v_at]] fun g hp' => g = I r.1 ∧ hp' = [.box 25 [.d (Sl (eN .i64) r.2.L), I r.2.v_at]] := by
  refine ec_enter (Fr.of 0 _) Tryz.func35 rfl (Fr.of_ok _) (Nat.le_of_ble_eq_true rfl) fun _ => ?_
  refine go_in ?_
  unfold m_lanemake_Stream_Pick at h
  obtain ⟨y1, hy1, h2⟩ := bi_ok h
  refine go hΓ 11 rfl ?_
  refine eo_callF [0] (I y1.1) [.box 25 [.d (Sl (eN .i64) y1.2.L), I y1.2.v_at]] (callable Tryz.func38 rfl rfl) (c_lanemake_Stream_Next hy1) rfl (Nat.le_of_ble_eq_true rfl) rfl rfl rfl rfl rfl rfl rfl rfl rfl rfl ?_
  obtain ⟨x3, hx3, h4⟩ := bi_ok h2
  refine eo_o rfl (op_elemZ hΓ (enc := (eN .i64)) hx3 rfl rfl rfl rfl rfl (fun _ => rfl)) ?_
  refine go_ops hΓ 5 rfl ?_
  obtain rfl := Option.some.inj h4
  exact fin_objs hΓ [] (.inr rfl) rfl rfl rfl rfl (.inl rfl)
theorem c_kit_Outside {n : Int} {low : Int} {high : Int} {r : Bool} (h : m_kit_Outside n low high = some r) : Pure Tryz.prog 123 [I n, I low, I high] (B r) := by
  refine Pure.enter (Fr.of 0 _) Tryz.func123 rfl (Fr.of_ok _) rfl rfl ?_
  refine go_in ?_
  unfold m_kit_Outside at h
  refine go hΓ 11 rfl ?_
  refine o_cut 4 [(6, B false), (14, B ((decide ((n : Int) < low)) || (decide ((n : Int) > high))))] [] ?_ ?_
  · refine eo_gsplit rfl rfl (fun hb => ?_) (fun hb => ?_)
    · refine go_ops hΓ 5 rfl ?_
      exact ⟨⟨rfl, get_b rfl (or_t hb), trivial⟩, [], rfl, .inl rfl⟩
    · refine go_ops hΓ 5 rfl ?_
      exact ⟨⟨rfl, get_b rfl (or_f hb), trivial⟩, [], rfl, .inl rfl⟩
  · refine go_ops hΓ 4 rfl ?_
    obtain rfl := Option.some.inj h
    exact fin_pure hΓ (.inr rfl) rfl rfl
theorem c_name_New_none {most : Int} {r2 : Int} (h : m_name_New most = some (none, r2)) : EC Tryz.prog 36 [I most] [] fun g hp' => g = .tup [.d (.v (.pointer none)), I r2] ∧ hp' = [] := by
  refine ec_enterC (Fr.of 0 _) Tryz.func36 rfl (Fr.of_ok _) (Nat.le_of_ble_eq_true rfl) fun _ => ?_
  refine go_in ?_
  unfold m_name_New at h
  obtain ⟨y1, hy1, h2⟩ := bi_ok h
  refine go hΓ 10 rfl ?_
  refine eo_callP (callable Tryz.func123 rfl rfl) (c_kit_Outside hy1) rfl (Nat.le_of_ble_eq_true rfl) rfl rfl rfl rfl rfl ?_
  refine go_ops hΓ 2 rfl ?_
  refine j_cond rfl (fun hb => ?_) (fun hb => ?_)
  · have h3 := cT h2 hb
    refine go hΓ 8 rfl ?_
    refine cv_here ?_
    cases h3
    exact fin_objs hΓ [] (.inr rfl) rfl rfl rfl rfl (.inl rfl)
  · have h4 := cF h2 hb
    refine go hΓ 5 rfl ?_
    refine eo_s (Nat.le_of_ble_eq_true rfl) (nblt.1 rfl) (ops_nilAt 177 6 3 (OpP.s (op_buildX hΓ [3] (gs := [I most, I 0, I 0, .d (.v (.slice none 0 0))]) rfl rfl rfl rfl rfl rfl)) rfl) ?_
    refine eo_box rfl rfl rfl rfl (Nat.le_of_ble_eq_true rfl) ?_
    refine go_ops hΓ 5 rfl ?_
    refine cv_here ?_
    cases h4
theorem c_name_New_some {most : Int} {r1 : T_name_Cache} {r2 : Int} (h : m_name_New most = some (some r1, r2)) : EC Tryz.prog 36 [I most] [] fun g hp' => g = .tup [.ptr 1 0, I r2] ∧ hp' = [.row 177 6 r1.list.length (r1.list.flatMap e_name_kept), .box 167 [I r1.most, I r1.now, I r1.calls, .sl 0 r1.list.length]] := by
  refine ec_enterC (Fr.of 0 _) Tryz.func36 rfl (Fr.of_ok _) (Nat.le_of_ble_eq_true rfl) fun _ => ?_
  refine go_in ?_
  unfold m_name_New at h
  obtain ⟨y1, hy1, h2⟩ := bi_ok h
  refine go hΓ 10 rfl ?_
  refine eo_callP (callable Tryz.func123 rfl rfl) (c_kit_Outside hy1) rfl (Nat.le_of_ble_eq_true rfl) rfl rfl rfl rfl rfl ?_
  refine go_ops hΓ 2 rfl ?_
  refine j_cond rfl (fun hb => ?_) (fun hb => ?_)
  · have h3 := cT h2 hb
    refine go hΓ 8 rfl ?_
    refine cv_here ?_
    cases h3
  · have h4 := cF h2 hb
    refine go hΓ 5 rfl ?_
    refine eo_s (Nat.le_of_ble_eq_true rfl) (nblt.1 rfl) (ops_nilAt 177 6 3 (OpP.s (op_buildX hΓ [3] (gs := [I most, I 0, I 0, .d (.v (.slice none 0 0))]) rfl rfl rfl rfl rfl rfl)) rfl) ?_
    refine eo_box rfl rfl rfl rfl (Nat.le_of_ble_eq_true rfl) ?_
    refine go_ops hΓ 5 rfl ?_
    refine cv_here ?_
    cases h4
    exact fin_objs hΓ [] (.inr rfl) rfl rfl rfl rfl (.inl rfl)
theorem c_name_isLetter {c : Int} {r : Bool} (h : m_name_isLetter c = some r) : Pure Tryz.prog 192 [.d (.v (.int .u8 c))] (B r) := by
  refine Pure.enter (Fr.of 0 _) Tryz.func192 rfl (Fr.of_ok _) rfl rfl ?_
  refine go_in ?_
  unfold m_name_isLetter at h
  refine go hΓ 10 rfl ?_
  refine o_cut 3 [(0, .d (.v (.int .u8 c))), (2, B false), (8, B ((decide ((c : Int) ≥ 97)) && (decide ((c : Int) ≤ 122))))] [] ?_ ?_
  · refine eo_gsplit rfl rfl (fun hb => ?_) (fun hb => ?_)
    · refine go_ops hΓ 4 rfl ?_
      exact ⟨⟨rfl, rfl, get_b rfl (and_t hb), trivial⟩, [], rfl, .inl rfl⟩
    · refine go_ops hΓ 4 rfl ?_
      exact ⟨⟨rfl, rfl, get_b rfl (and_f hb), trivial⟩, [], rfl, .inl rfl⟩
  · refine go_ops hΓ 1 rfl ?_
    refine o_cut 7 [(2, B false), (16, B (((decide ((c : Int) ≥ 97)) && (decide ((c : Int) ≤ 122))) || ((decide ((c : Int) ≥ 48)) && (decide ((c : Int) ≤ 57)))))] [] ?_ ?_
    · refine eo_gsplit rfl rfl (fun hb => ?_) (fun hb => ?_)
      · refine go_ops hΓ 8 rfl ?_
        exact ⟨⟨rfl, get_b rfl (or_t hb), trivial⟩, [], rfl, .inl rfl⟩
      · refine go_ops hΓ 3 rfl ?_
        refine o_cut 3 [(2, B false), (9, B false), (15, B ((decide ((c : Int) ≥ 48)) && (decide ((c : Int) ≤ 57))))] [] ?_ ?_
        · refine eo_gsplit rfl rfl (fun hb => ?_) (fun hb => ?_)
          · refine go_ops hΓ 4 rfl ?_
            exact ⟨⟨rfl, rfl, get_b rfl (and_t hb), trivial⟩, [], rfl, .inl rfl⟩
          · refine go_ops hΓ 4 rfl ?_
            exact ⟨⟨rfl, rfl, get_b rfl (and_f hb), trivial⟩, [], rfl, .inl rfl⟩
        · refine go_ops hΓ 2 rfl ?_
          exact ⟨⟨rfl, get_b rfl (or_f hb), trivial⟩, [], rfl, .inl rfl⟩
    · refine go_ops hΓ 4 rfl ?_
      obtain rfl := Option.some.inj h
      exact fin_pure hΓ (.inr rfl) rfl rfl
set_option maxHeartbeats 8000000 in
theorem c_name_Label {s : Str} {r : Str} (h : m_name_Label s = some r) : Pure Tryz.prog 101 [S s] (S r) := by
  refine Pure.enter (Fr.of 0 _) Tryz.func101 rfl (Fr.of_ok _) rfl rfl ?_
  refine go_in ?_
  unfold m_name_Label at h
  refine go hΓ 7 rfl ?_
  refine eo_nilOwn (t := 0) 5 1 rfl (Nat.le_of_ble_eq_true rfl) ?_
  refine go_ops hΓ 10 rfl ?_
  obtain ⟨q4, hq4, h5⟩ := bi_ok h
  obtain ⟨hb7, h8⟩ := gd_ok hq4
  replace hb7 := of_decide_eq_true hb7
  refine j_cutNZ [(3, .sl 0 q4.length)] [.row 5 1 q4.length (q4.flatMap (eN .u8))] ?_ ?_
  · refine go hΓ 1 rfl ?_
    refine j_rangeG h8 (fun i1 s2 => [(0, S s), (3, .sl 0 s2.length), (8, I (s.length : Int)), (9, I (i1 : Int))]) (fun s2 => [.row 5 1 s2.length (s2.flatMap (eN .u8))]) ⟨⟨rfl, rfl, rfl, rfl, trivial⟩, [], rfl, .inl rfl⟩ (fun i1 s2 y12 hlt hy10 => ?_) (fun hge => ?_)
    · refine go hΓ 6 rfl ?_
      refine j_condT rfl (decide_eq_true hlt) ?_
      obtain ⟨c13, hc13, h14⟩ := bi_ok hy10
      refine go hΓ 14 rfl ?_
      refine eo_o rfl (op_byteZ hΓ hc13 rfl rfl rfl rfl) ?_
      refine go_ops hΓ 9 rfl ?_
      refine o_cut 3 [(0, S s), (3, .sl 0 s2.length), (5, .d (.v (.int .u8 (c13.toNat : Int)))), (8, I (s.length : Int)), (9, I (i1 : Int)), (20, B ((decide (((c13.toNat : Int) : Int) ≥ 65)) && (decide (((c13.toNat : Int) : Int) ≤ 90))))] [.row 5 1 s2.length (s2.flatMap (eN .u8))] ?_ ?_
      · refine eo_gsplit rfl rfl (fun hb => ?_) (fun hb => ?_)
        · refine go_ops hΓ 4 rfl ?_
          exact ⟨⟨rfl, rfl, rfl, rfl, rfl, get_b rfl (and_t hb), trivial⟩, [], rfl, .inl rfl⟩
        · refine go_ops hΓ 4 rfl ?_
          exact ⟨⟨rfl, rfl, rfl, rfl, rfl, get_b rfl (and_f hb), trivial⟩, [], rfl, .inl rfl⟩
      · obtain ⟨q15, hq15, h16⟩ := bi_ok h14
        refine go_ops hΓ 2 rfl ?_
        refine j_cutNZ [(0, S s), (3, .sl 0 s2.length), (5, .d (.v (.int .u8 q15))), (8, I (s.length : Int)), (9, I (i1 : Int))] [.row 5 1 s2.length (s2.flatMap (eN .u8))] ?_ ?_
        · refine j_cond rfl (fun hb => ?_) (fun hb => ?_)
          · have h17 := cT hq15 hb
            refine go hΓ 5 rfl ?_
            obtain rfl := Option.some.inj h17
            exact ⟨⟨rfl, rfl, rfl, rfl, rfl, trivial⟩, [], rfl, .inl rfl⟩
          · have h18 := cF hq15 hb
            refine go hΓ 1 rfl ?_
            obtain rfl := Option.some.inj h18
            exact ⟨⟨rfl, rfl, rfl, rfl, rfl, trivial⟩, [], rfl, .inl rfl⟩
        · obtain ⟨y19, hy19, h20⟩ := bi_ok h16
          refine go hΓ 5 rfl ?_
          refine eo_callP (callable Tryz.func192 rfl rfl) (c_name_isLetter hy19) rfl (Nat.le_of_ble_eq_true rfl) rfl rfl rfl rfl rfl ?_
          refine go_ops hΓ 3 rfl ?_
          refine j_cond rfl (fun hb => ?_) (fun hb => ?_)
          · have h21 := cT h20 hb
            refine go hΓ 3 rfl ?_
            refine eo_litT hΓ (enc := (eN .u8)) [q15] rfl rfl rfl rfl rfl rfl rfl rfl rfl rfl rfl rfl (Nat.le_of_ble_eq_true rfl) ?_
            obtain ⟨y22, hy22, h23⟩ := bi_ok h21
            refine eo_appendT hΓ (enc := (eN .u8)) hy22 rfl rfl rfl rfl rfl rfl rfl rfl rfl (fun _ => rfl) rfl rfl rfl rfl ?_
            refine go_ops hΓ 9 rfl ?_
            obtain rfl := Option.some.inj h23
            exact ⟨⟨rfl, rfl, rfl, get_eq rfl (w64_succ (by omega)), trivial⟩, [], rfl, .inl rfl⟩
          · have h24 := cF h20 hb
            refine go hΓ 6 rfl ?_
            obtain ⟨q25, hq25, h26⟩ := bi_ok h24
            refine o_cut 8 [(0, S s), (3, .sl 0 s2.length), (8, I (s.length : Int)), (9, I (i1 : Int)), (42, B q25)] [.row 5 1 s2.length (s2.flatMap (eN .u8))] ?_ ?_
            · refine eo_gsplit rfl rfl (fun hb => ?_) (fun hb => ?_)
              · have h27 := cT hq25 hb
                refine go_ops hΓ 9 rfl ?_
                obtain rfl := Option.some.inj h27
                exact ⟨⟨rfl, rfl, rfl, rfl, rfl, trivial⟩, [], rfl, .inl rfl⟩
              · have h28 := cF hq25 hb
                obtain ⟨x29, hx29, h30⟩ := bi_ok h28
                have hj31 := getZ_at hx29
                refine go_ops hΓ 4 rfl ?_
                refine eo_guard rfl ?_
                refine eo_o rfl (op_elemRowZ hΓ hx29 rfl rfl rfl rfl rfl rfl) ?_
                refine eo_guard rfl ?_
                refine eo_o rfl (op_loadRowZ hΓ (enc := (eN .u8)) ((wi ((s2.length : Int) - 1)).toNat) 0 hj31 rfl rfl rfl rfl (fun _ => rfl) (g := .d (.v (.int .u8 x29))) rfl) ?_
                refine go_ops hΓ 3 rfl ?_
                obtain rfl := Option.some.inj h30
                exact ⟨⟨rfl, rfl, rfl, rfl, rfl, trivial⟩, [], rfl, .inl rfl⟩
            · refine go_ops hΓ 3 rfl ?_
              refine j_cond rfl (fun hb => ?_) (fun hb => ?_)
              · have h32 := cT h26 hb
                refine go hΓ 2 rfl ?_
                refine eo_litT hΓ (enc := (eN .u8)) [45] rfl rfl rfl rfl rfl rfl rfl rfl rfl rfl rfl rfl (Nat.le_of_ble_eq_true rfl) ?_
                obtain ⟨y33, hy33, h34⟩ := bi_ok h32
                refine eo_appendT hΓ (enc := (eN .u8)) hy33 rfl rfl rfl rfl rfl rfl rfl rfl rfl (fun _ => rfl) rfl rfl rfl rfl ?_
                refine go_ops hΓ 9 rfl ?_
                obtain rfl := Option.some.inj h34
                exact ⟨⟨rfl, rfl, rfl, get_eq rfl (w64_succ (by omega)), trivial⟩, [], rfl, .inl rfl⟩
              · have h35 := cF h26 hb
                refine go hΓ 8 rfl ?_
                obtain rfl := Option.some.inj h35
                exact ⟨⟨rfl, rfl, rfl, get_eq rfl (w64_succ (by omega)), trivial⟩, [], rfl, .inl rfl⟩
    · refine go hΓ 6 rfl ?_
      refine j_condF rfl (decide_eq_false hge) ?_
      refine go hΓ 4 rfl ?_
      exact ⟨⟨rfl, trivial⟩, [], rfl, .inl rfl⟩
  · obtain ⟨z36, hz36, h37⟩ := bi_ok h5
    refine go hΓ 7 rfl ?_
    refine eo_subRowZ hΓ (enc := (eN .u8)) hz36 rfl rfl rfl rfl rfl rfl rfl rfl (fun _ => rfl) rfl (Nat.le_of_ble_eq_true rfl) ?_
    obtain ⟨y38, hy38, h39⟩ := bi_ok h37
    refine eo_o rfl (op_strRowZ hΓ hy38 rfl rfl rfl rfl rfl rfl rfl rfl rfl) ?_
    obtain ⟨y40, hy40, h41⟩ := bi_ok h39
    refine eo_callP (callable Tryz.func193 rfl rfl) (c_strings_Trim hy40) rfl (Nat.le_of_ble_eq_true rfl) rfl rfl rfl rfl rfl ?_
    refine go_ops hΓ 10 rfl ?_
    refine j_cond rfl (fun hb => ?_) (fun hb => ?_)
    · have h42 := cT h41 hb
      refine go hΓ 7 rfl ?_
      obtain rfl := Option.some.inj h42
      exact fin_pure hΓ (.inr rfl) rfl rfl
    · have h43 := cF h41 hb
      refine go hΓ 9 rfl ?_
      obtain rfl := Option.some.inj h43
      exact fin_pure hΓ (.inr rfl) rfl rfl
theorem c_name_isLabel {k : Nat} {s : Str} {r : Bool} (h : m_name_isLabel k s = some r) : Pure Tryz.prog 194 [S s] (B r) := by
  induction k generalizing s r with
  | zero => unfold m_name_isLabel at h; cases h
  | succ k ih0 =>
    have ih : ∀ {s : Str} {r : Bool}, m_name_isLabel k s = some r → Pure Tryz.prog 194 [S s] (B r) := by intro s r h; first | exact ih0 h | exact ih0 _ _ h
    refine Pure.enter (Fr.of 0 _) Tryz.func194 rfl (Fr.of_ok _) rfl rfl ?_
    refine go_in ?_
    unfold m_name_isLabel at h
    obtain ⟨y1, hy1, h2⟩ := bi_ok h
    refine go hΓ 9 rfl ?_
    refine eo_callP (callable Tryz.func264 rfl rfl) (c_strings_CutPrefix hy1) rfl (Nat.le_of_ble_eq_true rfl) rfl rfl rfl rfl rfl ?_
    refine go_ops hΓ 12 rfl ?_
    refine j_cond rfl (fun hb => ?_) (fun hb => ?_)
    · have h3 := cT h2 hb
      obtain ⟨y4, hy4, h5⟩ := bi_ok h3
      refine go hΓ 3 rfl ?_
      refine eo_callP (callable Tryz.func199 rfl rfl) (c_strings_HasPrefix hy4) rfl (Nat.le_of_ble_eq_true rfl) rfl rfl rfl rfl rfl ?_
      refine go_ops hΓ 2 rfl ?_
      obtain ⟨q6, hq6, h7⟩ := bi_ok h5
      refine o_cut 3 [(0, S s), (2, B false), (18, B q6)] [] ?_ ?_
      · refine eo_gsplit rfl rfl (fun hb => ?_) (fun hb => ?_)
        · have h8 := cT hq6 hb
          obtain ⟨y9, hy9, h10⟩ := bi_ok h8
          refine go_ops hΓ 1 rfl ?_
          refine eo_guard rfl ?_
          refine eo_callP (callable Tryz.func194 rfl rfl) (ih hy9) rfl (Nat.le_of_ble_eq_true rfl) rfl rfl rfl rfl rfl ?_
          refine go_ops hΓ 2 rfl ?_
          obtain rfl := Option.some.inj h10
          exact ⟨⟨rfl, rfl, rfl, trivial⟩, [], rfl, .inl rfl⟩
        · have h11 := cF hq6 hb
          refine go_ops hΓ 4 rfl ?_
          obtain rfl := Option.some.inj h11
          exact ⟨⟨rfl, rfl, rfl, trivial⟩, [], rfl, .inl rfl⟩
      · refine go_ops hΓ 1 rfl ?_
        refine o_cut 4 [(2, B false), (23, B (q6 && (decide (((s.length : Int) : Int) ≤ 63))))] [] ?_ ?_
        · refine eo_gsplit rfl rfl (fun hb => ?_) (fun hb => ?_)
          · refine go_ops hΓ 5 rfl ?_
            exact ⟨⟨rfl, get_b rfl (and_t hb), trivial⟩, [], rfl, .inl rfl⟩
          · refine go_ops hΓ 5 rfl ?_
            exact ⟨⟨rfl, get_b rfl (and_f hb), trivial⟩, [], rfl, .inl rfl⟩
        · refine go_ops hΓ 5 rfl ?_
          obtain rfl := Option.some.inj h7
          exact fin_pure hΓ (.inr rfl) rfl rfl
    · have h12 := cF h2 hb
      refine go hΓ 10 rfl ?_
      obtain ⟨q16, hq16, h17⟩ := bi_ok h12
      obtain ⟨hb19, h20⟩ := gd_ok hq16
      replace hb19 := of_decide_eq_true hb19
      refine j_cutEZ (R := fun a18 => q16 = .go a18) (fun a18 => [(0, S s)]) (fun a18 => []) ?_ ?_
      · refine go hΓ 1 rfl ?_
        refine j_rangeI h20 (fun i13 s14 => [(0, S s), (25, I (s.length : Int)), (26, I (i13 : Int))]) (fun s14 => []) ⟨⟨rfl, rfl, rfl, trivial⟩, [], rfl, .inl rfl⟩ (fun i13 s14 y24 hlt hy22 hout23 => ?_) (fun s14 hgo hge => ?_)
        · refine go hΓ 6 rfl ?_
          refine j_condT rfl (decide_eq_true hlt) ?_
          obtain ⟨c25, hc25, h26⟩ := bi_ok hy22
          refine go hΓ 14 rfl ?_
          refine eo_o rfl (op_byteZ hΓ hc25 rfl rfl rfl rfl) ?_
          obtain ⟨y27, hy27, h28⟩ := bi_ok h26
          refine eo_callP (callable Tryz.func192 rfl rfl) (c_name_isLetter hy27) rfl (Nat.le_of_ble_eq_true rfl) rfl rfl rfl rfl rfl ?_
          refine go_ops hΓ 2 rfl ?_
          obtain ⟨q29, hq29, h30⟩ := bi_ok h28
          refine o_cut 5 [(0, S s), (25, I (s.length : Int)), (26, I (i13 : Int)), (39, B q29)] [] ?_ ?_
          · refine eo_gsplit rfl rfl (fun hb => ?_) (fun hb => ?_)
            · have h31 := cT hq29 hb
              obtain ⟨c32, hc32, h33⟩ := bi_ok h31
              refine go_ops hΓ 2 rfl ?_
              refine eo_guard rfl ?_
              refine eo_o rfl (op_byteZ hΓ hc32 rfl rfl rfl rfl) ?_
              refine go_ops hΓ 3 rfl ?_
              obtain rfl := Option.some.inj h33
              exact ⟨⟨rfl, rfl, rfl, rfl, trivial⟩, [], rfl, .inl rfl⟩
            · have h34 := cF hq29 hb
              refine go_ops hΓ 6 rfl ?_
              obtain rfl := Option.some.inj h34
              exact ⟨⟨rfl, rfl, rfl, rfl, trivial⟩, [], rfl, .inl rfl⟩
          · refine go_ops hΓ 2 rfl ?_
            refine j_cond rfl (fun hb => ?_) (fun hb => ?_)
            · have h35 := cT h30 hb
              refine go hΓ 8 rfl ?_
              obtain ⟨v36, hv36, h37⟩ := bi_ok h35
              obtain rfl := Option.some.inj h37
              obtain rfl := hout23 _ rfl
              obtain rfl := Option.some.inj h17
              refine go hΓ 4 rfl ?_
              obtain rfl := Option.some.inj hv36
              exact fin_pure hΓ (.inr rfl) rfl rfl
            · have h38 := cF h30 hb
              refine go hΓ 7 rfl ?_
              obtain rfl := Option.some.inj h38
              exact ⟨_, rfl, ⟨⟨rfl, rfl, get_eq rfl (w64_succ (by omega)), trivial⟩, [], rfl, .inl rfl⟩⟩
        · subst hgo
          refine go hΓ 6 rfl ?_
          refine j_condF rfl (decide_eq_false hge) ?_
          refine go hΓ 4 rfl ?_
          exact ⟨_, rfl, ⟨⟨rfl, trivial⟩, [], rfl, .inl rfl⟩⟩
      · intro a18 ha
        subst ha
        replace h17 := goI_l h17
        refine go hΓ 6 rfl ?_
        refine o_cut 4 [(0, S s), (47, B ((!((s : Str) == [])) && (decide (((s.length : Int) : Int) ≤ 63))))] [] ?_ ?_
        · refine eo_gsplit rfl rfl (fun hb => ?_) (fun hb => ?_)
          · refine go_ops hΓ 5 rfl ?_
            exact ⟨⟨rfl, get_b rfl (and_t hb), trivial⟩, [], rfl, .inl rfl⟩
          · refine go_ops hΓ 5 rfl ?_
            exact ⟨⟨rfl, get_b rfl (and_f hb), trivial⟩, [], rfl, .inl rfl⟩
        · refine go_ops hΓ 1 rfl ?_
          obtain ⟨q39, hq39, h40⟩ := bi_ok h17
          refine o_cut 4 [(0, S s), (52, B q39)] [] ?_ ?_
          · refine eo_gsplit rfl rfl (fun hb => ?_) (fun hb => ?_)
            · have h41 := cT hq39 hb
              obtain ⟨c42, hc42, h43⟩ := bi_ok h41
              refine go_ops hΓ 1 rfl ?_
              refine eo_guard rfl ?_
              refine eo_o rfl (op_byteZ hΓ hc42 rfl rfl rfl rfl) ?_
              refine go_ops hΓ 3 rfl ?_
              obtain rfl := Option.some.inj h43
              exact ⟨⟨rfl, rfl, trivial⟩, [], rfl, .inl rfl⟩
            · have h44 := cF hq39 hb
              refine go_ops hΓ 5 rfl ?_
              obtain rfl := Option.some.inj h44
              exact ⟨⟨rfl, rfl, trivial⟩, [], rfl, .inl rfl⟩
          · refine go_ops hΓ 1 rfl ?_
            obtain ⟨q45, hq45, h46⟩ := bi_ok h40
            refine o_cut 7 [(60, B q45)] [] ?_ ?_
            · refine eo_gsplit rfl rfl (fun hb => ?_) (fun hb => ?_)
              · have h47 := cT hq45 hb
                obtain ⟨c48, hc48, h49⟩ := bi_ok h47
                refine go_ops hΓ 4 rfl ?_
                refine eo_guard rfl ?_
                refine eo_o rfl (op_byteZ hΓ hc48 rfl rfl rfl rfl) ?_
                refine go_ops hΓ 3 rfl ?_
                obtain rfl := Option.some.inj h49
                exact ⟨⟨rfl, trivial⟩, [], rfl, .inl rfl⟩
              · have h50 := cF hq45 hb
                refine go_ops hΓ 8 rfl ?_
                obtain rfl := Option.some.inj h50
                exact ⟨⟨rfl, trivial⟩, [], rfl, .inl rfl⟩
            · refine go_ops hΓ 4 rfl ?_
              obtain rfl := Option.some.inj h46
              exact fin_pure hΓ (.inr rfl) rfl rfl
theorem c_name_CheckDomain {k : Nat} {s : Str} {r : Int} (h : m_name_CheckDomain k s = some r) : Pure Tryz.prog 102 [S s] (I r) := by
  refine Pure.enter (Fr.of 0 _) Tryz.func102 rfl (Fr.of_ok _) rfl rfl ?_
  refine go_in ?_
  unfold m_name_CheckDomain at h
  refine go hΓ 13 rfl ?_
  refine j_cond rfl (fun hb => ?_) (fun hb => ?_)
  · have h1 := cT h hb
    refine go hΓ 7 rfl ?_
    obtain rfl := Option.some.inj h1
    exact fin_pure hΓ (.inr rfl) rfl rfl
  · have h2 := cF h hb
    obtain ⟨y3, hy3, h4⟩ := bi_ok h2
    refine go hΓ 6 rfl ?_
    refine eo_callP (callable Tryz.func162 rfl rfl) (Pure.rows (c_strings_Split hy3) rfl rfl) rfl (Nat.le_of_ble_eq_true rfl) rfl rfl rfl rfl rfl ?_
    refine go_ops hΓ 4 rfl ?_
    obtain ⟨q8, hq8, h9⟩ := bi_ok h4
    refine j_bound 9 rfl fun hb11 => ?_
    refine j_cutEZ (R := fun a10 => q8 = .go a10) (fun a10 => []) (fun a10 => []) ?_ ?_
    · refine go hΓ 1 rfl ?_
      refine j_range y3 hq8 (fun i5 s6 => [(9, .d (Sl eS y3)), (10, I (y3.length : Int)), (11, I (i5 : Int))]) (fun s6 => []) ⟨⟨rfl, rfl, rfl, trivial⟩, [], rfl, .inl rfl⟩ (fun i5 x7 s6 y15 hx12 hlt hy13 hout14 => ?_) (fun s6 hgo => ?_)
      · refine go hΓ 6 rfl ?_
        refine j_condT rfl (decide_eq_true (Int.ofNat_lt.2 hlt)) ?_
        refine go hΓ 6 rfl ?_
        refine eo_o rfl (op_elemZ hΓ (enc := eS) (getZ_nat hx12) rfl rfl rfl rfl rfl (fun _ => rfl)) ?_
        obtain ⟨y16, hy16, h17⟩ := bi_ok hy13
        refine go_ops hΓ 7 rfl ?_
        refine eo_callP (callable Tryz.func194 rfl rfl) (c_name_isLabel hy16) rfl (Nat.le_of_ble_eq_true rfl) rfl rfl rfl rfl rfl ?_
        refine go_ops hΓ 3 rfl ?_
        refine j_cond rfl (fun hb => ?_) (fun hb => ?_)
        · have h18 := cT h17 hb
          refine go hΓ 8 rfl ?_
          obtain ⟨v19, hv19, h20⟩ := bi_ok h18
          obtain rfl := Option.some.inj h20
          obtain rfl := hout14 _ rfl
          obtain rfl := Option.some.inj h9
          refine go hΓ 4 rfl ?_
          obtain rfl := Option.some.inj hv19
          exact fin_pure hΓ (.inr rfl) rfl rfl
        · have h21 := cF h17 hb
          refine go hΓ 7 rfl ?_
          obtain rfl := Option.some.inj h21
          exact ⟨_, rfl, ⟨⟨rfl, rfl, get_eq rfl (w64_succ (Nat.lt_of_lt_of_le hlt hb11)), trivial⟩, [], rfl, .inl rfl⟩⟩
      · subst hgo
        refine go hΓ 6 rfl ?_
        refine j_condF rfl (decide_eq_false (Int.lt_irrefl _)) ?_
        refine go hΓ 4 rfl ?_
        exact ⟨_, rfl, ⟨trivial, [], rfl, .inl rfl⟩⟩
    · intro a10 ha
      subst ha
      replace h9 := goI_l h9
      refine go hΓ 7 rfl ?_
      obtain rfl := Option.some.inj h9
      exact fin_pure hΓ (.inr rfl) rfl rfl
theorem c_lanelaw1_named {k : Nat} {r : Bool} (h : m_lanelaw1_named k = some r) : Pure Tryz.prog 24 [] (B r) := by
  refine Pure.enter (Fr.of 0 _) Tryz.func24 rfl (Fr.of_ok _) rfl rfl ?_
  refine go_in ?_
  unfold m_lanelaw1_named at h
  obtain ⟨y1, hy1, h2⟩ := bi_ok h
  refine go hΓ 7 rfl ?_
  refine eo_callP (callable Tryz.func101 rfl rfl) (c_name_Label hy1) rfl (Nat.le_of_ble_eq_true rfl) rfl rfl rfl rfl rfl ?_
  refine go_ops hΓ 2 rfl ?_
  obtain ⟨q3, hq3, h4⟩ := bi_ok h2
  refine o_cut 3 [(0, B false), (6, B q3)] [] ?_ ?_
  · refine eo_gsplit rfl rfl (fun hb => ?_) (fun hb => ?_)
    · have h5 := cT hq3 hb
      obtain ⟨y6, hy6, h7⟩ := bi_ok h5
      refine eo_guard rfl ?_
      refine eo_callP (callable Tryz.func102 rfl rfl) (c_name_CheckDomain hy6) rfl (Nat.le_of_ble_eq_true rfl) rfl rfl rfl rfl rfl ?_
      refine go_ops hΓ 3 rfl ?_
      obtain rfl := Option.some.inj h7
      exact ⟨⟨rfl, rfl, trivial⟩, [], rfl, .inl rfl⟩
    · have h8 := cF hq3 hb
      refine go_ops hΓ 4 rfl ?_
      obtain rfl := Option.some.inj h8
      exact ⟨⟨rfl, rfl, trivial⟩, [], rfl, .inl rfl⟩
  · refine go_ops hΓ 4 rfl ?_
    obtain rfl := Option.some.inj h4
    exact fin_pure hΓ (.inr rfl) rfl rfl
theorem c_laneref1_NewCache {most : Int} {r : T_laneref1_Cache} (h : m_laneref1_NewCache most = some r) : EC Tryz.prog 37 [I most] [] fun g hp' => g = .ptr 1 0 ∧ hp' = [.rowv 185 6 r.l.length (r.l.flatMap e_laneref1_kept), .box 170 [I r.most, I r.now, I r.calls, .sv 0 r.l.length]] := by
  refine ec_enterC (Fr.of 0 _) Tryz.func37 rfl (Fr.of_ok _) (Nat.le_of_ble_eq_true rfl) fun _ => ?_
  refine go_in ?_
  unfold m_laneref1_NewCache at h
  refine go hΓ 8 rfl ?_
  refine eo_s (Nat.le_of_ble_eq_true rfl) (nblt.1 rfl) (ops_nilAtV 185 6 3 (OpP.s (op_buildX hΓ [3] (gs := [I most, I 0, I 0, .d (.v (.slice none 0 0))]) rfl rfl rfl rfl rfl rfl)) rfl) ?_
  refine eo_box rfl rfl rfl rfl (Nat.le_of_ble_eq_true rfl) ?_
  refine go_ops hΓ 4 rfl ?_
  refine cv_here ?_
  obtain rfl := Option.some.inj h
  exact fin_objs hΓ [] (.inr rfl) rfl rfl rfl rfl (.inl rfl)
theorem c_lanemake_Stream_Flip {s : T_lanemake_Stream} {n : Int} {r : Bool × T_lanemake_Stream} (h : m_lanemake_Stream_Flip s n = some r) : EC Tryz.prog 39 [.ptr 0 0, I n] [.box 25 [.d (Sl (eN .i64) s.L), I s.v_at]] fun g hp' => g = B r.1 ∧ hp' = [.box 25 [.d (Sl (eN .i64) r.2.L), I r.2.v_at]] := by
  refine ec_enter (Fr.of 0 _) Tryz.func39 rfl (Fr.of_ok _) (Nat.le_of_ble_eq_true rfl) fun _ => ?_
  refine go_in ?_
  unfold m_lanemake_Stream_Flip at h
  obtain ⟨y1, hy1, h2⟩ := bi_ok h
  refine go hΓ 9 rfl ?_
  refine eo_callF [0] (I y1.1) [.box 25 [.d (Sl (eN .i64) y1.2.L), I y1.2.v_at]] (callable Tryz.func38 rfl rfl) (c_lanemake_Stream_Next hy1) rfl (Nat.le_of_ble_eq_true rfl) rfl rfl rfl rfl rfl rfl rfl rfl rfl rfl ?_
  refine go_ops hΓ 5 rfl ?_
  obtain rfl := Option.some.inj h2
  exact fin_objs hΓ [] (.inr rfl) rfl rfl rfl rfl (.inl rfl)
theorem c_lanemake_Stream_Some {s : T_lanemake_Stream} {l : List Str} {r : Str × T_lanemake_Stream} (h : m_lanemake_Stream_Some s l = some r) : EC Tryz.prog 40 [.ptr 0 0, .d (Sl eS l)] [.box 25 [.d (Sl (eN .i64) s.L), I s.v_at]] fun g hp' => g = S r.1 ∧ hp' = [.box 25 [.d (Sl (eN .i64) r.2.L), I r.2.v_at]] := by
  refine ec_enter (Fr.of 0 _) Tryz.func40 rfl (Fr.of_ok _) (Nat.le_of_ble_eq_true rfl) fun _ => ?_
  refine go_in ?_
  unfold m_lanemake_Stream_Some at h
  obtain ⟨y1, hy1, h2⟩ := bi_ok h
  refine go hΓ 11 rfl ?_
  refine eo_callF [0] (I y1.1) [.box 25 [.d (Sl (eN .i64) y1.2.L), I y1.2.v_at]] (callable Tryz.func38 rfl rfl) (c_lanemake_Stream_Next hy1) rfl (Nat.le_of_ble_eq_true rfl) rfl rfl rfl rfl rfl rfl rfl rfl rfl rfl ?_
  obtain ⟨x3, hx3, h4⟩ := bi_ok h2
  refine eo_o rfl (op_elemZ hΓ (enc := eS) hx3 rfl rfl rfl rfl rfl (fun _ => rfl)) ?_
  refine go_ops hΓ 5 rfl ?_
  obtain rfl := Option.some.inj h4
  exact fin_objs hΓ [] (.inr rfl) rfl rfl rfl rfl (.inl rfl)
theorem c_lanemake_Stream_Range {s : T_lanemake_Stream} {low : Int} {high : Int} {r : Int × T_lanemake_Stream} (h : m_lanemake_Stream_Range s low high = some r) : EC Tryz.prog 26 [.ptr 0 0, I low, I high] [.box 25 [.d (Sl (eN .i64) s.L), I s.v_at]] fun g hp' => g = I r.1 ∧ hp' = [.box 25 [.d (Sl (eN .i64) r.2.L), I r.2.v_at]] := by
  refine ec_enter (Fr.of 0 _) Tryz.func26 rfl (Fr.of_ok _) (Nat.le_of_ble_eq_true rfl) fun _ => ?_
  refine go_in ?_
  unfold m_lanemake_Stream_Range at h
  refine go hΓ 13 rfl ?_
  refine j_cond rfl (fun hb => ?_) (fun hb => ?_)
  · have h1 := cT h hb
    refine go hΓ 8 rfl ?_
    obtain rfl := Option.some.inj h1
    exact fin_objs hΓ [] (.inr rfl) rfl rfl rfl rfl (.inl rfl)
  · have h2 := cF h hb
    obtain ⟨y3, hy3, h4⟩ := bi_ok h2
    refine go hΓ 10 rfl ?_
    refine eo_callF [0] (I y3.1) [.box 25 [.d (Sl (eN .i64) y3.2.L), I y3.2.v_at]] (callable Tryz.func38 rfl rfl) (c_lanemake_Stream_Next hy3) rfl (Nat.le_of_ble_eq_true rfl) rfl rfl rfl rfl rfl rfl rfl rfl rfl rfl ?_
    refine go_ops hΓ 5 rfl ?_
    obtain rfl := Option.some.inj h4
    exact fin_objs hΓ [] (.inr rfl) rfl rfl rfl rfl (.inl rfl)
theorem c_lanemake_at {n : Int} {r : T_api_Addr} (h : m_lanemake_at n = some r) : Pure Tryz.prog 172 [I n] (.agg [B r.Six, U r.Hi, U r.Lo]) := by
  refine Pure.enter (Fr.of 0 _) Tryz.func172 rfl (Fr.of_ok _) rfl rfl ?_
  refine go_in ?_
  unfold m_lanemake_at at h
  refine go hΓ 2 rfl ?_
  refine eo_alloc hΓ rfl rfl rfl (Nat.le_of_ble_eq_true rfl) ?_
  refine go_ops hΓ 7 rfl ?_
  refine eo_build hΓ (gs := [B false, U 0, U (IntKind.u64.wrap (1681915904 + (IntKind.u64.wrap (n))))]) rfl rfl rfl rfl rfl rfl rfl ?_
  refine eo_store hΓ rfl rfl rfl rfl rfl rfl rfl rfl (Nat.le_of_ble_eq_true rfl) ?_
  refine eo_hp [.box 39 [B false, U 0, U (IntKind.u64.wrap (1681915904 + (IntKind.u64.wrap (n))))]] rfl ?_
  refine go_ops hΓ 3 rfl ?_
  obtain rfl := Option.some.inj h
  exact fin_pure hΓ (.inr rfl) rfl rfl
theorem c_lanemake_sixAt {n : Int} {r : T_api_Addr} (h : m_lanemake_sixAt n = some r) : Pure Tryz.prog 173 [I n] (.agg [B r.Six, U r.Hi, U r.Lo]) := by
  refine Pure.enter (Fr.of 0 _) Tryz.func173 rfl (Fr.of_ok _) rfl rfl ?_
  refine go_in ?_
  unfold m_lanemake_sixAt at h
  refine go hΓ 2 rfl ?_
  refine eo_alloc hΓ rfl rfl rfl (Nat.le_of_ble_eq_true rfl) ?_
  refine go_ops hΓ 6 rfl ?_
  refine eo_build hΓ (gs := [B true, U 18230571291595767808, U (IntKind.u64.wrap (n))]) rfl rfl rfl rfl rfl rfl rfl ?_
  refine eo_store hΓ rfl rfl rfl rfl rfl rfl rfl rfl (Nat.le_of_ble_eq_true rfl) ?_
  refine eo_hp [.box 39 [B true, U 18230571291595767808, U (IntKind.u64.wrap (n))]] rfl ?_
  refine go_ops hΓ 3 rfl ?_
  obtain rfl := Option.some.inj h
  exact fin_pure hΓ (.inr rfl) rfl rfl
set_option maxHeartbeats 8000000 in
theorem c_lanemake_Stream_Addr {s : T_lanemake_Stream} {r : T_api_Addr × T_lanemake_Stream} (h : m_lanemake_Stream_Addr s = some r) : EC Tryz.prog 228 [.ptr 0 0] [.box 25 [.d (Sl (eN .i64) s.L), I s.v_at]] fun g hp' => g = .agg [B r.1.Six, U r.1.Hi, U r.1.Lo] ∧ hp' = [.box 25 [.d (Sl (eN .i64) r.2.L), I r.2.v_at]] := by
  refine ec_enter (Fr.of 0 _) Tryz.func228 rfl (Fr.of_ok _) (Nat.le_of_ble_eq_true rfl) fun _ => ?_
  refine go_in ?_
  unfold m_lanemake_Stream_Addr at h
  refine go hΓ 2 rfl ?_
  refine eo_alloc hΓ rfl rfl rfl (Nat.le_of_ble_eq_true rfl) ?_
  obtain ⟨y1, hy1, h2⟩ := bi_ok h
  refine go_ops hΓ 6 rfl ?_
  refine eo_callF [0] (I y1.1) [.box 25 [.d (Sl (eN .i64) y1.2.L), I y1.2.v_at], .box 39 [B false, U 0, U 0]] (callable Tryz.func38 rfl rfl) (c_lanemake_Stream_Next hy1) rfl (Nat.le_of_ble_eq_true rfl) rfl rfl rfl rfl rfl rfl rfl rfl rfl rfl ?_
  refine go_ops hΓ 9 rfl ?_
  refine j_cond rfl (fun hb => ?_) (fun hb => ?_)
  · have h3 := cT h2 hb
    refine go hΓ 1 rfl ?_
    refine j_drawE [] [] [2, 7, 11] [] hmix (by kernel_rfl) (by kernel_rfl) trivial (Nat.le_of_ble_eq_true rfl) ?_
    refine ge_litT hΓ (enc := (eN .u64)) [0, 18230571291595767808, 2306139568115548160, 9223372036854775808, 18446744073709551615] rfl rfl rfl rfl rfl rfl rfl rfl rfl rfl rfl rfl ?_
    obtain ⟨y4, hy4, h5⟩ := bi_ok h3
    refine go_E hΓ 1 rfl ?_
    refine ge_h [.box 25 [.d (Sl (eN .i64) y4.2.L), I y4.2.v_at], .box 39 [B false, U 0, U 0]] rfl rfl rfl (st_st trivial) (qte_callF [0] (I y4.1) [.box 25 [.d (Sl (eN .i64) y4.2.L), I y4.2.v_at], .box 39 [B false, U 0, U 0]] (callable Tryz.func38 rfl rfl) (c_lanemake_Stream_Next hy4) rfl rfl rfl rfl rfl rfl rfl rfl rfl rfl) ?_
    obtain ⟨x6, hx6, h7⟩ := bi_ok h5
    refine ge_q rfl (.inl rfl) (fun _ _ => qte_of_qt (qt_p (op_elemZ hΓ (enc := (eN .u64)) hx6 rfl rfl rfl rfl rfl (fun _ => rfl)))) ?_
    refine go_E hΓ 1 rfl ?_
    refine ge_litT hΓ (enc := (eN .u64)) [0, 1, 2, 4294967296, 18446744073709551615] rfl rfl rfl rfl rfl rfl rfl rfl rfl rfl rfl rfl ?_
    obtain ⟨y8, hy8, h9⟩ := bi_ok h7
    refine go_E hΓ 1 rfl ?_
    refine ge_h [.box 25 [.d (Sl (eN .i64) y8.2.L), I y8.2.v_at], .box 39 [B false, U 0, U 0]] rfl rfl rfl (st_st trivial) (qte_callF [0] (I y8.1) [.box 25 [.d (Sl (eN .i64) y8.2.L), I y8.2.v_at], .box 39 [B false, U 0, U 0]] (callable Tryz.func38 rfl rfl) (c_lanemake_Stream_Next hy8) rfl rfl rfl rfl rfl rfl rfl rfl rfl rfl) ?_
    obtain ⟨x10, hx10, h11⟩ := bi_ok h9
    refine ge_q rfl (.inl rfl) (fun _ _ => qte_of_qt (qt_p (op_elemZ hΓ (enc := (eN .u64)) hx10 rfl rfl rfl rfl rfl (fun _ => rfl)))) ?_
    refine go_E hΓ 1 rfl ?_
    refine ge_q rfl (.inl rfl) (fun _ _ => qte_of_qt (qt_p (op_build hΓ (gs := [B true, U x6, U x10]) rfl rfl rfl rfl rfl rfl))) ?_
    refine ge_h0 [.box 25 [.d (Sl (eN .i64) y8.2.L), I y8.2.v_at], .box 39 [B true, U x6, U x10]] rfl rfl (st_st trivial) (qte_u (opu_store2 hΓ rfl rfl rfl rfl rfl rfl rfl rfl rfl)) ?_
    refine ge_fin ?_
    refine go hΓ 4 rfl ?_
    obtain rfl := Option.some.inj h11
    exact fin_objs hΓ [_] (.inr rfl) rfl rfl rfl rfl (.inr ⟨HB.mk rfl, rfl⟩)
  · have h12 := cF h2 hb
    refine go hΓ 6 rfl ?_
    refine j_cond rfl (fun hb => ?_) (fun hb => ?_)
    · have h13 := cT h12 hb
      refine go hΓ 2 rfl ?_
      refine eo_litT hΓ (enc := (eN .u64)) [0, 1, 4294967295, 2130706433, 3232235521] rfl rfl rfl rfl rfl rfl rfl rfl rfl rfl rfl rfl (Nat.le_of_ble_eq_true rfl) ?_
      obtain ⟨y14, hy14, h15⟩ := bi_ok h13
      refine go_ops hΓ 1 rfl ?_
      refine eo_callF [0] (I y14.1) [.box 25 [.d (Sl (eN .i64) y14.2.L), I y14.2.v_at], .box 39 [B false, U 0, U 0]] (callable Tryz.func38 rfl rfl) (c_lanemake_Stream_Next hy14) rfl (Nat.le_of_ble_eq_true rfl) rfl rfl rfl rfl rfl rfl rfl rfl rfl rfl ?_
      obtain ⟨x16, hx16, h17⟩ := bi_ok h15
      refine eo_o rfl (op_elemZ hΓ (enc := (eN .u64)) hx16 rfl rfl rfl rfl rfl (fun _ => rfl)) ?_
      refine go_ops hΓ 1 rfl ?_
      refine eo_build hΓ (gs := [B false, U 0, U x16]) rfl rfl rfl rfl rfl rfl rfl ?_
      refine eo_store hΓ rfl rfl rfl rfl rfl rfl rfl rfl (Nat.le_of_ble_eq_true rfl) ?_
      refine eo_hp [.box 25 [.d (Sl (eN .i64) y14.2.L), I y14.2.v_at], .box 39 [B false, U 0, U x16]] rfl ?_
      refine go_ops hΓ 5 rfl ?_
      obtain rfl := Option.some.inj h17
      exact fin_objs hΓ [_] (.inr rfl) rfl rfl rfl rfl (.inr ⟨HB.mk rfl, rfl⟩)
    · have h18 := cF h12 hb
      refine go hΓ 6 rfl ?_
      refine j_cond rfl (fun hb => ?_) (fun hb => ?_)
      · have h19 := cT h18 hb
        obtain ⟨y20, hy20, h21⟩ := bi_ok h19
        refine go hΓ 3 rfl ?_
        refine eo_callF [0] (I y20.1) [.box 25 [.d (Sl (eN .i64) y20.2.L), I y20.2.v_at], .box 39 [B false, U 0, U 0]] (callable Tryz.func26 rfl rfl) (c_lanemake_Stream_Range hy20) rfl (Nat.le_of_ble_eq_true rfl) rfl rfl rfl rfl rfl rfl rfl rfl rfl rfl ?_
        obtain ⟨y22, hy22, h23⟩ := bi_ok h21
        refine go_ops hΓ 2 rfl ?_
        refine eo_o rfl (op_remZ hy22 rfl rfl) ?_
        refine eo_build hΓ (gs := [B false, U 0, U y22]) rfl rfl rfl rfl rfl rfl rfl ?_
        refine eo_store hΓ rfl rfl rfl rfl rfl rfl rfl rfl (Nat.le_of_ble_eq_true rfl) ?_
        refine eo_hp [.box 25 [.d (Sl (eN .i64) y20.2.L), I y20.2.v_at], .box 39 [B false, U 0, U y22]] rfl ?_
        refine go_ops hΓ 5 rfl ?_
        obtain rfl := Option.some.inj h23
        exact fin_objs hΓ [_] (.inr rfl) rfl rfl rfl rfl (.inr ⟨HB.mk rfl, rfl⟩)
      · have h24 := cF h18 hb
        obtain ⟨y25, hy25, h26⟩ := bi_ok h24
        refine go hΓ 6 rfl ?_
        refine eo_callF [0] (I y25.1) [.box 25 [.d (Sl (eN .i64) y25.2.L), I y25.2.v_at], .box 39 [B false, U 0, U 0]] (callable Tryz.func26 rfl rfl) (c_lanemake_Stream_Range hy25) rfl (Nat.le_of_ble_eq_true rfl) rfl rfl rfl rfl rfl rfl rfl rfl rfl rfl ?_
        refine go_ops hΓ 2 rfl ?_
        refine eo_build hΓ (gs := [B false, U 0, U (IntKind.u64.wrap (167772160 + (IntKind.u64.wrap (y25.1))))]) rfl rfl rfl rfl rfl rfl rfl ?_
        refine eo_store hΓ rfl rfl rfl rfl rfl rfl rfl rfl (Nat.le_of_ble_eq_true rfl) ?_
        refine eo_hp [.box 25 [.d (Sl (eN .i64) y25.2.L), I y25.2.v_at], .box 39 [B false, U 0, U (IntKind.u64.wrap (167772160 + (IntKind.u64.wrap (y25.1))))]] rfl ?_
        refine go_ops hΓ 3 rfl ?_
        obtain rfl := Option.some.inj h26
        exact fin_objs hΓ [_] (.inr rfl) rfl rfl rfl rfl (.inr ⟨HB.mk rfl, rfl⟩)
theorem c_lanemake_Stream_Raw {s : T_lanemake_Stream} {r : T_api_Addr × T_lanemake_Stream} (h : m_lanemake_Stream_Raw s = some r) : EC Tryz.prog 147 [.ptr 0 0] [.box 25 [.d (Sl (eN .i64) s.L), I s.v_at]] fun g hp' => g = .agg [B r.1.Six, U r.1.Hi, U r.1.Lo] ∧ hp' = [.box 25 [.d (Sl (eN .i64) r.2.L), I r.2.v_at]] := by
  refine ec_enter (Fr.of 0 _) Tryz.func147 rfl (Fr.of_ok _) (Nat.le_of_ble_eq_true rfl) fun _ => ?_
  refine go_in ?_
  unfold m_lanemake_Stream_Raw at h
  refine go hΓ 2 rfl ?_
  refine eo_alloc hΓ rfl rfl rfl (Nat.le_of_ble_eq_true rfl) ?_
  obtain ⟨y1, hy1, h2⟩ := bi_ok h
  refine go_ops hΓ 5 rfl ?_
  refine eo_callF [0] (.agg [B y1.1.Six, U y1.1.Hi, U y1.1.Lo]) [.box 25 [.d (Sl (eN .i64) y1.2.L), I y1.2.v_at], .box 39 [B false, U 0, U 0]] (callable Tryz.func228 rfl rfl) (c_lanemake_Stream_Addr hy1) rfl (Nat.le_of_ble_eq_true rfl) rfl rfl rfl rfl rfl rfl rfl rfl rfl rfl ?_
  refine eo_alloc hΓ rfl rfl rfl (Nat.le_of_ble_eq_true rfl) ?_
  refine eo_store hΓ rfl rfl rfl rfl rfl rfl rfl rfl (Nat.le_of_ble_eq_true rfl) ?_
  refine eo_hp [.box 25 [.d (Sl (eN .i64) y1.2.L), I y1.2.v_at], .box 39 [B false, U 0, U 0], .box 39 [B y1.1.Six, U y1.1.Hi, U y1.1.Lo]] rfl ?_
  obtain ⟨y3, hy3, h4⟩ := bi_ok h2
  refine go_ops hΓ 6 rfl ?_
  refine eo_callF [0] (B y3.1) [.box 25 [.d (Sl (eN .i64) y3.2.L), I y3.2.v_at], .box 39 [B false, U 0, U 0], .box 39 [B y1.1.Six, U y1.1.Hi, U y1.1.Lo]] (callable Tryz.func39 rfl rfl) (c_lanemake_Stream_Flip hy3) rfl (Nat.le_of_ble_eq_true rfl) rfl rfl rfl rfl rfl rfl rfl rfl rfl rfl ?_
  refine go_ops hΓ 2 rfl ?_
  refine j_cond rfl (fun hb => ?_) (fun hb => ?_)
  · have h5 := cT h4 hb
    obtain ⟨y6, hy6, h7⟩ := bi_ok h5
    refine go hΓ 3 rfl ?_
    refine eo_callF [0] (I y6.1) [.box 25 [.d (Sl (eN .i64) y6.2.L), I y6.2.v_at], .box 39 [B false, U 0, U 0], .box 39 [B y1.1.Six, U y1.1.Hi, U y1.1.Lo]] (callable Tryz.func38 rfl rfl) (c_lanemake_Stream_Next hy6) rfl (Nat.le_of_ble_eq_true rfl) rfl rfl rfl rfl rfl rfl rfl rfl rfl rfl ?_
    refine go_ops hΓ 1 rfl ?_
    refine eo_litT hΓ (enc := (eN .u64)) [4294967296, 5, 1099511627776] rfl rfl rfl rfl rfl rfl rfl rfl rfl rfl rfl rfl (Nat.le_of_ble_eq_true rfl) ?_
    obtain ⟨y8, hy8, h9⟩ := bi_ok h7
    refine go_ops hΓ 1 rfl ?_
    refine eo_callF [0] (I y8.1) [.box 25 [.d (Sl (eN .i64) y8.2.L), I y8.2.v_at], .box 39 [B false, U 0, U 0], .box 39 [B y1.1.Six, U y1.1.Hi, U y1.1.Lo]] (callable Tryz.func38 rfl rfl) (c_lanemake_Stream_Next hy8) rfl (Nat.le_of_ble_eq_true rfl) rfl rfl rfl rfl rfl rfl rfl rfl rfl rfl ?_
    obtain ⟨x10, hx10, h11⟩ := bi_ok h9
    refine eo_o rfl (op_elemZ hΓ (enc := (eN .u64)) hx10 rfl rfl rfl rfl rfl (fun _ => rfl)) ?_
    refine go_ops hΓ 1 rfl ?_
    refine eo_build hΓ (gs := [B false, U (IntKind.u64.wrap (y6.1)), U x10]) rfl rfl rfl rfl rfl rfl rfl ?_
    refine eo_store hΓ rfl rfl rfl rfl rfl rfl rfl rfl (Nat.le_of_ble_eq_true rfl) ?_
    refine eo_hp [.box 25 [.d (Sl (eN .i64) y8.2.L), I y8.2.v_at], .box 39 [B false, U (IntKind.u64.wrap (y6.1)), U x10], .box 39 [B y1.1.Six, U y1.1.Hi, U y1.1.Lo]] rfl ?_
    refine go_ops hΓ 4 rfl ?_
    obtain rfl := Option.some.inj h11
    exact fin_objs hΓ [_, _] (.inr rfl) rfl rfl rfl rfl (.inr ⟨HB.mk rfl, rfl⟩)
  · have h12 := cF h4 hb
    refine go hΓ 5 rfl ?_
    refine eo_store hΓ rfl rfl rfl rfl rfl rfl rfl rfl (Nat.le_of_ble_eq_true rfl) ?_
    refine eo_hp [.box 25 [.d (Sl (eN .i64) y3.2.L), I y3.2.v_at], .box 39 [B y1.1.Six, U y1.1.Hi, U y1.1.Lo], .box 39 [B y1.1.Six, U y1.1.Hi, U y1.1.Lo]] rfl ?_
    refine go_ops hΓ 3 rfl ?_
    obtain rfl := Option.some.inj h12
    exact fin_objs hΓ [_, _] (.inr rfl) rfl rfl rfl rfl (.inr ⟨HB.mk rfl, rfl⟩)
theorem c_lanemake_Stream_Odd {s : T_lanemake_Stream} {low : Int} {high : Int} {r : Int × T_lanemake_Stream} (h : m_lanemake_Stream_Odd s low high = some r) : EC Tryz.prog 52 [.ptr 0 0, I low, I high] [.box 25 [.d (Sl (eN .i64) s.L), I s.v_at]] fun g hp' => g = I r.1 ∧ hp' = [.box 25 [.d (Sl (eN .i64) r.2.L), I r.2.v_at]] := by
  refine ec_enter (Fr.of 0 _) Tryz.func52 rfl (Fr.of_ok _) (Nat.le_of_ble_eq_true rfl) fun _ => ?_
  refine go_in ?_
  unfold m_lanemake_Stream_Odd at h
  obtain ⟨y1, hy1, h2⟩ := bi_ok h
  refine go hΓ 9 rfl ?_
  refine eo_callF [0] (B y1.1) [.box 25 [.d (Sl (eN .i64) y1.2.L), I y1.2.v_at]] (callable Tryz.func39 rfl rfl) (c_lanemake_Stream_Flip hy1) rfl (Nat.le_of_ble_eq_true rfl) rfl rfl rfl rfl rfl rfl rfl rfl rfl rfl ?_
  refine go_ops hΓ 2 rfl ?_
  refine j_cond rfl (fun hb => ?_) (fun hb => ?_)
  · have h3 := cT h2 hb
    refine go hΓ 9 rfl ?_
    refine eo_litT hΓ (enc := (eN .i64)) [wi (low - 1), wi (high + 1), low, high, -1099511627776, 1099511627776] rfl rfl rfl rfl rfl rfl rfl rfl rfl rfl rfl rfl (Nat.le_of_ble_eq_true rfl) ?_
    obtain ⟨y4, hy4, h5⟩ := bi_ok h3
    refine eo_callF [0] (I y4.1) [.box 25 [.d (Sl (eN .i64) y4.2.L), I y4.2.v_at]] (callable Tryz.func35 rfl rfl) (c_lanemake_Stream_Pick hy4) rfl (Nat.le_of_ble_eq_true rfl) rfl rfl rfl rfl rfl rfl rfl rfl rfl rfl ?_
    refine go_ops hΓ 5 rfl ?_
    obtain rfl := Option.some.inj h5
    exact fin_objs hΓ [] (.inr rfl) rfl rfl rfl rfl (.inl rfl)
  · have h6 := cF h2 hb
    obtain ⟨y7, hy7, h8⟩ := bi_ok h6
    refine go hΓ 7 rfl ?_
    refine eo_callF [0] (I y7.1) [.box 25 [.d (Sl (eN .i64) y7.2.L), I y7.2.v_at]] (callable Tryz.func26 rfl rfl) (c_lanemake_Stream_Range hy7) rfl (Nat.le_of_ble_eq_true rfl) rfl rfl rfl rfl rfl rfl rfl rfl rfl rfl ?_
    refine go_ops hΓ 4 rfl ?_
    obtain rfl := Option.some.inj h8
    exact fin_objs hΓ [] (.inr rfl) rfl rfl rfl rfl (.inl rfl)
set_option maxHeartbeats 8000000 in
theorem c_lanemake_Stream_record {s : T_lanemake_Stream} {name : Str} {r : T_api_Record × T_lanemake_Stream} (h : m_lanemake_Stream_record s name = some r) : EC Tryz.prog 76 [.ptr 0 0, S name] [.box 25 [.d (Sl (eN .i64) s.L), I s.v_at]] fun g hp' => g = .agg [S r.1.Name, I r.1.Kind, B r.1.Addr.Six, U r.1.Addr.Hi, U r.1.Addr.Lo, S r.1.To, S r.1.Words, I r.1.Life] ∧ hp' = [.box 25 [.d (Sl (eN .i64) r.2.L), I r.2.v_at]] := by
  refine ec_enter (Fr.of 0 _) Tryz.func76 rfl (Fr.of_ok _) (Nat.le_of_ble_eq_true rfl) fun _ => ?_
  refine go_in ?_
  unfold m_lanemake_Stream_record at h
  refine go hΓ 2 rfl ?_
  refine eo_alloc hΓ rfl rfl rfl (Nat.le_of_ble_eq_true rfl) ?_
  refine go_ops hΓ 6 rfl ?_
  refine eo_litT hΓ (enc := (eN .i64)) [0, 5, 60, 1000000] rfl rfl rfl rfl rfl rfl rfl rfl rfl rfl rfl rfl (Nat.le_of_ble_eq_true rfl) ?_
  obtain ⟨y1, hy1, h2⟩ := bi_ok h
  refine eo_callF [0] (I y1.1) [.box 25 [.d (Sl (eN .i64) y1.2.L), I y1.2.v_at], .box 80 [S [], I 0, B false, U 0, U 0, S [], S [], I 0]] (callable Tryz.func35 rfl rfl) (c_lanemake_Stream_Pick hy1) rfl (Nat.le_of_ble_eq_true rfl) rfl rfl rfl rfl rfl rfl rfl rfl rfl rfl ?_
  refine eo_build hΓ (gs := [S name, I 0, B false, U 0, U 0, S [], S [], I y1.1]) rfl rfl rfl rfl rfl rfl rfl ?_
  refine eo_alloc hΓ rfl rfl rfl (Nat.le_of_ble_eq_true rfl) ?_
  refine eo_store hΓ rfl rfl rfl rfl rfl rfl rfl rfl (Nat.le_of_ble_eq_true rfl) ?_
  refine eo_hp [.box 25 [.d (Sl (eN .i64) y1.2.L), I y1.2.v_at], .box 80 [S [], I 0, B false, U 0, U 0, S [], S [], I 0], .box 80 [S name, I 0, B false, U 0, U 0, S [], S [], I y1.1]] rfl ?_
  obtain ⟨y3, hy3, h4⟩ := bi_ok h2
  refine go_ops hΓ 6 rfl ?_
  refine eo_callF [0] (I y3.1) [.box 25 [.d (Sl (eN .i64) y3.2.L), I y3.2.v_at], .box 80 [S [], I 0, B false, U 0, U 0, S [], S [], I 0], .box 80 [S name, I 0, B false, U 0, U 0, S [], S [], I y1.1]] (callable Tryz.func38 rfl rfl) (c_lanemake_Stream_Next hy3) rfl (Nat.le_of_ble_eq_true rfl) rfl rfl rfl rfl rfl rfl rfl rfl rfl rfl ?_
  obtain ⟨q5, hq5, h6⟩ := bi_ok h4
  refine go_ops hΓ 2 rfl ?_
  refine j_cutNZ [(0, .ptr 0 0), (4, .ptr 1 0), (5, .ptr 2 0)] [.box 25 [.d (Sl (eN .i64) q5.1.L), I q5.1.v_at], .box 80 [S [], I 0, B false, U 0, U 0, S [], S [], I 0], .box 80 [S q5.2.Name, I q5.2.Kind, B q5.2.Addr.Six, U q5.2.Addr.Hi, U q5.2.Addr.Lo, S q5.2.To, S q5.2.Words, I q5.2.Life]] ?_ ?_
  · obtain ⟨q7, hq7, h8⟩ := bi_ok hq5
    refine go hΓ 8 rfl ?_
    refine j_cutNZ [(0, .ptr 0 0), (4, .ptr 1 0), (5, .ptr 2 0), (12, I y3.1), (18, B q7)] [.box 25 [.d (Sl (eN .i64) y3.2.L), I y3.2.v_at], .box 80 [S [], I 0, B false, U 0, U 0, S [], S [], I 0], .box 80 [S name, I 0, B false, U 0, U 0, S [], S [], I y1.1]] ?_ ?_
    · refine j_cond rfl (fun hb => ?_) (fun hb => ?_)
      · have h9 := cT hq7 hb
        refine go hΓ 1 rfl ?_
        obtain rfl := Option.some.inj h9
        exact ⟨⟨rfl, rfl, rfl, rfl, rfl, trivial⟩, [], rfl, .inl rfl⟩
      · have h10 := cF hq7 hb
        refine go hΓ 4 rfl ?_
        obtain rfl := Option.some.inj h10
        exact ⟨⟨rfl, rfl, rfl, rfl, rfl, trivial⟩, [], rfl, .inl rfl⟩
    · refine go hΓ 1 rfl ?_
      refine j_cond rfl (fun hb => ?_) (fun hb => ?_)
      · have h11 := cT h8 hb
        obtain ⟨y12, hy12, h13⟩ := bi_ok h11
        refine go hΓ 2 rfl ?_
        refine eo_callF [0] (I y12.1) [.box 25 [.d (Sl (eN .i64) y12.2.L), I y12.2.v_at], .box 80 [S [], I 0, B false, U 0, U 0, S [], S [], I 0], .box 80 [S name, I 0, B false, U 0, U 0, S [], S [], I y1.1]] (callable Tryz.func26 rfl rfl) (c_lanemake_Stream_Range hy12) rfl (Nat.le_of_ble_eq_true rfl) rfl rfl rfl rfl rfl rfl rfl rfl rfl rfl ?_
        obtain ⟨y14, hy14, h15⟩ := bi_ok h13
        refine eo_callP (callable Tryz.func172 rfl rfl) (c_lanemake_at hy14) rfl (Nat.le_of_ble_eq_true rfl) rfl rfl rfl rfl rfl ?_
        refine go_ops hΓ 1 rfl ?_
        refine eo_store hΓ rfl rfl rfl rfl rfl rfl rfl rfl (Nat.le_of_ble_eq_true rfl) ?_
        refine eo_hp [.box 25 [.d (Sl (eN .i64) y12.2.L), I y12.2.v_at], .box 80 [S [], I 0, B false, U 0, U 0, S [], S [], I 0], .box 80 [S name, I 1, B false, U 0, U 0, S [], S [], I y1.1]] rfl ?_
        refine go_ops hΓ 1 rfl ?_
        refine eo_store hΓ rfl rfl rfl rfl rfl rfl rfl rfl (Nat.le_of_ble_eq_true rfl) ?_
        refine eo_hp [.box 25 [.d (Sl (eN .i64) y12.2.L), I y12.2.v_at], .box 80 [S [], I 0, B false, U 0, U 0, S [], S [], I 0], .box 80 [S name, I 1, B y14.Six, U y14.Hi, U y14.Lo, S [], S [], I y1.1]] rfl ?_
        refine go_ops hΓ 2 rfl ?_
        obtain rfl := Option.some.inj h15
        exact ⟨⟨rfl, rfl, rfl, trivial⟩, [], rfl, .inl rfl⟩
      · have h16 := cF h8 hb
        refine go hΓ 6 rfl ?_
        refine j_cond rfl (fun hb => ?_) (fun hb => ?_)
        · have h17 := cT h16 hb
          obtain ⟨y18, hy18, h19⟩ := bi_ok h17
          refine go hΓ 2 rfl ?_
          refine eo_callF [0] (I y18.1) [.box 25 [.d (Sl (eN .i64) y18.2.L), I y18.2.v_at], .box 80 [S [], I 0, B false, U 0, U 0, S [], S [], I 0], .box 80 [S name, I 0, B false, U 0, U 0, S [], S [], I y1.1]] (callable Tryz.func26 rfl rfl) (c_lanemake_Stream_Range hy18) rfl (Nat.le_of_ble_eq_true rfl) rfl rfl rfl rfl rfl rfl rfl rfl rfl rfl ?_
          obtain ⟨y20, hy20, h21⟩ := bi_ok h19
          refine eo_callP (callable Tryz.func173 rfl rfl) (c_lanemake_sixAt hy20) rfl (Nat.le_of_ble_eq_true rfl) rfl rfl rfl rfl rfl ?_
          refine go_ops hΓ 1 rfl ?_
          refine eo_store hΓ rfl rfl rfl rfl rfl rfl rfl rfl (Nat.le_of_ble_eq_true rfl) ?_
          refine eo_hp [.box 25 [.d (Sl (eN .i64) y18.2.L), I y18.2.v_at], .box 80 [S [], I 0, B false, U 0, U 0, S [], S [], I 0], .box 80 [S name, I 28, B false, U 0, U 0, S [], S [], I y1.1]] rfl ?_
          refine go_ops hΓ 1 rfl ?_
          refine eo_store hΓ rfl rfl rfl rfl rfl rfl rfl rfl (Nat.le_of_ble_eq_true rfl) ?_
          refine eo_hp [.box 25 [.d (Sl (eN .i64) y18.2.L), I y18.2.v_at], .box 80 [S [], I 0, B false, U 0, U 0, S [], S [], I 0], .box 80 [S name, I 28, B y20.Six, U y20.Hi, U y20.Lo, S [], S [], I y1.1]] rfl ?_
          refine go_ops hΓ 2 rfl ?_
          obtain rfl := Option.some.inj h21
          exact ⟨⟨rfl, rfl, rfl, trivial⟩, [], rfl, .inl rfl⟩
        · have h22 := cF h16 hb
          refine go hΓ 6 rfl ?_
          refine j_cond rfl (fun hb => ?_) (fun hb => ?_)
          · have h23 := cT h22 hb
            refine go hΓ 2 rfl ?_
            refine eo_litT hΓ (enc := eS) [[], [104, 105], [97, 32, 98], [118, 61, 49]] rfl rfl rfl rfl rfl rfl rfl rfl rfl rfl rfl rfl (Nat.le_of_ble_eq_true rfl) ?_
            obtain ⟨y24, hy24, h25⟩ := bi_ok h23
            refine eo_callF [0] (S y24.1) [.box 25 [.d (Sl (eN .i64) y24.2.L), I y24.2.v_at], .box 80 [S [], I 0, B false, U 0, U 0, S [], S [], I 0], .box 80 [S name, I 0, B false, U 0, U 0, S [], S [], I y1.1]] (callable Tryz.func40 rfl rfl) (c_lanemake_Stream_Some hy24) rfl (Nat.le_of_ble_eq_true rfl) rfl rfl rfl rfl rfl rfl rfl rfl rfl rfl ?_
            refine go_ops hΓ 1 rfl ?_
            refine eo_store hΓ rfl rfl rfl rfl rfl rfl rfl rfl (Nat.le_of_ble_eq_true rfl) ?_
            refine eo_hp [.box 25 [.d (Sl (eN .i64) y24.2.L), I y24.2.v_at], .box 80 [S [], I 0, B false, U 0, U 0, S [], S [], I 0], .box 80 [S name, I 16, B false, U 0, U 0, S [], S [], I y1.1]] rfl ?_
            refine go_ops hΓ 1 rfl ?_
            refine eo_store hΓ rfl rfl rfl rfl rfl rfl rfl rfl (Nat.le_of_ble_eq_true rfl) ?_
            refine eo_hp [.box 25 [.d (Sl (eN .i64) y24.2.L), I y24.2.v_at], .box 80 [S [], I 0, B false, U 0, U 0, S [], S [], I 0], .box 80 [S name, I 16, B false, U 0, U 0, S [], S y24.1, I y1.1]] rfl ?_
            refine go_ops hΓ 2 rfl ?_
            obtain rfl := Option.some.inj h25
            exact ⟨⟨rfl, rfl, rfl, trivial⟩, [], rfl, .inl rfl⟩
          · have h26 := cF h22 hb
            refine go hΓ 6 rfl ?_
            refine j_cond rfl (fun hb => ?_) (fun hb => ?_)
            · have h27 := cT h26 hb
              refine go hΓ 2 rfl ?_
              refine eo_litT hΓ (enc := eS) [[97, 46, 110, 101, 116, 46, 120], [98, 46, 110, 101, 116, 46, 120]] rfl rfl rfl rfl rfl rfl rfl rfl rfl rfl rfl rfl (Nat.le_of_ble_eq_true rfl) ?_
              obtain ⟨y28, hy28, h29⟩ := bi_ok h27
              refine eo_callF [0] (S y28.1) [.box 25 [.d (Sl (eN .i64) y28.2.L), I y28.2.v_at], .box 80 [S [], I 0, B false, U 0, U 0, S [], S [], I 0], .box 80 [S name, I 0, B false, U 0, U 0, S [], S [], I y1.1]] (callable Tryz.func40 rfl rfl) (c_lanemake_Stream_Some hy28) rfl (Nat.le_of_ble_eq_true rfl) rfl rfl rfl rfl rfl rfl rfl rfl rfl rfl ?_
              refine go_ops hΓ 1 rfl ?_
              refine eo_store hΓ rfl rfl rfl rfl rfl rfl rfl rfl (Nat.le_of_ble_eq_true rfl) ?_
              refine eo_hp [.box 25 [.d (Sl (eN .i64) y28.2.L), I y28.2.v_at], .box 80 [S [], I 0, B false, U 0, U 0, S [], S [], I 0], .box 80 [S name, I 12, B false, U 0, U 0, S [], S [], I y1.1]] rfl ?_
              refine go_ops hΓ 1 rfl ?_
              refine eo_store hΓ rfl rfl rfl rfl rfl rfl rfl rfl (Nat.le_of_ble_eq_true rfl) ?_
              refine eo_hp [.box 25 [.d (Sl (eN .i64) y28.2.L), I y28.2.v_at], .box 80 [S [], I 0, B false, U 0, U 0, S [], S [], I 0], .box 80 [S name, I 12, B false, U 0, U 0, S y28.1, S [], I y1.1]] rfl ?_
              refine go_ops hΓ 2 rfl ?_
              obtain rfl := Option.some.inj h29
              exact ⟨⟨rfl, rfl, rfl, trivial⟩, [], rfl, .inl rfl⟩
            · have h30 := cF h26 hb
              refine go hΓ 2 rfl ?_
              refine eo_litT hΓ (enc := eS) [[97, 46, 110, 101, 116, 46, 120], [98, 46, 110, 101, 116, 46, 120], [99, 46, 110, 101, 116, 46, 120], [113, 46, 108, 97, 98, 46, 110, 101, 116, 46, 120], [100, 46, 110, 101, 116, 46, 120], [111, 116, 104, 101, 114]] rfl rfl rfl rfl rfl rfl rfl rfl rfl rfl rfl rfl (Nat.le_of_ble_eq_true rfl) ?_
              obtain ⟨y31, hy31, h32⟩ := bi_ok h30
              refine eo_callF [0] (S y31.1) [.box 25 [.d (Sl (eN .i64) y31.2.L), I y31.2.v_at], .box 80 [S [], I 0, B false, U 0, U 0, S [], S [], I 0], .box 80 [S name, I 0, B false, U 0, U 0, S [], S [], I y1.1]] (callable Tryz.func40 rfl rfl) (c_lanemake_Stream_Some hy31) rfl (Nat.le_of_ble_eq_true rfl) rfl rfl rfl rfl rfl rfl rfl rfl rfl rfl ?_
              refine go_ops hΓ 1 rfl ?_
              refine eo_store hΓ rfl rfl rfl rfl rfl rfl rfl rfl (Nat.le_of_ble_eq_true rfl) ?_
              refine eo_hp [.box 25 [.d (Sl (eN .i64) y31.2.L), I y31.2.v_at], .box 80 [S [], I 0, B false, U 0, U 0, S [], S [], I 0], .box 80 [S name, I 5, B false, U 0, U 0, S [], S [], I y1.1]] rfl ?_
              refine go_ops hΓ 1 rfl ?_
              refine eo_store hΓ rfl rfl rfl rfl rfl rfl rfl rfl (Nat.le_of_ble_eq_true rfl) ?_
              refine eo_hp [.box 25 [.d (Sl (eN .i64) y31.2.L), I y31.2.v_at], .box 80 [S [], I 0, B false, U 0, U 0, S [], S [], I 0], .box 80 [S name, I 5, B false, U 0, U 0, S y31.1, S [], I y1.1]] rfl ?_
              refine go_ops hΓ 2 rfl ?_
              obtain rfl := Option.some.inj h32
              exact ⟨⟨rfl, rfl, rfl, trivial⟩, [], rfl, .inl rfl⟩
  · obtain ⟨y33, hy33, h34⟩ := bi_ok h6
    refine go hΓ 5 rfl ?_
    refine eo_callF [0] (B y33.1) [.box 25 [.d (Sl (eN .i64) y33.2.L), I y33.2.v_at], .box 80 [S [], I 0, B false, U 0, U 0, S [], S [], I 0], .box 80 [S q5.2.Name, I q5.2.Kind, B q5.2.Addr.Six, U q5.2.Addr.Hi, U q5.2.Addr.Lo, S q5.2.To, S q5.2.Words, I q5.2.Life]] (callable Tryz.func39 rfl rfl) (c_lanemake_Stream_Flip hy33) rfl (Nat.le_of_ble_eq_true rfl) rfl rfl rfl rfl rfl rfl rfl rfl rfl rfl ?_
    obtain ⟨q35, hq35, h36⟩ := bi_ok h34
    refine go_ops hΓ 2 rfl ?_
    refine j_cutNZ [(4, .ptr 1 0), (5, .ptr 2 0)] [.box 25 [.d (Sl (eN .i64) q35.1.L), I q35.1.v_at], .box 80 [S [], I 0, B false, U 0, U 0, S [], S [], I 0], .box 80 [S q35.2.Name, I q35.2.Kind, B q35.2.Addr.Six, U q35.2.Addr.Hi, U q35.2.Addr.Lo, S q35.2.To, S q35.2.Words, I q35.2.Life]] ?_ ?_
    · refine j_cond rfl (fun hb => ?_) (fun hb => ?_)
      · have h37 := cT hq35 hb
        obtain ⟨y38, hy38, h39⟩ := bi_ok h37
        refine go hΓ 3 rfl ?_
        refine eo_callF [0] (I y38.1) [.box 25 [.d (Sl (eN .i64) y38.2.L), I y38.2.v_at], .box 80 [S [], I 0, B false, U 0, U 0, S [], S [], I 0], .box 80 [S q5.2.Name, I q5.2.Kind, B q5.2.Addr.Six, U q5.2.Addr.Hi, U q5.2.Addr.Lo, S q5.2.To, S q5.2.Words, I q5.2.Life]] (callable Tryz.func38 rfl rfl) (c_lanemake_Stream_Next hy38) rfl (Nat.le_of_ble_eq_true rfl) rfl rfl rfl rfl rfl rfl rfl rfl rfl rfl ?_
        refine go_ops hΓ 9 rfl ?_
        refine j_cond rfl (fun hb => ?_) (fun hb => ?_)
        · have h40 := cT h39 hb
          refine go hΓ 2 rfl ?_
          refine eo_litT hΓ (enc := (eN .i64)) [0, 2, 5] rfl rfl rfl rfl rfl rfl rfl rfl rfl rfl rfl rfl (Nat.le_of_ble_eq_true rfl) ?_
          obtain ⟨y41, hy41, h42⟩ := bi_ok h40
          refine eo_callF [0] (I y41.1) [.box 25 [.d (Sl (eN .i64) y41.2.L), I y41.2.v_at], .box 80 [S [], I 0, B false, U 0, U 0, S [], S [], I 0], .box 80 [S q5.2.Name, I q5.2.Kind, B q5.2.Addr.Six, U q5.2.Addr.Hi, U q5.2.Addr.Lo, S q5.2.To, S q5.2.Words, I q5.2.Life]] (callable Tryz.func35 rfl rfl) (c_lanemake_Stream_Pick hy41) rfl (Nat.le_of_ble_eq_true rfl) rfl rfl rfl rfl rfl rfl rfl rfl rfl rfl ?_
          refine go_ops hΓ 1 rfl ?_
          refine eo_store hΓ rfl rfl rfl rfl rfl rfl rfl rfl (Nat.le_of_ble_eq_true rfl) ?_
          refine eo_hp [.box 25 [.d (Sl (eN .i64) y41.2.L), I y41.2.v_at], .box 80 [S [], I 0, B false, U 0, U 0, S [], S [], I 0], .box 80 [S q5.2.Name, I y41.1, B q5.2.Addr.Six, U q5.2.Addr.Hi, U q5.2.Addr.Lo, S q5.2.To, S q5.2.Words, I q5.2.Life]] rfl ?_
          refine go_ops hΓ 2 rfl ?_
          obtain rfl := Option.some.inj h42
          exact ⟨⟨rfl, rfl, trivial⟩, [], rfl, .inl rfl⟩
        · have h43 := cF h39 hb
          refine go hΓ 6 rfl ?_
          refine j_cond rfl (fun hb => ?_) (fun hb => ?_)
          · have h44 := cT h43 hb
            obtain ⟨y45, hy45, h46⟩ := bi_ok h44
            refine go hΓ 2 rfl ?_
            refine eo_callF [0] (.agg [B y45.1.Six, U y45.1.Hi, U y45.1.Lo]) [.box 25 [.d (Sl (eN .i64) y45.2.L), I y45.2.v_at], .box 80 [S [], I 0, B false, U 0, U 0, S [], S [], I 0], .box 80 [S q5.2.Name, I q5.2.Kind, B q5.2.Addr.Six, U q5.2.Addr.Hi, U q5.2.Addr.Lo, S q5.2.To, S q5.2.Words, I q5.2.Life]] (callable Tryz.func147 rfl rfl) (c_lanemake_Stream_Raw hy45) rfl (Nat.le_of_ble_eq_true rfl) rfl rfl rfl rfl rfl rfl rfl rfl rfl rfl ?_
            refine go_ops hΓ 1 rfl ?_
            refine eo_store hΓ rfl rfl rfl rfl rfl rfl rfl rfl (Nat.le_of_ble_eq_true rfl) ?_
            refine eo_hp [.box 25 [.d (Sl (eN .i64) y45.2.L), I y45.2.v_at], .box 80 [S [], I 0, B false, U 0, U 0, S [], S [], I 0], .box 80 [S q5.2.Name, I q5.2.Kind, B y45.1.Six, U y45.1.Hi, U y45.1.Lo, S q5.2.To, S q5.2.Words, I q5.2.Life]] rfl ?_
            refine go_ops hΓ 2 rfl ?_
            obtain rfl := Option.some.inj h46
            exact ⟨⟨rfl, rfl, trivial⟩, [], rfl, .inl rfl⟩
          · have h47 := cF h43 hb
            refine go hΓ 6 rfl ?_
            refine j_cond rfl (fun hb => ?_) (fun hb => ?_)
            · have h48 := cT h47 hb
              refine go hΓ 2 rfl ?_
              refine eo_litT hΓ (enc := eS) [[], [65], [120]] rfl rfl rfl rfl rfl rfl rfl rfl rfl rfl rfl rfl (Nat.le_of_ble_eq_true rfl) ?_
              obtain ⟨y49, hy49, h50⟩ := bi_ok h48
              refine eo_callF [0] (S y49.1) [.box 25 [.d (Sl (eN .i64) y49.2.L), I y49.2.v_at], .box 80 [S [], I 0, B false, U 0, U 0, S [], S [], I 0], .box 80 [S q5.2.Name, I q5.2.Kind, B q5.2.Addr.Six, U q5.2.Addr.Hi, U q5.2.Addr.Lo, S q5.2.To, S q5.2.Words, I q5.2.Life]] (callable Tryz.func40 rfl rfl) (c_lanemake_Stream_Some hy49) rfl (Nat.le_of_ble_eq_true rfl) rfl rfl rfl rfl rfl rfl rfl rfl rfl rfl ?_
              refine go_ops hΓ 1 rfl ?_
              refine eo_store hΓ rfl rfl rfl rfl rfl rfl rfl rfl (Nat.le_of_ble_eq_true rfl) ?_
              refine eo_hp [.box 25 [.d (Sl (eN .i64) y49.2.L), I y49.2.v_at], .box 80 [S [], I 0, B false, U 0, U 0, S [], S [], I 0], .box 80 [S q5.2.Name, I q5.2.Kind, B q5.2.Addr.Six, U q5.2.Addr.Hi, U q5.2.Addr.Lo, S y49.1, S q5.2.Words, I q5.2.Life]] rfl ?_
              refine go_ops hΓ 2 rfl ?_
              obtain rfl := Option.some.inj h50
              exact ⟨⟨rfl, rfl, trivial⟩, [], rfl, .inl rfl⟩
            · have h51 := cF h47 hb
              refine go hΓ 2 rfl ?_
              refine eo_litT hΓ (enc := eS) [[32, 120], [97, 10, 98], [], [121]] rfl rfl rfl rfl rfl rfl rfl rfl rfl rfl rfl rfl (Nat.le_of_ble_eq_true rfl) ?_
              obtain ⟨y52, hy52, h53⟩ := bi_ok h51
              refine eo_callF [0] (S y52.1) [.box 25 [.d (Sl (eN .i64) y52.2.L), I y52.2.v_at], .box 80 [S [], I 0, B false, U 0, U 0, S [], S [], I 0], .box 80 [S q5.2.Name, I q5.2.Kind, B q5.2.Addr.Six, U q5.2.Addr.Hi, U q5.2.Addr.Lo, S q5.2.To, S q5.2.Words, I q5.2.Life]] (callable Tryz.func40 rfl rfl) (c_lanemake_Stream_Some hy52) rfl (Nat.le_of_ble_eq_true rfl) rfl rfl rfl rfl rfl rfl rfl rfl rfl rfl ?_
              obtain ⟨y54, hy54, h55⟩ := bi_ok h53
              refine go_ops hΓ 1 rfl ?_
              refine eo_callF [0] (I y54.1) [.box 25 [.d (Sl (eN .i64) y54.2.L), I y54.2.v_at], .box 80 [S [], I 0, B false, U 0, U 0, S [], S [], I 0], .box 80 [S q5.2.Name, I q5.2.Kind, B q5.2.Addr.Six, U q5.2.Addr.Hi, U q5.2.Addr.Lo, S q5.2.To, S q5.2.Words, I q5.2.Life]] (callable Tryz.func52 rfl rfl) (c_lanemake_Stream_Odd hy54) rfl (Nat.le_of_ble_eq_true rfl) rfl rfl rfl rfl rfl rfl rfl rfl rfl rfl ?_
              refine go_ops hΓ 1 rfl ?_
              refine eo_store hΓ rfl rfl rfl rfl rfl rfl rfl rfl (Nat.le_of_ble_eq_true rfl) ?_
              refine eo_hp [.box 25 [.d (Sl (eN .i64) y54.2.L), I y54.2.v_at], .box 80 [S [], I 0, B false, U 0, U 0, S [], S [], I 0], .box 80 [S q5.2.Name, I q5.2.Kind, B q5.2.Addr.Six, U q5.2.Addr.Hi, U q5.2.Addr.Lo, S q5.2.To, S y52.1, I q5.2.Life]] rfl ?_
              refine go_ops hΓ 1 rfl ?_
              refine eo_store hΓ rfl rfl rfl rfl rfl rfl rfl rfl (Nat.le_of_ble_eq_true rfl) ?_
              refine eo_hp [.box 25 [.d (Sl (eN .i64) y54.2.L), I y54.2.v_at], .box 80 [S [], I 0, B false, U 0, U 0, S [], S [], I 0], .box 80 [S q5.2.Name, I q5.2.Kind, B q5.2.Addr.Six, U q5.2.Addr.Hi, U q5.2.Addr.Lo, S q5.2.To, S y52.1, I y54.1]] rfl ?_
              refine go_ops hΓ 2 rfl ?_
              obtain rfl := Option.some.inj h55
              exact ⟨⟨rfl, rfl, trivial⟩, [], rfl, .inl rfl⟩
      · have h56 := cF hq35 hb
        refine go hΓ 1 rfl ?_
        obtain rfl := Option.some.inj h56
        exact ⟨⟨rfl, rfl, trivial⟩, [], rfl, .inl rfl⟩
    · refine go hΓ 4 rfl ?_
      refine eo_store hΓ rfl rfl rfl rfl rfl rfl rfl rfl (Nat.le_of_ble_eq_true rfl) ?_
      refine eo_hp [.box 25 [.d (Sl (eN .i64) q35.1.L), I q35.1.v_at], .box 80 [S q35.2.Name, I q35.2.Kind, B q35.2.Addr.Six, U q35.2.Addr.Hi, U q35.2.Addr.Lo, S q35.2.To, S q35.2.Words, I q35.2.Life], .box 80 [S q35.2.Name, I q35.2.Kind, B q35.2.Addr.Six, U q35.2.Addr.Hi, U q35.2.Addr.Lo, S q35.2.To, S q35.2.Words, I q35.2.Life]] rfl ?_
      refine go_ops hΓ 3 rfl ?_
      obtain rfl := Option.some.inj h36
      exact fin_objs hΓ [_, _] (.inr rfl) rfl rfl rfl rfl (.inr ⟨HB.mk rfl, rfl⟩)
theorem c_lanemake_Stream_Records {s : T_lanemake_Stream} {many : Int} {r : (List T_api_Record) × T_lanemake_Stream} (h : m_lanemake_Stream_Records s many = some r) : EC Tryz.prog 41 [.ptr 0 0, I many] [.box 25 [.d (Sl (eN .i64) s.L), I s.v_at]] fun g hp' => g = .sl 1 r.1.length ∧ hp' = [.box 25 [.d (Sl (eN .i64) r.2.L), I r.2.v_at], .row 80 8 r.1.length (r.1.flatMap e_api_Record)] := by
  refine ec_enterC (Fr.of 0 _) Tryz.func41 rfl (Fr.of_ok _) (Nat.le_of_ble_eq_true rfl) fun _ => ?_
  refine go_in ?_
  unfold m_lanemake_Stream_Records at h
  refine go hΓ 7 rfl ?_
  refine eo_nilOwn (t := 0) 80 8 rfl (Nat.le_of_ble_eq_true rfl) ?_
  refine go_ops hΓ 9 rfl ?_
  obtain ⟨q4, hq4, h5⟩ := bi_ok h
  obtain ⟨hb7, h8⟩ := gd_ok hq4
  replace hb7 := of_decide_eq_true hb7
  refine j_cutNZ [(5, .sl 1 q4.2.length)] [.box 25 [.d (Sl (eN .i64) q4.1.L), I q4.1.v_at], .row 80 8 q4.2.length (q4.2.flatMap e_api_Record)] ?_ ?_
  · refine go hΓ 1 rfl ?_
    refine j_rangeG h8 (fun i1 s2 => [(0, .ptr 0 0), (5, .sl 1 s2.2.length), (6, I many), (7, I (i1 : Int))]) (fun s2 => [.box 25 [.d (Sl (eN .i64) s2.1.L), I s2.1.v_at], .row 80 8 s2.2.length (s2.2.flatMap e_api_Record)]) ⟨⟨rfl, rfl, rfl, rfl, trivial⟩, [], rfl, .inl rfl⟩ (fun i1 s2 y12 hlt hy10 => ?_) (fun hge => ?_)
    · refine go hΓ 6 rfl ?_
      refine j_condT rfl (decide_eq_true hlt) ?_
      refine go hΓ 8 rfl ?_
      refine eo_litT hΓ (enc := eS) [[97, 46, 110, 101, 116, 46, 120], [98, 46, 110, 101, 116, 46, 120], [99, 46, 110, 101, 116, 46, 120], [120, 46, 121]] rfl rfl rfl rfl rfl rfl rfl rfl rfl rfl rfl rfl (Nat.le_of_ble_eq_true rfl) ?_
      obtain ⟨y13, hy13, h14⟩ := bi_ok hy10
      refine eo_callF [0] (S y13.1) [.box 25 [.d (Sl (eN .i64) y13.2.L), I y13.2.v_at], .row 80 8 s2.2.length (s2.2.flatMap e_api_Record)] (callable Tryz.func40 rfl rfl) (c_lanemake_Stream_Some hy13) rfl (Nat.le_of_ble_eq_true rfl) rfl rfl rfl rfl rfl rfl rfl rfl rfl rfl ?_
      obtain ⟨y15, hy15, h16⟩ := bi_ok h14
      refine eo_callF [0] (.agg [S y15.1.Name, I y15.1.Kind, B y15.1.Addr.Six, U y15.1.Addr.Hi, U y15.1.Addr.Lo, S y15.1.To, S y15.1.Words, I y15.1.Life]) [.box 25 [.d (Sl (eN .i64) y15.2.L), I y15.2.v_at], .row 80 8 s2.2.length (s2.2.flatMap e_api_Record)] (callable Tryz.func76 rfl rfl) (c_lanemake_Stream_record hy15) rfl (Nat.le_of_ble_eq_true rfl) rfl rfl rfl rfl rfl rfl rfl rfl rfl rfl ?_
      refine eo_litT hΓ (enc := e_api_Record) [y15.1] rfl rfl rfl rfl rfl rfl rfl rfl rfl rfl rfl rfl (Nat.le_of_ble_eq_true rfl) ?_
      obtain ⟨y17, hy17, h18⟩ := bi_ok h16
      refine eo_appendT hΓ (enc := e_api_Record) hy17 rfl rfl rfl rfl rfl rfl rfl rfl rfl (fun _ => rfl) rfl rfl rfl rfl ?_
      refine go_ops hΓ 8 rfl ?_
      obtain rfl := Option.some.inj h18
      exact ⟨⟨rfl, rfl, rfl, get_eq rfl (w64_succ (by omega)), trivial⟩, [], rfl, .inl rfl⟩
    · refine go hΓ 6 rfl ?_
      refine j_condF rfl (decide_eq_false hge) ?_
      refine go hΓ 4 rfl ?_
      exact ⟨⟨rfl, trivial⟩, [], rfl, .inl rfl⟩
  · refine go hΓ 8 rfl ?_
    refine cv_here ?_
    obtain rfl := Option.some.inj h5
    exact fin_objs hΓ [] (.inr rfl) rfl rfl rfl rfl (.inl rfl)
theorem c_kit_IsMoment {n : Int} {r : Bool} (h : m_kit_IsMoment n = some r) : Pure Tryz.prog 227 [I n] (B r) := by
  refine Pure.enter (Fr.of 0 _) Tryz.func227 rfl (Fr.of_ok _) rfl rfl ?_
  refine go_in ?_
  unfold m_kit_IsMoment at h
  refine go hΓ 10 rfl ?_
  refine o_cut 3 [(2, B false), (8, B ((decide ((n : Int) ≥ 0)) && (decide ((n : Int) < 345686400))))] [] ?_ ?_
  · refine eo_gsplit rfl rfl (fun hb => ?_) (fun hb => ?_)
    · refine go_ops hΓ 4 rfl ?_
      exact ⟨⟨rfl, get_b rfl (and_t hb), trivial⟩, [], rfl, .inl rfl⟩
    · refine go_ops hΓ 4 rfl ?_
      exact ⟨⟨rfl, get_b rfl (and_f hb), trivial⟩, [], rfl, .inl rfl⟩
  · refine go_ops hΓ 4 rfl ?_
    obtain rfl := Option.some.inj h
    exact fin_pure hΓ (.inr rfl) rfl rfl
theorem c_name_Cache_timeFault {c : T_name_Cache} {v_at : Int} {r : Int} (h : m_name_Cache_timeFault c v_at = some r) : EC Tryz.prog 142 [.ptr 1 0, I v_at] [.row 177 6 c.list.length (c.list.flatMap e_name_kept), .box 167 [I c.most, I c.now, I c.calls, .sl 0 c.list.length]] fun g hp' => g = I r ∧ hp' = [.row 177 6 c.list.length (c.list.flatMap e_name_kept), .box 167 [I c.most, I c.now, I c.calls, .sl 0 c.list.length]] := by
  refine ec_enter (Fr.of 0 _) Tryz.func142 rfl (Fr.of_ok _) (Nat.le_of_ble_eq_true rfl) fun _ => ?_
  refine go_in ?_
  unfold m_name_Cache_timeFault at h
  obtain ⟨y1, hy1, h2⟩ := bi_ok h
  refine go hΓ 9 rfl ?_
  refine eo_callP (callable Tryz.func227 rfl rfl) (c_kit_IsMoment hy1) rfl (Nat.le_of_ble_eq_true rfl) rfl rfl rfl rfl rfl ?_
  refine go_ops hΓ 3 rfl ?_
  refine j_cond rfl (fun hb => ?_) (fun hb => ?_)
  · have h3 := cT h2 hb
    refine go hΓ 7 rfl ?_
    obtain rfl := Option.some.inj h3
    exact fin_objs hΓ [] (.inr rfl) rfl rfl rfl rfl (.inl rfl)
  · have h4 := cF h2 hb
    refine go hΓ 13 rfl ?_
    refine j_cond rfl (fun hb => ?_) (fun hb => ?_)
    · have h5 := cT h4 hb
      refine go hΓ 7 rfl ?_
      obtain rfl := Option.some.inj h5
      exact fin_objs hΓ [] (.inr rfl) rfl rfl rfl rfl (.inl rfl)
    · have h6 := cF h4 hb
      refine go hΓ 8 rfl ?_
      obtain rfl := Option.some.inj h6
      exact fin_objs hΓ [] (.inr rfl) rfl rfl rfl rfl (.inl rfl)
theorem c_name_isKind {kind : Int} {r : Bool} (h : m_name_isKind kind = some r) : Pure Tryz.prog 219 [I kind] (B r) := by
  refine Pure.enter (Fr.of 0 _) Tryz.func219 rfl (Fr.of_ok _) rfl rfl ?_
  refine go_in ?_
  unfold m_name_isKind at h
  obtain ⟨q1, hq1, h2⟩ := bi_ok h
  refine go hΓ 19 rfl ?_
  refine j_cutNZ [(4, B q1)] [] ?_ ?_
  · refine j_cond rfl (fun hb => ?_) (fun hb => ?_)
    · have h3 := cT hq1 hb
      refine go hΓ 1 rfl ?_
      obtain rfl := Option.some.inj h3
      exact ⟨⟨rfl, trivial⟩, [], rfl, .inl rfl⟩
    · have h4 := cF hq1 hb
      refine go hΓ 6 rfl ?_
      refine j_cond rfl (fun hb => ?_) (fun hb => ?_)
      · have h5 := cT h4 hb
        refine go hΓ 1 rfl ?_
        obtain rfl := Option.some.inj h5
        exact ⟨⟨rfl, trivial⟩, [], rfl, .inl rfl⟩
      · have h6 := cF h4 hb
        refine go hΓ 6 rfl ?_
        refine j_cond rfl (fun hb => ?_) (fun hb => ?_)
        · have h7 := cT h6 hb
          refine go hΓ 1 rfl ?_
          obtain rfl := Option.some.inj h7
          exact ⟨⟨rfl, trivial⟩, [], rfl, .inl rfl⟩
        · have h8 := cF h6 hb
          refine go hΓ 6 rfl ?_
          refine j_cond rfl (fun hb => ?_) (fun hb => ?_)
          · have h9 := cT h8 hb
            refine go hΓ 1 rfl ?_
            obtain rfl := Option.some.inj h9
            exact ⟨⟨rfl, trivial⟩, [], rfl, .inl rfl⟩
          · have h10 := cF h8 hb
            refine go hΓ 4 rfl ?_
            obtain rfl := Option.some.inj h10
            exact ⟨⟨rfl, trivial⟩, [], rfl, .inl rfl⟩
  · refine go hΓ 1 rfl ?_
    refine j_cond rfl (fun hb => ?_) (fun hb => ?_)
    · have h11 := cT h2 hb
      refine go hΓ 8 rfl ?_
      obtain rfl := Option.some.inj h11
      exact fin_pure hΓ (.inr rfl) rfl rfl
    · have h12 := cF h2 hb
      refine go hΓ 9 rfl ?_
      obtain rfl := Option.some.inj h12
      exact fin_pure hΓ (.inr rfl) rfl rfl
theorem c_name_Cache_nameFault {k : Nat} {c : T_name_Cache} {v_at : Int} {name : Str} {kind : Int} {r : Int} (h : m_name_Cache_nameFault k c v_at name kind = some r) : EC Tryz.prog 125 [.ptr 1 0, I v_at, S name, I kind] [.row 177 6 c.list.length (c.list.flatMap e_name_kept), .box 167 [I c.most, I c.now, I c.calls, .sl 0 c.list.length]] fun g hp' => g = I r ∧ hp' = [.row 177 6 c.list.length (c.list.flatMap e_name_kept), .box 167 [I c.most, I c.now, I c.calls, .sl 0 c.list.length]] := by
  refine ec_enter (Fr.of 0 _) Tryz.func125 rfl (Fr.of_ok _) (Nat.le_of_ble_eq_true rfl) fun _ => ?_
  refine go_in ?_
  unfold m_name_Cache_nameFault at h
  obtain ⟨y1, hy1, h2⟩ := bi_ok h
  refine go hΓ 10 rfl ?_
  refine eo_callF [0, 1] (I y1) [.row 177 6 c.list.length (c.list.flatMap e_name_kept), .box 167 [I c.most, I c.now, I c.calls, .sl 0 c.list.length]] (callable Tryz.func142 rfl rfl) (c_name_Cache_timeFault hy1) rfl (Nat.le_of_ble_eq_true rfl) rfl rfl rfl rfl rfl rfl rfl rfl rfl rfl ?_
  refine go_ops hΓ 9 rfl ?_
  refine j_cond rfl (fun hb => ?_) (fun hb => ?_)
  · have h3 := cT h2 hb
    refine go hΓ 8 rfl ?_
    obtain rfl := Option.some.inj h3
    exact fin_objs hΓ [] (.inr rfl) rfl rfl rfl rfl (.inl rfl)
  · have h4 := cF h2 hb
    obtain ⟨y5, hy5, h6⟩ := bi_ok h4
    refine go hΓ 6 rfl ?_
    refine eo_callP (callable Tryz.func102 rfl rfl) (c_name_CheckDomain hy5) rfl (Nat.le_of_ble_eq_true rfl) rfl rfl rfl rfl rfl ?_
    refine go_ops hΓ 9 rfl ?_
    refine j_cond rfl (fun hb => ?_) (fun hb => ?_)
    · have h7 := cT h6 hb
      refine go hΓ 8 rfl ?_
      obtain rfl := Option.some.inj h7
      exact fin_objs hΓ [] (.inr rfl) rfl rfl rfl rfl (.inl rfl)
    · have h8 := cF h6 hb
      obtain ⟨y9, hy9, h10⟩ := bi_ok h8
      refine go hΓ 6 rfl ?_
      refine eo_callP (callable Tryz.func219 rfl rfl) (c_name_isKind hy9) rfl (Nat.le_of_ble_eq_true rfl) rfl rfl rfl rfl rfl ?_
      refine go_ops hΓ 3 rfl ?_
      refine j_cond rfl (fun hb => ?_) (fun hb => ?_)
      · have h11 := cT h10 hb
        refine go hΓ 7 rfl ?_
        obtain rfl := Option.some.inj h11
        exact fin_objs hΓ [] (.inr rfl) rfl rfl rfl rfl (.inl rfl)
      · have h12 := cF h10 hb
        refine go hΓ 8 rfl ?_
        obtain rfl := Option.some.inj h12
        exact fin_objs hΓ [] (.inr rfl) rfl rfl rfl rfl (.inl rfl)
theorem c_name_bare {name : Str} {r : Str} (h : m_name_bare name = some r) : Pure Tryz.prog 175 [S name] (S r) := by
  refine Pure.enter (Fr.of 0 _) Tryz.func175 rfl (Fr.of_ok _) rfl rfl ?_
  refine go_in ?_
  unfold m_name_bare at h
  obtain ⟨y1, hy1, h2⟩ := bi_ok h
  refine go hΓ 8 rfl ?_
  refine eo_callP (callable Tryz.func169 rfl rfl) (c_strings_TrimPrefix hy1) rfl (Nat.le_of_ble_eq_true rfl) rfl rfl rfl rfl rfl ?_
  refine go_ops hΓ 4 rfl ?_
  obtain rfl := Option.some.inj h2
  exact fin_pure hΓ (.inr rfl) rfl rfl
theorem c_name_hasAddr {kind : Int} {r : Bool} (h : m_name_hasAddr kind = some r) : Pure Tryz.prog 84 [I kind] (B r) := by
  refine Pure.enter (Fr.of 0 _) Tryz.func84 rfl (Fr.of_ok _) rfl rfl ?_
  refine go_in ?_
  unfold m_name_hasAddr at h
  refine go hΓ 10 rfl ?_
  refine o_cut 3 [(2, B false), (8, B (((kind : Int) == 1) || ((kind : Int) == 28)))] [] ?_ ?_
  · refine eo_gsplit rfl rfl (fun hb => ?_) (fun hb => ?_)
    · refine go_ops hΓ 4 rfl ?_
      exact ⟨⟨rfl, get_b rfl (or_t hb), trivial⟩, [], rfl, .inl rfl⟩
    · refine go_ops hΓ 4 rfl ?_
      exact ⟨⟨rfl, get_b rfl (or_f hb), trivial⟩, [], rfl, .inl rfl⟩
  · refine go_ops hΓ 4 rfl ?_
    obtain rfl := Option.some.inj h
    exact fin_pure hΓ (.inr rfl) rfl rfl
theorem c_addr_CheckAddr {a : T_api_Addr} {r : Int} (h : m_addr_CheckAddr a = some r) : Pure Tryz.prog 177 [.agg [B a.Six, U a.Hi, U a.Lo]] (I r) := by
  refine Pure.enter (Fr.of 0 _) Tryz.func177 rfl (Fr.of_ok _) rfl rfl ?_
  refine go_in ?_
  unfold m_addr_CheckAddr at h
  refine go hΓ 2 rfl ?_
  refine eo_box rfl rfl rfl rfl (Nat.le_of_ble_eq_true rfl) ?_
  refine go_ops hΓ 10 rfl ?_
  refine o_cut 9 [(15, B ((!a.Six) && (((a.Hi : Int) != 0) || (decide ((a.Lo : Int) ≥ 4294967296)))))] [.box 39 [B a.Six, U a.Hi, U a.Lo]] ?_ ?_
  · refine eo_gsplit rfl rfl (fun hb => ?_) (fun hb => ?_)
    · refine go_ops hΓ 4 rfl ?_
      refine o_cut 4 [(6, B true), (14, B (((a.Hi : Int) != 0) || (decide ((a.Lo : Int) ≥ 4294967296))))] [.box 39 [B a.Six, U a.Hi, U a.Lo]] ?_ ?_
      · refine eo_gsplit rfl rfl (fun hb => ?_) (fun hb => ?_)
        · refine go_ops hΓ 5 rfl ?_
          exact ⟨⟨rfl, get_b rfl (or_t hb), trivial⟩, [], rfl, .inl rfl⟩
        · refine go_ops hΓ 5 rfl ?_
          exact ⟨⟨rfl, get_b rfl (or_f hb), trivial⟩, [], rfl, .inl rfl⟩
      · refine go_ops hΓ 2 rfl ?_
        exact ⟨⟨get_b rfl (and_t hb), trivial⟩, [], rfl, .inl rfl⟩
    · refine go_ops hΓ 10 rfl ?_
      exact ⟨⟨get_b rfl (and_f hb), trivial⟩, [], rfl, .inl rfl⟩
  · refine go_ops hΓ 2 rfl ?_
    refine j_cond rfl (fun hb => ?_) (fun hb => ?_)
    · have h1 := cT h hb
      refine go hΓ 7 rfl ?_
      obtain rfl := Option.some.inj h1
      exact fin_pure hΓ (.inr rfl) rfl rfl
    · have h2 := cF h hb
      refine go hΓ 8 rfl ?_
      obtain rfl := Option.some.inj h2
      exact fin_pure hΓ (.inr rfl) rfl rfl
theorem c_name_hasName {kind : Int} {r : Bool} (h : m_name_hasName kind = some r) : Pure Tryz.prog 188 [I kind] (B r) := by
  refine Pure.enter (Fr.of 0 _) Tryz.func188 rfl (Fr.of_ok _) rfl rfl ?_
  refine go_in ?_
  unfold m_name_hasName at h
  refine go hΓ 10 rfl ?_
  refine o_cut 3 [(2, B false), (8, B (((kind : Int) == 5) || ((kind : Int) == 12)))] [] ?_ ?_
  · refine eo_gsplit rfl rfl (fun hb => ?_) (fun hb => ?_)
    · refine go_ops hΓ 4 rfl ?_
      exact ⟨⟨rfl, get_b rfl (or_t hb), trivial⟩, [], rfl, .inl rfl⟩
    · refine go_ops hΓ 4 rfl ?_
      exact ⟨⟨rfl, get_b rfl (or_f hb), trivial⟩, [], rfl, .inl rfl⟩
  · refine go_ops hΓ 4 rfl ?_
    obtain rfl := Option.some.inj h
    exact fin_pure hΓ (.inr rfl) rfl rfl
set_option maxHeartbeats 8000000 in
theorem c_kit_IsPlain {k : Nat} {s : Str} {r : Bool} (h : m_kit_IsPlain k s = some r) : Pure Tryz.prog 220 [S s] (B r) := by
  refine Pure.enter (Fr.of 0 _) Tryz.func220 rfl (Fr.of_ok _) rfl rfl ?_
  refine go_in ?_
  unfold m_kit_IsPlain at h
  refine go hΓ 11 rfl ?_
  obtain ⟨q4, hq4, h5⟩ := bi_ok h
  refine j_cutEZ (R := fun a6 => q4 = .inl a6) (fun a6 => [(0, S s)]) (fun a6 => []) ?_ ?_
  · refine go hΓ 1 rfl ?_
    refine j_loop hq4 (fun s2 => [(0, S s), (3, I s2)]) (fun s2 => []) ⟨⟨rfl, rfl, trivial⟩, [], rfl, .inl rfl⟩ (fun s2 y10 hy8 hout9 => ?_)
    refine go hΓ 9 rfl ?_
    refine j_cond rfl (fun hb => ?_) (fun hb => ?_)
    · have h11 := cT hy8 hb
      obtain ⟨c12, hc12, h13⟩ := bi_ok h11
      refine go hΓ 8 rfl ?_
      refine eo_o rfl (op_byteZ hΓ hc12 rfl rfl rfl rfl) ?_
      refine go_ops hΓ 2 rfl ?_
      obtain ⟨q14, hq14, h15⟩ := bi_ok h13
      refine o_cut 5 [(0, S s), (3, I s2), (19, B q14)] [] ?_ ?_
      · refine eo_gsplit rfl rfl (fun hb => ?_) (fun hb => ?_)
        · have h16 := cT hq14 hb
          refine go_ops hΓ 6 rfl ?_
          obtain rfl := Option.some.inj h16
          exact ⟨⟨rfl, rfl, rfl, trivial⟩, [], rfl, .inl rfl⟩
        · have h17 := cF hq14 hb
          obtain ⟨c18, hc18, h19⟩ := bi_ok h17
          refine go_ops hΓ 2 rfl ?_
          refine eo_guard rfl ?_
          refine eo_o rfl (op_byteZ hΓ hc18 rfl rfl rfl rfl) ?_
          refine go_ops hΓ 3 rfl ?_
          obtain rfl := Option.some.inj h19
          exact ⟨⟨rfl, rfl, rfl, trivial⟩, [], rfl, .inl rfl⟩
      · refine go_ops hΓ 2 rfl ?_
        refine j_cond rfl (fun hb => ?_) (fun hb => ?_)
        · have h20 := cT h15 hb
          refine go hΓ 8 rfl ?_
          obtain ⟨v21, hv21, h22⟩ := bi_ok h20
          obtain rfl := Option.some.inj h22
          obtain rfl := hout9 _ rfl
          obtain rfl := Option.some.inj h5
          refine go hΓ 4 rfl ?_
          obtain rfl := Option.some.inj hv21
          exact fin_pure hΓ (.inr rfl) rfl rfl
        · have h23 := cF h15 hb
          refine go hΓ 8 rfl ?_
          obtain rfl := Option.some.inj h23
          exact ⟨_, rfl, ⟨⟨rfl, rfl, trivial⟩, [], rfl, .inl rfl⟩⟩
    · have h24 := cF hy8 hb
      refine go hΓ 4 rfl ?_
      obtain rfl := Option.some.inj h24
      obtain rfl := hout9 _ rfl
      exact ⟨_, rfl, ⟨⟨rfl, trivial⟩, [], rfl, .inl rfl⟩⟩
  · intro a6 ha
    subst ha
    replace h5 := orI_l h5
    obtain ⟨y25, hy25, h26⟩ := bi_ok h5
    refine go hΓ 4 rfl ?_
    refine eo_callP (callable Tryz.func251 rfl rfl) (c_utf8_ValidString hy25) rfl (Nat.le_of_ble_eq_true rfl) rfl rfl rfl rfl rfl ?_
    refine go_ops hΓ 1 rfl ?_
    obtain ⟨q27, hq27, h28⟩ := bi_ok h26
    refine o_cut 5 [(0, S s), (27, B q27)] [] ?_ ?_
    · refine eo_gsplit rfl rfl (fun hb => ?_) (fun hb => ?_)
      · have h29 := cT hq27 hb
        obtain ⟨y30, hy30, h31⟩ := bi_ok h29
        refine go_ops hΓ 1 rfl ?_
        refine eo_guard rfl ?_
        refine eo_callP (callable Tryz.func193 rfl rfl) (c_strings_Trim hy30) rfl (Nat.le_of_ble_eq_true rfl) rfl rfl rfl rfl rfl ?_
        refine go_ops hΓ 4 rfl ?_
        obtain rfl := Option.some.inj h31
        exact ⟨⟨rfl, rfl, trivial⟩, [], rfl, .inl rfl⟩
      · have h32 := cF hq27 hb
        refine go_ops hΓ 6 rfl ?_
        obtain rfl := Option.some.inj h32
        exact ⟨⟨rfl, rfl, trivial⟩, [], rfl, .inl rfl⟩
    · refine go_ops hΓ 1 rfl ?_
      obtain ⟨q33, hq33, h34⟩ := bi_ok h28
      refine o_cut 4 [(32, B q33)] [] ?_ ?_
      · refine eo_gsplit rfl rfl (fun hb => ?_) (fun hb => ?_)
        · have h35 := cT hq33 hb
          obtain ⟨y36, hy36, h37⟩ := bi_ok h35
          refine go_ops hΓ 1 rfl ?_
          refine eo_guard rfl ?_
          refine eo_callP (callable Tryz.func189 rfl rfl) (c_strings_Contains hy36) rfl (Nat.le_of_ble_eq_true rfl) rfl rfl rfl rfl rfl ?_
          refine go_ops hΓ 3 rfl ?_
          obtain rfl := Option.some.inj h37
          exact ⟨⟨rfl, trivial⟩, [], rfl, .inl rfl⟩
        · have h38 := cF hq33 hb
          refine go_ops hΓ 5 rfl ?_
          obtain rfl := Option.some.inj h38
          exact ⟨⟨rfl, trivial⟩, [], rfl, .inl rfl⟩
      · refine go_ops hΓ 4 rfl ?_
        obtain rfl := Option.some.inj h34
        exact fin_pure hΓ (.inr rfl) rfl rfl
set_option maxHeartbeats 8000000 in
theorem c_name_recordFault {k : Nat} {v_r : T_api_Record} {r : Int} (h : m_name_recordFault k v_r = some r) : Pure Tryz.prog 126 [.agg [S v_r.Name, I v_r.Kind, B v_r.Addr.Six, U v_r.Addr.Hi, U v_r.Addr.Lo, S v_r.To, S v_r.Words, I v_r.Life]] (I r) := by
  refine Pure.enter (Fr.of 0 _) Tryz.func126 rfl (Fr.of_ok _) rfl rfl ?_
  refine go_in ?_
  unfold m_name_recordFault at h
  refine go hΓ 2 rfl ?_
  refine eo_box rfl rfl rfl rfl (Nat.le_of_ble_eq_true rfl) ?_
  obtain ⟨y1, hy1, h2⟩ := bi_ok h
  refine go_ops hΓ 9 rfl ?_
  refine eo_callP (callable Tryz.func175 rfl rfl) (c_name_bare hy1) rfl (Nat.le_of_ble_eq_true rfl) rfl rfl rfl rfl rfl ?_
  obtain ⟨y3, hy3, h4⟩ := bi_ok h2
  refine eo_callP (callable Tryz.func102 rfl rfl) (c_name_CheckDomain hy3) rfl (Nat.le_of_ble_eq_true rfl) rfl rfl rfl rfl rfl ?_
  refine go_ops hΓ 2 rfl ?_
  refine o_cut 5 [(1, .ptr 0 0), (14, B (((y3 : Int) != 0) || (decide (((v_r.Name.length : Int) : Int) > 253))))] [.box 80 [S v_r.Name, I v_r.Kind, B v_r.Addr.Six, U v_r.Addr.Hi, U v_r.Addr.Lo, S v_r.To, S v_r.Words, I v_r.Life]] ?_ ?_
  · refine eo_gsplit rfl rfl (fun hb => ?_) (fun hb => ?_)
    · refine go_ops hΓ 6 rfl ?_
      exact ⟨⟨rfl, get_b rfl (or_t hb), trivial⟩, [], rfl, .inl rfl⟩
    · refine go_ops hΓ 6 rfl ?_
      exact ⟨⟨rfl, get_b rfl (or_f hb), trivial⟩, [], rfl, .inl rfl⟩
  · refine go_ops hΓ 3 rfl ?_
    refine j_cond rfl (fun hb => ?_) (fun hb => ?_)
    · have h5 := cT h4 hb
      refine go hΓ 8 rfl ?_
      obtain rfl := Option.some.inj h5
      exact fin_pure hΓ (.inr rfl) rfl rfl
    · have h6 := cF h4 hb
      obtain ⟨y7, hy7, h8⟩ := bi_ok h6
      refine go hΓ 4 rfl ?_
      refine eo_callP (callable Tryz.func219 rfl rfl) (c_name_isKind hy7) rfl (Nat.le_of_ble_eq_true rfl) rfl rfl rfl rfl rfl ?_
      refine go_ops hΓ 4 rfl ?_
      refine j_cond rfl (fun hb => ?_) (fun hb => ?_)
      · have h9 := cT h8 hb
        refine go hΓ 8 rfl ?_
        obtain rfl := Option.some.inj h9
        exact fin_pure hΓ (.inr rfl) rfl rfl
      · have h10 := cF h8 hb
        obtain ⟨y11, hy11, h12⟩ := bi_ok h10
        refine go hΓ 4 rfl ?_
        refine eo_callP (callable Tryz.func84 rfl rfl) (c_name_hasAddr hy11) rfl (Nat.le_of_ble_eq_true rfl) rfl rfl rfl rfl rfl ?_
        refine go_ops hΓ 1 rfl ?_
        obtain ⟨q13, hq13, h14⟩ := bi_ok h12
        refine o_cut 14 [(1, .ptr 0 0), (38, B q13)] [.box 80 [S v_r.Name, I v_r.Kind, B v_r.Addr.Six, U v_r.Addr.Hi, U v_r.Addr.Lo, S v_r.To, S v_r.Words, I v_r.Life]] ?_ ?_
        · refine eo_gsplit rfl rfl (fun hb => ?_) (fun hb => ?_)
          · have h15 := cT hq13 hb
            refine go_ops hΓ 8 rfl ?_
            obtain ⟨q16, hq16, h17⟩ := bi_ok h15
            refine o_cut 5 [(1, .ptr 0 0), (24, B true), (37, B q16)] [.box 80 [S v_r.Name, I v_r.Kind, B v_r.Addr.Six, U v_r.Addr.Hi, U v_r.Addr.Lo, S v_r.To, S v_r.Words, I v_r.Life]] ?_ ?_
            · refine eo_gsplit rfl rfl (fun hb => ?_) (fun hb => ?_)
              · have h18 := cT hq16 hb
                refine go_ops hΓ 6 rfl ?_
                obtain rfl := Option.some.inj h18
                exact ⟨⟨rfl, rfl, rfl, trivial⟩, [], rfl, .inl rfl⟩
              · have h19 := cF hq16 hb
                obtain ⟨y20, hy20, h21⟩ := bi_ok h19
                refine go_ops hΓ 2 rfl ?_
                refine eo_guard rfl ?_
                refine eo_callP (callable Tryz.func177 rfl rfl) (c_addr_CheckAddr hy20) rfl (Nat.le_of_ble_eq_true rfl) rfl rfl rfl rfl rfl ?_
                refine go_ops hΓ 3 rfl ?_
                obtain rfl := Option.some.inj h21
                exact ⟨⟨rfl, rfl, rfl, trivial⟩, [], rfl, .inl rfl⟩
            · refine go_ops hΓ 2 rfl ?_
              obtain rfl := Option.some.inj h17
              exact ⟨⟨rfl, rfl, trivial⟩, [], rfl, .inl rfl⟩
          · have h22 := cF hq13 hb
            refine go_ops hΓ 15 rfl ?_
            obtain rfl := Option.some.inj h22
            exact ⟨⟨rfl, rfl, trivial⟩, [], rfl, .inl rfl⟩
        · refine go_ops hΓ 3 rfl ?_
          refine j_cond rfl (fun hb => ?_) (fun hb => ?_)
          · have h23 := cT h14 hb
            refine go hΓ 8 rfl ?_
            obtain rfl := Option.some.inj h23
            exact fin_pure hΓ (.inr rfl) rfl rfl
          · have h24 := cF h14 hb
            obtain ⟨y25, hy25, h26⟩ := bi_ok h24
            refine go hΓ 4 rfl ?_
            refine eo_callP (callable Tryz.func84 rfl rfl) (c_name_hasAddr hy25) rfl (Nat.le_of_ble_eq_true rfl) rfl rfl rfl rfl rfl ?_
            refine go_ops hΓ 2 rfl ?_
            refine o_cut 5 [(1, .ptr 0 0), (49, B ((!y25) && (!(((v_r.Addr.Six : Bool) == false) && (((v_r.Addr.Hi : Int) == 0) && (((v_r.Addr.Lo : Int) == 0) && true))))))] [.box 80 [S v_r.Name, I v_r.Kind, B v_r.Addr.Six, U v_r.Addr.Hi, U v_r.Addr.Lo, S v_r.To, S v_r.Words, I v_r.Life]] ?_ ?_
            · refine eo_gsplit rfl rfl (fun hb => ?_) (fun hb => ?_)
              · refine go_ops hΓ 2 rfl ?_
                refine eo_guard rfl ?_
                refine eo_build hΓ (gs := [B false, U 0, U 0]) rfl rfl rfl rfl rfl rfl rfl ?_
                refine eo_guard rfl ?_
                refine eo_o rfl (op_neS hΓ [39] (b := (((v_r.Addr.Six : Bool) == false) && (((v_r.Addr.Hi : Int) == 0) && (((v_r.Addr.Lo : Int) == 0) && true)))) (by kernel_rfl) (by kernel_rfl) rfl rfl rfl) ?_
                refine go_ops hΓ 2 rfl ?_
                exact ⟨⟨rfl, get_b rfl (and_t hb), trivial⟩, [], rfl, .inl rfl⟩
              · refine go_ops hΓ 6 rfl ?_
                exact ⟨⟨rfl, get_b rfl (and_f hb), trivial⟩, [], rfl, .inl rfl⟩
            · refine go_ops hΓ 3 rfl ?_
              refine j_cond rfl (fun hb => ?_) (fun hb => ?_)
              · have h27 := cT h26 hb
                refine go hΓ 8 rfl ?_
                obtain rfl := Option.some.inj h27
                exact fin_pure hΓ (.inr rfl) rfl rfl
              · have h28 := cF h26 hb
                obtain ⟨y29, hy29, h30⟩ := bi_ok h28
                refine go hΓ 4 rfl ?_
                refine eo_callP (callable Tryz.func188 rfl rfl) (c_name_hasName hy29) rfl (Nat.le_of_ble_eq_true rfl) rfl rfl rfl rfl rfl ?_
                refine go_ops hΓ 1 rfl ?_
                obtain ⟨q31, hq31, h32⟩ := bi_ok h30
                refine o_cut 5 [(1, .ptr 0 0), (59, B q31)] [.box 80 [S v_r.Name, I v_r.Kind, B v_r.Addr.Six, U v_r.Addr.Hi, U v_r.Addr.Lo, S v_r.To, S v_r.Words, I v_r.Life]] ?_ ?_
                · refine eo_gsplit rfl rfl (fun hb => ?_) (fun hb => ?_)
                  · have h33 := cT hq31 hb
                    obtain ⟨y34, hy34, h35⟩ := bi_ok h33
                    refine go_ops hΓ 2 rfl ?_
                    refine eo_guard rfl ?_
                    refine eo_callP (callable Tryz.func102 rfl rfl) (c_name_CheckDomain hy34) rfl (Nat.le_of_ble_eq_true rfl) rfl rfl rfl rfl rfl ?_
                    refine go_ops hΓ 3 rfl ?_
                    obtain rfl := Option.some.inj h35
                    exact ⟨⟨rfl, rfl, trivial⟩, [], rfl, .inl rfl⟩
                  · have h36 := cF hq31 hb
                    refine go_ops hΓ 6 rfl ?_
                    obtain rfl := Option.some.inj h36
                    exact ⟨⟨rfl, rfl, trivial⟩, [], rfl, .inl rfl⟩
                · refine go_ops hΓ 3 rfl ?_
                  refine j_cond rfl (fun hb => ?_) (fun hb => ?_)
                  · have h37 := cT h32 hb
                    refine go hΓ 8 rfl ?_
                    obtain rfl := Option.some.inj h37
                    exact fin_pure hΓ (.inr rfl) rfl rfl
                  · have h38 := cF h32 hb
                    obtain ⟨y39, hy39, h40⟩ := bi_ok h38
                    refine go hΓ 4 rfl ?_
                    refine eo_callP (callable Tryz.func188 rfl rfl) (c_name_hasName hy39) rfl (Nat.le_of_ble_eq_true rfl) rfl rfl rfl rfl rfl ?_
                    refine go_ops hΓ 2 rfl ?_
                    refine o_cut 4 [(1, .ptr 0 0), (69, B ((!y39) && (!((v_r.To : Str) == []))))] [.box 80 [S v_r.Name, I v_r.Kind, B v_r.Addr.Six, U v_r.Addr.Hi, U v_r.Addr.Lo, S v_r.To, S v_r.Words, I v_r.Life]] ?_ ?_
                    · refine eo_gsplit rfl rfl (fun hb => ?_) (fun hb => ?_)
                      · refine go_ops hΓ 5 rfl ?_
                        exact ⟨⟨rfl, get_b rfl (and_t hb), trivial⟩, [], rfl, .inl rfl⟩
                      · refine go_ops hΓ 5 rfl ?_
                        exact ⟨⟨rfl, get_b rfl (and_f hb), trivial⟩, [], rfl, .inl rfl⟩
                    · refine go_ops hΓ 3 rfl ?_
                      refine j_cond rfl (fun hb => ?_) (fun hb => ?_)
                      · have h41 := cT h40 hb
                        refine go hΓ 8 rfl ?_
                        obtain rfl := Option.some.inj h41
                        exact fin_pure hΓ (.inr rfl) rfl rfl
                      · have h42 := cF h40 hb
                        refine go hΓ 6 rfl ?_
                        obtain ⟨q43, hq43, h44⟩ := bi_ok h42
                        refine o_cut 11 [(1, .ptr 0 0), (85, B q43)] [.box 80 [S v_r.Name, I v_r.Kind, B v_r.Addr.Six, U v_r.Addr.Hi, U v_r.Addr.Lo, S v_r.To, S v_r.Words, I v_r.Life]] ?_ ?_
                        · refine eo_gsplit rfl rfl (fun hb => ?_) (fun hb => ?_)
                          · have h45 := cT hq43 hb
                            obtain ⟨y46, hy46, h47⟩ := bi_ok h45
                            refine go_ops hΓ 2 rfl ?_
                            refine eo_guard rfl ?_
                            refine eo_callP (callable Tryz.func220 rfl rfl) (c_kit_IsPlain hy46) rfl (Nat.le_of_ble_eq_true rfl) rfl rfl rfl rfl rfl ?_
                            refine go_ops hΓ 2 rfl ?_
                            refine o_cut 5 [(1, .ptr 0 0), (74, B true), (84, B ((!y46) || (decide (((v_r.Words.length : Int) : Int) > 200))))] [.box 80 [S v_r.Name, I v_r.Kind, B v_r.Addr.Six, U v_r.Addr.Hi, U v_r.Addr.Lo, S v_r.To, S v_r.Words, I v_r.Life]] ?_ ?_
                            · refine eo_gsplit rfl rfl (fun hb => ?_) (fun hb => ?_)
                              · refine go_ops hΓ 6 rfl ?_
                                exact ⟨⟨rfl, rfl, get_b rfl (or_t hb), trivial⟩, [], rfl, .inl rfl⟩
                              · refine go_ops hΓ 6 rfl ?_
                                exact ⟨⟨rfl, rfl, get_b rfl (or_f hb), trivial⟩, [], rfl, .inl rfl⟩
                            · refine go_ops hΓ 2 rfl ?_
                              obtain rfl := Option.some.inj h47
                              exact ⟨⟨rfl, rfl, trivial⟩, [], rfl, .inl rfl⟩
                          · have h48 := cF hq43 hb
                            refine go_ops hΓ 12 rfl ?_
                            obtain rfl := Option.some.inj h48
                            exact ⟨⟨rfl, rfl, trivial⟩, [], rfl, .inl rfl⟩
                        · refine go_ops hΓ 1 rfl ?_
                          refine o_cut 9 [(1, .ptr 0 0), (95, B (q43 || (((v_r.Kind : Int) != 16) && (!((v_r.Words : Str) == [])))))] [.box 80 [S v_r.Name, I v_r.Kind, B v_r.Addr.Six, U v_r.Addr.Hi, U v_r.Addr.Lo, S v_r.To, S v_r.Words, I v_r.Life]] ?_ ?_
                          · refine eo_gsplit rfl rfl (fun hb => ?_) (fun hb => ?_)
                            · refine go_ops hΓ 10 rfl ?_
                              exact ⟨⟨rfl, get_b rfl (or_t hb), trivial⟩, [], rfl, .inl rfl⟩
                            · refine go_ops hΓ 4 rfl ?_
                              refine o_cut 4 [(1, .ptr 0 0), (86, B false), (94, B (((v_r.Kind : Int) != 16) && (!((v_r.Words : Str) == []))))] [.box 80 [S v_r.Name, I v_r.Kind, B v_r.Addr.Six, U v_r.Addr.Hi, U v_r.Addr.Lo, S v_r.To, S v_r.Words, I v_r.Life]] ?_ ?_
                              · refine eo_gsplit rfl rfl (fun hb => ?_) (fun hb => ?_)
                                · refine go_ops hΓ 5 rfl ?_
                                  exact ⟨⟨rfl, rfl, get_b rfl (and_t hb), trivial⟩, [], rfl, .inl rfl⟩
                                · refine go_ops hΓ 5 rfl ?_
                                  exact ⟨⟨rfl, rfl, get_b rfl (and_f hb), trivial⟩, [], rfl, .inl rfl⟩
                              · refine go_ops hΓ 2 rfl ?_
                                exact ⟨⟨rfl, get_b rfl (or_f hb), trivial⟩, [], rfl, .inl rfl⟩
                          · refine go_ops hΓ 3 rfl ?_
                            refine j_cond rfl (fun hb => ?_) (fun hb => ?_)
                            · have h49 := cT h44 hb
                              refine go hΓ 8 rfl ?_
                              obtain rfl := Option.some.inj h49
                              exact fin_pure hΓ (.inr rfl) rfl rfl
                            · have h50 := cF h44 hb
                              obtain ⟨y51, hy51, h52⟩ := bi_ok h50
                              refine go hΓ 4 rfl ?_
                              refine eo_callP (callable Tryz.func123 rfl rfl) (c_kit_Outside hy51) rfl (Nat.le_of_ble_eq_true rfl) rfl rfl rfl rfl rfl ?_
                              refine go_ops hΓ 3 rfl ?_
                              refine j_cond rfl (fun hb => ?_) (fun hb => ?_)
                              · have h53 := cT h52 hb
                                refine go hΓ 8 rfl ?_
                                obtain rfl := Option.some.inj h53
                                exact fin_pure hΓ (.inr rfl) rfl rfl
                              · have h54 := cF h52 hb
                                refine go hΓ 9 rfl ?_
                                obtain rfl := Option.some.inj h54
                                exact fin_pure hΓ (.inr rfl) rfl rfl
theorem c_name_Cache_pass_1 {v_k : T_name_kept} {x : Int} {r : Bool} (h : m_name_Cache_pass_1 v_k x = some r) : EC Tryz.prog 221 [.agg [S v_k.asking.name, I v_k.asking.kind, I v_k.put, I v_k.life, I v_k.used, .d (Sl e_api_Record v_k.list)], .ptr 0 0] [.box 3 [I x]] fun g hp' => g = B r ∧ hp' = [.box 3 [I x]] := by
  refine ec_enter (Fr.of 0 _) Tryz.func221 rfl (Fr.of_ok _) (Nat.le_of_ble_eq_true rfl) fun _ => ?_
  refine go_in ?_
  unfold m_name_Cache_pass_1 at h
  refine go hΓ 2 rfl ?_
  refine eo_box rfl rfl rfl rfl (Nat.le_of_ble_eq_true rfl) ?_
  refine go_ops hΓ 16 rfl ?_
  obtain rfl := Option.some.inj h
  exact fin_objs hΓ [_] (.inr rfl) rfl rfl rfl rfl (.inr ⟨HB.mk rfl, rfl⟩)
theorem c_slices_IndexFunc_name_kept_name_kept {s : List T_name_kept} {f : Int} {r : Int} (h : m_slices_IndexFunc_name_kept_name_kept s f = some r) : EC Tryz.prog 140 [.sl 0 s.length, .fn (.func 221) [] [.ptr 1 0]] [.row 177 6 s.length (s.flatMap e_name_kept), .box 3 [I f]] fun g hp' => g = I r ∧ hp' = [.row 177 6 s.length (s.flatMap e_name_kept), .box 3 [I f]] := by
  refine ec_enter (Fr.of 0 _) Tryz.func140 rfl (Fr.of_ok _) (Nat.le_of_ble_eq_true rfl) fun _ => ?_
  refine go_in ?_
  unfold m_slices_IndexFunc_name_kept_name_kept at h
  refine go hΓ 13 rfl ?_
  obtain ⟨q4, hq4, h5⟩ := bi_ok h
  obtain ⟨hb7, h8⟩ := gd_ok hq4
  replace hb7 := of_decide_eq_true hb7
  refine j_cutEZ (R := fun a6 => q4 = .go a6) (fun a6 => []) (fun a6 => [.row 177 6 s.length (s.flatMap e_name_kept), .box 3 [I f]]) ?_ ?_
  · refine go hΓ 1 rfl ?_
    refine j_rangeI h8 (fun i1 s2 => [(0, .sl 0 s.length), (1, .fn (.func 221) [] [.ptr 1 0]), (7, I (s.length : Int)), (8, I (i1 : Int))]) (fun s2 => [.row 177 6 s.length (s.flatMap e_name_kept), .box 3 [I f]]) ⟨⟨rfl, rfl, rfl, rfl, trivial⟩, [], rfl, .inl rfl⟩ (fun i1 s2 y12 hlt hy10 hout11 => ?_) (fun s2 hgo hge => ?_)
    · refine go hΓ 6 rfl ?_
      refine j_condT rfl (decide_eq_true hlt) ?_
      obtain ⟨x13, hx13, h14⟩ := bi_ok hy10
      have hj15 := getZ_at hx13
      refine go hΓ 15 rfl ?_
      refine eo_o rfl (op_elemRowZ hΓ hx13 rfl rfl rfl rfl rfl rfl) ?_
      refine eo_o rfl (op_loadRowZ hΓ (enc := e_name_kept) ((i1 : Int).toNat) 0 hj15 rfl rfl rfl rfl (fun _ => rfl) (g := .agg [S x13.asking.name, I x13.asking.kind, I x13.put, I x13.life, I x13.used, .d (Sl e_api_Record x13.list)]) rfl) ?_
      obtain ⟨y16, hy16, h17⟩ := bi_ok h14
      refine eo_callF [1] (B y16) [.row 177 6 s.length (s.flatMap e_name_kept), .box 3 [I f]] (callable Tryz.func221 rfl rfl) (c_name_Cache_pass_1 hy16) rfl (Nat.le_of_ble_eq_true rfl) rfl rfl rfl rfl rfl rfl rfl rfl rfl rfl ?_
      refine go_ops hΓ 2 rfl ?_
      refine j_cond rfl (fun hb => ?_) (fun hb => ?_)
      · have h18 := cT h17 hb
        refine go hΓ 9 rfl ?_
        obtain ⟨v19, hv19, h20⟩ := bi_ok h18
        obtain rfl := Option.some.inj h20
        obtain rfl := hout11 _ rfl
        obtain rfl := Option.some.inj h5
        refine go hΓ 4 rfl ?_
        obtain rfl := Option.some.inj hv19
        exact fin_objs hΓ [] (.inr rfl) rfl rfl rfl rfl (.inl rfl)
      · have h21 := cF h17 hb
        refine go hΓ 7 rfl ?_
        obtain rfl := Option.some.inj h21
        exact ⟨_, rfl, ⟨⟨rfl, rfl, rfl, get_eq rfl (w64_succ (by omega)), trivial⟩, [], rfl, .inl rfl⟩⟩
    · subst hgo
      refine go hΓ 6 rfl ?_
      refine j_condF rfl (decide_eq_false hge) ?_
      refine go hΓ 4 rfl ?_
      exact ⟨_, rfl, ⟨trivial, [], rfl, .inl rfl⟩⟩
  · intro a6 ha
    subst ha
    replace h5 := goI_l h5
    refine go hΓ 7 rfl ?_
    obtain rfl := Option.some.inj h5
    exact fin_objs hΓ [] (.inr rfl) rfl rfl rfl rfl (.inl rfl)
set_option maxHeartbeats 8000000 in
theorem c_slices_DeleteFunc_name_kept_name_kept {k : Nat} {s : List T_name_kept} {f : Int} {r : List T_name_kept} (h : m_slices_DeleteFunc_name_kept_name_kept k s f = some r) : EC Tryz.prog 128 [.sl 0 s.length, .fn (.func 221) [] [.ptr 1 0]] [.row 177 6 s.length (s.flatMap e_name_kept), .box 3 [I f]] fun g hp' => g = .sl 0 r.length ∧ hp' = [.row 177 6 r.length (r.flatMap e_name_kept), .box 3 [I f]] := by
  refine ec_enter (Fr.of 0 _) Tryz.func128 rfl (Fr.of_ok _) (Nat.le_of_ble_eq_true rfl) fun _ => ?_
  refine go_in ?_
  unfold m_slices_DeleteFunc_name_kept_name_kept at h
  refine go hΓ 2 rfl ?_
  refine eo_nilOwn (t := 0) 177 6 rfl (Nat.le_of_ble_eq_true rfl) ?_
  obtain ⟨y1, hy1, h2⟩ := bi_ok h
  refine go_ops hΓ 6 rfl ?_
  refine eo_callF [0, 1] (I y1) [.row 177 6 s.length (s.flatMap e_name_kept), .box 3 [I f], .row 177 6 ([] : List T_name_kept).length (([] : List T_name_kept).flatMap e_name_kept)] (callable Tryz.func140 rfl rfl) (c_slices_IndexFunc_name_kept_name_kept hy1) rfl (Nat.le_of_ble_eq_true rfl) rfl rfl rfl rfl rfl rfl rfl rfl rfl rfl ?_
  refine go_ops hΓ 10 rfl ?_
  refine j_cond rfl (fun hb => ?_) (fun hb => ?_)
  · have h3 := cT h2 hb
    refine go hΓ 8 rfl ?_
    obtain rfl := Option.some.inj h3
    exact fin_objs hΓ [_] (.inr rfl) rfl rfl rfl rfl (.inr ⟨HB.mk rfl, rfl⟩)
  · have h4 := cF h2 hb
    refine go hΓ 10 rfl ?_
    obtain ⟨q8, hq8, h9⟩ := bi_ok h4
    refine j_cutNZ [(0, .sl 0 q8.1.length), (5, I q8.2)] [.row 177 6 q8.1.length (q8.1.flatMap e_name_kept), .box 3 [I f], .row 177 6 ([] : List T_name_kept).length (([] : List T_name_kept).flatMap e_name_kept)] ?_ ?_
    · refine go hΓ 1 rfl ?_
      refine j_loop hq8 (fun s6 => [(0, .sl 0 s6.1.length), (1, .fn (.func 221) [] [.ptr 1 0]), (5, I s6.2.1), (6, I s6.2.2)]) (fun s6 => [.row 177 6 s6.1.length (s6.1.flatMap e_name_kept), .box 3 [I f], .row 177 6 ([] : List T_name_kept).length (([] : List T_name_kept).flatMap e_name_kept)]) ⟨⟨rfl, rfl, rfl, rfl, trivial⟩, [], rfl, .inl rfl⟩ (fun s6 y14 hy12 hout13 => ?_)
      refine go hΓ 9 rfl ?_
      refine j_cond rfl (fun hb => ?_) (fun hb => ?_)
      · have h15 := cT hy12 hb
        obtain ⟨x16, hx16, h17⟩ := bi_ok h15
        have hj18 := getZ_at hx16
        refine go hΓ 8 rfl ?_
        refine eo_o rfl (op_elemRowZ hΓ hx16 rfl rfl rfl rfl rfl rfl) ?_
        refine eo_o rfl (op_loadRowZ hΓ (enc := e_name_kept) s6.2.2.toNat 0 hj18 rfl rfl rfl rfl (fun _ => rfl) (g := .agg [S x16.asking.name, I x16.asking.kind, I x16.put, I x16.life, I x16.used, .d (Sl e_api_Record x16.list)]) rfl) ?_
        refine eo_alloc hΓ rfl rfl rfl (Nat.le_of_ble_eq_true rfl) ?_
        refine eo_store hΓ rfl rfl rfl rfl rfl rfl rfl rfl (Nat.le_of_ble_eq_true rfl) ?_
        refine eo_hp [.row 177 6 s6.1.length (s6.1.flatMap e_name_kept), .box 3 [I f], .row 177 6 ([] : List T_name_kept).length (([] : List T_name_kept).flatMap e_name_kept), .box 177 [S x16.asking.name, I x16.asking.kind, I x16.put, I x16.life, I x16.used, .d (Sl e_api_Record x16.list)]] rfl ?_
        obtain ⟨y19, hy19, h20⟩ := bi_ok h17
        refine go_ops hΓ 6 rfl ?_
        refine eo_callF [1] (B y19) [.row 177 6 s6.1.length (s6.1.flatMap e_name_kept), .box 3 [I f], .row 177 6 ([] : List T_name_kept).length (([] : List T_name_kept).flatMap e_name_kept), .box 177 [S x16.asking.name, I x16.asking.kind, I x16.put, I x16.life, I x16.used, .d (Sl e_api_Record x16.list)]] (callable Tryz.func221 rfl rfl) (c_name_Cache_pass_1 hy19) rfl (Nat.le_of_ble_eq_true rfl) rfl rfl rfl rfl rfl rfl rfl rfl rfl rfl ?_
        refine go_ops hΓ 3 rfl ?_
        refine j_cond rfl (fun hb => ?_) (fun hb => ?_)
        · have h21 := cT h20 hb
          obtain ⟨x22, hx22, h23⟩ := bi_ok h21
          have hj24 := getZ_at hx22
          refine go hΓ 5 rfl ?_
          refine eo_o rfl (op_elemRowZ hΓ hx22 rfl rfl rfl rfl rfl rfl) ?_
          refine eo_storeRowZ hΓ (enc := e_name_kept) (z' := x16) s6.2.1.toNat 0 hj24 rfl rfl rfl rfl (fun _ => rfl) rfl rfl rfl rfl rfl rfl (Nat.le_of_ble_eq_true rfl) ?_
          refine eo_hp [.row 177 6 (s6.1.set s6.2.1.toNat x16).length ((s6.1.set s6.2.1.toNat x16).flatMap e_name_kept), .box 3 [I f], .row 177 6 ([] : List T_name_kept).length (([] : List T_name_kept).flatMap e_name_kept), .box 177 [S x16.asking.name, I x16.asking.kind, I x16.put, I x16.life, I x16.used, .d (Sl e_api_Record x16.list)]] rfl ?_
          refine eo_relen 0 (n' := (s6.1.set s6.2.1.toNat x16).length) rfl List.length_set.symm ?_
          refine go_ops hΓ 14 rfl ?_
          obtain rfl := Option.some.inj h23
          exact ⟨_, rfl, ⟨⟨rfl, rfl, rfl, rfl, trivial⟩, [_], rfl, .inr ⟨HB.mk rfl, FB.mk rfl, (Nat.le_of_ble_eq_true rfl)⟩⟩⟩
        · have h25 := cF h20 hb
          refine go hΓ 8 rfl ?_
          obtain rfl := Option.some.inj h25
          exact ⟨_, rfl, ⟨⟨rfl, rfl, rfl, rfl, trivial⟩, [_], rfl, .inr ⟨HB.mk rfl, FB.mk rfl, (Nat.le_of_ble_eq_true rfl)⟩⟩⟩
      · have h26 := cF hy12 hb
        refine go hΓ 4 rfl ?_
        obtain rfl := Option.some.inj h26
        obtain rfl := hout13 _ rfl
        exact ⟨⟨rfl, rfl, trivial⟩, [], rfl, .inl rfl⟩
    · obtain ⟨z27, hz27, h28⟩ := bi_ok h9
      refine go hΓ 5 rfl ?_
      refine eo_o rfl (op_viewI hΓ hz27 rfl rfl rfl rfl rfl rfl) ?_
      refine eo_s0 (Nat.le_of_ble_eq_true rfl) (ops_clearT hΓ (enc := e_name_kept) (a := q8.2) hz27 rfl rfl rfl rfl rfl rfl rfl rfl rfl rfl (fun _ => rfl)) ?_
      refine go_ops hΓ 6 rfl ?_
      refine eo_subCut hΓ hz27 rfl rfl rfl rfl rfl rfl rfl rfl ?_
      refine go_ops hΓ 4 rfl ?_
      obtain rfl := Option.some.inj h28
      exact fin_objs hΓ [_] (.inr rfl) rfl rfl rfl rfl (.inr ⟨HB.mk rfl, rfl⟩)
theorem c_name_Cache_pass {k : Nat} {c : T_name_Cache} {v_at : Int} {r : T_name_Cache} (h : m_name_Cache_pass k c v_at = some r) : EC Tryz.prog 127 [.ptr 1 0, I v_at] [.row 177 6 c.list.length (c.list.flatMap e_name_kept), .box 167 [I c.most, I c.now, I c.calls, .sl 0 c.list.length]] fun g hp' => g = .tup [] ∧ hp' = [.row 177 6 r.list.length (r.list.flatMap e_name_kept), .box 167 [I r.most, I r.now, I r.calls, .sl 0 r.list.length]] := by
  refine ec_enterC (Fr.of 0 _) Tryz.func127 rfl (Fr.of_ok _) (Nat.le_of_ble_eq_true rfl) fun _ => ?_
  refine go_in ?_
  unfold m_name_Cache_pass at h
  refine go hΓ 2 rfl ?_
  refine eo_box rfl rfl rfl rfl (Nat.le_of_ble_eq_true rfl) ?_
  refine go_ops hΓ 8 rfl ?_
  refine eo_store hΓ rfl rfl rfl rfl rfl rfl rfl rfl (Nat.le_of_ble_eq_true rfl) ?_
  refine eo_hp [.row 177 6 c.list.length (c.list.flatMap e_name_kept), .box 167 [I c.most, I v_at, I c.calls, .sl 0 c.list.length], .box 3 [I v_at]] rfl ?_
  refine go_ops hΓ 11 rfl ?_
  refine eo_store hΓ rfl rfl rfl rfl rfl rfl rfl rfl (Nat.le_of_ble_eq_true rfl) ?_
  refine eo_hp [.row 177 6 c.list.length (c.list.flatMap e_name_kept), .box 167 [I c.most, I v_at, I (wi (c.calls + 1)), .sl 0 c.list.length], .box 3 [I v_at]] rfl ?_
  obtain ⟨y1, hy1, h2⟩ := bi_ok h
  refine go_ops hΓ 9 rfl ?_
  refine eo_forg 0 [.row 177 6 c.list.length (c.list.flatMap e_name_kept), .box 167 [I c.most, I v_at, I (wi (c.calls + 1)), .junk], .box 3 [I v_at]] rfl (Nat.le_of_ble_eq_true rfl) ?_
  refine eo_callF [0, 2] (.sl 0 y1.length) [.row 177 6 y1.length (y1.flatMap e_name_kept), .box 167 [I c.most, I v_at, I (wi (c.calls + 1)), .junk], .box 3 [I v_at]] (callable Tryz.func128 rfl rfl) (c_slices_DeleteFunc_name_kept_name_kept hy1) rfl (Nat.le_of_ble_eq_true rfl) rfl rfl rfl rfl rfl rfl rfl rfl rfl rfl ?_
  refine go_ops hΓ 2 rfl ?_
  refine eo_store hΓ rfl rfl rfl rfl rfl rfl rfl rfl (Nat.le_of_ble_eq_true rfl) ?_
  refine eo_hp [.row 177 6 y1.length (y1.flatMap e_name_kept), .box 167 [I c.most, I v_at, I (wi (c.calls + 1)), .sl 0 y1.length], .box 3 [I v_at]] rfl ?_
  refine go_ops hΓ 1 rfl ?_
  refine cv_here ?_
  obtain rfl := Option.some.inj h2
  exact fin_objs hΓ [_] (.inl rfl) rfl rfl rfl rfl (.inr ⟨HB.mk rfl, rfl⟩)
theorem c_name_Cache_Put_1 {v_k : T_name_kept} {x : T_name_asking} {r : Bool} (h : m_name_Cache_Put_1 v_k x = some r) : EC Tryz.prog 129 [.agg [S v_k.asking.name, I v_k.asking.kind, I v_k.put, I v_k.life, I v_k.used, .d (Sl e_api_Record v_k.list)], .ptr 0 0] [.box 174 [S x.name, I x.kind]] fun g hp' => g = B r ∧ hp' = [.box 174 [S x.name, I x.kind]] := by
  refine ec_enter (Fr.of 0 _) Tryz.func129 rfl (Fr.of_ok _) (Nat.le_of_ble_eq_true rfl) fun _ => ?_
  refine go_in ?_
  unfold m_name_Cache_Put_1 at h
  refine go hΓ 2 rfl ?_
  refine eo_box rfl rfl rfl rfl (Nat.le_of_ble_eq_true rfl) ?_
  refine go_ops hΓ 8 rfl ?_
  refine eo_o rfl (op_eqS hΓ [174] (b := (((v_k.asking.name : Str) == x.name) && (((v_k.asking.kind : Int) == x.kind) && true))) (by kernel_rfl) (by kernel_rfl) rfl rfl rfl) ?_
  refine go_ops hΓ 4 rfl ?_
  obtain rfl := Option.some.inj h
  exact fin_objs hΓ [_] (.inr rfl) rfl rfl rfl rfl (.inr ⟨HB.mk rfl, rfl⟩)
theorem c_slices_IndexFunc_name_kept_name_kept_2 {s : List T_name_kept} {f : T_name_asking} {r : Int} (h : m_slices_IndexFunc_name_kept_name_kept_2 s f = some r) : EC Tryz.prog 140 [.sl 0 s.length, .fn (.func 129) [] [.ptr 1 0]] [.row 177 6 s.length (s.flatMap e_name_kept), .box 174 [S f.name, I f.kind]] fun g hp' => g = I r ∧ hp' = [.row 177 6 s.length (s.flatMap e_name_kept), .box 174 [S f.name, I f.kind]] := by
  refine ec_enter (Fr.of 0 _) Tryz.func140 rfl (Fr.of_ok _) (Nat.le_of_ble_eq_true rfl) fun _ => ?_
  refine go_in ?_
  unfold m_slices_IndexFunc_name_kept_name_kept_2 at h
  refine go hΓ 13 rfl ?_
  obtain ⟨q4, hq4, h5⟩ := bi_ok h
  obtain ⟨hb7, h8⟩ := gd_ok hq4
  replace hb7 := of_decide_eq_true hb7
  refine j_cutEZ (R := fun a6 => q4 = .go a6) (fun a6 => []) (fun a6 => [.row 177 6 s.length (s.flatMap e_name_kept), .box 174 [S f.name, I f.kind]]) ?_ ?_
  · refine go hΓ 1 rfl ?_
    refine j_rangeI h8 (fun i1 s2 => [(0, .sl 0 s.length), (1, .fn (.func 129) [] [.ptr 1 0]), (7, I (s.length : Int)), (8, I (i1 : Int))]) (fun s2 => [.row 177 6 s.length (s.flatMap e_name_kept), .box 174 [S f.name, I f.kind]]) ⟨⟨rfl, rfl, rfl, rfl, trivial⟩, [], rfl, .inl rfl⟩ (fun i1 s2 y12 hlt hy10 hout11 => ?_) (fun s2 hgo hge => ?_)
    · refine go hΓ 6 rfl ?_
      refine j_condT rfl (decide_eq_true hlt) ?_
      obtain ⟨x13, hx13, h14⟩ := bi_ok hy10
      have hj15 := getZ_at hx13
      refine go hΓ 15 rfl ?_
      refine eo_o rfl (op_elemRowZ hΓ hx13 rfl rfl rfl rfl rfl rfl) ?_
      refine eo_o rfl (op_loadRowZ hΓ (enc := e_name_kept) ((i1 : Int).toNat) 0 hj15 rfl rfl rfl rfl (fun _ => rfl) (g := .agg [S x13.asking.name, I x13.asking.kind, I x13.put, I x13.life, I x13.used, .d (Sl e_api_Record x13.list)]) rfl) ?_
      obtain ⟨y16, hy16, h17⟩ := bi_ok h14
      refine eo_callF [1] (B y16) [.row 177 6 s.length (s.flatMap e_name_kept), .box 174 [S f.name, I f.kind]] (callable Tryz.func129 rfl rfl) (c_name_Cache_Put_1 hy16) rfl (Nat.le_of_ble_eq_true rfl) rfl rfl rfl rfl rfl rfl rfl rfl rfl rfl ?_
      refine go_ops hΓ 2 rfl ?_
      refine j_cond rfl (fun hb => ?_) (fun hb => ?_)
      · have h18 := cT h17 hb
        refine go hΓ 9 rfl ?_
        obtain ⟨v19, hv19, h20⟩ := bi_ok h18
        obtain rfl := Option.some.inj h20
        obtain rfl := hout11 _ rfl
        obtain rfl := Option.some.inj h5
        refine go hΓ 4 rfl ?_
        obtain rfl := Option.some.inj hv19
        exact fin_objs hΓ [] (.inr rfl) rfl rfl rfl rfl (.inl rfl)
      · have h21 := cF h17 hb
        refine go hΓ 7 rfl ?_
        obtain rfl := Option.some.inj h21
        exact ⟨_, rfl, ⟨⟨rfl, rfl, rfl, get_eq rfl (w64_succ (by omega)), trivial⟩, [], rfl, .inl rfl⟩⟩
    · subst hgo
      refine go hΓ 6 rfl ?_
      refine j_condF rfl (decide_eq_false hge) ?_
      refine go hΓ 4 rfl ?_
      exact ⟨_, rfl, ⟨trivial, [], rfl, .inl rfl⟩⟩
  · intro a6 ha
    subst ha
    replace h5 := goI_l h5
    refine go hΓ 7 rfl ?_
    obtain rfl := Option.some.inj h5
    exact fin_objs hΓ [] (.inr rfl) rfl rfl rfl rfl (.inl rfl)
set_option maxHeartbeats 8000000 in
theorem c_slices_DeleteFunc_name_kept_name_kept_2 {k : Nat} {s : List T_name_kept} {f : T_name_asking} {r : List T_name_kept} (h : m_slices_DeleteFunc_name_kept_name_kept_2 k s f = some r) : EC Tryz.prog 128 [.sl 0 s.length, .fn (.func 129) [] [.ptr 1 0]] [.row 177 6 s.length (s.flatMap e_name_kept), .box 174 [S f.name, I f.kind]] fun g hp' => g = .sl 0 r.length ∧ hp' = [.row 177 6 r.length (r.flatMap e_name_kept), .box 174 [S f.name, I f.kind]] := by
  refine ec_enter (Fr.of 0 _) Tryz.func128 rfl (Fr.of_ok _) (Nat.le_of_ble_eq_true rfl) fun _ => ?_
  refine go_in ?_
  unfold m_slices_DeleteFunc_name_kept_name_kept_2 at h
  refine go hΓ 2 rfl ?_
  refine eo_nilOwn (t := 0) 177 6 rfl (Nat.le_of_ble_eq_true rfl) ?_
  obtain ⟨y1, hy1, h2⟩ := bi_ok h
  refine go_ops hΓ 6 rfl ?_
  refine eo_callF [0, 1] (I y1) [.row 177 6 s.length (s.flatMap e_name_kept), .box 174 [S f.name, I f.kind], .row 177 6 ([] : List T_name_kept).length (([] : List T_name_kept).flatMap e_name_kept)] (callable Tryz.func140 rfl rfl) (c_slices_IndexFunc_name_kept_name_kept_2 hy1) rfl (Nat.le_of_ble_eq_true rfl) rfl rfl rfl rfl rfl rfl rfl rfl rfl rfl ?_
  refine go_ops hΓ 10 rfl ?_
  refine j_cond rfl (fun hb => ?_) (fun hb => ?_)
  · have h3 := cT h2 hb
    refine go hΓ 8 rfl ?_
    obtain rfl := Option.some.inj h3
    exact fin_objs hΓ [_] (.inr rfl) rfl rfl rfl rfl (.inr ⟨HB.mk rfl, rfl⟩)
  · have h4 := cF h2 hb
    refine go hΓ 10 rfl ?_
    obtain ⟨q8, hq8, h9⟩ := bi_ok h4
    refine j_cutNZ [(0, .sl 0 q8.1.length), (5, I q8.2)] [.row 177 6 q8.1.length (q8.1.flatMap e_name_kept), .box 174 [S f.name, I f.kind], .row 177 6 ([] : List T_name_kept).length (([] : List T_name_kept).flatMap e_name_kept)] ?_ ?_
    · refine go hΓ 1 rfl ?_
      refine j_loop hq8 (fun s6 => [(0, .sl 0 s6.1.length), (1, .fn (.func 129) [] [.ptr 1 0]), (5, I s6.2.1), (6, I s6.2.2)]) (fun s6 => [.row 177 6 s6.1.length (s6.1.flatMap e_name_kept), .box 174 [S f.name, I f.kind], .row 177 6 ([] : List T_name_kept).length (([] : List T_name_kept).flatMap e_name_kept)]) ⟨⟨rfl, rfl, rfl, rfl, trivial⟩, [], rfl, .inl rfl⟩ (fun s6 y14 hy12 hout13 => ?_)
      refine go hΓ 9 rfl ?_
      refine j_cond rfl (fun hb => ?_) (fun hb => ?_)
      · have h15 := cT hy12 hb
        obtain ⟨x16, hx16, h17⟩ := bi_ok h15
        have hj18 := getZ_at hx16
        refine go hΓ 8 rfl ?_
        refine eo_o rfl (op_elemRowZ hΓ hx16 rfl rfl rfl rfl rfl rfl) ?_
        refine eo_o rfl (op_loadRowZ hΓ (enc := e_name_kept) s6.2.2.toNat 0 hj18 rfl rfl rfl rfl (fun _ => rfl) (g := .agg [S x16.asking.name, I x16.asking.kind, I x16.put, I x16.life, I x16.used, .d (Sl e_api_Record x16.list)]) rfl) ?_
        refine eo_alloc hΓ rfl rfl rfl (Nat.le_of_ble_eq_true rfl) ?_
        refine eo_store hΓ rfl rfl rfl rfl rfl rfl rfl rfl (Nat.le_of_ble_eq_true rfl) ?_
        refine eo_hp [.row 177 6 s6.1.length (s6.1.flatMap e_name_kept), .box 174 [S f.name, I f.kind], .row 177 6 ([] : List T_name_kept).length (([] : List T_name_kept).flatMap e_name_kept), .box 177 [S x16.asking.name, I x16.asking.kind, I x16.put, I x16.life, I x16.used, .d (Sl e_api_Record x16.list)]] rfl ?_
        obtain ⟨y19, hy19, h20⟩ := bi_ok h17
        refine go_ops hΓ 6 rfl ?_
        refine eo_callF [1] (B y19) [.row 177 6 s6.1.length (s6.1.flatMap e_name_kept), .box 174 [S f.name, I f.kind], .row 177 6 ([] : List T_name_kept).length (([] : List T_name_kept).flatMap e_name_kept), .box 177 [S x16.asking.name, I x16.asking.kind, I x16.put, I x16.life, I x16.used, .d (Sl e_api_Record x16.list)]] (callable Tryz.func129 rfl rfl) (c_name_Cache_Put_1 hy19) rfl (Nat.le_of_ble_eq_true rfl) rfl rfl rfl rfl rfl rfl rfl rfl rfl rfl ?_
        refine go_ops hΓ 3 rfl ?_
        refine j_cond rfl (fun hb => ?_) (fun hb => ?_)
        · have h21 := cT h20 hb
          obtain ⟨x22, hx22, h23⟩ := bi_ok h21
          have hj24 := getZ_at hx22
          refine go hΓ 5 rfl ?_
          refine eo_o rfl (op_elemRowZ hΓ hx22 rfl rfl rfl rfl rfl rfl) ?_
          refine eo_storeRowZ hΓ (enc := e_name_kept) (z' := x16) s6.2.1.toNat 0 hj24 rfl rfl rfl rfl (fun _ => rfl) rfl rfl rfl rfl rfl rfl (Nat.le_of_ble_eq_true rfl) ?_
          refine eo_hp [.row 177 6 (s6.1.set s6.2.1.toNat x16).length ((s6.1.set s6.2.1.toNat x16).flatMap e_name_kept), .box 174 [S f.name, I f.kind], .row 177 6 ([] : List T_name_kept).length (([] : List T_name_kept).flatMap e_name_kept), .box 177 [S x16.asking.name, I x16.asking.kind, I x16.put, I x16.life, I x16.used, .d (Sl e_api_Record x16.list)]] rfl ?_
          refine eo_relen 0 (n' := (s6.1.set s6.2.1.toNat x16).length) rfl List.length_set.symm ?_
          refine go_ops hΓ 14 rfl ?_
          obtain rfl := Option.some.inj h23
          exact ⟨_, rfl, ⟨⟨rfl, rfl, rfl, rfl, trivial⟩, [_], rfl, .inr ⟨HB.mk rfl, FB.mk rfl, (Nat.le_of_ble_eq_true rfl)⟩⟩⟩
        · have h25 := cF h20 hb
          refine go hΓ 8 rfl ?_
          obtain rfl := Option.some.inj h25
          exact ⟨_, rfl, ⟨⟨rfl, rfl, rfl, rfl, trivial⟩, [_], rfl, .inr ⟨HB.mk rfl, FB.mk rfl, (Nat.le_of_ble_eq_true rfl)⟩⟩⟩
      · have h26 := cF hy12 hb
        refine go hΓ 4 rfl ?_
        obtain rfl := Option.some.inj h26
        obtain rfl := hout13 _ rfl
        exact ⟨⟨rfl, rfl, trivial⟩, [], rfl, .inl rfl⟩
    · obtain ⟨z27, hz27, h28⟩ := bi_ok h9
      refine go hΓ 5 rfl ?_
      refine eo_o rfl (op_viewI hΓ hz27 rfl rfl rfl rfl rfl rfl) ?_
      refine eo_s0 (Nat.le_of_ble_eq_true rfl) (ops_clearT hΓ (enc := e_name_kept) (a := q8.2) hz27 rfl rfl rfl rfl rfl rfl rfl rfl rfl rfl (fun _ => rfl)) ?_
      refine go_ops hΓ 6 rfl ?_
      refine eo_subCut hΓ hz27 rfl rfl rfl rfl rfl rfl rfl rfl ?_
      refine go_ops hΓ 4 rfl ?_
      obtain rfl := Option.some.inj h28
      exact fin_objs hΓ [_] (.inr rfl) rfl rfl rfl rfl (.inr ⟨HB.mk rfl, rfl⟩)
theorem c_slices_Clone_api_Record_api_Record {s : List T_api_Record} {r : List T_api_Record} (h : m_slices_Clone_api_Record_api_Record s = some r) : EC Tryz.prog 130 [.d (Sl e_api_Record s)] [] fun g hp' => g = .sl 0 r.length ∧ hp' = [.row 80 8 r.length (r.flatMap e_api_Record)] := by
  refine ec_enterC (Fr.of 0 _) Tryz.func130 rfl (Fr.of_ok _) (Nat.le_of_ble_eq_true rfl) fun _ => ?_
  refine go_in ?_
  unfold m_slices_Clone_api_Record_api_Record at h
  refine go hΓ 2 rfl ?_
  refine eo_nilOwn (t := 0) 80 8 rfl (Nat.le_of_ble_eq_true rfl) ?_
  refine go_ops hΓ 6 rfl ?_
  refine eo_isNil hΓ rfl rfl rfl rfl rfl fun b hbn => ?_
  rcases b with _ | _
  · refine go_ops hΓ 7 rfl ?_
    refine eo_litRowT hΓ (enc := e_api_Record) ([] : List T_api_Record) rfl rfl rfl rfl rfl rfl rfl rfl rfl rfl rfl rfl (Nat.le_of_ble_eq_true rfl) ?_
    obtain ⟨y1, hy1, h2⟩ := bi_ok h
    refine go_ops hΓ 1 rfl ?_
    refine eo_appendT hΓ (enc := e_api_Record) hy1 rfl rfl rfl rfl rfl rfl rfl rfl rfl (fun _ => rfl) rfl rfl rfl rfl ?_
    refine go_ops hΓ 3 rfl ?_
    refine j_kill 0 [.dead, .row 80 8 y1.length (y1.flatMap e_api_Record)] rfl (Nat.le_of_ble_eq_true rfl) ?_
    refine j_move 1 0 [.row 80 8 y1.length (y1.flatMap e_api_Record), .dead] rfl rfl rfl rfl rfl rfl ?_
    refine go hΓ 1 rfl ?_
    refine cv_here ?_
    obtain rfl := Option.some.inj h2
    exact fin_objs hΓ [_] (.inr rfl) rfl rfl rfl rfl (.inr ⟨HB.mk rfl, rfl⟩)
  · obtain rfl := List.eq_nil_of_length_eq_zero (hbn rfl).1
    replace h : (some ([] : List T_api_Record) : Option (List T_api_Record)) = some r := h
    refine go_ops hΓ 5 rfl ?_
    refine eo_nilOwn (t := 0) 80 8 rfl (Nat.le_of_ble_eq_true rfl) ?_
    refine go_ops hΓ 4 rfl ?_
    refine cv_kill 0 [.dead, .row 80 8 ([] : List T_api_Record).length (([] : List T_api_Record).flatMap e_api_Record)] rfl (Nat.le_of_ble_eq_true rfl) ?_
    refine cv_move 1 0 [.row 80 8 ([] : List T_api_Record).length (([] : List T_api_Record).flatMap e_api_Record), .dead] rfl rfl rfl rfl rfl rfl ?_
    refine cv_here ?_
    obtain rfl := Option.some.inj h
    exact fin_objs hΓ [_] (.inr rfl) rfl rfl rfl rfl (.inr ⟨HB.mk rfl, rfl⟩)
theorem c_slices_Delete_name_kept_name_kept {s : List T_name_kept} {i : Int} {j : Int} {r : List T_name_kept} (h : m_slices_Delete_name_kept_name_kept s i j = some r) : EC Tryz.prog 131 [.sl 0 s.length, I i, I j] [.row 177 6 s.length (s.flatMap e_name_kept)] fun g hp' => g = .sl 0 r.length ∧ hp' = [.row 177 6 r.length (r.flatMap e_name_kept)] := by
  refine ec_enter (Fr.of 0 _) Tryz.func131 rfl (Fr.of_ok _) (Nat.le_of_ble_eq_true rfl) fun _ => ?_
  refine go_in ?_
  unfold m_slices_Delete_name_kept_name_kept at h
  refine go hΓ 2 rfl ?_
  refine eo_nilOwn (t := 0) 177 6 rfl (Nat.le_of_ble_eq_true rfl) ?_
  obtain ⟨z1, hz1, h2⟩ := bi_ok h
  refine go_ops hΓ 9 rfl ?_
  refine eo_o rfl (op_part3 hΓ hz1 rfl rfl rfl rfl rfl rfl rfl rfl rfl) ?_
  refine go_ops hΓ 10 rfl ?_
  refine j_cond rfl (fun hb => ?_) (fun hb => ?_)
  · have h3 := cT h2 hb
    refine go hΓ 8 rfl ?_
    obtain rfl := Option.some.inj h3
    exact fin_objs hΓ [_] (.inr rfl) rfl rfl rfl rfl (.inr ⟨HB.mk rfl, rfl⟩)
  · have h4 := cF h2 hb
    refine go hΓ 10 rfl ?_
    refine j_drawE [] [] [6] [] hmix (by kernel_rfl) (by kernel_rfl) trivial (Nat.le_of_ble_eq_true rfl) ?_
    obtain ⟨z5, hz5, h6⟩ := bi_ok h4
    refine go_E hΓ 2 rfl ?_
    refine ge_q rfl (.inl rfl) (fun _ _ => qte_of_qt (qt_p (op_frontZ hΓ hz5 rfl rfl rfl rfl rfl rfl rfl))) ?_
    obtain ⟨z7, hz7, h8⟩ := bi_ok h6
    refine go_E hΓ 2 rfl ?_
    refine ge_q rfl (.inl rfl) (fun _ _ => qte_of_qt (qt_p (op_viewI hΓ hz7 rfl rfl rfl rfl rfl rfl))) ?_
    refine ge_h [.row 177 6 (setAt s z5.length z7).length ((setAt s z5.length z7).flatMap e_name_kept), .row 177 6 ([] : List T_name_kept).length (([] : List T_name_kept).flatMap e_name_kept)] rfl rfl rfl (st_st trivial) (qte_s (ops_appendOwnT hΓ (enc := e_name_kept) (id := 0) (h2 := show Γ 177 = some ⟨_, 6, _, _⟩ from rfl) hz1 hz5 hz7 rfl rfl rfl rfl rfl rfl rfl rfl rfl (fun _ => rfl))) ?_
    refine go_E hΓ 1 rfl ?_
    refine ge_fin ?_
    refine go hΓ 7 rfl ?_
    refine eo_o rfl (op_pastT hΓ rfl rfl rfl rfl rfl rfl rfl rfl rfl rfl (by rw [(cut3 hz1 hz5 hz7).1]) (by rw [(cut3 hz1 hz5 hz7).1]; exact (cut3 hz1 hz5 hz7).2.1)) ?_
    refine eo_s0 (Nat.le_of_ble_eq_true rfl) (ops_clearPastT hΓ (enc := e_name_kept) (cut3 hz1 hz5 hz7).2.2 (by rw [(cut3 hz1 hz5 hz7).1]; exact (cut3 hz1 hz5 hz7).2.1) rfl rfl rfl rfl rfl rfl rfl rfl rfl rfl (fun _ => rfl)) ?_
    refine go_ops hΓ 9 rfl ?_
    obtain rfl := Option.some.inj h8
    exact fin_objs hΓ [_] (.inr rfl) rfl rfl rfl rfl (.inr ⟨HB.mk rfl, rfl⟩)
set_option maxHeartbeats 8000000 in
theorem c_name_Cache_Put {k : Nat} {c : T_name_Cache} {v_at : Int} {name : Str} {kind : Int} {l : List T_api_Record} {life : Int} {r : Int × T_name_Cache} (h : m_name_Cache_Put k c v_at name kind l life = some r) : EC Tryz.prog 42 [.ptr 1 0, I v_at, S name, I kind, .d (Sl e_api_Record l), I life] [.row 177 6 c.list.length (c.list.flatMap e_name_kept), .box 167 [I c.most, I c.now, I c.calls, .sl 0 c.list.length]] fun g hp' => g = I r.1 ∧ hp' = [.dead, .box 167 [I r.2.most, I r.2.now, I r.2.calls, .sl 2 r.2.list.length], .row 177 6 r.2.list.length (r.2.list.flatMap e_name_kept)] := by
  refine ec_enterC (Fr.of 0 _) Tryz.func42 rfl (Fr.of_ok _) (Nat.le_of_ble_eq_true rfl) fun _ => ?_
  refine go_in ?_
  unfold m_name_Cache_Put at h
  refine j_name (Nat.le_of_ble_eq_true rfl) ?_
  refine j_move 0 2 [.dead, .box 167 [I c.most, I c.now, I c.calls, .sl 2 c.list.length], .row 177 6 c.list.length (c.list.flatMap e_name_kept)] rfl rfl rfl rfl rfl rfl ?_
  obtain ⟨y1, hy1, h2⟩ := bi_ok h
  refine go hΓ 12 rfl ?_
  refine eo_callF [2, 1] (I y1) [.dead, .box 167 [I c.most, I c.now, I c.calls, .sl 2 c.list.length], .row 177 6 c.list.length (c.list.flatMap e_name_kept)] (callable Tryz.func125 rfl rfl) (c_name_Cache_nameFault hy1) rfl (Nat.le_of_ble_eq_true rfl) rfl rfl rfl rfl rfl rfl rfl rfl rfl rfl ?_
  refine go_ops hΓ 9 rfl ?_
  refine j_cond rfl (fun hb => ?_) (fun hb => ?_)
  · have h3 := cT h2 hb
    refine go hΓ 8 rfl ?_
    refine cv_here ?_
    obtain rfl := Option.some.inj h3
    exact fin_objs hΓ [] (.inr rfl) rfl rfl rfl rfl (.inl rfl)
  · have h4 := cF h2 hb
    refine go hΓ 10 rfl ?_
    refine j_cond rfl (fun hb => ?_) (fun hb => ?_)
    · have h5 := cT h4 hb
      refine go hΓ 7 rfl ?_
      refine cv_here ?_
      obtain rfl := Option.some.inj h5
      exact fin_objs hΓ [] (.inr rfl) rfl rfl rfl rfl (.inl rfl)
    · have h6 := cF h4 hb
      refine go hΓ 10 rfl ?_
      obtain ⟨q10, hq10, h11⟩ := bi_ok h6
      refine j_bound 4 rfl fun hb13 => ?_
      refine j_cutEZ (R := fun a12 => q10 = .go a12) (fun a12 => [(0, .ptr 1 0), (1, I v_at), (2, S name), (3, I kind), (4, .d (Sl e_api_Record l)), (5, I life)]) (fun a12 => [.dead, .box 167 [I c.most, I c.now, I c.calls, .sl 2 c.list.length], .row 177 6 c.list.length (c.list.flatMap e_name_kept)]) ?_ ?_
      · refine go hΓ 1 rfl ?_
        refine j_range l hq10 (fun i7 s8 => [(0, .ptr 1 0), (1, I v_at), (2, S name), (3, I kind), (4, .d (Sl e_api_Record l)), (5, I life), (34, .d (Sl e_api_Record l)), (35, I (l.length : Int)), (36, I (i7 : Int))]) (fun s8 => [.dead, .box 167 [I c.most, I c.now, I c.calls, .sl 2 c.list.length], .row 177 6 c.list.length (c.list.flatMap e_name_kept)]) ⟨⟨rfl, rfl, rfl, rfl, rfl, rfl, rfl, rfl, rfl, trivial⟩, [], rfl, .inl rfl⟩ (fun i7 x9 s8 y17 hx14 hlt hy15 hout16 => ?_) (fun s8 hgo => ?_)
        · refine go hΓ 6 rfl ?_
          refine j_condT rfl (decide_eq_true (Int.ofNat_lt.2 hlt)) ?_
          refine go hΓ 6 rfl ?_
          refine eo_o rfl (op_elemZ hΓ (enc := e_api_Record) (getZ_nat hx14) rfl rfl rfl rfl rfl (fun _ => rfl)) ?_
          refine go_ops hΓ 1 rfl ?_
          refine eo_alloc hΓ rfl rfl rfl (Nat.le_of_ble_eq_true rfl) ?_
          refine eo_store hΓ rfl rfl rfl rfl rfl rfl rfl rfl (Nat.le_of_ble_eq_true rfl) ?_
          refine eo_hp [.dead, .box 167 [I c.most, I c.now, I c.calls, .sl 2 c.list.length], .row 177 6 c.list.length (c.list.flatMap e_name_kept), .box 80 [S x9.Name, I x9.Kind, B x9.Addr.Six, U x9.Addr.Hi, U x9.Addr.Lo, S x9.To, S x9.Words, I x9.Life]] rfl ?_
          obtain ⟨y18, hy18, h19⟩ := bi_ok hy15
          refine go_ops hΓ 5 rfl ?_
          refine eo_callP (callable Tryz.func126 rfl rfl) (c_name_recordFault hy18) rfl (Nat.le_of_ble_eq_true rfl) rfl rfl rfl rfl rfl ?_
          refine go_ops hΓ 9 rfl ?_
          refine j_cond rfl (fun hb => ?_) (fun hb => ?_)
          · have h20 := cT h19 hb
            refine go hΓ 9 rfl ?_
            obtain ⟨v21, hv21, h22⟩ := bi_ok h20
            obtain rfl := Option.some.inj h22
            obtain rfl := hout16 _ rfl
            obtain rfl := Option.some.inj h11
            refine go hΓ 4 rfl ?_
            refine cv_here ?_
            obtain rfl := Option.some.inj hv21
            exact fin_objs hΓ [_] (.inr rfl) rfl rfl rfl rfl (.inr ⟨HB.mk rfl, rfl⟩)
          · have h23 := cF h19 hb
            refine go hΓ 7 rfl ?_
            obtain rfl := Option.some.inj h23
            exact ⟨_, rfl, ⟨⟨rfl, rfl, rfl, rfl, rfl, rfl, rfl, rfl, get_eq rfl (w64_succ (Nat.lt_of_lt_of_le hlt hb13)), trivial⟩, [_], rfl, .inr ⟨HB.mk rfl, FB.mk rfl, (Nat.le_of_ble_eq_true rfl)⟩⟩⟩
        · subst hgo
          refine go hΓ 6 rfl ?_
          refine j_condF rfl (decide_eq_false (Int.lt_irrefl _)) ?_
          refine go hΓ 4 rfl ?_
          exact ⟨_, rfl, ⟨⟨rfl, rfl, rfl, rfl, rfl, rfl, trivial⟩, [], rfl, .inl rfl⟩⟩
      · intro a12 ha
        subst ha
        replace h11 := goI_l h11
        obtain ⟨y24, hy24, h25⟩ := bi_ok h11
        refine go hΓ 5 rfl ?_
        refine eo_callP (callable Tryz.func123 rfl rfl) (c_kit_Outside hy24) rfl (Nat.le_of_ble_eq_true rfl) rfl rfl rfl rfl rfl ?_
        refine go_ops hΓ 2 rfl ?_
        refine j_cond rfl (fun hb => ?_) (fun hb => ?_)
        · have h26 := cT h25 hb
          refine go hΓ 7 rfl ?_
          refine cv_here ?_
          obtain rfl := Option.some.inj h26
          exact fin_objs hΓ [] (.inr rfl) rfl rfl rfl rfl (.inl rfl)
        · have h27 := cF h25 hb
          obtain ⟨y28, hy28, h29⟩ := bi_ok h27
          refine go hΓ 6 rfl ?_
          refine eo_callF [2, 1] (.tup []) [.dead, .box 167 [I y28.most, I y28.now, I y28.calls, .sl 2 y28.list.length], .row 177 6 y28.list.length (y28.list.flatMap e_name_kept)] (callable Tryz.func127 rfl rfl) (c_name_Cache_pass hy28) rfl (Nat.le_of_ble_eq_true rfl) rfl rfl rfl rfl rfl rfl rfl rfl rfl rfl ?_
          refine go_ops hΓ 10 rfl ?_
          obtain ⟨q33, hq33, h34⟩ := bi_ok h29
          refine j_bound 4 rfl fun hb36 => ?_
          refine j_cutNZ [(0, .ptr 1 0), (1, I v_at), (2, S name), (3, I kind), (4, .d (Sl e_api_Record l)), (5, I q33)] [.dead, .box 167 [I y28.most, I y28.now, I y28.calls, .sl 2 y28.list.length], .row 177 6 y28.list.length (y28.list.flatMap e_name_kept)] ?_ ?_
          · refine go hΓ 1 rfl ?_
            refine j_rangeF l hq33 (fun i30 s31 => [(0, .ptr 1 0), (1, I v_at), (2, S name), (3, I kind), (4, .d (Sl e_api_Record l)), (5, I s31), (51, .d (Sl e_api_Record l)), (52, I (l.length : Int)), (53, I (i30 : Int))]) (fun s31 => [.dead, .box 167 [I y28.most, I y28.now, I y28.calls, .sl 2 y28.list.length], .row 177 6 y28.list.length (y28.list.flatMap e_name_kept)]) ⟨⟨rfl, rfl, rfl, rfl, rfl, rfl, rfl, rfl, rfl, trivial⟩, [], rfl, .inl rfl⟩ (fun i30 x32 s31 y40 hx37 hlt hy38 => ?_) (?_)
            · refine go hΓ 6 rfl ?_
              refine j_condT rfl (decide_eq_true (Int.ofNat_lt.2 hlt)) ?_
              refine go hΓ 6 rfl ?_
              refine eo_o rfl (op_elemZ hΓ (enc := e_api_Record) (getZ_nat hx37) rfl rfl rfl rfl rfl (fun _ => rfl)) ?_
              refine go_ops hΓ 1 rfl ?_
              refine eo_alloc hΓ rfl rfl rfl (Nat.le_of_ble_eq_true rfl) ?_
              refine eo_store hΓ rfl rfl rfl rfl rfl rfl rfl rfl (Nat.le_of_ble_eq_true rfl) ?_
              refine eo_hp [.dead, .box 167 [I y28.most, I y28.now, I y28.calls, .sl 2 y28.list.length], .row 177 6 y28.list.length (y28.list.flatMap e_name_kept), .box 80 [S x32.Name, I x32.Kind, B x32.Addr.Six, U x32.Addr.Hi, U x32.Addr.Lo, S x32.To, S x32.Words, I x32.Life]] rfl ?_
              refine go_ops hΓ 15 rfl ?_
              obtain rfl := Option.some.inj hy38
              exact ⟨⟨rfl, rfl, rfl, rfl, rfl, rfl, rfl, rfl, get_eq rfl (w64_succ (Nat.lt_of_lt_of_le hlt hb36)), trivial⟩, [_], rfl, .inr ⟨HB.mk rfl, FB.mk rfl, (Nat.le_of_ble_eq_true rfl)⟩⟩
            · refine go hΓ 6 rfl ?_
              refine j_condF rfl (decide_eq_false (Int.lt_irrefl _)) ?_
              refine go hΓ 4 rfl ?_
              exact ⟨⟨rfl, rfl, rfl, rfl, rfl, rfl, trivial⟩, [], rfl, .inl rfl⟩
          · refine go hΓ 5 rfl ?_
            refine eo_build hΓ (gs := [S name, I kind]) rfl rfl rfl rfl rfl rfl rfl ?_
            refine eo_alloc hΓ rfl rfl rfl (Nat.le_of_ble_eq_true rfl) ?_
            refine eo_store hΓ rfl rfl rfl rfl rfl rfl rfl rfl (Nat.le_of_ble_eq_true rfl) ?_
            refine eo_hp [.dead, .box 167 [I y28.most, I y28.now, I y28.calls, .sl 2 y28.list.length], .row 177 6 y28.list.length (y28.list.flatMap e_name_kept), .box 174 [S name, I kind]] rfl ?_
            obtain ⟨y41, hy41, h42⟩ := bi_ok h34
            refine go_ops hΓ 10 rfl ?_
            refine eo_forg 2 [.dead, .box 167 [I y28.most, I y28.now, I y28.calls, .junk], .row 177 6 y28.list.length (y28.list.flatMap e_name_kept), .box 174 [S name, I kind]] rfl (Nat.le_of_ble_eq_true rfl) ?_
            refine eo_callF [2, 3] (.sl 2 y41.length) [.dead, .box 167 [I y28.most, I y28.now, I y28.calls, .junk], .row 177 6 y41.length (y41.flatMap e_name_kept), .box 174 [S name, I kind]] (callable Tryz.func128 rfl rfl) (c_slices_DeleteFunc_name_kept_name_kept_2 hy41) rfl (Nat.le_of_ble_eq_true rfl) rfl rfl rfl rfl rfl rfl rfl rfl rfl rfl ?_
            refine go_ops hΓ 2 rfl ?_
            refine eo_store hΓ rfl rfl rfl rfl rfl rfl rfl rfl (Nat.le_of_ble_eq_true rfl) ?_
            refine eo_hp [.dead, .box 167 [I y28.most, I y28.now, I y28.calls, .sl 2 y41.length], .row 177 6 y41.length (y41.flatMap e_name_kept), .box 174 [S name, I kind]] rfl ?_
            refine go_ops hΓ 9 rfl ?_
            refine j_cond rfl (fun hb => ?_) (fun hb => ?_)
            · have h43 := cT h42 hb
              refine go hΓ 7 rfl ?_
              refine cv_here ?_
              obtain rfl := Option.some.inj h43
              exact fin_objs hΓ [_] (.inr rfl) rfl rfl rfl rfl (.inr ⟨HB.mk rfl, rfl⟩)
            · have h44 := cF h42 hb
              refine go hΓ 3 rfl ?_
              refine j_drawE [.dead, .box 167 [I y28.most, I y28.now, I y28.calls, .sl 2 y41.length], .dead, .box 174 [S name, I kind]] [4, 5, 11] [16, 19] [16, 19] hmix (by kernel_rfl) (by kernel_rfl) ⟨rfl, rfl, trivial⟩ (Nat.le_of_ble_eq_true rfl) ?_
              obtain ⟨y45, hy45, h46⟩ := bi_ok h44
              refine go_E hΓ 13 rfl ?_
              refine ge_callP (callable Tryz.func130 rfl rfl) (Pure.rows (c_slices_Clone_api_Record_api_Record hy45) rfl rfl) rfl rfl rfl rfl rfl rfl ?_
              refine ge_q rfl (.inl rfl) (fun _ _ => qte_of_qt (qt_p (op_build hΓ (gs := [S name, I kind, I v_at, I q33, I y28.calls, .d (Sl e_api_Record y45)]) rfl rfl rfl rfl rfl rfl))) ?_
              refine ge_litT hΓ (enc := e_name_kept) [(⟨(⟨name, kind⟩ : T_name_asking), v_at, q33, y28.calls, y45⟩ : T_name_kept)] rfl rfl rfl rfl rfl rfl rfl rfl rfl rfl rfl rfl ?_
              obtain ⟨y47, hy47, h48⟩ := bi_ok h46
              refine ge_h [.dead, .box 167 [I y28.most, I y28.now, I y28.calls, .junk], .dead, .box 174 [S name, I kind], .row 177 6 y47.length (y47.flatMap e_name_kept)] rfl rfl rfl (brk_st rfl) (qte_s (ops_forg 2 (ops_appendT hΓ (enc := e_name_kept) (id := 2) (h2 := show Γ 177 = some ⟨_, 6, _, _⟩ from rfl) hy47 rfl rfl rfl rfl rfl rfl rfl rfl (fun _ => rfl) rfl))) ?_
              refine go_E hΓ 2 rfl ?_
              refine ge_h0 [.dead, .box 167 [I y28.most, I y28.now, I y28.calls, .sl 4 y47.length], .dead, .box 174 [S name, I kind], .row 177 6 y47.length (y47.flatMap e_name_kept)] rfl rfl (brk_st rfl) (qte_u (opu_store2 hΓ rfl rfl rfl rfl rfl rfl rfl rfl rfl)) ?_
              refine ge_fin ?_
              refine go hΓ 1 rfl ?_
              refine j_move 4 2 [.dead, .box 167 [I y28.most, I y28.now, I y28.calls, .sl 2 y47.length], .row 177 6 y47.length (y47.flatMap e_name_kept), .box 174 [S name, I kind], .dead] rfl rfl rfl rfl rfl rfl ?_
              refine go hΓ 2 rfl ?_
              refine j_draw hmix (by kernel_rfl) ?_
              obtain ⟨q49, hq49, h50⟩ := bi_ok h48
              refine go hΓ 12 rfl ?_
              refine j_cutNZ [] [.dead, .box 167 [I y28.most, I y28.now, I y28.calls, .sl 2 q49.length], .row 177 6 q49.length (q49.flatMap e_name_kept), .box 174 [S name, I kind], .dead] ?_ ?_
              · refine j_cond rfl (fun hb => ?_) (fun hb => ?_)
                · have h51 := cT hq49 hb
                  refine go hΓ 16 rfl ?_
                  obtain ⟨q55, hq55, h56⟩ := bi_ok h51
                  obtain ⟨hb58, h59⟩ := gd_ok hq55
                  replace hb58 := of_decide_eq_true hb58
                  refine j_cutNZ [(0, .ptr 1 0), (20, I q55)] [.dead, .box 167 [I y28.most, I y28.now, I y28.calls, .sl 2 y47.length], .row 177 6 y47.length (y47.flatMap e_name_kept), .box 174 [S name, I kind], .dead] ?_ ?_
                  · refine go hΓ 1 rfl ?_
                    refine j_rangeG h59 (fun i52 s53 => [(0, .ptr 1 0), (20, I s53), (108, .sl 2 y47.length), (109, I (y47.length : Int)), (110, I (i52 : Int))]) (fun s53 => [.dead, .box 167 [I y28.most, I y28.now, I y28.calls, .sl 2 y47.length], .row 177 6 y47.length (y47.flatMap e_name_kept), .box 174 [S name, I kind], .dead]) ⟨⟨rfl, rfl, rfl, rfl, rfl, trivial⟩, [], rfl, .inl rfl⟩ (fun i52 s53 y63 hlt hy61 => ?_) (fun hge => ?_)
                    · refine go hΓ 6 rfl ?_
                      refine j_condT rfl (decide_eq_true hlt) ?_
                      obtain ⟨x64, hx64, h65⟩ := bi_ok hy61
                      have hj66 := getZ_at hx64
                      refine go hΓ 7 rfl ?_
                      refine eo_o rfl (op_elemRowZ hΓ hx64 rfl rfl rfl rfl rfl rfl) ?_
                      refine eo_o rfl (op_loadRowZ hΓ (enc := e_name_kept) ((i52 : Int).toNat) 0 hj66 rfl rfl rfl rfl (fun _ => rfl) (g := .agg [S x64.asking.name, I x64.asking.kind, I x64.put, I x64.life, I x64.used, .d (Sl e_api_Record x64.list)]) rfl) ?_
                      refine eo_alloc hΓ rfl rfl rfl (Nat.le_of_ble_eq_true rfl) ?_
                      refine go_ops hΓ 1 rfl ?_
                      refine eo_store hΓ rfl rfl rfl rfl rfl rfl rfl rfl (Nat.le_of_ble_eq_true rfl) ?_
                      refine eo_hp [.dead, .box 167 [I y28.most, I y28.now, I y28.calls, .sl 2 y47.length], .row 177 6 y47.length (y47.flatMap e_name_kept), .box 174 [S name, I kind], .dead, .box 177 [S x64.asking.name, I x64.asking.kind, I x64.put, I x64.life, I x64.used, .d (Sl e_api_Record x64.list)]] rfl ?_
                      refine go_ops hΓ 3 rfl ?_
                      refine j_draw hmix (by kernel_rfl) ?_
                      obtain ⟨x67, hx67, h68⟩ := bi_ok h65
                      have hj69 := getZ_at hx67
                      refine go hΓ 7 rfl ?_
                      refine gl_o rfl (op_elemRowZ hΓ hx67 rfl rfl rfl rfl rfl rfl) ?_
                      refine go_draw hΓ 1 rfl ?_
                      refine gl_o rfl (op_loadRowZ hΓ (enc := e_name_kept) s53.toNat 4 hj69 rfl rfl rfl rfl (fun _ => rfl) (g := I x67.used) rfl) ?_
                      refine go_draw hΓ 3 rfl ?_
                      refine j_cond rfl (fun hb => ?_) (fun hb => ?_)
                      · have h70 := cT h68 hb
                        refine go hΓ 10 rfl ?_
                        obtain rfl := Option.some.inj h70
                        exact ⟨⟨rfl, rfl, rfl, rfl, get_eq rfl (w64_succ (by omega)), trivial⟩, [_], rfl, .inr ⟨HB.mk rfl, FB.mk rfl, (Nat.le_of_ble_eq_true rfl)⟩⟩
                      · have h71 := cF h68 hb
                        refine go hΓ 7 rfl ?_
                        obtain rfl := Option.some.inj h71
                        exact ⟨⟨rfl, rfl, rfl, rfl, get_eq rfl (w64_succ (by omega)), trivial⟩, [_], rfl, .inr ⟨HB.mk rfl, FB.mk rfl, (Nat.le_of_ble_eq_true rfl)⟩⟩
                    · refine go hΓ 6 rfl ?_
                      refine j_condF rfl (decide_eq_false hge) ?_
                      refine go hΓ 4 rfl ?_
                      exact ⟨⟨rfl, rfl, trivial⟩, [], rfl, .inl rfl⟩
                  · obtain ⟨y72, hy72, h73⟩ := bi_ok h56
                    refine go hΓ 10 rfl ?_
                    refine eo_forg 2 [.dead, .box 167 [I y28.most, I y28.now, I y28.calls, .junk], .row 177 6 y47.length (y47.flatMap e_name_kept), .box 174 [S name, I kind], .dead] rfl (Nat.le_of_ble_eq_true rfl) ?_
                    refine eo_callF [2] (.sl 2 y72.length) [.dead, .box 167 [I y28.most, I y28.now, I y28.calls, .junk], .row 177 6 y72.length (y72.flatMap e_name_kept), .box 174 [S name, I kind], .dead] (callable Tryz.func131 rfl rfl) (c_slices_Delete_name_kept_name_kept hy72) rfl (Nat.le_of_ble_eq_true rfl) rfl rfl rfl rfl rfl rfl rfl rfl rfl rfl ?_
                    refine go_ops hΓ 2 rfl ?_
                    refine eo_store hΓ rfl rfl rfl rfl rfl rfl rfl rfl (Nat.le_of_ble_eq_true rfl) ?_
                    refine eo_hp [.dead, .box 167 [I y28.most, I y28.now, I y28.calls, .sl 2 y72.length], .row 177 6 y72.length (y72.flatMap e_name_kept), .box 174 [S name, I kind], .dead] rfl ?_
                    refine go_ops hΓ 1 rfl ?_
                    obtain rfl := Option.some.inj h73
                    exact ⟨trivial, [], rfl, .inl rfl⟩
                · have h74 := cF hq49 hb
                  refine go hΓ 1 rfl ?_
                  obtain rfl := Option.some.inj h74
                  exact ⟨trivial, [], rfl, .inl rfl⟩
              · refine go hΓ 7 rfl ?_
                refine cv_here ?_
                obtain rfl := Option.some.inj h50
                exact fin_objs hΓ [_, _] (.inr rfl) rfl rfl rfl rfl (.inr ⟨HB.mk rfl, rfl⟩)
theorem c_laneref2_in {n : Int} {low : Int} {high : Int} {r : Bool} (h : m_laneref2_in n low high = some r) : Pure Tryz.prog 155 [I n, I low, I high] (B r) := by
  refine Pure.enter (Fr.of 0 _) Tryz.func155 rfl (Fr.of_ok _) rfl rfl ?_
  refine go_in ?_
  unfold m_laneref2_in at h
  refine go hΓ 11 rfl ?_
  refine o_cut 4 [(6, B false), (14, B ((decide ((low : Int) ≤ n)) && (decide ((n : Int) ≤ high))))] [] ?_ ?_
  · refine eo_gsplit rfl rfl (fun hb => ?_) (fun hb => ?_)
    · refine go_ops hΓ 5 rfl ?_
      exact ⟨⟨rfl, get_b rfl (and_t hb), trivial⟩, [], rfl, .inl rfl⟩
    · refine go_ops hΓ 5 rfl ?_
      exact ⟨⟨rfl, get_b rfl (and_f hb), trivial⟩, [], rfl, .inl rfl⟩
  · refine go_ops hΓ 4 rfl ?_
    obtain rfl := Option.some.inj h
    exact fin_pure hΓ (.inr rfl) rfl rfl
theorem c_laneref2_Moment {v_at : Int} {r : Bool} (h : m_laneref2_Moment v_at = some r) : Pure Tryz.prog 206 [I v_at] (B r) := by
  refine Pure.enter (Fr.of 0 _) Tryz.func206 rfl (Fr.of_ok _) rfl rfl ?_
  refine go_in ?_
  unfold m_laneref2_Moment at h
  obtain ⟨y1, hy1, h2⟩ := bi_ok h
  refine go hΓ 8 rfl ?_
  refine eo_callP (callable Tryz.func155 rfl rfl) (c_laneref2_in hy1) rfl (Nat.le_of_ble_eq_true rfl) rfl rfl rfl rfl rfl ?_
  refine go_ops hΓ 4 rfl ?_
  obtain rfl := Option.some.inj h2
  exact fin_pure hΓ (.inr rfl) rfl rfl
set_option maxHeartbeats 8000000 in
theorem c_laneref1_LabelForm {s : Str} {r : Bool} (h : m_laneref1_LabelForm s = some r) : Pure Tryz.prog 179 [S s] (B r) := by
  refine Pure.enter (Fr.of 0 _) Tryz.func179 rfl (Fr.of_ok _) rfl rfl ?_
  refine go_in ?_
  unfold m_laneref1_LabelForm at h
  refine go hΓ 13 rfl ?_
  refine j_cond rfl (fun hb => ?_) (fun hb => ?_)
  · have h1 := cT h hb
    refine go hΓ 7 rfl ?_
    obtain rfl := Option.some.inj h1
    exact fin_pure hΓ (.inr rfl) rfl rfl
  · have h2 := cF h hb
    obtain ⟨y3, hy3, h4⟩ := bi_ok h2
    refine go hΓ 5 rfl ?_
    refine eo_callP (callable Tryz.func169 rfl rfl) (c_strings_TrimPrefix hy3) rfl (Nat.le_of_ble_eq_true rfl) rfl rfl rfl rfl rfl ?_
    refine go_ops hΓ 8 rfl ?_
    obtain ⟨q5, hq5, h6⟩ := bi_ok h4
    refine o_cut 4 [(0, S y3), (2, B false), (14, B q5)] [] ?_ ?_
    · refine eo_gsplit rfl rfl (fun hb => ?_) (fun hb => ?_)
      · have h7 := cT hq5 hb
        obtain ⟨y8, hy8, h9⟩ := bi_ok h7
        refine go_ops hΓ 1 rfl ?_
        refine eo_guard rfl ?_
        refine eo_callP (callable Tryz.func193 rfl rfl) (c_strings_Trim hy8) rfl (Nat.le_of_ble_eq_true rfl) rfl rfl rfl rfl rfl ?_
        refine go_ops hΓ 3 rfl ?_
        obtain rfl := Option.some.inj h9
        exact ⟨⟨rfl, rfl, rfl, trivial⟩, [], rfl, .inl rfl⟩
      · have h10 := cF hq5 hb
        refine go_ops hΓ 5 rfl ?_
        obtain rfl := Option.some.inj h10
        exact ⟨⟨rfl, rfl, rfl, trivial⟩, [], rfl, .inl rfl⟩
    · refine go_ops hΓ 1 rfl ?_
      obtain ⟨q11, hq11, h12⟩ := bi_ok h6
      refine o_cut 4 [(0, S y3), (2, B false), (19, B q11)] [] ?_ ?_
      · refine eo_gsplit rfl rfl (fun hb => ?_) (fun hb => ?_)
        · have h13 := cT hq11 hb
          obtain ⟨c14, hc14, h15⟩ := bi_ok h13
          refine go_ops hΓ 1 rfl ?_
          refine eo_guard rfl ?_
          refine eo_o rfl (op_byteZ hΓ hc14 rfl rfl rfl rfl) ?_
          refine go_ops hΓ 3 rfl ?_
          obtain rfl := Option.some.inj h15
          exact ⟨⟨rfl, rfl, rfl, trivial⟩, [], rfl, .inl rfl⟩
        · have h16 := cF hq11 hb
          refine go_ops hΓ 5 rfl ?_
          obtain rfl := Option.some.inj h16
          exact ⟨⟨rfl, rfl, rfl, trivial⟩, [], rfl, .inl rfl⟩
      · refine go_ops hΓ 1 rfl ?_
        obtain ⟨q17, hq17, h18⟩ := bi_ok h12
        refine o_cut 7 [(2, B false), (27, B q17)] [] ?_ ?_
        · refine eo_gsplit rfl rfl (fun hb => ?_) (fun hb => ?_)
          · have h19 := cT hq17 hb
            obtain ⟨c20, hc20, h21⟩ := bi_ok h19
            refine go_ops hΓ 4 rfl ?_
            refine eo_guard rfl ?_
            refine eo_o rfl (op_byteZ hΓ hc20 rfl rfl rfl rfl) ?_
            refine go_ops hΓ 3 rfl ?_
            obtain rfl := Option.some.inj h21
            exact ⟨⟨rfl, rfl, trivial⟩, [], rfl, .inl rfl⟩
          · have h22 := cF hq17 hb
            refine go_ops hΓ 8 rfl ?_
            obtain rfl := Option.some.inj h22
            exact ⟨⟨rfl, rfl, trivial⟩, [], rfl, .inl rfl⟩
        · refine go_ops hΓ 4 rfl ?_
          obtain rfl := Option.some.inj h18
          exact fin_pure hΓ (.inr rfl) rfl rfl
theorem c_laneref1_DomainFault {s : Str} {r : Int} (h : m_laneref1_DomainFault s = some r) : Pure Tryz.prog 87 [S s] (I r) := by
  refine Pure.enter (Fr.of 0 _) Tryz.func87 rfl (Fr.of_ok _) rfl rfl ?_
  refine go_in ?_
  unfold m_laneref1_DomainFault at h
  refine go hΓ 13 rfl ?_
  refine j_cond rfl (fun hb => ?_) (fun hb => ?_)
  · have h1 := cT h hb
    refine go hΓ 7 rfl ?_
    obtain rfl := Option.some.inj h1
    exact fin_pure hΓ (.inr rfl) rfl rfl
  · have h2 := cF h hb
    obtain ⟨y3, hy3, h4⟩ := bi_ok h2
    refine go hΓ 6 rfl ?_
    refine eo_callP (callable Tryz.func162 rfl rfl) (Pure.rows (c_strings_Split hy3) rfl rfl) rfl (Nat.le_of_ble_eq_true rfl) rfl rfl rfl rfl rfl ?_
    refine go_ops hΓ 4 rfl ?_
    obtain ⟨q8, hq8, h9⟩ := bi_ok h4
    refine j_bound 9 rfl fun hb11 => ?_
    refine j_cutEZ (R := fun a10 => q8 = .go a10) (fun a10 => []) (fun a10 => []) ?_ ?_
    · refine go hΓ 1 rfl ?_
      refine j_range y3 hq8 (fun i5 s6 => [(9, .d (Sl eS y3)), (10, I (y3.length : Int)), (11, I (i5 : Int))]) (fun s6 => []) ⟨⟨rfl, rfl, rfl, trivial⟩, [], rfl, .inl rfl⟩ (fun i5 x7 s6 y15 hx12 hlt hy13 hout14 => ?_) (fun s6 hgo => ?_)
      · refine go hΓ 6 rfl ?_
        refine j_condT rfl (decide_eq_true (Int.ofNat_lt.2 hlt)) ?_
        refine go hΓ 6 rfl ?_
        refine eo_o rfl (op_elemZ hΓ (enc := eS) (getZ_nat hx12) rfl rfl rfl rfl rfl (fun _ => rfl)) ?_
        obtain ⟨y16, hy16, h17⟩ := bi_ok hy13
        refine go_ops hΓ 7 rfl ?_
        refine eo_callP (callable Tryz.func179 rfl rfl) (c_laneref1_LabelForm hy16) rfl (Nat.le_of_ble_eq_true rfl) rfl rfl rfl rfl rfl ?_
        refine go_ops hΓ 3 rfl ?_
        refine j_cond rfl (fun hb => ?_) (fun hb => ?_)
        · have h18 := cT h17 hb
          refine go hΓ 8 rfl ?_
          obtain ⟨v19, hv19, h20⟩ := bi_ok h18
          obtain rfl := Option.some.inj h20
          obtain rfl := hout14 _ rfl
          obtain rfl := Option.some.inj h9
          refine go hΓ 4 rfl ?_
          obtain rfl := Option.some.inj hv19
          exact fin_pure hΓ (.inr rfl) rfl rfl
        · have h21 := cF h17 hb
          refine go hΓ 7 rfl ?_
          obtain rfl := Option.some.inj h21
          exact ⟨_, rfl, ⟨⟨rfl, rfl, get_eq rfl (w64_succ (Nat.lt_of_lt_of_le hlt hb11)), trivial⟩, [], rfl, .inl rfl⟩⟩
      · subst hgo
        refine go hΓ 6 rfl ?_
        refine j_condF rfl (decide_eq_false (Int.lt_irrefl _)) ?_
        refine go hΓ 4 rfl ?_
        exact ⟨_, rfl, ⟨trivial, [], rfl, .inl rfl⟩⟩
    · intro a10 ha
      subst ha
      replace h9 := goI_l h9
      refine go hΓ 7 rfl ?_
      obtain rfl := Option.some.inj h9
      exact fin_pure hΓ (.inr rfl) rfl rfl
theorem c_laneref1_Cache_callFault {c : T_laneref1_Cache} {v_at : Int} {name : Str} {r : Int} (h : m_laneref1_Cache_callFault c v_at name = some r) : EC Tryz.prog 132 [.ptr 1 0, I v_at, S name] [.rowv 185 6 c.l.length (c.l.flatMap e_laneref1_kept), .box 170 [I c.most, I c.now, I c.calls, .sv 0 c.l.length]] fun g hp' => g = I r ∧ hp' = [.rowv 185 6 c.l.length (c.l.flatMap e_laneref1_kept), .box 170 [I c.most, I c.now, I c.calls, .sv 0 c.l.length]] := by
  refine ec_enter (Fr.of 0 _) Tryz.func132 rfl (Fr.of_ok _) (Nat.le_of_ble_eq_true rfl) fun _ => ?_
  refine go_in ?_
  unfold m_laneref1_Cache_callFault at h
  obtain ⟨y1, hy1, h2⟩ := bi_ok h
  refine go hΓ 10 rfl ?_
  refine eo_callP (callable Tryz.func206 rfl rfl) (c_laneref2_Moment hy1) rfl (Nat.le_of_ble_eq_true rfl) rfl rfl rfl rfl rfl ?_
  refine go_ops hΓ 4 rfl ?_
  refine j_cond rfl (fun hb => ?_) (fun hb => ?_)
  · have h3 := cT h2 hb
    refine go hΓ 8 rfl ?_
    obtain rfl := Option.some.inj h3
    exact fin_objs hΓ [] (.inr rfl) rfl rfl rfl rfl (.inl rfl)
  · have h4 := cF h2 hb
    refine go hΓ 11 rfl ?_
    refine j_cond rfl (fun hb => ?_) (fun hb => ?_)
    · have h5 := cT h4 hb
      refine go hΓ 8 rfl ?_
      obtain rfl := Option.some.inj h5
      exact fin_objs hΓ [] (.inr rfl) rfl rfl rfl rfl (.inl rfl)
    · have h6 := cF h4 hb
      obtain ⟨y7, hy7, h8⟩ := bi_ok h6
      refine go hΓ 6 rfl ?_
      refine eo_callP (callable Tryz.func87 rfl rfl) (c_laneref1_DomainFault hy7) rfl (Nat.le_of_ble_eq_true rfl) rfl rfl rfl rfl rfl ?_
      refine go_ops hΓ 4 rfl ?_
      obtain rfl := Option.some.inj h8
      exact fin_objs hΓ [] (.inr rfl) rfl rfl rfl rfl (.inl rfl)
theorem c_laneref1_Kinds {r : List Int} (h : m_laneref1_Kinds = some r) : Pure Tryz.prog 95 [] (.d (Sl (eN .i64) r)) := by
  refine Pure.enter (Fr.of 0 _) Tryz.func95 rfl (Fr.of_ok _) rfl rfl ?_
  refine go_in ?_
  unfold m_laneref1_Kinds at h
  refine go hΓ 7 rfl ?_
  refine eo_litT hΓ (enc := (eN .i64)) [1, 5, 12, 16, 28] rfl rfl rfl rfl rfl rfl rfl rfl rfl rfl rfl rfl (Nat.le_of_ble_eq_true rfl) ?_
  refine go_ops hΓ 4 rfl ?_
  obtain rfl := Option.some.inj h
  exact fin_pure hΓ (.inr rfl) rfl rfl
theorem c_slices_Index_int_int {s : List Int} {v : Int} {r : Int} (h : m_slices_Index_int_int s v = some r) : Pure Tryz.prog 94 [.d (Sl (eN .i64) s), I v] (I r) := by
  refine Pure.enter (Fr.of 0 _) Tryz.func94 rfl (Fr.of_ok _) rfl rfl ?_
  refine go_in ?_
  unfold m_slices_Index_int_int at h
  refine go hΓ 13 rfl ?_
  obtain ⟨q4, hq4, h5⟩ := bi_ok h
  refine j_bound 0 rfl fun hb7 => ?_
  refine j_cutEZ (R := fun a6 => q4 = .go a6) (fun a6 => []) (fun a6 => []) ?_ ?_
  · refine go hΓ 1 rfl ?_
    refine j_range s hq4 (fun i1 s2 => [(0, .d (Sl (eN .i64) s)), (1, I v), (7, I (s.length : Int)), (8, I (i1 : Int))]) (fun s2 => []) ⟨⟨rfl, rfl, rfl, rfl, trivial⟩, [], rfl, .inl rfl⟩ (fun i1 x3 s2 y11 hx8 hlt hy9 hout10 => ?_) (fun s2 hgo => ?_)
    · refine go hΓ 6 rfl ?_
      refine j_condT rfl (decide_eq_true (Int.ofNat_lt.2 hlt)) ?_
      refine go hΓ 15 rfl ?_
      refine eo_o rfl (op_elemZ hΓ (enc := (eN .i64)) (getZ_nat hx8) rfl rfl rfl rfl rfl (fun _ => rfl)) ?_
      refine go_ops hΓ 4 rfl ?_
      refine j_cond rfl (fun hb => ?_) (fun hb => ?_)
      · have h12 := cT hy9 hb
        refine go hΓ 9 rfl ?_
        obtain ⟨v13, hv13, h14⟩ := bi_ok h12
        obtain rfl := Option.some.inj h14
        obtain rfl := hout10 _ rfl
        obtain rfl := Option.some.inj h5
        refine go hΓ 4 rfl ?_
        obtain rfl := Option.some.inj hv13
        exact fin_pure hΓ (.inr rfl) rfl rfl
      · have h15 := cF hy9 hb
        refine go hΓ 7 rfl ?_
        obtain rfl := Option.some.inj h15
        exact ⟨_, rfl, ⟨⟨rfl, rfl, rfl, get_eq rfl (w64_succ (Nat.lt_of_lt_of_le hlt hb7)), trivial⟩, [], rfl, .inl rfl⟩⟩
    · subst hgo
      refine go hΓ 6 rfl ?_
      refine j_condF rfl (decide_eq_false (Int.lt_irrefl _)) ?_
      refine go hΓ 4 rfl ?_
      exact ⟨_, rfl, ⟨trivial, [], rfl, .inl rfl⟩⟩
  · intro a6 ha
    subst ha
    replace h5 := goI_l h5
    refine go hΓ 7 rfl ?_
    obtain rfl := Option.some.inj h5
    exact fin_pure hΓ (.inr rfl) rfl rfl
theorem c_slices_Contains_int_int {s : List Int} {v : Int} {r : Bool} (h : m_slices_Contains_int_int s v = some r) : Pure Tryz.prog 133 [.d (Sl (eN .i64) s), I v] (B r) := by
  refine Pure.enter (Fr.of 0 _) Tryz.func133 rfl (Fr.of_ok _) rfl rfl ?_
  refine go_in ?_
  unfold m_slices_Contains_int_int at h
  obtain ⟨y1, hy1, h2⟩ := bi_ok h
  refine go hΓ 9 rfl ?_
  refine eo_callP (callable Tryz.func94 rfl rfl) (c_slices_Index_int_int hy1) rfl (Nat.le_of_ble_eq_true rfl) rfl rfl rfl rfl rfl ?_
  refine go_ops hΓ 5 rfl ?_
  obtain rfl := Option.some.inj h2
  exact fin_pure hΓ (.inr rfl) rfl rfl
theorem c_laneref2_AddrFault {a : T_api_Addr} {r : Int} (h : m_laneref2_AddrFault a = some r) : Pure Tryz.prog 154 [.agg [B a.Six, U a.Hi, U a.Lo]] (I r) := by
  refine Pure.enter (Fr.of 0 _) Tryz.func154 rfl (Fr.of_ok _) rfl rfl ?_
  refine go_in ?_
  unfold m_laneref2_AddrFault at h
  refine go hΓ 2 rfl ?_
  refine eo_box rfl rfl rfl rfl (Nat.le_of_ble_eq_true rfl) ?_
  refine go_ops hΓ 10 rfl ?_
  refine o_cut 9 [(15, B ((!a.Six) && ((decide ((a.Hi : Int) > 0)) || (decide ((a.Lo : Int) > 4294967295)))))] [.box 39 [B a.Six, U a.Hi, U a.Lo]] ?_ ?_
  · refine eo_gsplit rfl rfl (fun hb => ?_) (fun hb => ?_)
    · refine go_ops hΓ 4 rfl ?_
      refine o_cut 4 [(6, B true), (14, B ((decide ((a.Hi : Int) > 0)) || (decide ((a.Lo : Int) > 4294967295))))] [.box 39 [B a.Six, U a.Hi, U a.Lo]] ?_ ?_
      · refine eo_gsplit rfl rfl (fun hb => ?_) (fun hb => ?_)
        · refine go_ops hΓ 5 rfl ?_
          exact ⟨⟨rfl, get_b rfl (or_t hb), trivial⟩, [], rfl, .inl rfl⟩
        · refine go_ops hΓ 5 rfl ?_
          exact ⟨⟨rfl, get_b rfl (or_f hb), trivial⟩, [], rfl, .inl rfl⟩
      · refine go_ops hΓ 2 rfl ?_
        exact ⟨⟨get_b rfl (and_t hb), trivial⟩, [], rfl, .inl rfl⟩
    · refine go_ops hΓ 10 rfl ?_
      exact ⟨⟨get_b rfl (and_f hb), trivial⟩, [], rfl, .inl rfl⟩
  · refine go_ops hΓ 2 rfl ?_
    refine j_cond rfl (fun hb => ?_) (fun hb => ?_)
    · have h1 := cT h hb
      refine go hΓ 7 rfl ?_
      obtain rfl := Option.some.inj h1
      exact fin_pure hΓ (.inr rfl) rfl rfl
    · have h2 := cF h hb
      refine go hΓ 8 rfl ?_
      obtain rfl := Option.some.inj h2
      exact fin_pure hΓ (.inr rfl) rfl rfl
set_option maxHeartbeats 8000000 in
theorem c_laneref1_plain {s : Str} {r : Bool} (h : m_laneref1_plain s = some r) : Pure Tryz.prog 180 [S s] (B r) := by
  refine Pure.enter (Fr.of 0 _) Tryz.func180 rfl (Fr.of_ok _) rfl rfl ?_
  refine go_in ?_
  unfold m_laneref1_plain at h
  refine go hΓ 13 rfl ?_
  obtain ⟨q4, hq4, h5⟩ := bi_ok h
  obtain ⟨hb7, h8⟩ := gd_ok hq4
  replace hb7 := of_decide_eq_true hb7
  refine j_cutEZ (R := fun a6 => q4 = .go a6) (fun a6 => [(0, S s)]) (fun a6 => []) ?_ ?_
  · refine go hΓ 1 rfl ?_
    refine j_rangeI h8 (fun i1 s2 => [(0, S s), (5, I (s.length : Int)), (6, I (i1 : Int))]) (fun s2 => []) ⟨⟨rfl, rfl, rfl, trivial⟩, [], rfl, .inl rfl⟩ (fun i1 s2 y12 hlt hy10 hout11 => ?_) (fun s2 hgo hge => ?_)
    · refine go hΓ 6 rfl ?_
      refine j_condT rfl (decide_eq_true hlt) ?_
      obtain ⟨c13, hc13, h14⟩ := bi_ok hy10
      refine go hΓ 14 rfl ?_
      refine eo_o rfl (op_byteZ hΓ hc13 rfl rfl rfl rfl) ?_
      refine go_ops hΓ 2 rfl ?_
      obtain ⟨q15, hq15, h16⟩ := bi_ok h14
      refine o_cut 5 [(0, S s), (5, I (s.length : Int)), (6, I (i1 : Int)), (18, B q15)] [] ?_ ?_
      · refine eo_gsplit rfl rfl (fun hb => ?_) (fun hb => ?_)
        · have h17 := cT hq15 hb
          refine go_ops hΓ 6 rfl ?_
          obtain rfl := Option.some.inj h17
          exact ⟨⟨rfl, rfl, rfl, rfl, trivial⟩, [], rfl, .inl rfl⟩
        · have h18 := cF hq15 hb
          obtain ⟨c19, hc19, h20⟩ := bi_ok h18
          refine go_ops hΓ 2 rfl ?_
          refine eo_guard rfl ?_
          refine eo_o rfl (op_byteZ hΓ hc19 rfl rfl rfl rfl) ?_
          refine go_ops hΓ 3 rfl ?_
          obtain rfl := Option.some.inj h20
          exact ⟨⟨rfl, rfl, rfl, rfl, trivial⟩, [], rfl, .inl rfl⟩
      · refine go_ops hΓ 2 rfl ?_
        refine j_cond rfl (fun hb => ?_) (fun hb => ?_)
        · have h21 := cT h16 hb
          refine go hΓ 8 rfl ?_
          obtain ⟨v22, hv22, h23⟩ := bi_ok h21
          obtain rfl := Option.some.inj h23
          obtain rfl := hout11 _ rfl
          obtain rfl := Option.some.inj h5
          refine go hΓ 4 rfl ?_
          obtain rfl := Option.some.inj hv22
          exact fin_pure hΓ (.inr rfl) rfl rfl
        · have h24 := cF h16 hb
          refine go hΓ 7 rfl ?_
          obtain rfl := Option.some.inj h24
          exact ⟨_, rfl, ⟨⟨rfl, rfl, get_eq rfl (w64_succ (by omega)), trivial⟩, [], rfl, .inl rfl⟩⟩
    · subst hgo
      refine go hΓ 6 rfl ?_
      refine j_condF rfl (decide_eq_false hge) ?_
      refine go hΓ 4 rfl ?_
      exact ⟨_, rfl, ⟨⟨rfl, trivial⟩, [], rfl, .inl rfl⟩⟩
  · intro a6 ha
    subst ha
    replace h5 := goI_l h5
    obtain ⟨y25, hy25, h26⟩ := bi_ok h5
    refine go hΓ 4 rfl ?_
    refine eo_callP (callable Tryz.func251 rfl rfl) (c_utf8_ValidString hy25) rfl (Nat.le_of_ble_eq_true rfl) rfl rfl rfl rfl rfl ?_
    refine go_ops hΓ 1 rfl ?_
    obtain ⟨q27, hq27, h28⟩ := bi_ok h26
    refine o_cut 5 [(0, S s), (27, B q27)] [] ?_ ?_
    · refine eo_gsplit rfl rfl (fun hb => ?_) (fun hb => ?_)
      · have h29 := cT hq27 hb
        obtain ⟨y30, hy30, h31⟩ := bi_ok h29
        refine go_ops hΓ 2 rfl ?_
        refine eo_guard rfl ?_
        refine eo_callP (callable Tryz.func193 rfl rfl) (c_strings_Trim hy30) rfl (Nat.le_of_ble_eq_true rfl) rfl rfl rfl rfl rfl ?_
        refine go_ops hΓ 3 rfl ?_
        obtain rfl := Option.some.inj h31
        exact ⟨⟨rfl, rfl, trivial⟩, [], rfl, .inl rfl⟩
      · have h32 := cF hq27 hb
        refine go_ops hΓ 6 rfl ?_
        obtain rfl := Option.some.inj h32
        exact ⟨⟨rfl, rfl, trivial⟩, [], rfl, .inl rfl⟩
    · refine go_ops hΓ 1 rfl ?_
      obtain ⟨q33, hq33, h34⟩ := bi_ok h28
      refine o_cut 4 [(32, B q33)] [] ?_ ?_
      · refine eo_gsplit rfl rfl (fun hb => ?_) (fun hb => ?_)
        · have h35 := cT hq33 hb
          obtain ⟨y36, hy36, h37⟩ := bi_ok h35
          refine go_ops hΓ 1 rfl ?_
          refine eo_guard rfl ?_
          refine eo_callP (callable Tryz.func189 rfl rfl) (c_strings_Contains hy36) rfl (Nat.le_of_ble_eq_true rfl) rfl rfl rfl rfl rfl ?_
          refine go_ops hΓ 3 rfl ?_
          obtain rfl := Option.some.inj h37
          exact ⟨⟨rfl, trivial⟩, [], rfl, .inl rfl⟩
        · have h38 := cF hq33 hb
          refine go_ops hΓ 5 rfl ?_
          obtain rfl := Option.some.inj h38
          exact ⟨⟨rfl, trivial⟩, [], rfl, .inl rfl⟩
      · refine go_ops hΓ 4 rfl ?_
        obtain rfl := Option.some.inj h34
        exact fin_pure hΓ (.inr rfl) rfl rfl
theorem c_laneref1_in {n : Int} {low : Int} {high : Int} {r : Bool} (h : m_laneref1_in n low high = some r) : Pure Tryz.prog 61 [I n, I low, I high] (B r) := by
  refine Pure.enter (Fr.of 0 _) Tryz.func61 rfl (Fr.of_ok _) rfl rfl ?_
  refine go_in ?_
  unfold m_laneref1_in at h
  refine go hΓ 11 rfl ?_
  refine o_cut 4 [(6, B false), (14, B ((decide ((low : Int) ≤ n)) && (decide ((n : Int) ≤ high))))] [] ?_ ?_
  · refine eo_gsplit rfl rfl (fun hb => ?_) (fun hb => ?_)
    · refine go_ops hΓ 5 rfl ?_
      exact ⟨⟨rfl, get_b rfl (and_t hb), trivial⟩, [], rfl, .inl rfl⟩
    · refine go_ops hΓ 5 rfl ?_
      exact ⟨⟨rfl, get_b rfl (and_f hb), trivial⟩, [], rfl, .inl rfl⟩
  · refine go_ops hΓ 4 rfl ?_
    obtain rfl := Option.some.inj h
    exact fin_pure hΓ (.inr rfl) rfl rfl
set_option maxHeartbeats 8000000 in
theorem c_laneref1_RecordFault {v_r : T_api_Record} {r : Int} (h : m_laneref1_RecordFault v_r = some r) : Pure Tryz.prog 88 [.agg [S v_r.Name, I v_r.Kind, B v_r.Addr.Six, U v_r.Addr.Hi, U v_r.Addr.Lo, S v_r.To, S v_r.Words, I v_r.Life]] (I r) := by
  refine Pure.enter (Fr.of 0 _) Tryz.func88 rfl (Fr.of_ok _) rfl rfl ?_
  refine go_in ?_
  unfold m_laneref1_RecordFault at h
  refine go hΓ 2 rfl ?_
  refine eo_box rfl rfl rfl rfl (Nat.le_of_ble_eq_true rfl) ?_
  refine go_ops hΓ 11 rfl ?_
  obtain ⟨q1, hq1, h2⟩ := bi_ok h
  refine o_cut 6 [(1, .ptr 0 0), (15, B q1)] [.box 80 [S v_r.Name, I v_r.Kind, B v_r.Addr.Six, U v_r.Addr.Hi, U v_r.Addr.Lo, S v_r.To, S v_r.Words, I v_r.Life]] ?_ ?_
  · refine eo_gsplit rfl rfl (fun hb => ?_) (fun hb => ?_)
    · have h3 := cT hq1 hb
      refine go_ops hΓ 7 rfl ?_
      obtain rfl := Option.some.inj h3
      exact ⟨⟨rfl, rfl, trivial⟩, [], rfl, .inl rfl⟩
    · have h4 := cF hq1 hb
      obtain ⟨y5, hy5, h6⟩ := bi_ok h4
      refine go_ops hΓ 2 rfl ?_
      refine eo_guard rfl ?_
      refine eo_callP (callable Tryz.func169 rfl rfl) (c_strings_TrimPrefix hy5) rfl (Nat.le_of_ble_eq_true rfl) rfl rfl rfl rfl rfl ?_
      obtain ⟨y7, hy7, h8⟩ := bi_ok h6
      refine eo_guard rfl ?_
      refine eo_callP (callable Tryz.func87 rfl rfl) (c_laneref1_DomainFault hy7) rfl (Nat.le_of_ble_eq_true rfl) rfl rfl rfl rfl rfl ?_
      refine go_ops hΓ 3 rfl ?_
      obtain rfl := Option.some.inj h8
      exact ⟨⟨rfl, rfl, trivial⟩, [], rfl, .inl rfl⟩
  · refine go_ops hΓ 2 rfl ?_
    refine j_cond rfl (fun hb => ?_) (fun hb => ?_)
    · have h9 := cT h2 hb
      refine go hΓ 7 rfl ?_
      obtain rfl := Option.some.inj h9
      exact fin_pure hΓ (.inr rfl) rfl rfl
    · have h10 := cF h2 hb
      refine go hΓ 4 rfl ?_
      refine j_draw hmix (by kernel_rfl) ?_
      obtain ⟨y11, hy11, h12⟩ := bi_ok h10
      refine gl_callP (callable Tryz.func95 rfl rfl) (c_laneref1_Kinds hy11) rfl rfl rfl rfl rfl rfl ?_
      obtain ⟨y13, hy13, h14⟩ := bi_ok h12
      refine go_draw hΓ 2 rfl ?_
      refine gl_callP (callable Tryz.func133 rfl rfl) (c_slices_Contains_int_int hy13) rfl rfl rfl rfl rfl rfl ?_
      refine go_draw hΓ 3 rfl ?_
      refine j_cond rfl (fun hb => ?_) (fun hb => ?_)
      · have h15 := cT h14 hb
        refine go hΓ 7 rfl ?_
        obtain rfl := Option.some.inj h15
        exact fin_pure hΓ (.inr rfl) rfl rfl
      · have h16 := cF h14 hb
        obtain ⟨q17, hq17, h18⟩ := bi_ok h16
        refine go hΓ 3 rfl ?_
        refine j_cutNZ [(1, .ptr 0 0), (3, B q17), (4, B ((v_r.Kind : Int) == 28))] [.box 80 [S v_r.Name, I v_r.Kind, B v_r.Addr.Six, U v_r.Addr.Hi, U v_r.Addr.Lo, S v_r.To, S v_r.Words, I v_r.Life]] ?_ ?_
        · refine j_draw hmix (by kernel_rfl) ?_
          refine go hΓ 4 rfl ?_
          refine gl_gsplit rfl rfl (fun hb => ?_) (fun hb => ?_)
          · have h19 := cT hq17 hb
            refine go_draw hΓ 10 rfl ?_
            obtain rfl := Option.some.inj h19
            exact ⟨⟨rfl, rfl, rfl, trivial⟩, [], rfl, .inl rfl⟩
          · have h20 := cF hq17 hb
            refine go_draw hΓ 10 rfl ?_
            obtain rfl := Option.some.inj h20
            exact ⟨⟨rfl, rfl, rfl, trivial⟩, [], rfl, .inl rfl⟩
        · refine go hΓ 6 rfl ?_
          obtain ⟨q21, hq21, h22⟩ := bi_ok h18
          refine o_cut 12 [(1, .ptr 0 0), (3, B q17), (45, B q21)] [.box 80 [S v_r.Name, I v_r.Kind, B v_r.Addr.Six, U v_r.Addr.Hi, U v_r.Addr.Lo, S v_r.To, S v_r.Words, I v_r.Life]] ?_ ?_
          · refine eo_gsplit rfl rfl (fun hb => ?_) (fun hb => ?_)
            · have h23 := cT hq21 hb
              obtain ⟨y24, hy24, h25⟩ := bi_ok h23
              refine go_ops hΓ 2 rfl ?_
              refine eo_guard rfl ?_
              refine eo_callP (callable Tryz.func154 rfl rfl) (c_laneref2_AddrFault hy24) rfl (Nat.le_of_ble_eq_true rfl) rfl rfl rfl rfl rfl ?_
              refine go_ops hΓ 2 rfl ?_
              refine o_cut 6 [(1, .ptr 0 0), (3, B q17), (33, B true), (44, B (((y24 : Int) != 0) || (!((v_r.Addr.Six : Bool) == ((v_r.Kind : Int) == 28)))))] [.box 80 [S v_r.Name, I v_r.Kind, B v_r.Addr.Six, U v_r.Addr.Hi, U v_r.Addr.Lo, S v_r.To, S v_r.Words, I v_r.Life]] ?_ ?_
              · refine eo_gsplit rfl rfl (fun hb => ?_) (fun hb => ?_)
                · refine go_ops hΓ 7 rfl ?_
                  exact ⟨⟨rfl, rfl, rfl, get_b rfl (or_t hb), trivial⟩, [], rfl, .inl rfl⟩
                · refine go_ops hΓ 7 rfl ?_
                  exact ⟨⟨rfl, rfl, rfl, get_b rfl (or_f hb), trivial⟩, [], rfl, .inl rfl⟩
              · refine go_ops hΓ 2 rfl ?_
                obtain rfl := Option.some.inj h25
                exact ⟨⟨rfl, rfl, rfl, trivial⟩, [], rfl, .inl rfl⟩
            · have h26 := cF hq21 hb
              refine go_ops hΓ 13 rfl ?_
              obtain rfl := Option.some.inj h26
              exact ⟨⟨rfl, rfl, rfl, trivial⟩, [], rfl, .inl rfl⟩
          · refine go_ops hΓ 1 rfl ?_
            refine o_cut 9 [(1, .ptr 0 0), (55, B (q21 || ((!q17) && (!(((v_r.Addr.Six : Bool) == false) && (((v_r.Addr.Hi : Int) == 0) && (((v_r.Addr.Lo : Int) == 0) && true)))))))] [.box 80 [S v_r.Name, I v_r.Kind, B v_r.Addr.Six, U v_r.Addr.Hi, U v_r.Addr.Lo, S v_r.To, S v_r.Words, I v_r.Life]] ?_ ?_
            · refine eo_gsplit rfl rfl (fun hb => ?_) (fun hb => ?_)
              · refine go_ops hΓ 10 rfl ?_
                exact ⟨⟨rfl, get_b rfl (or_t hb), trivial⟩, [], rfl, .inl rfl⟩
              · refine go_ops hΓ 3 rfl ?_
                refine o_cut 5 [(1, .ptr 0 0), (46, B false), (54, B ((!q17) && (!(((v_r.Addr.Six : Bool) == false) && (((v_r.Addr.Hi : Int) == 0) && (((v_r.Addr.Lo : Int) == 0) && true))))))] [.box 80 [S v_r.Name, I v_r.Kind, B v_r.Addr.Six, U v_r.Addr.Hi, U v_r.Addr.Lo, S v_r.To, S v_r.Words, I v_r.Life]] ?_ ?_
                · refine eo_gsplit rfl rfl (fun hb => ?_) (fun hb => ?_)
                  · refine go_ops hΓ 2 rfl ?_
                    refine eo_guard rfl ?_
                    refine eo_build hΓ (gs := [B false, U 0, U 0]) rfl rfl rfl rfl rfl rfl rfl ?_
                    refine eo_guard rfl ?_
                    refine eo_o rfl (op_neS hΓ [39] (b := (((v_r.Addr.Six : Bool) == false) && (((v_r.Addr.Hi : Int) == 0) && (((v_r.Addr.Lo : Int) == 0) && true)))) (by kernel_rfl) (by kernel_rfl) rfl rfl rfl) ?_
                    refine go_ops hΓ 2 rfl ?_
                    exact ⟨⟨rfl, rfl, get_b rfl (and_t hb), trivial⟩, [], rfl, .inl rfl⟩
                  · refine go_ops hΓ 6 rfl ?_
                    exact ⟨⟨rfl, rfl, get_b rfl (and_f hb), trivial⟩, [], rfl, .inl rfl⟩
                · refine go_ops hΓ 2 rfl ?_
                  exact ⟨⟨rfl, get_b rfl (or_f hb), trivial⟩, [], rfl, .inl rfl⟩
            · refine go_ops hΓ 2 rfl ?_
              refine j_cond rfl (fun hb => ?_) (fun hb => ?_)
              · have h27 := cT h22 hb
                refine go hΓ 7 rfl ?_
                obtain rfl := Option.some.inj h27
                exact fin_pure hΓ (.inr rfl) rfl rfl
              · have h28 := cF h22 hb
                refine go hΓ 9 rfl ?_
                refine o_cut 4 [(1, .ptr 0 0), (63, B (((v_r.Kind : Int) == 5) || ((v_r.Kind : Int) == 12)))] [.box 80 [S v_r.Name, I v_r.Kind, B v_r.Addr.Six, U v_r.Addr.Hi, U v_r.Addr.Lo, S v_r.To, S v_r.Words, I v_r.Life]] ?_ ?_
                · refine eo_gsplit rfl rfl (fun hb => ?_) (fun hb => ?_)
                  · refine go_ops hΓ 5 rfl ?_
                    exact ⟨⟨rfl, get_b rfl (or_t hb), trivial⟩, [], rfl, .inl rfl⟩
                  · refine go_ops hΓ 5 rfl ?_
                    exact ⟨⟨rfl, get_b rfl (or_f hb), trivial⟩, [], rfl, .inl rfl⟩
                · obtain ⟨q29, hq29, h30⟩ := bi_ok h28
                  refine go_ops hΓ 2 rfl ?_
                  refine j_cutSZ (q := q29) (fun a31 => [(1, .ptr 0 0)]) (fun a31 => [.box 80 [S v_r.Name, I v_r.Kind, B v_r.Addr.Six, U v_r.Addr.Hi, U v_r.Addr.Lo, S v_r.To, S v_r.Words, I v_r.Life]]) ?_ ?_
                  · refine j_cond rfl (fun hb => ?_) (fun hb => ?_)
                    · have h32 := cT hq29 hb
                      obtain ⟨y33, hy33, h34⟩ := bi_ok h32
                      refine go hΓ 4 rfl ?_
                      refine eo_callP (callable Tryz.func87 rfl rfl) (c_laneref1_DomainFault hy33) rfl (Nat.le_of_ble_eq_true rfl) rfl rfl rfl rfl rfl ?_
                      refine go_ops hΓ 3 rfl ?_
                      refine j_cond rfl (fun hb => ?_) (fun hb => ?_)
                      · have h35 := cT h34 hb
                        refine go hΓ 6 rfl ?_
                        obtain ⟨v36, hv36, h37⟩ := bi_ok h35
                        obtain rfl := Option.some.inj h37
                        obtain rfl := Option.some.inj h30
                        refine go hΓ 2 rfl ?_
                        obtain rfl := Option.some.inj hv36
                        exact fin_pure hΓ (.inr rfl) rfl rfl
                      · have h38 := cF h34 hb
                        refine go hΓ 1 rfl ?_
                        obtain rfl := Option.some.inj h38
                        exact ⟨_, rfl, ⟨⟨rfl, trivial⟩, [], rfl, .inl rfl⟩⟩
                    · have h39 := cF hq29 hb
                      refine go hΓ 7 rfl ?_
                      refine j_cond rfl (fun hb => ?_) (fun hb => ?_)
                      · have h40 := cT h39 hb
                        refine go hΓ 6 rfl ?_
                        obtain ⟨v41, hv41, h42⟩ := bi_ok h40
                        obtain rfl := Option.some.inj h42
                        obtain rfl := Option.some.inj h30
                        refine go hΓ 2 rfl ?_
                        obtain rfl := Option.some.inj hv41
                        exact fin_pure hΓ (.inr rfl) rfl rfl
                      · have h43 := cF h39 hb
                        refine go hΓ 1 rfl ?_
                        obtain rfl := Option.some.inj h43
                        exact ⟨_, rfl, ⟨⟨rfl, trivial⟩, [], rfl, .inl rfl⟩⟩
                  · intro a31 ha
                    subst ha
                    replace h30 := orI_l h30
                    refine go hΓ 8 rfl ?_
                    refine o_cut 4 [(1, .ptr 0 0), (78, B (((v_r.Kind : Int) != 16) && (!((v_r.Words : Str) == []))))] [.box 80 [S v_r.Name, I v_r.Kind, B v_r.Addr.Six, U v_r.Addr.Hi, U v_r.Addr.Lo, S v_r.To, S v_r.Words, I v_r.Life]] ?_ ?_
                    · refine eo_gsplit rfl rfl (fun hb => ?_) (fun hb => ?_)
                      · refine go_ops hΓ 5 rfl ?_
                        exact ⟨⟨rfl, get_b rfl (and_t hb), trivial⟩, [], rfl, .inl rfl⟩
                      · refine go_ops hΓ 5 rfl ?_
                        exact ⟨⟨rfl, get_b rfl (and_f hb), trivial⟩, [], rfl, .inl rfl⟩
                    · refine go_ops hΓ 1 rfl ?_
                      obtain ⟨q44, hq44, h45⟩ := bi_ok h30
                      refine o_cut 5 [(1, .ptr 0 0), (84, B q44)] [.box 80 [S v_r.Name, I v_r.Kind, B v_r.Addr.Six, U v_r.Addr.Hi, U v_r.Addr.Lo, S v_r.To, S v_r.Words, I v_r.Life]] ?_ ?_
                      · refine eo_gsplit rfl rfl (fun hb => ?_) (fun hb => ?_)
                        · have h46 := cT hq44 hb
                          refine go_ops hΓ 6 rfl ?_
                          obtain rfl := Option.some.inj h46
                          exact ⟨⟨rfl, rfl, trivial⟩, [], rfl, .inl rfl⟩
                        · have h47 := cF hq44 hb
                          obtain ⟨y48, hy48, h49⟩ := bi_ok h47
                          refine go_ops hΓ 2 rfl ?_
                          refine eo_guard rfl ?_
                          refine eo_callP (callable Tryz.func180 rfl rfl) (c_laneref1_plain hy48) rfl (Nat.le_of_ble_eq_true rfl) rfl rfl rfl rfl rfl ?_
                          refine go_ops hΓ 3 rfl ?_
                          obtain rfl := Option.some.inj h49
                          exact ⟨⟨rfl, rfl, trivial⟩, [], rfl, .inl rfl⟩
                      · refine go_ops hΓ 1 rfl ?_
                        refine o_cut 5 [(1, .ptr 0 0), (90, B (q44 || (decide (((v_r.Words.length : Int) : Int) > 200))))] [.box 80 [S v_r.Name, I v_r.Kind, B v_r.Addr.Six, U v_r.Addr.Hi, U v_r.Addr.Lo, S v_r.To, S v_r.Words, I v_r.Life]] ?_ ?_
                        · refine eo_gsplit rfl rfl (fun hb => ?_) (fun hb => ?_)
                          · refine go_ops hΓ 6 rfl ?_
                            exact ⟨⟨rfl, get_b rfl (or_t hb), trivial⟩, [], rfl, .inl rfl⟩
                          · refine go_ops hΓ 6 rfl ?_
                            exact ⟨⟨rfl, get_b rfl (or_f hb), trivial⟩, [], rfl, .inl rfl⟩
                        · refine go_ops hΓ 2 rfl ?_
                          refine j_cond rfl (fun hb => ?_) (fun hb => ?_)
                          · have h50 := cT h45 hb
                            refine go hΓ 7 rfl ?_
                            obtain rfl := Option.some.inj h50
                            exact fin_pure hΓ (.inr rfl) rfl rfl
                          · have h51 := cF h45 hb
                            obtain ⟨y52, hy52, h53⟩ := bi_ok h51
                            refine go hΓ 7 rfl ?_
                            refine eo_callP (callable Tryz.func61 rfl rfl) (c_laneref1_in hy52) rfl (Nat.le_of_ble_eq_true rfl) rfl rfl rfl rfl rfl ?_
                            refine go_ops hΓ 3 rfl ?_
                            refine j_cond rfl (fun hb => ?_) (fun hb => ?_)
                            · have h54 := cT h53 hb
                              refine go hΓ 7 rfl ?_
                              obtain rfl := Option.some.inj h54
                              exact fin_pure hΓ (.inr rfl) rfl rfl
                            · have h55 := cF h53 hb
                              refine go hΓ 8 rfl ?_
                              obtain rfl := Option.some.inj h55
                              exact fin_pure hΓ (.inr rfl) rfl rfl
theorem c_laneref1_Cache_drop_1 {v_k : T_laneref1_kept} {x : Int} {r : Bool} (h : m_laneref1_Cache_drop_1 v_k x = some r) : EC Tryz.prog 222 [.agg [S v_k.name, I v_k.kind, I v_k.v_at, I v_k.v_end, .d (Sl e_api_Record v_k.l), I v_k.used], .ptr 0 0] [.box 3 [I x]] fun g hp' => g = B r ∧ hp' = [.box 3 [I x]] := by
  refine ec_enter (Fr.of 0 _) Tryz.func222 rfl (Fr.of_ok _) (Nat.le_of_ble_eq_true rfl) fun _ => ?_
  refine go_in ?_
  unfold m_laneref1_Cache_drop_1 at h
  refine go hΓ 2 rfl ?_
  refine eo_box rfl rfl rfl rfl (Nat.le_of_ble_eq_true rfl) ?_
  refine go_ops hΓ 13 rfl ?_
  obtain rfl := Option.some.inj h
  exact fin_objs hΓ [_] (.inr rfl) rfl rfl rfl rfl (.inr ⟨HB.mk rfl, rfl⟩)
theorem c_slices_IndexFunc_laneref1_kept_laneref1_kept {s : List T_laneref1_kept} {f : Int} {r : Int} (h : m_slices_IndexFunc_laneref1_kept_laneref1_kept s f = some r) : EC Tryz.prog 223 [.sv 0 s.length, .fn (.func 222) [] [.ptr 1 0]] [.rowv 185 6 s.length (s.flatMap e_laneref1_kept), .box 3 [I f]] fun g hp' => g = I r ∧ hp' = [.rowv 185 6 s.length (s.flatMap e_laneref1_kept), .box 3 [I f]] := by
  refine ec_enter (Fr.of 0 _) Tryz.func223 rfl (Fr.of_ok _) (Nat.le_of_ble_eq_true rfl) fun _ => ?_
  refine go_in ?_
  unfold m_slices_IndexFunc_laneref1_kept_laneref1_kept at h
  refine go hΓ 13 rfl ?_
  obtain ⟨q4, hq4, h5⟩ := bi_ok h
  obtain ⟨hb7, h8⟩ := gd_ok hq4
  replace hb7 := of_decide_eq_true hb7
  refine j_cutEZ (R := fun a6 => q4 = .go a6) (fun a6 => []) (fun a6 => [.rowv 185 6 s.length (s.flatMap e_laneref1_kept), .box 3 [I f]]) ?_ ?_
  · refine go hΓ 1 rfl ?_
    refine j_rangeI h8 (fun i1 s2 => [(0, .sv 0 s.length), (1, .fn (.func 222) [] [.ptr 1 0]), (7, I (s.length : Int)), (8, I (i1 : Int))]) (fun s2 => [.rowv 185 6 s.length (s.flatMap e_laneref1_kept), .box 3 [I f]]) ⟨⟨rfl, rfl, rfl, rfl, trivial⟩, [], rfl, .inl rfl⟩ (fun i1 s2 y12 hlt hy10 hout11 => ?_) (fun s2 hgo hge => ?_)
    · refine go hΓ 6 rfl ?_
      refine j_condT rfl (decide_eq_true hlt) ?_
      obtain ⟨x13, hx13, h14⟩ := bi_ok hy10
      have hj15 := getZ_at hx13
      refine go hΓ 15 rfl ?_
      refine eo_o rfl (op_elemRowV hΓ hx13 rfl rfl rfl rfl rfl rfl) ?_
      refine eo_o rfl (op_loadRowV hΓ (enc := e_laneref1_kept) ((i1 : Int).toNat) 0 hj15 rfl rfl rfl rfl (fun _ => rfl) (g := .agg [S x13.name, I x13.kind, I x13.v_at, I x13.v_end, .d (Sl e_api_Record x13.l), I x13.used]) rfl) ?_
      obtain ⟨y16, hy16, h17⟩ := bi_ok h14
      refine eo_callF [1] (B y16) [.rowv 185 6 s.length (s.flatMap e_laneref1_kept), .box 3 [I f]] (callable Tryz.func222 rfl rfl) (c_laneref1_Cache_drop_1 hy16) rfl (Nat.le_of_ble_eq_true rfl) rfl rfl rfl rfl rfl rfl rfl rfl rfl rfl ?_
      refine go_ops hΓ 2 rfl ?_
      refine j_cond rfl (fun hb => ?_) (fun hb => ?_)
      · have h18 := cT h17 hb
        refine go hΓ 9 rfl ?_
        obtain ⟨v19, hv19, h20⟩ := bi_ok h18
        obtain rfl := Option.some.inj h20
        obtain rfl := hout11 _ rfl
        obtain rfl := Option.some.inj h5
        refine go hΓ 4 rfl ?_
        obtain rfl := Option.some.inj hv19
        exact fin_objs hΓ [] (.inr rfl) rfl rfl rfl rfl (.inl rfl)
      · have h21 := cF h17 hb
        refine go hΓ 7 rfl ?_
        obtain rfl := Option.some.inj h21
        exact ⟨_, rfl, ⟨⟨rfl, rfl, rfl, get_eq rfl (w64_succ (by omega)), trivial⟩, [], rfl, .inl rfl⟩⟩
    · subst hgo
      refine go hΓ 6 rfl ?_
      refine j_condF rfl (decide_eq_false hge) ?_
      refine go hΓ 4 rfl ?_
      exact ⟨_, rfl, ⟨trivial, [], rfl, .inl rfl⟩⟩
  · intro a6 ha
    subst ha
    replace h5 := goI_l h5
    refine go hΓ 7 rfl ?_
    obtain rfl := Option.some.inj h5
    exact fin_objs hΓ [] (.inr rfl) rfl rfl rfl rfl (.inl rfl)
set_option maxHeartbeats 8000000 in
theorem c_slices_DeleteFunc_laneref1_kept_laneref1_kept {k : Nat} {s : List T_laneref1_kept} {f : Int} {r : List T_laneref1_kept} (h : m_slices_DeleteFunc_laneref1_kept_laneref1_kept k s f = some r) : EC Tryz.prog 135 [.sv 0 s.length, .fn (.func 222) [] [.ptr 1 0]] [.rowv 185 6 s.length (s.flatMap e_laneref1_kept), .box 3 [I f]] fun g hp' => g = .sv 0 r.length ∧ hp' = [.rowv 185 6 r.length (r.flatMap e_laneref1_kept), .box 3 [I f]] := by
  refine ec_enter (Fr.of 0 _) Tryz.func135 rfl (Fr.of_ok _) (Nat.le_of_ble_eq_true rfl) fun _ => ?_
  refine go_in ?_
  unfold m_slices_DeleteFunc_laneref1_kept_laneref1_kept at h
  refine go hΓ 2 rfl ?_
  refine eo_nilOwnV (t := 0) 185 6 rfl (Nat.le_of_ble_eq_true rfl) ?_
  obtain ⟨y1, hy1, h2⟩ := bi_ok h
  refine go_ops hΓ 6 rfl ?_
  refine eo_callF [0, 1] (I y1) [.rowv 185 6 s.length (s.flatMap e_laneref1_kept), .box 3 [I f], .rowv 185 6 ([] : List T_laneref1_kept).length (([] : List T_laneref1_kept).flatMap e_laneref1_kept)] (callable Tryz.func223 rfl rfl) (c_slices_IndexFunc_laneref1_kept_laneref1_kept hy1) rfl (Nat.le_of_ble_eq_true rfl) rfl rfl rfl rfl rfl rfl rfl rfl rfl rfl ?_
  refine go_ops hΓ 10 rfl ?_
  refine j_cond rfl (fun hb => ?_) (fun hb => ?_)
  · have h3 := cT h2 hb
    refine go hΓ 8 rfl ?_
    obtain rfl := Option.some.inj h3
    exact fin_objs hΓ [_] (.inr rfl) rfl rfl rfl rfl (.inr ⟨HB.mk rfl, rfl⟩)
  · have h4 := cF h2 hb
    refine go hΓ 10 rfl ?_
    obtain ⟨q8, hq8, h9⟩ := bi_ok h4
    refine j_cutNZ [(0, .sv 0 q8.1.length), (5, I q8.2)] [.rowv 185 6 q8.1.length (q8.1.flatMap e_laneref1_kept), .box 3 [I f], .rowv 185 6 ([] : List T_laneref1_kept).length (([] : List T_laneref1_kept).flatMap e_laneref1_kept)] ?_ ?_
    · refine go hΓ 1 rfl ?_
      refine j_loop hq8 (fun s6 => [(0, .sv 0 s6.1.length), (1, .fn (.func 222) [] [.ptr 1 0]), (5, I s6.2.1), (6, I s6.2.2)]) (fun s6 => [.rowv 185 6 s6.1.length (s6.1.flatMap e_laneref1_kept), .box 3 [I f], .rowv 185 6 ([] : List T_laneref1_kept).length (([] : List T_laneref1_kept).flatMap e_laneref1_kept)]) ⟨⟨rfl, rfl, rfl, rfl, trivial⟩, [], rfl, .inl rfl⟩ (fun s6 y14 hy12 hout13 => ?_)
      refine go hΓ 9 rfl ?_
      refine j_cond rfl (fun hb => ?_) (fun hb => ?_)
      · have h15 := cT hy12 hb
        obtain ⟨x16, hx16, h17⟩ := bi_ok h15
        have hj18 := getZ_at hx16
        refine go hΓ 8 rfl ?_
        refine eo_o rfl (op_elemRowV hΓ hx16 rfl rfl rfl rfl rfl rfl) ?_
        refine eo_o rfl (op_loadRowV hΓ (enc := e_laneref1_kept) s6.2.2.toNat 0 hj18 rfl rfl rfl rfl (fun _ => rfl) (g := .agg [S x16.name, I x16.kind, I x16.v_at, I x16.v_end, .d (Sl e_api_Record x16.l), I x16.used]) rfl) ?_
        refine eo_alloc hΓ rfl rfl rfl (Nat.le_of_ble_eq_true rfl) ?_
        refine eo_store hΓ rfl rfl rfl rfl rfl rfl rfl rfl (Nat.le_of_ble_eq_true rfl) ?_
        refine eo_hp [.rowv 185 6 s6.1.length (s6.1.flatMap e_laneref1_kept), .box 3 [I f], .rowv 185 6 ([] : List T_laneref1_kept).length (([] : List T_laneref1_kept).flatMap e_laneref1_kept), .box 185 [S x16.name, I x16.kind, I x16.v_at, I x16.v_end, .d (Sl e_api_Record x16.l), I x16.used]] rfl ?_
        obtain ⟨y19, hy19, h20⟩ := bi_ok h17
        refine go_ops hΓ 6 rfl ?_
        refine eo_callF [1] (B y19) [.rowv 185 6 s6.1.length (s6.1.flatMap e_laneref1_kept), .box 3 [I f], .rowv 185 6 ([] : List T_laneref1_kept).length (([] : List T_laneref1_kept).flatMap e_laneref1_kept), .box 185 [S x16.name, I x16.kind, I x16.v_at, I x16.v_end, .d (Sl e_api_Record x16.l), I x16.used]] (callable Tryz.func222 rfl rfl) (c_laneref1_Cache_drop_1 hy19) rfl (Nat.le_of_ble_eq_true rfl) rfl rfl rfl rfl rfl rfl rfl rfl rfl rfl ?_
        refine go_ops hΓ 3 rfl ?_
        refine j_cond rfl (fun hb => ?_) (fun hb => ?_)
        · have h21 := cT h20 hb
          obtain ⟨x22, hx22, h23⟩ := bi_ok h21
          have hj24 := getZ_at hx22
          refine go hΓ 5 rfl ?_
          refine eo_o rfl (op_elemRowV hΓ hx22 rfl rfl rfl rfl rfl rfl) ?_
          refine eo_storeRowV hΓ (enc := e_laneref1_kept) (z' := x16) s6.2.1.toNat 0 hj24 rfl rfl rfl rfl (fun _ => rfl) rfl rfl rfl rfl rfl rfl (Nat.le_of_ble_eq_true rfl) ?_
          refine eo_hp [.rowv 185 6 (s6.1.set s6.2.1.toNat x16).length ((s6.1.set s6.2.1.toNat x16).flatMap e_laneref1_kept), .box 3 [I f], .rowv 185 6 ([] : List T_laneref1_kept).length (([] : List T_laneref1_kept).flatMap e_laneref1_kept), .box 185 [S x16.name, I x16.kind, I x16.v_at, I x16.v_end, .d (Sl e_api_Record x16.l), I x16.used]] rfl ?_
          refine eo_relenV 0 (n' := (s6.1.set s6.2.1.toNat x16).length) rfl List.length_set.symm ?_
          refine go_ops hΓ 14 rfl ?_
          obtain rfl := Option.some.inj h23
          exact ⟨_, rfl, ⟨⟨rfl, rfl, rfl, rfl, trivial⟩, [_], rfl, .inr ⟨HB.mk rfl, FB.mk rfl, (Nat.le_of_ble_eq_true rfl)⟩⟩⟩
        · have h25 := cF h20 hb
          refine go hΓ 8 rfl ?_
          obtain rfl := Option.some.inj h25
          exact ⟨_, rfl, ⟨⟨rfl, rfl, rfl, rfl, trivial⟩, [_], rfl, .inr ⟨HB.mk rfl, FB.mk rfl, (Nat.le_of_ble_eq_true rfl)⟩⟩⟩
      · have h26 := cF hy12 hb
        refine go hΓ 4 rfl ?_
        obtain rfl := Option.some.inj h26
        obtain rfl := hout13 _ rfl
        exact ⟨⟨rfl, rfl, trivial⟩, [], rfl, .inl rfl⟩
    · obtain ⟨z27, hz27, h28⟩ := bi_ok h9
      refine go hΓ 5 rfl ?_
      refine eo_o rfl (op_viewV hΓ hz27 rfl rfl rfl rfl rfl rfl) ?_
      refine eo_s0 (Nat.le_of_ble_eq_true rfl) (ops_clearV hΓ (enc := e_laneref1_kept) (a := q8.2) hz27 rfl rfl rfl rfl rfl rfl rfl rfl rfl (fun _ => rfl)) ?_
      refine go_ops hΓ 6 rfl ?_
      refine eo_subCutV hΓ hz27 rfl rfl rfl rfl rfl rfl rfl rfl ?_
      refine go_ops hΓ 4 rfl ?_
      obtain rfl := Option.some.inj h28
      exact fin_objs hΓ [_] (.inr rfl) rfl rfl rfl rfl (.inr ⟨HB.mk rfl, rfl⟩)
theorem c_laneref1_Cache_drop {k : Nat} {c : T_laneref1_Cache} {v_at : Int} {r : T_laneref1_Cache} (h : m_laneref1_Cache_drop k c v_at = some r) : EC Tryz.prog 134 [.ptr 1 0, I v_at] [.rowv 185 6 c.l.length (c.l.flatMap e_laneref1_kept), .box 170 [I c.most, I c.now, I c.calls, .sv 0 c.l.length]] fun g hp' => g = .tup [] ∧ hp' = [.rowv 185 6 r.l.length (r.l.flatMap e_laneref1_kept), .box 170 [I r.most, I r.now, I r.calls, .sv 0 r.l.length]] := by
  refine ec_enterC (Fr.of 0 _) Tryz.func134 rfl (Fr.of_ok _) (Nat.le_of_ble_eq_true rfl) fun _ => ?_
  refine go_in ?_
  unfold m_laneref1_Cache_drop at h
  refine go hΓ 2 rfl ?_
  refine eo_box rfl rfl rfl rfl (Nat.le_of_ble_eq_true rfl) ?_
  refine go_ops hΓ 8 rfl ?_
  refine eo_store hΓ rfl rfl rfl rfl rfl rfl rfl rfl (Nat.le_of_ble_eq_true rfl) ?_
  refine eo_hp [.rowv 185 6 c.l.length (c.l.flatMap e_laneref1_kept), .box 170 [I c.most, I v_at, I c.calls, .sv 0 c.l.length], .box 3 [I v_at]] rfl ?_
  refine go_ops hΓ 11 rfl ?_
  refine eo_store hΓ rfl rfl rfl rfl rfl rfl rfl rfl (Nat.le_of_ble_eq_true rfl) ?_
  refine eo_hp [.rowv 185 6 c.l.length (c.l.flatMap e_laneref1_kept), .box 170 [I c.most, I v_at, I (wi (c.calls + 1)), .sv 0 c.l.length], .box 3 [I v_at]] rfl ?_
  obtain ⟨y1, hy1, h2⟩ := bi_ok h
  refine go_ops hΓ 9 rfl ?_
  refine eo_forg 0 [.rowv 185 6 c.l.length (c.l.flatMap e_laneref1_kept), .box 170 [I c.most, I v_at, I (wi (c.calls + 1)), .junk], .box 3 [I v_at]] rfl (Nat.le_of_ble_eq_true rfl) ?_
  refine eo_callF [0, 2] (.sv 0 y1.length) [.rowv 185 6 y1.length (y1.flatMap e_laneref1_kept), .box 170 [I c.most, I v_at, I (wi (c.calls + 1)), .junk], .box 3 [I v_at]] (callable Tryz.func135 rfl rfl) (c_slices_DeleteFunc_laneref1_kept_laneref1_kept hy1) rfl (Nat.le_of_ble_eq_true rfl) rfl rfl rfl rfl rfl rfl rfl rfl rfl rfl ?_
  refine go_ops hΓ 2 rfl ?_
  refine eo_store hΓ rfl rfl rfl rfl rfl rfl rfl rfl (Nat.le_of_ble_eq_true rfl) ?_
  refine eo_hp [.rowv 185 6 y1.length (y1.flatMap e_laneref1_kept), .box 170 [I c.most, I v_at, I (wi (c.calls + 1)), .sv 0 y1.length], .box 3 [I v_at]] rfl ?_
  refine go_ops hΓ 1 rfl ?_
  refine cv_here ?_
  obtain rfl := Option.some.inj h2
  exact fin_objs hΓ [_] (.inl rfl) rfl rfl rfl rfl (.inr ⟨HB.mk rfl, rfl⟩)
theorem c_laneref1_Cache_Put_1 {v_k : T_laneref1_kept} {x : Str} {x2 : Int} {r : Bool} (h : m_laneref1_Cache_Put_1 v_k x x2 = some r) : EC Tryz.prog 136 [.agg [S v_k.name, I v_k.kind, I v_k.v_at, I v_k.v_end, .d (Sl e_api_Record v_k.l), I v_k.used], .ptr 0 0, .ptr 1 0] [.box 9 [S x], .box 3 [I x2]] fun g hp' => g = B r ∧ hp' = [.box 9 [S x], .box 3 [I x2]] := by
  refine ec_enter (Fr.of 0 _) Tryz.func136 rfl (Fr.of_ok _) (Nat.le_of_ble_eq_true rfl) fun _ => ?_
  refine go_in ?_
  unfold m_laneref1_Cache_Put_1 at h
  refine go hΓ 2 rfl ?_
  refine eo_box rfl rfl rfl rfl (Nat.le_of_ble_eq_true rfl) ?_
  refine go_ops hΓ 10 rfl ?_
  refine o_cut 5 [(4, B false), (14, B (((v_k.name : Str) == x) && ((v_k.kind : Int) == x2)))] [.box 9 [S x], .box 3 [I x2], .box 185 [S v_k.name, I v_k.kind, I v_k.v_at, I v_k.v_end, .d (Sl e_api_Record v_k.l), I v_k.used]] ?_ ?_
  · refine eo_gsplit rfl rfl (fun hb => ?_) (fun hb => ?_)
    · refine go_ops hΓ 6 rfl ?_
      exact ⟨⟨rfl, get_b rfl (and_t hb), trivial⟩, [], rfl, .inl rfl⟩
    · refine go_ops hΓ 6 rfl ?_
      exact ⟨⟨rfl, get_b rfl (and_f hb), trivial⟩, [], rfl, .inl rfl⟩
  · refine go_ops hΓ 4 rfl ?_
    obtain rfl := Option.some.inj h
    exact fin_objs hΓ [_] (.inr rfl) rfl rfl rfl rfl (.inr ⟨HB.mk rfl, rfl⟩)
theorem c_slices_IndexFunc_laneref1_kept_laneref1_kept_2 {s : List T_laneref1_kept} {f : Str} {f2 : Int} {r : Int} (h : m_slices_IndexFunc_laneref1_kept_laneref1_kept_2 s f f2 = some r) : EC Tryz.prog 223 [.sv 0 s.length, .fn (.func 136) [] [.ptr 1 0, .ptr 2 0]] [.rowv 185 6 s.length (s.flatMap e_laneref1_kept), .box 9 [S f], .box 3 [I f2]] fun g hp' => g = I r ∧ hp' = [.rowv 185 6 s.length (s.flatMap e_laneref1_kept), .box 9 [S f], .box 3 [I f2]] := by
  refine ec_enter (Fr.of 0 _) Tryz.func223 rfl (Fr.of_ok _) (Nat.le_of_ble_eq_true rfl) fun _ => ?_
  refine go_in ?_
  unfold m_slices_IndexFunc_laneref1_kept_laneref1_kept_2 at h
  refine go hΓ 13 rfl ?_
  obtain ⟨q4, hq4, h5⟩ := bi_ok h
  obtain ⟨hb7, h8⟩ := gd_ok hq4
  replace hb7 := of_decide_eq_true hb7
  refine j_cutEZ (R := fun a6 => q4 = .go a6) (fun a6 => []) (fun a6 => [.rowv 185 6 s.length (s.flatMap e_laneref1_kept), .box 9 [S f], .box 3 [I f2]]) ?_ ?_
  · refine go hΓ 1 rfl ?_
    refine j_rangeI h8 (fun i1 s2 => [(0, .sv 0 s.length), (1, .fn (.func 136) [] [.ptr 1 0, .ptr 2 0]), (7, I (s.length : Int)), (8, I (i1 : Int))]) (fun s2 => [.rowv 185 6 s.length (s.flatMap e_laneref1_kept), .box 9 [S f], .box 3 [I f2]]) ⟨⟨rfl, rfl, rfl, rfl, trivial⟩, [], rfl, .inl rfl⟩ (fun i1 s2 y12 hlt hy10 hout11 => ?_) (fun s2 hgo hge => ?_)
    · refine go hΓ 6 rfl ?_
      refine j_condT rfl (decide_eq_true hlt) ?_
      obtain ⟨x13, hx13, h14⟩ := bi_ok hy10
      have hj15 := getZ_at hx13
      refine go hΓ 15 rfl ?_
      refine eo_o rfl (op_elemRowV hΓ hx13 rfl rfl rfl rfl rfl rfl) ?_
      refine eo_o rfl (op_loadRowV hΓ (enc := e_laneref1_kept) ((i1 : Int).toNat) 0 hj15 rfl rfl rfl rfl (fun _ => rfl) (g := .agg [S x13.name, I x13.kind, I x13.v_at, I x13.v_end, .d (Sl e_api_Record x13.l), I x13.used]) rfl) ?_
      obtain ⟨y16, hy16, h17⟩ := bi_ok h14
      refine eo_callF [1, 2] (B y16) [.rowv 185 6 s.length (s.flatMap e_laneref1_kept), .box 9 [S f], .box 3 [I f2]] (callable Tryz.func136 rfl rfl) (c_laneref1_Cache_Put_1 hy16) rfl (Nat.le_of_ble_eq_true rfl) rfl rfl rfl rfl rfl rfl rfl rfl rfl rfl ?_
      refine go_ops hΓ 2 rfl ?_
      refine j_cond rfl (fun hb => ?_) (fun hb => ?_)
      · have h18 := cT h17 hb
        refine go hΓ 9 rfl ?_
        obtain ⟨v19, hv19, h20⟩ := bi_ok h18
        obtain rfl := Option.some.inj h20
        obtain rfl := hout11 _ rfl
        obtain rfl := Option.some.inj h5
        refine go hΓ 4 rfl ?_
        obtain rfl := Option.some.inj hv19
        exact fin_objs hΓ [] (.inr rfl) rfl rfl rfl rfl (.inl rfl)
      · have h21 := cF h17 hb
        refine go hΓ 7 rfl ?_
        obtain rfl := Option.some.inj h21
        exact ⟨_, rfl, ⟨⟨rfl, rfl, rfl, get_eq rfl (w64_succ (by omega)), trivial⟩, [], rfl, .inl rfl⟩⟩
    · subst hgo
      refine go hΓ 6 rfl ?_
      refine j_condF rfl (decide_eq_false hge) ?_
      refine go hΓ 4 rfl ?_
      exact ⟨_, rfl, ⟨trivial, [], rfl, .inl rfl⟩⟩
  · intro a6 ha
    subst ha
    replace h5 := goI_l h5
    refine go hΓ 7 rfl ?_
    obtain rfl := Option.some.inj h5
    exact fin_objs hΓ [] (.inr rfl) rfl rfl rfl rfl (.inl rfl)
set_option maxHeartbeats 8000000 in
theorem c_slices_DeleteFunc_laneref1_kept_laneref1_kept_2 {k : Nat} {s : List T_laneref1_kept} {f : Str} {f2 : Int} {r : List T_laneref1_kept} (h : m_slices_DeleteFunc_laneref1_kept_laneref1_kept_2 k s f f2 = some r) : EC Tryz.prog 135 [.sv 0 s.length, .fn (.func 136) [] [.ptr 1 0, .ptr 2 0]] [.rowv 185 6 s.length (s.flatMap e_laneref1_kept), .box 9 [S f], .box 3 [I f2]] fun g hp' => g = .sv 0 r.length ∧ hp' = [.rowv 185 6 r.length (r.flatMap e_laneref1_kept), .box 9 [S f], .box 3 [I f2]] := by
  refine ec_enter (Fr.of 0 _) Tryz.func135 rfl (Fr.of_ok _) (Nat.le_of_ble_eq_true rfl) fun _ => ?_
  refine go_in ?_
  unfold m_slices_DeleteFunc_laneref1_kept_laneref1_kept_2 at h
  refine go hΓ 2 rfl ?_
  refine eo_nilOwnV (t := 0) 185 6 rfl (Nat.le_of_ble_eq_true rfl) ?_
  obtain ⟨y1, hy1, h2⟩ := bi_ok h
  refine go_ops hΓ 6 rfl ?_
  refine eo_callF [0, 1, 2] (I y1) [.rowv 185 6 s.length (s.flatMap e_laneref1_kept), .box 9 [S f], .box 3 [I f2], .rowv 185 6 ([] : List T_laneref1_kept).length (([] : List T_laneref1_kept).flatMap e_laneref1_kept)] (callable Tryz.func223 rfl rfl) (c_slices_IndexFunc_laneref1_kept_laneref1_kept_2 hy1) rfl (Nat.le_of_ble_eq_true rfl) rfl rfl rfl rfl rfl rfl rfl rfl rfl rfl ?_
  refine go_ops hΓ 10 rfl ?_
  refine j_cond rfl (fun hb => ?_) (fun hb => ?_)
  · have h3 := cT h2 hb
    refine go hΓ 8 rfl ?_
    obtain rfl := Option.some.inj h3
    exact fin_objs hΓ [_] (.inr rfl) rfl rfl rfl rfl (.inr ⟨HB.mk rfl, rfl⟩)
  · have h4 := cF h2 hb
    refine go hΓ 10 rfl ?_
    obtain ⟨q8, hq8, h9⟩ := bi_ok h4
    refine j_cutNZ [(0, .sv 0 q8.1.length), (5, I q8.2)] [.rowv 185 6 q8.1.length (q8.1.flatMap e_laneref1_kept), .box 9 [S f], .box 3 [I f2], .rowv 185 6 ([] : List T_laneref1_kept).length (([] : List T_laneref1_kept).flatMap e_laneref1_kept)] ?_ ?_
    · refine go hΓ 1 rfl ?_
      refine j_loop hq8 (fun s6 => [(0, .sv 0 s6.1.length), (1, .fn (.func 136) [] [.ptr 1 0, .ptr 2 0]), (5, I s6.2.1), (6, I s6.2.2)]) (fun s6 => [.rowv 185 6 s6.1.length (s6.1.flatMap e_laneref1_kept), .box 9 [S f], .box 3 [I f2], .rowv 185 6 ([] : List T_laneref1_kept).length (([] : List T_laneref1_kept).flatMap e_laneref1_kept)]) ⟨⟨rfl, rfl, rfl, rfl, trivial⟩, [], rfl, .inl rfl⟩ (fun s6 y14 hy12 hout13 => ?_)
      refine go hΓ 9 rfl ?_
      refine j_cond rfl (fun hb => ?_) (fun hb => ?_)
      · have h15 := cT hy12 hb
        obtain ⟨x16, hx16, h17⟩ := bi_ok h15
        have hj18 := getZ_at hx16
        refine go hΓ 8 rfl ?_
        refine eo_o rfl (op_elemRowV hΓ hx16 rfl rfl rfl rfl rfl rfl) ?_
        refine eo_o rfl (op_loadRowV hΓ (enc := e_laneref1_kept) s6.2.2.toNat 0 hj18 rfl rfl rfl rfl (fun _ => rfl) (g := .agg [S x16.name, I x16.kind, I x16.v_at, I x16.v_end, .d (Sl e_api_Record x16.l), I x16.used]) rfl) ?_
        refine eo_alloc hΓ rfl rfl rfl (Nat.le_of_ble_eq_true rfl) ?_
        refine eo_store hΓ rfl rfl rfl rfl rfl rfl rfl rfl (Nat.le_of_ble_eq_true rfl) ?_
        refine eo_hp [.rowv 185 6 s6.1.length (s6.1.flatMap e_laneref1_kept), .box 9 [S f], .box 3 [I f2], .rowv 185 6 ([] : List T_laneref1_kept).length (([] : List T_laneref1_kept).flatMap e_laneref1_kept), .box 185 [S x16.name, I x16.kind, I x16.v_at, I x16.v_end, .d (Sl e_api_Record x16.l), I x16.used]] rfl ?_
        obtain ⟨y19, hy19, h20⟩ := bi_ok h17
        refine go_ops hΓ 6 rfl ?_
        refine eo_callF [1, 2] (B y19) [.rowv 185 6 s6.1.length (s6.1.flatMap e_laneref1_kept), .box 9 [S f], .box 3 [I f2], .rowv 185 6 ([] : List T_laneref1_kept).length (([] : List T_laneref1_kept).flatMap e_laneref1_kept), .box 185 [S x16.name, I x16.kind, I x16.v_at, I x16.v_end, .d (Sl e_api_Record x16.l), I x16.used]] (callable Tryz.func136 rfl rfl) (c_laneref1_Cache_Put_1 hy19) rfl (Nat.le_of_ble_eq_true rfl) rfl rfl rfl rfl rfl rfl rfl rfl rfl rfl ?_
        refine go_ops hΓ 3 rfl ?_
        refine j_cond rfl (fun hb => ?_) (fun hb => ?_)
        · have h21 := cT h20 hb
          obtain ⟨x22, hx22, h23⟩ := bi_ok h21
          have hj24 := getZ_at hx22
          refine go hΓ 5 rfl ?_
          refine eo_o rfl (op_elemRowV hΓ hx22 rfl rfl rfl rfl rfl rfl) ?_
          refine eo_storeRowV hΓ (enc := e_laneref1_kept) (z' := x16) s6.2.1.toNat 0 hj24 rfl rfl rfl rfl (fun _ => rfl) rfl rfl rfl rfl rfl rfl (Nat.le_of_ble_eq_true rfl) ?_
          refine eo_hp [.rowv 185 6 (s6.1.set s6.2.1.toNat x16).length ((s6.1.set s6.2.1.toNat x16).flatMap e_laneref1_kept), .box 9 [S f], .box 3 [I f2], .rowv 185 6 ([] : List T_laneref1_kept).length (([] : List T_laneref1_kept).flatMap e_laneref1_kept), .box 185 [S x16.name, I x16.kind, I x16.v_at, I x16.v_end, .d (Sl e_api_Record x16.l), I x16.used]] rfl ?_
          refine eo_relenV 0 (n' := (s6.1.set s6.2.1.toNat x16).length) rfl List.length_set.symm ?_
          refine go_ops hΓ 14 rfl ?_
          obtain rfl := Option.some.inj h23
          exact ⟨_, rfl, ⟨⟨rfl, rfl, rfl, rfl, trivial⟩, [_], rfl, .inr ⟨HB.mk rfl, FB.mk rfl, (Nat.le_of_ble_eq_true rfl)⟩⟩⟩
        · have h25 := cF h20 hb
          refine go hΓ 8 rfl ?_
          obtain rfl := Option.some.inj h25
          exact ⟨_, rfl, ⟨⟨rfl, rfl, rfl, rfl, trivial⟩, [_], rfl, .inr ⟨HB.mk rfl, FB.mk rfl, (Nat.le_of_ble_eq_true rfl)⟩⟩⟩
      · have h26 := cF hy12 hb
        refine go hΓ 4 rfl ?_
        obtain rfl := Option.some.inj h26
        obtain rfl := hout13 _ rfl
        exact ⟨⟨rfl, rfl, trivial⟩, [], rfl, .inl rfl⟩
    · obtain ⟨z27, hz27, h28⟩ := bi_ok h9
      refine go hΓ 5 rfl ?_
      refine eo_o rfl (op_viewV hΓ hz27 rfl rfl rfl rfl rfl rfl) ?_
      refine eo_s0 (Nat.le_of_ble_eq_true rfl) (ops_clearV hΓ (enc := e_laneref1_kept) (a := q8.2) hz27 rfl rfl rfl rfl rfl rfl rfl rfl rfl (fun _ => rfl)) ?_
      refine go_ops hΓ 6 rfl ?_
      refine eo_subCutV hΓ hz27 rfl rfl rfl rfl rfl rfl rfl rfl ?_
      refine go_ops hΓ 4 rfl ?_
      obtain rfl := Option.some.inj h28
      exact fin_objs hΓ [_] (.inr rfl) rfl rfl rfl rfl (.inr ⟨HB.mk rfl, rfl⟩)
theorem c_math_bits_Len64 {x : Int} {r : Int} (h : m_math_bits_Len64 x = some r) : Pure Tryz.prog 294 [U x] (I r) := by
  refine Pure.enter (Fr.of 0 _) Tryz.func294 rfl (Fr.of_ok _) rfl rfl ?_
  refine go_in ?_
  unfold m_math_bits_Len64 at h
  obtain ⟨q1, hq1, h2⟩ := bi_ok h
  refine go hΓ 12 rfl ?_
  refine j_cutNZ [(0, U q1.1), (2, I q1.2)] [] ?_ ?_
  · refine j_cond rfl (fun hb => ?_) (fun hb => ?_)
    · have h3 := cT hq1 hb
      refine go hΓ 10 rfl ?_
      obtain rfl := Option.some.inj h3
      exact ⟨⟨rfl, rfl, trivial⟩, [], rfl, .inl rfl⟩
    · have h4 := cF hq1 hb
      refine go hΓ 1 rfl ?_
      obtain rfl := Option.some.inj h4
      exact ⟨⟨rfl, rfl, trivial⟩, [], rfl, .inl rfl⟩
  · obtain ⟨q5, hq5, h6⟩ := bi_ok h2
    refine go hΓ 8 rfl ?_
    refine j_cutNZ [(0, U q5.1), (2, I q5.2)] [] ?_ ?_
    · refine j_cond rfl (fun hb => ?_) (fun hb => ?_)
      · have h7 := cT hq5 hb
        refine go hΓ 12 rfl ?_
        obtain rfl := Option.some.inj h7
        exact ⟨⟨rfl, rfl, trivial⟩, [], rfl, .inl rfl⟩
      · have h8 := cF hq5 hb
        refine go hΓ 1 rfl ?_
        obtain rfl := Option.some.inj h8
        exact ⟨⟨rfl, rfl, trivial⟩, [], rfl, .inl rfl⟩
    · obtain ⟨q9, hq9, h10⟩ := bi_ok h6
      refine go hΓ 8 rfl ?_
      refine j_cutNZ [(0, U q9.1), (2, I q9.2)] [] ?_ ?_
      · refine j_cond rfl (fun hb => ?_) (fun hb => ?_)
        · have h11 := cT hq9 hb
          refine go hΓ 12 rfl ?_
          obtain rfl := Option.some.inj h11
          exact ⟨⟨rfl, rfl, trivial⟩, [], rfl, .inl rfl⟩
        · have h12 := cF hq9 hb
          refine go hΓ 1 rfl ?_
          obtain rfl := Option.some.inj h12
          exact ⟨⟨rfl, rfl, trivial⟩, [], rfl, .inl rfl⟩
      · obtain ⟨c13, hc13, h14⟩ := bi_ok h10
        refine go hΓ 6 rfl ?_
        refine eo_o rfl (op_byteZ hΓ hc13 rfl rfl rfl rfl) ?_
        refine go_ops hΓ 6 rfl ?_
        obtain rfl := Option.some.inj h14
        exact fin_pure hΓ (.inr rfl) rfl rfl
theorem c_math_bits_Len {x : Int} {r : Int} (h : m_math_bits_Len x = some r) : Pure Tryz.prog 225 [U x] (I r) := by
  refine Pure.enter (Fr.of 0 _) Tryz.func225 rfl (Fr.of_ok _) rfl rfl ?_
  refine go_in ?_
  unfold m_math_bits_Len at h
  refine go hΓ 6 rfl ?_
  refine j_condK ?_
  obtain ⟨y1, hy1, h2⟩ := bi_ok h
  refine go hΓ 5 rfl ?_
  refine eo_callP (callable Tryz.func294 rfl rfl) (c_math_bits_Len64 hy1) rfl (Nat.le_of_ble_eq_true rfl) rfl rfl rfl rfl rfl ?_
  refine go_ops hΓ 4 rfl ?_
  obtain rfl := Option.some.inj h2
  exact fin_pure hΓ (.inr rfl) rfl rfl
theorem c_cmp_isNaN_int {x : Int} {r : Bool} (h : m_cmp_isNaN_int x = some r) : Pure Tryz.prog 226 [I x] (B r) := by
  refine Pure.enter (Fr.of 0 _) Tryz.func226 rfl (Fr.of_ok _) rfl rfl ?_
  refine go_in ?_
  unfold m_cmp_isNaN_int at h
  refine go hΓ 14 rfl ?_
  obtain rfl := Option.some.inj h
  exact fin_pure hΓ (.inr rfl) rfl rfl
theorem c_cmp_Compare_int {x : Int} {y : Int} {r : Int} (h : m_cmp_Compare_int x y = some r) : Pure Tryz.prog 139 [I x, I y] (I r) := by
  refine Pure.enter (Fr.of 0 _) Tryz.func139 rfl (Fr.of_ok _) rfl rfl ?_
  refine go_in ?_
  unfold m_cmp_Compare_int at h
  obtain ⟨y1, hy1, h2⟩ := bi_ok h
  refine go hΓ 8 rfl ?_
  refine eo_callP (callable Tryz.func226 rfl rfl) (c_cmp_isNaN_int hy1) rfl (Nat.le_of_ble_eq_true rfl) rfl rfl rfl rfl rfl ?_
  obtain ⟨y3, hy3, h4⟩ := bi_ok h2
  refine go_ops hΓ 6 rfl ?_
  refine eo_callP (callable Tryz.func226 rfl rfl) (c_cmp_isNaN_int hy3) rfl (Nat.le_of_ble_eq_true rfl) rfl rfl rfl rfl rfl ?_
  refine go_ops hΓ 9 rfl ?_
  refine j_cond rfl (fun hb => ?_) (fun hb => ?_)
  · have h5 := cT h4 hb
    refine go hΓ 6 rfl ?_
    refine j_cond rfl (fun hb => ?_) (fun hb => ?_)
    · have h6 := cT h5 hb
      refine go hΓ 8 rfl ?_
      obtain rfl := Option.some.inj h6
      exact fin_pure hΓ (.inr rfl) rfl rfl
    · have h7 := cF h5 hb
      refine go hΓ 9 rfl ?_
      obtain rfl := Option.some.inj h7
      exact fin_pure hΓ (.inr rfl) rfl rfl
  · have h8 := cF h4 hb
    refine go hΓ 8 rfl ?_
    refine j_cond rfl (fun hb => ?_) (fun hb => ?_)
    · have h9 := cT h8 hb
      refine go hΓ 7 rfl ?_
      obtain rfl := Option.some.inj h9
      exact fin_pure hΓ (.inr rfl) rfl rfl
    · have h10 := cF h8 hb
      refine go hΓ 10 rfl ?_
      refine j_cond rfl (fun hb => ?_) (fun hb => ?_)
      · have h11 := cT h10 hb
        refine go hΓ 7 rfl ?_
        obtain rfl := Option.some.inj h11
        exact fin_pure hΓ (.inr rfl) rfl rfl
      · have h12 := cF h10 hb
        refine go hΓ 10 rfl ?_
        refine j_cond rfl (fun hb => ?_) (fun hb => ?_)
        · have h13 := cT h12 hb
          refine go hΓ 7 rfl ?_
          obtain rfl := Option.some.inj h13
          exact fin_pure hΓ (.inr rfl) rfl rfl
        · have h14 := cF h12 hb
          refine go hΓ 8 rfl ?_
          obtain rfl := Option.some.inj h14
          exact fin_pure hΓ (.inr rfl) rfl rfl
theorem c_laneref1_Cache_Put_2 {a : T_laneref1_kept} {b : T_laneref1_kept} {r : Int} (h : m_laneref1_Cache_Put_2 a b = some r) : Pure Tryz.prog 138 [.agg [S a.name, I a.kind, I a.v_at, I a.v_end, .d (Sl e_api_Record a.l), I a.used], .agg [S b.name, I b.kind, I b.v_at, I b.v_end, .d (Sl e_api_Record b.l), I b.used]] (I r) := by
  refine Pure.enter (Fr.of 0 _) Tryz.func138 rfl (Fr.of_ok _) rfl rfl ?_
  refine go_in ?_
  unfold m_laneref1_Cache_Put_2 at h
  refine go hΓ 2 rfl ?_
  refine eo_box rfl rfl rfl rfl (Nat.le_of_ble_eq_true rfl) ?_
  refine eo_box rfl rfl rfl rfl (Nat.le_of_ble_eq_true rfl) ?_
  obtain ⟨y1, hy1, h2⟩ := bi_ok h
  refine go_ops hΓ 9 rfl ?_
  refine eo_callP (callable Tryz.func139 rfl rfl) (c_cmp_Compare_int hy1) rfl (Nat.le_of_ble_eq_true rfl) rfl rfl rfl rfl rfl ?_
  refine go_ops hΓ 4 rfl ?_
  obtain rfl := Option.some.inj h2
  exact fin_pure hΓ (.inr rfl) rfl rfl
set_option maxHeartbeats 8000000 in
theorem c_slices_insertionSortCmpFunc_laneref1_kept {k : Nat} {data : List T_laneref1_kept} {a : Int} {b : Int} {r : List T_laneref1_kept} (h : m_slices_insertionSortCmpFunc_laneref1_kept k data a b = some r) : EC Tryz.prog 285 [.sv 0 data.length, I a, I b, .fn (.func 138) [] []] [.rowv 185 6 data.length (data.flatMap e_laneref1_kept)] fun g hp' => g = .tup [] ∧ hp' = [.rowv 185 6 r.length (r.flatMap e_laneref1_kept)] := by
  refine ec_enter (Fr.of 0 _) Tryz.func285 rfl (Fr.of_ok _) (Nat.le_of_ble_eq_true rfl) fun _ => ?_
  refine go_in ?_
  unfold m_slices_insertionSortCmpFunc_laneref1_kept at h
  refine go hΓ 7 rfl ?_
  obtain ⟨q4, hq4, h5⟩ := bi_ok h
  refine j_cutNZ [] [.rowv 185 6 q4.length (q4.flatMap e_laneref1_kept)] ?_ ?_
  · refine go hΓ 1 rfl ?_
    refine j_loop hq4 (fun s2 => [(0, .sv 0 s2.1.length), (1, I a), (2, I b), (3, .fn (.func 138) [] []), (8, I s2.2)]) (fun s2 => [.rowv 185 6 s2.1.length (s2.1.flatMap e_laneref1_kept)]) ⟨⟨rfl, rfl, rfl, rfl, rfl, trivial⟩, [], rfl, .inl rfl⟩ (fun s2 y10 hy8 hout9 => ?_)
    refine go hΓ 8 rfl ?_
    refine j_cond rfl (fun hb => ?_) (fun hb => ?_)
    · have h11 := cT hy8 hb
      refine go hΓ 10 rfl ?_
      obtain ⟨q15, hq15, h16⟩ := bi_ok h11
      refine j_cutNZ [(0, .sv 0 q15.length), (1, I a), (2, I b), (3, .fn (.func 138) [] []), (8, I s2.2)] [.rowv 185 6 q15.length (q15.flatMap e_laneref1_kept)] ?_ ?_
      · refine go hΓ 1 rfl ?_
        refine j_loop hq15 (fun s13 => [(0, .sv 0 s13.1.length), (1, I a), (2, I b), (3, .fn (.func 138) [] []), (8, I s2.2), (9, I s13.2)]) (fun s13 => [.rowv 185 6 s13.1.length (s13.1.flatMap e_laneref1_kept)]) ⟨⟨rfl, rfl, rfl, rfl, rfl, rfl, trivial⟩, [], rfl, .inl rfl⟩ (fun s13 y21 hy19 hout20 => ?_)
        obtain ⟨q22, hq22, h23⟩ := bi_ok hy19
        refine go hΓ 2 rfl ?_
        refine j_cutNZ [(0, .sv 0 s13.1.length), (1, I a), (2, I b), (3, .fn (.func 138) [] []), (8, I s2.2), (9, I s13.2), (34, B q22)] [.rowv 185 6 s13.1.length (s13.1.flatMap e_laneref1_kept)] ?_ ?_
        · refine j_draw hmix (by kernel_rfl) ?_
          refine go hΓ 4 rfl ?_
          refine gl_gsplit rfl rfl (fun hb => ?_) (fun hb => ?_)
          · have h24 := cT hq22 hb
            obtain ⟨x25, hx25, h26⟩ := bi_ok h24
            have hj27 := getZ_at hx25
            refine go_draw hΓ 3 rfl ?_
            refine gl_og rfl rfl (op_elemRowV hΓ hx25 rfl rfl rfl rfl rfl rfl) ?_
            refine gl_og rfl rfl (op_loadRowV hΓ (enc := e_laneref1_kept) s13.2.toNat 0 hj27 rfl rfl rfl rfl (fun _ => rfl) (g := .agg [S x25.name, I x25.kind, I x25.v_at, I x25.v_end, .d (Sl e_api_Record x25.l), I x25.used]) rfl) ?_
            obtain ⟨x28, hx28, h29⟩ := bi_ok h26
            have hj30 := getZ_at hx28
            refine go_draw hΓ 3 rfl ?_
            refine gl_og rfl rfl (op_elemRowV hΓ hx28 rfl rfl rfl rfl rfl rfl) ?_
            refine gl_og rfl rfl (op_loadRowV hΓ (enc := e_laneref1_kept) ((wi (s13.2 - 1)).toNat) 0 hj30 rfl rfl rfl rfl (fun _ => rfl) (g := .agg [S x28.name, I x28.kind, I x28.v_at, I x28.v_end, .d (Sl e_api_Record x28.l), I x28.used]) rfl) ?_
            obtain ⟨y31, hy31, h32⟩ := bi_ok h29
            refine gl_callPg (callable Tryz.func138 rfl rfl) (c_laneref1_Cache_Put_2 hy31) rfl rfl rfl rfl rfl rfl rfl ?_
            refine go_draw hΓ 3 rfl ?_
            obtain rfl := Option.some.inj h32
            exact ⟨⟨rfl, rfl, rfl, rfl, rfl, rfl, rfl, trivial⟩, [], rfl, .inl rfl⟩
          · have h33 := cF hq22 hb
            refine go_draw hΓ 14 rfl ?_
            obtain rfl := Option.some.inj h33
            exact ⟨⟨rfl, rfl, rfl, rfl, rfl, rfl, rfl, trivial⟩, [], rfl, .inl rfl⟩
        · refine go hΓ 1 rfl ?_
          refine j_cond rfl (fun hb => ?_) (fun hb => ?_)
          · have h34 := cT h23 hb
            refine go hΓ 4 rfl ?_
            refine j_drawE [.rowv 185 6 s13.1.length (s13.1.flatMap e_laneref1_kept)] [9, 13] [15, 17] [15, 17] hmix (by kernel_rfl) (by kernel_rfl) ⟨rfl, trivial⟩ (Nat.le_of_ble_eq_true rfl) ?_
            obtain ⟨x35, hx35, h36⟩ := bi_ok h34
            have hj37 := getZ_at hx35
            refine go_E hΓ 8 rfl ?_
            refine ge_q rfl (.inl rfl) (fun _ _ => qte_of_qt (qt_p (op_elemRowV hΓ hx35 rfl rfl rfl rfl rfl rfl))) ?_
            refine ge_p rfl (fun hp hs => op_loadRowV hΓ (enc := e_laneref1_kept) ((wi (s13.2 - 1)).toNat) 0 hj37 rfl rfl rfl (hs 0 _ rfl rfl) (fun _ => rfl) (g := .agg [S x35.name, I x35.kind, I x35.v_at, I x35.v_end, .d (Sl e_api_Record x35.l), I x35.used]) rfl) rfl ?_
            obtain ⟨x38, hx38, h39⟩ := bi_ok h36
            have hj40 := getZ_at hx38
            refine go_E hΓ 2 rfl ?_
            refine ge_q rfl (.inl rfl) (fun _ _ => qte_of_qt (qt_p (op_elemRowV hΓ hx38 rfl rfl rfl rfl rfl rfl))) ?_
            refine ge_p rfl (fun hp hs => op_loadRowV hΓ (enc := e_laneref1_kept) s13.2.toNat 0 hj40 rfl rfl rfl (hs 0 _ rfl rfl) (fun _ => rfl) (g := .agg [S x38.name, I x38.kind, I x38.v_at, I x38.v_end, .d (Sl e_api_Record x38.l), I x38.used]) rfl) rfl ?_
            obtain ⟨x41, hx41, h42⟩ := bi_ok h39
            have hj43 := getZ_at hx41
            refine ge_q rfl (.inl rfl) (fun _ _ => qte_of_qt (qt_p (op_elemRowV hΓ hx41 rfl rfl rfl rfl rfl rfl))) ?_
            refine ge_h0 [.rowv 185 6 (s13.1.set s13.2.toNat x35).length ((s13.1.set s13.2.toNat x35).flatMap e_laneref1_kept)] rfl rfl (brk_st rfl) (qte_u (opu_setRowV hΓ (enc := e_laneref1_kept) (z' := x35) s13.2.toNat (by have := (List.getElem?_eq_some_iff.1 hj43).1; simpa using this) rfl rfl rfl rfl (fun _ => rfl) rfl rfl rfl rfl rfl)) ?_
            obtain ⟨x44, hx44, h45⟩ := bi_ok h42
            have hj46 := getZ_at hx44
            refine ge_q rfl (.inl rfl) (fun _ _ => qte_of_qt (qt_p (op_elemRowV hΓ hx44 rfl rfl rfl rfl rfl rfl))) ?_
            obtain ⟨x47, hx47, h48⟩ := bi_ok h45
            have hj49 : (s13.1.set s13.2.toNat x35)[(wi (s13.2 - 1)).toNat]? = some x47 := hx47
            refine ge_h0 [.rowv 185 6 ((s13.1.set s13.2.toNat x35).set ((wi (s13.2 - 1)).toNat) x38).length (((s13.1.set s13.2.toNat x35).set ((wi (s13.2 - 1)).toNat) x38).flatMap e_laneref1_kept)] rfl rfl (brk_st rfl) (qte_u (opu_setRowV hΓ (enc := e_laneref1_kept) (z' := x38) ((wi (s13.2 - 1)).toNat) (by have := (List.getElem?_eq_some_iff.1 hj49).1; simpa using this) rfl rfl rfl rfl (fun _ => rfl) rfl rfl rfl rfl rfl)) ?_
            refine ge_fin ?_
            refine go hΓ 2 rfl ?_
            refine j_relenV 0 (n' := ((s13.1.set s13.2.toNat x35).set ((wi (s13.2 - 1)).toNat) x38).length) rfl (by simp) ?_
            refine j_relenV 37 (n' := ((s13.1.set s13.2.toNat x35).set ((wi (s13.2 - 1)).toNat) x38).length) rfl (by simp) ?_
            refine j_relenV 39 (n' := ((s13.1.set s13.2.toNat x35).set ((wi (s13.2 - 1)).toNat) x38).length) rfl (by simp) ?_
            refine j_relenV 42 (n' := ((s13.1.set s13.2.toNat x35).set ((wi (s13.2 - 1)).toNat) x38).length) rfl (by simp) ?_
            refine j_relenV 47 (n' := ((s13.1.set s13.2.toNat x35).set ((wi (s13.2 - 1)).toNat) x38).length) rfl (by simp) ?_
            refine go hΓ 5 rfl ?_
            obtain rfl := Option.some.inj h48
            exact ⟨_, rfl, ⟨⟨rfl, rfl, rfl, rfl, rfl, rfl, trivial⟩, [], rfl, .inl rfl⟩⟩
          · have h50 := cF h23 hb
            refine go hΓ 4 rfl ?_
            obtain rfl := Option.some.inj h50
            obtain rfl := hout20 _ rfl
            exact ⟨⟨rfl, rfl, rfl, rfl, rfl, trivial⟩, [], rfl, .inl rfl⟩
      · refine go hΓ 7 rfl ?_
        obtain rfl := Option.some.inj h16
        exact ⟨_, rfl, ⟨⟨rfl, rfl, rfl, rfl, rfl, trivial⟩, [], rfl, .inl rfl⟩⟩
    · have h51 := cF hy8 hb
      refine go hΓ 4 rfl ?_
      obtain rfl := Option.some.inj h51
      obtain rfl := hout9 _ rfl
      exact ⟨trivial, [], rfl, .inl rfl⟩
  · obtain rfl := Option.some.inj h5
    exact fin_objs hΓ [] (.inl rfl) rfl rfl rfl rfl (.inl rfl)
theorem c_slices_pdqsortCmpFunc_laneref1_kept {k : Nat} {data : List T_laneref1_kept} {a : Int} {b : Int} {limit : Int} {r : List T_laneref1_kept} (h : m_slices_pdqsortCmpFunc_laneref1_kept k data a b limit = some r) : EC Tryz.prog 224 [.sv 0 data.length, I a, I b, I limit, .fn (.func 138) [] []] [.rowv 185 6 data.length (data.flatMap e_laneref1_kept)] fun g hp' => g = .tup [] ∧ hp' = [.rowv 185 6 r.length (r.flatMap e_laneref1_kept)] := by
  refine ec_enter (Fr.of 0 _) Tryz.func224 rfl (Fr.of_ok _) (Nat.le_of_ble_eq_true rfl) fun _ => ?_
  refine go_in ?_
  unfold m_slices_pdqsortCmpFunc_laneref1_kept at h
  refine go hΓ 10 rfl ?_
  obtain ⟨q4, hq4, h5⟩ := bi_ok h
  refine go hΓ 1 rfl ?_
  refine j_loop hq4 (fun s2 => [(0, .sv 0 data.length), (1, I a), (2, I b), (3, I limit), (4, .fn (.func 138) [] []), (10, B true), (11, B true)]) (fun s2 => [.rowv 185 6 data.length (data.flatMap e_laneref1_kept)]) ⟨⟨rfl, rfl, rfl, rfl, rfl, rfl, rfl, trivial⟩, [], rfl, .inl rfl⟩ (fun s2 y10 hy8 hout9 => ?_)
  refine go hΓ 16 rfl ?_
  refine j_cond rfl (fun hb => ?_) (fun hb => ?_)
  · have h11 := cT hy8 hb
    obtain ⟨y12, hy12, h13⟩ := bi_ok h11
    refine go hΓ 6 rfl ?_
    refine eo_callF [0] (.tup []) [.rowv 185 6 y12.length (y12.flatMap e_laneref1_kept)] (callable Tryz.func285 rfl rfl) (c_slices_insertionSortCmpFunc_laneref1_kept hy12) rfl (Nat.le_of_ble_eq_true rfl) rfl rfl rfl rfl rfl rfl rfl rfl rfl rfl ?_
    refine go_ops hΓ 5 rfl ?_
    obtain ⟨v14, hv14, h15⟩ := bi_ok h13
    obtain rfl := Option.some.inj h15
    obtain rfl := hout9 _ rfl
    obtain rfl := Option.some.inj h5
    refine go hΓ 2 rfl ?_
    obtain rfl := Option.some.inj hv14
    exact fin_objs hΓ [] (.inr rfl) rfl rfl rfl rfl (.inl rfl)
  · have h16 := cF hy8 hb
    refine go hΓ 9 rfl ?_
    refine j_cond rfl (fun hb => ?_) (fun hb => ?_)
    · have h17 := cT h16 hb
      refine go hΓ 6 rfl ?_
      cases h17
    · have h18 := cF h16 hb
      refine go hΓ 18 rfl ?_
      cases h18
theorem c_slices_SortFunc_laneref1_kept_laneref1_kept {k : Nat} {x : List T_laneref1_kept} {r : List T_laneref1_kept} (h : m_slices_SortFunc_laneref1_kept_laneref1_kept k x = some r) : EC Tryz.prog 137 [.sv 0 x.length, .fn (.func 138) [] []] [.rowv 185 6 x.length (x.flatMap e_laneref1_kept)] fun g hp' => g = .tup [] ∧ hp' = [.rowv 185 6 r.length (r.flatMap e_laneref1_kept)] := by
  refine ec_enter (Fr.of 0 _) Tryz.func137 rfl (Fr.of_ok _) (Nat.le_of_ble_eq_true rfl) fun _ => ?_
  refine go_in ?_
  unfold m_slices_SortFunc_laneref1_kept_laneref1_kept at h
  obtain ⟨y1, hy1, h2⟩ := bi_ok h
  refine go hΓ 12 rfl ?_
  refine eo_callP (callable Tryz.func225 rfl rfl) (c_math_bits_Len hy1) rfl (Nat.le_of_ble_eq_true rfl) rfl rfl rfl rfl rfl ?_
  obtain ⟨y3, hy3, h4⟩ := bi_ok h2
  refine go_ops hΓ 1 rfl ?_
  refine eo_callF [0] (.tup []) [.rowv 185 6 y3.length (y3.flatMap e_laneref1_kept)] (callable Tryz.func224 rfl rfl) (c_slices_pdqsortCmpFunc_laneref1_kept hy3) rfl (Nat.le_of_ble_eq_true rfl) rfl rfl rfl rfl rfl rfl rfl rfl rfl rfl ?_
  refine go_ops hΓ 1 rfl ?_
  obtain rfl := Option.some.inj h4
  exact fin_objs hΓ [] (.inl rfl) rfl rfl rfl rfl (.inl rfl)
set_option maxHeartbeats 8000000 in
theorem c_laneref1_Cache_Put {k : Nat} {c : T_laneref1_Cache} {v_at : Int} {name : Str} {kind : Int} {l : List T_api_Record} {life : Int} {r : Int × T_laneref1_Cache} (h : m_laneref1_Cache_Put k c v_at name kind l life = some r) : EC Tryz.prog 43 [.ptr 1 0, I v_at, S name, I kind, .d (Sl e_api_Record l), I life] [.rowv 185 6 c.l.length (c.l.flatMap e_laneref1_kept), .box 170 [I c.most, I c.now, I c.calls, .sv 0 c.l.length]] fun g hp' => g = I r.1 ∧ hp' = [.dead, .box 170 [I r.2.most, I r.2.now, I r.2.calls, .sv 2 r.2.l.length], .rowv 185 6 r.2.l.length (r.2.l.flatMap e_laneref1_kept)] := by
  refine ec_enterC (Fr.of 0 _) Tryz.func43 rfl (Fr.of_ok _) (Nat.le_of_ble_eq_true rfl) fun _ => ?_
  refine go_in ?_
  unfold m_laneref1_Cache_Put at h
  refine j_name (Nat.le_of_ble_eq_true rfl) ?_
  refine j_move 0 2 [.dead, .box 170 [I c.most, I c.now, I c.calls, .sv 2 c.l.length], .rowv 185 6 c.l.length (c.l.flatMap e_laneref1_kept)] rfl rfl rfl rfl rfl rfl ?_
  refine go hΓ 2 rfl ?_
  refine eo_box rfl rfl rfl rfl (Nat.le_of_ble_eq_true rfl) ?_
  refine eo_box rfl rfl rfl rfl (Nat.le_of_ble_eq_true rfl) ?_
  obtain ⟨y1, hy1, h2⟩ := bi_ok h
  refine go_ops hΓ 9 rfl ?_
  refine eo_callF [2, 1] (I y1) [.dead, .box 170 [I c.most, I c.now, I c.calls, .sv 2 c.l.length], .rowv 185 6 c.l.length (c.l.flatMap e_laneref1_kept), .box 9 [S name], .box 3 [I kind]] (callable Tryz.func132 rfl rfl) (c_laneref1_Cache_callFault hy1) rfl (Nat.le_of_ble_eq_true rfl) rfl rfl rfl rfl rfl rfl rfl rfl rfl rfl ?_
  refine go_ops hΓ 9 rfl ?_
  refine j_cond rfl (fun hb => ?_) (fun hb => ?_)
  · have h3 := cT h2 hb
    refine go hΓ 8 rfl ?_
    refine cv_here ?_
    obtain rfl := Option.some.inj h3
    exact fin_objs hΓ [_, _] (.inr rfl) rfl rfl rfl rfl (.inr ⟨HB.mk rfl, rfl⟩)
  · have h4 := cF h2 hb
    refine go hΓ 4 rfl ?_
    refine j_draw hmix (by kernel_rfl) ?_
    obtain ⟨y5, hy5, h6⟩ := bi_ok h4
    refine gl_callP (callable Tryz.func95 rfl rfl) (c_laneref1_Kinds hy5) rfl rfl rfl rfl rfl rfl ?_
    obtain ⟨y7, hy7, h8⟩ := bi_ok h6
    refine go_draw hΓ 1 rfl ?_
    refine gl_callP (callable Tryz.func133 rfl rfl) (c_slices_Contains_int_int hy7) rfl rfl rfl rfl rfl rfl ?_
    refine go_draw hΓ 3 rfl ?_
    refine j_cond rfl (fun hb => ?_) (fun hb => ?_)
    · have h9 := cT h8 hb
      refine go hΓ 7 rfl ?_
      refine cv_here ?_
      obtain rfl := Option.some.inj h9
      exact fin_objs hΓ [_, _] (.inr rfl) rfl rfl rfl rfl (.inr ⟨HB.mk rfl, rfl⟩)
    · have h10 := cF h8 hb
      refine go hΓ 10 rfl ?_
      refine j_cond rfl (fun hb => ?_) (fun hb => ?_)
      · have h11 := cT h10 hb
        refine go hΓ 7 rfl ?_
        refine cv_here ?_
        obtain rfl := Option.some.inj h11
        exact fin_objs hΓ [_, _] (.inr rfl) rfl rfl rfl rfl (.inr ⟨HB.mk rfl, rfl⟩)
      · have h12 := cF h10 hb
        refine go hΓ 10 rfl ?_
        obtain ⟨q16, hq16, h17⟩ := bi_ok h12
        refine j_bound 4 rfl fun hb19 => ?_
        refine j_cutEZ (R := fun a18 => q16 = .go a18) (fun a18 => [(0, .ptr 1 0), (1, I v_at), (4, .d (Sl e_api_Record l)), (5, I life), (8, .ptr 3 0), (9, .ptr 4 0)]) (fun a18 => [.dead, .box 170 [I c.most, I c.now, I c.calls, .sv 2 c.l.length], .rowv 185 6 c.l.length (c.l.flatMap e_laneref1_kept), .box 9 [S name], .box 3 [I kind]]) ?_ ?_
        · refine go hΓ 1 rfl ?_
          refine j_range l hq16 (fun i13 s14 => [(0, .ptr 1 0), (1, I v_at), (4, .d (Sl e_api_Record l)), (5, I life), (8, .ptr 3 0), (9, .ptr 4 0), (33, .d (Sl e_api_Record l)), (34, I (l.length : Int)), (35, I (i13 : Int))]) (fun s14 => [.dead, .box 170 [I c.most, I c.now, I c.calls, .sv 2 c.l.length], .rowv 185 6 c.l.length (c.l.flatMap e_laneref1_kept), .box 9 [S name], .box 3 [I kind]]) ⟨⟨rfl, rfl, rfl, rfl, rfl, rfl, rfl, rfl, rfl, trivial⟩, [], rfl, .inl rfl⟩ (fun i13 x15 s14 y23 hx20 hlt hy21 hout22 => ?_) (fun s14 hgo => ?_)
          · refine go hΓ 6 rfl ?_
            refine j_condT rfl (decide_eq_true (Int.ofNat_lt.2 hlt)) ?_
            refine go hΓ 6 rfl ?_
            refine eo_o rfl (op_elemZ hΓ (enc := e_api_Record) (getZ_nat hx20) rfl rfl rfl rfl rfl (fun _ => rfl)) ?_
            refine go_ops hΓ 1 rfl ?_
            refine eo_alloc hΓ rfl rfl rfl (Nat.le_of_ble_eq_true rfl) ?_
            refine eo_store hΓ rfl rfl rfl rfl rfl rfl rfl rfl (Nat.le_of_ble_eq_true rfl) ?_
            refine eo_hp [.dead, .box 170 [I c.most, I c.now, I c.calls, .sv 2 c.l.length], .rowv 185 6 c.l.length (c.l.flatMap e_laneref1_kept), .box 9 [S name], .box 3 [I kind], .box 80 [S x15.Name, I x15.Kind, B x15.Addr.Six, U x15.Addr.Hi, U x15.Addr.Lo, S x15.To, S x15.Words, I x15.Life]] rfl ?_
            obtain ⟨y24, hy24, h25⟩ := bi_ok hy21
            refine go_ops hΓ 5 rfl ?_
            refine eo_callP (callable Tryz.func88 rfl rfl) (c_laneref1_RecordFault hy24) rfl (Nat.le_of_ble_eq_true rfl) rfl rfl rfl rfl rfl ?_
            refine go_ops hΓ 9 rfl ?_
            refine j_cond rfl (fun hb => ?_) (fun hb => ?_)
            · have h26 := cT h25 hb
              refine go hΓ 9 rfl ?_
              obtain ⟨v27, hv27, h28⟩ := bi_ok h26
              obtain rfl := Option.some.inj h28
              obtain rfl := hout22 _ rfl
              obtain rfl := Option.some.inj h17
              refine go hΓ 4 rfl ?_
              refine cv_here ?_
              obtain rfl := Option.some.inj hv27
              exact fin_objs hΓ [_, _, _] (.inr rfl) rfl rfl rfl rfl (.inr ⟨HB.mk rfl, rfl⟩)
            · have h29 := cF h25 hb
              refine go hΓ 7 rfl ?_
              obtain rfl := Option.some.inj h29
              exact ⟨_, rfl, ⟨⟨rfl, rfl, rfl, rfl, rfl, rfl, rfl, rfl, get_eq rfl (w64_succ (Nat.lt_of_lt_of_le hlt hb19)), trivial⟩, [_], rfl, .inr ⟨HB.mk rfl, FB.mk rfl, (Nat.le_of_ble_eq_true rfl)⟩⟩⟩
          · subst hgo
            refine go hΓ 6 rfl ?_
            refine j_condF rfl (decide_eq_false (Int.lt_irrefl _)) ?_
            refine go hΓ 4 rfl ?_
            exact ⟨_, rfl, ⟨⟨rfl, rfl, rfl, rfl, rfl, rfl, trivial⟩, [], rfl, .inl rfl⟩⟩
        · intro a18 ha
          subst ha
          replace h17 := goI_l h17
          obtain ⟨y30, hy30, h31⟩ := bi_ok h17
          refine go hΓ 5 rfl ?_
          refine eo_callP (callable Tryz.func61 rfl rfl) (c_laneref1_in hy30) rfl (Nat.le_of_ble_eq_true rfl) rfl rfl rfl rfl rfl ?_
          refine go_ops hΓ 3 rfl ?_
          refine j_cond rfl (fun hb => ?_) (fun hb => ?_)
          · have h32 := cT h31 hb
            refine go hΓ 7 rfl ?_
            refine cv_here ?_
            obtain rfl := Option.some.inj h32
            exact fin_objs hΓ [_, _] (.inr rfl) rfl rfl rfl rfl (.inr ⟨HB.mk rfl, rfl⟩)
          · have h33 := cF h31 hb
            obtain ⟨y34, hy34, h35⟩ := bi_ok h33
            refine go hΓ 6 rfl ?_
            refine eo_callF [2, 1] (.tup []) [.dead, .box 170 [I y34.most, I y34.now, I y34.calls, .sv 2 y34.l.length], .rowv 185 6 y34.l.length (y34.l.flatMap e_laneref1_kept), .box 9 [S name], .box 3 [I kind]] (callable Tryz.func134 rfl rfl) (c_laneref1_Cache_drop hy34) rfl (Nat.le_of_ble_eq_true rfl) rfl rfl rfl rfl rfl rfl rfl rfl rfl rfl ?_
            obtain ⟨y36, hy36, h37⟩ := bi_ok h35
            refine go_ops hΓ 10 rfl ?_
            refine eo_forg 2 [.dead, .box 170 [I y34.most, I y34.now, I y34.calls, .junk], .rowv 185 6 y34.l.length (y34.l.flatMap e_laneref1_kept), .box 9 [S name], .box 3 [I kind]] rfl (Nat.le_of_ble_eq_true rfl) ?_
            refine eo_callF [2, 3, 4] (.sv 2 y36.length) [.dead, .box 170 [I y34.most, I y34.now, I y34.calls, .junk], .rowv 185 6 y36.length (y36.flatMap e_laneref1_kept), .box 9 [S name], .box 3 [I kind]] (callable Tryz.func135 rfl rfl) (c_slices_DeleteFunc_laneref1_kept_laneref1_kept_2 hy36) rfl (Nat.le_of_ble_eq_true rfl) rfl rfl rfl rfl rfl rfl rfl rfl rfl rfl ?_
            refine go_ops hΓ 2 rfl ?_
            refine eo_store hΓ rfl rfl rfl rfl rfl rfl rfl rfl (Nat.le_of_ble_eq_true rfl) ?_
            refine eo_hp [.dead, .box 170 [I y34.most, I y34.now, I y34.calls, .sv 2 y36.length], .rowv 185 6 y36.length (y36.flatMap e_laneref1_kept), .box 9 [S name], .box 3 [I kind]] rfl ?_
            refine go_ops hΓ 10 rfl ?_
            obtain ⟨q41, hq41, h42⟩ := bi_ok h37
            refine j_bound 4 rfl fun hb44 => ?_
            refine j_cutNZ [(0, .ptr 1 0), (1, I v_at), (4, .d (Sl e_api_Record l)), (5, I q41), (8, .ptr 3 0), (9, .ptr 4 0)] [.dead, .box 170 [I y34.most, I y34.now, I y34.calls, .sv 2 y36.length], .rowv 185 6 y36.length (y36.flatMap e_laneref1_kept), .box 9 [S name], .box 3 [I kind]] ?_ ?_
            · refine go hΓ 1 rfl ?_
              refine j_rangeF l hq41 (fun i38 s39 => [(0, .ptr 1 0), (1, I v_at), (4, .d (Sl e_api_Record l)), (5, I s39), (8, .ptr 3 0), (9, .ptr 4 0), (60, .d (Sl e_api_Record l)), (61, I (l.length : Int)), (62, I (i38 : Int))]) (fun s39 => [.dead, .box 170 [I y34.most, I y34.now, I y34.calls, .sv 2 y36.length], .rowv 185 6 y36.length (y36.flatMap e_laneref1_kept), .box 9 [S name], .box 3 [I kind]]) ⟨⟨rfl, rfl, rfl, rfl, rfl, rfl, rfl, rfl, rfl, trivial⟩, [], rfl, .inl rfl⟩ (fun i38 x40 s39 y48 hx45 hlt hy46 => ?_) (?_)
              · refine go hΓ 6 rfl ?_
                refine j_condT rfl (decide_eq_true (Int.ofNat_lt.2 hlt)) ?_
                refine go hΓ 6 rfl ?_
                refine eo_o rfl (op_elemZ hΓ (enc := e_api_Record) (getZ_nat hx45) rfl rfl rfl rfl rfl (fun _ => rfl)) ?_
                refine go_ops hΓ 1 rfl ?_
                refine eo_alloc hΓ rfl rfl rfl (Nat.le_of_ble_eq_true rfl) ?_
                refine eo_store hΓ rfl rfl rfl rfl rfl rfl rfl rfl (Nat.le_of_ble_eq_true rfl) ?_
                refine eo_hp [.dead, .box 170 [I y34.most, I y34.now, I y34.calls, .sv 2 y36.length], .rowv 185 6 y36.length (y36.flatMap e_laneref1_kept), .box 9 [S name], .box 3 [I kind], .box 80 [S x40.Name, I x40.Kind, B x40.Addr.Six, U x40.Addr.Hi, U x40.Addr.Lo, S x40.To, S x40.Words, I x40.Life]] rfl ?_
                refine go_ops hΓ 15 rfl ?_
                obtain rfl := Option.some.inj hy46
                exact ⟨⟨rfl, rfl, rfl, rfl, rfl, rfl, rfl, rfl, get_eq rfl (w64_succ (Nat.lt_of_lt_of_le hlt hb44)), trivial⟩, [_], rfl, .inr ⟨HB.mk rfl, FB.mk rfl, (Nat.le_of_ble_eq_true rfl)⟩⟩
              · refine go hΓ 6 rfl ?_
                refine j_condF rfl (decide_eq_false (Int.lt_irrefl _)) ?_
                refine go hΓ 4 rfl ?_
                exact ⟨⟨rfl, rfl, rfl, rfl, rfl, rfl, trivial⟩, [], rfl, .inl rfl⟩
            · refine go hΓ 8 rfl ?_
              refine j_cond rfl (fun hb => ?_) (fun hb => ?_)
              · have h49 := cT h42 hb
                refine go hΓ 7 rfl ?_
                refine cv_here ?_
                obtain rfl := Option.some.inj h49
                exact fin_objs hΓ [_, _] (.inr rfl) rfl rfl rfl rfl (.inr ⟨HB.mk rfl, rfl⟩)
              · have h50 := cF h42 hb
                refine go hΓ 3 rfl ?_
                refine j_drawE [.dead, .box 170 [I y34.most, I y34.now, I y34.calls, .sv 2 y36.length], .dead, .box 9 [S name], .box 3 [I kind]] [4, 5, 6, 16] [19, 22] [19, 22] hmix (by kernel_rfl) (by kernel_rfl) ⟨rfl, rfl, rfl, trivial⟩ (Nat.le_of_ble_eq_true rfl) ?_
                obtain ⟨y51, hy51, h52⟩ := bi_ok h50
                refine go_E hΓ 12 rfl ?_
                refine ge_callP (callable Tryz.func130 rfl rfl) (Pure.rows (c_slices_Clone_api_Record_api_Record hy51) rfl rfl) rfl rfl rfl rfl rfl rfl ?_
                refine go_E hΓ 4 rfl ?_
                refine ge_q rfl (.inl rfl) (fun _ _ => qte_of_qt (qt_p (op_build hΓ (gs := [S name, I kind, I v_at, I (wi (v_at + q41)), .d (Sl e_api_Record y51), I y34.calls]) rfl rfl rfl rfl rfl rfl))) ?_
                refine ge_litT hΓ (enc := e_laneref1_kept) [(⟨name, kind, v_at, wi (v_at + q41), y51, y34.calls⟩ : T_laneref1_kept)] rfl rfl rfl rfl rfl rfl rfl rfl rfl rfl rfl rfl ?_
                obtain ⟨y53, hy53, h54⟩ := bi_ok h52
                refine ge_h [.dead, .box 170 [I y34.most, I y34.now, I y34.calls, .junk], .dead, .box 9 [S name], .box 3 [I kind], .rowv 185 6 y53.length (y53.flatMap e_laneref1_kept)] rfl rfl rfl (brk_st rfl) (qte_s (ops_forg 2 (ops_appendV hΓ (enc := e_laneref1_kept) (id := 2) (h2 := show Γ 185 = some ⟨_, 6, _, _⟩ from rfl) hy53 rfl rfl rfl rfl rfl rfl rfl rfl (fun _ => rfl) rfl))) ?_
                refine go_E hΓ 2 rfl ?_
                refine ge_h0 [.dead, .box 170 [I y34.most, I y34.now, I y34.calls, .sv 5 y53.length], .dead, .box 9 [S name], .box 3 [I kind], .rowv 185 6 y53.length (y53.flatMap e_laneref1_kept)] rfl rfl (brk_st rfl) (qte_u (opu_store2 hΓ rfl rfl rfl rfl rfl rfl rfl rfl rfl)) ?_
                refine ge_fin ?_
                refine go hΓ 1 rfl ?_
                refine j_move 5 2 [.dead, .box 170 [I y34.most, I y34.now, I y34.calls, .sv 2 y53.length], .rowv 185 6 y53.length (y53.flatMap e_laneref1_kept), .box 9 [S name], .box 3 [I kind], .dead] rfl rfl rfl rfl rfl rfl ?_
                refine go hΓ 2 rfl ?_
                refine j_draw hmix (by kernel_rfl) ?_
                obtain ⟨q55, hq55, h56⟩ := bi_ok h54
                refine go hΓ 12 rfl ?_
                refine j_cutNZ [] [.dead, .box 170 [I y34.most, I y34.now, I y34.calls, .sv 2 q55.length], .rowv 185 6 q55.length (q55.flatMap e_laneref1_kept), .box 9 [S name], .box 3 [I kind], .dead] ?_ ?_
                · refine j_cond rfl (fun hb => ?_) (fun hb => ?_)
                  · have h57 := cT hq55 hb
                    obtain ⟨y58, hy58, h59⟩ := bi_ok h57
                    refine go hΓ 6 rfl ?_
                    refine eo_callF [2] (.tup []) [.dead, .box 170 [I y34.most, I y34.now, I y34.calls, .sv 2 y53.length], .rowv 185 6 y58.length (y58.flatMap e_laneref1_kept), .box 9 [S name], .box 3 [I kind], .dead] (callable Tryz.func137 rfl rfl) (c_slices_SortFunc_laneref1_kept_laneref1_kept hy58) rfl (Nat.le_of_ble_eq_true rfl) rfl rfl rfl rfl rfl rfl rfl rfl rfl rfl ?_
                    obtain ⟨hg61, h60⟩ := gd_ok h59
                    refine eo_hp [.dead, .box 170 [I y34.most, I y34.now, I y34.calls, .sv 2 y58.length], .rowv 185 6 y58.length (y58.flatMap e_laneref1_kept), .box 9 [S name], .box 3 [I kind], .dead] (by rw [of_decide_eq_true hg61]) ?_
                    obtain ⟨z62, hz62, h63⟩ := bi_ok h60
                    refine go_ops hΓ 8 rfl ?_
                    refine eo_forg 2 [.dead, .box 170 [I y34.most, I y34.now, I y34.calls, .junk], .rowv 185 6 y58.length (y58.flatMap e_laneref1_kept), .box 9 [S name], .box 3 [I kind], .dead] rfl (Nat.le_of_ble_eq_true rfl) ?_
                    refine eo_s (Nat.le_of_ble_eq_true rfl) (nblt.1 rfl) (ops_dropV hΓ (enc := e_laneref1_kept) hz62 rfl rfl rfl rfl rfl rfl rfl (fun _ => rfl)) ?_
                    refine eo_hp [.dead, .box 170 [I y34.most, I y34.now, I y34.calls, .junk], .dead, .box 9 [S name], .box 3 [I kind], .dead, .rowv 185 6 z62.length (z62.flatMap e_laneref1_kept)] rfl ?_
                    refine go_ops hΓ 2 rfl ?_
                    refine eo_store hΓ rfl rfl rfl rfl rfl rfl rfl rfl (Nat.le_of_ble_eq_true rfl) ?_
                    refine eo_hp [.dead, .box 170 [I y34.most, I y34.now, I y34.calls, .sv 6 z62.length], .dead, .box 9 [S name], .box 3 [I kind], .dead, .rowv 185 6 z62.length (z62.flatMap e_laneref1_kept)] rfl ?_
                    refine eo_move 6 2 [.dead, .box 170 [I y34.most, I y34.now, I y34.calls, .sv 2 z62.length], .rowv 185 6 z62.length (z62.flatMap e_laneref1_kept), .box 9 [S name], .box 3 [I kind], .dead, .dead] rfl rfl rfl rfl rfl rfl ?_
                    refine go_ops hΓ 1 rfl ?_
                    obtain rfl := Option.some.inj h63
                    exact ⟨trivial, [_], rfl, .inr ⟨HB.mk rfl, FB.mk rfl, (Nat.le_of_ble_eq_true rfl)⟩⟩
                  · have h64 := cF hq55 hb
                    refine go hΓ 1 rfl ?_
                    obtain rfl := Option.some.inj h64
                    exact ⟨trivial, [], rfl, .inl rfl⟩
                · refine go hΓ 7 rfl ?_
                  refine cv_here ?_
                  obtain rfl := Option.some.inj h56
                  exact fin_objs hΓ [_, _, _] (.inr rfl) rfl rfl rfl rfl (.inr ⟨HB.mk rfl, rfl⟩)
theorem c_name_Cache_Get_1 {v_k : T_name_kept} {x : Str} {x2 : Int} {r : Bool} (h : m_name_Cache_Get_1 v_k x x2 = some r) : EC Tryz.prog 141 [.agg [S v_k.asking.name, I v_k.asking.kind, I v_k.put, I v_k.life, I v_k.used, .d (Sl e_api_Record v_k.list)], .ptr 0 0, .ptr 1 0] [.box 9 [S x], .box 3 [I x2]] fun g hp' => g = B r ∧ hp' = [.box 9 [S x], .box 3 [I x2]] := by
  refine ec_enter (Fr.of 0 _) Tryz.func141 rfl (Fr.of_ok _) (Nat.le_of_ble_eq_true rfl) fun _ => ?_
  refine go_in ?_
  unfold m_name_Cache_Get_1 at h
  refine go hΓ 2 rfl ?_
  refine eo_box rfl rfl rfl rfl (Nat.le_of_ble_eq_true rfl) ?_
  refine go_ops hΓ 9 rfl ?_
  refine eo_build hΓ (gs := [S x, I x2]) rfl rfl rfl rfl rfl rfl rfl ?_
  refine eo_o rfl (op_eqS hΓ [174] (b := (((v_k.asking.name : Str) == x) && (((v_k.asking.kind : Int) == x2) && true))) (by kernel_rfl) (by kernel_rfl) rfl rfl rfl) ?_
  refine go_ops hΓ 4 rfl ?_
  obtain rfl := Option.some.inj h
  exact fin_objs hΓ [_] (.inr rfl) rfl rfl rfl rfl (.inr ⟨HB.mk rfl, rfl⟩)
theorem c_slices_IndexFunc_name_kept_name_kept_3 {s : List T_name_kept} {f : Str} {f2 : Int} {r : Int} (h : m_slices_IndexFunc_name_kept_name_kept_3 s f f2 = some r) : EC Tryz.prog 140 [.sl 0 s.length, .fn (.func 141) [] [.ptr 1 0, .ptr 2 0]] [.row 177 6 s.length (s.flatMap e_name_kept), .box 9 [S f], .box 3 [I f2]] fun g hp' => g = I r ∧ hp' = [.row 177 6 s.length (s.flatMap e_name_kept), .box 9 [S f], .box 3 [I f2]] := by
  refine ec_enter (Fr.of 0 _) Tryz.func140 rfl (Fr.of_ok _) (Nat.le_of_ble_eq_true rfl) fun _ => ?_
  refine go_in ?_
  unfold m_slices_IndexFunc_name_kept_name_kept_3 at h
  refine go hΓ 13 rfl ?_
  obtain ⟨q4, hq4, h5⟩ := bi_ok h
  obtain ⟨hb7, h8⟩ := gd_ok hq4
  replace hb7 := of_decide_eq_true hb7
  refine j_cutEZ (R := fun a6 => q4 = .go a6) (fun a6 => []) (fun a6 => [.row 177 6 s.length (s.flatMap e_name_kept), .box 9 [S f], .box 3 [I f2]]) ?_ ?_
  · refine go hΓ 1 rfl ?_
    refine j_rangeI h8 (fun i1 s2 => [(0, .sl 0 s.length), (1, .fn (.func 141) [] [.ptr 1 0, .ptr 2 0]), (7, I (s.length : Int)), (8, I (i1 : Int))]) (fun s2 => [.row 177 6 s.length (s.flatMap e_name_kept), .box 9 [S f], .box 3 [I f2]]) ⟨⟨rfl, rfl, rfl, rfl, trivial⟩, [], rfl, .inl rfl⟩ (fun i1 s2 y12 hlt hy10 hout11 => ?_) (fun s2 hgo hge => ?_)
    · refine go hΓ 6 rfl ?_
      refine j_condT rfl (decide_eq_true hlt) ?_
      obtain ⟨x13, hx13, h14⟩ := bi_ok hy10
      have hj15 := getZ_at hx13
      refine go hΓ 15 rfl ?_
      refine eo_o rfl (op_elemRowZ hΓ hx13 rfl rfl rfl rfl rfl rfl) ?_
      refine eo_o rfl (op_loadRowZ hΓ (enc := e_name_kept) ((i1 : Int).toNat) 0 hj15 rfl rfl rfl rfl (fun _ => rfl) (g := .agg [S x13.asking.name, I x13.asking.kind, I x13.put, I x13.life, I x13.used, .d (Sl e_api_Record x13.list)]) rfl) ?_
      obtain ⟨y16, hy16, h17⟩ := bi_ok h14
      refine eo_callF [1, 2] (B y16) [.row 177 6 s.length (s.flatMap e_name_kept), .box 9 [S f], .box 3 [I f2]] (callable Tryz.func141 rfl rfl) (c_name_Cache_Get_1 hy16) rfl (Nat.le_of_ble_eq_true rfl) rfl rfl rfl rfl rfl rfl rfl rfl rfl rfl ?_
      refine go_ops hΓ 2 rfl ?_
      refine j_cond rfl (fun hb => ?_) (fun hb => ?_)
      · have h18 := cT h17 hb
        refine go hΓ 9 rfl ?_
        obtain ⟨v19, hv19, h20⟩ := bi_ok h18
        obtain rfl := Option.some.inj h20
        obtain rfl := hout11 _ rfl
        obtain rfl := Option.some.inj h5
        refine go hΓ 4 rfl ?_
        obtain rfl := Option.some.inj hv19
        exact fin_objs hΓ [] (.inr rfl) rfl rfl rfl rfl (.inl rfl)
      · have h21 := cF h17 hb
        refine go hΓ 7 rfl ?_
        obtain rfl := Option.some.inj h21
        exact ⟨_, rfl, ⟨⟨rfl, rfl, rfl, get_eq rfl (w64_succ (by omega)), trivial⟩, [], rfl, .inl rfl⟩⟩
    · subst hgo
      refine go hΓ 6 rfl ?_
      refine j_condF rfl (decide_eq_false hge) ?_
      refine go hΓ 4 rfl ?_
      exact ⟨_, rfl, ⟨trivial, [], rfl, .inl rfl⟩⟩
  · intro a6 ha
    subst ha
    replace h5 := goI_l h5
    refine go hΓ 7 rfl ?_
    obtain rfl := Option.some.inj h5
    exact fin_objs hΓ [] (.inr rfl) rfl rfl rfl rfl (.inl rfl)
end Go.Proofs.YtfnjahjbpaoepaaGreatDoor
