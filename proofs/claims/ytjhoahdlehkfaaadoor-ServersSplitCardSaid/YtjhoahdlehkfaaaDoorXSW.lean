/-
  The functions compute their models.
-/
import Derived.Test.YtjhoahdlehkfaaaDoorXSM
import Derived.Test.YtjhoahdlehkfaaaDoorGt
import Derived.Test.YtjhoahdlehkfaaaDoorStr
set_option linter.unusedVariables false
set_option linter.unusedSimpArgs false
set_option maxRecDepth 100000
namespace Go.Proofs.YtjhoahdlehkfaaaDoor
open Go.Gk
abbrev e_lanemake_Stream (x : T_lanemake_Stream) : List D := [Sl (eN .i64) x.L, .v (.int .i64 x.v_at)]
abbrev e_api_Split (x : T_api_Split) : List D := [.v (.string ⟨x.Suffix.toArray⟩), Sl eS x.Servers]
theorem c_lanemake_Below {x : Int} {n : Int} {r : Int} (h : m_lanemake_Below x n = some r) : Pure Tryd.prog 63 [I x, I n] (I r) := by
  refine Pure.enter (Fr.of 0 _) Tryd.func63 rfl (Fr.of_ok _) rfl rfl ?_
  refine go_in ?_
  unfold m_lanemake_Below at h
  refine go hΓ 12 rfl ?_
  refine j_cond rfl (fun hb => ?_) (fun hb => ?_)
  · have h1 := cT h hb
    refine go hΓ 7 rfl ?_
    obtain rfl := Option.some.inj h1
    exact fin_pure hΓ (.inr rfl) rfl rfl
  · have h2 := cF h hb
    obtain ⟨y3, hy3, h4⟩ := bi_ok h2
    refine go hΓ 6 rfl ?_
    refine eo_o rfl (op_remZ hy3 rfl rfl) ?_
    obtain ⟨q5, hq5, h6⟩ := bi_ok h4
    refine go_ops hΓ 10 rfl ?_
    refine j_cutNZ [(0, I q5)] [] ?_ ?_
    · refine j_cond rfl (fun hb => ?_) (fun hb => ?_)
      · have h7 := cT hq5 hb
        refine go hΓ 6 rfl ?_
        obtain rfl := Option.some.inj h7
        exact ⟨⟨rfl, trivial⟩, [], rfl, .inl rfl⟩
      · have h8 := cF hq5 hb
        refine go hΓ 1 rfl ?_
        obtain rfl := Option.some.inj h8
        exact ⟨⟨rfl, trivial⟩, [], rfl, .inl rfl⟩
    · refine go hΓ 8 rfl ?_
      obtain rfl := Option.some.inj h6
      exact fin_pure hΓ (.inr rfl) rfl rfl

theorem c_lanemake_Stream_Next {s : T_lanemake_Stream} {n : Int} {r : Int × T_lanemake_Stream} (h : m_lanemake_Stream_Next s n = some r) : EC Tryd.prog 37 [.ptr 0 0, I n] [.box 25 [.d (Sl (eN .i64) s.L), I s.v_at]] fun g hp' => g = I r.1 ∧ hp' = [.box 25 [.d (Sl (eN .i64) r.2.L), I r.2.v_at]] := by
  refine ec_enter (Fr.of 0 _) Tryd.func37 rfl (Fr.of_ok _) (Nat.le_of_ble_eq_true rfl) fun _ => ?_
  refine go_in ?_
  unfold m_lanemake_Stream_Next at h
  refine go hΓ 14 rfl ?_
  refine eo_store hΓ rfl rfl rfl rfl rfl rfl rfl rfl (Nat.le_of_ble_eq_true rfl) ?_
  refine eo_hp [.box 25 [.d (Sl (eN .i64) s.L), I (wi (s.v_at + 1))]] rfl ?_
  refine go_ops hΓ 13 rfl ?_
  refine j_cond rfl (fun hb => ?_) (fun hb => ?_)
  · have h1 := cT h hb
    obtain ⟨y2, hy2, h3⟩ := bi_ok h1
    refine go hΓ 8 rfl ?_
    refine eo_callP (callable Tryd.func63 rfl rfl) (c_lanemake_Below hy2) rfl (Nat.le_of_ble_eq_true rfl) rfl rfl rfl rfl rfl ?_
    refine go_ops hΓ 5 rfl ?_
    obtain rfl := Option.some.inj h3
    exact fin_objs hΓ [] (.inr rfl) rfl rfl rfl rfl (.inl rfl)
  · have h4 := cF h hb
    refine go hΓ 3 rfl ?_
    refine j_draw hmix (by kernel_rfl) ?_
    obtain ⟨y5, hy5, h6⟩ := bi_ok h4
    refine go hΓ 10 rfl ?_
    refine gl_o rfl (op_remZ hy5 rfl rfl) ?_
    refine go_draw hΓ 4 rfl ?_
    refine j_draw hmix (by kernel_rfl) ?_
    obtain ⟨y7, hy7, h8⟩ := bi_ok h6
    refine go hΓ 10 rfl ?_
    refine gl_o rfl (op_quoZ hy7 rfl rfl) ?_
    obtain ⟨x9, hx9, h10⟩ := bi_ok h8
    refine go_draw hΓ 10 rfl ?_
    refine eo_o rfl (op_elemZ hΓ (enc := (eN .i64)) hx9 rfl rfl rfl rfl rfl (fun _ => rfl)) ?_
    obtain ⟨y11, hy11, h12⟩ := bi_ok h10
    refine go_ops hΓ 1 rfl ?_
    refine eo_callP (callable Tryd.func63 rfl rfl) (c_lanemake_Below hy11) rfl (Nat.le_of_ble_eq_true rfl) rfl rfl rfl rfl rfl ?_
    obtain ⟨y13, hy13, h14⟩ := bi_ok h12
    refine go_ops hΓ 6 rfl ?_
    refine eo_callP (callable Tryd.func63 rfl rfl) (c_lanemake_Below hy13) rfl (Nat.le_of_ble_eq_true rfl) rfl rfl rfl rfl rfl ?_
    refine go_ops hΓ 4 rfl ?_
    obtain rfl := Option.some.inj h14
    exact fin_objs hΓ [] (.inr rfl) rfl rfl rfl rfl (.inl rfl)

theorem c_lanemake_Stream_Flip {s : T_lanemake_Stream} {n : Int} {r : Bool × T_lanemake_Stream} (h : m_lanemake_Stream_Flip s n = some r) : EC Tryd.prog 25 [.ptr 0 0, I n] [.box 25 [.d (Sl (eN .i64) s.L), I s.v_at]] fun g hp' => g = B r.1 ∧ hp' = [.box 25 [.d (Sl (eN .i64) r.2.L), I r.2.v_at]] := by
  refine ec_enter (Fr.of 0 _) Tryd.func25 rfl (Fr.of_ok _) (Nat.le_of_ble_eq_true rfl) fun _ => ?_
  refine go_in ?_
  unfold m_lanemake_Stream_Flip at h
  obtain ⟨y1, hy1, h2⟩ := bi_ok h
  refine go hΓ 9 rfl ?_
  refine eo_callF [0] (I y1.1) [.box 25 [.d (Sl (eN .i64) y1.2.L), I y1.2.v_at]] (callable Tryd.func37 rfl rfl) (c_lanemake_Stream_Next hy1) rfl (Nat.le_of_ble_eq_true rfl) rfl rfl rfl rfl rfl rfl rfl rfl rfl rfl ?_
  refine go_ops hΓ 5 rfl ?_
  obtain rfl := Option.some.inj h2
  exact fin_objs hΓ [] (.inr rfl) rfl rfl rfl rfl (.inl rfl)

theorem c_lanemake_Stream_Some {s : T_lanemake_Stream} {l : List Str} {r : Str × T_lanemake_Stream} (h : m_lanemake_Stream_Some s l = some r) : EC Tryd.prog 26 [.ptr 0 0, .d (Sl eS l)] [.box 25 [.d (Sl (eN .i64) s.L), I s.v_at]] fun g hp' => g = S r.1 ∧ hp' = [.box 25 [.d (Sl (eN .i64) r.2.L), I r.2.v_at]] := by
  refine ec_enter (Fr.of 0 _) Tryd.func26 rfl (Fr.of_ok _) (Nat.le_of_ble_eq_true rfl) fun _ => ?_
  refine go_in ?_
  unfold m_lanemake_Stream_Some at h
  obtain ⟨y1, hy1, h2⟩ := bi_ok h
  refine go hΓ 11 rfl ?_
  refine eo_callF [0] (I y1.1) [.box 25 [.d (Sl (eN .i64) y1.2.L), I y1.2.v_at]] (callable Tryd.func37 rfl rfl) (c_lanemake_Stream_Next hy1) rfl (Nat.le_of_ble_eq_true rfl) rfl rfl rfl rfl rfl rfl rfl rfl rfl rfl ?_
  obtain ⟨x3, hx3, h4⟩ := bi_ok h2
  refine eo_o rfl (op_elemZ hΓ (enc := eS) hx3 rfl rfl rfl rfl rfl (fun _ => rfl)) ?_
  refine go_ops hΓ 5 rfl ?_
  obtain rfl := Option.some.inj h4
  exact fin_objs hΓ [] (.inr rfl) rfl rfl rfl rfl (.inl rfl)

theorem c_lanemake_Stream_Domain {s : T_lanemake_Stream} {r : Str × T_lanemake_Stream} (h : m_lanemake_Stream_Domain s = some r) : EC Tryd.prog 5 [.ptr 0 0] [.box 25 [.d (Sl (eN .i64) s.L), I s.v_at]] fun g hp' => g = S r.1 ∧ hp' = [.box 25 [.d (Sl (eN .i64) r.2.L), I r.2.v_at]] := by
  refine ec_enter (Fr.of 0 _) Tryd.func5 rfl (Fr.of_ok _) (Nat.le_of_ble_eq_true rfl) fun _ => ?_
  refine go_in ?_
  unfold m_lanemake_Stream_Domain at h
  obtain ⟨y1, hy1, h2⟩ := bi_ok h
  refine go hΓ 9 rfl ?_
  refine eo_callF [0] (B y1.1) [.box 25 [.d (Sl (eN .i64) y1.2.L), I y1.2.v_at]] (callable Tryd.func25 rfl rfl) (c_lanemake_Stream_Flip hy1) rfl (Nat.le_of_ble_eq_true rfl) rfl rfl rfl rfl rfl rfl rfl rfl rfl rfl ?_
  refine go_ops hΓ 2 rfl ?_
  refine j_cond rfl (fun hb => ?_) (fun hb => ?_)
  · have h3 := cT h2 hb
    obtain ⟨y4, hy4, h5⟩ := bi_ok h3
    refine go hΓ 3 rfl ?_
    refine eo_callP (callable Tryd.func27 rfl rfl) (c_strings_Repeat hy4) rfl (Nat.le_of_ble_eq_true rfl) rfl rfl rfl rfl rfl ?_
    obtain ⟨y6, hy6, h7⟩ := bi_ok h5
    refine eo_callP (callable Tryd.func27 rfl rfl) (c_strings_Repeat hy6) rfl (Nat.le_of_ble_eq_true rfl) rfl rfl rfl rfl rfl ?_
    obtain ⟨y8, hy8, h9⟩ := bi_ok h7
    refine eo_o rfl (op_catZ hy8 rfl rfl) ?_
    obtain ⟨y10, hy10, h11⟩ := bi_ok h9
    refine eo_callP (callable Tryd.func27 rfl rfl) (c_strings_Repeat hy10) rfl (Nat.le_of_ble_eq_true rfl) rfl rfl rfl rfl rfl ?_
    obtain ⟨y12, hy12, h13⟩ := bi_ok h11
    refine eo_o rfl (op_catZ hy12 rfl rfl) ?_
    refine eo_litT hΓ (enc := eS) [[], [46], [97, 46, 46, 98], [45, 97], [65, 46, 98], [97, 95, 98], [95, 120, 46, 121], y4, y8, y12, [97, 46]] rfl rfl rfl rfl rfl rfl rfl rfl rfl rfl rfl rfl (Nat.le_of_ble_eq_true rfl) ?_
    obtain ⟨y14, hy14, h15⟩ := bi_ok h13
    refine eo_callF [0] (S y14.1) [.box 25 [.d (Sl (eN .i64) y14.2.L), I y14.2.v_at]] (callable Tryd.func26 rfl rfl) (c_lanemake_Stream_Some hy14) rfl (Nat.le_of_ble_eq_true rfl) rfl rfl rfl rfl rfl rfl rfl rfl rfl rfl ?_
    refine go_ops hΓ 5 rfl ?_
    obtain rfl := Option.some.inj h15
    exact fin_objs hΓ [] (.inr rfl) rfl rfl rfl rfl (.inl rfl)
  · have h16 := cF h2 hb
    refine go hΓ 5 rfl ?_
    refine eo_litT hΓ (enc := eS) [[110, 101, 116, 46, 120], [97, 46, 110, 101, 116, 46, 120], [98, 46, 110, 101, 116, 46, 120], [99, 46, 110, 101, 116, 46, 120], [97, 46, 98, 46, 110, 101, 116, 46, 120], [108, 97, 98, 46, 110, 101, 116, 46, 120], [113, 46, 108, 97, 98, 46, 110, 101, 116, 46, 120], [120], [97, 110, 101, 116, 46, 120], [111, 116, 104, 101, 114], [97], [98]] rfl rfl rfl rfl rfl rfl rfl rfl rfl rfl rfl rfl (Nat.le_of_ble_eq_true rfl) ?_
    obtain ⟨y17, hy17, h18⟩ := bi_ok h16
    refine eo_callF [0] (S y17.1) [.box 25 [.d (Sl (eN .i64) y17.2.L), I y17.2.v_at]] (callable Tryd.func26 rfl rfl) (c_lanemake_Stream_Some hy17) rfl (Nat.le_of_ble_eq_true rfl) rfl rfl rfl rfl rfl rfl rfl rfl rfl rfl ?_
    refine go_ops hΓ 4 rfl ?_
    obtain rfl := Option.some.inj h18
    exact fin_objs hΓ [] (.inr rfl) rfl rfl rfl rfl (.inl rfl)

theorem c_lanemake_Stream_Splits {s : T_lanemake_Stream} {r : (List T_api_Split) × T_lanemake_Stream} (h : m_lanemake_Stream_Splits s = some r) : EC Tryd.prog 14 [.ptr 0 0] [.box 25 [.d (Sl (eN .i64) s.L), I s.v_at]] fun g hp' => g = .sl 1 r.1.length ∧ hp' = [.box 25 [.d (Sl (eN .i64) r.2.L), I r.2.v_at], .row 66 2 r.1.length (r.1.flatMap e_api_Split)] := by
  refine ec_enter (Fr.of 0 _) Tryd.func14 rfl (Fr.of_ok _) (Nat.le_of_ble_eq_true rfl) fun _ => ?_
  refine go_in ?_
  unfold m_lanemake_Stream_Splits at h
  refine go hΓ 7 rfl ?_
  refine eo_nilOwn (t := 0) 66 2 rfl (Nat.le_of_ble_eq_true rfl) ?_
  refine go_ops hΓ 5 rfl ?_
  refine eo_litT hΓ (enc := eS) [[], [97, 46, 110, 101, 116, 46, 120], [110, 101, 116, 46, 120], [111, 116, 104, 101, 114]] rfl rfl rfl rfl rfl rfl rfl rfl rfl rfl rfl rfl (Nat.le_of_ble_eq_true rfl) ?_
  refine go_ops hΓ 4 rfl ?_
  obtain ⟨q4, hq4, h5⟩ := bi_ok h
  refine j_bound 6 rfl fun hb7 => ?_
  refine j_cutNZ [(0, .ptr 0 0), (3, .sl 1 q4.2.length)] [.box 25 [.d (Sl (eN .i64) q4.1.L), I q4.1.v_at], .row 66 2 q4.2.length (q4.2.flatMap e_api_Split)] ?_ ?_
  · refine go hΓ 1 rfl ?_
    refine j_rangeF [[], [97, 46, 110, 101, 116, 46, 120], [110, 101, 116, 46, 120], [111, 116, 104, 101, 114]] hq4 (fun i1 s2 => [(0, .ptr 0 0), (3, .sl 1 s2.2.length), (6, .d (Sl eS [[], [97, 46, 110, 101, 116, 46, 120], [110, 101, 116, 46, 120], [111, 116, 104, 101, 114]])), (7, I ([[], [97, 46, 110, 101, 116, 46, 120], [110, 101, 116, 46, 120], [111, 116, 104, 101, 114]].length : Int)), (8, I (i1 : Int))]) (fun s2 => [.box 25 [.d (Sl (eN .i64) s2.1.L), I s2.1.v_at], .row 66 2 s2.2.length (s2.2.flatMap e_api_Split)]) ⟨⟨rfl, rfl, rfl, rfl, rfl, trivial⟩, [], rfl, .inl rfl⟩ (fun i1 x3 s2 y11 hx8 hlt hy9 => ?_) (?_)
    · refine go hΓ 6 rfl ?_
      refine j_condT rfl (decide_eq_true (Int.ofNat_lt.2 hlt)) ?_
      refine go hΓ 6 rfl ?_
      refine eo_o rfl (op_elemZ hΓ (enc := eS) (getZ_nat hx8) rfl rfl rfl rfl rfl (fun _ => rfl)) ?_
      obtain ⟨y12, hy12, h13⟩ := bi_ok hy9
      refine go_ops hΓ 7 rfl ?_
      refine eo_callF [0] (B y12.1) [.box 25 [.d (Sl (eN .i64) y12.2.L), I y12.2.v_at], .row 66 2 s2.2.length (s2.2.flatMap e_api_Split)] (callable Tryd.func25 rfl rfl) (c_lanemake_Stream_Flip hy12) rfl (Nat.le_of_ble_eq_true rfl) rfl rfl rfl rfl rfl rfl rfl rfl rfl rfl ?_
      refine go_ops hΓ 3 rfl ?_
      refine j_cond rfl (fun hb => ?_) (fun hb => ?_)
      · have h14 := cT h13 hb
        refine go hΓ 3 rfl ?_
        refine eo_litT hΓ (enc := eS) [[105, 110]] rfl rfl rfl rfl rfl rfl rfl rfl rfl rfl rfl rfl (Nat.le_of_ble_eq_true rfl) ?_
        refine eo_litT hΓ (enc := eS) [[110, 111, 110, 101], [105, 110]] rfl rfl rfl rfl rfl rfl rfl rfl rfl rfl rfl rfl (Nat.le_of_ble_eq_true rfl) ?_
        refine eo_litT hΓ (enc := eS) [[111, 117, 116], [105, 110]] rfl rfl rfl rfl rfl rfl rfl rfl rfl rfl rfl rfl (Nat.le_of_ble_eq_true rfl) ?_
        refine eo_litT hΓ (enc := eS) [[111, 117, 116]] rfl rfl rfl rfl rfl rfl rfl rfl rfl rfl rfl rfl (Nat.le_of_ble_eq_true rfl) ?_
        refine eo_litT hΓ (enc := (eL eS)) [[[105, 110]], [[110, 111, 110, 101], [105, 110]], [[111, 117, 116], [105, 110]], [[111, 117, 116]]] rfl rfl rfl rfl rfl rfl rfl rfl rfl rfl rfl rfl (Nat.le_of_ble_eq_true rfl) ?_
        obtain ⟨y15, hy15, h16⟩ := bi_ok h14
        refine go_ops hΓ 1 rfl ?_
        refine eo_callF [0] (I y15.1) [.box 25 [.d (Sl (eN .i64) y15.2.L), I y15.2.v_at], .row 66 2 s2.2.length (s2.2.flatMap e_api_Split)] (callable Tryd.func37 rfl rfl) (c_lanemake_Stream_Next hy15) rfl (Nat.le_of_ble_eq_true rfl) rfl rfl rfl rfl rfl rfl rfl rfl rfl rfl ?_
        obtain ⟨x17, hx17, h18⟩ := bi_ok h16
        refine eo_o rfl (op_elemZ hΓ (enc := (eL eS)) hx17 rfl rfl rfl rfl rfl (fun _ => rfl)) ?_
        refine go_ops hΓ 1 rfl ?_
        refine eo_build hΓ (gs := [S x3, .d (Sl eS x17)]) rfl rfl rfl rfl rfl rfl rfl ?_
        refine eo_litT hΓ (enc := e_api_Split) [(⟨x3, x17⟩ : T_api_Split)] rfl rfl rfl rfl rfl rfl rfl rfl rfl rfl rfl rfl (Nat.le_of_ble_eq_true rfl) ?_
        obtain ⟨y19, hy19, h20⟩ := bi_ok h18
        refine eo_appendT hΓ (enc := e_api_Split) hy19 rfl rfl rfl rfl rfl rfl rfl rfl rfl (fun _ => rfl) rfl rfl rfl rfl ?_
        refine go_ops hΓ 8 rfl ?_
        obtain rfl := Option.some.inj h20
        exact ⟨⟨rfl, rfl, rfl, rfl, get_eq rfl (w64_succ (Nat.lt_of_lt_of_le hlt hb7)), trivial⟩, [], rfl, .inl rfl⟩
      · have h21 := cF h13 hb
        refine go hΓ 7 rfl ?_
        obtain rfl := Option.some.inj h21
        exact ⟨⟨rfl, rfl, rfl, rfl, get_eq rfl (w64_succ (Nat.lt_of_lt_of_le hlt hb7)), trivial⟩, [], rfl, .inl rfl⟩
    · refine go hΓ 6 rfl ?_
      refine j_condF rfl (decide_eq_false (Int.lt_irrefl _)) ?_
      refine go hΓ 4 rfl ?_
      exact ⟨⟨rfl, rfl, trivial⟩, [], rfl, .inl rfl⟩
  · obtain ⟨y22, hy22, h23⟩ := bi_ok h5
    refine go hΓ 5 rfl ?_
    refine eo_callF [0] (B y22.1) [.box 25 [.d (Sl (eN .i64) y22.2.L), I y22.2.v_at], .row 66 2 q4.2.length (q4.2.flatMap e_api_Split)] (callable Tryd.func25 rfl rfl) (c_lanemake_Stream_Flip hy22) rfl (Nat.le_of_ble_eq_true rfl) rfl rfl rfl rfl rfl rfl rfl rfl rfl rfl ?_
    obtain ⟨q24, hq24, h25⟩ := bi_ok h23
    refine go_ops hΓ 2 rfl ?_
    refine j_cutNZ [(3, .sl 1 q24.2.length)] [.box 25 [.d (Sl (eN .i64) q24.1.L), I q24.1.v_at], .row 66 2 q24.2.length (q24.2.flatMap e_api_Split)] ?_ ?_
    · refine j_cond rfl (fun hb => ?_) (fun hb => ?_)
      · have h26 := cT hq24 hb
        obtain ⟨y27, hy27, h28⟩ := bi_ok h26
        refine go hΓ 3 rfl ?_
        refine eo_callF [0] (S y27.1) [.box 25 [.d (Sl (eN .i64) y27.2.L), I y27.2.v_at], .row 66 2 q4.2.length (q4.2.flatMap e_api_Split)] (callable Tryd.func5 rfl rfl) (c_lanemake_Stream_Domain hy27) rfl (Nat.le_of_ble_eq_true rfl) rfl rfl rfl rfl rfl rfl rfl rfl rfl rfl ?_
        refine eo_litT hΓ (enc := eS) [[]] rfl rfl rfl rfl rfl rfl rfl rfl rfl rfl rfl rfl (Nat.le_of_ble_eq_true rfl) ?_
        refine eo_litT hΓ (enc := eS) [[97], [97]] rfl rfl rfl rfl rfl rfl rfl rfl rfl rfl rfl rfl (Nat.le_of_ble_eq_true rfl) ?_
        refine eo_litT hΓ (enc := eS) [[97]] rfl rfl rfl rfl rfl rfl rfl rfl rfl rfl rfl rfl (Nat.le_of_ble_eq_true rfl) ?_
        refine eo_litT hΓ (enc := (eL eS)) [[], [[]], [[97], [97]], [[97]]] rfl rfl rfl rfl rfl rfl rfl rfl rfl rfl rfl rfl (Nat.le_of_ble_eq_true rfl) ?_
        obtain ⟨y29, hy29, h30⟩ := bi_ok h28
        refine go_ops hΓ 1 rfl ?_
        refine eo_callF [0] (I y29.1) [.box 25 [.d (Sl (eN .i64) y29.2.L), I y29.2.v_at], .row 66 2 q4.2.length (q4.2.flatMap e_api_Split)] (callable Tryd.func37 rfl rfl) (c_lanemake_Stream_Next hy29) rfl (Nat.le_of_ble_eq_true rfl) rfl rfl rfl rfl rfl rfl rfl rfl rfl rfl ?_
        obtain ⟨x31, hx31, h32⟩ := bi_ok h30
        refine eo_o rfl (op_elemZ hΓ (enc := (eL eS)) hx31 rfl rfl rfl rfl rfl (fun _ => rfl)) ?_
        refine go_ops hΓ 1 rfl ?_
        refine eo_build hΓ (gs := [S y27.1, .d (Sl eS x31)]) rfl rfl rfl rfl rfl rfl rfl ?_
        refine eo_litT hΓ (enc := e_api_Split) [(⟨y27.1, x31⟩ : T_api_Split)] rfl rfl rfl rfl rfl rfl rfl rfl rfl rfl rfl rfl (Nat.le_of_ble_eq_true rfl) ?_
        obtain ⟨y33, hy33, h34⟩ := bi_ok h32
        refine eo_appendT hΓ (enc := e_api_Split) hy33 rfl rfl rfl rfl rfl rfl rfl rfl rfl (fun _ => rfl) rfl rfl rfl rfl ?_
        refine go_ops hΓ 2 rfl ?_
        obtain rfl := Option.some.inj h34
        exact ⟨⟨rfl, trivial⟩, [], rfl, .inl rfl⟩
      · have h35 := cF hq24 hb
        refine go hΓ 1 rfl ?_
        obtain rfl := Option.some.inj h35
        exact ⟨⟨rfl, trivial⟩, [], rfl, .inl rfl⟩
    · refine go hΓ 8 rfl ?_
      obtain rfl := Option.some.inj h25
      exact fin_objs hΓ [] (.inr rfl) rfl rfl rfl rfl (.inl rfl)

theorem c_slices_Clone_string_string {s : List Str} {r : List Str} (h : m_slices_Clone_string_string s = some r) : EC Tryd.prog 38 [.d (Sl eS s)] [] fun g hp' => g = .sl 0 r.length ∧ hp' = [.row 9 1 r.length (r.flatMap eS)] := by
  refine ec_enter (Fr.of 0 _) Tryd.func38 rfl (Fr.of_ok _) (Nat.le_of_ble_eq_true rfl) fun _ => ?_
  refine go_in ?_
  unfold m_slices_Clone_string_string at h
  refine go hΓ 2 rfl ?_
  refine eo_nilOwn (t := 0) 9 1 rfl (Nat.le_of_ble_eq_true rfl) ?_
  refine go_ops hΓ 6 rfl ?_
  refine eo_isNil hΓ rfl rfl rfl rfl rfl fun b hbn => ?_
  rcases b with _ | _
  · refine go_ops hΓ 7 rfl ?_
    refine eo_litRowT hΓ (enc := eS) ([] : List Str) rfl rfl rfl rfl rfl rfl rfl rfl rfl rfl rfl rfl (Nat.le_of_ble_eq_true rfl) ?_
    obtain ⟨y1, hy1, h2⟩ := bi_ok h
    refine go_ops hΓ 1 rfl ?_
    refine eo_appendT hΓ (enc := eS) hy1 rfl rfl rfl rfl rfl rfl rfl rfl rfl (fun _ => rfl) rfl rfl rfl rfl ?_
    refine go_ops hΓ 1 rfl ?_
    refine eo_shr 0 [] _ [.dead, .row 9 1 y1.length (y1.flatMap eS)] rfl rfl rfl (Nat.le_of_ble_eq_true rfl) ?_
    refine eo_move 1 0 [.row 9 1 y1.length (y1.flatMap eS), .dead] rfl rfl rfl rfl rfl rfl ?_
    refine go_ops hΓ 3 rfl ?_
    obtain rfl := Option.some.inj h2
    exact fin_objs hΓ [_] (.inr rfl) rfl rfl rfl rfl (.inr ⟨HB.mk rfl, rfl⟩)
  · obtain rfl := List.eq_nil_of_length_eq_zero (hbn rfl).1
    replace h : (some ([] : List Str) : Option (List Str)) = some r := h
    refine go_ops hΓ 5 rfl ?_
    refine eo_nilOwn (t := 0) 9 1 rfl (Nat.le_of_ble_eq_true rfl) ?_
    refine eo_shr 0 [] _ [.dead, .row 9 1 ([] : List Str).length (([] : List Str).flatMap eS)] rfl rfl rfl (Nat.le_of_ble_eq_true rfl) ?_
    refine eo_move 1 0 [.row 9 1 ([] : List Str).length (([] : List Str).flatMap eS), .dead] rfl rfl rfl rfl rfl rfl ?_
    refine go_ops hΓ 4 rfl ?_
    obtain rfl := Option.some.inj h
    exact fin_objs hΓ [_] (.inr rfl) rfl rfl rfl rfl (.inr ⟨HB.mk rfl, rfl⟩)

theorem c_lanemake_Stream_Search {s : T_lanemake_Stream} {r : (List Str) × T_lanemake_Stream} (h : m_lanemake_Stream_Search s = some r) : EC Tryd.prog 15 [.ptr 0 0] [.box 25 [.d (Sl (eN .i64) s.L), I s.v_at]] fun g hp' => g = .d (Sl eS r.1) ∧ hp' = [.box 25 [.d (Sl (eN .i64) r.2.L), I r.2.v_at]] := by
  refine ec_enter (Fr.of 0 _) Tryd.func15 rfl (Fr.of_ok _) (Nat.le_of_ble_eq_true rfl) fun _ => ?_
  refine go_in ?_
  unfold m_lanemake_Stream_Search at h
  refine go hΓ 7 rfl ?_
  refine eo_litT hΓ (enc := eS) [[110, 101, 116, 46, 120]] rfl rfl rfl rfl rfl rfl rfl rfl rfl rfl rfl rfl (Nat.le_of_ble_eq_true rfl) ?_
  refine eo_litT hΓ (enc := eS) [[108, 97, 98, 46, 110, 101, 116, 46, 120], [110, 101, 116, 46, 120]] rfl rfl rfl rfl rfl rfl rfl rfl rfl rfl rfl rfl (Nat.le_of_ble_eq_true rfl) ?_
  refine eo_litT hΓ (enc := eS) [[110, 101, 116, 46, 120], [110, 101, 116, 46, 120]] rfl rfl rfl rfl rfl rfl rfl rfl rfl rfl rfl rfl (Nat.le_of_ble_eq_true rfl) ?_
  refine eo_litT hΓ (enc := eS) [[110, 101, 116, 46, 120], [111, 116, 104, 101, 114]] rfl rfl rfl rfl rfl rfl rfl rfl rfl rfl rfl rfl (Nat.le_of_ble_eq_true rfl) ?_
  refine eo_litT hΓ (enc := (eL eS)) [[], [[110, 101, 116, 46, 120]], [[108, 97, 98, 46, 110, 101, 116, 46, 120], [110, 101, 116, 46, 120]], [[110, 101, 116, 46, 120], [110, 101, 116, 46, 120]], [[110, 101, 116, 46, 120], [111, 116, 104, 101, 114]]] rfl rfl rfl rfl rfl rfl rfl rfl rfl rfl rfl rfl (Nat.le_of_ble_eq_true rfl) ?_
  obtain ⟨y1, hy1, h2⟩ := bi_ok h
  refine go_ops hΓ 1 rfl ?_
  refine eo_callF [0] (I y1.1) [.box 25 [.d (Sl (eN .i64) y1.2.L), I y1.2.v_at]] (callable Tryd.func37 rfl rfl) (c_lanemake_Stream_Next hy1) rfl (Nat.le_of_ble_eq_true rfl) rfl rfl rfl rfl rfl rfl rfl rfl rfl rfl ?_
  obtain ⟨x3, hx3, h4⟩ := bi_ok h2
  refine eo_o rfl (op_elemZ hΓ (enc := (eL eS)) hx3 rfl rfl rfl rfl rfl (fun _ => rfl)) ?_
  obtain ⟨y5, hy5, h6⟩ := bi_ok h4
  refine go_ops hΓ 8 rfl ?_
  refine eo_callF [0] (B y5.1) [.box 25 [.d (Sl (eN .i64) y5.2.L), I y5.2.v_at]] (callable Tryd.func25 rfl rfl) (c_lanemake_Stream_Flip hy5) rfl (Nat.le_of_ble_eq_true rfl) rfl rfl rfl rfl rfl rfl rfl rfl rfl rfl ?_
  refine go_ops hΓ 2 rfl ?_
  refine j_cond rfl (fun hb => ?_) (fun hb => ?_)
  · have h7 := cT h6 hb
    obtain ⟨y8, hy8, h9⟩ := bi_ok h7
    refine go hΓ 3 rfl ?_
    refine eo_callF [] (.sl 1 y8.length) [.box 25 [.d (Sl (eN .i64) y5.2.L), I y5.2.v_at], .row 9 1 y8.length (y8.flatMap eS)] (callable Tryd.func38 rfl rfl) (c_slices_Clone_string_string hy8) rfl (Nat.le_of_ble_eq_true rfl) rfl rfl rfl rfl rfl rfl rfl rfl rfl rfl ?_
    obtain ⟨y10, hy10, h11⟩ := bi_ok h9
    refine go_ops hΓ 1 rfl ?_
    refine eo_callF [0] (S y10.1) [.box 25 [.d (Sl (eN .i64) y10.2.L), I y10.2.v_at], .row 9 1 y8.length (y8.flatMap eS)] (callable Tryd.func5 rfl rfl) (c_lanemake_Stream_Domain hy10) rfl (Nat.le_of_ble_eq_true rfl) rfl rfl rfl rfl rfl rfl rfl rfl rfl rfl ?_
    refine eo_litT hΓ (enc := eS) [y10.1] rfl rfl rfl rfl rfl rfl rfl rfl rfl rfl rfl rfl (Nat.le_of_ble_eq_true rfl) ?_
    obtain ⟨y12, hy12, h13⟩ := bi_ok h11
    refine eo_appendT hΓ (enc := eS) hy12 rfl rfl rfl rfl rfl rfl rfl rfl rfl (fun _ => rfl) rfl rfl rfl rfl ?_
    refine go_ops hΓ 1 rfl ?_
    refine eo_shr 1 [2] _ [.box 25 [.d (Sl (eN .i64) y10.2.L), I y10.2.v_at], .dead] rfl rfl rfl (Nat.le_of_ble_eq_true rfl) ?_
    refine go_ops hΓ 4 rfl ?_
    obtain rfl := Option.some.inj h13
    exact fin_objs hΓ [_] (.inr rfl) rfl rfl rfl rfl (.inr ⟨HB.mk rfl, rfl⟩)
  · have h14 := cF h6 hb
    refine go hΓ 9 rfl ?_
    obtain rfl := Option.some.inj h14
    exact fin_objs hΓ [] (.inr rfl) rfl rfl rfl rfl (.inl rfl)

theorem c_lanemake_Stream_Pick {s : T_lanemake_Stream} {l : List Int} {r : Int × T_lanemake_Stream} (h : m_lanemake_Stream_Pick s l = some r) : EC Tryd.prog 16 [.ptr 0 0, .d (Sl (eN .i64) l)] [.box 25 [.d (Sl (eN .i64) s.L), I s.v_at]] fun g hp' => g = I r.1 ∧ hp' = [.box 25 [.d (Sl (eN .i64) r.2.L), I r.2.v_at]] := by
  refine ec_enter (Fr.of 0 _) Tryd.func16 rfl (Fr.of_ok _) (Nat.le_of_ble_eq_true rfl) fun _ => ?_
  refine go_in ?_
  unfold m_lanemake_Stream_Pick at h
  obtain ⟨y1, hy1, h2⟩ := bi_ok h
  refine go hΓ 11 rfl ?_
  refine eo_callF [0] (I y1.1) [.box 25 [.d (Sl (eN .i64) y1.2.L), I y1.2.v_at]] (callable Tryd.func37 rfl rfl) (c_lanemake_Stream_Next hy1) rfl (Nat.le_of_ble_eq_true rfl) rfl rfl rfl rfl rfl rfl rfl rfl rfl rfl ?_
  obtain ⟨x3, hx3, h4⟩ := bi_ok h2
  refine eo_o rfl (op_elemZ hΓ (enc := (eN .i64)) hx3 rfl rfl rfl rfl rfl (fun _ => rfl)) ?_
  refine go_ops hΓ 5 rfl ?_
  obtain rfl := Option.some.inj h4
  exact fin_objs hΓ [] (.inr rfl) rfl rfl rfl rfl (.inl rfl)

theorem c_name_isLetter {c : Int} {r : Bool} (h : m_name_isLetter c = some r) : Pure Tryd.prog 59 [.d (.v (.int .u8 c))] (B r) := by
  refine Pure.enter (Fr.of 0 _) Tryd.func59 rfl (Fr.of_ok _) rfl rfl ?_
  refine go_in ?_
  unfold m_name_isLetter at h
  refine go hΓ 10 rfl ?_
  refine o_cut 3 [(0, .d (.v (.int .u8 c))), (2, B false), (8, B ((decide ((c : Int) ≥ 97)) && (decide ((c : Int) ≤ 122))))] [] ?_ ?_
  · refine eo_gsplit rfl rfl (fun hb => ?_) (fun hb => ?_)
    · refine go_ops hΓ 4 rfl ?_
      exact ⟨⟨rfl, rfl, get_b rfl (and_t hb), trivial⟩, [], rfl, .inl rfl⟩
    · refine go_ops hΓ 4 rfl ?_
      exact ⟨⟨rfl, rfl, get_b rfl (and_f hb), trivial⟩, [], rfl, .inl rfl⟩
  · refine go_ops hΓ 1 rfl ?_
    refine o_cut 7 [(2, B false), (16, B (((decide ((c : Int) ≥ 97)) && (decide ((c : Int) ≤ 122))) || ((decide ((c : Int) ≥ 48)) && (decide ((c : Int) ≤ 57)))))] [] ?_ ?_
    · refine eo_gsplit rfl rfl (fun hb => ?_) (fun hb => ?_)
      · refine go_ops hΓ 8 rfl ?_
        exact ⟨⟨rfl, get_b rfl (or_t hb), trivial⟩, [], rfl, .inl rfl⟩
      · refine go_ops hΓ 3 rfl ?_
        refine o_cut 3 [(2, B false), (9, B false), (15, B ((decide ((c : Int) ≥ 48)) && (decide ((c : Int) ≤ 57))))] [] ?_ ?_
        · refine eo_gsplit rfl rfl (fun hb => ?_) (fun hb => ?_)
          · refine go_ops hΓ 4 rfl ?_
            exact ⟨⟨rfl, rfl, get_b rfl (and_t hb), trivial⟩, [], rfl, .inl rfl⟩
          · refine go_ops hΓ 4 rfl ?_
            exact ⟨⟨rfl, rfl, get_b rfl (and_f hb), trivial⟩, [], rfl, .inl rfl⟩
        · refine go_ops hΓ 2 rfl ?_
          exact ⟨⟨rfl, get_b rfl (or_f hb), trivial⟩, [], rfl, .inl rfl⟩
    · refine go_ops hΓ 4 rfl ?_
      obtain rfl := Option.some.inj h
      exact fin_pure hΓ (.inr rfl) rfl rfl

theorem c_name_isLabel {k : Nat} {s : Str} {r : Bool} (h : m_name_isLabel k s = some r) : Pure Tryd.prog 33 [S s] (B r) := by
  induction k generalizing s r with
  | zero => unfold m_name_isLabel at h; cases h
  | succ k ih0 =>
    have ih : ∀ {s : Str} {r : Bool}, m_name_isLabel k s = some r → Pure Tryd.prog 33 [S s] (B r) := by intro s r h; first | exact ih0 h | exact ih0 _ _ h
    refine Pure.enter (Fr.of 0 _) Tryd.func33 rfl (Fr.of_ok _) rfl rfl ?_
    refine go_in ?_
    unfold m_name_isLabel at h
    obtain ⟨y1, hy1, h2⟩ := bi_ok h
    refine go hΓ 9 rfl ?_
    refine eo_callP (callable Tryd.func58 rfl rfl) (c_strings_CutPrefix hy1) rfl (Nat.le_of_ble_eq_true rfl) rfl rfl rfl rfl rfl ?_
    refine go_ops hΓ 12 rfl ?_
    refine j_cond rfl (fun hb => ?_) (fun hb => ?_)
    · have h3 := cT h2 hb
      obtain ⟨y4, hy4, h5⟩ := bi_ok h3
      refine go hΓ 3 rfl ?_
      refine eo_callP (callable Tryd.func51 rfl rfl) (c_strings_HasPrefix hy4) rfl (Nat.le_of_ble_eq_true rfl) rfl rfl rfl rfl rfl ?_
      refine go_ops hΓ 2 rfl ?_
      obtain ⟨q6, hq6, h7⟩ := bi_ok h5
      refine o_cut 3 [(0, S s), (2, B false), (18, B q6)] [] ?_ ?_
      · refine eo_gsplit rfl rfl (fun hb => ?_) (fun hb => ?_)
        · have h8 := cT hq6 hb
          obtain ⟨y9, hy9, h10⟩ := bi_ok h8
          refine go_ops hΓ 1 rfl ?_
          refine eo_guard rfl ?_
          refine eo_callP (callable Tryd.func33 rfl rfl) (ih hy9) rfl (Nat.le_of_ble_eq_true rfl) rfl rfl rfl rfl rfl ?_
          refine go_ops hΓ 2 rfl ?_
          obtain rfl := Option.some.inj h10
          exact ⟨⟨rfl, rfl, rfl, trivial⟩, [], rfl, .inl rfl⟩
        · have h11 := cF hq6 hb
          refine go_ops hΓ 4 rfl ?_
          obtain rfl := Option.some.inj h11
          exact ⟨⟨rfl, rfl, rfl, trivial⟩, [], rfl, .inl rfl⟩
      · refine go_ops hΓ 1 rfl ?_
        refine o_cut 4 [(2, B false), (23, B (q6 && (decide (((s.length : Int) : Int) ≤ 63))))] [] ?_ ?_
        · refine eo_gsplit rfl rfl (fun hb => ?_) (fun hb => ?_)
          · refine go_ops hΓ 5 rfl ?_
            exact ⟨⟨rfl, get_b rfl (and_t hb), trivial⟩, [], rfl, .inl rfl⟩
          · refine go_ops hΓ 5 rfl ?_
            exact ⟨⟨rfl, get_b rfl (and_f hb), trivial⟩, [], rfl, .inl rfl⟩
        · refine go_ops hΓ 5 rfl ?_
          obtain rfl := Option.some.inj h7
          exact fin_pure hΓ (.inr rfl) rfl rfl
    · have h12 := cF h2 hb
      refine go hΓ 10 rfl ?_
      obtain ⟨q16, hq16, h17⟩ := bi_ok h12
      obtain ⟨hb19, h20⟩ := gd_ok hq16
      replace hb19 := of_decide_eq_true hb19
      refine j_cutEZ (R := fun a18 => q16 = .go a18) (fun a18 => [(0, S s)]) (fun a18 => []) ?_ ?_
      · refine go hΓ 1 rfl ?_
        refine j_rangeI h20 (fun i13 s14 => [(0, S s), (25, I (s.length : Int)), (26, I (i13 : Int))]) (fun s14 => []) ⟨⟨rfl, rfl, rfl, trivial⟩, [], rfl, .inl rfl⟩ (fun i13 s14 y24 hlt hy22 hout23 => ?_) (fun s14 hgo hge => ?_)
        · refine go hΓ 6 rfl ?_
          refine j_condT rfl (decide_eq_true hlt) ?_
          obtain ⟨c25, hc25, h26⟩ := bi_ok hy22
          refine go hΓ 14 rfl ?_
          refine eo_o rfl (op_byteZ hΓ hc25 rfl rfl rfl rfl) ?_
          obtain ⟨y27, hy27, h28⟩ := bi_ok h26
          refine eo_callP (callable Tryd.func59 rfl rfl) (c_name_isLetter hy27) rfl (Nat.le_of_ble_eq_true rfl) rfl rfl rfl rfl rfl ?_
          refine go_ops hΓ 2 rfl ?_
          obtain ⟨q29, hq29, h30⟩ := bi_ok h28
          refine o_cut 5 [(0, S s), (25, I (s.length : Int)), (26, I (i13 : Int)), (39, B q29)] [] ?_ ?_
          · refine eo_gsplit rfl rfl (fun hb => ?_) (fun hb => ?_)
            · have h31 := cT hq29 hb
              obtain ⟨c32, hc32, h33⟩ := bi_ok h31
              refine go_ops hΓ 2 rfl ?_
              refine eo_guard rfl ?_
              refine eo_o rfl (op_byteZ hΓ hc32 rfl rfl rfl rfl) ?_
              refine go_ops hΓ 3 rfl ?_
              obtain rfl := Option.some.inj h33
              exact ⟨⟨rfl, rfl, rfl, rfl, trivial⟩, [], rfl, .inl rfl⟩
            · have h34 := cF hq29 hb
              refine go_ops hΓ 6 rfl ?_
              obtain rfl := Option.some.inj h34
              exact ⟨⟨rfl, rfl, rfl, rfl, trivial⟩, [], rfl, .inl rfl⟩
          · refine go_ops hΓ 2 rfl ?_
            refine j_cond rfl (fun hb => ?_) (fun hb => ?_)
            · have h35 := cT h30 hb
              refine go hΓ 8 rfl ?_
              obtain ⟨v36, hv36, h37⟩ := bi_ok h35
              obtain rfl := Option.some.inj h37
              obtain rfl := hout23 _ rfl
              obtain rfl := Option.some.inj h17
              refine go hΓ 4 rfl ?_
              obtain rfl := Option.some.inj hv36
              exact fin_pure hΓ (.inr rfl) rfl rfl
            · have h38 := cF h30 hb
              refine go hΓ 7 rfl ?_
              obtain rfl := Option.some.inj h38
              exact ⟨_, rfl, ⟨⟨rfl, rfl, get_eq rfl (w64_succ (by omega)), trivial⟩, [], rfl, .inl rfl⟩⟩
        · subst hgo
          refine go hΓ 6 rfl ?_
          refine j_condF rfl (decide_eq_false hge) ?_
          refine go hΓ 4 rfl ?_
          exact ⟨_, rfl, ⟨⟨rfl, trivial⟩, [], rfl, .inl rfl⟩⟩
      · intro a18 ha
        subst ha
        replace h17 := goI_l h17
        refine go hΓ 6 rfl ?_
        refine o_cut 4 [(0, S s), (47, B ((!((s : Str) == [])) && (decide (((s.length : Int) : Int) ≤ 63))))] [] ?_ ?_
        · refine eo_gsplit rfl rfl (fun hb => ?_) (fun hb => ?_)
          · refine go_ops hΓ 5 rfl ?_
            exact ⟨⟨rfl, get_b rfl (and_t hb), trivial⟩, [], rfl, .inl rfl⟩
          · refine go_ops hΓ 5 rfl ?_
            exact ⟨⟨rfl, get_b rfl (and_f hb), trivial⟩, [], rfl, .inl rfl⟩
        · refine go_ops hΓ 1 rfl ?_
          obtain ⟨q39, hq39, h40⟩ := bi_ok h17
          refine o_cut 4 [(0, S s), (52, B q39)] [] ?_ ?_
          · refine eo_gsplit rfl rfl (fun hb => ?_) (fun hb => ?_)
            · have h41 := cT hq39 hb
              obtain ⟨c42, hc42, h43⟩ := bi_ok h41
              refine go_ops hΓ 1 rfl ?_
              refine eo_guard rfl ?_
              refine eo_o rfl (op_byteZ hΓ hc42 rfl rfl rfl rfl) ?_
              refine go_ops hΓ 3 rfl ?_
              obtain rfl := Option.some.inj h43
              exact ⟨⟨rfl, rfl, trivial⟩, [], rfl, .inl rfl⟩
            · have h44 := cF hq39 hb
              refine go_ops hΓ 5 rfl ?_
              obtain rfl := Option.some.inj h44
              exact ⟨⟨rfl, rfl, trivial⟩, [], rfl, .inl rfl⟩
          · refine go_ops hΓ 1 rfl ?_
            obtain ⟨q45, hq45, h46⟩ := bi_ok h40
            refine o_cut 7 [(60, B q45)] [] ?_ ?_
            · refine eo_gsplit rfl rfl (fun hb => ?_) (fun hb => ?_)
              · have h47 := cT hq45 hb
                obtain ⟨c48, hc48, h49⟩ := bi_ok h47
                refine go_ops hΓ 4 rfl ?_
                refine eo_guard rfl ?_
                refine eo_o rfl (op_byteZ hΓ hc48 rfl rfl rfl rfl) ?_
                refine go_ops hΓ 3 rfl ?_
                obtain rfl := Option.some.inj h49
                exact ⟨⟨rfl, trivial⟩, [], rfl, .inl rfl⟩
              · have h50 := cF hq45 hb
                refine go_ops hΓ 8 rfl ?_
                obtain rfl := Option.some.inj h50
                exact ⟨⟨rfl, trivial⟩, [], rfl, .inl rfl⟩
            · refine go_ops hΓ 4 rfl ?_
              obtain rfl := Option.some.inj h46
              exact fin_pure hΓ (.inr rfl) rfl rfl

theorem c_name_CheckDomain {k : Nat} {s : Str} {r : Int} (h : m_name_CheckDomain k s = some r) : Pure Tryd.prog 8 [S s] (I r) := by
  refine Pure.enter (Fr.of 0 _) Tryd.func8 rfl (Fr.of_ok _) rfl rfl ?_
  refine go_in ?_
  unfold m_name_CheckDomain at h
  refine go hΓ 13 rfl ?_
  refine j_cond rfl (fun hb => ?_) (fun hb => ?_)
  · have h1 := cT h hb
    refine go hΓ 7 rfl ?_
    obtain rfl := Option.some.inj h1
    exact fin_pure hΓ (.inr rfl) rfl rfl
  · have h2 := cF h hb
    obtain ⟨y3, hy3, h4⟩ := bi_ok h2
    refine go hΓ 6 rfl ?_
    refine eo_callP (callable Tryd.func30 rfl rfl) (Pure.rows (c_strings_Split hy3) rfl rfl) rfl (Nat.le_of_ble_eq_true rfl) rfl rfl rfl rfl rfl ?_
    refine go_ops hΓ 4 rfl ?_
    obtain ⟨q8, hq8, h9⟩ := bi_ok h4
    refine j_bound 9 rfl fun hb11 => ?_
    refine j_cutEZ (R := fun a10 => q8 = .go a10) (fun a10 => []) (fun a10 => []) ?_ ?_
    · refine go hΓ 1 rfl ?_
      refine j_range y3 hq8 (fun i5 s6 => [(9, .d (Sl eS y3)), (10, I (y3.length : Int)), (11, I (i5 : Int))]) (fun s6 => []) ⟨⟨rfl, rfl, rfl, trivial⟩, [], rfl, .inl rfl⟩ (fun i5 x7 s6 y15 hx12 hlt hy13 hout14 => ?_) (fun s6 hgo => ?_)
      · refine go hΓ 6 rfl ?_
        refine j_condT rfl (decide_eq_true (Int.ofNat_lt.2 hlt)) ?_
        refine go hΓ 6 rfl ?_
        refine eo_o rfl (op_elemZ hΓ (enc := eS) (getZ_nat hx12) rfl rfl rfl rfl rfl (fun _ => rfl)) ?_
        obtain ⟨y16, hy16, h17⟩ := bi_ok hy13
        refine go_ops hΓ 7 rfl ?_
        refine eo_callP (callable Tryd.func33 rfl rfl) (c_name_isLabel hy16) rfl (Nat.le_of_ble_eq_true rfl) rfl rfl rfl rfl rfl ?_
        refine go_ops hΓ 3 rfl ?_
        refine j_cond rfl (fun hb => ?_) (fun hb => ?_)
        · have h18 := cT h17 hb
          refine go hΓ 8 rfl ?_
          obtain ⟨v19, hv19, h20⟩ := bi_ok h18
          obtain rfl := Option.some.inj h20
          obtain rfl := hout14 _ rfl
          obtain rfl := Option.some.inj h9
          refine go hΓ 4 rfl ?_
          obtain rfl := Option.some.inj hv19
          exact fin_pure hΓ (.inr rfl) rfl rfl
        · have h21 := cF h17 hb
          refine go hΓ 7 rfl ?_
          obtain rfl := Option.some.inj h21
          exact ⟨_, rfl, ⟨⟨rfl, rfl, get_eq rfl (w64_succ (Nat.lt_of_lt_of_le hlt hb11)), trivial⟩, [], rfl, .inl rfl⟩⟩
      · subst hgo
        refine go hΓ 6 rfl ?_
        refine j_condF rfl (decide_eq_false (Int.lt_irrefl _)) ?_
        refine go hΓ 4 rfl ?_
        exact ⟨_, rfl, ⟨trivial, [], rfl, .inl rfl⟩⟩
    · intro a10 ha
      subst ha
      replace h9 := goI_l h9
      refine go hΓ 7 rfl ?_
      obtain rfl := Option.some.inj h9
      exact fin_pure hΓ (.inr rfl) rfl rfl

theorem c_kit_IsKey {k : Nat} {s : Str} {r : Bool} (h : m_kit_IsKey k s = some r) : Pure Tryd.prog 46 [S s] (B r) := by
  refine Pure.enter (Fr.of 0 _) Tryd.func46 rfl (Fr.of_ok _) rfl rfl ?_
  refine go_in ?_
  unfold m_kit_IsKey at h
  refine go hΓ 11 rfl ?_
  obtain ⟨q4, hq4, h5⟩ := bi_ok h
  refine j_cutEZ (R := fun a6 => q4 = .inl a6) (fun a6 => [(0, S s)]) (fun a6 => []) ?_ ?_
  · refine go hΓ 1 rfl ?_
    refine j_loop hq4 (fun s2 => [(0, S s), (3, I s2)]) (fun s2 => []) ⟨⟨rfl, rfl, trivial⟩, [], rfl, .inl rfl⟩ (fun s2 y10 hy8 hout9 => ?_)
    refine go hΓ 9 rfl ?_
    refine j_cond rfl (fun hb => ?_) (fun hb => ?_)
    · have h11 := cT hy8 hb
      obtain ⟨c12, hc12, h13⟩ := bi_ok h11
      refine go hΓ 8 rfl ?_
      refine eo_o rfl (op_byteZ hΓ hc12 rfl rfl rfl rfl) ?_
      refine go_ops hΓ 8 rfl ?_
      refine o_cut 3 [(0, S s), (3, I s2), (4, .d (.v (.int .u8 (c12.toNat : Int)))), (19, B ((decide (((c12.toNat : Int) : Int) ≥ 97)) && (decide (((c12.toNat : Int) : Int) ≤ 122))))] [] ?_ ?_
      · refine eo_gsplit rfl rfl (fun hb => ?_) (fun hb => ?_)
        · refine go_ops hΓ 4 rfl ?_
          exact ⟨⟨rfl, rfl, rfl, get_b rfl (and_t hb), trivial⟩, [], rfl, .inl rfl⟩
        · refine go_ops hΓ 4 rfl ?_
          exact ⟨⟨rfl, rfl, rfl, get_b rfl (and_f hb), trivial⟩, [], rfl, .inl rfl⟩
      · refine go_ops hΓ 1 rfl ?_
        refine o_cut 19 [(0, S s), (3, I s2), (39, B (((decide (((c12.toNat : Int) : Int) ≥ 97)) && (decide (((c12.toNat : Int) : Int) ≤ 122))) || ((decide ((s2 : Int) > 0)) && ((((decide (((c12.toNat : Int) : Int) ≥ 48)) && (decide (((c12.toNat : Int) : Int) ≤ 57))) || (((c12.toNat : Int) : Int) == 45)) || (((c12.toNat : Int) : Int) == 95)))))] [] ?_ ?_
        · refine eo_gsplit rfl rfl (fun hb => ?_) (fun hb => ?_)
          · refine go_ops hΓ 20 rfl ?_
            exact ⟨⟨rfl, rfl, get_b rfl (or_t hb), trivial⟩, [], rfl, .inl rfl⟩
          · refine go_ops hΓ 3 rfl ?_
            refine o_cut 15 [(0, S s), (3, I s2), (20, B false), (38, B ((decide ((s2 : Int) > 0)) && ((((decide (((c12.toNat : Int) : Int) ≥ 48)) && (decide (((c12.toNat : Int) : Int) ≤ 57))) || (((c12.toNat : Int) : Int) == 45)) || (((c12.toNat : Int) : Int) == 95))))] [] ?_ ?_
            · refine eo_gsplit rfl rfl (fun hb => ?_) (fun hb => ?_)
              · refine go_ops hΓ 3 rfl ?_
                refine o_cut 3 [(0, S s), (3, I s2), (4, .d (.v (.int .u8 (c12.toNat : Int)))), (20, B false), (23, B true), (29, B ((decide (((c12.toNat : Int) : Int) ≥ 48)) && (decide (((c12.toNat : Int) : Int) ≤ 57))))] [] ?_ ?_
                · refine eo_gsplit rfl rfl (fun hb => ?_) (fun hb => ?_)
                  · refine go_ops hΓ 4 rfl ?_
                    exact ⟨⟨rfl, rfl, rfl, rfl, rfl, get_b rfl (and_t hb), trivial⟩, [], rfl, .inl rfl⟩
                  · refine go_ops hΓ 4 rfl ?_
                    exact ⟨⟨rfl, rfl, rfl, rfl, rfl, get_b rfl (and_f hb), trivial⟩, [], rfl, .inl rfl⟩
                · refine go_ops hΓ 1 rfl ?_
                  refine o_cut 3 [(0, S s), (3, I s2), (4, .d (.v (.int .u8 (c12.toNat : Int)))), (20, B false), (23, B true), (33, B (((decide (((c12.toNat : Int) : Int) ≥ 48)) && (decide (((c12.toNat : Int) : Int) ≤ 57))) || (((c12.toNat : Int) : Int) == 45)))] [] ?_ ?_
                  · refine eo_gsplit rfl rfl (fun hb => ?_) (fun hb => ?_)
                    · refine go_ops hΓ 4 rfl ?_
                      exact ⟨⟨rfl, rfl, rfl, rfl, rfl, get_b rfl (or_t hb), trivial⟩, [], rfl, .inl rfl⟩
                    · refine go_ops hΓ 4 rfl ?_
                      exact ⟨⟨rfl, rfl, rfl, rfl, rfl, get_b rfl (or_f hb), trivial⟩, [], rfl, .inl rfl⟩
                  · refine go_ops hΓ 1 rfl ?_
                    refine o_cut 3 [(0, S s), (3, I s2), (20, B false), (23, B true), (37, B ((((decide (((c12.toNat : Int) : Int) ≥ 48)) && (decide (((c12.toNat : Int) : Int) ≤ 57))) || (((c12.toNat : Int) : Int) == 45)) || (((c12.toNat : Int) : Int) == 95)))] [] ?_ ?_
                    · refine eo_gsplit rfl rfl (fun hb => ?_) (fun hb => ?_)
                      · refine go_ops hΓ 4 rfl ?_
                        exact ⟨⟨rfl, rfl, rfl, rfl, get_b rfl (or_t hb), trivial⟩, [], rfl, .inl rfl⟩
                      · refine go_ops hΓ 4 rfl ?_
                        exact ⟨⟨rfl, rfl, rfl, rfl, get_b rfl (or_f hb), trivial⟩, [], rfl, .inl rfl⟩
                    · refine go_ops hΓ 2 rfl ?_
                      exact ⟨⟨rfl, rfl, rfl, get_b rfl (and_t hb), trivial⟩, [], rfl, .inl rfl⟩
              · refine go_ops hΓ 16 rfl ?_
                exact ⟨⟨rfl, rfl, rfl, get_b rfl (and_f hb), trivial⟩, [], rfl, .inl rfl⟩
            · refine go_ops hΓ 2 rfl ?_
              exact ⟨⟨rfl, rfl, get_b rfl (or_f hb), trivial⟩, [], rfl, .inl rfl⟩
        · refine go_ops hΓ 3 rfl ?_
          refine j_cond rfl (fun hb => ?_) (fun hb => ?_)
          · have h14 := cT h13 hb
            refine go hΓ 8 rfl ?_
            obtain ⟨v15, hv15, h16⟩ := bi_ok h14
            obtain rfl := Option.some.inj h16
            obtain rfl := hout9 _ rfl
            obtain rfl := Option.some.inj h5
            refine go hΓ 4 rfl ?_
            obtain rfl := Option.some.inj hv15
            exact fin_pure hΓ (.inr rfl) rfl rfl
          · have h17 := cF h13 hb
            refine go hΓ 8 rfl ?_
            obtain rfl := Option.some.inj h17
            exact ⟨_, rfl, ⟨⟨rfl, rfl, trivial⟩, [], rfl, .inl rfl⟩⟩
    · have h18 := cF hy8 hb
      refine go hΓ 4 rfl ?_
      obtain rfl := Option.some.inj h18
      obtain rfl := hout9 _ rfl
      exact ⟨_, rfl, ⟨⟨rfl, trivial⟩, [], rfl, .inl rfl⟩⟩
  · intro a6 ha
    subst ha
    replace h5 := orI_l h5
    refine go hΓ 6 rfl ?_
    refine o_cut 4 [(47, B ((!((s : Str) == [])) && (decide (((s.length : Int) : Int) ≤ 40))))] [] ?_ ?_
    · refine eo_gsplit rfl rfl (fun hb => ?_) (fun hb => ?_)
      · refine go_ops hΓ 5 rfl ?_
        exact ⟨⟨get_b rfl (and_t hb), trivial⟩, [], rfl, .inl rfl⟩
      · refine go_ops hΓ 5 rfl ?_
        exact ⟨⟨get_b rfl (and_f hb), trivial⟩, [], rfl, .inl rfl⟩
    · refine go_ops hΓ 4 rfl ?_
      obtain rfl := Option.some.inj h5
      exact fin_pure hΓ (.inr rfl) rfl rfl

theorem c_slices_Index_string_string {s : List Str} {v : Str} {r : Int} (h : m_slices_Index_string_string s v = some r) : Pure Tryd.prog 68 [.d (Sl eS s), S v] (I r) := by
  refine Pure.enter (Fr.of 0 _) Tryd.func68 rfl (Fr.of_ok _) rfl rfl ?_
  refine go_in ?_
  unfold m_slices_Index_string_string at h
  refine go hΓ 13 rfl ?_
  obtain ⟨q4, hq4, h5⟩ := bi_ok h
  refine j_bound 0 rfl fun hb7 => ?_
  refine j_cutEZ (R := fun a6 => q4 = .go a6) (fun a6 => []) (fun a6 => []) ?_ ?_
  · refine go hΓ 1 rfl ?_
    refine j_range s hq4 (fun i1 s2 => [(0, .d (Sl eS s)), (1, S v), (7, I (s.length : Int)), (8, I (i1 : Int))]) (fun s2 => []) ⟨⟨rfl, rfl, rfl, rfl, trivial⟩, [], rfl, .inl rfl⟩ (fun i1 x3 s2 y11 hx8 hlt hy9 hout10 => ?_) (fun s2 hgo => ?_)
    · refine go hΓ 6 rfl ?_
      refine j_condT rfl (decide_eq_true (Int.ofNat_lt.2 hlt)) ?_
      refine go hΓ 15 rfl ?_
      refine eo_o rfl (op_elemZ hΓ (enc := eS) (getZ_nat hx8) rfl rfl rfl rfl rfl (fun _ => rfl)) ?_
      refine go_ops hΓ 4 rfl ?_
      refine j_cond rfl (fun hb => ?_) (fun hb => ?_)
      · have h12 := cT hy9 hb
        refine go hΓ 9 rfl ?_
        obtain ⟨v13, hv13, h14⟩ := bi_ok h12
        obtain rfl := Option.some.inj h14
        obtain rfl := hout10 _ rfl
        obtain rfl := Option.some.inj h5
        refine go hΓ 4 rfl ?_
        obtain rfl := Option.some.inj hv13
        exact fin_pure hΓ (.inr rfl) rfl rfl
      · have h15 := cF hy9 hb
        refine go hΓ 7 rfl ?_
        obtain rfl := Option.some.inj h15
        exact ⟨_, rfl, ⟨⟨rfl, rfl, rfl, get_eq rfl (w64_succ (Nat.lt_of_lt_of_le hlt hb7)), trivial⟩, [], rfl, .inl rfl⟩⟩
    · subst hgo
      refine go hΓ 6 rfl ?_
      refine j_condF rfl (decide_eq_false (Int.lt_irrefl _)) ?_
      refine go hΓ 4 rfl ?_
      exact ⟨_, rfl, ⟨trivial, [], rfl, .inl rfl⟩⟩
  · intro a6 ha
    subst ha
    replace h5 := goI_l h5
    refine go hΓ 7 rfl ?_
    obtain rfl := Option.some.inj h5
    exact fin_pure hΓ (.inr rfl) rfl rfl

theorem c_slices_Contains_string_string {s : List Str} {v : Str} {r : Bool} (h : m_slices_Contains_string_string s v = some r) : Pure Tryd.prog 45 [.d (Sl eS s), S v] (B r) := by
  refine Pure.enter (Fr.of 0 _) Tryd.func45 rfl (Fr.of_ok _) rfl rfl ?_
  refine go_in ?_
  unfold m_slices_Contains_string_string at h
  obtain ⟨y1, hy1, h2⟩ := bi_ok h
  refine go hΓ 9 rfl ?_
  refine eo_callP (callable Tryd.func68 rfl rfl) (c_slices_Index_string_string hy1) rfl (Nat.le_of_ble_eq_true rfl) rfl rfl rfl rfl rfl ?_
  refine go_ops hΓ 5 rfl ?_
  obtain rfl := Option.some.inj h2
  exact fin_pure hΓ (.inr rfl) rfl rfl

theorem c_name_CheckSplits {k : Nat} {l : List T_api_Split} {r : Int} (h : m_name_CheckSplits k l = some r) : Pure Tryd.prog 20 [.d (Sl e_api_Split l)] (I r) := by
  refine Pure.enter (Fr.of 0 _) Tryd.func20 rfl (Fr.of_ok _) rfl rfl ?_
  refine go_in ?_
  unfold m_name_CheckSplits at h
  refine go hΓ 13 rfl ?_
  refine j_cond rfl (fun hb => ?_) (fun hb => ?_)
  · have h1 := cT h hb
    refine go hΓ 7 rfl ?_
    obtain rfl := Option.some.inj h1
    exact fin_pure hΓ (.inr rfl) rfl rfl
  · have h2 := cF h hb
    refine go hΓ 10 rfl ?_
    obtain ⟨q6, hq6, h7⟩ := bi_ok h2
    refine j_bound 0 rfl fun hb9 => ?_
    refine j_cutEZ (R := fun a8 => q6 = .go a8) (fun a8 => []) (fun a8 => []) ?_ ?_
    · refine go hΓ 1 rfl ?_
      refine j_range l hq6 (fun i3 s4 => [(0, .d (Sl e_api_Split l)), (11, .d (Sl e_api_Split l)), (12, I (l.length : Int)), (13, I (i3 : Int))]) (fun s4 => []) ⟨⟨rfl, rfl, rfl, rfl, trivial⟩, [], rfl, .inl rfl⟩ (fun i3 x5 s4 y13 hx10 hlt hy11 hout12 => ?_) (fun s4 hgo => ?_)
      · refine go hΓ 6 rfl ?_
        refine j_condT rfl (decide_eq_true (Int.ofNat_lt.2 hlt)) ?_
        refine go hΓ 7 rfl ?_
        refine eo_o rfl (op_elemZ hΓ (enc := e_api_Split) (getZ_nat hx10) rfl rfl rfl rfl rfl (fun _ => rfl)) ?_
        refine go_ops hΓ 1 rfl ?_
        refine eo_alloc hΓ rfl rfl rfl (Nat.le_of_ble_eq_true rfl) ?_
        refine go_ops hΓ 1 rfl ?_
        refine eo_store hΓ rfl rfl rfl rfl rfl rfl rfl rfl (Nat.le_of_ble_eq_true rfl) ?_
        refine eo_hp [.box 66 [S x5.Suffix, .d (Sl eS x5.Servers)]] rfl ?_
        obtain ⟨q14, hq14, h15⟩ := bi_ok hy11
        refine go_ops hΓ 10 rfl ?_
        refine j_cutSZ (q := q14) (fun a16 => [(0, .d (Sl e_api_Split l)), (3, I (i3 : Int)), (4, .ptr 0 0), (11, .d (Sl e_api_Split l)), (12, I (l.length : Int)), (13, I (i3 : Int))]) (fun a16 => [.box 66 [S x5.Suffix, .d (Sl eS x5.Servers)]]) ?_ ?_
        · refine j_cond rfl (fun hb => ?_) (fun hb => ?_)
          · have h17 := cT hq14 hb
            obtain ⟨y18, hy18, h19⟩ := bi_ok h17
            refine go hΓ 4 rfl ?_
            refine eo_callP (callable Tryd.func8 rfl rfl) (c_name_CheckDomain hy18) rfl (Nat.le_of_ble_eq_true rfl) rfl rfl rfl rfl rfl ?_
            refine go_ops hΓ 9 rfl ?_
            refine j_cond rfl (fun hb => ?_) (fun hb => ?_)
            · have h20 := cT h19 hb
              refine go hΓ 7 rfl ?_
              obtain ⟨v21, hv21, h22⟩ := bi_ok h20
              obtain rfl := Option.some.inj h22
              obtain rfl := Option.some.inj h15
              refine go hΓ 4 rfl ?_
              obtain ⟨v23, hv23, h24⟩ := bi_ok hv21
              obtain rfl := Option.some.inj h24
              obtain rfl := hout12 _ rfl
              obtain rfl := Option.some.inj h7
              refine go hΓ 4 rfl ?_
              obtain rfl := Option.some.inj hv23
              exact fin_pure hΓ (.inr rfl) rfl rfl
            · have h25 := cF h19 hb
              refine go hΓ 1 rfl ?_
              obtain rfl := Option.some.inj h25
              exact ⟨_, rfl, ⟨⟨rfl, rfl, rfl, rfl, rfl, rfl, trivial⟩, [], rfl, .inl rfl⟩⟩
          · have h26 := cF hq14 hb
            refine go hΓ 1 rfl ?_
            obtain rfl := Option.some.inj h26
            exact ⟨_, rfl, ⟨⟨rfl, rfl, rfl, rfl, rfl, rfl, trivial⟩, [], rfl, .inl rfl⟩⟩
        · intro a16 ha
          subst ha
          replace h15 := orI_l h15
          obtain ⟨q27, hq27, h28⟩ := bi_ok h15
          refine go hΓ 4 rfl ?_
          refine j_cutNZ [(0, .d (Sl e_api_Split l)), (4, .ptr 0 0), (11, .d (Sl e_api_Split l)), (12, I (l.length : Int)), (13, I (i3 : Int)), (27, B q27)] [.box 66 [S x5.Suffix, .d (Sl eS x5.Servers)]] ?_ ?_
          · refine j_draw hmix (by kernel_rfl) ?_
            refine go hΓ 3 rfl ?_
            refine gl_gsplit rfl rfl (fun hb => ?_) (fun hb => ?_)
            · have h29 := cT hq27 hb
              obtain ⟨x30, hx30, h31⟩ := bi_ok h29
              refine go_draw hΓ 5 rfl ?_
              refine gl_og rfl rfl (op_elemZ hΓ (enc := e_api_Split) hx30 rfl rfl rfl rfl rfl (fun _ => rfl)) ?_
              refine go_draw hΓ 6 rfl ?_
              obtain rfl := Option.some.inj h31
              exact ⟨⟨rfl, rfl, rfl, rfl, rfl, rfl, trivial⟩, [], rfl, .inl rfl⟩
            · have h32 := cF hq27 hb
              refine go_draw hΓ 12 rfl ?_
              obtain rfl := Option.some.inj h32
              exact ⟨⟨rfl, rfl, rfl, rfl, rfl, rfl, trivial⟩, [], rfl, .inl rfl⟩
          · refine go hΓ 1 rfl ?_
            refine j_cond rfl (fun hb => ?_) (fun hb => ?_)
            · have h33 := cT h28 hb
              refine go hΓ 10 rfl ?_
              obtain ⟨v34, hv34, h35⟩ := bi_ok h33
              obtain rfl := Option.some.inj h35
              obtain rfl := hout12 _ rfl
              obtain rfl := Option.some.inj h7
              refine go hΓ 4 rfl ?_
              obtain rfl := Option.some.inj hv34
              exact fin_pure hΓ (.inr rfl) rfl rfl
            · have h36 := cF h28 hb
              refine go hΓ 9 rfl ?_
              refine j_cond rfl (fun hb => ?_) (fun hb => ?_)
              · have h37 := cT h36 hb
                refine go hΓ 10 rfl ?_
                obtain ⟨v38, hv38, h39⟩ := bi_ok h37
                obtain rfl := Option.some.inj h39
                obtain rfl := hout12 _ rfl
                obtain rfl := Option.some.inj h7
                refine go hΓ 4 rfl ?_
                obtain rfl := Option.some.inj hv38
                exact fin_pure hΓ (.inr rfl) rfl rfl
              · have h40 := cF h36 hb
                refine go hΓ 9 rfl ?_
                refine j_cond rfl (fun hb => ?_) (fun hb => ?_)
                · have h41 := cT h40 hb
                  refine go hΓ 10 rfl ?_
                  obtain ⟨v42, hv42, h43⟩ := bi_ok h41
                  obtain rfl := Option.some.inj h43
                  obtain rfl := hout12 _ rfl
                  obtain rfl := Option.some.inj h7
                  refine go hΓ 4 rfl ?_
                  obtain rfl := Option.some.inj hv42
                  exact fin_pure hΓ (.inr rfl) rfl rfl
                · have h44 := cF h40 hb
                  refine go hΓ 11 rfl ?_
                  obtain ⟨q48, hq48, h49⟩ := bi_ok h44
                  refine j_bound 52 rfl fun hb51 => ?_
                  refine j_cutEZ (R := fun a50 => q48 = .go a50) (fun a50 => [(0, .d (Sl e_api_Split l)), (11, .d (Sl e_api_Split l)), (12, I (l.length : Int)), (13, I (i3 : Int))]) (fun a50 => [.box 66 [S x5.Suffix, .d (Sl eS x5.Servers)]]) ?_ ?_
                  · refine go hΓ 1 rfl ?_
                    refine j_range x5.Servers hq48 (fun i45 s46 => [(0, .d (Sl e_api_Split l)), (4, .ptr 0 0), (11, .d (Sl e_api_Split l)), (12, I (l.length : Int)), (13, I (i3 : Int)), (52, .d (Sl eS x5.Servers)), (53, I (x5.Servers.length : Int)), (54, I (i45 : Int))]) (fun s46 => [.box 66 [S x5.Suffix, .d (Sl eS x5.Servers)]]) ⟨⟨rfl, rfl, rfl, rfl, rfl, rfl, rfl, rfl, trivial⟩, [], rfl, .inl rfl⟩ (fun i45 x47 s46 y55 hx52 hlt hy53 hout54 => ?_) (fun s46 hgo => ?_)
                    · refine go hΓ 6 rfl ?_
                      refine j_condT rfl (decide_eq_true (Int.ofNat_lt.2 hlt)) ?_
                      refine go hΓ 7 rfl ?_
                      refine eo_o rfl (op_elemZ hΓ (enc := eS) (getZ_nat hx52) rfl rfl rfl rfl rfl (fun _ => rfl)) ?_
                      obtain ⟨y56, hy56, h57⟩ := bi_ok hy53
                      refine go_ops hΓ 9 rfl ?_
                      refine eo_callP (callable Tryd.func46 rfl rfl) (c_kit_IsKey hy56) rfl (Nat.le_of_ble_eq_true rfl) rfl rfl rfl rfl rfl ?_
                      refine go_ops hΓ 3 rfl ?_
                      refine j_cond rfl (fun hb => ?_) (fun hb => ?_)
                      · have h58 := cT h57 hb
                        refine go hΓ 9 rfl ?_
                        obtain ⟨v59, hv59, h60⟩ := bi_ok h58
                        obtain rfl := Option.some.inj h60
                        obtain rfl := hout54 _ rfl
                        obtain rfl := Option.some.inj h49
                        refine go hΓ 5 rfl ?_
                        obtain ⟨v61, hv61, h62⟩ := bi_ok hv59
                        obtain rfl := Option.some.inj h62
                        obtain rfl := hout12 _ rfl
                        obtain rfl := Option.some.inj h7
                        refine go hΓ 4 rfl ?_
                        obtain rfl := Option.some.inj hv61
                        exact fin_pure hΓ (.inr rfl) rfl rfl
                      · have h63 := cF h57 hb
                        obtain ⟨z64, hz64, h65⟩ := bi_ok h63
                        refine go hΓ 7 rfl ?_
                        refine eo_o rfl (op_subRoZ hΓ (enc := eS) hz64 rfl rfl rfl rfl rfl rfl (fun _ => rfl)) ?_
                        obtain ⟨y66, hy66, h67⟩ := bi_ok h65
                        refine go_ops hΓ 1 rfl ?_
                        refine eo_callP (callable Tryd.func45 rfl rfl) (c_slices_Contains_string_string hy66) rfl (Nat.le_of_ble_eq_true rfl) rfl rfl rfl rfl rfl ?_
                        refine go_ops hΓ 2 rfl ?_
                        refine j_cond rfl (fun hb => ?_) (fun hb => ?_)
                        · have h68 := cT h67 hb
                          refine go hΓ 8 rfl ?_
                          obtain ⟨v69, hv69, h70⟩ := bi_ok h68
                          obtain rfl := Option.some.inj h70
                          obtain rfl := hout54 _ rfl
                          obtain rfl := Option.some.inj h49
                          refine go hΓ 5 rfl ?_
                          obtain ⟨v71, hv71, h72⟩ := bi_ok hv69
                          obtain rfl := Option.some.inj h72
                          obtain rfl := hout12 _ rfl
                          obtain rfl := Option.some.inj h7
                          refine go hΓ 4 rfl ?_
                          obtain rfl := Option.some.inj hv71
                          exact fin_pure hΓ (.inr rfl) rfl rfl
                        · have h73 := cF h67 hb
                          refine go hΓ 7 rfl ?_
                          obtain rfl := Option.some.inj h73
                          exact ⟨_, rfl, ⟨⟨rfl, rfl, rfl, rfl, rfl, rfl, rfl, get_eq rfl (w64_succ (Nat.lt_of_lt_of_le hlt hb51)), trivial⟩, [], rfl, .inl rfl⟩⟩
                    · subst hgo
                      refine go hΓ 6 rfl ?_
                      refine j_condF rfl (decide_eq_false (Int.lt_irrefl _)) ?_
                      refine go hΓ 4 rfl ?_
                      exact ⟨_, rfl, ⟨⟨rfl, rfl, rfl, rfl, trivial⟩, [], rfl, .inl rfl⟩⟩
                  · intro a50 ha
                    subst ha
                    replace h49 := goI_l h49
                    refine go hΓ 6 rfl ?_
                    obtain rfl := Option.some.inj h49
                    exact ⟨_, rfl, ⟨⟨rfl, rfl, rfl, get_eq rfl (w64_succ (Nat.lt_of_lt_of_le hlt hb9)), trivial⟩, [_], rfl, .inr ⟨HB.mk rfl, FB.mk rfl, (Nat.le_of_ble_eq_true rfl)⟩⟩⟩
      · subst hgo
        refine go hΓ 6 rfl ?_
        refine j_condF rfl (decide_eq_false (Int.lt_irrefl _)) ?_
        refine go hΓ 4 rfl ?_
        exact ⟨_, rfl, ⟨trivial, [], rfl, .inl rfl⟩⟩
    · intro a8 ha
      subst ha
      replace h7 := goI_l h7
      refine go hΓ 7 rfl ?_
      obtain rfl := Option.some.inj h7
      exact fin_pure hΓ (.inr rfl) rfl rfl

theorem c_name_under {name : Str} {zone : Str} {r : Bool} (h : m_name_under name zone = some r) : Pure Tryd.prog 29 [S name, S zone] (B r) := by
  refine Pure.enter (Fr.of 0 _) Tryd.func29 rfl (Fr.of_ok _) rfl rfl ?_
  refine go_in ?_
  unfold m_name_under at h
  refine go hΓ 11 rfl ?_
  obtain ⟨q1, hq1, h2⟩ := bi_ok h
  refine o_cut 5 [(4, B false), (13, B q1)] [] ?_ ?_
  · refine eo_gsplit rfl rfl (fun hb => ?_) (fun hb => ?_)
    · have h3 := cT hq1 hb
      refine go_ops hΓ 6 rfl ?_
      obtain rfl := Option.some.inj h3
      exact ⟨⟨rfl, rfl, trivial⟩, [], rfl, .inl rfl⟩
    · have h4 := cF hq1 hb
      obtain ⟨y5, hy5, h6⟩ := bi_ok h4
      refine go_ops hΓ 2 rfl ?_
      refine eo_guard rfl ?_
      refine eo_o rfl (op_catZ hy5 rfl rfl) ?_
      obtain ⟨y7, hy7, h8⟩ := bi_ok h6
      refine eo_guard rfl ?_
      refine eo_callP (callable Tryd.func36 rfl rfl) (c_strings_HasSuffix hy7) rfl (Nat.le_of_ble_eq_true rfl) rfl rfl rfl rfl rfl ?_
      refine go_ops hΓ 2 rfl ?_
      obtain rfl := Option.some.inj h8
      exact ⟨⟨rfl, rfl, trivial⟩, [], rfl, .inl rfl⟩
  · refine go_ops hΓ 4 rfl ?_
    obtain rfl := Option.some.inj h2
    exact fin_pure hΓ (.inr rfl) rfl rfl

theorem c_name_servers {l : List T_api_Split} {name : Str} {r : (List Str) × Bool} (h : m_name_servers l name = some r) : Pure Tryd.prog 39 [.d (Sl e_api_Split l), S name] (.tup [.d (Sl eS r.1), B r.2]) := by
  refine Pure.enter (Fr.of 0 _) Tryd.func39 rfl (Fr.of_ok _) rfl rfl ?_
  refine go_in ?_
  unfold m_name_servers at h
  refine go hΓ 19 rfl ?_
  obtain ⟨q4, hq4, h5⟩ := bi_ok h
  refine j_bound 0 rfl fun hb7 => ?_
  refine j_cutNZ [(0, .d (Sl e_api_Split l)), (6, I q4)] [] ?_ ?_
  · refine go hΓ 1 rfl ?_
    refine j_rangeF l hq4 (fun i1 s2 => [(0, .d (Sl e_api_Split l)), (1, S name), (6, I s2), (9, .d (Sl e_api_Split l)), (10, I (l.length : Int)), (11, I (i1 : Int))]) (fun s2 => []) ⟨⟨rfl, rfl, rfl, rfl, rfl, rfl, trivial⟩, [], rfl, .inl rfl⟩ (fun i1 x3 s2 y11 hx8 hlt hy9 => ?_) (?_)
    · refine go hΓ 6 rfl ?_
      refine j_condT rfl (decide_eq_true (Int.ofNat_lt.2 hlt)) ?_
      refine go hΓ 7 rfl ?_
      refine eo_o rfl (op_elemZ hΓ (enc := e_api_Split) (getZ_nat hx8) rfl rfl rfl rfl rfl (fun _ => rfl)) ?_
      refine go_ops hΓ 1 rfl ?_
      refine eo_alloc hΓ rfl rfl rfl (Nat.le_of_ble_eq_true rfl) ?_
      refine go_ops hΓ 1 rfl ?_
      refine eo_store hΓ rfl rfl rfl rfl rfl rfl rfl rfl (Nat.le_of_ble_eq_true rfl) ?_
      refine eo_hp [.box 66 [S x3.Suffix, .d (Sl eS x3.Servers)]] rfl ?_
      obtain ⟨q12, hq12, h13⟩ := bi_ok hy9
      refine go_ops hΓ 3 rfl ?_
      refine j_cutNZ [(0, .d (Sl e_api_Split l)), (1, S name), (6, I s2), (7, I (i1 : Int)), (9, .d (Sl e_api_Split l)), (10, I (l.length : Int)), (11, I (i1 : Int)), (40, B q12)] [.box 66 [S x3.Suffix, .d (Sl eS x3.Servers)]] ?_ ?_
      · refine j_draw hmix (by kernel_rfl) ?_
        refine go hΓ 4 rfl ?_
        refine gl_gsplit rfl rfl (fun hb => ?_) (fun hb => ?_)
        · have h14 := cT hq12 hb
          refine go_draw hΓ 9 rfl ?_
          refine gl_gsplit rfl rfl (fun hb => ?_) (fun hb => ?_)
          · have h15 := cT h14 hb
            refine go_draw hΓ 13 rfl ?_
            obtain rfl := Option.some.inj h15
            exact ⟨⟨rfl, rfl, rfl, rfl, rfl, rfl, rfl, rfl, trivial⟩, [], rfl, .inl rfl⟩
          · have h16 := cF h14 hb
            obtain ⟨x17, hx17, h18⟩ := bi_ok h16
            refine go_draw hΓ 5 rfl ?_
            refine gl_og rfl rfl (op_elemZ hΓ (enc := e_api_Split) hx17 rfl rfl rfl rfl rfl (fun _ => rfl)) ?_
            refine go_draw hΓ 7 rfl ?_
            obtain rfl := Option.some.inj h18
            exact ⟨⟨rfl, rfl, rfl, rfl, rfl, rfl, rfl, rfl, trivial⟩, [], rfl, .inl rfl⟩
        · have h19 := cF hq12 hb
          obtain ⟨y20, hy20, h21⟩ := bi_ok h19
          refine go_draw hΓ 3 rfl ?_
          refine gl_callPg (callable Tryd.func29 rfl rfl) (c_name_under hy20) rfl rfl rfl rfl rfl rfl rfl ?_
          refine go_draw hΓ 2 rfl ?_
          refine gl_gsplit rfl rfl (fun hb => ?_) (fun hb => ?_)
          · have h22 := cT h21 hb
            refine go_draw hΓ 3 rfl ?_
            refine gl_gsplit rfl rfl (fun hb => ?_) (fun hb => ?_)
            · have h23 := cT h22 hb
              refine go_draw hΓ 13 rfl ?_
              obtain rfl := Option.some.inj h23
              exact ⟨⟨rfl, rfl, rfl, rfl, rfl, rfl, rfl, rfl, trivial⟩, [], rfl, .inl rfl⟩
            · have h24 := cF h22 hb
              obtain ⟨x25, hx25, h26⟩ := bi_ok h24
              refine go_draw hΓ 5 rfl ?_
              refine gl_og rfl rfl (op_elemZ hΓ (enc := e_api_Split) hx25 rfl rfl rfl rfl rfl (fun _ => rfl)) ?_
              refine go_draw hΓ 7 rfl ?_
              obtain rfl := Option.some.inj h26
              exact ⟨⟨rfl, rfl, rfl, rfl, rfl, rfl, rfl, rfl, trivial⟩, [], rfl, .inl rfl⟩
          · have h27 := cF h21 hb
            refine go_draw hΓ 16 rfl ?_
            obtain rfl := Option.some.inj h27
            exact ⟨⟨rfl, rfl, rfl, rfl, rfl, rfl, rfl, rfl, trivial⟩, [], rfl, .inl rfl⟩
      · refine go hΓ 1 rfl ?_
        refine j_cond rfl (fun hb => ?_) (fun hb => ?_)
        · have h28 := cT h13 hb
          refine go hΓ 10 rfl ?_
          obtain rfl := Option.some.inj h28
          exact ⟨⟨rfl, rfl, rfl, rfl, rfl, get_eq rfl (w64_succ (Nat.lt_of_lt_of_le hlt hb7)), trivial⟩, [_], rfl, .inr ⟨HB.mk rfl, FB.mk rfl, (Nat.le_of_ble_eq_true rfl)⟩⟩
        · have h29 := cF h13 hb
          refine go hΓ 7 rfl ?_
          obtain rfl := Option.some.inj h29
          exact ⟨⟨rfl, rfl, rfl, rfl, rfl, get_eq rfl (w64_succ (Nat.lt_of_lt_of_le hlt hb7)), trivial⟩, [_], rfl, .inr ⟨HB.mk rfl, FB.mk rfl, (Nat.le_of_ble_eq_true rfl)⟩⟩
    · refine go hΓ 6 rfl ?_
      refine j_condF rfl (decide_eq_false (Int.lt_irrefl _)) ?_
      refine go hΓ 4 rfl ?_
      exact ⟨⟨rfl, rfl, trivial⟩, [], rfl, .inl rfl⟩
  · refine go hΓ 8 rfl ?_
    refine j_cond rfl (fun hb => ?_) (fun hb => ?_)
    · have h30 := cT h5 hb
      refine go hΓ 8 rfl ?_
      obtain rfl := Option.some.inj h30
      exact fin_pure hΓ (.inr rfl) rfl rfl
    · have h31 := cF h5 hb
      obtain ⟨x32, hx32, h33⟩ := bi_ok h31
      refine go hΓ 6 rfl ?_
      refine eo_o rfl (op_elemZ hΓ (enc := e_api_Split) hx32 rfl rfl rfl rfl rfl (fun _ => rfl)) ?_
      obtain ⟨y34, hy34, h35⟩ := bi_ok h33
      refine go_ops hΓ 2 rfl ?_
      refine eo_callP (callable Tryd.func38 rfl rfl) (Pure.rows (c_slices_Clone_string_string hy34) rfl rfl) rfl (Nat.le_of_ble_eq_true rfl) rfl rfl rfl rfl rfl ?_
      refine go_ops hΓ 5 rfl ?_
      obtain rfl := Option.some.inj h35
      exact fin_pure hΓ (.inr rfl) rfl rfl

theorem c_name_Servers {k : Nat} {l : List T_api_Split} {name : Str} {r : (List Str) × Bool × Int} (h : m_name_Servers k l name = some r) : Pure Tryd.prog 17 [.d (Sl e_api_Split l), S name] (.tup [.d (Sl eS r.1), B r.2.1, I r.2.2]) := by
  refine Pure.enter (Fr.of 0 _) Tryd.func17 rfl (Fr.of_ok _) rfl rfl ?_
  refine go_in ?_
  unfold m_name_Servers at h
  obtain ⟨y1, hy1, h2⟩ := bi_ok h
  refine go hΓ 11 rfl ?_
  refine eo_callP (callable Tryd.func20 rfl rfl) (c_name_CheckSplits hy1) rfl (Nat.le_of_ble_eq_true rfl) rfl rfl rfl rfl rfl ?_
  refine go_ops hΓ 9 rfl ?_
  refine j_cond rfl (fun hb => ?_) (fun hb => ?_)
  · have h3 := cT h2 hb
    refine go hΓ 10 rfl ?_
    obtain rfl := Option.some.inj h3
    exact fin_pure hΓ (.inr rfl) rfl rfl
  · have h4 := cF h2 hb
    obtain ⟨y5, hy5, h6⟩ := bi_ok h4
    refine go hΓ 6 rfl ?_
    refine eo_callP (callable Tryd.func8 rfl rfl) (c_name_CheckDomain hy5) rfl (Nat.le_of_ble_eq_true rfl) rfl rfl rfl rfl rfl ?_
    refine go_ops hΓ 9 rfl ?_
    refine j_cond rfl (fun hb => ?_) (fun hb => ?_)
    · have h7 := cT h6 hb
      refine go hΓ 10 rfl ?_
      obtain rfl := Option.some.inj h7
      exact fin_pure hΓ (.inr rfl) rfl rfl
    · have h8 := cF h6 hb
      obtain ⟨y9, hy9, h10⟩ := bi_ok h8
      refine go hΓ 6 rfl ?_
      refine eo_callP (callable Tryd.func39 rfl rfl) (c_name_servers hy9) rfl (Nat.le_of_ble_eq_true rfl) rfl rfl rfl rfl rfl ?_
      refine go_ops hΓ 17 rfl ?_
      obtain rfl := Option.some.inj h10
      exact fin_pure hΓ (.inr rfl) rfl rfl

theorem c_name_checkDomains {k : Nat} {l : List Str} {r : Int} (h : m_name_checkDomains k l = some r) : Pure Tryd.prog 28 [.d (Sl eS l)] (I r) := by
  refine Pure.enter (Fr.of 0 _) Tryd.func28 rfl (Fr.of_ok _) rfl rfl ?_
  refine go_in ?_
  unfold m_name_checkDomains at h
  refine go hΓ 13 rfl ?_
  obtain ⟨q4, hq4, h5⟩ := bi_ok h
  refine j_bound 6 rfl fun hb7 => ?_
  refine j_cutEZ (R := fun a6 => q4 = .go a6) (fun a6 => []) (fun a6 => []) ?_ ?_
  · refine go hΓ 1 rfl ?_
    refine j_range l hq4 (fun i1 s2 => [(6, .d (Sl eS l)), (7, I (l.length : Int)), (8, I (i1 : Int))]) (fun s2 => []) ⟨⟨rfl, rfl, rfl, trivial⟩, [], rfl, .inl rfl⟩ (fun i1 x3 s2 y11 hx8 hlt hy9 hout10 => ?_) (fun s2 hgo => ?_)
    · refine go hΓ 6 rfl ?_
      refine j_condT rfl (decide_eq_true (Int.ofNat_lt.2 hlt)) ?_
      refine go hΓ 6 rfl ?_
      refine eo_o rfl (op_elemZ hΓ (enc := eS) (getZ_nat hx8) rfl rfl rfl rfl rfl (fun _ => rfl)) ?_
      obtain ⟨y12, hy12, h13⟩ := bi_ok hy9
      refine go_ops hΓ 7 rfl ?_
      refine eo_callP (callable Tryd.func8 rfl rfl) (c_name_CheckDomain hy12) rfl (Nat.le_of_ble_eq_true rfl) rfl rfl rfl rfl rfl ?_
      refine go_ops hΓ 9 rfl ?_
      refine j_cond rfl (fun hb => ?_) (fun hb => ?_)
      · have h14 := cT h13 hb
        refine go hΓ 9 rfl ?_
        obtain ⟨v15, hv15, h16⟩ := bi_ok h14
        obtain rfl := Option.some.inj h16
        obtain rfl := hout10 _ rfl
        obtain rfl := Option.some.inj h5
        refine go hΓ 4 rfl ?_
        obtain rfl := Option.some.inj hv15
        exact fin_pure hΓ (.inr rfl) rfl rfl
      · have h17 := cF h13 hb
        refine go hΓ 7 rfl ?_
        obtain rfl := Option.some.inj h17
        exact ⟨_, rfl, ⟨⟨rfl, rfl, get_eq rfl (w64_succ (Nat.lt_of_lt_of_le hlt hb7)), trivial⟩, [], rfl, .inl rfl⟩⟩
    · subst hgo
      refine go hΓ 6 rfl ?_
      refine j_condF rfl (decide_eq_false (Int.lt_irrefl _)) ?_
      refine go hΓ 4 rfl ?_
      exact ⟨_, rfl, ⟨trivial, [], rfl, .inl rfl⟩⟩
  · intro a6 ha
    subst ha
    replace h5 := goI_l h5
    refine go hΓ 7 rfl ?_
    obtain rfl := Option.some.inj h5
    exact fin_pure hΓ (.inr rfl) rfl rfl

theorem c_kit_Outside {n : Int} {low : Int} {high : Int} {r : Bool} (h : m_kit_Outside n low high = some r) : Pure Tryd.prog 64 [I n, I low, I high] (B r) := by
  refine Pure.enter (Fr.of 0 _) Tryd.func64 rfl (Fr.of_ok _) rfl rfl ?_
  refine go_in ?_
  unfold m_kit_Outside at h
  refine go hΓ 11 rfl ?_
  refine o_cut 4 [(6, B false), (14, B ((decide ((n : Int) < low)) || (decide ((n : Int) > high))))] [] ?_ ?_
  · refine eo_gsplit rfl rfl (fun hb => ?_) (fun hb => ?_)
    · refine go_ops hΓ 5 rfl ?_
      exact ⟨⟨rfl, get_b rfl (or_t hb), trivial⟩, [], rfl, .inl rfl⟩
    · refine go_ops hΓ 5 rfl ?_
      exact ⟨⟨rfl, get_b rfl (or_f hb), trivial⟩, [], rfl, .inl rfl⟩
  · refine go_ops hΓ 4 rfl ?_
    obtain rfl := Option.some.inj h
    exact fin_pure hΓ (.inr rfl) rfl rfl

theorem c_name_searchFault {k : Nat} {search : List Str} {dots : Int} {r : Int} (h : m_name_searchFault k search dots = some r) : Pure Tryd.prog 40 [.d (Sl eS search), I dots] (I r) := by
  refine Pure.enter (Fr.of 0 _) Tryd.func40 rfl (Fr.of_ok _) rfl rfl ?_
  refine go_in ?_
  unfold m_name_searchFault at h
  refine go hΓ 13 rfl ?_
  refine j_cond rfl (fun hb => ?_) (fun hb => ?_)
  · have h1 := cT h hb
    refine go hΓ 7 rfl ?_
    obtain rfl := Option.some.inj h1
    exact fin_pure hΓ (.inr rfl) rfl rfl
  · have h2 := cF h hb
    obtain ⟨y3, hy3, h4⟩ := bi_ok h2
    refine go hΓ 6 rfl ?_
    refine eo_callP (callable Tryd.func28 rfl rfl) (c_name_checkDomains hy3) rfl (Nat.le_of_ble_eq_true rfl) rfl rfl rfl rfl rfl ?_
    refine go_ops hΓ 9 rfl ?_
    refine j_cond rfl (fun hb => ?_) (fun hb => ?_)
    · have h5 := cT h4 hb
      refine go hΓ 8 rfl ?_
      obtain rfl := Option.some.inj h5
      exact fin_pure hΓ (.inr rfl) rfl rfl
    · have h6 := cF h4 hb
      obtain ⟨y7, hy7, h8⟩ := bi_ok h6
      refine go hΓ 6 rfl ?_
      refine eo_callP (callable Tryd.func64 rfl rfl) (c_kit_Outside hy7) rfl (Nat.le_of_ble_eq_true rfl) rfl rfl rfl rfl rfl ?_
      refine go_ops hΓ 2 rfl ?_
      refine j_cond rfl (fun hb => ?_) (fun hb => ?_)
      · have h9 := cT h8 hb
        refine go hΓ 7 rfl ?_
        obtain rfl := Option.some.inj h9
        exact fin_pure hΓ (.inr rfl) rfl rfl
      · have h10 := cF h8 hb
        refine go hΓ 8 rfl ?_
        obtain rfl := Option.some.inj h10
        exact fin_pure hΓ (.inr rfl) rfl rfl

theorem c_name_names {search : List Str} {dots : Int} {name : Str} {r : List Str} (h : m_name_names search dots name = some r) : EC Tryd.prog 41 [.d (Sl eS search), I dots, S name] [] fun g hp' => g = .sl 0 r.length ∧ hp' = [.row 9 1 r.length (r.flatMap eS)] := by
  refine ec_enter (Fr.of 0 _) Tryd.func41 rfl (Fr.of_ok _) (Nat.le_of_ble_eq_true rfl) fun _ => ?_
  refine go_in ?_
  unfold m_name_names at h
  refine go hΓ 7 rfl ?_
  refine eo_nilOwn (t := 0) 9 1 rfl (Nat.le_of_ble_eq_true rfl) ?_
  refine go_ops hΓ 10 rfl ?_
  obtain ⟨q4, hq4, h5⟩ := bi_ok h
  refine j_bound 13 rfl fun hb7 => ?_
  refine j_cutNZ [(1, I dots), (2, S name), (7, .sl 0 q4.length)] [.row 9 1 q4.length (q4.flatMap eS)] ?_ ?_
  · refine go hΓ 1 rfl ?_
    refine j_rangeF search hq4 (fun i1 s2 => [(1, I dots), (2, S name), (7, .sl 0 s2.length), (13, .d (Sl eS search)), (14, I (search.length : Int)), (15, I (i1 : Int))]) (fun s2 => [.row 9 1 s2.length (s2.flatMap eS)]) ⟨⟨rfl, rfl, rfl, rfl, rfl, rfl, trivial⟩, [], rfl, .inl rfl⟩ (fun i1 x3 s2 y11 hx8 hlt hy9 => ?_) (?_)
    · refine go hΓ 6 rfl ?_
      refine j_condT rfl (decide_eq_true (Int.ofNat_lt.2 hlt)) ?_
      refine go hΓ 6 rfl ?_
      refine eo_o rfl (op_elemZ hΓ (enc := eS) (getZ_nat hx8) rfl rfl rfl rfl rfl (fun _ => rfl)) ?_
      obtain ⟨y12, hy12, h13⟩ := bi_ok hy9
      refine go_ops hΓ 7 rfl ?_
      refine eo_o rfl (op_catZ hy12 rfl rfl) ?_
      obtain ⟨y14, hy14, h15⟩ := bi_ok h13
      refine go_ops hΓ 1 rfl ?_
      refine eo_o rfl (op_catZ hy14 rfl rfl) ?_
      refine eo_litT hΓ (enc := eS) [y14] rfl rfl rfl rfl rfl rfl rfl rfl rfl rfl rfl rfl (Nat.le_of_ble_eq_true rfl) ?_
      obtain ⟨y16, hy16, h17⟩ := bi_ok h15
      refine eo_appendT hΓ (enc := eS) hy16 rfl rfl rfl rfl rfl rfl rfl rfl rfl (fun _ => rfl) rfl rfl rfl rfl ?_
      refine go_ops hΓ 8 rfl ?_
      obtain rfl := Option.some.inj h17
      exact ⟨⟨rfl, rfl, rfl, rfl, rfl, get_eq rfl (w64_succ (Nat.lt_of_lt_of_le hlt hb7)), trivial⟩, [], rfl, .inl rfl⟩
    · refine go hΓ 6 rfl ?_
      refine j_condF rfl (decide_eq_false (Int.lt_irrefl _)) ?_
      refine go hΓ 4 rfl ?_
      exact ⟨⟨rfl, rfl, rfl, trivial⟩, [], rfl, .inl rfl⟩
  · obtain ⟨y18, hy18, h19⟩ := bi_ok h5
    refine go hΓ 5 rfl ?_
    refine eo_callP (callable Tryd.func49 rfl rfl) (c_strings_Count hy18) rfl (Nat.le_of_ble_eq_true rfl) rfl rfl rfl rfl rfl ?_
    obtain ⟨q20, hq20, h21⟩ := bi_ok h19
    refine go_ops hΓ 4 rfl ?_
    refine j_cutNZ [(7, .sl 0 q20.length)] [.row 9 1 q20.length (q20.flatMap eS)] ?_ ?_
    · refine j_cond rfl (fun hb => ?_) (fun hb => ?_)
      · have h22 := cT hq20 hb
        refine go hΓ 3 rfl ?_
        refine eo_litT hΓ (enc := eS) [name] rfl rfl rfl rfl rfl rfl rfl rfl rfl rfl rfl rfl (Nat.le_of_ble_eq_true rfl) ?_
        obtain ⟨y23, hy23, h24⟩ := bi_ok h22
        refine eo_appendT hΓ (enc := eS) hy23 rfl rfl rfl rfl rfl rfl rfl rfl rfl (fun _ => rfl) rfl rfl rfl rfl ?_
        refine go_ops hΓ 2 rfl ?_
        obtain rfl := Option.some.inj h24
        exact ⟨⟨rfl, trivial⟩, [], rfl, .inl rfl⟩
      · have h25 := cF hq20 hb
        refine go hΓ 2 rfl ?_
        refine eo_litRowT hΓ (enc := eS) [name] rfl rfl rfl rfl rfl rfl rfl rfl rfl rfl rfl rfl (Nat.le_of_ble_eq_true rfl) ?_
        refine go_ops hΓ 1 rfl ?_
        refine eo_shr 0 [7, 37] _ [.dead, .row 9 1 [name].length ([name].flatMap eS)] rfl rfl rfl (Nat.le_of_ble_eq_true rfl) ?_
        obtain ⟨y26, hy26, h27⟩ := bi_ok h25
        refine eo_appendT hΓ (enc := eS) hy26 rfl rfl rfl rfl rfl rfl rfl rfl rfl (fun _ => rfl) rfl rfl rfl rfl ?_
        refine go_ops hΓ 1 rfl ?_
        refine eo_move 1 0 [.row 9 1 y26.length (y26.flatMap eS), .dead] rfl rfl rfl rfl rfl rfl ?_
        refine go_ops hΓ 1 rfl ?_
        obtain rfl := Option.some.inj h27
        exact ⟨⟨rfl, trivial⟩, [_], rfl, .inr ⟨HB.mk rfl, FB.mk rfl, (Nat.le_of_ble_eq_true rfl)⟩⟩
    · refine go hΓ 3 rfl ?_
      refine eo_nilOwn (t := 0) 9 1 rfl (Nat.le_of_ble_eq_true rfl) ?_
      refine go_ops hΓ 10 rfl ?_
      obtain ⟨q31, hq31, h32⟩ := bi_ok h21
      obtain ⟨hb34, h35⟩ := gd_ok hq31
      replace hb34 := of_decide_eq_true hb34
      refine j_cutNZ [(10, .sl 1 q31.length)] [.row 9 1 q20.length (q20.flatMap eS), .row 9 1 q31.length (q31.flatMap eS)] ?_ ?_
      · refine go hΓ 1 rfl ?_
        refine j_rangeG h35 (fun i28 s29 => [(10, .sl 1 s29.length), (39, .sl 0 q20.length), (40, I (q20.length : Int)), (41, I (i28 : Int))]) (fun s29 => [.row 9 1 q20.length (q20.flatMap eS), .row 9 1 s29.length (s29.flatMap eS)]) ⟨⟨rfl, rfl, rfl, rfl, trivial⟩, [], rfl, .inl rfl⟩ (fun i28 s29 y39 hlt hy37 => ?_) (fun hge => ?_)
        · refine go hΓ 6 rfl ?_
          refine j_condT rfl (decide_eq_true hlt) ?_
          obtain ⟨x40, hx40, h41⟩ := bi_ok hy37
          have hj42 := getZ_at hx40
          refine go hΓ 6 rfl ?_
          refine eo_o rfl (op_elemRowZ hΓ hx40 rfl rfl rfl rfl rfl rfl) ?_
          refine eo_o rfl (op_loadRowZ hΓ (enc := eS) ((i28 : Int).toNat) 0 hj42 rfl rfl rfl rfl (fun _ => rfl) (g := S x40) rfl) ?_
          refine go_ops hΓ 9 rfl ?_
          obtain ⟨q43, hq43, h44⟩ := bi_ok h41
          refine o_cut 5 [(10, .sl 1 s29.length), (12, S x40), (39, .sl 0 q20.length), (40, I (q20.length : Int)), (41, I (i28 : Int)), (53, B q43)] [.row 9 1 q20.length (q20.flatMap eS), .row 9 1 s29.length (s29.flatMap eS)] ?_ ?_
          · refine eo_gsplit rfl rfl (fun hb => ?_) (fun hb => ?_)
            · have h45 := cT hq43 hb
              obtain ⟨y46, hy46, h47⟩ := bi_ok h45
              refine go_ops hΓ 2 rfl ?_
              refine eo_guard rfl ?_
              refine eo_callL (callable Tryd.func45 rfl rfl) (c_slices_Contains_string_string hy46) rfl (Nat.le_of_ble_eq_true rfl) rfl rfl rfl rfl rfl ?_
              refine go_ops hΓ 3 rfl ?_
              obtain rfl := Option.some.inj h47
              exact ⟨⟨rfl, rfl, rfl, rfl, rfl, rfl, trivial⟩, [], rfl, .inl rfl⟩
            · have h48 := cF hq43 hb
              refine go_ops hΓ 6 rfl ?_
              obtain rfl := Option.some.inj h48
              exact ⟨⟨rfl, rfl, rfl, rfl, rfl, rfl, trivial⟩, [], rfl, .inl rfl⟩
          · refine go_ops hΓ 2 rfl ?_
            refine j_cond rfl (fun hb => ?_) (fun hb => ?_)
            · have h49 := cT h44 hb
              refine go hΓ 3 rfl ?_
              refine eo_litT hΓ (enc := eS) [x40] rfl rfl rfl rfl rfl rfl rfl rfl rfl rfl rfl rfl (Nat.le_of_ble_eq_true rfl) ?_
              obtain ⟨y50, hy50, h51⟩ := bi_ok h49
              refine eo_appendT hΓ (enc := eS) hy50 rfl rfl rfl rfl rfl rfl rfl rfl rfl (fun _ => rfl) rfl rfl rfl rfl ?_
              refine go_ops hΓ 8 rfl ?_
              obtain rfl := Option.some.inj h51
              exact ⟨⟨rfl, rfl, rfl, get_eq rfl (w64_succ (by omega)), trivial⟩, [], rfl, .inl rfl⟩
            · have h52 := cF h44 hb
              refine go hΓ 7 rfl ?_
              obtain rfl := Option.some.inj h52
              exact ⟨⟨rfl, rfl, rfl, get_eq rfl (w64_succ (by omega)), trivial⟩, [], rfl, .inl rfl⟩
        · refine go hΓ 6 rfl ?_
          refine j_condF rfl (decide_eq_false hge) ?_
          refine go hΓ 4 rfl ?_
          exact ⟨⟨rfl, trivial⟩, [], rfl, .inl rfl⟩
      · refine go hΓ 5 rfl ?_
        refine eo_shr 0 [] _ [.dead, .row 9 1 q31.length (q31.flatMap eS)] rfl rfl rfl (Nat.le_of_ble_eq_true rfl) ?_
        refine eo_move 1 0 [.row 9 1 q31.length (q31.flatMap eS), .dead] rfl rfl rfl rfl rfl rfl ?_
        refine go_ops hΓ 3 rfl ?_
        obtain rfl := Option.some.inj h32
        exact fin_objs hΓ [_] (.inr rfl) rfl rfl rfl rfl (.inr ⟨HB.mk rfl, rfl⟩)

theorem c_name_Names {k : Nat} {search : List Str} {dots : Int} {name : Str} {r : (List Str) × Int} (h : m_name_Names k search dots name = some r) : Pure Tryd.prog 18 [.d (Sl eS search), I dots, S name] (.tup [.d (Sl eS r.1), I r.2]) := by
  refine Pure.enter (Fr.of 0 _) Tryd.func18 rfl (Fr.of_ok _) rfl rfl ?_
  refine go_in ?_
  unfold m_name_Names at h
  obtain ⟨y1, hy1, h2⟩ := bi_ok h
  refine go hΓ 11 rfl ?_
  refine eo_callP (callable Tryd.func40 rfl rfl) (c_name_searchFault hy1) rfl (Nat.le_of_ble_eq_true rfl) rfl rfl rfl rfl rfl ?_
  refine go_ops hΓ 9 rfl ?_
  refine j_cond rfl (fun hb => ?_) (fun hb => ?_)
  · have h3 := cT h2 hb
    refine go hΓ 9 rfl ?_
    obtain rfl := Option.some.inj h3
    exact fin_pure hΓ (.inr rfl) rfl rfl
  · have h4 := cF h2 hb
    obtain ⟨y5, hy5, h6⟩ := bi_ok h4
    refine go hΓ 6 rfl ?_
    refine eo_callP (callable Tryd.func8 rfl rfl) (c_name_CheckDomain hy5) rfl (Nat.le_of_ble_eq_true rfl) rfl rfl rfl rfl rfl ?_
    refine go_ops hΓ 9 rfl ?_
    refine j_cond rfl (fun hb => ?_) (fun hb => ?_)
    · have h7 := cT h6 hb
      refine go hΓ 9 rfl ?_
      obtain rfl := Option.some.inj h7
      exact fin_pure hΓ (.inr rfl) rfl rfl
    · have h8 := cF h6 hb
      obtain ⟨y9, hy9, h10⟩ := bi_ok h8
      refine go hΓ 7 rfl ?_
      refine eo_callP (callable Tryd.func41 rfl rfl) (Pure.rows (c_name_names hy9) rfl rfl) rfl (Nat.le_of_ble_eq_true rfl) rfl rfl rfl rfl rfl ?_
      refine go_ops hΓ 5 rfl ?_
      obtain rfl := Option.some.inj h10
      exact fin_pure hΓ (.inr rfl) rfl rfl

theorem c_laneref1_LabelForm {s : Str} {r : Bool} (h : m_laneref1_LabelForm s = some r) : Pure Tryd.prog 34 [S s] (B r) := by
  refine Pure.enter (Fr.of 0 _) Tryd.func34 rfl (Fr.of_ok _) rfl rfl ?_
  refine go_in ?_
  unfold m_laneref1_LabelForm at h
  refine go hΓ 13 rfl ?_
  refine j_cond rfl (fun hb => ?_) (fun hb => ?_)
  · have h1 := cT h hb
    refine go hΓ 7 rfl ?_
    obtain rfl := Option.some.inj h1
    exact fin_pure hΓ (.inr rfl) rfl rfl
  · have h2 := cF h hb
    obtain ⟨y3, hy3, h4⟩ := bi_ok h2
    refine go hΓ 5 rfl ?_
    refine eo_callP (callable Tryd.func60 rfl rfl) (c_strings_TrimPrefix hy3) rfl (Nat.le_of_ble_eq_true rfl) rfl rfl rfl rfl rfl ?_
    refine go_ops hΓ 8 rfl ?_
    obtain ⟨q5, hq5, h6⟩ := bi_ok h4
    refine o_cut 4 [(0, S y3), (2, B false), (14, B q5)] [] ?_ ?_
    · refine eo_gsplit rfl rfl (fun hb => ?_) (fun hb => ?_)
      · have h7 := cT hq5 hb
        obtain ⟨y8, hy8, h9⟩ := bi_ok h7
        refine go_ops hΓ 1 rfl ?_
        refine eo_guard rfl ?_
        refine eo_callP (callable Tryd.func61 rfl rfl) (c_strings_Trim hy8) rfl (Nat.le_of_ble_eq_true rfl) rfl rfl rfl rfl rfl ?_
        refine go_ops hΓ 3 rfl ?_
        obtain rfl := Option.some.inj h9
        exact ⟨⟨rfl, rfl, rfl, trivial⟩, [], rfl, .inl rfl⟩
      · have h10 := cF hq5 hb
        refine go_ops hΓ 5 rfl ?_
        obtain rfl := Option.some.inj h10
        exact ⟨⟨rfl, rfl, rfl, trivial⟩, [], rfl, .inl rfl⟩
    · refine go_ops hΓ 1 rfl ?_
      obtain ⟨q11, hq11, h12⟩ := bi_ok h6
      refine o_cut 4 [(0, S y3), (2, B false), (19, B q11)] [] ?_ ?_
      · refine eo_gsplit rfl rfl (fun hb => ?_) (fun hb => ?_)
        · have h13 := cT hq11 hb
          obtain ⟨c14, hc14, h15⟩ := bi_ok h13
          refine go_ops hΓ 1 rfl ?_
          refine eo_guard rfl ?_
          refine eo_o rfl (op_byteZ hΓ hc14 rfl rfl rfl rfl) ?_
          refine go_ops hΓ 3 rfl ?_
          obtain rfl := Option.some.inj h15
          exact ⟨⟨rfl, rfl, rfl, trivial⟩, [], rfl, .inl rfl⟩
        · have h16 := cF hq11 hb
          refine go_ops hΓ 5 rfl ?_
          obtain rfl := Option.some.inj h16
          exact ⟨⟨rfl, rfl, rfl, trivial⟩, [], rfl, .inl rfl⟩
      · refine go_ops hΓ 1 rfl ?_
        obtain ⟨q17, hq17, h18⟩ := bi_ok h12
        refine o_cut 7 [(2, B false), (27, B q17)] [] ?_ ?_
        · refine eo_gsplit rfl rfl (fun hb => ?_) (fun hb => ?_)
          · have h19 := cT hq17 hb
            obtain ⟨c20, hc20, h21⟩ := bi_ok h19
            refine go_ops hΓ 4 rfl ?_
            refine eo_guard rfl ?_
            refine eo_o rfl (op_byteZ hΓ hc20 rfl rfl rfl rfl) ?_
            refine go_ops hΓ 3 rfl ?_
            obtain rfl := Option.some.inj h21
            exact ⟨⟨rfl, rfl, trivial⟩, [], rfl, .inl rfl⟩
          · have h22 := cF hq17 hb
            refine go_ops hΓ 8 rfl ?_
            obtain rfl := Option.some.inj h22
            exact ⟨⟨rfl, rfl, trivial⟩, [], rfl, .inl rfl⟩
        · refine go_ops hΓ 4 rfl ?_
          obtain rfl := Option.some.inj h18
          exact fin_pure hΓ (.inr rfl) rfl rfl

theorem c_laneref1_DomainFault {s : Str} {r : Int} (h : m_laneref1_DomainFault s = some r) : Pure Tryd.prog 9 [S s] (I r) := by
  refine Pure.enter (Fr.of 0 _) Tryd.func9 rfl (Fr.of_ok _) rfl rfl ?_
  refine go_in ?_
  unfold m_laneref1_DomainFault at h
  refine go hΓ 13 rfl ?_
  refine j_cond rfl (fun hb => ?_) (fun hb => ?_)
  · have h1 := cT h hb
    refine go hΓ 7 rfl ?_
    obtain rfl := Option.some.inj h1
    exact fin_pure hΓ (.inr rfl) rfl rfl
  · have h2 := cF h hb
    obtain ⟨y3, hy3, h4⟩ := bi_ok h2
    refine go hΓ 6 rfl ?_
    refine eo_callP (callable Tryd.func30 rfl rfl) (Pure.rows (c_strings_Split hy3) rfl rfl) rfl (Nat.le_of_ble_eq_true rfl) rfl rfl rfl rfl rfl ?_
    refine go_ops hΓ 4 rfl ?_
    obtain ⟨q8, hq8, h9⟩ := bi_ok h4
    refine j_bound 9 rfl fun hb11 => ?_
    refine j_cutEZ (R := fun a10 => q8 = .go a10) (fun a10 => []) (fun a10 => []) ?_ ?_
    · refine go hΓ 1 rfl ?_
      refine j_range y3 hq8 (fun i5 s6 => [(9, .d (Sl eS y3)), (10, I (y3.length : Int)), (11, I (i5 : Int))]) (fun s6 => []) ⟨⟨rfl, rfl, rfl, trivial⟩, [], rfl, .inl rfl⟩ (fun i5 x7 s6 y15 hx12 hlt hy13 hout14 => ?_) (fun s6 hgo => ?_)
      · refine go hΓ 6 rfl ?_
        refine j_condT rfl (decide_eq_true (Int.ofNat_lt.2 hlt)) ?_
        refine go hΓ 6 rfl ?_
        refine eo_o rfl (op_elemZ hΓ (enc := eS) (getZ_nat hx12) rfl rfl rfl rfl rfl (fun _ => rfl)) ?_
        obtain ⟨y16, hy16, h17⟩ := bi_ok hy13
        refine go_ops hΓ 7 rfl ?_
        refine eo_callP (callable Tryd.func34 rfl rfl) (c_laneref1_LabelForm hy16) rfl (Nat.le_of_ble_eq_true rfl) rfl rfl rfl rfl rfl ?_
        refine go_ops hΓ 3 rfl ?_
        refine j_cond rfl (fun hb => ?_) (fun hb => ?_)
        · have h18 := cT h17 hb
          refine go hΓ 8 rfl ?_
          obtain ⟨v19, hv19, h20⟩ := bi_ok h18
          obtain rfl := Option.some.inj h20
          obtain rfl := hout14 _ rfl
          obtain rfl := Option.some.inj h9
          refine go hΓ 4 rfl ?_
          obtain rfl := Option.some.inj hv19
          exact fin_pure hΓ (.inr rfl) rfl rfl
        · have h21 := cF h17 hb
          refine go hΓ 7 rfl ?_
          obtain rfl := Option.some.inj h21
          exact ⟨_, rfl, ⟨⟨rfl, rfl, get_eq rfl (w64_succ (Nat.lt_of_lt_of_le hlt hb11)), trivial⟩, [], rfl, .inl rfl⟩⟩
      · subst hgo
        refine go hΓ 6 rfl ?_
        refine j_condF rfl (decide_eq_false (Int.lt_irrefl _)) ?_
        refine go hΓ 4 rfl ?_
        exact ⟨_, rfl, ⟨trivial, [], rfl, .inl rfl⟩⟩
    · intro a10 ha
      subst ha
      replace h9 := goI_l h9
      refine go hΓ 7 rfl ?_
      obtain rfl := Option.some.inj h9
      exact fin_pure hΓ (.inr rfl) rfl rfl

theorem c_laneref2_in {n : Int} {low : Int} {high : Int} {r : Bool} (h : m_laneref2_in n low high = some r) : Pure Tryd.prog 66 [I n, I low, I high] (B r) := by
  refine Pure.enter (Fr.of 0 _) Tryd.func66 rfl (Fr.of_ok _) rfl rfl ?_
  refine go_in ?_
  unfold m_laneref2_in at h
  refine go hΓ 11 rfl ?_
  refine o_cut 4 [(6, B false), (14, B ((decide ((low : Int) ≤ n)) && (decide ((n : Int) ≤ high))))] [] ?_ ?_
  · refine eo_gsplit rfl rfl (fun hb => ?_) (fun hb => ?_)
    · refine go_ops hΓ 5 rfl ?_
      exact ⟨⟨rfl, get_b rfl (and_t hb), trivial⟩, [], rfl, .inl rfl⟩
    · refine go_ops hΓ 5 rfl ?_
      exact ⟨⟨rfl, get_b rfl (and_f hb), trivial⟩, [], rfl, .inl rfl⟩
  · refine go_ops hΓ 4 rfl ?_
    obtain rfl := Option.some.inj h
    exact fin_pure hΓ (.inr rfl) rfl rfl

theorem c_laneref2_only {s : Str} {v_some : Str} {r : Bool} (h : m_laneref2_only s v_some = some r) : Pure Tryd.prog 67 [S s, S v_some] (B r) := by
  refine Pure.enter (Fr.of 0 _) Tryd.func67 rfl (Fr.of_ok _) rfl rfl ?_
  refine go_in ?_
  unfold m_laneref2_only at h
  obtain ⟨y1, hy1, h2⟩ := bi_ok h
  refine go hΓ 9 rfl ?_
  refine eo_callP (callable Tryd.func61 rfl rfl) (c_strings_Trim hy1) rfl (Nat.le_of_ble_eq_true rfl) rfl rfl rfl rfl rfl ?_
  refine go_ops hΓ 5 rfl ?_
  obtain rfl := Option.some.inj h2
  exact fin_pure hΓ (.inr rfl) rfl rfl

theorem c_laneref2_Key {s : Str} {r : Bool} (h : m_laneref2_Key s = some r) : Pure Tryd.prog 44 [S s] (B r) := by
  refine Pure.enter (Fr.of 0 _) Tryd.func44 rfl (Fr.of_ok _) rfl rfl ?_
  refine go_in ?_
  unfold m_laneref2_Key at h
  obtain ⟨y1, hy1, h2⟩ := bi_ok h
  refine go hΓ 9 rfl ?_
  refine eo_callP (callable Tryd.func66 rfl rfl) (c_laneref2_in hy1) rfl (Nat.le_of_ble_eq_true rfl) rfl rfl rfl rfl rfl ?_
  refine go_ops hΓ 1 rfl ?_
  obtain ⟨q3, hq3, h4⟩ := bi_ok h2
  refine o_cut 4 [(0, S s), (2, B false), (10, B q3)] [] ?_ ?_
  · refine eo_gsplit rfl rfl (fun hb => ?_) (fun hb => ?_)
    · have h5 := cT hq3 hb
      obtain ⟨z6, hz6, h7⟩ := bi_ok h5
      refine go_ops hΓ 1 rfl ?_
      refine eo_guard rfl ?_
      refine eo_o rfl (op_subZ hΓ hz6 rfl rfl rfl rfl rfl) ?_
      obtain ⟨y8, hy8, h9⟩ := bi_ok h7
      refine eo_guard rfl ?_
      refine eo_callP (callable Tryd.func67 rfl rfl) (c_laneref2_only hy8) rfl (Nat.le_of_ble_eq_true rfl) rfl rfl rfl rfl rfl ?_
      refine go_ops hΓ 2 rfl ?_
      obtain rfl := Option.some.inj h9
      exact ⟨⟨rfl, rfl, rfl, trivial⟩, [], rfl, .inl rfl⟩
    · have h10 := cF hq3 hb
      refine go_ops hΓ 5 rfl ?_
      obtain rfl := Option.some.inj h10
      exact ⟨⟨rfl, rfl, rfl, trivial⟩, [], rfl, .inl rfl⟩
  · refine go_ops hΓ 1 rfl ?_
    obtain ⟨q11, hq11, h12⟩ := bi_ok h4
    refine o_cut 3 [(2, B false), (14, B q11)] [] ?_ ?_
    · refine eo_gsplit rfl rfl (fun hb => ?_) (fun hb => ?_)
      · have h13 := cT hq11 hb
        obtain ⟨y14, hy14, h15⟩ := bi_ok h13
        refine go_ops hΓ 1 rfl ?_
        refine eo_guard rfl ?_
        refine eo_callP (callable Tryd.func67 rfl rfl) (c_laneref2_only hy14) rfl (Nat.le_of_ble_eq_true rfl) rfl rfl rfl rfl rfl ?_
        refine go_ops hΓ 2 rfl ?_
        obtain rfl := Option.some.inj h15
        exact ⟨⟨rfl, rfl, trivial⟩, [], rfl, .inl rfl⟩
      · have h16 := cF hq11 hb
        refine go_ops hΓ 4 rfl ?_
        obtain rfl := Option.some.inj h16
        exact ⟨⟨rfl, rfl, trivial⟩, [], rfl, .inl rfl⟩
    · refine go_ops hΓ 4 rfl ?_
      obtain rfl := Option.some.inj h12
      exact fin_pure hΓ (.inr rfl) rfl rfl

theorem c_laneref1_SplitsFault_1 {x : Str} {r : Bool} (h : m_laneref1_SplitsFault_1 x = some r) : Pure Tryd.prog 43 [S x] (B r) := by
  refine Pure.enter (Fr.of 0 _) Tryd.func43 rfl (Fr.of_ok _) rfl rfl ?_
  refine go_in ?_
  unfold m_laneref1_SplitsFault_1 at h
  obtain ⟨y1, hy1, h2⟩ := bi_ok h
  refine go hΓ 8 rfl ?_
  refine eo_callP (callable Tryd.func44 rfl rfl) (c_laneref2_Key hy1) rfl (Nat.le_of_ble_eq_true rfl) rfl rfl rfl rfl rfl ?_
  refine go_ops hΓ 5 rfl ?_
  obtain rfl := Option.some.inj h2
  exact fin_pure hΓ (.inr rfl) rfl rfl

theorem c_slices_IndexFunc_string_string {s : List Str} {r : Int} (h : m_slices_IndexFunc_string_string s = some r) : Pure Tryd.prog 65 [.d (Sl eS s), .fn (.func 43) [] []] (I r) := by
  refine Pure.enter (Fr.of 0 _) Tryd.func65 rfl (Fr.of_ok _) rfl rfl ?_
  refine go_in ?_
  unfold m_slices_IndexFunc_string_string at h
  refine go hΓ 13 rfl ?_
  obtain ⟨q4, hq4, h5⟩ := bi_ok h
  refine j_bound 0 rfl fun hb7 => ?_
  refine j_cutEZ (R := fun a6 => q4 = .go a6) (fun a6 => []) (fun a6 => []) ?_ ?_
  · refine go hΓ 1 rfl ?_
    refine j_range s hq4 (fun i1 s2 => [(0, .d (Sl eS s)), (1, .fn (.func 43) [] []), (7, I (s.length : Int)), (8, I (i1 : Int))]) (fun s2 => []) ⟨⟨rfl, rfl, rfl, rfl, trivial⟩, [], rfl, .inl rfl⟩ (fun i1 x3 s2 y11 hx8 hlt hy9 hout10 => ?_) (fun s2 hgo => ?_)
    · refine go hΓ 6 rfl ?_
      refine j_condT rfl (decide_eq_true (Int.ofNat_lt.2 hlt)) ?_
      refine go hΓ 15 rfl ?_
      refine eo_o rfl (op_elemZ hΓ (enc := eS) (getZ_nat hx8) rfl rfl rfl rfl rfl (fun _ => rfl)) ?_
      obtain ⟨y12, hy12, h13⟩ := bi_ok hy9
      refine go_ops hΓ 1 rfl ?_
      refine eo_callP (callable Tryd.func43 rfl rfl) (c_laneref1_SplitsFault_1 hy12) rfl (Nat.le_of_ble_eq_true rfl) rfl rfl rfl rfl rfl ?_
      refine go_ops hΓ 2 rfl ?_
      refine j_cond rfl (fun hb => ?_) (fun hb => ?_)
      · have h14 := cT h13 hb
        refine go hΓ 9 rfl ?_
        obtain ⟨v15, hv15, h16⟩ := bi_ok h14
        obtain rfl := Option.some.inj h16
        obtain rfl := hout10 _ rfl
        obtain rfl := Option.some.inj h5
        refine go hΓ 4 rfl ?_
        obtain rfl := Option.some.inj hv15
        exact fin_pure hΓ (.inr rfl) rfl rfl
      · have h17 := cF h13 hb
        refine go hΓ 7 rfl ?_
        obtain rfl := Option.some.inj h17
        exact ⟨_, rfl, ⟨⟨rfl, rfl, rfl, get_eq rfl (w64_succ (Nat.lt_of_lt_of_le hlt hb7)), trivial⟩, [], rfl, .inl rfl⟩⟩
    · subst hgo
      refine go hΓ 6 rfl ?_
      refine j_condF rfl (decide_eq_false (Int.lt_irrefl _)) ?_
      refine go hΓ 4 rfl ?_
      exact ⟨_, rfl, ⟨trivial, [], rfl, .inl rfl⟩⟩
  · intro a6 ha
    subst ha
    replace h5 := goI_l h5
    refine go hΓ 7 rfl ?_
    obtain rfl := Option.some.inj h5
    exact fin_pure hΓ (.inr rfl) rfl rfl

theorem c_slices_ContainsFunc_string_string {s : List Str} {r : Bool} (h : m_slices_ContainsFunc_string_string s = some r) : Pure Tryd.prog 42 [.d (Sl eS s), .fn (.func 43) [] []] (B r) := by
  refine Pure.enter (Fr.of 0 _) Tryd.func42 rfl (Fr.of_ok _) rfl rfl ?_
  refine go_in ?_
  unfold m_slices_ContainsFunc_string_string at h
  obtain ⟨y1, hy1, h2⟩ := bi_ok h
  refine go hΓ 9 rfl ?_
  refine eo_callP (callable Tryd.func65 rfl rfl) (c_slices_IndexFunc_string_string hy1) rfl (Nat.le_of_ble_eq_true rfl) rfl rfl rfl rfl rfl ?_
  refine go_ops hΓ 5 rfl ?_
  obtain rfl := Option.some.inj h2
  exact fin_pure hΓ (.inr rfl) rfl rfl

theorem c_laneref1_SplitsFault {l : List T_api_Split} {r : Int} (h : m_laneref1_SplitsFault l = some r) : Pure Tryd.prog 19 [.d (Sl e_api_Split l)] (I r) := by
  refine Pure.enter (Fr.of 0 _) Tryd.func19 rfl (Fr.of_ok _) rfl rfl ?_
  refine go_in ?_
  unfold m_laneref1_SplitsFault at h
  refine go hΓ 13 rfl ?_
  refine j_cond rfl (fun hb => ?_) (fun hb => ?_)
  · have h1 := cT h hb
    refine go hΓ 7 rfl ?_
    obtain rfl := Option.some.inj h1
    exact fin_pure hΓ (.inr rfl) rfl rfl
  · have h2 := cF h hb
    refine go hΓ 10 rfl ?_
    obtain ⟨q6, hq6, h7⟩ := bi_ok h2
    refine j_bound 0 rfl fun hb9 => ?_
    refine j_cutEZ (R := fun a8 => q6 = .go a8) (fun a8 => []) (fun a8 => []) ?_ ?_
    · refine go hΓ 1 rfl ?_
      refine j_range l hq6 (fun i3 s4 => [(0, .d (Sl e_api_Split l)), (11, .d (Sl e_api_Split l)), (12, I (l.length : Int)), (13, I (i3 : Int))]) (fun s4 => []) ⟨⟨rfl, rfl, rfl, rfl, trivial⟩, [], rfl, .inl rfl⟩ (fun i3 x5 s4 y13 hx10 hlt hy11 hout12 => ?_) (fun s4 hgo => ?_)
      · refine go hΓ 6 rfl ?_
        refine j_condT rfl (decide_eq_true (Int.ofNat_lt.2 hlt)) ?_
        refine go hΓ 7 rfl ?_
        refine eo_o rfl (op_elemZ hΓ (enc := e_api_Split) (getZ_nat hx10) rfl rfl rfl rfl rfl (fun _ => rfl)) ?_
        refine go_ops hΓ 1 rfl ?_
        refine eo_alloc hΓ rfl rfl rfl (Nat.le_of_ble_eq_true rfl) ?_
        refine go_ops hΓ 1 rfl ?_
        refine eo_store hΓ rfl rfl rfl rfl rfl rfl rfl rfl (Nat.le_of_ble_eq_true rfl) ?_
        refine eo_hp [.box 66 [S x5.Suffix, .d (Sl eS x5.Servers)]] rfl ?_
        obtain ⟨q14, hq14, h15⟩ := bi_ok hy11
        refine go_ops hΓ 10 rfl ?_
        refine j_cutSZ (q := q14) (fun a16 => [(0, .d (Sl e_api_Split l)), (3, I (i3 : Int)), (4, .ptr 0 0), (11, .d (Sl e_api_Split l)), (12, I (l.length : Int)), (13, I (i3 : Int))]) (fun a16 => [.box 66 [S x5.Suffix, .d (Sl eS x5.Servers)]]) ?_ ?_
        · refine j_cond rfl (fun hb => ?_) (fun hb => ?_)
          · have h17 := cT hq14 hb
            obtain ⟨y18, hy18, h19⟩ := bi_ok h17
            refine go hΓ 4 rfl ?_
            refine eo_callP (callable Tryd.func9 rfl rfl) (c_laneref1_DomainFault hy18) rfl (Nat.le_of_ble_eq_true rfl) rfl rfl rfl rfl rfl ?_
            refine go_ops hΓ 9 rfl ?_
            refine j_cond rfl (fun hb => ?_) (fun hb => ?_)
            · have h20 := cT h19 hb
              refine go hΓ 7 rfl ?_
              obtain ⟨v21, hv21, h22⟩ := bi_ok h20
              obtain rfl := Option.some.inj h22
              obtain rfl := Option.some.inj h15
              refine go hΓ 4 rfl ?_
              obtain ⟨v23, hv23, h24⟩ := bi_ok hv21
              obtain rfl := Option.some.inj h24
              obtain rfl := hout12 _ rfl
              obtain rfl := Option.some.inj h7
              refine go hΓ 4 rfl ?_
              obtain rfl := Option.some.inj hv23
              exact fin_pure hΓ (.inr rfl) rfl rfl
            · have h25 := cF h19 hb
              refine go hΓ 1 rfl ?_
              obtain rfl := Option.some.inj h25
              exact ⟨_, rfl, ⟨⟨rfl, rfl, rfl, rfl, rfl, rfl, trivial⟩, [], rfl, .inl rfl⟩⟩
          · have h26 := cF hq14 hb
            refine go hΓ 1 rfl ?_
            obtain rfl := Option.some.inj h26
            exact ⟨_, rfl, ⟨⟨rfl, rfl, rfl, rfl, rfl, rfl, trivial⟩, [], rfl, .inl rfl⟩⟩
        · intro a16 ha
          subst ha
          replace h15 := orI_l h15
          obtain ⟨q27, hq27, h28⟩ := bi_ok h15
          refine go hΓ 4 rfl ?_
          refine j_cutNZ [(0, .d (Sl e_api_Split l)), (4, .ptr 0 0), (11, .d (Sl e_api_Split l)), (12, I (l.length : Int)), (13, I (i3 : Int)), (27, B q27)] [.box 66 [S x5.Suffix, .d (Sl eS x5.Servers)]] ?_ ?_
          · refine j_draw hmix (by kernel_rfl) ?_
            refine go hΓ 3 rfl ?_
            refine gl_gsplit rfl rfl (fun hb => ?_) (fun hb => ?_)
            · have h29 := cT hq27 hb
              obtain ⟨x30, hx30, h31⟩ := bi_ok h29
              refine go_draw hΓ 5 rfl ?_
              refine gl_og rfl rfl (op_elemZ hΓ (enc := e_api_Split) hx30 rfl rfl rfl rfl rfl (fun _ => rfl)) ?_
              refine go_draw hΓ 6 rfl ?_
              obtain rfl := Option.some.inj h31
              exact ⟨⟨rfl, rfl, rfl, rfl, rfl, rfl, trivial⟩, [], rfl, .inl rfl⟩
            · have h32 := cF hq27 hb
              refine go_draw hΓ 12 rfl ?_
              obtain rfl := Option.some.inj h32
              exact ⟨⟨rfl, rfl, rfl, rfl, rfl, rfl, trivial⟩, [], rfl, .inl rfl⟩
          · refine go hΓ 1 rfl ?_
            refine j_cond rfl (fun hb => ?_) (fun hb => ?_)
            · have h33 := cT h28 hb
              refine go hΓ 10 rfl ?_
              obtain ⟨v34, hv34, h35⟩ := bi_ok h33
              obtain rfl := Option.some.inj h35
              obtain rfl := hout12 _ rfl
              obtain rfl := Option.some.inj h7
              refine go hΓ 4 rfl ?_
              obtain rfl := Option.some.inj hv34
              exact fin_pure hΓ (.inr rfl) rfl rfl
            · have h36 := cF h28 hb
              refine go hΓ 9 rfl ?_
              refine j_cond rfl (fun hb => ?_) (fun hb => ?_)
              · have h37 := cT h36 hb
                refine go hΓ 10 rfl ?_
                obtain ⟨v38, hv38, h39⟩ := bi_ok h37
                obtain rfl := Option.some.inj h39
                obtain rfl := hout12 _ rfl
                obtain rfl := Option.some.inj h7
                refine go hΓ 4 rfl ?_
                obtain rfl := Option.some.inj hv38
                exact fin_pure hΓ (.inr rfl) rfl rfl
              · have h40 := cF h36 hb
                refine go hΓ 9 rfl ?_
                refine j_cond rfl (fun hb => ?_) (fun hb => ?_)
                · have h41 := cT h40 hb
                  refine go hΓ 10 rfl ?_
                  obtain ⟨v42, hv42, h43⟩ := bi_ok h41
                  obtain rfl := Option.some.inj h43
                  obtain rfl := hout12 _ rfl
                  obtain rfl := Option.some.inj h7
                  refine go hΓ 4 rfl ?_
                  obtain rfl := Option.some.inj hv42
                  exact fin_pure hΓ (.inr rfl) rfl rfl
                · have h44 := cF h40 hb
                  obtain ⟨y45, hy45, h46⟩ := bi_ok h44
                  refine go hΓ 4 rfl ?_
                  refine eo_callP (callable Tryd.func42 rfl rfl) (c_slices_ContainsFunc_string_string hy45) rfl (Nat.le_of_ble_eq_true rfl) rfl rfl rfl rfl rfl ?_
                  refine go_ops hΓ 3 rfl ?_
                  refine j_cond rfl (fun hb => ?_) (fun hb => ?_)
                  · have h47 := cT h46 hb
                    refine go hΓ 10 rfl ?_
                    obtain ⟨v48, hv48, h49⟩ := bi_ok h47
                    obtain rfl := Option.some.inj h49
                    obtain rfl := hout12 _ rfl
                    obtain rfl := Option.some.inj h7
                    refine go hΓ 4 rfl ?_
                    obtain rfl := Option.some.inj hv48
                    exact fin_pure hΓ (.inr rfl) rfl rfl
                  · have h50 := cF h46 hb
                    refine go hΓ 11 rfl ?_
                    obtain ⟨q54, hq54, h55⟩ := bi_ok h50
                    refine j_bound 56 rfl fun hb57 => ?_
                    refine j_cutEZ (R := fun a56 => q54 = .go a56) (fun a56 => [(0, .d (Sl e_api_Split l)), (11, .d (Sl e_api_Split l)), (12, I (l.length : Int)), (13, I (i3 : Int))]) (fun a56 => [.box 66 [S x5.Suffix, .d (Sl eS x5.Servers)]]) ?_ ?_
                    · refine go hΓ 1 rfl ?_
                      refine j_range x5.Servers hq54 (fun i51 s52 => [(0, .d (Sl e_api_Split l)), (4, .ptr 0 0), (11, .d (Sl e_api_Split l)), (12, I (l.length : Int)), (13, I (i3 : Int)), (56, .d (Sl eS x5.Servers)), (57, I (x5.Servers.length : Int)), (58, I (i51 : Int))]) (fun s52 => [.box 66 [S x5.Suffix, .d (Sl eS x5.Servers)]]) ⟨⟨rfl, rfl, rfl, rfl, rfl, rfl, rfl, rfl, trivial⟩, [], rfl, .inl rfl⟩ (fun i51 x53 s52 y61 hx58 hlt hy59 hout60 => ?_) (fun s52 hgo => ?_)
                      · refine go hΓ 6 rfl ?_
                        refine j_condT rfl (decide_eq_true (Int.ofNat_lt.2 hlt)) ?_
                        refine go hΓ 7 rfl ?_
                        refine eo_o rfl (op_elemZ hΓ (enc := eS) (getZ_nat hx58) rfl rfl rfl rfl rfl (fun _ => rfl)) ?_
                        obtain ⟨z62, hz62, h63⟩ := bi_ok hy59
                        refine go_ops hΓ 10 rfl ?_
                        refine eo_o rfl (op_subRoZ hΓ (enc := eS) hz62 rfl rfl rfl rfl rfl rfl (fun _ => rfl)) ?_
                        obtain ⟨y64, hy64, h65⟩ := bi_ok h63
                        refine go_ops hΓ 1 rfl ?_
                        refine eo_callP (callable Tryd.func45 rfl rfl) (c_slices_Contains_string_string hy64) rfl (Nat.le_of_ble_eq_true rfl) rfl rfl rfl rfl rfl ?_
                        refine go_ops hΓ 2 rfl ?_
                        refine j_cond rfl (fun hb => ?_) (fun hb => ?_)
                        · have h66 := cT h65 hb
                          refine go hΓ 8 rfl ?_
                          obtain ⟨v67, hv67, h68⟩ := bi_ok h66
                          obtain rfl := Option.some.inj h68
                          obtain rfl := hout60 _ rfl
                          obtain rfl := Option.some.inj h55
                          refine go hΓ 5 rfl ?_
                          obtain ⟨v69, hv69, h70⟩ := bi_ok hv67
                          obtain rfl := Option.some.inj h70
                          obtain rfl := hout12 _ rfl
                          obtain rfl := Option.some.inj h7
                          refine go hΓ 4 rfl ?_
                          obtain rfl := Option.some.inj hv69
                          exact fin_pure hΓ (.inr rfl) rfl rfl
                        · have h71 := cF h65 hb
                          refine go hΓ 7 rfl ?_
                          obtain rfl := Option.some.inj h71
                          exact ⟨_, rfl, ⟨⟨rfl, rfl, rfl, rfl, rfl, rfl, rfl, get_eq rfl (w64_succ (Nat.lt_of_lt_of_le hlt hb57)), trivial⟩, [], rfl, .inl rfl⟩⟩
                      · subst hgo
                        refine go hΓ 6 rfl ?_
                        refine j_condF rfl (decide_eq_false (Int.lt_irrefl _)) ?_
                        refine go hΓ 4 rfl ?_
                        exact ⟨_, rfl, ⟨⟨rfl, rfl, rfl, rfl, trivial⟩, [], rfl, .inl rfl⟩⟩
                    · intro a56 ha
                      subst ha
                      replace h55 := goI_l h55
                      refine go hΓ 6 rfl ?_
                      obtain rfl := Option.some.inj h55
                      exact ⟨_, rfl, ⟨⟨rfl, rfl, rfl, get_eq rfl (w64_succ (Nat.lt_of_lt_of_le hlt hb9)), trivial⟩, [_], rfl, .inr ⟨HB.mk rfl, FB.mk rfl, (Nat.le_of_ble_eq_true rfl)⟩⟩⟩
      · subst hgo
        refine go hΓ 6 rfl ?_
        refine j_condF rfl (decide_eq_false (Int.lt_irrefl _)) ?_
        refine go hΓ 4 rfl ?_
        exact ⟨_, rfl, ⟨trivial, [], rfl, .inl rfl⟩⟩
    · intro a8 ha
      subst ha
      replace h7 := goI_l h7
      refine go hΓ 7 rfl ?_
      obtain rfl := Option.some.inj h7
      exact fin_pure hΓ (.inr rfl) rfl rfl

theorem c_cmp_Or_api_Errno {vals : List Int} {r : Int} (h : m_cmp_Or_api_Errno vals = some r) : Pure Tryd.prog 10 [.d (Sl (eN .i64) vals)] (I r) := by
  refine Pure.enter (Fr.of 0 _) Tryd.func10 rfl (Fr.of_ok _) rfl rfl ?_
  refine go_in ?_
  unfold m_cmp_Or_api_Errno at h
  refine go hΓ 18 rfl ?_
  obtain ⟨q4, hq4, h5⟩ := bi_ok h
  refine j_bound 6 rfl fun hb7 => ?_
  refine j_cutEZ (R := fun a6 => q4 = .go a6) (fun a6 => [(3, I 0)]) (fun a6 => []) ?_ ?_
  · refine go hΓ 1 rfl ?_
    refine j_range vals hq4 (fun i1 s2 => [(3, I 0), (6, .d (Sl (eN .i64) vals)), (7, I (vals.length : Int)), (8, I (i1 : Int))]) (fun s2 => []) ⟨⟨rfl, rfl, rfl, rfl, trivial⟩, [], rfl, .inl rfl⟩ (fun i1 x3 s2 y11 hx8 hlt hy9 hout10 => ?_) (fun s2 hgo => ?_)
    · refine go hΓ 6 rfl ?_
      refine j_condT rfl (decide_eq_true (Int.ofNat_lt.2 hlt)) ?_
      refine go hΓ 6 rfl ?_
      refine eo_o rfl (op_elemZ hΓ (enc := (eN .i64)) (getZ_nat hx8) rfl rfl rfl rfl rfl (fun _ => rfl)) ?_
      refine go_ops hΓ 11 rfl ?_
      refine j_cond rfl (fun hb => ?_) (fun hb => ?_)
      · have h12 := cT hy9 hb
        refine go hΓ 9 rfl ?_
        obtain ⟨v13, hv13, h14⟩ := bi_ok h12
        obtain rfl := Option.some.inj h14
        obtain rfl := hout10 _ rfl
        obtain rfl := Option.some.inj h5
        refine go hΓ 4 rfl ?_
        obtain rfl := Option.some.inj hv13
        exact fin_pure hΓ (.inr rfl) rfl rfl
      · have h15 := cF hy9 hb
        refine go hΓ 7 rfl ?_
        obtain rfl := Option.some.inj h15
        exact ⟨_, rfl, ⟨⟨rfl, rfl, rfl, get_eq rfl (w64_succ (Nat.lt_of_lt_of_le hlt hb7)), trivial⟩, [], rfl, .inl rfl⟩⟩
    · subst hgo
      refine go hΓ 6 rfl ?_
      refine j_condF rfl (decide_eq_false (Int.lt_irrefl _)) ?_
      refine go hΓ 4 rfl ?_
      exact ⟨_, rfl, ⟨⟨rfl, trivial⟩, [], rfl, .inl rfl⟩⟩
  · intro a6 ha
    subst ha
    replace h5 := goI_l h5
    refine go hΓ 8 rfl ?_
    obtain rfl := Option.some.inj h5
    exact fin_pure hΓ (.inr rfl) rfl rfl

theorem c_laneref1_in {n : Int} {low : Int} {high : Int} {r : Bool} (h : m_laneref1_in n low high = some r) : Pure Tryd.prog 47 [I n, I low, I high] (B r) := by
  refine Pure.enter (Fr.of 0 _) Tryd.func47 rfl (Fr.of_ok _) rfl rfl ?_
  refine go_in ?_
  unfold m_laneref1_in at h
  refine go hΓ 11 rfl ?_
  refine o_cut 4 [(6, B false), (14, B ((decide ((low : Int) ≤ n)) && (decide ((n : Int) ≤ high))))] [] ?_ ?_
  · refine eo_gsplit rfl rfl (fun hb => ?_) (fun hb => ?_)
    · refine go_ops hΓ 5 rfl ?_
      exact ⟨⟨rfl, get_b rfl (and_t hb), trivial⟩, [], rfl, .inl rfl⟩
    · refine go_ops hΓ 5 rfl ?_
      exact ⟨⟨rfl, get_b rfl (and_f hb), trivial⟩, [], rfl, .inl rfl⟩
  · refine go_ops hΓ 4 rfl ?_
    obtain rfl := Option.some.inj h
    exact fin_pure hΓ (.inr rfl) rfl rfl

theorem c_laneref1_SearchFault {search : List Str} {dots : Int} {r : Int} (h : m_laneref1_SearchFault search dots = some r) : Pure Tryd.prog 21 [.d (Sl eS search), I dots] (I r) := by
  refine Pure.enter (Fr.of 0 _) Tryd.func21 rfl (Fr.of_ok _) rfl rfl ?_
  refine go_in ?_
  unfold m_laneref1_SearchFault at h
  refine go hΓ 13 rfl ?_
  refine j_cond rfl (fun hb => ?_) (fun hb => ?_)
  · have h1 := cT h hb
    refine go hΓ 7 rfl ?_
    obtain rfl := Option.some.inj h1
    exact fin_pure hΓ (.inr rfl) rfl rfl
  · have h2 := cF h hb
    refine go hΓ 10 rfl ?_
    obtain ⟨q6, hq6, h7⟩ := bi_ok h2
    refine j_bound 11 rfl fun hb9 => ?_
    refine j_cutEZ (R := fun a8 => q6 = .go a8) (fun a8 => [(1, I dots)]) (fun a8 => []) ?_ ?_
    · refine go hΓ 1 rfl ?_
      refine j_range search hq6 (fun i3 s4 => [(1, I dots), (11, .d (Sl eS search)), (12, I (search.length : Int)), (13, I (i3 : Int))]) (fun s4 => []) ⟨⟨rfl, rfl, rfl, rfl, trivial⟩, [], rfl, .inl rfl⟩ (fun i3 x5 s4 y13 hx10 hlt hy11 hout12 => ?_) (fun s4 hgo => ?_)
      · refine go hΓ 6 rfl ?_
        refine j_condT rfl (decide_eq_true (Int.ofNat_lt.2 hlt)) ?_
        refine go hΓ 6 rfl ?_
        refine eo_o rfl (op_elemZ hΓ (enc := eS) (getZ_nat hx10) rfl rfl rfl rfl rfl (fun _ => rfl)) ?_
        obtain ⟨y14, hy14, h15⟩ := bi_ok hy11
        refine go_ops hΓ 7 rfl ?_
        refine eo_callP (callable Tryd.func9 rfl rfl) (c_laneref1_DomainFault hy14) rfl (Nat.le_of_ble_eq_true rfl) rfl rfl rfl rfl rfl ?_
        refine go_ops hΓ 9 rfl ?_
        refine j_cond rfl (fun hb => ?_) (fun hb => ?_)
        · have h16 := cT h15 hb
          refine go hΓ 9 rfl ?_
          obtain ⟨v17, hv17, h18⟩ := bi_ok h16
          obtain rfl := Option.some.inj h18
          obtain rfl := hout12 _ rfl
          obtain rfl := Option.some.inj h7
          refine go hΓ 4 rfl ?_
          obtain rfl := Option.some.inj hv17
          exact fin_pure hΓ (.inr rfl) rfl rfl
        · have h19 := cF h15 hb
          refine go hΓ 7 rfl ?_
          obtain rfl := Option.some.inj h19
          exact ⟨_, rfl, ⟨⟨rfl, rfl, rfl, get_eq rfl (w64_succ (Nat.lt_of_lt_of_le hlt hb9)), trivial⟩, [], rfl, .inl rfl⟩⟩
      · subst hgo
        refine go hΓ 6 rfl ?_
        refine j_condF rfl (decide_eq_false (Int.lt_irrefl _)) ?_
        refine go hΓ 4 rfl ?_
        exact ⟨_, rfl, ⟨⟨rfl, trivial⟩, [], rfl, .inl rfl⟩⟩
    · intro a8 ha
      subst ha
      replace h7 := goI_l h7
      obtain ⟨y20, hy20, h21⟩ := bi_ok h7
      refine go hΓ 5 rfl ?_
      refine eo_callP (callable Tryd.func47 rfl rfl) (c_laneref1_in hy20) rfl (Nat.le_of_ble_eq_true rfl) rfl rfl rfl rfl rfl ?_
      refine go_ops hΓ 3 rfl ?_
      refine j_cond rfl (fun hb => ?_) (fun hb => ?_)
      · have h22 := cT h21 hb
        refine go hΓ 7 rfl ?_
        obtain rfl := Option.some.inj h22
        exact fin_pure hΓ (.inr rfl) rfl rfl
      · have h23 := cF h21 hb
        refine go hΓ 8 rfl ?_
        obtain rfl := Option.some.inj h23
        exact fin_pure hΓ (.inr rfl) rfl rfl

theorem c_laneref1_ServersOf {k : Nat} {l : List T_api_Split} {name : Str} {r : (List Str) × Bool} (h : m_laneref1_ServersOf k l name = some r) : Pure Tryd.prog 22 [.d (Sl e_api_Split l), S name] (.tup [.d (Sl eS r.1), B r.2]) := by
  refine Pure.enter (Fr.of 0 _) Tryd.func22 rfl (Fr.of_ok _) rfl rfl ?_
  refine go_in ?_
  unfold m_laneref1_ServersOf at h
  refine go hΓ 12 rfl ?_
  obtain ⟨q4, hq4, h5⟩ := bi_ok h
  refine go hΓ 1 rfl ?_
  refine j_loop hq4 (fun s2 => [(0, .d (Sl e_api_Split l)), (6, S s2)]) (fun s2 => []) ⟨⟨rfl, rfl, trivial⟩, [], rfl, .inl rfl⟩ (fun s2 y10 hy8 hout9 => ?_)
  refine go hΓ 9 rfl ?_
  obtain ⟨q14, hq14, h15⟩ := bi_ok hy8
  refine j_bound 0 rfl fun hb17 => ?_
  refine j_cutEZ (R := fun a16 => q14 = .go a16) (fun a16 => [(0, .d (Sl e_api_Split l)), (6, S s2)]) (fun a16 => []) ?_ ?_
  · refine go hΓ 1 rfl ?_
    refine j_range l hq14 (fun i11 s12 => [(0, .d (Sl e_api_Split l)), (6, S s2), (10, .d (Sl e_api_Split l)), (11, I (l.length : Int)), (12, I (i11 : Int))]) (fun s12 => []) ⟨⟨rfl, rfl, rfl, rfl, rfl, trivial⟩, [], rfl, .inl rfl⟩ (fun i11 x13 s12 y21 hx18 hlt hy19 hout20 => ?_) (fun s12 hgo => ?_)
    · refine go hΓ 6 rfl ?_
      refine j_condT rfl (decide_eq_true (Int.ofNat_lt.2 hlt)) ?_
      refine go hΓ 6 rfl ?_
      refine eo_o rfl (op_elemZ hΓ (enc := e_api_Split) (getZ_nat hx18) rfl rfl rfl rfl rfl (fun _ => rfl)) ?_
      refine go_ops hΓ 1 rfl ?_
      refine eo_alloc hΓ rfl rfl rfl (Nat.le_of_ble_eq_true rfl) ?_
      refine eo_store hΓ rfl rfl rfl rfl rfl rfl rfl rfl (Nat.le_of_ble_eq_true rfl) ?_
      refine eo_hp [.box 66 [S x13.Suffix, .d (Sl eS x13.Servers)]] rfl ?_
      refine go_ops hΓ 10 rfl ?_
      refine j_cond rfl (fun hb => ?_) (fun hb => ?_)
      · have h22 := cT hy19 hb
        obtain ⟨y23, hy23, h24⟩ := bi_ok h22
        refine go hΓ 4 rfl ?_
        refine eo_callP (callable Tryd.func38 rfl rfl) (Pure.rows (c_slices_Clone_string_string hy23) rfl rfl) rfl (Nat.le_of_ble_eq_true rfl) rfl rfl rfl rfl rfl ?_
        refine go_ops hΓ 7 rfl ?_
        obtain ⟨v25, hv25, h26⟩ := bi_ok h24
        obtain rfl := Option.some.inj h26
        obtain rfl := hout20 _ rfl
        obtain rfl := Option.some.inj h15
        refine go hΓ 5 rfl ?_
        obtain ⟨v27, hv27, h28⟩ := bi_ok hv25
        obtain rfl := Option.some.inj h28
        obtain rfl := hout9 _ rfl
        obtain rfl := Option.some.inj h5
        refine go hΓ 2 rfl ?_
        obtain rfl := Option.some.inj hv27
        exact fin_pure hΓ (.inr rfl) rfl rfl
      · have h29 := cF hy19 hb
        refine go hΓ 7 rfl ?_
        obtain rfl := Option.some.inj h29
        exact ⟨_, rfl, ⟨⟨rfl, rfl, rfl, rfl, get_eq rfl (w64_succ (Nat.lt_of_lt_of_le hlt hb17)), trivial⟩, [_], rfl, .inr ⟨HB.mk rfl, FB.mk rfl, (Nat.le_of_ble_eq_true rfl)⟩⟩⟩
    · subst hgo
      refine go hΓ 6 rfl ?_
      refine j_condF rfl (decide_eq_false (Int.lt_irrefl _)) ?_
      refine go hΓ 4 rfl ?_
      exact ⟨_, rfl, ⟨⟨rfl, rfl, trivial⟩, [], rfl, .inl rfl⟩⟩
  · intro a16 ha
    subst ha
    replace h15 := goI_l h15
    refine go hΓ 8 rfl ?_
    refine j_cond rfl (fun hb => ?_) (fun hb => ?_)
    · have h30 := cT h15 hb
      refine go hΓ 9 rfl ?_
      obtain ⟨v31, hv31, h32⟩ := bi_ok h30
      obtain rfl := Option.some.inj h32
      obtain rfl := hout9 _ rfl
      obtain rfl := Option.some.inj h5
      refine go hΓ 2 rfl ?_
      obtain rfl := Option.some.inj hv31
      exact fin_pure hΓ (.inr rfl) rfl rfl
    · have h33 := cF h15 hb
      obtain ⟨y34, hy34, h35⟩ := bi_ok h33
      refine go hΓ 4 rfl ?_
      refine eo_callP (callable Tryd.func48 rfl rfl) (c_strings_Cut hy34) rfl (Nat.le_of_ble_eq_true rfl) rfl rfl rfl rfl rfl ?_
      refine go_ops hΓ 7 rfl ?_
      obtain rfl := Option.some.inj h35
      exact ⟨_, rfl, ⟨⟨rfl, rfl, trivial⟩, [], rfl, .inl rfl⟩⟩

theorem c_slices_Equal_string_string {s1 : List Str} {s2 : List Str} {r : Bool} (h : m_slices_Equal_string_string s1 s2 = some r) : Pure Tryd.prog 23 [.d (Sl eS s1), .d (Sl eS s2)] (B r) := by
  refine Pure.enter (Fr.of 0 _) Tryd.func23 rfl (Fr.of_ok _) rfl rfl ?_
  refine go_in ?_
  unfold m_slices_Equal_string_string at h
  refine go hΓ 15 rfl ?_
  refine j_cond rfl (fun hb => ?_) (fun hb => ?_)
  · have h1 := cT h hb
    refine go hΓ 7 rfl ?_
    obtain rfl := Option.some.inj h1
    exact fin_pure hΓ (.inr rfl) rfl rfl
  · have h2 := cF h hb
    refine go hΓ 10 rfl ?_
    obtain ⟨q6, hq6, h7⟩ := bi_ok h2
    refine j_bound 0 rfl fun hb9 => ?_
    refine j_cutEZ (R := fun a8 => q6 = .go a8) (fun a8 => []) (fun a8 => []) ?_ ?_
    · refine go hΓ 1 rfl ?_
      refine j_range s1 hq6 (fun i3 s4 => [(0, .d (Sl eS s1)), (1, .d (Sl eS s2)), (12, I (s1.length : Int)), (13, I (i3 : Int))]) (fun s4 => []) ⟨⟨rfl, rfl, rfl, rfl, trivial⟩, [], rfl, .inl rfl⟩ (fun i3 x5 s4 y13 hx10 hlt hy11 hout12 => ?_) (fun s4 hgo => ?_)
      · refine go hΓ 6 rfl ?_
        refine j_condT rfl (decide_eq_true (Int.ofNat_lt.2 hlt)) ?_
        refine go hΓ 11 rfl ?_
        refine j_draw hmix (by kernel_rfl) ?_
        refine go hΓ 2 rfl ?_
        refine gl_o rfl (op_elemZ hΓ (enc := eS) (getZ_nat hx10) rfl rfl rfl rfl rfl (fun _ => rfl)) ?_
        obtain ⟨x14, hx14, h15⟩ := bi_ok hy11
        refine go_draw hΓ 3 rfl ?_
        refine gl_o rfl (op_elemZ hΓ (enc := eS) hx14 rfl rfl rfl rfl rfl (fun _ => rfl)) ?_
        refine go_draw hΓ 4 rfl ?_
        refine j_cond rfl (fun hb => ?_) (fun hb => ?_)
        · have h16 := cT h15 hb
          refine go hΓ 8 rfl ?_
          obtain ⟨v17, hv17, h18⟩ := bi_ok h16
          obtain rfl := Option.some.inj h18
          obtain rfl := hout12 _ rfl
          obtain rfl := Option.some.inj h7
          refine go hΓ 4 rfl ?_
          obtain rfl := Option.some.inj hv17
          exact fin_pure hΓ (.inr rfl) rfl rfl
        · have h19 := cF h15 hb
          refine go hΓ 7 rfl ?_
          obtain rfl := Option.some.inj h19
          exact ⟨_, rfl, ⟨⟨rfl, rfl, rfl, get_eq rfl (w64_succ (Nat.lt_of_lt_of_le hlt hb9)), trivial⟩, [], rfl, .inl rfl⟩⟩
      · subst hgo
        refine go hΓ 6 rfl ?_
        refine j_condF rfl (decide_eq_false (Int.lt_irrefl _)) ?_
        refine go hΓ 4 rfl ?_
        exact ⟨_, rfl, ⟨trivial, [], rfl, .inl rfl⟩⟩
    · intro a8 ha
      subst ha
      replace h7 := goI_l h7
      refine go hΓ 7 rfl ?_
      obtain rfl := Option.some.inj h7
      exact fin_pure hΓ (.inr rfl) rfl rfl

theorem c_laneref1_NamesTried {search : List Str} {dots : Int} {name : Str} {r : List Str} (h : m_laneref1_NamesTried search dots name = some r) : EC Tryd.prog 24 [.d (Sl eS search), I dots, S name] [] fun g hp' => g = .sl 0 r.length ∧ hp' = [.row 9 1 r.length (r.flatMap eS)] := by
  refine ec_enter (Fr.of 0 _) Tryd.func24 rfl (Fr.of_ok _) (Nat.le_of_ble_eq_true rfl) fun _ => ?_
  refine go_in ?_
  unfold m_laneref1_NamesTried at h
  refine go hΓ 8 rfl ?_
  refine eo_litRowT hΓ (enc := eS) [name] rfl rfl rfl rfl rfl rfl rfl rfl rfl rfl rfl rfl (Nat.le_of_ble_eq_true rfl) ?_
  refine go_ops hΓ 11 rfl ?_
  obtain ⟨q4, hq4, h5⟩ := bi_ok h
  refine j_bound 15 rfl fun hb7 => ?_
  refine j_cutNZ [(1, I dots), (2, S name), (7, .sl 0 q4.length)] [.row 9 1 q4.length (q4.flatMap eS)] ?_ ?_
  · refine go hΓ 1 rfl ?_
    refine j_rangeF search hq4 (fun i1 s2 => [(1, I dots), (2, S name), (7, .sl 0 s2.length), (15, .d (Sl eS search)), (16, I (search.length : Int)), (17, I (i1 : Int))]) (fun s2 => [.row 9 1 s2.length (s2.flatMap eS)]) ⟨⟨rfl, rfl, rfl, rfl, rfl, rfl, trivial⟩, [], rfl, .inl rfl⟩ (fun i1 x3 s2 y11 hx8 hlt hy9 => ?_) (?_)
    · refine go hΓ 6 rfl ?_
      refine j_condT rfl (decide_eq_true (Int.ofNat_lt.2 hlt)) ?_
      refine go hΓ 6 rfl ?_
      refine eo_o rfl (op_elemZ hΓ (enc := eS) (getZ_nat hx8) rfl rfl rfl rfl rfl (fun _ => rfl)) ?_
      obtain ⟨y12, hy12, h13⟩ := bi_ok hy9
      refine go_ops hΓ 7 rfl ?_
      refine eo_o rfl (op_catZ hy12 rfl rfl) ?_
      obtain ⟨y14, hy14, h15⟩ := bi_ok h13
      refine go_ops hΓ 1 rfl ?_
      refine eo_o rfl (op_catZ hy14 rfl rfl) ?_
      refine eo_litT hΓ (enc := eS) [y14] rfl rfl rfl rfl rfl rfl rfl rfl rfl rfl rfl rfl (Nat.le_of_ble_eq_true rfl) ?_
      obtain ⟨y16, hy16, h17⟩ := bi_ok h15
      refine eo_appendT hΓ (enc := eS) hy16 rfl rfl rfl rfl rfl rfl rfl rfl rfl (fun _ => rfl) rfl rfl rfl rfl ?_
      refine go_ops hΓ 8 rfl ?_
      obtain rfl := Option.some.inj h17
      exact ⟨⟨rfl, rfl, rfl, rfl, rfl, get_eq rfl (w64_succ (Nat.lt_of_lt_of_le hlt hb7)), trivial⟩, [], rfl, .inl rfl⟩
    · refine go hΓ 6 rfl ?_
      refine j_condF rfl (decide_eq_false (Int.lt_irrefl _)) ?_
      refine go hΓ 4 rfl ?_
      exact ⟨⟨rfl, rfl, rfl, trivial⟩, [], rfl, .inl rfl⟩
  · obtain ⟨y18, hy18, h19⟩ := bi_ok h5
    refine go hΓ 5 rfl ?_
    refine eo_callP (callable Tryd.func49 rfl rfl) (c_strings_Count hy18) rfl (Nat.le_of_ble_eq_true rfl) rfl rfl rfl rfl rfl ?_
    obtain ⟨q20, hq20, h21⟩ := bi_ok h19
    refine go_ops hΓ 4 rfl ?_
    refine j_cutNC [(7, .d (Sl eS q20))] [.dead] ?_ ?_
    · refine j_cond rfl (fun hb => ?_) (fun hb => ?_)
      · have h22 := cT hq20 hb
        obtain ⟨z23, hz23, h24⟩ := bi_ok h22
        refine go hΓ 2 rfl ?_
        refine eo_o rfl (op_viewZ hΓ (k := 1) hz23 rfl rfl rfl rfl rfl rfl) ?_
        refine go_ops hΓ 1 rfl ?_
        refine eo_litT hΓ (enc := eS) [name] rfl rfl rfl rfl rfl rfl rfl rfl rfl rfl rfl rfl (Nat.le_of_ble_eq_true rfl) ?_
        obtain ⟨y25, hy25, h26⟩ := bi_ok h24
        refine eo_s (Nat.le_of_ble_eq_true rfl) (nblt.1 rfl) (ops_appendTailT hΓ (enc := eS) hz23 hy25 rfl rfl rfl rfl rfl rfl rfl rfl rfl rfl rfl (fun _ => rfl) rfl) ?_
        refine go_ops hΓ 2 rfl ?_
        refine cv_here ?_
        obtain rfl := Option.some.inj h26
        exact ⟨⟨rfl, trivial⟩, [], rfl, .inl rfl⟩
      · have h27 := cF hq20 hb
        refine go hΓ 1 rfl ?_
        refine cv_shr 0 [7] _ [.dead] rfl rfl rfl (Nat.le_of_ble_eq_true rfl) ?_
        refine cv_here ?_
        obtain rfl := Option.some.inj h27
        exact ⟨⟨rfl, trivial⟩, [], rfl, .inl rfl⟩
    · refine go hΓ 3 rfl ?_
      refine eo_nilOwn (t := 0) 9 1 rfl (Nat.le_of_ble_eq_true rfl) ?_
      refine go_ops hΓ 10 rfl ?_
      obtain ⟨q31, hq31, h32⟩ := bi_ok h21
      refine j_bound 38 rfl fun hb34 => ?_
      refine j_cutNZ [(10, .sl 1 q31.length)] [.dead, .row 9 1 q31.length (q31.flatMap eS)] ?_ ?_
      · refine go hΓ 1 rfl ?_
        refine j_rangeF q20 hq31 (fun i28 s29 => [(10, .sl 1 s29.length), (38, .d (Sl eS q20)), (39, I (q20.length : Int)), (40, I (i28 : Int))]) (fun s29 => [.dead, .row 9 1 s29.length (s29.flatMap eS)]) ⟨⟨rfl, rfl, rfl, rfl, trivial⟩, [], rfl, .inl rfl⟩ (fun i28 x30 s29 y38 hx35 hlt hy36 => ?_) (?_)
        · refine go hΓ 6 rfl ?_
          refine j_condT rfl (decide_eq_true (Int.ofNat_lt.2 hlt)) ?_
          refine go hΓ 6 rfl ?_
          refine eo_o rfl (op_elemZ hΓ (enc := eS) (getZ_nat hx35) rfl rfl rfl rfl rfl (fun _ => rfl)) ?_
          refine go_ops hΓ 10 rfl ?_
          obtain ⟨q39, hq39, h40⟩ := bi_ok hy36
          refine o_cut 5 [(10, .sl 1 s29.length), (12, S x30), (38, .d (Sl eS q20)), (39, I (q20.length : Int)), (40, I (i28 : Int)), (52, B q39)] [.dead, .row 9 1 s29.length (s29.flatMap eS)] ?_ ?_
          · refine eo_gsplit rfl rfl (fun hb => ?_) (fun hb => ?_)
            · have h41 := cT hq39 hb
              obtain ⟨y42, hy42, h43⟩ := bi_ok h41
              refine go_ops hΓ 2 rfl ?_
              refine eo_guard rfl ?_
              refine eo_callL (callable Tryd.func45 rfl rfl) (c_slices_Contains_string_string hy42) rfl (Nat.le_of_ble_eq_true rfl) rfl rfl rfl rfl rfl ?_
              refine go_ops hΓ 3 rfl ?_
              obtain rfl := Option.some.inj h43
              exact ⟨⟨rfl, rfl, rfl, rfl, rfl, rfl, trivial⟩, [], rfl, .inl rfl⟩
            · have h44 := cF hq39 hb
              refine go_ops hΓ 6 rfl ?_
              obtain rfl := Option.some.inj h44
              exact ⟨⟨rfl, rfl, rfl, rfl, rfl, rfl, trivial⟩, [], rfl, .inl rfl⟩
          · refine go_ops hΓ 2 rfl ?_
            refine j_cond rfl (fun hb => ?_) (fun hb => ?_)
            · have h45 := cT h40 hb
              refine go hΓ 3 rfl ?_
              refine eo_litT hΓ (enc := eS) [x30] rfl rfl rfl rfl rfl rfl rfl rfl rfl rfl rfl rfl (Nat.le_of_ble_eq_true rfl) ?_
              obtain ⟨y46, hy46, h47⟩ := bi_ok h45
              refine eo_appendT hΓ (enc := eS) hy46 rfl rfl rfl rfl rfl rfl rfl rfl rfl (fun _ => rfl) rfl rfl rfl rfl ?_
              refine go_ops hΓ 8 rfl ?_
              obtain rfl := Option.some.inj h47
              exact ⟨⟨rfl, rfl, rfl, get_eq rfl (w64_succ (Nat.lt_of_lt_of_le hlt hb34)), trivial⟩, [], rfl, .inl rfl⟩
            · have h48 := cF h40 hb
              refine go hΓ 7 rfl ?_
              obtain rfl := Option.some.inj h48
              exact ⟨⟨rfl, rfl, rfl, get_eq rfl (w64_succ (Nat.lt_of_lt_of_le hlt hb34)), trivial⟩, [], rfl, .inl rfl⟩
        · refine go hΓ 6 rfl ?_
          refine j_condF rfl (decide_eq_false (Int.lt_irrefl _)) ?_
          refine go hΓ 4 rfl ?_
          exact ⟨⟨rfl, trivial⟩, [], rfl, .inl rfl⟩
      · refine go hΓ 5 rfl ?_
        refine eo_move 1 0 [.row 9 1 q31.length (q31.flatMap eS), .dead] rfl rfl rfl rfl rfl rfl ?_
        refine go_ops hΓ 3 rfl ?_
        obtain rfl := Option.some.inj h32
        exact fin_objs hΓ [_] (.inr rfl) rfl rfl rfl rfl (.inr ⟨HB.mk rfl, rfl⟩)

theorem c_name_Label {s : Str} {r : Str} (h : m_name_Label s = some r) : Pure Tryd.prog 35 [S s] (S r) := by
  refine Pure.enter (Fr.of 0 _) Tryd.func35 rfl (Fr.of_ok _) rfl rfl ?_
  refine go_in ?_
  unfold m_name_Label at h
  refine go hΓ 7 rfl ?_
  refine eo_nilOwn (t := 0) 5 1 rfl (Nat.le_of_ble_eq_true rfl) ?_
  refine go_ops hΓ 10 rfl ?_
  obtain ⟨q4, hq4, h5⟩ := bi_ok h
  obtain ⟨hb7, h8⟩ := gd_ok hq4
  replace hb7 := of_decide_eq_true hb7
  refine j_cutNZ [(3, .sl 0 q4.length)] [.row 5 1 q4.length (q4.flatMap (eN .u8))] ?_ ?_
  · refine go hΓ 1 rfl ?_
    refine j_rangeG h8 (fun i1 s2 => [(0, S s), (3, .sl 0 s2.length), (8, I (s.length : Int)), (9, I (i1 : Int))]) (fun s2 => [.row 5 1 s2.length (s2.flatMap (eN .u8))]) ⟨⟨rfl, rfl, rfl, rfl, trivial⟩, [], rfl, .inl rfl⟩ (fun i1 s2 y12 hlt hy10 => ?_) (fun hge => ?_)
    · refine go hΓ 6 rfl ?_
      refine j_condT rfl (decide_eq_true hlt) ?_
      obtain ⟨c13, hc13, h14⟩ := bi_ok hy10
      refine go hΓ 14 rfl ?_
      refine eo_o rfl (op_byteZ hΓ hc13 rfl rfl rfl rfl) ?_
      refine go_ops hΓ 9 rfl ?_
      refine o_cut 3 [(0, S s), (3, .sl 0 s2.length), (5, .d (.v (.int .u8 (c13.toNat : Int)))), (8, I (s.length : Int)), (9, I (i1 : Int)), (20, B ((decide (((c13.toNat : Int) : Int) ≥ 65)) && (decide (((c13.toNat : Int) : Int) ≤ 90))))] [.row 5 1 s2.length (s2.flatMap (eN .u8))] ?_ ?_
      · refine eo_gsplit rfl rfl (fun hb => ?_) (fun hb => ?_)
        · refine go_ops hΓ 4 rfl ?_
          exact ⟨⟨rfl, rfl, rfl, rfl, rfl, get_b rfl (and_t hb), trivial⟩, [], rfl, .inl rfl⟩
        · refine go_ops hΓ 4 rfl ?_
          exact ⟨⟨rfl, rfl, rfl, rfl, rfl, get_b rfl (and_f hb), trivial⟩, [], rfl, .inl rfl⟩
      · obtain ⟨q15, hq15, h16⟩ := bi_ok h14
        refine go_ops hΓ 2 rfl ?_
        refine j_cutNZ [(0, S s), (3, .sl 0 s2.length), (5, .d (.v (.int .u8 q15))), (8, I (s.length : Int)), (9, I (i1 : Int))] [.row 5 1 s2.length (s2.flatMap (eN .u8))] ?_ ?_
        · refine j_cond rfl (fun hb => ?_) (fun hb => ?_)
          · have h17 := cT hq15 hb
            refine go hΓ 5 rfl ?_
            obtain rfl := Option.some.inj h17
            exact ⟨⟨rfl, rfl, rfl, rfl, rfl, trivial⟩, [], rfl, .inl rfl⟩
          · have h18 := cF hq15 hb
            refine go hΓ 1 rfl ?_
            obtain rfl := Option.some.inj h18
            exact ⟨⟨rfl, rfl, rfl, rfl, rfl, trivial⟩, [], rfl, .inl rfl⟩
        · obtain ⟨y19, hy19, h20⟩ := bi_ok h16
          refine go hΓ 5 rfl ?_
          refine eo_callP (callable Tryd.func59 rfl rfl) (c_name_isLetter hy19) rfl (Nat.le_of_ble_eq_true rfl) rfl rfl rfl rfl rfl ?_
          refine go_ops hΓ 3 rfl ?_
          refine j_cond rfl (fun hb => ?_) (fun hb => ?_)
          · have h21 := cT h20 hb
            refine go hΓ 3 rfl ?_
            refine eo_litT hΓ (enc := (eN .u8)) [q15] rfl rfl rfl rfl rfl rfl rfl rfl rfl rfl rfl rfl (Nat.le_of_ble_eq_true rfl) ?_
            obtain ⟨y22, hy22, h23⟩ := bi_ok h21
            refine eo_appendT hΓ (enc := (eN .u8)) hy22 rfl rfl rfl rfl rfl rfl rfl rfl rfl (fun _ => rfl) rfl rfl rfl rfl ?_
            refine go_ops hΓ 9 rfl ?_
            obtain rfl := Option.some.inj h23
            exact ⟨⟨rfl, rfl, rfl, get_eq rfl (w64_succ (by omega)), trivial⟩, [], rfl, .inl rfl⟩
          · have h24 := cF h20 hb
            refine go hΓ 6 rfl ?_
            obtain ⟨q25, hq25, h26⟩ := bi_ok h24
            refine o_cut 8 [(0, S s), (3, .sl 0 s2.length), (8, I (s.length : Int)), (9, I (i1 : Int)), (42, B q25)] [.row 5 1 s2.length (s2.flatMap (eN .u8))] ?_ ?_
            · refine eo_gsplit rfl rfl (fun hb => ?_) (fun hb => ?_)
              · have h27 := cT hq25 hb
                refine go_ops hΓ 9 rfl ?_
                obtain rfl := Option.some.inj h27
                exact ⟨⟨rfl, rfl, rfl, rfl, rfl, trivial⟩, [], rfl, .inl rfl⟩
              · have h28 := cF hq25 hb
                obtain ⟨x29, hx29, h30⟩ := bi_ok h28
                have hj31 := getZ_at hx29
                refine go_ops hΓ 4 rfl ?_
                refine eo_guard rfl ?_
                refine eo_o rfl (op_elemRowZ hΓ hx29 rfl rfl rfl rfl rfl rfl) ?_
                refine eo_guard rfl ?_
                refine eo_o rfl (op_loadRowZ hΓ (enc := (eN .u8)) ((wi ((s2.length : Int) - 1)).toNat) 0 hj31 rfl rfl rfl rfl (fun _ => rfl) (g := .d (.v (.int .u8 x29))) rfl) ?_
                refine go_ops hΓ 3 rfl ?_
                obtain rfl := Option.some.inj h30
                exact ⟨⟨rfl, rfl, rfl, rfl, rfl, trivial⟩, [], rfl, .inl rfl⟩
            · refine go_ops hΓ 3 rfl ?_
              refine j_cond rfl (fun hb => ?_) (fun hb => ?_)
              · have h32 := cT h26 hb
                refine go hΓ 2 rfl ?_
                refine eo_litT hΓ (enc := (eN .u8)) [45] rfl rfl rfl rfl rfl rfl rfl rfl rfl rfl rfl rfl (Nat.le_of_ble_eq_true rfl) ?_
                obtain ⟨y33, hy33, h34⟩ := bi_ok h32
                refine eo_appendT hΓ (enc := (eN .u8)) hy33 rfl rfl rfl rfl rfl rfl rfl rfl rfl (fun _ => rfl) rfl rfl rfl rfl ?_
                refine go_ops hΓ 9 rfl ?_
                obtain rfl := Option.some.inj h34
                exact ⟨⟨rfl, rfl, rfl, get_eq rfl (w64_succ (by omega)), trivial⟩, [], rfl, .inl rfl⟩
              · have h35 := cF h26 hb
                refine go hΓ 8 rfl ?_
                obtain rfl := Option.some.inj h35
                exact ⟨⟨rfl, rfl, rfl, get_eq rfl (w64_succ (by omega)), trivial⟩, [], rfl, .inl rfl⟩
    · refine go hΓ 6 rfl ?_
      refine j_condF rfl (decide_eq_false hge) ?_
      refine go hΓ 4 rfl ?_
      exact ⟨⟨rfl, trivial⟩, [], rfl, .inl rfl⟩
  · obtain ⟨z36, hz36, h37⟩ := bi_ok h5
    refine go hΓ 7 rfl ?_
    refine eo_subRowZ hΓ (enc := (eN .u8)) hz36 rfl rfl rfl rfl rfl rfl rfl rfl (fun _ => rfl) rfl (Nat.le_of_ble_eq_true rfl) ?_
    obtain ⟨y38, hy38, h39⟩ := bi_ok h37
    refine eo_o rfl (op_strRowZ hΓ hy38 rfl rfl rfl rfl rfl rfl rfl rfl rfl) ?_
    obtain ⟨y40, hy40, h41⟩ := bi_ok h39
    refine eo_callP (callable Tryd.func61 rfl rfl) (c_strings_Trim hy40) rfl (Nat.le_of_ble_eq_true rfl) rfl rfl rfl rfl rfl ?_
    refine go_ops hΓ 10 rfl ?_
    refine j_cond rfl (fun hb => ?_) (fun hb => ?_)
    · have h42 := cT h41 hb
      refine go hΓ 7 rfl ?_
      obtain rfl := Option.some.inj h42
      exact fin_pure hΓ (.inr rfl) rfl rfl
    · have h43 := cF h41 hb
      refine go hΓ 9 rfl ?_
      obtain rfl := Option.some.inj h43
      exact fin_pure hΓ (.inr rfl) rfl rfl

theorem c_lanelaw1_named {k : Nat} {r : Bool} (h : m_lanelaw1_named k = some r) : Pure Tryd.prog 11 [] (B r) := by
  refine Pure.enter (Fr.of 0 _) Tryd.func11 rfl (Fr.of_ok _) rfl rfl ?_
  refine go_in ?_
  unfold m_lanelaw1_named at h
  obtain ⟨y1, hy1, h2⟩ := bi_ok h
  refine go hΓ 7 rfl ?_
  refine eo_callP (callable Tryd.func35 rfl rfl) (c_name_Label hy1) rfl (Nat.le_of_ble_eq_true rfl) rfl rfl rfl rfl rfl ?_
  refine go_ops hΓ 2 rfl ?_
  obtain ⟨q3, hq3, h4⟩ := bi_ok h2
  refine o_cut 3 [(0, B false), (6, B q3)] [] ?_ ?_
  · refine eo_gsplit rfl rfl (fun hb => ?_) (fun hb => ?_)
    · have h5 := cT hq3 hb
      obtain ⟨y6, hy6, h7⟩ := bi_ok h5
      refine eo_guard rfl ?_
      refine eo_callP (callable Tryd.func8 rfl rfl) (c_name_CheckDomain hy6) rfl (Nat.le_of_ble_eq_true rfl) rfl rfl rfl rfl rfl ?_
      refine go_ops hΓ 3 rfl ?_
      obtain rfl := Option.some.inj h7
      exact ⟨⟨rfl, rfl, trivial⟩, [], rfl, .inl rfl⟩
    · have h8 := cF hq3 hb
      refine go_ops hΓ 4 rfl ?_
      obtain rfl := Option.some.inj h8
      exact ⟨⟨rfl, rfl, trivial⟩, [], rfl, .inl rfl⟩
  · refine go_ops hΓ 4 rfl ?_
    obtain rfl := Option.some.inj h4
    exact fin_pure hΓ (.inr rfl) rfl rfl

theorem c_lanelaw1_ServersSplit {k : Nat} {l : List Int} {r : Bool} (h : m_lanelaw1_ServersSplit k l = some r) : Pure Tryd.prog 4 [.d (Sl (eN .i64) l)] (B r) := by
  refine Pure.enter (Fr.of 0 _) Tryd.func4 rfl (Fr.of_ok _) rfl rfl ?_
  refine go_in ?_
  unfold m_lanelaw1_ServersSplit at h
  refine go hΓ 8 rfl ?_
  refine eo_build hΓ (gs := [.d (Sl (eN .i64) l), I 0]) rfl rfl rfl rfl rfl rfl rfl ?_
  refine eo_box rfl rfl rfl rfl (Nat.le_of_ble_eq_true rfl) ?_
  obtain ⟨y1, hy1, h2⟩ := bi_ok h
  refine go_ops hΓ 6 rfl ?_
  refine eo_callF [0] (.sl 1 y1.1.length) [.box 25 [.d (Sl (eN .i64) y1.2.L), I y1.2.v_at], .row 66 2 y1.1.length (y1.1.flatMap e_api_Split)] (callable Tryd.func14 rfl rfl) (c_lanemake_Stream_Splits hy1) rfl (Nat.le_of_ble_eq_true rfl) rfl rfl rfl rfl rfl rfl rfl rfl rfl rfl ?_
  obtain ⟨y3, hy3, h4⟩ := bi_ok h2
  refine go_ops hΓ 1 rfl ?_
  refine eo_callF [0] (S y3.1) [.box 25 [.d (Sl (eN .i64) y3.2.L), I y3.2.v_at], .row 66 2 y1.1.length (y1.1.flatMap e_api_Split)] (callable Tryd.func5 rfl rfl) (c_lanemake_Stream_Domain hy3) rfl (Nat.le_of_ble_eq_true rfl) rfl rfl rfl rfl rfl rfl rfl rfl rfl rfl ?_
  obtain ⟨y5, hy5, h6⟩ := bi_ok h4
  refine go_ops hΓ 1 rfl ?_
  refine eo_callF [0] (.d (Sl eS y5.1)) [.box 25 [.d (Sl (eN .i64) y5.2.L), I y5.2.v_at], .row 66 2 y1.1.length (y1.1.flatMap e_api_Split)] (callable Tryd.func15 rfl rfl) (c_lanemake_Stream_Search hy5) rfl (Nat.le_of_ble_eq_true rfl) rfl rfl rfl rfl rfl rfl rfl rfl rfl rfl ?_
  refine go_ops hΓ 1 rfl ?_
  refine eo_litT hΓ (enc := (eN .i64)) [0, 1, 2, 15, -1, 16] rfl rfl rfl rfl rfl rfl rfl rfl rfl rfl rfl rfl (Nat.le_of_ble_eq_true rfl) ?_
  obtain ⟨y7, hy7, h8⟩ := bi_ok h6
  refine eo_callF [0] (I y7.1) [.box 25 [.d (Sl (eN .i64) y7.2.L), I y7.2.v_at], .row 66 2 y1.1.length (y1.1.flatMap e_api_Split)] (callable Tryd.func16 rfl rfl) (c_lanemake_Stream_Pick hy7) rfl (Nat.le_of_ble_eq_true rfl) rfl rfl rfl rfl rfl rfl rfl rfl rfl rfl ?_
  obtain ⟨y9, hy9, h10⟩ := bi_ok h8
  refine go_ops hΓ 10 rfl ?_
  refine eo_shr 1 [4, 22, 31] _ [.box 25 [.d (Sl (eN .i64) y7.2.L), I y7.2.v_at], .dead] rfl rfl rfl (Nat.le_of_ble_eq_true rfl) ?_
  refine eo_callP (callable Tryd.func17 rfl rfl) (c_name_Servers hy9) rfl (Nat.le_of_ble_eq_true rfl) rfl rfl rfl rfl rfl ?_
  obtain ⟨y11, hy11, h12⟩ := bi_ok h10
  refine go_ops hΓ 14 rfl ?_
  refine eo_callP (callable Tryd.func18 rfl rfl) (c_name_Names hy11) rfl (Nat.le_of_ble_eq_true rfl) rfl rfl rfl rfl rfl ?_
  obtain ⟨y13, hy13, h14⟩ := bi_ok h12
  refine go_ops hΓ 10 rfl ?_
  refine eo_callP (callable Tryd.func19 rfl rfl) (c_laneref1_SplitsFault hy13) rfl (Nat.le_of_ble_eq_true rfl) rfl rfl rfl rfl rfl ?_
  obtain ⟨y15, hy15, h16⟩ := bi_ok h14
  refine go_ops hΓ 7 rfl ?_
  refine eo_callP (callable Tryd.func20 rfl rfl) (c_name_CheckSplits hy15) rfl (Nat.le_of_ble_eq_true rfl) rfl rfl rfl rfl rfl ?_
  refine go_ops hΓ 4 rfl ?_
  refine j_cond rfl (fun hb => ?_) (fun hb => ?_)
  · have h17 := cT h16 hb
    refine go hΓ 7 rfl ?_
    obtain rfl := Option.some.inj h17
    exact fin_pure hΓ (.inr rfl) rfl rfl
  · have h18 := cF h16 hb
    obtain ⟨y19, hy19, h20⟩ := bi_ok h18
    refine go hΓ 6 rfl ?_
    refine eo_callP (callable Tryd.func9 rfl rfl) (c_laneref1_DomainFault hy19) rfl (Nat.le_of_ble_eq_true rfl) rfl rfl rfl rfl rfl ?_
    refine eo_litT hΓ (enc := (eN .i64)) [y13, y19] rfl rfl rfl rfl rfl rfl rfl rfl rfl rfl rfl rfl (Nat.le_of_ble_eq_true rfl) ?_
    obtain ⟨y21, hy21, h22⟩ := bi_ok h20
    refine eo_callP (callable Tryd.func10 rfl rfl) (c_cmp_Or_api_Errno hy21) rfl (Nat.le_of_ble_eq_true rfl) rfl rfl rfl rfl rfl ?_
    obtain ⟨y23, hy23, h24⟩ := bi_ok h22
    refine go_ops hΓ 2 rfl ?_
    refine eo_callP (callable Tryd.func21 rfl rfl) (c_laneref1_SearchFault hy23) rfl (Nat.le_of_ble_eq_true rfl) rfl rfl rfl rfl rfl ?_
    obtain ⟨y25, hy25, h26⟩ := bi_ok h24
    refine go_ops hΓ 1 rfl ?_
    refine eo_callP (callable Tryd.func9 rfl rfl) (c_laneref1_DomainFault hy25) rfl (Nat.le_of_ble_eq_true rfl) rfl rfl rfl rfl rfl ?_
    refine eo_litT hΓ (enc := (eN .i64)) [y23, y25] rfl rfl rfl rfl rfl rfl rfl rfl rfl rfl rfl rfl (Nat.le_of_ble_eq_true rfl) ?_
    obtain ⟨y27, hy27, h28⟩ := bi_ok h26
    refine eo_callP (callable Tryd.func10 rfl rfl) (c_cmp_Or_api_Errno hy27) rfl (Nat.le_of_ble_eq_true rfl) rfl rfl rfl rfl rfl ?_
    refine go_ops hΓ 11 rfl ?_
    refine o_cut 4 [(4, .d (Sl e_api_Split y1.1)), (5, S y3.1), (6, .d (Sl eS y5.1)), (7, I y7.1), (8, .d (Sl eS y9.1)), (9, B y9.2.1), (11, .d (Sl eS y11.1)), (14, I y21), (15, I y27), (69, B (((y9.2.2 : Int) != y21) || ((y11.2 : Int) != y27)))] [.box 25 [.d (Sl (eN .i64) y7.2.L), I y7.2.v_at], .dead] ?_ ?_
    · refine eo_gsplit rfl rfl (fun hb => ?_) (fun hb => ?_)
      · refine go_ops hΓ 5 rfl ?_
        exact ⟨⟨rfl, rfl, rfl, rfl, rfl, rfl, rfl, rfl, rfl, get_b rfl (or_t hb), trivial⟩, [], rfl, .inl rfl⟩
      · refine go_ops hΓ 5 rfl ?_
        exact ⟨⟨rfl, rfl, rfl, rfl, rfl, rfl, rfl, rfl, rfl, get_b rfl (or_f hb), trivial⟩, [], rfl, .inl rfl⟩
    · refine go_ops hΓ 2 rfl ?_
      refine j_cond rfl (fun hb => ?_) (fun hb => ?_)
      · have h29 := cT h28 hb
        refine go hΓ 7 rfl ?_
        obtain rfl := Option.some.inj h29
        exact fin_pure hΓ (.inr rfl) rfl rfl
      · have h30 := cF h28 hb
        obtain ⟨q31, hq31, h32⟩ := bi_ok h30
        refine go hΓ 9 rfl ?_
        refine j_cutSZ (q := q31) (fun a33 => [(5, S y3.1), (6, .d (Sl eS y5.1)), (7, I y7.1), (11, .d (Sl eS y11.1)), (15, I y27)]) (fun a33 => [.box 25 [.d (Sl (eN .i64) y7.2.L), I y7.2.v_at], .dead]) ?_ ?_
        · refine j_cond rfl (fun hb => ?_) (fun hb => ?_)
          · have h34 := cT hq31 hb
            obtain ⟨y35, hy35, h36⟩ := bi_ok h34
            refine go hΓ 4 rfl ?_
            refine eo_callP (callable Tryd.func22 rfl rfl) (c_laneref1_ServersOf hy35) rfl (Nat.le_of_ble_eq_true rfl) rfl rfl rfl rfl rfl ?_
            obtain ⟨y37, hy37, h38⟩ := bi_ok h36
            refine go_ops hΓ 11 rfl ?_
            refine eo_callP (callable Tryd.func23 rfl rfl) (c_slices_Equal_string_string hy37) rfl (Nat.le_of_ble_eq_true rfl) rfl rfl rfl rfl rfl ?_
            refine go_ops hΓ 2 rfl ?_
            refine o_cut 4 [(5, S y3.1), (6, .d (Sl eS y5.1)), (7, I y7.1), (11, .d (Sl eS y11.1)), (15, I y27), (86, B ((!y37) || (!((y9.2.1 : Bool) == y35.2))))] [.box 25 [.d (Sl (eN .i64) y7.2.L), I y7.2.v_at], .dead] ?_ ?_
            · refine eo_gsplit rfl rfl (fun hb => ?_) (fun hb => ?_)
              · refine go_ops hΓ 5 rfl ?_
                exact ⟨⟨rfl, rfl, rfl, rfl, rfl, get_b rfl (or_t hb), trivial⟩, [], rfl, .inl rfl⟩
              · refine go_ops hΓ 5 rfl ?_
                exact ⟨⟨rfl, rfl, rfl, rfl, rfl, get_b rfl (or_f hb), trivial⟩, [], rfl, .inl rfl⟩
            · refine go_ops hΓ 2 rfl ?_
              refine j_cond rfl (fun hb => ?_) (fun hb => ?_)
              · have h39 := cT h38 hb
                refine go hΓ 6 rfl ?_
                obtain ⟨v40, hv40, h41⟩ := bi_ok h39
                obtain rfl := Option.some.inj h41
                obtain rfl := Option.some.inj h32
                refine go hΓ 2 rfl ?_
                obtain rfl := Option.some.inj hv40
                exact fin_pure hΓ (.inr rfl) rfl rfl
              · have h42 := cF h38 hb
                refine go hΓ 1 rfl ?_
                obtain rfl := Option.some.inj h42
                exact ⟨_, rfl, ⟨⟨rfl, rfl, rfl, rfl, rfl, trivial⟩, [], rfl, .inl rfl⟩⟩
          · have h43 := cF hq31 hb
            refine go hΓ 1 rfl ?_
            obtain rfl := Option.some.inj h43
            exact ⟨_, rfl, ⟨⟨rfl, rfl, rfl, rfl, rfl, trivial⟩, [], rfl, .inl rfl⟩⟩
        · intro a33 ha
          subst ha
          replace h32 := orI_l h32
          refine go hΓ 6 rfl ?_
          obtain ⟨q44, hq44, h45⟩ := bi_ok h32
          refine o_cut 7 [(96, B q44)] [.box 25 [.d (Sl (eN .i64) y7.2.L), I y7.2.v_at], .dead] ?_ ?_
          · refine eo_gsplit rfl rfl (fun hb => ?_) (fun hb => ?_)
            · have h46 := cT hq44 hb
              refine go_ops hΓ 8 rfl ?_
              obtain rfl := Option.some.inj h46
              exact ⟨⟨rfl, trivial⟩, [], rfl, .inl rfl⟩
            · have h47 := cF hq44 hb
              obtain ⟨y48, hy48, h49⟩ := bi_ok h47
              refine go_ops hΓ 4 rfl ?_
              refine eo_guard rfl ?_
              refine eo_callP (callable Tryd.func24 rfl rfl) (Pure.rows (c_laneref1_NamesTried hy48) rfl rfl) rfl (Nat.le_of_ble_eq_true rfl) rfl rfl rfl rfl rfl ?_
              obtain ⟨y50, hy50, h51⟩ := bi_ok h49
              refine eo_guard rfl ?_
              refine eo_callP (callable Tryd.func23 rfl rfl) (c_slices_Equal_string_string hy50) rfl (Nat.le_of_ble_eq_true rfl) rfl rfl rfl rfl rfl ?_
              refine go_ops hΓ 2 rfl ?_
              obtain rfl := Option.some.inj h51
              exact ⟨⟨rfl, trivial⟩, [], rfl, .inl rfl⟩
          · refine go_ops hΓ 1 rfl ?_
            obtain ⟨q52, hq52, h53⟩ := bi_ok h45
            refine o_cut 2 [(99, B q52)] [.box 25 [.d (Sl (eN .i64) y7.2.L), I y7.2.v_at], .dead] ?_ ?_
            · refine eo_gsplit rfl rfl (fun hb => ?_) (fun hb => ?_)
              · have h54 := cT hq52 hb
                obtain ⟨y55, hy55, h56⟩ := bi_ok h54
                refine eo_guard rfl ?_
                refine eo_callP (callable Tryd.func11 rfl rfl) (c_lanelaw1_named hy55) rfl (Nat.le_of_ble_eq_true rfl) rfl rfl rfl rfl rfl ?_
                refine go_ops hΓ 2 rfl ?_
                obtain rfl := Option.some.inj h56
                exact ⟨⟨rfl, trivial⟩, [], rfl, .inl rfl⟩
              · have h57 := cF hq52 hb
                refine go_ops hΓ 3 rfl ?_
                obtain rfl := Option.some.inj h57
                exact ⟨⟨rfl, trivial⟩, [], rfl, .inl rfl⟩
            · refine go_ops hΓ 4 rfl ?_
              obtain rfl := Option.some.inj h53
              exact fin_pure hΓ (.inr rfl) rfl rfl

end Go.Proofs.YtjhoahdlehkfaaaDoor
