/-
  The functions compute their models.
-/
import Derived.Test.YtpgnhnjhpnbelaaGreatDoorXNM
import Derived.Test.YtpgnhnjhpnbelaaGreatDoorGt
import Derived.Test.YtpgnhnjhpnbelaaGreatDoorStr
import Derived.Test.YtpgnhnjhpnbelaaGreatDoorStr2
import Derived.Test.YtpgnhnjhpnbelaaGreatDoorStr3
set_option linter.unusedVariables false
set_option linter.unusedSimpArgs false
set_option maxRecDepth 100000
namespace Go.Proofs.YtpgnhnjhpnbelaaGreatDoor
open Go.Gk
abbrev e_lanemake_Stream (x : T_lanemake_Stream) : List D := [Sl (eN .i64) x.L, .v (.int .i64 x.v_at)]
abbrev e_api_Wish (x : T_api_Wish) : List D := [.v (.string ⟨x.Node.toArray⟩), .v (.string ⟨x.Name.toArray⟩), .v (.int .i64 x.Joined)]
abbrev e_api_Called (x : T_api_Called) : List D := [.v (.string ⟨x.Node.toArray⟩), .v (.string ⟨x.Label.toArray⟩)]
theorem c_lanemake_Below {x : Int} {n : Int} {r : Int} (h : m_lanemake_Below x n = some r) : Pure Tryz.prog 133 [I x, I n] (I r) := by
  refine Pure.enter (Fr.of 0 _) Tryz.func133 rfl (Fr.of_ok _) rfl rfl ?_
  refine go_in ?_
  unfold m_lanemake_Below at h
  refine go hΓ 12 rfl ?_
  refine j_cond rfl (fun hb => ?_) (fun hb => ?_)
  · have h1 := cT h hb
    refine go hΓ 7 rfl ?_
    obtain rfl := Option.some.inj h1
    exact fin_pure hΓ (.inr rfl) rfl rfl
  · have h2 := cF h hb
    obtain ⟨y3, hy3, h4⟩ := bi_ok h2
    refine go hΓ 6 rfl ?_
    refine eo_o rfl (op_remZ hy3 rfl rfl) ?_
    obtain ⟨q5, hq5, h6⟩ := bi_ok h4
    refine go_ops hΓ 10 rfl ?_
    refine j_cutNZ [(0, I q5)] [] ?_ ?_
    · refine j_cond rfl (fun hb => ?_) (fun hb => ?_)
      · have h7 := cT hq5 hb
        refine go hΓ 6 rfl ?_
        obtain rfl := Option.some.inj h7
        exact ⟨⟨rfl, trivial⟩, [], rfl, .inl rfl⟩
      · have h8 := cF hq5 hb
        refine go hΓ 1 rfl ?_
        obtain rfl := Option.some.inj h8
        exact ⟨⟨rfl, trivial⟩, [], rfl, .inl rfl⟩
    · refine go hΓ 8 rfl ?_
      obtain rfl := Option.some.inj h6
      exact fin_pure hΓ (.inr rfl) rfl rfl

theorem c_lanemake_Stream_Next {s : T_lanemake_Stream} {n : Int} {r : Int × T_lanemake_Stream} (h : m_lanemake_Stream_Next s n = some r) : EC Tryz.prog 47 [.ptr 0 0, I n] [.box 25 [.d (Sl (eN .i64) s.L), I s.v_at]] fun g hp' => g = I r.1 ∧ hp' = [.box 25 [.d (Sl (eN .i64) r.2.L), I r.2.v_at]] := by
  refine ec_enter (Fr.of 0 _) Tryz.func47 rfl (Fr.of_ok _) (Nat.le_of_ble_eq_true rfl) fun _ => ?_
  refine go_in ?_
  unfold m_lanemake_Stream_Next at h
  refine go hΓ 14 rfl ?_
  refine eo_store hΓ rfl rfl rfl rfl rfl rfl rfl rfl (Nat.le_of_ble_eq_true rfl) ?_
  refine eo_hp [.box 25 [.d (Sl (eN .i64) s.L), I (wi (s.v_at + 1))]] rfl ?_
  refine go_ops hΓ 13 rfl ?_
  refine j_cond rfl (fun hb => ?_) (fun hb => ?_)
  · have h1 := cT h hb
    obtain ⟨y2, hy2, h3⟩ := bi_ok h1
    refine go hΓ 8 rfl ?_
    refine eo_callP (callable Tryz.func133 rfl rfl) (c_lanemake_Below hy2) rfl (Nat.le_of_ble_eq_true rfl) rfl rfl rfl rfl rfl ?_
    refine go_ops hΓ 5 rfl ?_
    obtain rfl := Option.some.inj h3
    exact fin_objs hΓ [] (.inr rfl) rfl rfl rfl rfl (.inl rfl)
  · have h4 := cF h hb
    refine go hΓ 3 rfl ?_
    refine j_draw hmix (by kernel_rfl) ?_
    obtain ⟨y5, hy5, h6⟩ := bi_ok h4
    refine go hΓ 10 rfl ?_
    refine gl_o rfl (op_remZ hy5 rfl rfl) ?_
    refine go_draw hΓ 4 rfl ?_
    refine j_draw hmix (by kernel_rfl) ?_
    obtain ⟨y7, hy7, h8⟩ := bi_ok h6
    refine go hΓ 10 rfl ?_
    refine gl_o rfl (op_quoZ hy7 rfl rfl) ?_
    obtain ⟨x9, hx9, h10⟩ := bi_ok h8
    refine go_draw hΓ 10 rfl ?_
    refine eo_o rfl (op_elemZ hΓ (enc := (eN .i64)) hx9 rfl rfl rfl rfl rfl (fun _ => rfl)) ?_
    obtain ⟨y11, hy11, h12⟩ := bi_ok h10
    refine go_ops hΓ 1 rfl ?_
    refine eo_callP (callable Tryz.func133 rfl rfl) (c_lanemake_Below hy11) rfl (Nat.le_of_ble_eq_true rfl) rfl rfl rfl rfl rfl ?_
    obtain ⟨y13, hy13, h14⟩ := bi_ok h12
    refine go_ops hΓ 6 rfl ?_
    refine eo_callP (callable Tryz.func133 rfl rfl) (c_lanemake_Below hy13) rfl (Nat.le_of_ble_eq_true rfl) rfl rfl rfl rfl rfl ?_
    refine go_ops hΓ 4 rfl ?_
    obtain rfl := Option.some.inj h14
    exact fin_objs hΓ [] (.inr rfl) rfl rfl rfl rfl (.inl rfl)

theorem c_lanemake_Stream_Flip {s : T_lanemake_Stream} {n : Int} {r : Bool × T_lanemake_Stream} (h : m_lanemake_Stream_Flip s n = some r) : EC Tryz.prog 13 [.ptr 0 0, I n] [.box 25 [.d (Sl (eN .i64) s.L), I s.v_at]] fun g hp' => g = B r.1 ∧ hp' = [.box 25 [.d (Sl (eN .i64) r.2.L), I r.2.v_at]] := by
  refine ec_enter (Fr.of 0 _) Tryz.func13 rfl (Fr.of_ok _) (Nat.le_of_ble_eq_true rfl) fun _ => ?_
  refine go_in ?_
  unfold m_lanemake_Stream_Flip at h
  obtain ⟨y1, hy1, h2⟩ := bi_ok h
  refine go hΓ 9 rfl ?_
  refine eo_callF [0] (I y1.1) [.box 25 [.d (Sl (eN .i64) y1.2.L), I y1.2.v_at]] (callable Tryz.func47 rfl rfl) (c_lanemake_Stream_Next hy1) rfl (Nat.le_of_ble_eq_true rfl) rfl rfl rfl rfl rfl rfl rfl rfl rfl rfl ?_
  refine go_ops hΓ 5 rfl ?_
  obtain rfl := Option.some.inj h2
  exact fin_objs hΓ [] (.inr rfl) rfl rfl rfl rfl (.inl rfl)

theorem c_lanemake_Stream_Some {s : T_lanemake_Stream} {l : List Str} {r : Str × T_lanemake_Stream} (h : m_lanemake_Stream_Some s l = some r) : EC Tryz.prog 26 [.ptr 0 0, .d (Sl eS l)] [.box 25 [.d (Sl (eN .i64) s.L), I s.v_at]] fun g hp' => g = S r.1 ∧ hp' = [.box 25 [.d (Sl (eN .i64) r.2.L), I r.2.v_at]] := by
  refine ec_enter (Fr.of 0 _) Tryz.func26 rfl (Fr.of_ok _) (Nat.le_of_ble_eq_true rfl) fun _ => ?_
  refine go_in ?_
  unfold m_lanemake_Stream_Some at h
  obtain ⟨y1, hy1, h2⟩ := bi_ok h
  refine go hΓ 11 rfl ?_
  refine eo_callF [0] (I y1.1) [.box 25 [.d (Sl (eN .i64) y1.2.L), I y1.2.v_at]] (callable Tryz.func47 rfl rfl) (c_lanemake_Stream_Next hy1) rfl (Nat.le_of_ble_eq_true rfl) rfl rfl rfl rfl rfl rfl rfl rfl rfl rfl ?_
  obtain ⟨x3, hx3, h4⟩ := bi_ok h2
  refine eo_o rfl (op_elemZ hΓ (enc := eS) hx3 rfl rfl rfl rfl rfl (fun _ => rfl)) ?_
  refine go_ops hΓ 5 rfl ?_
  obtain rfl := Option.some.inj h4
  exact fin_objs hΓ [] (.inr rfl) rfl rfl rfl rfl (.inl rfl)

theorem c_lanemake_Stream_Pick {s : T_lanemake_Stream} {l : List Int} {r : Int × T_lanemake_Stream} (h : m_lanemake_Stream_Pick s l = some r) : EC Tryz.prog 14 [.ptr 0 0, .d (Sl (eN .i64) l)] [.box 25 [.d (Sl (eN .i64) s.L), I s.v_at]] fun g hp' => g = I r.1 ∧ hp' = [.box 25 [.d (Sl (eN .i64) r.2.L), I r.2.v_at]] := by
  refine ec_enter (Fr.of 0 _) Tryz.func14 rfl (Fr.of_ok _) (Nat.le_of_ble_eq_true rfl) fun _ => ?_
  refine go_in ?_
  unfold m_lanemake_Stream_Pick at h
  obtain ⟨y1, hy1, h2⟩ := bi_ok h
  refine go hΓ 11 rfl ?_
  refine eo_callF [0] (I y1.1) [.box 25 [.d (Sl (eN .i64) y1.2.L), I y1.2.v_at]] (callable Tryz.func47 rfl rfl) (c_lanemake_Stream_Next hy1) rfl (Nat.le_of_ble_eq_true rfl) rfl rfl rfl rfl rfl rfl rfl rfl rfl rfl ?_
  obtain ⟨x3, hx3, h4⟩ := bi_ok h2
  refine eo_o rfl (op_elemZ hΓ (enc := (eN .i64)) hx3 rfl rfl rfl rfl rfl (fun _ => rfl)) ?_
  refine go_ops hΓ 5 rfl ?_
  obtain rfl := Option.some.inj h4
  exact fin_objs hΓ [] (.inr rfl) rfl rfl rfl rfl (.inl rfl)

theorem c_lanemake_Stream_Wishes {s : T_lanemake_Stream} {r : (List T_api_Wish) × T_lanemake_Stream} (h : m_lanemake_Stream_Wishes s = some r) : EC Tryz.prog 63 [.ptr 0 0] [.box 25 [.d (Sl (eN .i64) s.L), I s.v_at]] fun g hp' => g = .sl 1 r.1.length ∧ hp' = [.box 25 [.d (Sl (eN .i64) r.2.L), I r.2.v_at], .row 107 3 r.1.length (r.1.flatMap e_api_Wish)] := by
  refine ec_enter (Fr.of 0 _) Tryz.func63 rfl (Fr.of_ok _) (Nat.le_of_ble_eq_true rfl) fun _ => ?_
  refine go_in ?_
  unfold m_lanemake_Stream_Wishes at h
  refine go hΓ 7 rfl ?_
  refine eo_nilOwn (t := 0) 107 3 rfl (Nat.le_of_ble_eq_true rfl) ?_
  refine go_ops hΓ 5 rfl ?_
  refine eo_litT hΓ (enc := eS) [[110, 97], [110, 98], [110, 99], [110, 100], [110, 101]] rfl rfl rfl rfl rfl rfl rfl rfl rfl rfl rfl rfl (Nat.le_of_ble_eq_true rfl) ?_
  refine go_ops hΓ 4 rfl ?_
  obtain ⟨q4, hq4, h5⟩ := bi_ok h
  refine j_bound 7 rfl fun hb7 => ?_
  refine j_cutNZ [(0, .ptr 0 0), (3, .sl 1 q4.2.length)] [.box 25 [.d (Sl (eN .i64) q4.1.L), I q4.1.v_at], .row 107 3 q4.2.length (q4.2.flatMap e_api_Wish)] ?_ ?_
  · refine go hΓ 1 rfl ?_
    refine j_rangeF [[110, 97], [110, 98], [110, 99], [110, 100], [110, 101]] hq4 (fun i1 s2 => [(0, .ptr 0 0), (3, .sl 1 s2.2.length), (7, .d (Sl eS [[110, 97], [110, 98], [110, 99], [110, 100], [110, 101]])), (8, I ([[110, 97], [110, 98], [110, 99], [110, 100], [110, 101]].length : Int)), (9, I (i1 : Int))]) (fun s2 => [.box 25 [.d (Sl (eN .i64) s2.1.L), I s2.1.v_at], .row 107 3 s2.2.length (s2.2.flatMap e_api_Wish)]) ⟨⟨rfl, rfl, rfl, rfl, rfl, trivial⟩, [], rfl, .inl rfl⟩ (fun i1 x3 s2 y11 hx8 hlt hy9 => ?_) (?_)
    · refine go hΓ 6 rfl ?_
      refine j_condT rfl (decide_eq_true (Int.ofNat_lt.2 hlt)) ?_
      refine go hΓ 6 rfl ?_
      refine eo_o rfl (op_elemZ hΓ (enc := eS) (getZ_nat hx8) rfl rfl rfl rfl rfl (fun _ => rfl)) ?_
      obtain ⟨y12, hy12, h13⟩ := bi_ok hy9
      refine go_ops hΓ 7 rfl ?_
      refine eo_callF [0] (B y12.1) [.box 25 [.d (Sl (eN .i64) y12.2.L), I y12.2.v_at], .row 107 3 s2.2.length (s2.2.flatMap e_api_Wish)] (callable Tryz.func13 rfl rfl) (c_lanemake_Stream_Flip hy12) rfl (Nat.le_of_ble_eq_true rfl) rfl rfl rfl rfl rfl rfl rfl rfl rfl rfl ?_
      refine go_ops hΓ 3 rfl ?_
      refine j_cond rfl (fun hb => ?_) (fun hb => ?_)
      · have h14 := cT h13 hb
        obtain ⟨y15, hy15, h16⟩ := bi_ok h14
        refine go hΓ 4 rfl ?_
        refine eo_callP (callable Tryz.func83 rfl rfl) (c_strings_Repeat hy15) rfl (Nat.le_of_ble_eq_true rfl) rfl rfl rfl rfl rfl ?_
        obtain ⟨y17, hy17, h18⟩ := bi_ok h16
        refine eo_o rfl (op_catZ hy17 rfl rfl) ?_
        refine eo_litT hΓ (enc := eS) [[98, 111, 120], [98, 111, 120], [66, 111, 120], [98, 111, 120, 32, 49], [77, 121, 32, 77, 97, 99, 33], [], [45, 45], y17, [98, 45], [195, 169]] rfl rfl rfl rfl rfl rfl rfl rfl rfl rfl rfl rfl (Nat.le_of_ble_eq_true rfl) ?_
        obtain ⟨y19, hy19, h20⟩ := bi_ok h18
        refine eo_callF [0] (S y19.1) [.box 25 [.d (Sl (eN .i64) y19.2.L), I y19.2.v_at], .row 107 3 s2.2.length (s2.2.flatMap e_api_Wish)] (callable Tryz.func26 rfl rfl) (c_lanemake_Stream_Some hy19) rfl (Nat.le_of_ble_eq_true rfl) rfl rfl rfl rfl rfl rfl rfl rfl rfl rfl ?_
        refine go_ops hΓ 1 rfl ?_
        refine eo_litT hΓ (enc := (eN .i64)) [0, 1, 1, 2] rfl rfl rfl rfl rfl rfl rfl rfl rfl rfl rfl rfl (Nat.le_of_ble_eq_true rfl) ?_
        obtain ⟨y21, hy21, h22⟩ := bi_ok h20
        refine eo_callF [0] (I y21.1) [.box 25 [.d (Sl (eN .i64) y21.2.L), I y21.2.v_at], .row 107 3 s2.2.length (s2.2.flatMap e_api_Wish)] (callable Tryz.func14 rfl rfl) (c_lanemake_Stream_Pick hy21) rfl (Nat.le_of_ble_eq_true rfl) rfl rfl rfl rfl rfl rfl rfl rfl rfl rfl ?_
        refine eo_build hΓ (gs := [S x3, S y19.1, I y21.1]) rfl rfl rfl rfl rfl rfl rfl ?_
        refine eo_litT hΓ (enc := e_api_Wish) [(⟨x3, y19.1, y21.1⟩ : T_api_Wish)] rfl rfl rfl rfl rfl rfl rfl rfl rfl rfl rfl rfl (Nat.le_of_ble_eq_true rfl) ?_
        obtain ⟨y23, hy23, h24⟩ := bi_ok h22
        refine eo_appendT hΓ (enc := e_api_Wish) hy23 rfl rfl rfl rfl rfl rfl rfl rfl rfl (fun _ => rfl) rfl rfl rfl rfl ?_
        refine go_ops hΓ 8 rfl ?_
        obtain rfl := Option.some.inj h24
        exact ⟨⟨rfl, rfl, rfl, rfl, get_eq rfl (w64_succ (Nat.lt_of_lt_of_le hlt hb7)), trivial⟩, [], rfl, .inl rfl⟩
      · have h25 := cF h13 hb
        refine go hΓ 7 rfl ?_
        obtain rfl := Option.some.inj h25
        exact ⟨⟨rfl, rfl, rfl, rfl, get_eq rfl (w64_succ (Nat.lt_of_lt_of_le hlt hb7)), trivial⟩, [], rfl, .inl rfl⟩
    · refine go hΓ 6 rfl ?_
      refine j_condF rfl (decide_eq_false (Int.lt_irrefl _)) ?_
      refine go hΓ 4 rfl ?_
      exact ⟨⟨rfl, rfl, trivial⟩, [], rfl, .inl rfl⟩
  · refine go hΓ 8 rfl ?_
    obtain ⟨q26, hq26, h27⟩ := bi_ok h5
    refine o_cut 3 [(0, .ptr 0 0), (3, .sl 1 q4.2.length), (36, B q26.2)] [.box 25 [.d (Sl (eN .i64) q26.1.L), I q26.1.v_at], .row 107 3 q4.2.length (q4.2.flatMap e_api_Wish)] ?_ ?_
    · refine eo_gsplit rfl rfl (fun hb => ?_) (fun hb => ?_)
      · have h28 := cT hq26 hb
        obtain ⟨y29, hy29, h30⟩ := bi_ok h28
        refine go_ops hΓ 1 rfl ?_
        refine eo_guard rfl ?_
        refine eo_callF [0] (B y29.1) [.box 25 [.d (Sl (eN .i64) y29.2.L), I y29.2.v_at], .row 107 3 q4.2.length (q4.2.flatMap e_api_Wish)] (callable Tryz.func13 rfl rfl) (c_lanemake_Stream_Flip hy29) rfl (Nat.le_of_ble_eq_true rfl) rfl rfl rfl rfl rfl rfl rfl rfl rfl rfl ?_
        refine go_ops hΓ 2 rfl ?_
        obtain rfl := Option.some.inj h30
        exact ⟨⟨rfl, rfl, rfl, trivial⟩, [], rfl, .inl rfl⟩
      · have h31 := cF hq26 hb
        refine go_ops hΓ 4 rfl ?_
        obtain rfl := Option.some.inj h31
        exact ⟨⟨rfl, rfl, rfl, trivial⟩, [], rfl, .inl rfl⟩
    · obtain ⟨q32, hq32, h33⟩ := bi_ok h27
      refine go_ops hΓ 2 rfl ?_
      refine j_cutNZ [(3, .sl 1 q32.2.length)] [.box 25 [.d (Sl (eN .i64) q32.1.L), I q32.1.v_at], .row 107 3 q32.2.length (q32.2.flatMap e_api_Wish)] ?_ ?_
      · refine j_cond rfl (fun hb => ?_) (fun hb => ?_)
        · have h34 := cT hq32 hb
          obtain ⟨y35, hy35, h36⟩ := bi_ok h34
          refine go hΓ 6 rfl ?_
          refine eo_callF [0] (I y35.1) [.box 25 [.d (Sl (eN .i64) y35.2.L), I y35.2.v_at], .row 107 3 q4.2.length (q4.2.flatMap e_api_Wish)] (callable Tryz.func47 rfl rfl) (c_lanemake_Stream_Next hy35) rfl (Nat.le_of_ble_eq_true rfl) rfl rfl rfl rfl rfl rfl rfl rfl rfl rfl ?_
          obtain ⟨x37, hx37, h38⟩ := bi_ok h36
          have hj39 := getZ_at hx37
          refine eo_o rfl (op_elemRowZ hΓ hx37 rfl rfl rfl rfl rfl rfl) ?_
          refine go_ops hΓ 11 rfl ?_
          refine eo_o rfl (op_loadRowZ hΓ (enc := e_api_Wish) y35.1.toNat 0 hj39 rfl rfl rfl rfl (fun _ => rfl) (g := S x37.Node) rfl) ?_
          refine eo_litT hΓ (enc := eS) [[], [110, 97], x37.Node] rfl rfl rfl rfl rfl rfl rfl rfl rfl rfl rfl rfl (Nat.le_of_ble_eq_true rfl) ?_
          obtain ⟨y40, hy40, h41⟩ := bi_ok h38
          refine eo_callF [0] (S y40.1) [.box 25 [.d (Sl (eN .i64) y40.2.L), I y40.2.v_at], .row 107 3 q4.2.length (q4.2.flatMap e_api_Wish)] (callable Tryz.func26 rfl rfl) (c_lanemake_Stream_Some hy40) rfl (Nat.le_of_ble_eq_true rfl) rfl rfl rfl rfl rfl rfl rfl rfl rfl rfl ?_
          obtain ⟨y42, hy42, h43⟩ := bi_ok h41
          refine go_ops hΓ 1 rfl ?_
          refine eo_callP (callable Tryz.func83 rfl rfl) (c_strings_Repeat hy42) rfl (Nat.le_of_ble_eq_true rfl) rfl rfl rfl rfl rfl ?_
          refine eo_litT hΓ (enc := eS) [y42, [120]] rfl rfl rfl rfl rfl rfl rfl rfl rfl rfl rfl rfl (Nat.le_of_ble_eq_true rfl) ?_
          obtain ⟨y44, hy44, h45⟩ := bi_ok h43
          refine eo_callF [0] (S y44.1) [.box 25 [.d (Sl (eN .i64) y44.2.L), I y44.2.v_at], .row 107 3 q4.2.length (q4.2.flatMap e_api_Wish)] (callable Tryz.func26 rfl rfl) (c_lanemake_Stream_Some hy44) rfl (Nat.le_of_ble_eq_true rfl) rfl rfl rfl rfl rfl rfl rfl rfl rfl rfl ?_
          refine go_ops hΓ 1 rfl ?_
          refine eo_litT hΓ (enc := (eN .i64)) [-1, 0, 345686400] rfl rfl rfl rfl rfl rfl rfl rfl rfl rfl rfl rfl (Nat.le_of_ble_eq_true rfl) ?_
          obtain ⟨y46, hy46, h47⟩ := bi_ok h45
          refine eo_callF [0] (I y46.1) [.box 25 [.d (Sl (eN .i64) y46.2.L), I y46.2.v_at], .row 107 3 q4.2.length (q4.2.flatMap e_api_Wish)] (callable Tryz.func14 rfl rfl) (c_lanemake_Stream_Pick hy46) rfl (Nat.le_of_ble_eq_true rfl) rfl rfl rfl rfl rfl rfl rfl rfl rfl rfl ?_
          refine go_ops hΓ 2 rfl ?_
          refine eo_storeRowZ hΓ (enc := e_api_Wish) (z' := (⟨y40.1, x37.Name, x37.Joined⟩ : T_api_Wish)) y35.1.toNat 0 hj39 rfl rfl rfl rfl (fun _ => rfl) rfl rfl rfl rfl rfl rfl (Nat.le_of_ble_eq_true rfl) ?_
          refine eo_hp [.box 25 [.d (Sl (eN .i64) y46.2.L), I y46.2.v_at], .row 107 3 (q4.2.set y35.1.toNat (⟨y40.1, x37.Name, x37.Joined⟩ : T_api_Wish)).length ((q4.2.set y35.1.toNat (⟨y40.1, x37.Name, x37.Joined⟩ : T_api_Wish)).flatMap e_api_Wish)] rfl ?_
          have hj48 := set_at (y := (⟨y40.1, x37.Name, x37.Joined⟩ : T_api_Wish)) hj39
          refine eo_relen 3 (n' := (q4.2.set y35.1.toNat (⟨y40.1, x37.Name, x37.Joined⟩ : T_api_Wish)).length) rfl List.length_set.symm ?_
          refine go_ops hΓ 2 rfl ?_
          refine eo_storeRowZ hΓ (enc := e_api_Wish) (z' := (⟨(⟨y40.1, x37.Name, x37.Joined⟩ : T_api_Wish).Node, y44.1, (⟨y40.1, x37.Name, x37.Joined⟩ : T_api_Wish).Joined⟩ : T_api_Wish)) y35.1.toNat 1 hj48 rfl rfl rfl rfl (fun _ => rfl) rfl rfl rfl rfl rfl rfl (Nat.le_of_ble_eq_true rfl) ?_
          refine eo_hp [.box 25 [.d (Sl (eN .i64) y46.2.L), I y46.2.v_at], .row 107 3 ((q4.2.set y35.1.toNat (⟨y40.1, x37.Name, x37.Joined⟩ : T_api_Wish)).set y35.1.toNat (⟨(⟨y40.1, x37.Name, x37.Joined⟩ : T_api_Wish).Node, y44.1, (⟨y40.1, x37.Name, x37.Joined⟩ : T_api_Wish).Joined⟩ : T_api_Wish)).length (((q4.2.set y35.1.toNat (⟨y40.1, x37.Name, x37.Joined⟩ : T_api_Wish)).set y35.1.toNat (⟨(⟨y40.1, x37.Name, x37.Joined⟩ : T_api_Wish).Node, y44.1, (⟨y40.1, x37.Name, x37.Joined⟩ : T_api_Wish).Joined⟩ : T_api_Wish)).flatMap e_api_Wish)] rfl ?_
          have hj49 := set_at (y := (⟨(⟨y40.1, x37.Name, x37.Joined⟩ : T_api_Wish).Node, y44.1, (⟨y40.1, x37.Name, x37.Joined⟩ : T_api_Wish).Joined⟩ : T_api_Wish)) hj48
          refine eo_relen 3 (n' := ((q4.2.set y35.1.toNat (⟨y40.1, x37.Name, x37.Joined⟩ : T_api_Wish)).set y35.1.toNat (⟨(⟨y40.1, x37.Name, x37.Joined⟩ : T_api_Wish).Node, y44.1, (⟨y40.1, x37.Name, x37.Joined⟩ : T_api_Wish).Joined⟩ : T_api_Wish)).length) rfl List.length_set.symm ?_
          refine go_ops hΓ 2 rfl ?_
          refine eo_storeRowZ hΓ (enc := e_api_Wish) (z' := (⟨(⟨(⟨y40.1, x37.Name, x37.Joined⟩ : T_api_Wish).Node, y44.1, (⟨y40.1, x37.Name, x37.Joined⟩ : T_api_Wish).Joined⟩ : T_api_Wish).Node, (⟨(⟨y40.1, x37.Name, x37.Joined⟩ : T_api_Wish).Node, y44.1, (⟨y40.1, x37.Name, x37.Joined⟩ : T_api_Wish).Joined⟩ : T_api_Wish).Name, y46.1⟩ : T_api_Wish)) y35.1.toNat 2 hj49 rfl rfl rfl rfl (fun _ => rfl) rfl rfl rfl rfl rfl rfl (Nat.le_of_ble_eq_true rfl) ?_
          refine eo_hp [.box 25 [.d (Sl (eN .i64) y46.2.L), I y46.2.v_at], .row 107 3 (((q4.2.set y35.1.toNat (⟨y40.1, x37.Name, x37.Joined⟩ : T_api_Wish)).set y35.1.toNat (⟨(⟨y40.1, x37.Name, x37.Joined⟩ : T_api_Wish).Node, y44.1, (⟨y40.1, x37.Name, x37.Joined⟩ : T_api_Wish).Joined⟩ : T_api_Wish)).set y35.1.toNat (⟨(⟨(⟨y40.1, x37.Name, x37.Joined⟩ : T_api_Wish).Node, y44.1, (⟨y40.1, x37.Name, x37.Joined⟩ : T_api_Wish).Joined⟩ : T_api_Wish).Node, (⟨(⟨y40.1, x37.Name, x37.Joined⟩ : T_api_Wish).Node, y44.1, (⟨y40.1, x37.Name, x37.Joined⟩ : T_api_Wish).Joined⟩ : T_api_Wish).Name, y46.1⟩ : T_api_Wish)).length ((((q4.2.set y35.1.toNat (⟨y40.1, x37.Name, x37.Joined⟩ : T_api_Wish)).set y35.1.toNat (⟨(⟨y40.1, x37.Name, x37.Joined⟩ : T_api_Wish).Node, y44.1, (⟨y40.1, x37.Name, x37.Joined⟩ : T_api_Wish).Joined⟩ : T_api_Wish)).set y35.1.toNat (⟨(⟨(⟨y40.1, x37.Name, x37.Joined⟩ : T_api_Wish).Node, y44.1, (⟨y40.1, x37.Name, x37.Joined⟩ : T_api_Wish).Joined⟩ : T_api_Wish).Node, (⟨(⟨y40.1, x37.Name, x37.Joined⟩ : T_api_Wish).Node, y44.1, (⟨y40.1, x37.Name, x37.Joined⟩ : T_api_Wish).Joined⟩ : T_api_Wish).Name, y46.1⟩ : T_api_Wish)).flatMap e_api_Wish)] rfl ?_
          refine eo_relen 3 (n' := (((q4.2.set y35.1.toNat (⟨y40.1, x37.Name, x37.Joined⟩ : T_api_Wish)).set y35.1.toNat (⟨(⟨y40.1, x37.Name, x37.Joined⟩ : T_api_Wish).Node, y44.1, (⟨y40.1, x37.Name, x37.Joined⟩ : T_api_Wish).Joined⟩ : T_api_Wish)).set y35.1.toNat (⟨(⟨(⟨y40.1, x37.Name, x37.Joined⟩ : T_api_Wish).Node, y44.1, (⟨y40.1, x37.Name, x37.Joined⟩ : T_api_Wish).Joined⟩ : T_api_Wish).Node, (⟨(⟨y40.1, x37.Name, x37.Joined⟩ : T_api_Wish).Node, y44.1, (⟨y40.1, x37.Name, x37.Joined⟩ : T_api_Wish).Joined⟩ : T_api_Wish).Name, y46.1⟩ : T_api_Wish)).length) rfl List.length_set.symm ?_
          refine go_ops hΓ 1 rfl ?_
          obtain rfl := Option.some.inj h47
          exact ⟨⟨rfl, trivial⟩, [], rfl, .inl rfl⟩
        · have h50 := cF hq32 hb
          refine go hΓ 1 rfl ?_
          obtain rfl := Option.some.inj h50
          exact ⟨⟨rfl, trivial⟩, [], rfl, .inl rfl⟩
      · refine go hΓ 8 rfl ?_
        obtain rfl := Option.some.inj h33
        exact fin_objs hΓ [] (.inr rfl) rfl rfl rfl rfl (.inl rfl)

theorem c_kit_IsKey {k : Nat} {s : Str} {r : Bool} (h : m_kit_IsKey k s = some r) : Pure Tryz.prog 163 [S s] (B r) := by
  refine Pure.enter (Fr.of 0 _) Tryz.func163 rfl (Fr.of_ok _) rfl rfl ?_
  refine go_in ?_
  unfold m_kit_IsKey at h
  refine go hΓ 11 rfl ?_
  obtain ⟨q4, hq4, h5⟩ := bi_ok h
  refine j_cutEZ (R := fun a6 => q4 = .inl a6) (fun a6 => [(0, S s)]) (fun a6 => []) ?_ ?_
  · refine go hΓ 1 rfl ?_
    refine j_loop hq4 (fun s2 => [(0, S s), (3, I s2)]) (fun s2 => []) ⟨⟨rfl, rfl, trivial⟩, [], rfl, .inl rfl⟩ (fun s2 y10 hy8 hout9 => ?_)
    refine go hΓ 9 rfl ?_
    refine j_cond rfl (fun hb => ?_) (fun hb => ?_)
    · have h11 := cT hy8 hb
      obtain ⟨c12, hc12, h13⟩ := bi_ok h11
      refine go hΓ 8 rfl ?_
      refine eo_o rfl (op_byteZ hΓ hc12 rfl rfl rfl rfl) ?_
      refine go_ops hΓ 8 rfl ?_
      refine o_cut 3 [(0, S s), (3, I s2), (4, .d (.v (.int .u8 (c12.toNat : Int)))), (19, B ((decide (((c12.toNat : Int) : Int) ≥ 97)) && (decide (((c12.toNat : Int) : Int) ≤ 122))))] [] ?_ ?_
      · refine eo_gsplit rfl rfl (fun hb => ?_) (fun hb => ?_)
        · refine go_ops hΓ 4 rfl ?_
          exact ⟨⟨rfl, rfl, rfl, get_b rfl (and_t hb), trivial⟩, [], rfl, .inl rfl⟩
        · refine go_ops hΓ 4 rfl ?_
          exact ⟨⟨rfl, rfl, rfl, get_b rfl (and_f hb), trivial⟩, [], rfl, .inl rfl⟩
      · refine go_ops hΓ 1 rfl ?_
        refine o_cut 19 [(0, S s), (3, I s2), (39, B (((decide (((c12.toNat : Int) : Int) ≥ 97)) && (decide (((c12.toNat : Int) : Int) ≤ 122))) || ((decide ((s2 : Int) > 0)) && ((((decide (((c12.toNat : Int) : Int) ≥ 48)) && (decide (((c12.toNat : Int) : Int) ≤ 57))) || (((c12.toNat : Int) : Int) == 45)) || (((c12.toNat : Int) : Int) == 95)))))] [] ?_ ?_
        · refine eo_gsplit rfl rfl (fun hb => ?_) (fun hb => ?_)
          · refine go_ops hΓ 20 rfl ?_
            exact ⟨⟨rfl, rfl, get_b rfl (or_t hb), trivial⟩, [], rfl, .inl rfl⟩
          · refine go_ops hΓ 3 rfl ?_
            refine o_cut 15 [(0, S s), (3, I s2), (20, B false), (38, B ((decide ((s2 : Int) > 0)) && ((((decide (((c12.toNat : Int) : Int) ≥ 48)) && (decide (((c12.toNat : Int) : Int) ≤ 57))) || (((c12.toNat : Int) : Int) == 45)) || (((c12.toNat : Int) : Int) == 95))))] [] ?_ ?_
            · refine eo_gsplit rfl rfl (fun hb => ?_) (fun hb => ?_)
              · refine go_ops hΓ 3 rfl ?_
                refine o_cut 3 [(0, S s), (3, I s2), (4, .d (.v (.int .u8 (c12.toNat : Int)))), (20, B false), (23, B true), (29, B ((decide (((c12.toNat : Int) : Int) ≥ 48)) && (decide (((c12.toNat : Int) : Int) ≤ 57))))] [] ?_ ?_
                · refine eo_gsplit rfl rfl (fun hb => ?_) (fun hb => ?_)
                  · refine go_ops hΓ 4 rfl ?_
                    exact ⟨⟨rfl, rfl, rfl, rfl, rfl, get_b rfl (and_t hb), trivial⟩, [], rfl, .inl rfl⟩
                  · refine go_ops hΓ 4 rfl ?_
                    exact ⟨⟨rfl, rfl, rfl, rfl, rfl, get_b rfl (and_f hb), trivial⟩, [], rfl, .inl rfl⟩
                · refine go_ops hΓ 1 rfl ?_
                  refine o_cut 3 [(0, S s), (3, I s2), (4, .d (.v (.int .u8 (c12.toNat : Int)))), (20, B false), (23, B true), (33, B (((decide (((c12.toNat : Int) : Int) ≥ 48)) && (decide (((c12.toNat : Int) : Int) ≤ 57))) || (((c12.toNat : Int) : Int) == 45)))] [] ?_ ?_
                  · refine eo_gsplit rfl rfl (fun hb => ?_) (fun hb => ?_)
                    · refine go_ops hΓ 4 rfl ?_
                      exact ⟨⟨rfl, rfl, rfl, rfl, rfl, get_b rfl (or_t hb), trivial⟩, [], rfl, .inl rfl⟩
                    · refine go_ops hΓ 4 rfl ?_
                      exact ⟨⟨rfl, rfl, rfl, rfl, rfl, get_b rfl (or_f hb), trivial⟩, [], rfl, .inl rfl⟩
                  · refine go_ops hΓ 1 rfl ?_
                    refine o_cut 3 [(0, S s), (3, I s2), (20, B false), (23, B true), (37, B ((((decide (((c12.toNat : Int) : Int) ≥ 48)) && (decide (((c12.toNat : Int) : Int) ≤ 57))) || (((c12.toNat : Int) : Int) == 45)) || (((c12.toNat : Int) : Int) == 95)))] [] ?_ ?_
                    · refine eo_gsplit rfl rfl (fun hb => ?_) (fun hb => ?_)
                      · refine go_ops hΓ 4 rfl ?_
                        exact ⟨⟨rfl, rfl, rfl, rfl, get_b rfl (or_t hb), trivial⟩, [], rfl, .inl rfl⟩
                      · refine go_ops hΓ 4 rfl ?_
                        exact ⟨⟨rfl, rfl, rfl, rfl, get_b rfl (or_f hb), trivial⟩, [], rfl, .inl rfl⟩
                    · refine go_ops hΓ 2 rfl ?_
                      exact ⟨⟨rfl, rfl, rfl, get_b rfl (and_t hb), trivial⟩, [], rfl, .inl rfl⟩
              · refine go_ops hΓ 16 rfl ?_
                exact ⟨⟨rfl, rfl, rfl, get_b rfl (and_f hb), trivial⟩, [], rfl, .inl rfl⟩
            · refine go_ops hΓ 2 rfl ?_
              exact ⟨⟨rfl, rfl, get_b rfl (or_f hb), trivial⟩, [], rfl, .inl rfl⟩
        · refine go_ops hΓ 3 rfl ?_
          refine j_cond rfl (fun hb => ?_) (fun hb => ?_)
          · have h14 := cT h13 hb
            refine go hΓ 8 rfl ?_
            obtain ⟨v15, hv15, h16⟩ := bi_ok h14
            obtain rfl := Option.some.inj h16
            obtain rfl := hout9 _ rfl
            obtain rfl := Option.some.inj h5
            refine go hΓ 4 rfl ?_
            obtain rfl := Option.some.inj hv15
            exact fin_pure hΓ (.inr rfl) rfl rfl
          · have h17 := cF h13 hb
            refine go hΓ 8 rfl ?_
            obtain rfl := Option.some.inj h17
            exact ⟨_, rfl, ⟨⟨rfl, rfl, trivial⟩, [], rfl, .inl rfl⟩⟩
    · have h18 := cF hy8 hb
      refine go hΓ 4 rfl ?_
      obtain rfl := Option.some.inj h18
      obtain rfl := hout9 _ rfl
      exact ⟨_, rfl, ⟨⟨rfl, trivial⟩, [], rfl, .inl rfl⟩⟩
  · intro a6 ha
    subst ha
    replace h5 := orI_l h5
    refine go hΓ 6 rfl ?_
    refine o_cut 4 [(47, B ((!((s : Str) == [])) && (decide (((s.length : Int) : Int) ≤ 40))))] [] ?_ ?_
    · refine eo_gsplit rfl rfl (fun hb => ?_) (fun hb => ?_)
      · refine go_ops hΓ 5 rfl ?_
        exact ⟨⟨get_b rfl (and_t hb), trivial⟩, [], rfl, .inl rfl⟩
      · refine go_ops hΓ 5 rfl ?_
        exact ⟨⟨get_b rfl (and_f hb), trivial⟩, [], rfl, .inl rfl⟩
    · refine go_ops hΓ 4 rfl ?_
      obtain rfl := Option.some.inj h5
      exact fin_pure hΓ (.inr rfl) rfl rfl

theorem c_kit_IsMoment {n : Int} {r : Bool} (h : m_kit_IsMoment n = some r) : Pure Tryz.prog 243 [I n] (B r) := by
  refine Pure.enter (Fr.of 0 _) Tryz.func243 rfl (Fr.of_ok _) rfl rfl ?_
  refine go_in ?_
  unfold m_kit_IsMoment at h
  refine go hΓ 10 rfl ?_
  refine o_cut 3 [(2, B false), (8, B ((decide ((n : Int) ≥ 0)) && (decide ((n : Int) < 345686400))))] [] ?_ ?_
  · refine eo_gsplit rfl rfl (fun hb => ?_) (fun hb => ?_)
    · refine go_ops hΓ 4 rfl ?_
      exact ⟨⟨rfl, get_b rfl (and_t hb), trivial⟩, [], rfl, .inl rfl⟩
    · refine go_ops hΓ 4 rfl ?_
      exact ⟨⟨rfl, get_b rfl (and_f hb), trivial⟩, [], rfl, .inl rfl⟩
  · refine go_ops hΓ 4 rfl ?_
    obtain rfl := Option.some.inj h
    exact fin_pure hΓ (.inr rfl) rfl rfl

theorem c_name_wishesFault {k : Nat} {l : List T_api_Wish} {r : Int} (h : m_name_wishesFault k l = some r) : Pure Tryz.prog 168 [.d (Sl e_api_Wish l)] (I r) := by
  refine Pure.enter (Fr.of 0 _) Tryz.func168 rfl (Fr.of_ok _) rfl rfl ?_
  refine go_in ?_
  unfold m_name_wishesFault at h
  refine go hΓ 13 rfl ?_
  refine j_cond rfl (fun hb => ?_) (fun hb => ?_)
  · have h1 := cT h hb
    refine go hΓ 7 rfl ?_
    obtain rfl := Option.some.inj h1
    exact fin_pure hΓ (.inr rfl) rfl rfl
  · have h2 := cF h hb
    refine go hΓ 10 rfl ?_
    obtain ⟨q6, hq6, h7⟩ := bi_ok h2
    refine j_bound 0 rfl fun hb9 => ?_
    refine j_cutEZ (R := fun a8 => q6 = .go a8) (fun a8 => []) (fun a8 => []) ?_ ?_
    · refine go hΓ 1 rfl ?_
      refine j_range l hq6 (fun i3 s4 => [(0, .d (Sl e_api_Wish l)), (8, .d (Sl e_api_Wish l)), (9, I (l.length : Int)), (10, I (i3 : Int))]) (fun s4 => []) ⟨⟨rfl, rfl, rfl, rfl, trivial⟩, [], rfl, .inl rfl⟩ (fun i3 x5 s4 y13 hx10 hlt hy11 hout12 => ?_) (fun s4 hgo => ?_)
      · refine go hΓ 6 rfl ?_
        refine j_condT rfl (decide_eq_true (Int.ofNat_lt.2 hlt)) ?_
        refine go hΓ 7 rfl ?_
        refine eo_o rfl (op_elemZ hΓ (enc := e_api_Wish) (getZ_nat hx10) rfl rfl rfl rfl rfl (fun _ => rfl)) ?_
        refine go_ops hΓ 1 rfl ?_
        refine eo_alloc hΓ rfl rfl rfl (Nat.le_of_ble_eq_true rfl) ?_
        refine go_ops hΓ 1 rfl ?_
        refine eo_store hΓ rfl rfl rfl rfl rfl rfl rfl rfl (Nat.le_of_ble_eq_true rfl) ?_
        refine eo_hp [.box 107 [S x5.Node, S x5.Name, I x5.Joined]] rfl ?_
        obtain ⟨y14, hy14, h15⟩ := bi_ok hy11
        refine go_ops hΓ 7 rfl ?_
        refine eo_callP (callable Tryz.func163 rfl rfl) (c_kit_IsKey hy14) rfl (Nat.le_of_ble_eq_true rfl) rfl rfl rfl rfl rfl ?_
        refine go_ops hΓ 4 rfl ?_
        refine j_cond rfl (fun hb => ?_) (fun hb => ?_)
        · have h16 := cT h15 hb
          refine go hΓ 9 rfl ?_
          obtain ⟨v17, hv17, h18⟩ := bi_ok h16
          obtain rfl := Option.some.inj h18
          obtain rfl := hout12 _ rfl
          obtain rfl := Option.some.inj h7
          refine go hΓ 4 rfl ?_
          obtain rfl := Option.some.inj hv17
          exact fin_pure hΓ (.inr rfl) rfl rfl
        · have h19 := cF h15 hb
          obtain ⟨q20, hq20, h21⟩ := bi_ok h19
          refine go hΓ 1 rfl ?_
          refine j_cutNZ [(0, .d (Sl e_api_Wish l)), (4, .ptr 0 0), (8, .d (Sl e_api_Wish l)), (9, I (l.length : Int)), (10, I (i3 : Int)), (20, B q20)] [.box 107 [S x5.Node, S x5.Name, I x5.Joined]] ?_ ?_
          · refine j_draw hmix (by kernel_rfl) ?_
            refine go hΓ 3 rfl ?_
            refine gl_gsplit rfl rfl (fun hb => ?_) (fun hb => ?_)
            · have h22 := cT hq20 hb
              obtain ⟨x23, hx23, h24⟩ := bi_ok h22
              refine go_draw hΓ 5 rfl ?_
              refine gl_og rfl rfl (op_elemZ hΓ (enc := e_api_Wish) hx23 rfl rfl rfl rfl rfl (fun _ => rfl)) ?_
              refine go_draw hΓ 6 rfl ?_
              obtain rfl := Option.some.inj h24
              exact ⟨⟨rfl, rfl, rfl, rfl, rfl, rfl, trivial⟩, [], rfl, .inl rfl⟩
            · have h25 := cF hq20 hb
              refine go_draw hΓ 12 rfl ?_
              obtain rfl := Option.some.inj h25
              exact ⟨⟨rfl, rfl, rfl, rfl, rfl, rfl, trivial⟩, [], rfl, .inl rfl⟩
          · refine go hΓ 1 rfl ?_
            refine j_cond rfl (fun hb => ?_) (fun hb => ?_)
            · have h26 := cT h21 hb
              refine go hΓ 9 rfl ?_
              obtain ⟨v27, hv27, h28⟩ := bi_ok h26
              obtain rfl := Option.some.inj h28
              obtain rfl := hout12 _ rfl
              obtain rfl := Option.some.inj h7
              refine go hΓ 4 rfl ?_
              obtain rfl := Option.some.inj hv27
              exact fin_pure hΓ (.inr rfl) rfl rfl
            · have h29 := cF h21 hb
              refine go hΓ 9 rfl ?_
              refine j_cond rfl (fun hb => ?_) (fun hb => ?_)
              · have h30 := cT h29 hb
                refine go hΓ 9 rfl ?_
                obtain ⟨v31, hv31, h32⟩ := bi_ok h30
                obtain rfl := Option.some.inj h32
                obtain rfl := hout12 _ rfl
                obtain rfl := Option.some.inj h7
                refine go hΓ 4 rfl ?_
                obtain rfl := Option.some.inj hv31
                exact fin_pure hΓ (.inr rfl) rfl rfl
              · have h33 := cF h29 hb
                obtain ⟨y34, hy34, h35⟩ := bi_ok h33
                refine go hΓ 4 rfl ?_
                refine eo_callP (callable Tryz.func243 rfl rfl) (c_kit_IsMoment hy34) rfl (Nat.le_of_ble_eq_true rfl) rfl rfl rfl rfl rfl ?_
                refine go_ops hΓ 4 rfl ?_
                refine j_cond rfl (fun hb => ?_) (fun hb => ?_)
                · have h36 := cT h35 hb
                  refine go hΓ 9 rfl ?_
                  obtain ⟨v37, hv37, h38⟩ := bi_ok h36
                  obtain rfl := Option.some.inj h38
                  obtain rfl := hout12 _ rfl
                  obtain rfl := Option.some.inj h7
                  refine go hΓ 4 rfl ?_
                  obtain rfl := Option.some.inj hv37
                  exact fin_pure hΓ (.inr rfl) rfl rfl
                · have h39 := cF h35 hb
                  refine go hΓ 8 rfl ?_
                  obtain rfl := Option.some.inj h39
                  exact ⟨_, rfl, ⟨⟨rfl, rfl, rfl, get_eq rfl (w64_succ (Nat.lt_of_lt_of_le hlt hb9)), trivial⟩, [_], rfl, .inr ⟨HB.mk rfl, FB.mk rfl, (Nat.le_of_ble_eq_true rfl)⟩⟩⟩
      · subst hgo
        refine go hΓ 6 rfl ?_
        refine j_condF rfl (decide_eq_false (Int.lt_irrefl _)) ?_
        refine go hΓ 4 rfl ?_
        exact ⟨_, rfl, ⟨trivial, [], rfl, .inl rfl⟩⟩
    · intro a8 ha
      subst ha
      replace h7 := goI_l h7
      refine go hΓ 7 rfl ?_
      obtain rfl := Option.some.inj h7
      exact fin_pure hΓ (.inr rfl) rfl rfl

theorem c_slices_Clone_api_Wish_api_Wish {s : List T_api_Wish} {r : List T_api_Wish} (h : m_slices_Clone_api_Wish_api_Wish s = some r) : EC Tryz.prog 169 [.d (Sl e_api_Wish s)] [] fun g hp' => g = .sl 0 r.length ∧ hp' = [.row 107 3 r.length (r.flatMap e_api_Wish)] := by
  refine ec_enter (Fr.of 0 _) Tryz.func169 rfl (Fr.of_ok _) (Nat.le_of_ble_eq_true rfl) fun _ => ?_
  refine go_in ?_
  unfold m_slices_Clone_api_Wish_api_Wish at h
  refine go hΓ 2 rfl ?_
  refine eo_nilOwn (t := 0) 107 3 rfl (Nat.le_of_ble_eq_true rfl) ?_
  refine go_ops hΓ 6 rfl ?_
  refine eo_isNil hΓ rfl rfl rfl rfl rfl fun b hbn => ?_
  rcases b with _ | _
  · refine go_ops hΓ 7 rfl ?_
    refine eo_litRowT hΓ (enc := e_api_Wish) ([] : List T_api_Wish) rfl rfl rfl rfl rfl rfl rfl rfl rfl rfl rfl rfl (Nat.le_of_ble_eq_true rfl) ?_
    obtain ⟨y1, hy1, h2⟩ := bi_ok h
    refine go_ops hΓ 1 rfl ?_
    refine eo_appendT hΓ (enc := e_api_Wish) hy1 rfl rfl rfl rfl rfl rfl rfl rfl rfl (fun _ => rfl) rfl rfl rfl rfl ?_
    refine go_ops hΓ 1 rfl ?_
    refine eo_shr 0 [] _ [.dead, .row 107 3 y1.length (y1.flatMap e_api_Wish)] rfl rfl rfl (Nat.le_of_ble_eq_true rfl) ?_
    refine eo_move 1 0 [.row 107 3 y1.length (y1.flatMap e_api_Wish), .dead] rfl rfl rfl rfl rfl rfl ?_
    refine go_ops hΓ 3 rfl ?_
    obtain rfl := Option.some.inj h2
    exact fin_objs hΓ [_] (.inr rfl) rfl rfl rfl rfl (.inr ⟨HB.mk rfl, rfl⟩)
  · obtain rfl := List.eq_nil_of_length_eq_zero (hbn rfl).1
    replace h : (some ([] : List T_api_Wish) : Option (List T_api_Wish)) = some r := h
    refine go_ops hΓ 5 rfl ?_
    refine eo_nilOwn (t := 0) 107 3 rfl (Nat.le_of_ble_eq_true rfl) ?_
    refine eo_shr 0 [] _ [.dead, .row 107 3 ([] : List T_api_Wish).length (([] : List T_api_Wish).flatMap e_api_Wish)] rfl rfl rfl (Nat.le_of_ble_eq_true rfl) ?_
    refine eo_move 1 0 [.row 107 3 ([] : List T_api_Wish).length (([] : List T_api_Wish).flatMap e_api_Wish), .dead] rfl rfl rfl rfl rfl rfl ?_
    refine go_ops hΓ 4 rfl ?_
    obtain rfl := Option.some.inj h
    exact fin_objs hΓ [_] (.inr rfl) rfl rfl rfl rfl (.inr ⟨HB.mk rfl, rfl⟩)

theorem c_cmp_isNaN_int {x : Int} {r : Bool} (h : m_cmp_isNaN_int x = some r) : Pure Tryz.prog 242 [I x] (B r) := by
  refine Pure.enter (Fr.of 0 _) Tryz.func242 rfl (Fr.of_ok _) rfl rfl ?_
  refine go_in ?_
  unfold m_cmp_isNaN_int at h
  refine go hΓ 14 rfl ?_
  obtain rfl := Option.some.inj h
  exact fin_pure hΓ (.inr rfl) rfl rfl

theorem c_cmp_Compare_int {x : Int} {y : Int} {r : Int} (h : m_cmp_Compare_int x y = some r) : Pure Tryz.prog 146 [I x, I y] (I r) := by
  refine Pure.enter (Fr.of 0 _) Tryz.func146 rfl (Fr.of_ok _) rfl rfl ?_
  refine go_in ?_
  unfold m_cmp_Compare_int at h
  obtain ⟨y1, hy1, h2⟩ := bi_ok h
  refine go hΓ 8 rfl ?_
  refine eo_callP (callable Tryz.func242 rfl rfl) (c_cmp_isNaN_int hy1) rfl (Nat.le_of_ble_eq_true rfl) rfl rfl rfl rfl rfl ?_
  obtain ⟨y3, hy3, h4⟩ := bi_ok h2
  refine go_ops hΓ 6 rfl ?_
  refine eo_callP (callable Tryz.func242 rfl rfl) (c_cmp_isNaN_int hy3) rfl (Nat.le_of_ble_eq_true rfl) rfl rfl rfl rfl rfl ?_
  refine go_ops hΓ 9 rfl ?_
  refine j_cond rfl (fun hb => ?_) (fun hb => ?_)
  · have h5 := cT h4 hb
    refine go hΓ 6 rfl ?_
    refine j_cond rfl (fun hb => ?_) (fun hb => ?_)
    · have h6 := cT h5 hb
      refine go hΓ 8 rfl ?_
      obtain rfl := Option.some.inj h6
      exact fin_pure hΓ (.inr rfl) rfl rfl
    · have h7 := cF h5 hb
      refine go hΓ 9 rfl ?_
      obtain rfl := Option.some.inj h7
      exact fin_pure hΓ (.inr rfl) rfl rfl
  · have h8 := cF h4 hb
    refine go hΓ 8 rfl ?_
    refine j_cond rfl (fun hb => ?_) (fun hb => ?_)
    · have h9 := cT h8 hb
      refine go hΓ 7 rfl ?_
      obtain rfl := Option.some.inj h9
      exact fin_pure hΓ (.inr rfl) rfl rfl
    · have h10 := cF h8 hb
      refine go hΓ 10 rfl ?_
      refine j_cond rfl (fun hb => ?_) (fun hb => ?_)
      · have h11 := cT h10 hb
        refine go hΓ 7 rfl ?_
        obtain rfl := Option.some.inj h11
        exact fin_pure hΓ (.inr rfl) rfl rfl
      · have h12 := cF h10 hb
        refine go hΓ 10 rfl ?_
        refine j_cond rfl (fun hb => ?_) (fun hb => ?_)
        · have h13 := cT h12 hb
          refine go hΓ 7 rfl ?_
          obtain rfl := Option.some.inj h13
          exact fin_pure hΓ (.inr rfl) rfl rfl
        · have h14 := cF h12 hb
          refine go hΓ 8 rfl ?_
          obtain rfl := Option.some.inj h14
          exact fin_pure hΓ (.inr rfl) rfl rfl

theorem c_name_Call_1 {a : T_api_Wish} {b : T_api_Wish} {r : Int} (h : m_name_Call_1 a b = some r) : Pure Tryz.prog 171 [.agg [S a.Node, S a.Name, I a.Joined], .agg [S b.Node, S b.Name, I b.Joined]] (I r) := by
  refine Pure.enter (Fr.of 0 _) Tryz.func171 rfl (Fr.of_ok _) rfl rfl ?_
  refine go_in ?_
  unfold m_name_Call_1 at h
  refine go hΓ 2 rfl ?_
  refine eo_box rfl rfl rfl rfl (Nat.le_of_ble_eq_true rfl) ?_
  refine eo_box rfl rfl rfl rfl (Nat.le_of_ble_eq_true rfl) ?_
  obtain ⟨y1, hy1, h2⟩ := bi_ok h
  refine go_ops hΓ 9 rfl ?_
  refine eo_callP (callable Tryz.func146 rfl rfl) (c_cmp_Compare_int hy1) rfl (Nat.le_of_ble_eq_true rfl) rfl rfl rfl rfl rfl ?_
  refine go_ops hΓ 4 rfl ?_
  obtain rfl := Option.some.inj h2
  exact fin_pure hΓ (.inr rfl) rfl rfl

theorem c_slices_insertionSortCmpFunc_api_Wish {k : Nat} {data : List T_api_Wish} {a : Int} {b : Int} {r : List T_api_Wish} (h : m_slices_insertionSortCmpFunc_api_Wish k data a b = some r) : EC Tryz.prog 317 [.sl 0 data.length, I a, I b, .fn (.func 171) [] []] [.row 107 3 data.length (data.flatMap e_api_Wish)] fun g hp' => g = .tup [] ∧ hp' = [.row 107 3 r.length (r.flatMap e_api_Wish)] := by
  refine ec_enter (Fr.of 0 _) Tryz.func317 rfl (Fr.of_ok _) (Nat.le_of_ble_eq_true rfl) fun _ => ?_
  refine go_in ?_
  unfold m_slices_insertionSortCmpFunc_api_Wish at h
  refine go hΓ 7 rfl ?_
  obtain ⟨q4, hq4, h5⟩ := bi_ok h
  refine j_cutNZ [] [.row 107 3 q4.length (q4.flatMap e_api_Wish)] ?_ ?_
  · refine go hΓ 1 rfl ?_
    refine j_loop hq4 (fun s2 => [(0, .sl 0 s2.1.length), (1, I a), (2, I b), (3, .fn (.func 171) [] []), (8, I s2.2)]) (fun s2 => [.row 107 3 s2.1.length (s2.1.flatMap e_api_Wish)]) ⟨⟨rfl, rfl, rfl, rfl, rfl, trivial⟩, [], rfl, .inl rfl⟩ (fun s2 y10 hy8 hout9 => ?_)
    refine go hΓ 8 rfl ?_
    refine j_cond rfl (fun hb => ?_) (fun hb => ?_)
    · have h11 := cT hy8 hb
      refine go hΓ 10 rfl ?_
      obtain ⟨q15, hq15, h16⟩ := bi_ok h11
      refine j_cutNZ [(0, .sl 0 q15.length), (1, I a), (2, I b), (3, .fn (.func 171) [] []), (8, I s2.2)] [.row 107 3 q15.length (q15.flatMap e_api_Wish)] ?_ ?_
      · refine go hΓ 1 rfl ?_
        refine j_loop hq15 (fun s13 => [(0, .sl 0 s13.1.length), (1, I a), (2, I b), (3, .fn (.func 171) [] []), (8, I s2.2), (9, I s13.2)]) (fun s13 => [.row 107 3 s13.1.length (s13.1.flatMap e_api_Wish)]) ⟨⟨rfl, rfl, rfl, rfl, rfl, rfl, trivial⟩, [], rfl, .inl rfl⟩ (fun s13 y21 hy19 hout20 => ?_)
        obtain ⟨q22, hq22, h23⟩ := bi_ok hy19
        refine go hΓ 2 rfl ?_
        refine j_cutNZ [(0, .sl 0 s13.1.length), (1, I a), (2, I b), (3, .fn (.func 171) [] []), (8, I s2.2), (9, I s13.2), (34, B q22)] [.row 107 3 s13.1.length (s13.1.flatMap e_api_Wish)] ?_ ?_
        · refine j_draw hmix (by kernel_rfl) ?_
          refine go hΓ 4 rfl ?_
          refine gl_gsplit rfl rfl (fun hb => ?_) (fun hb => ?_)
          · have h24 := cT hq22 hb
            obtain ⟨x25, hx25, h26⟩ := bi_ok h24
            have hj27 := getZ_at hx25
            refine go_draw hΓ 3 rfl ?_
            refine gl_og rfl rfl (op_elemRowZ hΓ hx25 rfl rfl rfl rfl rfl rfl) ?_
            refine gl_og rfl rfl (op_loadRowZ hΓ (enc := e_api_Wish) s13.2.toNat 0 hj27 rfl rfl rfl rfl (fun _ => rfl) (g := .agg [S x25.Node, S x25.Name, I x25.Joined]) rfl) ?_
            obtain ⟨x28, hx28, h29⟩ := bi_ok h26
            have hj30 := getZ_at hx28
            refine go_draw hΓ 3 rfl ?_
            refine gl_og rfl rfl (op_elemRowZ hΓ hx28 rfl rfl rfl rfl rfl rfl) ?_
            refine gl_og rfl rfl (op_loadRowZ hΓ (enc := e_api_Wish) ((wi (s13.2 - 1)).toNat) 0 hj30 rfl rfl rfl rfl (fun _ => rfl) (g := .agg [S x28.Node, S x28.Name, I x28.Joined]) rfl) ?_
            obtain ⟨y31, hy31, h32⟩ := bi_ok h29
            refine gl_callPg (callable Tryz.func171 rfl rfl) (c_name_Call_1 hy31) rfl rfl rfl rfl rfl rfl rfl ?_
            refine go_draw hΓ 3 rfl ?_
            obtain rfl := Option.some.inj h32
            exact ⟨⟨rfl, rfl, rfl, rfl, rfl, rfl, rfl, trivial⟩, [], rfl, .inl rfl⟩
          · have h33 := cF hq22 hb
            refine go_draw hΓ 14 rfl ?_
            obtain rfl := Option.some.inj h33
            exact ⟨⟨rfl, rfl, rfl, rfl, rfl, rfl, rfl, trivial⟩, [], rfl, .inl rfl⟩
        · refine go hΓ 1 rfl ?_
          refine j_cond rfl (fun hb => ?_) (fun hb => ?_)
          · have h34 := cT h23 hb
            refine go hΓ 4 rfl ?_
            refine j_drawE [.row 107 3 s13.1.length (s13.1.flatMap e_api_Wish)] [9, 13] [15, 17] [15, 17] hmix (by kernel_rfl) (by kernel_rfl) ⟨rfl, trivial⟩ (Nat.le_of_ble_eq_true rfl) ?_
            obtain ⟨x35, hx35, h36⟩ := bi_ok h34
            have hj37 := getZ_at hx35
            refine go_E hΓ 8 rfl ?_
            refine ge_q rfl (.inl rfl) (fun _ _ => qte_of_qt (qt_p (op_elemRowZ hΓ hx35 rfl rfl rfl rfl rfl rfl))) ?_
            refine ge_p rfl (fun hp hs => op_loadRowZ hΓ (enc := e_api_Wish) ((wi (s13.2 - 1)).toNat) 0 hj37 rfl rfl rfl (hs 0 _ rfl rfl) (fun _ => rfl) (g := .agg [S x35.Node, S x35.Name, I x35.Joined]) rfl) rfl ?_
            obtain ⟨x38, hx38, h39⟩ := bi_ok h36
            have hj40 := getZ_at hx38
            refine go_E hΓ 2 rfl ?_
            refine ge_q rfl (.inl rfl) (fun _ _ => qte_of_qt (qt_p (op_elemRowZ hΓ hx38 rfl rfl rfl rfl rfl rfl))) ?_
            refine ge_p rfl (fun hp hs => op_loadRowZ hΓ (enc := e_api_Wish) s13.2.toNat 0 hj40 rfl rfl rfl (hs 0 _ rfl rfl) (fun _ => rfl) (g := .agg [S x38.Node, S x38.Name, I x38.Joined]) rfl) rfl ?_
            obtain ⟨x41, hx41, h42⟩ := bi_ok h39
            have hj43 := getZ_at hx41
            refine ge_q rfl (.inl rfl) (fun _ _ => qte_of_qt (qt_p (op_elemRowZ hΓ hx41 rfl rfl rfl rfl rfl rfl))) ?_
            refine ge_h0 [.row 107 3 (s13.1.set s13.2.toNat x35).length ((s13.1.set s13.2.toNat x35).flatMap e_api_Wish)] rfl rfl (brk_st rfl) (qte_u (opu_setRowZ hΓ (enc := e_api_Wish) (z' := x35) s13.2.toNat (by have := (List.getElem?_eq_some_iff.1 hj43).1; simpa using this) rfl rfl rfl rfl (fun _ => rfl) rfl rfl rfl rfl rfl)) ?_
            obtain ⟨x44, hx44, h45⟩ := bi_ok h42
            have hj46 := getZ_at hx44
            refine ge_q rfl (.inl rfl) (fun _ _ => qte_of_qt (qt_p (op_elemRowZ hΓ hx44 rfl rfl rfl rfl rfl rfl))) ?_
            refine ge_h0 [.row 107 3 ((s13.1.set s13.2.toNat x35).set ((wi (s13.2 - 1)).toNat) x38).length (((s13.1.set s13.2.toNat x35).set ((wi (s13.2 - 1)).toNat) x38).flatMap e_api_Wish)] rfl rfl (brk_st rfl) (qte_u (opu_setRowZ hΓ (enc := e_api_Wish) (z' := x38) ((wi (s13.2 - 1)).toNat) (by have := (List.getElem?_eq_some_iff.1 hj46).1; simpa using this) rfl rfl rfl rfl (fun _ => rfl) rfl rfl rfl rfl rfl)) ?_
            refine ge_fin ?_
            refine go hΓ 2 rfl ?_
            refine j_relen 0 (n' := ((s13.1.set s13.2.toNat x35).set ((wi (s13.2 - 1)).toNat) x38).length) rfl (by simp) ?_
            refine j_relen 37 (n' := ((s13.1.set s13.2.toNat x35).set ((wi (s13.2 - 1)).toNat) x38).length) rfl (by simp) ?_
            refine j_relen 39 (n' := ((s13.1.set s13.2.toNat x35).set ((wi (s13.2 - 1)).toNat) x38).length) rfl (by simp) ?_
            refine j_relen 42 (n' := ((s13.1.set s13.2.toNat x35).set ((wi (s13.2 - 1)).toNat) x38).length) rfl (by simp) ?_
            refine j_relen 47 (n' := ((s13.1.set s13.2.toNat x35).set ((wi (s13.2 - 1)).toNat) x38).length) rfl (by simp) ?_
            refine go hΓ 5 rfl ?_
            obtain rfl := Option.some.inj h45
            exact ⟨_, rfl, ⟨⟨rfl, rfl, rfl, rfl, rfl, rfl, trivial⟩, [], rfl, .inl rfl⟩⟩
          · have h47 := cF h23 hb
            refine go hΓ 4 rfl ?_
            obtain rfl := Option.some.inj h47
            obtain rfl := hout20 _ rfl
            exact ⟨⟨rfl, rfl, rfl, rfl, rfl, trivial⟩, [], rfl, .inl rfl⟩
      · refine go hΓ 7 rfl ?_
        obtain rfl := Option.some.inj h16
        exact ⟨_, rfl, ⟨⟨rfl, rfl, rfl, rfl, rfl, trivial⟩, [], rfl, .inl rfl⟩⟩
    · have h48 := cF hy8 hb
      refine go hΓ 4 rfl ?_
      obtain rfl := Option.some.inj h48
      obtain rfl := hout9 _ rfl
      exact ⟨trivial, [], rfl, .inl rfl⟩
  · obtain rfl := Option.some.inj h5
    exact fin_objs hΓ [] (.inl rfl) rfl rfl rfl rfl (.inl rfl)

theorem c_slices_stableCmpFunc_api_Wish {k : Nat} {data : List T_api_Wish} {n : Int} {r : List T_api_Wish} (h : m_slices_stableCmpFunc_api_Wish k data n = some r) : EC Tryz.prog 253 [.sl 0 data.length, I n, .fn (.func 171) [] []] [.row 107 3 data.length (data.flatMap e_api_Wish)] fun g hp' => g = .tup [] ∧ hp' = [.row 107 3 r.length (r.flatMap e_api_Wish)] := by
  refine ec_enter (Fr.of 0 _) Tryz.func253 rfl (Fr.of_ok _) (Nat.le_of_ble_eq_true rfl) fun _ => ?_
  refine go_in ?_
  unfold m_slices_stableCmpFunc_api_Wish at h
  refine go hΓ 13 rfl ?_
  obtain ⟨q4, hq4, h5⟩ := bi_ok h
  refine j_cutNZ [(0, .sl 0 q4.1.length), (1, I n), (2, .fn (.func 171) [] []), (6, I 20), (7, I q4.2)] [.row 107 3 q4.1.length (q4.1.flatMap e_api_Wish)] ?_ ?_
  · refine go hΓ 1 rfl ?_
    refine j_loop hq4 (fun s2 => [(0, .sl 0 s2.1.length), (1, I n), (2, .fn (.func 171) [] []), (6, I 20), (7, I s2.2.1), (8, I s2.2.2)]) (fun s2 => [.row 107 3 s2.1.length (s2.1.flatMap e_api_Wish)]) ⟨⟨rfl, rfl, rfl, rfl, rfl, rfl, trivial⟩, [], rfl, .inl rfl⟩ (fun s2 y10 hy8 hout9 => ?_)
    refine go hΓ 8 rfl ?_
    refine j_cond rfl (fun hb => ?_) (fun hb => ?_)
    · have h11 := cT hy8 hb
      obtain ⟨y12, hy12, h13⟩ := bi_ok h11
      refine go hΓ 9 rfl ?_
      refine eo_callF [0] (.tup []) [.row 107 3 y12.length (y12.flatMap e_api_Wish)] (callable Tryz.func317 rfl rfl) (c_slices_insertionSortCmpFunc_api_Wish hy12) rfl (Nat.le_of_ble_eq_true rfl) rfl rfl rfl rfl rfl rfl rfl rfl rfl rfl ?_
      obtain ⟨hg15, h14⟩ := gd_ok h13
      refine eo_relen 0 rfl (of_decide_eq_true hg15).symm ?_
      refine go_ops hΓ 15 rfl ?_
      obtain rfl := Option.some.inj h14
      exact ⟨_, rfl, ⟨⟨rfl, rfl, rfl, rfl, rfl, rfl, trivial⟩, [], rfl, .inl rfl⟩⟩
    · have h16 := cF hy8 hb
      refine go hΓ 4 rfl ?_
      obtain rfl := Option.some.inj h16
      obtain rfl := hout9 _ rfl
      exact ⟨⟨rfl, rfl, rfl, rfl, rfl, trivial⟩, [], rfl, .inl rfl⟩
  · obtain ⟨y17, hy17, h18⟩ := bi_ok h5
    refine go hΓ 7 rfl ?_
    refine eo_callF [0] (.tup []) [.row 107 3 y17.length (y17.flatMap e_api_Wish)] (callable Tryz.func317 rfl rfl) (c_slices_insertionSortCmpFunc_api_Wish hy17) rfl (Nat.le_of_ble_eq_true rfl) rfl rfl rfl rfl rfl rfl rfl rfl rfl rfl ?_
    obtain ⟨hg20, h19⟩ := gd_ok h18
    refine eo_relen 0 rfl (of_decide_eq_true hg20).symm ?_
    refine go_ops hΓ 2 rfl ?_
    obtain ⟨q24, hq24, h25⟩ := bi_ok h19
    refine j_cutNZ [] [.row 107 3 y17.length (y17.flatMap e_api_Wish)] ?_ ?_
    · refine go hΓ 1 rfl ?_
      refine j_loop hq24 (fun s22 => [(0, .sl 0 y17.length), (1, I n), (2, .fn (.func 171) [] []), (6, I s22)]) (fun s22 => [.row 107 3 y17.length (y17.flatMap e_api_Wish)]) ⟨⟨rfl, rfl, rfl, rfl, trivial⟩, [], rfl, .inl rfl⟩ (fun s22 y30 hy28 hout29 => ?_)
      refine go hΓ 8 rfl ?_
      refine j_cond rfl (fun hb => ?_) (fun hb => ?_)
      · have h31 := cT hy28 hb
        refine go hΓ 12 rfl ?_
        obtain ⟨q35, hq35, h36⟩ := bi_ok h31
        refine j_cutNZ [(0, .sl 0 y17.length), (1, I n), (2, .fn (.func 171) [] []), (6, I s22), (7, I 0)] [.row 107 3 y17.length (y17.flatMap e_api_Wish)] ?_ ?_
        · refine go hΓ 1 rfl ?_
          refine j_loop hq35 (fun s33 => [(0, .sl 0 y17.length), (1, I n), (2, .fn (.func 171) [] []), (6, I s22), (7, I 0), (8, I (wi (2 * s22)))]) (fun s33 => [.row 107 3 y17.length (y17.flatMap e_api_Wish)]) ⟨⟨rfl, rfl, rfl, rfl, rfl, rfl, trivial⟩, [], rfl, .inl rfl⟩ (fun s33 y41 hy39 hout40 => ?_)
          refine go hΓ 8 rfl ?_
          refine j_cond rfl (fun hb => ?_) (fun hb => ?_)
          · have h42 := cT hy39 hb
            refine go hΓ 12 rfl ?_
            cases h42
          · have h43 := cF hy39 hb
            refine go hΓ 4 rfl ?_
            obtain rfl := Option.some.inj h43
            obtain rfl := hout40 _ rfl
            exact ⟨⟨rfl, rfl, rfl, rfl, rfl, trivial⟩, [], rfl, .inl rfl⟩
        · refine go hΓ 17 rfl ?_
          refine j_cond rfl (fun hb => ?_) (fun hb => ?_)
          · have h44 := cT h36 hb
            refine go hΓ 6 rfl ?_
            cases h44
          · have h45 := cF h36 hb
            refine go hΓ 8 rfl ?_
            obtain rfl := Option.some.inj h45
            exact ⟨_, rfl, ⟨⟨rfl, rfl, rfl, rfl, trivial⟩, [], rfl, .inl rfl⟩⟩
      · have h46 := cF hy28 hb
        refine go hΓ 4 rfl ?_
        obtain rfl := Option.some.inj h46
        obtain rfl := hout29 _ rfl
        exact ⟨trivial, [], rfl, .inl rfl⟩
    · obtain rfl := Option.some.inj h25
      exact fin_objs hΓ [] (.inl rfl) rfl rfl rfl rfl (.inl rfl)

theorem c_slices_SortStableFunc_api_Wish_api_Wish {k : Nat} {x : List T_api_Wish} {r : List T_api_Wish} (h : m_slices_SortStableFunc_api_Wish_api_Wish k x = some r) : EC Tryz.prog 170 [.sl 0 x.length, .fn (.func 171) [] []] [.row 107 3 x.length (x.flatMap e_api_Wish)] fun g hp' => g = .tup [] ∧ hp' = [.row 107 3 r.length (r.flatMap e_api_Wish)] := by
  refine ec_enter (Fr.of 0 _) Tryz.func170 rfl (Fr.of_ok _) (Nat.le_of_ble_eq_true rfl) fun _ => ?_
  refine go_in ?_
  unfold m_slices_SortStableFunc_api_Wish_api_Wish at h
  obtain ⟨y1, hy1, h2⟩ := bi_ok h
  refine go hΓ 5 rfl ?_
  refine eo_callF [0] (.tup []) [.row 107 3 y1.length (y1.flatMap e_api_Wish)] (callable Tryz.func253 rfl rfl) (c_slices_stableCmpFunc_api_Wish hy1) rfl (Nat.le_of_ble_eq_true rfl) rfl rfl rfl rfl rfl rfl rfl rfl rfl rfl ?_
  refine go_ops hΓ 1 rfl ?_
  obtain rfl := Option.some.inj h2
  exact fin_objs hΓ [] (.inl rfl) rfl rfl rfl rfl (.inl rfl)

theorem c_name_isLetter {c : Int} {r : Bool} (h : m_name_isLetter c = some r) : Pure Tryz.prog 175 [.d (.v (.int .u8 c))] (B r) := by
  refine Pure.enter (Fr.of 0 _) Tryz.func175 rfl (Fr.of_ok _) rfl rfl ?_
  refine go_in ?_
  unfold m_name_isLetter at h
  refine go hΓ 10 rfl ?_
  refine o_cut 3 [(0, .d (.v (.int .u8 c))), (2, B false), (8, B ((decide ((c : Int) ≥ 97)) && (decide ((c : Int) ≤ 122))))] [] ?_ ?_
  · refine eo_gsplit rfl rfl (fun hb => ?_) (fun hb => ?_)
    · refine go_ops hΓ 4 rfl ?_
      exact ⟨⟨rfl, rfl, get_b rfl (and_t hb), trivial⟩, [], rfl, .inl rfl⟩
    · refine go_ops hΓ 4 rfl ?_
      exact ⟨⟨rfl, rfl, get_b rfl (and_f hb), trivial⟩, [], rfl, .inl rfl⟩
  · refine go_ops hΓ 1 rfl ?_
    refine o_cut 7 [(2, B false), (16, B (((decide ((c : Int) ≥ 97)) && (decide ((c : Int) ≤ 122))) || ((decide ((c : Int) ≥ 48)) && (decide ((c : Int) ≤ 57)))))] [] ?_ ?_
    · refine eo_gsplit rfl rfl (fun hb => ?_) (fun hb => ?_)
      · refine go_ops hΓ 8 rfl ?_
        exact ⟨⟨rfl, get_b rfl (or_t hb), trivial⟩, [], rfl, .inl rfl⟩
      · refine go_ops hΓ 3 rfl ?_
        refine o_cut 3 [(2, B false), (9, B false), (15, B ((decide ((c : Int) ≥ 48)) && (decide ((c : Int) ≤ 57))))] [] ?_ ?_
        · refine eo_gsplit rfl rfl (fun hb => ?_) (fun hb => ?_)
          · refine go_ops hΓ 4 rfl ?_
            exact ⟨⟨rfl, rfl, get_b rfl (and_t hb), trivial⟩, [], rfl, .inl rfl⟩
          · refine go_ops hΓ 4 rfl ?_
            exact ⟨⟨rfl, rfl, get_b rfl (and_f hb), trivial⟩, [], rfl, .inl rfl⟩
        · refine go_ops hΓ 2 rfl ?_
          exact ⟨⟨rfl, get_b rfl (or_f hb), trivial⟩, [], rfl, .inl rfl⟩
    · refine go_ops hΓ 4 rfl ?_
      obtain rfl := Option.some.inj h
      exact fin_pure hΓ (.inr rfl) rfl rfl

theorem c_name_Label {s : Str} {r : Str} (h : m_name_Label s = some r) : Pure Tryz.prog 65 [S s] (S r) := by
  refine Pure.enter (Fr.of 0 _) Tryz.func65 rfl (Fr.of_ok _) rfl rfl ?_
  refine go_in ?_
  unfold m_name_Label at h
  refine go hΓ 7 rfl ?_
  refine eo_nilOwn (t := 0) 5 1 rfl (Nat.le_of_ble_eq_true rfl) ?_
  refine go_ops hΓ 10 rfl ?_
  obtain ⟨q4, hq4, h5⟩ := bi_ok h
  obtain ⟨hb7, h8⟩ := gd_ok hq4
  replace hb7 := of_decide_eq_true hb7
  refine j_cutNZ [(3, .sl 0 q4.length)] [.row 5 1 q4.length (q4.flatMap (eN .u8))] ?_ ?_
  · refine go hΓ 1 rfl ?_
    refine j_rangeG h8 (fun i1 s2 => [(0, S s), (3, .sl 0 s2.length), (8, I (s.length : Int)), (9, I (i1 : Int))]) (fun s2 => [.row 5 1 s2.length (s2.flatMap (eN .u8))]) ⟨⟨rfl, rfl, rfl, rfl, trivial⟩, [], rfl, .inl rfl⟩ (fun i1 s2 y12 hlt hy10 => ?_) (fun hge => ?_)
    · refine go hΓ 6 rfl ?_
      refine j_condT rfl (decide_eq_true hlt) ?_
      obtain ⟨c13, hc13, h14⟩ := bi_ok hy10
      refine go hΓ 14 rfl ?_
      refine eo_o rfl (op_byteZ hΓ hc13 rfl rfl rfl rfl) ?_
      refine go_ops hΓ 9 rfl ?_
      refine o_cut 3 [(0, S s), (3, .sl 0 s2.length), (5, .d (.v (.int .u8 (c13.toNat : Int)))), (8, I (s.length : Int)), (9, I (i1 : Int)), (20, B ((decide (((c13.toNat : Int) : Int) ≥ 65)) && (decide (((c13.toNat : Int) : Int) ≤ 90))))] [.row 5 1 s2.length (s2.flatMap (eN .u8))] ?_ ?_
      · refine eo_gsplit rfl rfl (fun hb => ?_) (fun hb => ?_)
        · refine go_ops hΓ 4 rfl ?_
          exact ⟨⟨rfl, rfl, rfl, rfl, rfl, get_b rfl (and_t hb), trivial⟩, [], rfl, .inl rfl⟩
        · refine go_ops hΓ 4 rfl ?_
          exact ⟨⟨rfl, rfl, rfl, rfl, rfl, get_b rfl (and_f hb), trivial⟩, [], rfl, .inl rfl⟩
      · obtain ⟨q15, hq15, h16⟩ := bi_ok h14
        refine go_ops hΓ 2 rfl ?_
        refine j_cutNZ [(0, S s), (3, .sl 0 s2.length), (5, .d (.v (.int .u8 q15))), (8, I (s.length : Int)), (9, I (i1 : Int))] [.row 5 1 s2.length (s2.flatMap (eN .u8))] ?_ ?_
        · refine j_cond rfl (fun hb => ?_) (fun hb => ?_)
          · have h17 := cT hq15 hb
            refine go hΓ 5 rfl ?_
            obtain rfl := Option.some.inj h17
            exact ⟨⟨rfl, rfl, rfl, rfl, rfl, trivial⟩, [], rfl, .inl rfl⟩
          · have h18 := cF hq15 hb
            refine go hΓ 1 rfl ?_
            obtain rfl := Option.some.inj h18
            exact ⟨⟨rfl, rfl, rfl, rfl, rfl, trivial⟩, [], rfl, .inl rfl⟩
        · obtain ⟨y19, hy19, h20⟩ := bi_ok h16
          refine go hΓ 5 rfl ?_
          refine eo_callP (callable Tryz.func175 rfl rfl) (c_name_isLetter hy19) rfl (Nat.le_of_ble_eq_true rfl) rfl rfl rfl rfl rfl ?_
          refine go_ops hΓ 3 rfl ?_
          refine j_cond rfl (fun hb => ?_) (fun hb => ?_)
          · have h21 := cT h20 hb
            refine go hΓ 3 rfl ?_
            refine eo_litT hΓ (enc := (eN .u8)) [q15] rfl rfl rfl rfl rfl rfl rfl rfl rfl rfl rfl rfl (Nat.le_of_ble_eq_true rfl) ?_
            obtain ⟨y22, hy22, h23⟩ := bi_ok h21
            refine eo_appendT hΓ (enc := (eN .u8)) hy22 rfl rfl rfl rfl rfl rfl rfl rfl rfl (fun _ => rfl) rfl rfl rfl rfl ?_
            refine go_ops hΓ 9 rfl ?_
            obtain rfl := Option.some.inj h23
            exact ⟨⟨rfl, rfl, rfl, get_eq rfl (w64_succ (by omega)), trivial⟩, [], rfl, .inl rfl⟩
          · have h24 := cF h20 hb
            refine go hΓ 6 rfl ?_
            obtain ⟨q25, hq25, h26⟩ := bi_ok h24
            refine o_cut 8 [(0, S s), (3, .sl 0 s2.length), (8, I (s.length : Int)), (9, I (i1 : Int)), (42, B q25)] [.row 5 1 s2.length (s2.flatMap (eN .u8))] ?_ ?_
            · refine eo_gsplit rfl rfl (fun hb => ?_) (fun hb => ?_)
              · have h27 := cT hq25 hb
                refine go_ops hΓ 9 rfl ?_
                obtain rfl := Option.some.inj h27
                exact ⟨⟨rfl, rfl, rfl, rfl, rfl, trivial⟩, [], rfl, .inl rfl⟩
              · have h28 := cF hq25 hb
                obtain ⟨x29, hx29, h30⟩ := bi_ok h28
                have hj31 := getZ_at hx29
                refine go_ops hΓ 4 rfl ?_
                refine eo_guard rfl ?_
                refine eo_o rfl (op_elemRowZ hΓ hx29 rfl rfl rfl rfl rfl rfl) ?_
                refine eo_guard rfl ?_
                refine eo_o rfl (op_loadRowZ hΓ (enc := (eN .u8)) ((wi ((s2.length : Int) - 1)).toNat) 0 hj31 rfl rfl rfl rfl (fun _ => rfl) (g := .d (.v (.int .u8 x29))) rfl) ?_
                refine go_ops hΓ 3 rfl ?_
                obtain rfl := Option.some.inj h30
                exact ⟨⟨rfl, rfl, rfl, rfl, rfl, trivial⟩, [], rfl, .inl rfl⟩
            · refine go_ops hΓ 3 rfl ?_
              refine j_cond rfl (fun hb => ?_) (fun hb => ?_)
              · have h32 := cT h26 hb
                refine go hΓ 2 rfl ?_
                refine eo_litT hΓ (enc := (eN .u8)) [45] rfl rfl rfl rfl rfl rfl rfl rfl rfl rfl rfl rfl (Nat.le_of_ble_eq_true rfl) ?_
                obtain ⟨y33, hy33, h34⟩ := bi_ok h32
                refine eo_appendT hΓ (enc := (eN .u8)) hy33 rfl rfl rfl rfl rfl rfl rfl rfl rfl (fun _ => rfl) rfl rfl rfl rfl ?_
                refine go_ops hΓ 9 rfl ?_
                obtain rfl := Option.some.inj h34
                exact ⟨⟨rfl, rfl, rfl, get_eq rfl (w64_succ (by omega)), trivial⟩, [], rfl, .inl rfl⟩
              · have h35 := cF h26 hb
                refine go hΓ 8 rfl ?_
                obtain rfl := Option.some.inj h35
                exact ⟨⟨rfl, rfl, rfl, get_eq rfl (w64_succ (by omega)), trivial⟩, [], rfl, .inl rfl⟩
    · refine go hΓ 6 rfl ?_
      refine j_condF rfl (decide_eq_false hge) ?_
      refine go hΓ 4 rfl ?_
      exact ⟨⟨rfl, trivial⟩, [], rfl, .inl rfl⟩
  · obtain ⟨z36, hz36, h37⟩ := bi_ok h5
    refine go hΓ 7 rfl ?_
    refine eo_subRowZ hΓ (enc := (eN .u8)) hz36 rfl rfl rfl rfl rfl rfl rfl rfl (fun _ => rfl) rfl (Nat.le_of_ble_eq_true rfl) ?_
    obtain ⟨y38, hy38, h39⟩ := bi_ok h37
    refine eo_o rfl (op_strRowZ hΓ hy38 rfl rfl rfl rfl rfl rfl rfl rfl rfl) ?_
    obtain ⟨y40, hy40, h41⟩ := bi_ok h39
    refine eo_callP (callable Tryz.func176 rfl rfl) (c_strings_Trim hy40) rfl (Nat.le_of_ble_eq_true rfl) rfl rfl rfl rfl rfl ?_
    refine go_ops hΓ 10 rfl ?_
    refine j_cond rfl (fun hb => ?_) (fun hb => ?_)
    · have h42 := cT h41 hb
      refine go hΓ 7 rfl ?_
      obtain rfl := Option.some.inj h42
      exact fin_pure hΓ (.inr rfl) rfl rfl
    · have h43 := cF h41 hb
      refine go hΓ 9 rfl ?_
      obtain rfl := Option.some.inj h43
      exact fin_pure hΓ (.inr rfl) rfl rfl

theorem c_math_bits_Len64 {x : Int} {r : Int} (h : m_math_bits_Len64 x = some r) : Pure Tryz.prog 313 [.d (.v (.int .u64 x))] (I r) := by
  refine Pure.enter (Fr.of 0 _) Tryz.func313 rfl (Fr.of_ok _) rfl rfl ?_
  refine go_in ?_
  unfold m_math_bits_Len64 at h
  obtain ⟨q1, hq1, h2⟩ := bi_ok h
  refine go hΓ 12 rfl ?_
  refine j_cutNZ [(0, .d (.v (.int .u64 q1.1))), (2, I q1.2)] [] ?_ ?_
  · refine j_cond rfl (fun hb => ?_) (fun hb => ?_)
    · have h3 := cT hq1 hb
      refine go hΓ 10 rfl ?_
      obtain rfl := Option.some.inj h3
      exact ⟨⟨rfl, rfl, trivial⟩, [], rfl, .inl rfl⟩
    · have h4 := cF hq1 hb
      refine go hΓ 1 rfl ?_
      obtain rfl := Option.some.inj h4
      exact ⟨⟨rfl, rfl, trivial⟩, [], rfl, .inl rfl⟩
  · obtain ⟨q5, hq5, h6⟩ := bi_ok h2
    refine go hΓ 8 rfl ?_
    refine j_cutNZ [(0, .d (.v (.int .u64 q5.1))), (2, I q5.2)] [] ?_ ?_
    · refine j_cond rfl (fun hb => ?_) (fun hb => ?_)
      · have h7 := cT hq5 hb
        refine go hΓ 12 rfl ?_
        obtain rfl := Option.some.inj h7
        exact ⟨⟨rfl, rfl, trivial⟩, [], rfl, .inl rfl⟩
      · have h8 := cF hq5 hb
        refine go hΓ 1 rfl ?_
        obtain rfl := Option.some.inj h8
        exact ⟨⟨rfl, rfl, trivial⟩, [], rfl, .inl rfl⟩
    · obtain ⟨q9, hq9, h10⟩ := bi_ok h6
      refine go hΓ 8 rfl ?_
      refine j_cutNZ [(0, .d (.v (.int .u64 q9.1))), (2, I q9.2)] [] ?_ ?_
      · refine j_cond rfl (fun hb => ?_) (fun hb => ?_)
        · have h11 := cT hq9 hb
          refine go hΓ 12 rfl ?_
          obtain rfl := Option.some.inj h11
          exact ⟨⟨rfl, rfl, trivial⟩, [], rfl, .inl rfl⟩
        · have h12 := cF hq9 hb
          refine go hΓ 1 rfl ?_
          obtain rfl := Option.some.inj h12
          exact ⟨⟨rfl, rfl, trivial⟩, [], rfl, .inl rfl⟩
      · obtain ⟨c13, hc13, h14⟩ := bi_ok h10
        refine go hΓ 6 rfl ?_
        refine eo_o rfl (op_byteZ hΓ hc13 rfl rfl rfl rfl) ?_
        refine go_ops hΓ 6 rfl ?_
        obtain rfl := Option.some.inj h14
        exact fin_pure hΓ (.inr rfl) rfl rfl

theorem c_math_bits_Len {x : Int} {r : Int} (h : m_math_bits_Len x = some r) : Pure Tryz.prog 241 [.d (.v (.int .u64 x))] (I r) := by
  refine Pure.enter (Fr.of 0 _) Tryz.func241 rfl (Fr.of_ok _) rfl rfl ?_
  refine go_in ?_
  unfold m_math_bits_Len at h
  refine go hΓ 6 rfl ?_
  refine j_condK ?_
  obtain ⟨y1, hy1, h2⟩ := bi_ok h
  refine go hΓ 5 rfl ?_
  refine eo_callP (callable Tryz.func313 rfl rfl) (c_math_bits_Len64 hy1) rfl (Nat.le_of_ble_eq_true rfl) rfl rfl rfl rfl rfl ?_
  refine go_ops hΓ 4 rfl ?_
  obtain rfl := Option.some.inj h2
  exact fin_pure hΓ (.inr rfl) rfl rfl

theorem c_name_Call_2 {a : T_api_Called} {b : T_api_Called} {r : Int} (h : m_name_Call_2 a b = some r) : Pure Tryz.prog 173 [.agg [S a.Node, S a.Label], .agg [S b.Node, S b.Label]] (I r) := by
  refine Pure.enter (Fr.of 0 _) Tryz.func173 rfl (Fr.of_ok _) rfl rfl ?_
  refine go_in ?_
  unfold m_name_Call_2 at h
  refine go hΓ 2 rfl ?_
  refine eo_box rfl rfl rfl rfl (Nat.le_of_ble_eq_true rfl) ?_
  refine eo_box rfl rfl rfl rfl (Nat.le_of_ble_eq_true rfl) ?_
  obtain ⟨y1, hy1, h2⟩ := bi_ok h
  refine go_ops hΓ 9 rfl ?_
  refine eo_callP (callable Tryz.func174 rfl rfl) (c_strings_Compare hy1) rfl (Nat.le_of_ble_eq_true rfl) rfl rfl rfl rfl rfl ?_
  refine go_ops hΓ 4 rfl ?_
  obtain rfl := Option.some.inj h2
  exact fin_pure hΓ (.inr rfl) rfl rfl

theorem c_slices_insertionSortCmpFunc_api_Called {k : Nat} {data : List T_api_Called} {a : Int} {b : Int} {r : List T_api_Called} (h : m_slices_insertionSortCmpFunc_api_Called k data a b = some r) : EC Tryz.prog 319 [.sl 0 data.length, I a, I b, .fn (.func 173) [] []] [.row 112 2 data.length (data.flatMap e_api_Called)] fun g hp' => g = .tup [] ∧ hp' = [.row 112 2 r.length (r.flatMap e_api_Called)] := by
  refine ec_enter (Fr.of 0 _) Tryz.func319 rfl (Fr.of_ok _) (Nat.le_of_ble_eq_true rfl) fun _ => ?_
  refine go_in ?_
  unfold m_slices_insertionSortCmpFunc_api_Called at h
  refine go hΓ 7 rfl ?_
  obtain ⟨q4, hq4, h5⟩ := bi_ok h
  refine j_cutNZ [] [.row 112 2 q4.length (q4.flatMap e_api_Called)] ?_ ?_
  · refine go hΓ 1 rfl ?_
    refine j_loop hq4 (fun s2 => [(0, .sl 0 s2.1.length), (1, I a), (2, I b), (3, .fn (.func 173) [] []), (8, I s2.2)]) (fun s2 => [.row 112 2 s2.1.length (s2.1.flatMap e_api_Called)]) ⟨⟨rfl, rfl, rfl, rfl, rfl, trivial⟩, [], rfl, .inl rfl⟩ (fun s2 y10 hy8 hout9 => ?_)
    refine go hΓ 8 rfl ?_
    refine j_cond rfl (fun hb => ?_) (fun hb => ?_)
    · have h11 := cT hy8 hb
      refine go hΓ 10 rfl ?_
      obtain ⟨q15, hq15, h16⟩ := bi_ok h11
      refine j_cutNZ [(0, .sl 0 q15.length), (1, I a), (2, I b), (3, .fn (.func 173) [] []), (8, I s2.2)] [.row 112 2 q15.length (q15.flatMap e_api_Called)] ?_ ?_
      · refine go hΓ 1 rfl ?_
        refine j_loop hq15 (fun s13 => [(0, .sl 0 s13.1.length), (1, I a), (2, I b), (3, .fn (.func 173) [] []), (8, I s2.2), (9, I s13.2)]) (fun s13 => [.row 112 2 s13.1.length (s13.1.flatMap e_api_Called)]) ⟨⟨rfl, rfl, rfl, rfl, rfl, rfl, trivial⟩, [], rfl, .inl rfl⟩ (fun s13 y21 hy19 hout20 => ?_)
        obtain ⟨q22, hq22, h23⟩ := bi_ok hy19
        refine go hΓ 2 rfl ?_
        refine j_cutNZ [(0, .sl 0 s13.1.length), (1, I a), (2, I b), (3, .fn (.func 173) [] []), (8, I s2.2), (9, I s13.2), (34, B q22)] [.row 112 2 s13.1.length (s13.1.flatMap e_api_Called)] ?_ ?_
        · refine j_draw hmix (by kernel_rfl) ?_
          refine go hΓ 4 rfl ?_
          refine gl_gsplit rfl rfl (fun hb => ?_) (fun hb => ?_)
          · have h24 := cT hq22 hb
            obtain ⟨x25, hx25, h26⟩ := bi_ok h24
            have hj27 := getZ_at hx25
            refine go_draw hΓ 3 rfl ?_
            refine gl_og rfl rfl (op_elemRowZ hΓ hx25 rfl rfl rfl rfl rfl rfl) ?_
            refine gl_og rfl rfl (op_loadRowZ hΓ (enc := e_api_Called) s13.2.toNat 0 hj27 rfl rfl rfl rfl (fun _ => rfl) (g := .agg [S x25.Node, S x25.Label]) rfl) ?_
            obtain ⟨x28, hx28, h29⟩ := bi_ok h26
            have hj30 := getZ_at hx28
            refine go_draw hΓ 3 rfl ?_
            refine gl_og rfl rfl (op_elemRowZ hΓ hx28 rfl rfl rfl rfl rfl rfl) ?_
            refine gl_og rfl rfl (op_loadRowZ hΓ (enc := e_api_Called) ((wi (s13.2 - 1)).toNat) 0 hj30 rfl rfl rfl rfl (fun _ => rfl) (g := .agg [S x28.Node, S x28.Label]) rfl) ?_
            obtain ⟨y31, hy31, h32⟩ := bi_ok h29
            refine gl_callPg (callable Tryz.func173 rfl rfl) (c_name_Call_2 hy31) rfl rfl rfl rfl rfl rfl rfl ?_
            refine go_draw hΓ 3 rfl ?_
            obtain rfl := Option.some.inj h32
            exact ⟨⟨rfl, rfl, rfl, rfl, rfl, rfl, rfl, trivial⟩, [], rfl, .inl rfl⟩
          · have h33 := cF hq22 hb
            refine go_draw hΓ 14 rfl ?_
            obtain rfl := Option.some.inj h33
            exact ⟨⟨rfl, rfl, rfl, rfl, rfl, rfl, rfl, trivial⟩, [], rfl, .inl rfl⟩
        · refine go hΓ 1 rfl ?_
          refine j_cond rfl (fun hb => ?_) (fun hb => ?_)
          · have h34 := cT h23 hb
            refine go hΓ 4 rfl ?_
            refine j_drawE [.row 112 2 s13.1.length (s13.1.flatMap e_api_Called)] [9, 13] [15, 17] [15, 17] hmix (by kernel_rfl) (by kernel_rfl) ⟨rfl, trivial⟩ (Nat.le_of_ble_eq_true rfl) ?_
            obtain ⟨x35, hx35, h36⟩ := bi_ok h34
            have hj37 := getZ_at hx35
            refine go_E hΓ 8 rfl ?_
            refine ge_q rfl (.inl rfl) (fun _ _ => qte_of_qt (qt_p (op_elemRowZ hΓ hx35 rfl rfl rfl rfl rfl rfl))) ?_
            refine ge_p rfl (fun hp hs => op_loadRowZ hΓ (enc := e_api_Called) ((wi (s13.2 - 1)).toNat) 0 hj37 rfl rfl rfl (hs 0 _ rfl rfl) (fun _ => rfl) (g := .agg [S x35.Node, S x35.Label]) rfl) rfl ?_
            obtain ⟨x38, hx38, h39⟩ := bi_ok h36
            have hj40 := getZ_at hx38
            refine go_E hΓ 2 rfl ?_
            refine ge_q rfl (.inl rfl) (fun _ _ => qte_of_qt (qt_p (op_elemRowZ hΓ hx38 rfl rfl rfl rfl rfl rfl))) ?_
            refine ge_p rfl (fun hp hs => op_loadRowZ hΓ (enc := e_api_Called) s13.2.toNat 0 hj40 rfl rfl rfl (hs 0 _ rfl rfl) (fun _ => rfl) (g := .agg [S x38.Node, S x38.Label]) rfl) rfl ?_
            obtain ⟨x41, hx41, h42⟩ := bi_ok h39
            have hj43 := getZ_at hx41
            refine ge_q rfl (.inl rfl) (fun _ _ => qte_of_qt (qt_p (op_elemRowZ hΓ hx41 rfl rfl rfl rfl rfl rfl))) ?_
            refine ge_h0 [.row 112 2 (s13.1.set s13.2.toNat x35).length ((s13.1.set s13.2.toNat x35).flatMap e_api_Called)] rfl rfl (brk_st rfl) (qte_u (opu_setRowZ hΓ (enc := e_api_Called) (z' := x35) s13.2.toNat (by have := (List.getElem?_eq_some_iff.1 hj43).1; simpa using this) rfl rfl rfl rfl (fun _ => rfl) rfl rfl rfl rfl rfl)) ?_
            obtain ⟨x44, hx44, h45⟩ := bi_ok h42
            have hj46 := getZ_at hx44
            refine ge_q rfl (.inl rfl) (fun _ _ => qte_of_qt (qt_p (op_elemRowZ hΓ hx44 rfl rfl rfl rfl rfl rfl))) ?_
            refine ge_h0 [.row 112 2 ((s13.1.set s13.2.toNat x35).set ((wi (s13.2 - 1)).toNat) x38).length (((s13.1.set s13.2.toNat x35).set ((wi (s13.2 - 1)).toNat) x38).flatMap e_api_Called)] rfl rfl (brk_st rfl) (qte_u (opu_setRowZ hΓ (enc := e_api_Called) (z' := x38) ((wi (s13.2 - 1)).toNat) (by have := (List.getElem?_eq_some_iff.1 hj46).1; simpa using this) rfl rfl rfl rfl (fun _ => rfl) rfl rfl rfl rfl rfl)) ?_
            refine ge_fin ?_
            refine go hΓ 2 rfl ?_
            refine j_relen 0 (n' := ((s13.1.set s13.2.toNat x35).set ((wi (s13.2 - 1)).toNat) x38).length) rfl (by simp) ?_
            refine j_relen 37 (n' := ((s13.1.set s13.2.toNat x35).set ((wi (s13.2 - 1)).toNat) x38).length) rfl (by simp) ?_
            refine j_relen 39 (n' := ((s13.1.set s13.2.toNat x35).set ((wi (s13.2 - 1)).toNat) x38).length) rfl (by simp) ?_
            refine j_relen 42 (n' := ((s13.1.set s13.2.toNat x35).set ((wi (s13.2 - 1)).toNat) x38).length) rfl (by simp) ?_
            refine j_relen 47 (n' := ((s13.1.set s13.2.toNat x35).set ((wi (s13.2 - 1)).toNat) x38).length) rfl (by simp) ?_
            refine go hΓ 5 rfl ?_
            obtain rfl := Option.some.inj h45
            exact ⟨_, rfl, ⟨⟨rfl, rfl, rfl, rfl, rfl, rfl, trivial⟩, [], rfl, .inl rfl⟩⟩
          · have h47 := cF h23 hb
            refine go hΓ 4 rfl ?_
            obtain rfl := Option.some.inj h47
            obtain rfl := hout20 _ rfl
            exact ⟨⟨rfl, rfl, rfl, rfl, rfl, trivial⟩, [], rfl, .inl rfl⟩
      · refine go hΓ 7 rfl ?_
        obtain rfl := Option.some.inj h16
        exact ⟨_, rfl, ⟨⟨rfl, rfl, rfl, rfl, rfl, trivial⟩, [], rfl, .inl rfl⟩⟩
    · have h48 := cF hy8 hb
      refine go hΓ 4 rfl ?_
      obtain rfl := Option.some.inj h48
      obtain rfl := hout9 _ rfl
      exact ⟨trivial, [], rfl, .inl rfl⟩
  · obtain rfl := Option.some.inj h5
    exact fin_objs hΓ [] (.inl rfl) rfl rfl rfl rfl (.inl rfl)

theorem c_slices_pdqsortCmpFunc_api_Called {k : Nat} {data : List T_api_Called} {a : Int} {b : Int} {limit : Int} {r : List T_api_Called} (h : m_slices_pdqsortCmpFunc_api_Called k data a b limit = some r) : EC Tryz.prog 254 [.sl 0 data.length, I a, I b, I limit, .fn (.func 173) [] []] [.row 112 2 data.length (data.flatMap e_api_Called)] fun g hp' => g = .tup [] ∧ hp' = [.row 112 2 r.length (r.flatMap e_api_Called)] := by
  refine ec_enter (Fr.of 0 _) Tryz.func254 rfl (Fr.of_ok _) (Nat.le_of_ble_eq_true rfl) fun _ => ?_
  refine go_in ?_
  unfold m_slices_pdqsortCmpFunc_api_Called at h
  refine go hΓ 10 rfl ?_
  obtain ⟨q4, hq4, h5⟩ := bi_ok h
  refine go hΓ 1 rfl ?_
  refine j_loop hq4 (fun s2 => [(0, .sl 0 data.length), (1, I a), (2, I b), (3, I limit), (4, .fn (.func 173) [] []), (10, B true), (11, B true)]) (fun s2 => [.row 112 2 data.length (data.flatMap e_api_Called)]) ⟨⟨rfl, rfl, rfl, rfl, rfl, rfl, rfl, trivial⟩, [], rfl, .inl rfl⟩ (fun s2 y10 hy8 hout9 => ?_)
  refine go hΓ 16 rfl ?_
  refine j_cond rfl (fun hb => ?_) (fun hb => ?_)
  · have h11 := cT hy8 hb
    obtain ⟨y12, hy12, h13⟩ := bi_ok h11
    refine go hΓ 6 rfl ?_
    refine eo_callF [0] (.tup []) [.row 112 2 y12.length (y12.flatMap e_api_Called)] (callable Tryz.func319 rfl rfl) (c_slices_insertionSortCmpFunc_api_Called hy12) rfl (Nat.le_of_ble_eq_true rfl) rfl rfl rfl rfl rfl rfl rfl rfl rfl rfl ?_
    refine go_ops hΓ 5 rfl ?_
    obtain ⟨v14, hv14, h15⟩ := bi_ok h13
    obtain rfl := Option.some.inj h15
    obtain rfl := hout9 _ rfl
    obtain rfl := Option.some.inj h5
    refine go hΓ 2 rfl ?_
    obtain rfl := Option.some.inj hv14
    exact fin_objs hΓ [] (.inr rfl) rfl rfl rfl rfl (.inl rfl)
  · have h16 := cF hy8 hb
    refine go hΓ 9 rfl ?_
    refine j_cond rfl (fun hb => ?_) (fun hb => ?_)
    · have h17 := cT h16 hb
      refine go hΓ 6 rfl ?_
      cases h17
    · have h18 := cF h16 hb
      refine go hΓ 18 rfl ?_
      cases h18

theorem c_slices_SortFunc_api_Called_api_Called {k : Nat} {x : List T_api_Called} {r : List T_api_Called} (h : m_slices_SortFunc_api_Called_api_Called k x = some r) : EC Tryz.prog 172 [.sl 0 x.length, .fn (.func 173) [] []] [.row 112 2 x.length (x.flatMap e_api_Called)] fun g hp' => g = .tup [] ∧ hp' = [.row 112 2 r.length (r.flatMap e_api_Called)] := by
  refine ec_enter (Fr.of 0 _) Tryz.func172 rfl (Fr.of_ok _) (Nat.le_of_ble_eq_true rfl) fun _ => ?_
  refine go_in ?_
  unfold m_slices_SortFunc_api_Called_api_Called at h
  obtain ⟨y1, hy1, h2⟩ := bi_ok h
  refine go hΓ 12 rfl ?_
  refine eo_callP (callable Tryz.func241 rfl rfl) (c_math_bits_Len hy1) rfl (Nat.le_of_ble_eq_true rfl) rfl rfl rfl rfl rfl ?_
  obtain ⟨y3, hy3, h4⟩ := bi_ok h2
  refine go_ops hΓ 1 rfl ?_
  refine eo_callF [0] (.tup []) [.row 112 2 y3.length (y3.flatMap e_api_Called)] (callable Tryz.func254 rfl rfl) (c_slices_pdqsortCmpFunc_api_Called hy3) rfl (Nat.le_of_ble_eq_true rfl) rfl rfl rfl rfl rfl rfl rfl rfl rfl rfl ?_
  refine go_ops hΓ 1 rfl ?_
  obtain rfl := Option.some.inj h4
  exact fin_objs hΓ [] (.inl rfl) rfl rfl rfl rfl (.inl rfl)

theorem c_name_Call {k : Nat} {l : List T_api_Wish} {r : (List T_api_Called) × Int} (h : m_name_Call k l = some r) : Pure Tryz.prog 64 [.d (Sl e_api_Wish l)] (.tup [.d (Sl e_api_Called r.1), I r.2]) := by
  refine Pure.enter (Fr.of 0 _) Tryz.func64 rfl (Fr.of_ok _) rfl rfl ?_
  refine go_in ?_
  unfold m_name_Call at h
  obtain ⟨y1, hy1, h2⟩ := bi_ok h
  refine go hΓ 10 rfl ?_
  refine eo_callP (callable Tryz.func168 rfl rfl) (c_name_wishesFault hy1) rfl (Nat.le_of_ble_eq_true rfl) rfl rfl rfl rfl rfl ?_
  refine go_ops hΓ 9 rfl ?_
  refine j_cond rfl (fun hb => ?_) (fun hb => ?_)
  · have h3 := cT h2 hb
    refine go hΓ 9 rfl ?_
    obtain rfl := Option.some.inj h3
    exact fin_pure hΓ (.inr rfl) rfl rfl
  · have h4 := cF h2 hb
    obtain ⟨y5, hy5, h6⟩ := bi_ok h4
    refine go hΓ 5 rfl ?_
    refine eo_callF [] (.sl 0 y5.length) [.row 107 3 y5.length (y5.flatMap e_api_Wish)] (callable Tryz.func169 rfl rfl) (c_slices_Clone_api_Wish_api_Wish hy5) rfl (Nat.le_of_ble_eq_true rfl) rfl rfl rfl rfl rfl rfl rfl rfl rfl rfl ?_
    obtain ⟨y7, hy7, h8⟩ := bi_ok h6
    refine go_ops hΓ 6 rfl ?_
    refine eo_callF [0] (.tup []) [.row 107 3 y7.length (y7.flatMap e_api_Wish)] (callable Tryz.func170 rfl rfl) (c_slices_SortStableFunc_api_Wish_api_Wish hy7) rfl (Nat.le_of_ble_eq_true rfl) rfl rfl rfl rfl rfl rfl rfl rfl rfl rfl ?_
    obtain ⟨hg10, h9⟩ := gd_ok h8
    refine eo_relen 5 rfl (of_decide_eq_true hg10).symm ?_
    refine go_ops hΓ 4 rfl ?_
    refine eo_s (Nat.le_of_ble_eq_true rfl) (nblt.1 rfl) (ops_makeMap false) ?_
    refine eo_hp [.row 107 3 y7.length (y7.flatMap e_api_Wish), mOb kS false eB ([] : List (Str × Bool))] rfl ?_
    refine go_ops hΓ 5 rfl ?_
    refine eo_nilOwn (t := 0) 112 2 rfl (Nat.le_of_ble_eq_true rfl) ?_
    refine go_ops hΓ 10 rfl ?_
    obtain ⟨q14, hq14, h15⟩ := bi_ok h9
    obtain ⟨hb17, h18⟩ := gd_ok hq14
    replace hb17 := of_decide_eq_true hb17
    refine j_cutNZ [(7, .sl 2 q14.2.length)] [.row 107 3 y7.length (y7.flatMap e_api_Wish), mOb kS false eB q14.1, .row 112 2 q14.2.length (q14.2.flatMap e_api_Called)] ?_ ?_
    · refine go hΓ 1 rfl ?_
      refine j_rangeG h18 (fun i11 s12 => [(6, .map 1), (7, .sl 2 s12.2.length), (24, .sl 0 y7.length), (25, I (y7.length : Int)), (26, I (i11 : Int))]) (fun s12 => [.row 107 3 y7.length (y7.flatMap e_api_Wish), mOb kS false eB s12.1, .row 112 2 s12.2.length (s12.2.flatMap e_api_Called)]) ⟨⟨rfl, rfl, rfl, rfl, rfl, trivial⟩, [], rfl, .inl rfl⟩ (fun i11 s12 y22 hlt hy20 => ?_) (fun hge => ?_)
      · refine go hΓ 6 rfl ?_
        refine j_condT rfl (decide_eq_true hlt) ?_
        obtain ⟨x23, hx23, h24⟩ := bi_ok hy20
        have hj25 := getZ_at hx23
        refine go hΓ 6 rfl ?_
        refine eo_o rfl (op_elemRowZ hΓ hx23 rfl rfl rfl rfl rfl rfl) ?_
        refine eo_o rfl (op_loadRowZ hΓ (enc := e_api_Wish) ((i11 : Int).toNat) 0 hj25 rfl rfl rfl rfl (fun _ => rfl) (g := .agg [S x23.Node, S x23.Name, I x23.Joined]) rfl) ?_
        refine eo_alloc hΓ rfl rfl rfl (Nat.le_of_ble_eq_true rfl) ?_
        refine eo_store hΓ rfl rfl rfl rfl rfl rfl rfl rfl (Nat.le_of_ble_eq_true rfl) ?_
        refine eo_hp [.row 107 3 y7.length (y7.flatMap e_api_Wish), mOb kS false eB s12.1, .row 112 2 s12.2.length (s12.2.flatMap e_api_Called), .box 107 [S x23.Node, S x23.Name, I x23.Joined]] rfl ?_
        obtain ⟨y26, hy26, h27⟩ := bi_ok h24
        refine go_ops hΓ 6 rfl ?_
        refine eo_callP (callable Tryz.func65 rfl rfl) (c_name_Label hy26) rfl (Nat.le_of_ble_eq_true rfl) rfl rfl rfl rfl rfl ?_
        refine go_ops hΓ 15 rfl ?_
        obtain ⟨q31, hq31, h32⟩ := bi_ok h27
        refine j_cutNZ [(6, .map 1), (7, .sl 2 s12.2.length), (9, .ptr 3 0), (11, S q31), (24, .sl 0 y7.length), (25, I (y7.length : Int)), (26, I (i11 : Int))] [.row 107 3 y7.length (y7.flatMap e_api_Wish), mOb kS false eB s12.1, .row 112 2 s12.2.length (s12.2.flatMap e_api_Called), .box 107 [S x23.Node, S x23.Name, I x23.Joined]] ?_ ?_
        · refine go hΓ 1 rfl ?_
          refine j_loop hq31 (fun s29 => [(6, .map 1), (7, .sl 2 s12.2.length), (9, .ptr 3 0), (10, S y26), (11, S s29.1), (12, I s29.2), (24, .sl 0 y7.length), (25, I (y7.length : Int)), (26, I (i11 : Int))]) (fun s29 => [.row 107 3 y7.length (y7.flatMap e_api_Wish), mOb kS false eB s12.1, .row 112 2 s12.2.length (s12.2.flatMap e_api_Called), .box 107 [S x23.Node, S x23.Name, I x23.Joined]]) ⟨⟨rfl, rfl, rfl, rfl, rfl, rfl, rfl, rfl, rfl, trivial⟩, [], rfl, .inl rfl⟩ (fun s29 y37 hy35 hout36 => ?_)
          refine go hΓ 5 rfl ?_
          refine eo_o rfl (op_lookup hΓ (kv := kS) (agg := false) (enc := eB) s12.1 s29.1 (false : Bool) rfl rfl rfl rfl key_str rfl rfl rfl rfl rfl rfl rfl) ?_
          refine go_ops hΓ 2 rfl ?_
          refine j_cond rfl (fun hb => ?_) (fun hb => ?_)
          · have h38 := cT hy35 hb
            obtain ⟨y39, hy39, h40⟩ := bi_ok h38
            refine go hΓ 7 rfl ?_
            refine eo_callP (callable Tryz.func126 rfl rfl) (c_strconv_Itoa hy39) rfl (Nat.le_of_ble_eq_true rfl) rfl rfl rfl rfl rfl ?_
            obtain ⟨y41, hy41, h42⟩ := bi_ok h40
            refine eo_o rfl (op_catZ hy41 rfl rfl) ?_
            obtain ⟨z43, hz43, h44⟩ := bi_ok h42
            refine go_ops hΓ 11 rfl ?_
            refine eo_o rfl (op_subZ hΓ hz43 rfl rfl rfl rfl rfl) ?_
            obtain ⟨y45, hy45, h46⟩ := bi_ok h44
            refine go_ops hΓ 1 rfl ?_
            refine eo_o rfl (op_catZ hy45 rfl rfl) ?_
            refine go_ops hΓ 9 rfl ?_
            obtain rfl := Option.some.inj h46
            exact ⟨_, rfl, ⟨⟨rfl, rfl, rfl, rfl, rfl, rfl, rfl, rfl, rfl, trivial⟩, [], rfl, .inl rfl⟩⟩
          · have h47 := cF hy35 hb
            refine go hΓ 4 rfl ?_
            obtain rfl := Option.some.inj h47
            obtain rfl := hout36 _ rfl
            exact ⟨⟨rfl, rfl, rfl, rfl, rfl, rfl, rfl, trivial⟩, [], rfl, .inl rfl⟩
        · refine go hΓ 5 rfl ?_
          refine eo_u (Nat.le_of_ble_eq_true rfl) (opu_mapUpdate hΓ (kv := kS) (agg := false) (enc := eB) s12.1 q31 true rfl rfl rfl key_str rfl rfl rfl rfl rfl) ?_
          refine eo_hp [.row 107 3 y7.length (y7.flatMap e_api_Wish), mOb kS false eB (mSet s12.1 q31 true), .row 112 2 s12.2.length (s12.2.flatMap e_api_Called), .box 107 [S x23.Node, S x23.Name, I x23.Joined]] rfl ?_
          refine go_ops hΓ 7 rfl ?_
          refine eo_build hΓ (gs := [S x23.Node, S q31]) rfl rfl rfl rfl rfl rfl rfl ?_
          refine eo_litT hΓ (enc := e_api_Called) [(⟨x23.Node, q31⟩ : T_api_Called)] rfl rfl rfl rfl rfl rfl rfl rfl rfl rfl rfl rfl (Nat.le_of_ble_eq_true rfl) ?_
          obtain ⟨y48, hy48, h49⟩ := bi_ok h32
          refine eo_appendT hΓ (enc := e_api_Called) hy48 rfl rfl rfl rfl rfl rfl rfl rfl rfl (fun _ => rfl) rfl rfl rfl rfl ?_
          refine go_ops hΓ 8 rfl ?_
          obtain rfl := Option.some.inj h49
          exact ⟨⟨rfl, rfl, rfl, rfl, get_eq rfl (w64_succ (by omega)), trivial⟩, [_], rfl, .inr ⟨HB.mk rfl, FB.mk rfl, (Nat.le_of_ble_eq_true rfl)⟩⟩
      · refine go hΓ 6 rfl ?_
        refine j_condF rfl (decide_eq_false hge) ?_
        refine go hΓ 4 rfl ?_
        exact ⟨⟨rfl, trivial⟩, [], rfl, .inl rfl⟩
    · obtain ⟨y50, hy50, h51⟩ := bi_ok h15
      refine go hΓ 4 rfl ?_
      refine eo_callF [2] (.tup []) [.row 107 3 y7.length (y7.flatMap e_api_Wish), mOb kS false eB q14.1, .row 112 2 y50.length (y50.flatMap e_api_Called)] (callable Tryz.func172 rfl rfl) (c_slices_SortFunc_api_Called_api_Called hy50) rfl (Nat.le_of_ble_eq_true rfl) rfl rfl rfl rfl rfl rfl rfl rfl rfl rfl ?_
      obtain ⟨hg53, h52⟩ := gd_ok h51
      refine eo_relen 7 rfl (of_decide_eq_true hg53).symm ?_
      refine go_ops hΓ 6 rfl ?_
      refine eo_shr 2 [2] _ [.row 107 3 y7.length (y7.flatMap e_api_Wish), mOb kS false eB q14.1, .dead] rfl rfl rfl (Nat.le_of_ble_eq_true rfl) ?_
      refine go_ops hΓ 4 rfl ?_
      obtain rfl := Option.some.inj h52
      exact fin_pure hΓ (.inr rfl) rfl rfl

theorem c_lanemake_Stream_Changed {s : T_lanemake_Stream} {t : Str} {v_with : Str} {r : Str × T_lanemake_Stream} (h : m_lanemake_Stream_Changed s t v_with = some r) : EC Tryz.prog 42 [.ptr 0 0, S t, S v_with] [.box 25 [.d (Sl (eN .i64) s.L), I s.v_at]] fun g hp' => g = S r.1 ∧ hp' = [.box 25 [.d (Sl (eN .i64) r.2.L), I r.2.v_at]] := by
  refine ec_enter (Fr.of 0 _) Tryz.func42 rfl (Fr.of_ok _) (Nat.le_of_ble_eq_true rfl) fun _ => ?_
  refine go_in ?_
  unfold m_lanemake_Stream_Changed at h
  refine go hΓ 11 rfl ?_
  refine o_cut 3 [(0, .ptr 0 0), (1, S t), (2, S v_with), (14, B (((t : Str) == []) || ((v_with : Str) == [])))] [.box 25 [.d (Sl (eN .i64) s.L), I s.v_at]] ?_ ?_
  · refine eo_gsplit rfl rfl (fun hb => ?_) (fun hb => ?_)
    · refine go_ops hΓ 4 rfl ?_
      exact ⟨⟨rfl, rfl, rfl, get_b rfl (or_t hb), trivial⟩, [], rfl, .inl rfl⟩
    · refine go_ops hΓ 4 rfl ?_
      exact ⟨⟨rfl, rfl, rfl, get_b rfl (or_f hb), trivial⟩, [], rfl, .inl rfl⟩
  · refine go_ops hΓ 2 rfl ?_
    refine j_cond rfl (fun hb => ?_) (fun hb => ?_)
    · have h1 := cT h hb
      refine go hΓ 8 rfl ?_
      obtain rfl := Option.some.inj h1
      exact fin_objs hΓ [] (.inr rfl) rfl rfl rfl rfl (.inl rfl)
    · have h2 := cF h hb
      obtain ⟨y3, hy3, h4⟩ := bi_ok h2
      refine go hΓ 7 rfl ?_
      refine eo_callF [0] (I y3.1) [.box 25 [.d (Sl (eN .i64) y3.2.L), I y3.2.v_at]] (callable Tryz.func47 rfl rfl) (c_lanemake_Stream_Next hy3) rfl (Nat.le_of_ble_eq_true rfl) rfl rfl rfl rfl rfl rfl rfl rfl rfl rfl ?_
      obtain ⟨y5, hy5, h6⟩ := bi_ok h4
      refine go_ops hΓ 9 rfl ?_
      refine eo_callF [0] (I y5.1) [.box 25 [.d (Sl (eN .i64) y5.2.L), I y5.2.v_at]] (callable Tryz.func47 rfl rfl) (c_lanemake_Stream_Next hy5) rfl (Nat.le_of_ble_eq_true rfl) rfl rfl rfl rfl rfl rfl rfl rfl rfl rfl ?_
      obtain ⟨c7, hc7, h8⟩ := bi_ok h6
      refine eo_o rfl (op_byteZ hΓ hc7 rfl rfl rfl rfl) ?_
      obtain ⟨y9, hy9, h10⟩ := bi_ok h8
      refine go_ops hΓ 7 rfl ?_
      refine eo_callF [0] (I y9.1) [.box 25 [.d (Sl (eN .i64) y9.2.L), I y9.2.v_at]] (callable Tryz.func47 rfl rfl) (c_lanemake_Stream_Next hy9) rfl (Nat.le_of_ble_eq_true rfl) rfl rfl rfl rfl rfl rfl rfl rfl rfl rfl ?_
      refine go_ops hΓ 9 rfl ?_
      refine j_cond rfl (fun hb => ?_) (fun hb => ?_)
      · have h11 := cT h10 hb
        refine go hΓ 1 rfl ?_
        refine j_draw hmix (by kernel_rfl) ?_
        obtain ⟨z12, hz12, h13⟩ := bi_ok h11
        refine go hΓ 2 rfl ?_
        refine gl_o rfl (op_subZ hΓ hz12 rfl rfl rfl rfl rfl) ?_
        refine go_draw hΓ 2 rfl ?_
        refine gl_o rfl (op_runeS hΓ rfl rfl rfl rfl rfl) ?_
        obtain ⟨y14, hy14, h15⟩ := bi_ok h13
        refine gl_o rfl (op_catZ hy14 rfl rfl) ?_
        obtain ⟨z16, hz16, h17⟩ := bi_ok h15
        refine go_draw hΓ 3 rfl ?_
        refine gl_o rfl (op_subZ hΓ hz16 rfl rfl rfl rfl rfl) ?_
        obtain ⟨y18, hy18, h19⟩ := bi_ok h17
        refine gl_o rfl (op_catZ hy18 rfl rfl) ?_
        refine go_draw hΓ 6 rfl ?_
        obtain rfl := Option.some.inj h19
        exact fin_objs hΓ [] (.inr rfl) rfl rfl rfl rfl (.inl rfl)
      · have h20 := cF h10 hb
        refine go hΓ 6 rfl ?_
        refine j_cond rfl (fun hb => ?_) (fun hb => ?_)
        · have h21 := cT h20 hb
          refine go hΓ 1 rfl ?_
          refine j_draw hmix (by kernel_rfl) ?_
          obtain ⟨z22, hz22, h23⟩ := bi_ok h21
          refine go hΓ 2 rfl ?_
          refine gl_o rfl (op_subZ hΓ hz22 rfl rfl rfl rfl rfl) ?_
          refine go_draw hΓ 2 rfl ?_
          refine gl_o rfl (op_runeS hΓ rfl rfl rfl rfl rfl) ?_
          obtain ⟨y24, hy24, h25⟩ := bi_ok h23
          refine gl_o rfl (op_catZ hy24 rfl rfl) ?_
          obtain ⟨z26, hz26, h27⟩ := bi_ok h25
          refine go_draw hΓ 2 rfl ?_
          refine gl_o rfl (op_subZ hΓ hz26 rfl rfl rfl rfl rfl) ?_
          obtain ⟨y28, hy28, h29⟩ := bi_ok h27
          refine gl_o rfl (op_catZ hy28 rfl rfl) ?_
          refine go_draw hΓ 6 rfl ?_
          obtain rfl := Option.some.inj h29
          exact fin_objs hΓ [] (.inr rfl) rfl rfl rfl rfl (.inl rfl)
        · have h30 := cF h20 hb
          refine go hΓ 4 rfl ?_
          refine j_draw hmix (by kernel_rfl) ?_
          obtain ⟨z31, hz31, h32⟩ := bi_ok h30
          refine go hΓ 2 rfl ?_
          refine gl_o rfl (op_subZ hΓ hz31 rfl rfl rfl rfl rfl) ?_
          obtain ⟨z33, hz33, h34⟩ := bi_ok h32
          refine go_draw hΓ 3 rfl ?_
          refine gl_o rfl (op_subZ hΓ hz33 rfl rfl rfl rfl rfl) ?_
          obtain ⟨y35, hy35, h36⟩ := bi_ok h34
          refine gl_o rfl (op_catZ hy35 rfl rfl) ?_
          refine go_draw hΓ 4 rfl ?_
          obtain rfl := Option.some.inj h36
          exact fin_objs hΓ [] (.inr rfl) rfl rfl rfl rfl (.inl rfl)

theorem c_laneref1_LabelOf {s : Str} {r : Str} (h : m_laneref1_LabelOf s = some r) : Pure Tryz.prog 66 [S s] (S r) := by
  refine Pure.enter (Fr.of 0 _) Tryz.func66 rfl (Fr.of_ok _) rfl rfl ?_
  refine go_in ?_
  unfold m_laneref1_LabelOf at h
  refine go hΓ 7 rfl ?_
  refine eo_nilOwn (t := 0) 9 1 rfl (Nat.le_of_ble_eq_true rfl) ?_
  refine go_ops hΓ 15 rfl ?_
  obtain ⟨q4, hq4, h5⟩ := bi_ok h
  obtain ⟨hb7, h8⟩ := gd_ok hq4
  replace hb7 := of_decide_eq_true hb7
  refine j_cutNZ [(3, .sl 0 q4.1.length), (4, S q4.2)] [.row 9 1 q4.1.length (q4.1.flatMap eS)] ?_ ?_
  · refine go hΓ 1 rfl ?_
    refine j_rangeG h8 (fun i1 s2 => [(0, S s), (3, .sl 0 s2.1.length), (4, S s2.2), (9, I (s.length : Int)), (10, I (i1 : Int))]) (fun s2 => [.row 9 1 s2.1.length (s2.1.flatMap eS)]) ⟨⟨rfl, rfl, rfl, rfl, rfl, trivial⟩, [], rfl, .inl rfl⟩ (fun i1 s2 y12 hlt hy10 => ?_) (fun hge => ?_)
    · refine go hΓ 6 rfl ?_
      refine j_condT rfl (decide_eq_true hlt) ?_
      obtain ⟨c13, hc13, h14⟩ := bi_ok hy10
      refine go hΓ 14 rfl ?_
      refine eo_o rfl (op_byteZ hΓ hc13 rfl rfl rfl rfl) ?_
      refine go_ops hΓ 9 rfl ?_
      refine o_cut 3 [(0, S s), (3, .sl 0 s2.1.length), (4, S s2.2), (6, .d (.v (.int .u8 (c13.toNat : Int)))), (9, I (s.length : Int)), (10, I (i1 : Int)), (21, B ((decide (((c13.toNat : Int) : Int) ≥ 65)) && (decide (((c13.toNat : Int) : Int) ≤ 90))))] [.row 9 1 s2.1.length (s2.1.flatMap eS)] ?_ ?_
      · refine eo_gsplit rfl rfl (fun hb => ?_) (fun hb => ?_)
        · refine go_ops hΓ 4 rfl ?_
          exact ⟨⟨rfl, rfl, rfl, rfl, rfl, rfl, get_b rfl (and_t hb), trivial⟩, [], rfl, .inl rfl⟩
        · refine go_ops hΓ 4 rfl ?_
          exact ⟨⟨rfl, rfl, rfl, rfl, rfl, rfl, get_b rfl (and_f hb), trivial⟩, [], rfl, .inl rfl⟩
      · obtain ⟨q15, hq15, h16⟩ := bi_ok h14
        refine go_ops hΓ 2 rfl ?_
        refine j_cutNZ [(0, S s), (3, .sl 0 s2.1.length), (4, S s2.2), (6, .d (.v (.int .u8 q15))), (9, I (s.length : Int)), (10, I (i1 : Int))] [.row 9 1 s2.1.length (s2.1.flatMap eS)] ?_ ?_
        · refine j_cond rfl (fun hb => ?_) (fun hb => ?_)
          · have h17 := cT hq15 hb
            refine go hΓ 5 rfl ?_
            obtain rfl := Option.some.inj h17
            exact ⟨⟨rfl, rfl, rfl, rfl, rfl, rfl, trivial⟩, [], rfl, .inl rfl⟩
          · have h18 := cF hq15 hb
            refine go hΓ 1 rfl ?_
            obtain rfl := Option.some.inj h18
            exact ⟨⟨rfl, rfl, rfl, rfl, rfl, rfl, trivial⟩, [], rfl, .inl rfl⟩
        · refine go hΓ 7 rfl ?_
          obtain ⟨q19, hq19, h20⟩ := bi_ok h16
          refine o_cut 4 [(0, S s), (3, .sl 0 s2.1.length), (4, S s2.2), (6, .d (.v (.int .u8 q15))), (9, I (s.length : Int)), (10, I (i1 : Int)), (30, B q19)] [.row 9 1 s2.1.length (s2.1.flatMap eS)] ?_ ?_
          · refine eo_gsplit rfl rfl (fun hb => ?_) (fun hb => ?_)
            · have h21 := cT hq19 hb
              obtain ⟨y22, hy22, h23⟩ := bi_ok h21
              refine go_ops hΓ 1 rfl ?_
              refine eo_guard rfl ?_
              refine eo_callP (callable Tryz.func177 rfl rfl) (c_strings_IndexByte hy22) rfl (Nat.le_of_ble_eq_true rfl) rfl rfl rfl rfl rfl ?_
              refine go_ops hΓ 3 rfl ?_
              obtain rfl := Option.some.inj h23
              exact ⟨⟨rfl, rfl, rfl, rfl, rfl, rfl, rfl, trivial⟩, [], rfl, .inl rfl⟩
            · have h24 := cF hq19 hb
              refine go_ops hΓ 5 rfl ?_
              obtain rfl := Option.some.inj h24
              exact ⟨⟨rfl, rfl, rfl, rfl, rfl, rfl, rfl, trivial⟩, [], rfl, .inl rfl⟩
          · refine go_ops hΓ 2 rfl ?_
            refine j_cond rfl (fun hb => ?_) (fun hb => ?_)
            · have h25 := cT h20 hb
              refine go hΓ 5 rfl ?_
              refine eo_o rfl (op_runeS hΓ rfl rfl rfl rfl rfl) ?_
              obtain ⟨y26, hy26, h27⟩ := bi_ok h25
              refine eo_o rfl (op_catZ hy26 rfl rfl) ?_
              refine go_ops hΓ 11 rfl ?_
              obtain rfl := Option.some.inj h27
              exact ⟨⟨rfl, rfl, rfl, rfl, get_eq rfl (w64_succ (by omega)), trivial⟩, [], rfl, .inl rfl⟩
            · have h28 := cF h20 hb
              refine go hΓ 7 rfl ?_
              refine o_cut 4 [(0, S s), (3, .sl 0 s2.1.length), (4, S s2.2), (9, I (s.length : Int)), (10, I (i1 : Int)), (42, B ((!((s2.2 : Str) == [])) || (((s2.1.length : Int) : Int) == 0)))] [.row 9 1 s2.1.length (s2.1.flatMap eS)] ?_ ?_
              · refine eo_gsplit rfl rfl (fun hb => ?_) (fun hb => ?_)
                · refine go_ops hΓ 5 rfl ?_
                  exact ⟨⟨rfl, rfl, rfl, rfl, rfl, get_b rfl (or_t hb), trivial⟩, [], rfl, .inl rfl⟩
                · refine go_ops hΓ 5 rfl ?_
                  exact ⟨⟨rfl, rfl, rfl, rfl, rfl, get_b rfl (or_f hb), trivial⟩, [], rfl, .inl rfl⟩
              · refine go_ops hΓ 2 rfl ?_
                refine j_cond rfl (fun hb => ?_) (fun hb => ?_)
                · have h29 := cT h28 hb
                  refine go hΓ 4 rfl ?_
                  refine eo_litT hΓ (enc := eS) [s2.2] rfl rfl rfl rfl rfl rfl rfl rfl rfl rfl rfl rfl (Nat.le_of_ble_eq_true rfl) ?_
                  obtain ⟨y30, hy30, h31⟩ := bi_ok h29
                  refine eo_appendT hΓ (enc := eS) hy30 rfl rfl rfl rfl rfl rfl rfl rfl rfl (fun _ => rfl) rfl rfl rfl rfl ?_
                  refine go_ops hΓ 12 rfl ?_
                  obtain rfl := Option.some.inj h31
                  exact ⟨⟨rfl, rfl, rfl, rfl, get_eq rfl (w64_succ (by omega)), trivial⟩, [], rfl, .inl rfl⟩
                · have h32 := cF h28 hb
                  refine go hΓ 7 rfl ?_
                  obtain rfl := Option.some.inj h32
                  exact ⟨⟨rfl, rfl, rfl, rfl, get_eq rfl (w64_succ (by omega)), trivial⟩, [], rfl, .inl rfl⟩
    · refine go hΓ 6 rfl ?_
      refine j_condF rfl (decide_eq_false hge) ?_
      refine go hΓ 4 rfl ?_
      exact ⟨⟨rfl, rfl, trivial⟩, [], rfl, .inl rfl⟩
  · refine go hΓ 5 rfl ?_
    refine eo_litT hΓ (enc := eS) [q4.2] rfl rfl rfl rfl rfl rfl rfl rfl rfl rfl rfl rfl (Nat.le_of_ble_eq_true rfl) ?_
    obtain ⟨y33, hy33, h34⟩ := bi_ok h5
    refine eo_appendT hΓ (enc := eS) hy33 rfl rfl rfl rfl rfl rfl rfl rfl rfl (fun _ => rfl) rfl rfl rfl rfl ?_
    obtain ⟨y35, hy35, h36⟩ := bi_ok h34
    refine go_ops hΓ 6 rfl ?_
    refine eo_callL (callable Tryz.func178 rfl rfl) (c_strings_Join hy35) rfl (Nat.le_of_ble_eq_true rfl) rfl rfl rfl rfl rfl ?_
    obtain ⟨z37, hz37, h38⟩ := bi_ok h36
    refine go_ops hΓ 9 rfl ?_
    refine eo_o rfl (op_subZ hΓ hz37 rfl rfl rfl rfl rfl) ?_
    obtain ⟨y39, hy39, h40⟩ := bi_ok h38
    refine eo_callP (callable Tryz.func176 rfl rfl) (c_strings_Trim hy39) rfl (Nat.le_of_ble_eq_true rfl) rfl rfl rfl rfl rfl ?_
    refine go_ops hΓ 10 rfl ?_
    refine j_cond rfl (fun hb => ?_) (fun hb => ?_)
    · have h41 := cT h40 hb
      refine go hΓ 7 rfl ?_
      obtain rfl := Option.some.inj h41
      exact fin_pure hΓ (.inr rfl) rfl rfl
    · have h42 := cF h40 hb
      refine go hΓ 9 rfl ?_
      obtain rfl := Option.some.inj h42
      exact fin_pure hΓ (.inr rfl) rfl rfl

theorem c_laneref2_in {n : Int} {low : Int} {high : Int} {r : Bool} (h : m_laneref2_in n low high = some r) : Pure Tryz.prog 251 [I n, I low, I high] (B r) := by
  refine Pure.enter (Fr.of 0 _) Tryz.func251 rfl (Fr.of_ok _) rfl rfl ?_
  refine go_in ?_
  unfold m_laneref2_in at h
  refine go hΓ 11 rfl ?_
  refine o_cut 4 [(6, B false), (14, B ((decide ((low : Int) ≤ n)) && (decide ((n : Int) ≤ high))))] [] ?_ ?_
  · refine eo_gsplit rfl rfl (fun hb => ?_) (fun hb => ?_)
    · refine go_ops hΓ 5 rfl ?_
      exact ⟨⟨rfl, get_b rfl (and_t hb), trivial⟩, [], rfl, .inl rfl⟩
    · refine go_ops hΓ 5 rfl ?_
      exact ⟨⟨rfl, get_b rfl (and_f hb), trivial⟩, [], rfl, .inl rfl⟩
  · refine go_ops hΓ 4 rfl ?_
    obtain rfl := Option.some.inj h
    exact fin_pure hΓ (.inr rfl) rfl rfl

theorem c_laneref2_only {s : Str} {v_some : Str} {r : Bool} (h : m_laneref2_only s v_some = some r) : Pure Tryz.prog 234 [S s, S v_some] (B r) := by
  refine Pure.enter (Fr.of 0 _) Tryz.func234 rfl (Fr.of_ok _) rfl rfl ?_
  refine go_in ?_
  unfold m_laneref2_only at h
  obtain ⟨y1, hy1, h2⟩ := bi_ok h
  refine go hΓ 9 rfl ?_
  refine eo_callP (callable Tryz.func176 rfl rfl) (c_strings_Trim hy1) rfl (Nat.le_of_ble_eq_true rfl) rfl rfl rfl rfl rfl ?_
  refine go_ops hΓ 5 rfl ?_
  obtain rfl := Option.some.inj h2
  exact fin_pure hΓ (.inr rfl) rfl rfl

theorem c_laneref2_Key {s : Str} {r : Bool} (h : m_laneref2_Key s = some r) : Pure Tryz.prog 160 [S s] (B r) := by
  refine Pure.enter (Fr.of 0 _) Tryz.func160 rfl (Fr.of_ok _) rfl rfl ?_
  refine go_in ?_
  unfold m_laneref2_Key at h
  obtain ⟨y1, hy1, h2⟩ := bi_ok h
  refine go hΓ 9 rfl ?_
  refine eo_callP (callable Tryz.func251 rfl rfl) (c_laneref2_in hy1) rfl (Nat.le_of_ble_eq_true rfl) rfl rfl rfl rfl rfl ?_
  refine go_ops hΓ 1 rfl ?_
  obtain ⟨q3, hq3, h4⟩ := bi_ok h2
  refine o_cut 4 [(0, S s), (2, B false), (10, B q3)] [] ?_ ?_
  · refine eo_gsplit rfl rfl (fun hb => ?_) (fun hb => ?_)
    · have h5 := cT hq3 hb
      obtain ⟨z6, hz6, h7⟩ := bi_ok h5
      refine go_ops hΓ 1 rfl ?_
      refine eo_guard rfl ?_
      refine eo_o rfl (op_subZ hΓ hz6 rfl rfl rfl rfl rfl) ?_
      obtain ⟨y8, hy8, h9⟩ := bi_ok h7
      refine eo_guard rfl ?_
      refine eo_callP (callable Tryz.func234 rfl rfl) (c_laneref2_only hy8) rfl (Nat.le_of_ble_eq_true rfl) rfl rfl rfl rfl rfl ?_
      refine go_ops hΓ 2 rfl ?_
      obtain rfl := Option.some.inj h9
      exact ⟨⟨rfl, rfl, rfl, trivial⟩, [], rfl, .inl rfl⟩
    · have h10 := cF hq3 hb
      refine go_ops hΓ 5 rfl ?_
      obtain rfl := Option.some.inj h10
      exact ⟨⟨rfl, rfl, rfl, trivial⟩, [], rfl, .inl rfl⟩
  · refine go_ops hΓ 1 rfl ?_
    obtain ⟨q11, hq11, h12⟩ := bi_ok h4
    refine o_cut 3 [(2, B false), (14, B q11)] [] ?_ ?_
    · refine eo_gsplit rfl rfl (fun hb => ?_) (fun hb => ?_)
      · have h13 := cT hq11 hb
        obtain ⟨y14, hy14, h15⟩ := bi_ok h13
        refine go_ops hΓ 1 rfl ?_
        refine eo_guard rfl ?_
        refine eo_callP (callable Tryz.func234 rfl rfl) (c_laneref2_only hy14) rfl (Nat.le_of_ble_eq_true rfl) rfl rfl rfl rfl rfl ?_
        refine go_ops hΓ 2 rfl ?_
        obtain rfl := Option.some.inj h15
        exact ⟨⟨rfl, rfl, trivial⟩, [], rfl, .inl rfl⟩
      · have h16 := cF hq11 hb
        refine go_ops hΓ 4 rfl ?_
        obtain rfl := Option.some.inj h16
        exact ⟨⟨rfl, rfl, trivial⟩, [], rfl, .inl rfl⟩
    · refine go_ops hΓ 4 rfl ?_
      obtain rfl := Option.some.inj h12
      exact fin_pure hΓ (.inr rfl) rfl rfl

theorem c_laneref2_Moment {v_at : Int} {r : Bool} (h : m_laneref2_Moment v_at = some r) : Pure Tryz.prog 179 [I v_at] (B r) := by
  refine Pure.enter (Fr.of 0 _) Tryz.func179 rfl (Fr.of_ok _) rfl rfl ?_
  refine go_in ?_
  unfold m_laneref2_Moment at h
  obtain ⟨y1, hy1, h2⟩ := bi_ok h
  refine go hΓ 8 rfl ?_
  refine eo_callP (callable Tryz.func251 rfl rfl) (c_laneref2_in hy1) rfl (Nat.le_of_ble_eq_true rfl) rfl rfl rfl rfl rfl ?_
  refine go_ops hΓ 4 rfl ?_
  obtain rfl := Option.some.inj h2
  exact fin_pure hΓ (.inr rfl) rfl rfl

theorem c_laneref1_WishesFault {l : List T_api_Wish} {r : Int} (h : m_laneref1_WishesFault l = some r) : Pure Tryz.prog 67 [.d (Sl e_api_Wish l)] (I r) := by
  refine Pure.enter (Fr.of 0 _) Tryz.func67 rfl (Fr.of_ok _) rfl rfl ?_
  refine go_in ?_
  unfold m_laneref1_WishesFault at h
  refine go hΓ 13 rfl ?_
  refine j_cond rfl (fun hb => ?_) (fun hb => ?_)
  · have h1 := cT h hb
    refine go hΓ 7 rfl ?_
    obtain rfl := Option.some.inj h1
    exact fin_pure hΓ (.inr rfl) rfl rfl
  · have h2 := cF h hb
    refine go hΓ 10 rfl ?_
    obtain ⟨q6, hq6, h7⟩ := bi_ok h2
    refine j_bound 0 rfl fun hb9 => ?_
    refine j_cutEZ (R := fun a8 => q6 = .go a8) (fun a8 => []) (fun a8 => []) ?_ ?_
    · refine go hΓ 1 rfl ?_
      refine j_range l hq6 (fun i3 s4 => [(0, .d (Sl e_api_Wish l)), (8, .d (Sl e_api_Wish l)), (9, I (l.length : Int)), (10, I (i3 : Int))]) (fun s4 => []) ⟨⟨rfl, rfl, rfl, rfl, trivial⟩, [], rfl, .inl rfl⟩ (fun i3 x5 s4 y13 hx10 hlt hy11 hout12 => ?_) (fun s4 hgo => ?_)
      · refine go hΓ 6 rfl ?_
        refine j_condT rfl (decide_eq_true (Int.ofNat_lt.2 hlt)) ?_
        refine go hΓ 7 rfl ?_
        refine eo_o rfl (op_elemZ hΓ (enc := e_api_Wish) (getZ_nat hx10) rfl rfl rfl rfl rfl (fun _ => rfl)) ?_
        refine go_ops hΓ 1 rfl ?_
        refine eo_alloc hΓ rfl rfl rfl (Nat.le_of_ble_eq_true rfl) ?_
        refine go_ops hΓ 1 rfl ?_
        refine eo_store hΓ rfl rfl rfl rfl rfl rfl rfl rfl (Nat.le_of_ble_eq_true rfl) ?_
        refine eo_hp [.box 107 [S x5.Node, S x5.Name, I x5.Joined]] rfl ?_
        obtain ⟨y14, hy14, h15⟩ := bi_ok hy11
        refine go_ops hΓ 7 rfl ?_
        refine eo_callP (callable Tryz.func160 rfl rfl) (c_laneref2_Key hy14) rfl (Nat.le_of_ble_eq_true rfl) rfl rfl rfl rfl rfl ?_
        refine go_ops hΓ 4 rfl ?_
        refine j_cond rfl (fun hb => ?_) (fun hb => ?_)
        · have h16 := cT h15 hb
          refine go hΓ 9 rfl ?_
          obtain ⟨v17, hv17, h18⟩ := bi_ok h16
          obtain rfl := Option.some.inj h18
          obtain rfl := hout12 _ rfl
          obtain rfl := Option.some.inj h7
          refine go hΓ 4 rfl ?_
          obtain rfl := Option.some.inj hv17
          exact fin_pure hΓ (.inr rfl) rfl rfl
        · have h19 := cF h15 hb
          obtain ⟨q20, hq20, h21⟩ := bi_ok h19
          refine go hΓ 1 rfl ?_
          refine j_cutNZ [(0, .d (Sl e_api_Wish l)), (4, .ptr 0 0), (8, .d (Sl e_api_Wish l)), (9, I (l.length : Int)), (10, I (i3 : Int)), (20, B q20)] [.box 107 [S x5.Node, S x5.Name, I x5.Joined]] ?_ ?_
          · refine j_draw hmix (by kernel_rfl) ?_
            refine go hΓ 3 rfl ?_
            refine gl_gsplit rfl rfl (fun hb => ?_) (fun hb => ?_)
            · have h22 := cT hq20 hb
              obtain ⟨x23, hx23, h24⟩ := bi_ok h22
              refine go_draw hΓ 5 rfl ?_
              refine gl_og rfl rfl (op_elemZ hΓ (enc := e_api_Wish) hx23 rfl rfl rfl rfl rfl (fun _ => rfl)) ?_
              refine go_draw hΓ 6 rfl ?_
              obtain rfl := Option.some.inj h24
              exact ⟨⟨rfl, rfl, rfl, rfl, rfl, rfl, trivial⟩, [], rfl, .inl rfl⟩
            · have h25 := cF hq20 hb
              refine go_draw hΓ 12 rfl ?_
              obtain rfl := Option.some.inj h25
              exact ⟨⟨rfl, rfl, rfl, rfl, rfl, rfl, trivial⟩, [], rfl, .inl rfl⟩
          · refine go hΓ 1 rfl ?_
            refine j_cond rfl (fun hb => ?_) (fun hb => ?_)
            · have h26 := cT h21 hb
              refine go hΓ 9 rfl ?_
              obtain ⟨v27, hv27, h28⟩ := bi_ok h26
              obtain rfl := Option.some.inj h28
              obtain rfl := hout12 _ rfl
              obtain rfl := Option.some.inj h7
              refine go hΓ 4 rfl ?_
              obtain rfl := Option.some.inj hv27
              exact fin_pure hΓ (.inr rfl) rfl rfl
            · have h29 := cF h21 hb
              refine go hΓ 9 rfl ?_
              refine j_cond rfl (fun hb => ?_) (fun hb => ?_)
              · have h30 := cT h29 hb
                refine go hΓ 9 rfl ?_
                obtain ⟨v31, hv31, h32⟩ := bi_ok h30
                obtain rfl := Option.some.inj h32
                obtain rfl := hout12 _ rfl
                obtain rfl := Option.some.inj h7
                refine go hΓ 4 rfl ?_
                obtain rfl := Option.some.inj hv31
                exact fin_pure hΓ (.inr rfl) rfl rfl
              · have h33 := cF h29 hb
                obtain ⟨y34, hy34, h35⟩ := bi_ok h33
                refine go hΓ 4 rfl ?_
                refine eo_callP (callable Tryz.func179 rfl rfl) (c_laneref2_Moment hy34) rfl (Nat.le_of_ble_eq_true rfl) rfl rfl rfl rfl rfl ?_
                refine go_ops hΓ 4 rfl ?_
                refine j_cond rfl (fun hb => ?_) (fun hb => ?_)
                · have h36 := cT h35 hb
                  refine go hΓ 9 rfl ?_
                  obtain ⟨v37, hv37, h38⟩ := bi_ok h36
                  obtain rfl := Option.some.inj h38
                  obtain rfl := hout12 _ rfl
                  obtain rfl := Option.some.inj h7
                  refine go hΓ 4 rfl ?_
                  obtain rfl := Option.some.inj hv37
                  exact fin_pure hΓ (.inr rfl) rfl rfl
                · have h39 := cF h35 hb
                  refine go hΓ 8 rfl ?_
                  obtain rfl := Option.some.inj h39
                  exact ⟨_, rfl, ⟨⟨rfl, rfl, rfl, get_eq rfl (w64_succ (Nat.lt_of_lt_of_le hlt hb9)), trivial⟩, [_], rfl, .inr ⟨HB.mk rfl, FB.mk rfl, (Nat.le_of_ble_eq_true rfl)⟩⟩⟩
      · subst hgo
        refine go hΓ 6 rfl ?_
        refine j_condF rfl (decide_eq_false (Int.lt_irrefl _)) ?_
        refine go hΓ 4 rfl ?_
        exact ⟨_, rfl, ⟨trivial, [], rfl, .inl rfl⟩⟩
    · intro a8 ha
      subst ha
      replace h7 := goI_l h7
      refine go hΓ 7 rfl ?_
      obtain rfl := Option.some.inj h7
      exact fin_pure hΓ (.inr rfl) rfl rfl

theorem c_name_isLabel {k : Nat} {s : Str} {r : Bool} (h : m_name_isLabel k s = some r) : Pure Tryz.prog 211 [S s] (B r) := by
  induction k generalizing s r with
  | zero => unfold m_name_isLabel at h; cases h
  | succ k ih0 =>
    have ih : ∀ {s : Str} {r : Bool}, m_name_isLabel k s = some r → Pure Tryz.prog 211 [S s] (B r) := by intro s r h; first | exact ih0 h | exact ih0 _ _ h
    refine Pure.enter (Fr.of 0 _) Tryz.func211 rfl (Fr.of_ok _) rfl rfl ?_
    refine go_in ?_
    unfold m_name_isLabel at h
    obtain ⟨y1, hy1, h2⟩ := bi_ok h
    refine go hΓ 9 rfl ?_
    refine eo_callP (callable Tryz.func283 rfl rfl) (c_strings_CutPrefix hy1) rfl (Nat.le_of_ble_eq_true rfl) rfl rfl rfl rfl rfl ?_
    refine go_ops hΓ 12 rfl ?_
    refine j_cond rfl (fun hb => ?_) (fun hb => ?_)
    · have h3 := cT h2 hb
      obtain ⟨y4, hy4, h5⟩ := bi_ok h3
      refine go hΓ 3 rfl ?_
      refine eo_callP (callable Tryz.func206 rfl rfl) (c_strings_HasPrefix hy4) rfl (Nat.le_of_ble_eq_true rfl) rfl rfl rfl rfl rfl ?_
      refine go_ops hΓ 2 rfl ?_
      obtain ⟨q6, hq6, h7⟩ := bi_ok h5
      refine o_cut 3 [(0, S s), (2, B false), (18, B q6)] [] ?_ ?_
      · refine eo_gsplit rfl rfl (fun hb => ?_) (fun hb => ?_)
        · have h8 := cT hq6 hb
          obtain ⟨y9, hy9, h10⟩ := bi_ok h8
          refine go_ops hΓ 1 rfl ?_
          refine eo_guard rfl ?_
          refine eo_callP (callable Tryz.func211 rfl rfl) (ih hy9) rfl (Nat.le_of_ble_eq_true rfl) rfl rfl rfl rfl rfl ?_
          refine go_ops hΓ 2 rfl ?_
          obtain rfl := Option.some.inj h10
          exact ⟨⟨rfl, rfl, rfl, trivial⟩, [], rfl, .inl rfl⟩
        · have h11 := cF hq6 hb
          refine go_ops hΓ 4 rfl ?_
          obtain rfl := Option.some.inj h11
          exact ⟨⟨rfl, rfl, rfl, trivial⟩, [], rfl, .inl rfl⟩
      · refine go_ops hΓ 1 rfl ?_
        refine o_cut 4 [(2, B false), (23, B (q6 && (decide (((s.length : Int) : Int) ≤ 63))))] [] ?_ ?_
        · refine eo_gsplit rfl rfl (fun hb => ?_) (fun hb => ?_)
          · refine go_ops hΓ 5 rfl ?_
            exact ⟨⟨rfl, get_b rfl (and_t hb), trivial⟩, [], rfl, .inl rfl⟩
          · refine go_ops hΓ 5 rfl ?_
            exact ⟨⟨rfl, get_b rfl (and_f hb), trivial⟩, [], rfl, .inl rfl⟩
        · refine go_ops hΓ 5 rfl ?_
          obtain rfl := Option.some.inj h7
          exact fin_pure hΓ (.inr rfl) rfl rfl
    · have h12 := cF h2 hb
      refine go hΓ 10 rfl ?_
      obtain ⟨q16, hq16, h17⟩ := bi_ok h12
      obtain ⟨hb19, h20⟩ := gd_ok hq16
      replace hb19 := of_decide_eq_true hb19
      refine j_cutEZ (R := fun a18 => q16 = .go a18) (fun a18 => [(0, S s)]) (fun a18 => []) ?_ ?_
      · refine go hΓ 1 rfl ?_
        refine j_rangeI h20 (fun i13 s14 => [(0, S s), (25, I (s.length : Int)), (26, I (i13 : Int))]) (fun s14 => []) ⟨⟨rfl, rfl, rfl, trivial⟩, [], rfl, .inl rfl⟩ (fun i13 s14 y24 hlt hy22 hout23 => ?_) (fun s14 hgo hge => ?_)
        · refine go hΓ 6 rfl ?_
          refine j_condT rfl (decide_eq_true hlt) ?_
          obtain ⟨c25, hc25, h26⟩ := bi_ok hy22
          refine go hΓ 14 rfl ?_
          refine eo_o rfl (op_byteZ hΓ hc25 rfl rfl rfl rfl) ?_
          obtain ⟨y27, hy27, h28⟩ := bi_ok h26
          refine eo_callP (callable Tryz.func175 rfl rfl) (c_name_isLetter hy27) rfl (Nat.le_of_ble_eq_true rfl) rfl rfl rfl rfl rfl ?_
          refine go_ops hΓ 2 rfl ?_
          obtain ⟨q29, hq29, h30⟩ := bi_ok h28
          refine o_cut 5 [(0, S s), (25, I (s.length : Int)), (26, I (i13 : Int)), (39, B q29)] [] ?_ ?_
          · refine eo_gsplit rfl rfl (fun hb => ?_) (fun hb => ?_)
            · have h31 := cT hq29 hb
              obtain ⟨c32, hc32, h33⟩ := bi_ok h31
              refine go_ops hΓ 2 rfl ?_
              refine eo_guard rfl ?_
              refine eo_o rfl (op_byteZ hΓ hc32 rfl rfl rfl rfl) ?_
              refine go_ops hΓ 3 rfl ?_
              obtain rfl := Option.some.inj h33
              exact ⟨⟨rfl, rfl, rfl, rfl, trivial⟩, [], rfl, .inl rfl⟩
            · have h34 := cF hq29 hb
              refine go_ops hΓ 6 rfl ?_
              obtain rfl := Option.some.inj h34
              exact ⟨⟨rfl, rfl, rfl, rfl, trivial⟩, [], rfl, .inl rfl⟩
          · refine go_ops hΓ 2 rfl ?_
            refine j_cond rfl (fun hb => ?_) (fun hb => ?_)
            · have h35 := cT h30 hb
              refine go hΓ 8 rfl ?_
              obtain ⟨v36, hv36, h37⟩ := bi_ok h35
              obtain rfl := Option.some.inj h37
              obtain rfl := hout23 _ rfl
              obtain rfl := Option.some.inj h17
              refine go hΓ 4 rfl ?_
              obtain rfl := Option.some.inj hv36
              exact fin_pure hΓ (.inr rfl) rfl rfl
            · have h38 := cF h30 hb
              refine go hΓ 7 rfl ?_
              obtain rfl := Option.some.inj h38
              exact ⟨_, rfl, ⟨⟨rfl, rfl, get_eq rfl (w64_succ (by omega)), trivial⟩, [], rfl, .inl rfl⟩⟩
        · subst hgo
          refine go hΓ 6 rfl ?_
          refine j_condF rfl (decide_eq_false hge) ?_
          refine go hΓ 4 rfl ?_
          exact ⟨_, rfl, ⟨⟨rfl, trivial⟩, [], rfl, .inl rfl⟩⟩
      · intro a18 ha
        subst ha
        replace h17 := goI_l h17
        refine go hΓ 6 rfl ?_
        refine o_cut 4 [(0, S s), (47, B ((!((s : Str) == [])) && (decide (((s.length : Int) : Int) ≤ 63))))] [] ?_ ?_
        · refine eo_gsplit rfl rfl (fun hb => ?_) (fun hb => ?_)
          · refine go_ops hΓ 5 rfl ?_
            exact ⟨⟨rfl, get_b rfl (and_t hb), trivial⟩, [], rfl, .inl rfl⟩
          · refine go_ops hΓ 5 rfl ?_
            exact ⟨⟨rfl, get_b rfl (and_f hb), trivial⟩, [], rfl, .inl rfl⟩
        · refine go_ops hΓ 1 rfl ?_
          obtain ⟨q39, hq39, h40⟩ := bi_ok h17
          refine o_cut 4 [(0, S s), (52, B q39)] [] ?_ ?_
          · refine eo_gsplit rfl rfl (fun hb => ?_) (fun hb => ?_)
            · have h41 := cT hq39 hb
              obtain ⟨c42, hc42, h43⟩ := bi_ok h41
              refine go_ops hΓ 1 rfl ?_
              refine eo_guard rfl ?_
              refine eo_o rfl (op_byteZ hΓ hc42 rfl rfl rfl rfl) ?_
              refine go_ops hΓ 3 rfl ?_
              obtain rfl := Option.some.inj h43
              exact ⟨⟨rfl, rfl, trivial⟩, [], rfl, .inl rfl⟩
            · have h44 := cF hq39 hb
              refine go_ops hΓ 5 rfl ?_
              obtain rfl := Option.some.inj h44
              exact ⟨⟨rfl, rfl, trivial⟩, [], rfl, .inl rfl⟩
          · refine go_ops hΓ 1 rfl ?_
            obtain ⟨q45, hq45, h46⟩ := bi_ok h40
            refine o_cut 7 [(60, B q45)] [] ?_ ?_
            · refine eo_gsplit rfl rfl (fun hb => ?_) (fun hb => ?_)
              · have h47 := cT hq45 hb
                obtain ⟨c48, hc48, h49⟩ := bi_ok h47
                refine go_ops hΓ 4 rfl ?_
                refine eo_guard rfl ?_
                refine eo_o rfl (op_byteZ hΓ hc48 rfl rfl rfl rfl) ?_
                refine go_ops hΓ 3 rfl ?_
                obtain rfl := Option.some.inj h49
                exact ⟨⟨rfl, trivial⟩, [], rfl, .inl rfl⟩
              · have h50 := cF hq45 hb
                refine go_ops hΓ 8 rfl ?_
                obtain rfl := Option.some.inj h50
                exact ⟨⟨rfl, trivial⟩, [], rfl, .inl rfl⟩
            · refine go_ops hΓ 4 rfl ?_
              obtain rfl := Option.some.inj h46
              exact fin_pure hΓ (.inr rfl) rfl rfl

theorem c_name_CheckDomain {k : Nat} {s : Str} {r : Int} (h : m_name_CheckDomain k s = some r) : Pure Tryz.prog 90 [S s] (I r) := by
  refine Pure.enter (Fr.of 0 _) Tryz.func90 rfl (Fr.of_ok _) rfl rfl ?_
  refine go_in ?_
  unfold m_name_CheckDomain at h
  refine go hΓ 13 rfl ?_
  refine j_cond rfl (fun hb => ?_) (fun hb => ?_)
  · have h1 := cT h hb
    refine go hΓ 7 rfl ?_
    obtain rfl := Option.some.inj h1
    exact fin_pure hΓ (.inr rfl) rfl rfl
  · have h2 := cF h hb
    obtain ⟨y3, hy3, h4⟩ := bi_ok h2
    refine go hΓ 6 rfl ?_
    refine eo_callP (callable Tryz.func116 rfl rfl) (Pure.rows (c_strings_Split hy3) rfl rfl) rfl (Nat.le_of_ble_eq_true rfl) rfl rfl rfl rfl rfl ?_
    refine go_ops hΓ 4 rfl ?_
    obtain ⟨q8, hq8, h9⟩ := bi_ok h4
    refine j_bound 9 rfl fun hb11 => ?_
    refine j_cutEZ (R := fun a10 => q8 = .go a10) (fun a10 => []) (fun a10 => []) ?_ ?_
    · refine go hΓ 1 rfl ?_
      refine j_range y3 hq8 (fun i5 s6 => [(9, .d (Sl eS y3)), (10, I (y3.length : Int)), (11, I (i5 : Int))]) (fun s6 => []) ⟨⟨rfl, rfl, rfl, trivial⟩, [], rfl, .inl rfl⟩ (fun i5 x7 s6 y15 hx12 hlt hy13 hout14 => ?_) (fun s6 hgo => ?_)
      · refine go hΓ 6 rfl ?_
        refine j_condT rfl (decide_eq_true (Int.ofNat_lt.2 hlt)) ?_
        refine go hΓ 6 rfl ?_
        refine eo_o rfl (op_elemZ hΓ (enc := eS) (getZ_nat hx12) rfl rfl rfl rfl rfl (fun _ => rfl)) ?_
        obtain ⟨y16, hy16, h17⟩ := bi_ok hy13
        refine go_ops hΓ 7 rfl ?_
        refine eo_callP (callable Tryz.func211 rfl rfl) (c_name_isLabel hy16) rfl (Nat.le_of_ble_eq_true rfl) rfl rfl rfl rfl rfl ?_
        refine go_ops hΓ 3 rfl ?_
        refine j_cond rfl (fun hb => ?_) (fun hb => ?_)
        · have h18 := cT h17 hb
          refine go hΓ 8 rfl ?_
          obtain ⟨v19, hv19, h20⟩ := bi_ok h18
          obtain rfl := Option.some.inj h20
          obtain rfl := hout14 _ rfl
          obtain rfl := Option.some.inj h9
          refine go hΓ 4 rfl ?_
          obtain rfl := Option.some.inj hv19
          exact fin_pure hΓ (.inr rfl) rfl rfl
        · have h21 := cF h17 hb
          refine go hΓ 7 rfl ?_
          obtain rfl := Option.some.inj h21
          exact ⟨_, rfl, ⟨⟨rfl, rfl, get_eq rfl (w64_succ (Nat.lt_of_lt_of_le hlt hb11)), trivial⟩, [], rfl, .inl rfl⟩⟩
      · subst hgo
        refine go hΓ 6 rfl ?_
        refine j_condF rfl (decide_eq_false (Int.lt_irrefl _)) ?_
        refine go hΓ 4 rfl ?_
        exact ⟨_, rfl, ⟨trivial, [], rfl, .inl rfl⟩⟩
    · intro a10 ha
      subst ha
      replace h9 := goI_l h9
      refine go hΓ 7 rfl ?_
      obtain rfl := Option.some.inj h9
      exact fin_pure hΓ (.inr rfl) rfl rfl

theorem c_lanelaw1_named {k : Nat} {r : Bool} (h : m_lanelaw1_named k = some r) : Pure Tryz.prog 19 [] (B r) := by
  refine Pure.enter (Fr.of 0 _) Tryz.func19 rfl (Fr.of_ok _) rfl rfl ?_
  refine go_in ?_
  unfold m_lanelaw1_named at h
  obtain ⟨y1, hy1, h2⟩ := bi_ok h
  refine go hΓ 7 rfl ?_
  refine eo_callP (callable Tryz.func65 rfl rfl) (c_name_Label hy1) rfl (Nat.le_of_ble_eq_true rfl) rfl rfl rfl rfl rfl ?_
  refine go_ops hΓ 2 rfl ?_
  obtain ⟨q3, hq3, h4⟩ := bi_ok h2
  refine o_cut 3 [(0, B false), (6, B q3)] [] ?_ ?_
  · refine eo_gsplit rfl rfl (fun hb => ?_) (fun hb => ?_)
    · have h5 := cT hq3 hb
      obtain ⟨y6, hy6, h7⟩ := bi_ok h5
      refine eo_guard rfl ?_
      refine eo_callP (callable Tryz.func90 rfl rfl) (c_name_CheckDomain hy6) rfl (Nat.le_of_ble_eq_true rfl) rfl rfl rfl rfl rfl ?_
      refine go_ops hΓ 3 rfl ?_
      obtain rfl := Option.some.inj h7
      exact ⟨⟨rfl, rfl, trivial⟩, [], rfl, .inl rfl⟩
    · have h8 := cF hq3 hb
      refine go_ops hΓ 4 rfl ?_
      obtain rfl := Option.some.inj h8
      exact ⟨⟨rfl, rfl, trivial⟩, [], rfl, .inl rfl⟩
  · refine go_ops hΓ 4 rfl ?_
    obtain rfl := Option.some.inj h4
    exact fin_pure hΓ (.inr rfl) rfl rfl

theorem c_laneref1_CalledOf_1 {a : T_api_Wish} {b : T_api_Wish} {r : Int} (h : m_laneref1_CalledOf_1 a b = some r) : Pure Tryz.prog 180 [.agg [S a.Node, S a.Name, I a.Joined], .agg [S b.Node, S b.Name, I b.Joined]] (I r) := by
  refine Pure.enter (Fr.of 0 _) Tryz.func180 rfl (Fr.of_ok _) rfl rfl ?_
  refine go_in ?_
  unfold m_laneref1_CalledOf_1 at h
  refine go hΓ 2 rfl ?_
  refine eo_box rfl rfl rfl rfl (Nat.le_of_ble_eq_true rfl) ?_
  refine eo_box rfl rfl rfl rfl (Nat.le_of_ble_eq_true rfl) ?_
  obtain ⟨y1, hy1, h2⟩ := bi_ok h
  refine go_ops hΓ 9 rfl ?_
  refine eo_callP (callable Tryz.func146 rfl rfl) (c_cmp_Compare_int hy1) rfl (Nat.le_of_ble_eq_true rfl) rfl rfl rfl rfl rfl ?_
  refine go_ops hΓ 4 rfl ?_
  obtain rfl := Option.some.inj h2
  exact fin_pure hΓ (.inr rfl) rfl rfl

theorem c_slices_insertionSortCmpFunc_api_Wish_2 {k : Nat} {data : List T_api_Wish} {a : Int} {b : Int} {r : List T_api_Wish} (h : m_slices_insertionSortCmpFunc_api_Wish_2 k data a b = some r) : EC Tryz.prog 317 [.sl 0 data.length, I a, I b, .fn (.func 180) [] []] [.row 107 3 data.length (data.flatMap e_api_Wish)] fun g hp' => g = .tup [] ∧ hp' = [.row 107 3 r.length (r.flatMap e_api_Wish)] := by
  refine ec_enter (Fr.of 0 _) Tryz.func317 rfl (Fr.of_ok _) (Nat.le_of_ble_eq_true rfl) fun _ => ?_
  refine go_in ?_
  unfold m_slices_insertionSortCmpFunc_api_Wish_2 at h
  refine go hΓ 7 rfl ?_
  obtain ⟨q4, hq4, h5⟩ := bi_ok h
  refine j_cutNZ [] [.row 107 3 q4.length (q4.flatMap e_api_Wish)] ?_ ?_
  · refine go hΓ 1 rfl ?_
    refine j_loop hq4 (fun s2 => [(0, .sl 0 s2.1.length), (1, I a), (2, I b), (3, .fn (.func 180) [] []), (8, I s2.2)]) (fun s2 => [.row 107 3 s2.1.length (s2.1.flatMap e_api_Wish)]) ⟨⟨rfl, rfl, rfl, rfl, rfl, trivial⟩, [], rfl, .inl rfl⟩ (fun s2 y10 hy8 hout9 => ?_)
    refine go hΓ 8 rfl ?_
    refine j_cond rfl (fun hb => ?_) (fun hb => ?_)
    · have h11 := cT hy8 hb
      refine go hΓ 10 rfl ?_
      obtain ⟨q15, hq15, h16⟩ := bi_ok h11
      refine j_cutNZ [(0, .sl 0 q15.length), (1, I a), (2, I b), (3, .fn (.func 180) [] []), (8, I s2.2)] [.row 107 3 q15.length (q15.flatMap e_api_Wish)] ?_ ?_
      · refine go hΓ 1 rfl ?_
        refine j_loop hq15 (fun s13 => [(0, .sl 0 s13.1.length), (1, I a), (2, I b), (3, .fn (.func 180) [] []), (8, I s2.2), (9, I s13.2)]) (fun s13 => [.row 107 3 s13.1.length (s13.1.flatMap e_api_Wish)]) ⟨⟨rfl, rfl, rfl, rfl, rfl, rfl, trivial⟩, [], rfl, .inl rfl⟩ (fun s13 y21 hy19 hout20 => ?_)
        obtain ⟨q22, hq22, h23⟩ := bi_ok hy19
        refine go hΓ 2 rfl ?_
        refine j_cutNZ [(0, .sl 0 s13.1.length), (1, I a), (2, I b), (3, .fn (.func 180) [] []), (8, I s2.2), (9, I s13.2), (34, B q22)] [.row 107 3 s13.1.length (s13.1.flatMap e_api_Wish)] ?_ ?_
        · refine j_draw hmix (by kernel_rfl) ?_
          refine go hΓ 4 rfl ?_
          refine gl_gsplit rfl rfl (fun hb => ?_) (fun hb => ?_)
          · have h24 := cT hq22 hb
            obtain ⟨x25, hx25, h26⟩ := bi_ok h24
            have hj27 := getZ_at hx25
            refine go_draw hΓ 3 rfl ?_
            refine gl_og rfl rfl (op_elemRowZ hΓ hx25 rfl rfl rfl rfl rfl rfl) ?_
            refine gl_og rfl rfl (op_loadRowZ hΓ (enc := e_api_Wish) s13.2.toNat 0 hj27 rfl rfl rfl rfl (fun _ => rfl) (g := .agg [S x25.Node, S x25.Name, I x25.Joined]) rfl) ?_
            obtain ⟨x28, hx28, h29⟩ := bi_ok h26
            have hj30 := getZ_at hx28
            refine go_draw hΓ 3 rfl ?_
            refine gl_og rfl rfl (op_elemRowZ hΓ hx28 rfl rfl rfl rfl rfl rfl) ?_
            refine gl_og rfl rfl (op_loadRowZ hΓ (enc := e_api_Wish) ((wi (s13.2 - 1)).toNat) 0 hj30 rfl rfl rfl rfl (fun _ => rfl) (g := .agg [S x28.Node, S x28.Name, I x28.Joined]) rfl) ?_
            obtain ⟨y31, hy31, h32⟩ := bi_ok h29
            refine gl_callPg (callable Tryz.func180 rfl rfl) (c_laneref1_CalledOf_1 hy31) rfl rfl rfl rfl rfl rfl rfl ?_
            refine go_draw hΓ 3 rfl ?_
            obtain rfl := Option.some.inj h32
            exact ⟨⟨rfl, rfl, rfl, rfl, rfl, rfl, rfl, trivial⟩, [], rfl, .inl rfl⟩
          · have h33 := cF hq22 hb
            refine go_draw hΓ 14 rfl ?_
            obtain rfl := Option.some.inj h33
            exact ⟨⟨rfl, rfl, rfl, rfl, rfl, rfl, rfl, trivial⟩, [], rfl, .inl rfl⟩
        · refine go hΓ 1 rfl ?_
          refine j_cond rfl (fun hb => ?_) (fun hb => ?_)
          · have h34 := cT h23 hb
            refine go hΓ 4 rfl ?_
            refine j_drawE [.row 107 3 s13.1.length (s13.1.flatMap e_api_Wish)] [9, 13] [15, 17] [15, 17] hmix (by kernel_rfl) (by kernel_rfl) ⟨rfl, trivial⟩ (Nat.le_of_ble_eq_true rfl) ?_
            obtain ⟨x35, hx35, h36⟩ := bi_ok h34
            have hj37 := getZ_at hx35
            refine go_E hΓ 8 rfl ?_
            refine ge_q rfl (.inl rfl) (fun _ _ => qte_of_qt (qt_p (op_elemRowZ hΓ hx35 rfl rfl rfl rfl rfl rfl))) ?_
            refine ge_p rfl (fun hp hs => op_loadRowZ hΓ (enc := e_api_Wish) ((wi (s13.2 - 1)).toNat) 0 hj37 rfl rfl rfl (hs 0 _ rfl rfl) (fun _ => rfl) (g := .agg [S x35.Node, S x35.Name, I x35.Joined]) rfl) rfl ?_
            obtain ⟨x38, hx38, h39⟩ := bi_ok h36
            have hj40 := getZ_at hx38
            refine go_E hΓ 2 rfl ?_
            refine ge_q rfl (.inl rfl) (fun _ _ => qte_of_qt (qt_p (op_elemRowZ hΓ hx38 rfl rfl rfl rfl rfl rfl))) ?_
            refine ge_p rfl (fun hp hs => op_loadRowZ hΓ (enc := e_api_Wish) s13.2.toNat 0 hj40 rfl rfl rfl (hs 0 _ rfl rfl) (fun _ => rfl) (g := .agg [S x38.Node, S x38.Name, I x38.Joined]) rfl) rfl ?_
            obtain ⟨x41, hx41, h42⟩ := bi_ok h39
            have hj43 := getZ_at hx41
            refine ge_q rfl (.inl rfl) (fun _ _ => qte_of_qt (qt_p (op_elemRowZ hΓ hx41 rfl rfl rfl rfl rfl rfl))) ?_
            refine ge_h0 [.row 107 3 (s13.1.set s13.2.toNat x35).length ((s13.1.set s13.2.toNat x35).flatMap e_api_Wish)] rfl rfl (brk_st rfl) (qte_u (opu_setRowZ hΓ (enc := e_api_Wish) (z' := x35) s13.2.toNat (by have := (List.getElem?_eq_some_iff.1 hj43).1; simpa using this) rfl rfl rfl rfl (fun _ => rfl) rfl rfl rfl rfl rfl)) ?_
            obtain ⟨x44, hx44, h45⟩ := bi_ok h42
            have hj46 := getZ_at hx44
            refine ge_q rfl (.inl rfl) (fun _ _ => qte_of_qt (qt_p (op_elemRowZ hΓ hx44 rfl rfl rfl rfl rfl rfl))) ?_
            refine ge_h0 [.row 107 3 ((s13.1.set s13.2.toNat x35).set ((wi (s13.2 - 1)).toNat) x38).length (((s13.1.set s13.2.toNat x35).set ((wi (s13.2 - 1)).toNat) x38).flatMap e_api_Wish)] rfl rfl (brk_st rfl) (qte_u (opu_setRowZ hΓ (enc := e_api_Wish) (z' := x38) ((wi (s13.2 - 1)).toNat) (by have := (List.getElem?_eq_some_iff.1 hj46).1; simpa using this) rfl rfl rfl rfl (fun _ => rfl) rfl rfl rfl rfl rfl)) ?_
            refine ge_fin ?_
            refine go hΓ 2 rfl ?_
            refine j_relen 0 (n' := ((s13.1.set s13.2.toNat x35).set ((wi (s13.2 - 1)).toNat) x38).length) rfl (by simp) ?_
            refine j_relen 37 (n' := ((s13.1.set s13.2.toNat x35).set ((wi (s13.2 - 1)).toNat) x38).length) rfl (by simp) ?_
            refine j_relen 39 (n' := ((s13.1.set s13.2.toNat x35).set ((wi (s13.2 - 1)).toNat) x38).length) rfl (by simp) ?_
            refine j_relen 42 (n' := ((s13.1.set s13.2.toNat x35).set ((wi (s13.2 - 1)).toNat) x38).length) rfl (by simp) ?_
            refine j_relen 47 (n' := ((s13.1.set s13.2.toNat x35).set ((wi (s13.2 - 1)).toNat) x38).length) rfl (by simp) ?_
            refine go hΓ 5 rfl ?_
            obtain rfl := Option.some.inj h45
            exact ⟨_, rfl, ⟨⟨rfl, rfl, rfl, rfl, rfl, rfl, trivial⟩, [], rfl, .inl rfl⟩⟩
          · have h47 := cF h23 hb
            refine go hΓ 4 rfl ?_
            obtain rfl := Option.some.inj h47
            obtain rfl := hout20 _ rfl
            exact ⟨⟨rfl, rfl, rfl, rfl, rfl, trivial⟩, [], rfl, .inl rfl⟩
      · refine go hΓ 7 rfl ?_
        obtain rfl := Option.some.inj h16
        exact ⟨_, rfl, ⟨⟨rfl, rfl, rfl, rfl, rfl, trivial⟩, [], rfl, .inl rfl⟩⟩
    · have h48 := cF hy8 hb
      refine go hΓ 4 rfl ?_
      obtain rfl := Option.some.inj h48
      obtain rfl := hout9 _ rfl
      exact ⟨trivial, [], rfl, .inl rfl⟩
  · obtain rfl := Option.some.inj h5
    exact fin_objs hΓ [] (.inl rfl) rfl rfl rfl rfl (.inl rfl)

theorem c_slices_stableCmpFunc_api_Wish_2 {k : Nat} {data : List T_api_Wish} {n : Int} {r : List T_api_Wish} (h : m_slices_stableCmpFunc_api_Wish_2 k data n = some r) : EC Tryz.prog 253 [.sl 0 data.length, I n, .fn (.func 180) [] []] [.row 107 3 data.length (data.flatMap e_api_Wish)] fun g hp' => g = .tup [] ∧ hp' = [.row 107 3 r.length (r.flatMap e_api_Wish)] := by
  refine ec_enter (Fr.of 0 _) Tryz.func253 rfl (Fr.of_ok _) (Nat.le_of_ble_eq_true rfl) fun _ => ?_
  refine go_in ?_
  unfold m_slices_stableCmpFunc_api_Wish_2 at h
  refine go hΓ 13 rfl ?_
  obtain ⟨q4, hq4, h5⟩ := bi_ok h
  refine j_cutNZ [(0, .sl 0 q4.1.length), (1, I n), (2, .fn (.func 180) [] []), (6, I 20), (7, I q4.2)] [.row 107 3 q4.1.length (q4.1.flatMap e_api_Wish)] ?_ ?_
  · refine go hΓ 1 rfl ?_
    refine j_loop hq4 (fun s2 => [(0, .sl 0 s2.1.length), (1, I n), (2, .fn (.func 180) [] []), (6, I 20), (7, I s2.2.1), (8, I s2.2.2)]) (fun s2 => [.row 107 3 s2.1.length (s2.1.flatMap e_api_Wish)]) ⟨⟨rfl, rfl, rfl, rfl, rfl, rfl, trivial⟩, [], rfl, .inl rfl⟩ (fun s2 y10 hy8 hout9 => ?_)
    refine go hΓ 8 rfl ?_
    refine j_cond rfl (fun hb => ?_) (fun hb => ?_)
    · have h11 := cT hy8 hb
      obtain ⟨y12, hy12, h13⟩ := bi_ok h11
      refine go hΓ 9 rfl ?_
      refine eo_callF [0] (.tup []) [.row 107 3 y12.length (y12.flatMap e_api_Wish)] (callable Tryz.func317 rfl rfl) (c_slices_insertionSortCmpFunc_api_Wish_2 hy12) rfl (Nat.le_of_ble_eq_true rfl) rfl rfl rfl rfl rfl rfl rfl rfl rfl rfl ?_
      obtain ⟨hg15, h14⟩ := gd_ok h13
      refine eo_relen 0 rfl (of_decide_eq_true hg15).symm ?_
      refine go_ops hΓ 15 rfl ?_
      obtain rfl := Option.some.inj h14
      exact ⟨_, rfl, ⟨⟨rfl, rfl, rfl, rfl, rfl, rfl, trivial⟩, [], rfl, .inl rfl⟩⟩
    · have h16 := cF hy8 hb
      refine go hΓ 4 rfl ?_
      obtain rfl := Option.some.inj h16
      obtain rfl := hout9 _ rfl
      exact ⟨⟨rfl, rfl, rfl, rfl, rfl, trivial⟩, [], rfl, .inl rfl⟩
  · obtain ⟨y17, hy17, h18⟩ := bi_ok h5
    refine go hΓ 7 rfl ?_
    refine eo_callF [0] (.tup []) [.row 107 3 y17.length (y17.flatMap e_api_Wish)] (callable Tryz.func317 rfl rfl) (c_slices_insertionSortCmpFunc_api_Wish_2 hy17) rfl (Nat.le_of_ble_eq_true rfl) rfl rfl rfl rfl rfl rfl rfl rfl rfl rfl ?_
    obtain ⟨hg20, h19⟩ := gd_ok h18
    refine eo_relen 0 rfl (of_decide_eq_true hg20).symm ?_
    refine go_ops hΓ 2 rfl ?_
    obtain ⟨q24, hq24, h25⟩ := bi_ok h19
    refine j_cutNZ [] [.row 107 3 y17.length (y17.flatMap e_api_Wish)] ?_ ?_
    · refine go hΓ 1 rfl ?_
      refine j_loop hq24 (fun s22 => [(0, .sl 0 y17.length), (1, I n), (2, .fn (.func 180) [] []), (6, I s22)]) (fun s22 => [.row 107 3 y17.length (y17.flatMap e_api_Wish)]) ⟨⟨rfl, rfl, rfl, rfl, trivial⟩, [], rfl, .inl rfl⟩ (fun s22 y30 hy28 hout29 => ?_)
      refine go hΓ 8 rfl ?_
      refine j_cond rfl (fun hb => ?_) (fun hb => ?_)
      · have h31 := cT hy28 hb
        refine go hΓ 12 rfl ?_
        obtain ⟨q35, hq35, h36⟩ := bi_ok h31
        refine j_cutNZ [(0, .sl 0 y17.length), (1, I n), (2, .fn (.func 180) [] []), (6, I s22), (7, I 0)] [.row 107 3 y17.length (y17.flatMap e_api_Wish)] ?_ ?_
        · refine go hΓ 1 rfl ?_
          refine j_loop hq35 (fun s33 => [(0, .sl 0 y17.length), (1, I n), (2, .fn (.func 180) [] []), (6, I s22), (7, I 0), (8, I (wi (2 * s22)))]) (fun s33 => [.row 107 3 y17.length (y17.flatMap e_api_Wish)]) ⟨⟨rfl, rfl, rfl, rfl, rfl, rfl, trivial⟩, [], rfl, .inl rfl⟩ (fun s33 y41 hy39 hout40 => ?_)
          refine go hΓ 8 rfl ?_
          refine j_cond rfl (fun hb => ?_) (fun hb => ?_)
          · have h42 := cT hy39 hb
            refine go hΓ 12 rfl ?_
            cases h42
          · have h43 := cF hy39 hb
            refine go hΓ 4 rfl ?_
            obtain rfl := Option.some.inj h43
            obtain rfl := hout40 _ rfl
            exact ⟨⟨rfl, rfl, rfl, rfl, rfl, trivial⟩, [], rfl, .inl rfl⟩
        · refine go hΓ 17 rfl ?_
          refine j_cond rfl (fun hb => ?_) (fun hb => ?_)
          · have h44 := cT h36 hb
            refine go hΓ 6 rfl ?_
            cases h44
          · have h45 := cF h36 hb
            refine go hΓ 8 rfl ?_
            obtain rfl := Option.some.inj h45
            exact ⟨_, rfl, ⟨⟨rfl, rfl, rfl, rfl, trivial⟩, [], rfl, .inl rfl⟩⟩
      · have h46 := cF hy28 hb
        refine go hΓ 4 rfl ?_
        obtain rfl := Option.some.inj h46
        obtain rfl := hout29 _ rfl
        exact ⟨trivial, [], rfl, .inl rfl⟩
    · obtain rfl := Option.some.inj h25
      exact fin_objs hΓ [] (.inl rfl) rfl rfl rfl rfl (.inl rfl)

theorem c_slices_SortStableFunc_api_Wish_api_Wish_2 {k : Nat} {x : List T_api_Wish} {r : List T_api_Wish} (h : m_slices_SortStableFunc_api_Wish_api_Wish_2 k x = some r) : EC Tryz.prog 170 [.sl 0 x.length, .fn (.func 180) [] []] [.row 107 3 x.length (x.flatMap e_api_Wish)] fun g hp' => g = .tup [] ∧ hp' = [.row 107 3 r.length (r.flatMap e_api_Wish)] := by
  refine ec_enter (Fr.of 0 _) Tryz.func170 rfl (Fr.of_ok _) (Nat.le_of_ble_eq_true rfl) fun _ => ?_
  refine go_in ?_
  unfold m_slices_SortStableFunc_api_Wish_api_Wish_2 at h
  obtain ⟨y1, hy1, h2⟩ := bi_ok h
  refine go hΓ 5 rfl ?_
  refine eo_callF [0] (.tup []) [.row 107 3 y1.length (y1.flatMap e_api_Wish)] (callable Tryz.func253 rfl rfl) (c_slices_stableCmpFunc_api_Wish_2 hy1) rfl (Nat.le_of_ble_eq_true rfl) rfl rfl rfl rfl rfl rfl rfl rfl rfl rfl ?_
  refine go_ops hΓ 1 rfl ?_
  obtain rfl := Option.some.inj h2
  exact fin_objs hΓ [] (.inl rfl) rfl rfl rfl rfl (.inl rfl)

theorem c_laneref1_CalledOf_2 {a : T_api_Called} {b : T_api_Called} {r : Int} (h : m_laneref1_CalledOf_2 a b = some r) : Pure Tryz.prog 181 [.agg [S a.Node, S a.Label], .agg [S b.Node, S b.Label]] (I r) := by
  refine Pure.enter (Fr.of 0 _) Tryz.func181 rfl (Fr.of_ok _) rfl rfl ?_
  refine go_in ?_
  unfold m_laneref1_CalledOf_2 at h
  refine go hΓ 2 rfl ?_
  refine eo_box rfl rfl rfl rfl (Nat.le_of_ble_eq_true rfl) ?_
  refine eo_box rfl rfl rfl rfl (Nat.le_of_ble_eq_true rfl) ?_
  obtain ⟨y1, hy1, h2⟩ := bi_ok h
  refine go_ops hΓ 9 rfl ?_
  refine eo_callP (callable Tryz.func174 rfl rfl) (c_strings_Compare hy1) rfl (Nat.le_of_ble_eq_true rfl) rfl rfl rfl rfl rfl ?_
  refine go_ops hΓ 4 rfl ?_
  obtain rfl := Option.some.inj h2
  exact fin_pure hΓ (.inr rfl) rfl rfl

theorem c_slices_insertionSortCmpFunc_api_Called_2 {k : Nat} {data : List T_api_Called} {a : Int} {b : Int} {r : List T_api_Called} (h : m_slices_insertionSortCmpFunc_api_Called_2 k data a b = some r) : EC Tryz.prog 319 [.sl 0 data.length, I a, I b, .fn (.func 181) [] []] [.row 112 2 data.length (data.flatMap e_api_Called)] fun g hp' => g = .tup [] ∧ hp' = [.row 112 2 r.length (r.flatMap e_api_Called)] := by
  refine ec_enter (Fr.of 0 _) Tryz.func319 rfl (Fr.of_ok _) (Nat.le_of_ble_eq_true rfl) fun _ => ?_
  refine go_in ?_
  unfold m_slices_insertionSortCmpFunc_api_Called_2 at h
  refine go hΓ 7 rfl ?_
  obtain ⟨q4, hq4, h5⟩ := bi_ok h
  refine j_cutNZ [] [.row 112 2 q4.length (q4.flatMap e_api_Called)] ?_ ?_
  · refine go hΓ 1 rfl ?_
    refine j_loop hq4 (fun s2 => [(0, .sl 0 s2.1.length), (1, I a), (2, I b), (3, .fn (.func 181) [] []), (8, I s2.2)]) (fun s2 => [.row 112 2 s2.1.length (s2.1.flatMap e_api_Called)]) ⟨⟨rfl, rfl, rfl, rfl, rfl, trivial⟩, [], rfl, .inl rfl⟩ (fun s2 y10 hy8 hout9 => ?_)
    refine go hΓ 8 rfl ?_
    refine j_cond rfl (fun hb => ?_) (fun hb => ?_)
    · have h11 := cT hy8 hb
      refine go hΓ 10 rfl ?_
      obtain ⟨q15, hq15, h16⟩ := bi_ok h11
      refine j_cutNZ [(0, .sl 0 q15.length), (1, I a), (2, I b), (3, .fn (.func 181) [] []), (8, I s2.2)] [.row 112 2 q15.length (q15.flatMap e_api_Called)] ?_ ?_
      · refine go hΓ 1 rfl ?_
        refine j_loop hq15 (fun s13 => [(0, .sl 0 s13.1.length), (1, I a), (2, I b), (3, .fn (.func 181) [] []), (8, I s2.2), (9, I s13.2)]) (fun s13 => [.row 112 2 s13.1.length (s13.1.flatMap e_api_Called)]) ⟨⟨rfl, rfl, rfl, rfl, rfl, rfl, trivial⟩, [], rfl, .inl rfl⟩ (fun s13 y21 hy19 hout20 => ?_)
        obtain ⟨q22, hq22, h23⟩ := bi_ok hy19
        refine go hΓ 2 rfl ?_
        refine j_cutNZ [(0, .sl 0 s13.1.length), (1, I a), (2, I b), (3, .fn (.func 181) [] []), (8, I s2.2), (9, I s13.2), (34, B q22)] [.row 112 2 s13.1.length (s13.1.flatMap e_api_Called)] ?_ ?_
        · refine j_draw hmix (by kernel_rfl) ?_
          refine go hΓ 4 rfl ?_
          refine gl_gsplit rfl rfl (fun hb => ?_) (fun hb => ?_)
          · have h24 := cT hq22 hb
            obtain ⟨x25, hx25, h26⟩ := bi_ok h24
            have hj27 := getZ_at hx25
            refine go_draw hΓ 3 rfl ?_
            refine gl_og rfl rfl (op_elemRowZ hΓ hx25 rfl rfl rfl rfl rfl rfl) ?_
            refine gl_og rfl rfl (op_loadRowZ hΓ (enc := e_api_Called) s13.2.toNat 0 hj27 rfl rfl rfl rfl (fun _ => rfl) (g := .agg [S x25.Node, S x25.Label]) rfl) ?_
            obtain ⟨x28, hx28, h29⟩ := bi_ok h26
            have hj30 := getZ_at hx28
            refine go_draw hΓ 3 rfl ?_
            refine gl_og rfl rfl (op_elemRowZ hΓ hx28 rfl rfl rfl rfl rfl rfl) ?_
            refine gl_og rfl rfl (op_loadRowZ hΓ (enc := e_api_Called) ((wi (s13.2 - 1)).toNat) 0 hj30 rfl rfl rfl rfl (fun _ => rfl) (g := .agg [S x28.Node, S x28.Label]) rfl) ?_
            obtain ⟨y31, hy31, h32⟩ := bi_ok h29
            refine gl_callPg (callable Tryz.func181 rfl rfl) (c_laneref1_CalledOf_2 hy31) rfl rfl rfl rfl rfl rfl rfl ?_
            refine go_draw hΓ 3 rfl ?_
            obtain rfl := Option.some.inj h32
            exact ⟨⟨rfl, rfl, rfl, rfl, rfl, rfl, rfl, trivial⟩, [], rfl, .inl rfl⟩
          · have h33 := cF hq22 hb
            refine go_draw hΓ 14 rfl ?_
            obtain rfl := Option.some.inj h33
            exact ⟨⟨rfl, rfl, rfl, rfl, rfl, rfl, rfl, trivial⟩, [], rfl, .inl rfl⟩
        · refine go hΓ 1 rfl ?_
          refine j_cond rfl (fun hb => ?_) (fun hb => ?_)
          · have h34 := cT h23 hb
            refine go hΓ 4 rfl ?_
            refine j_drawE [.row 112 2 s13.1.length (s13.1.flatMap e_api_Called)] [9, 13] [15, 17] [15, 17] hmix (by kernel_rfl) (by kernel_rfl) ⟨rfl, trivial⟩ (Nat.le_of_ble_eq_true rfl) ?_
            obtain ⟨x35, hx35, h36⟩ := bi_ok h34
            have hj37 := getZ_at hx35
            refine go_E hΓ 8 rfl ?_
            refine ge_q rfl (.inl rfl) (fun _ _ => qte_of_qt (qt_p (op_elemRowZ hΓ hx35 rfl rfl rfl rfl rfl rfl))) ?_
            refine ge_p rfl (fun hp hs => op_loadRowZ hΓ (enc := e_api_Called) ((wi (s13.2 - 1)).toNat) 0 hj37 rfl rfl rfl (hs 0 _ rfl rfl) (fun _ => rfl) (g := .agg [S x35.Node, S x35.Label]) rfl) rfl ?_
            obtain ⟨x38, hx38, h39⟩ := bi_ok h36
            have hj40 := getZ_at hx38
            refine go_E hΓ 2 rfl ?_
            refine ge_q rfl (.inl rfl) (fun _ _ => qte_of_qt (qt_p (op_elemRowZ hΓ hx38 rfl rfl rfl rfl rfl rfl))) ?_
            refine ge_p rfl (fun hp hs => op_loadRowZ hΓ (enc := e_api_Called) s13.2.toNat 0 hj40 rfl rfl rfl (hs 0 _ rfl rfl) (fun _ => rfl) (g := .agg [S x38.Node, S x38.Label]) rfl) rfl ?_
            obtain ⟨x41, hx41, h42⟩ := bi_ok h39
            have hj43 := getZ_at hx41
            refine ge_q rfl (.inl rfl) (fun _ _ => qte_of_qt (qt_p (op_elemRowZ hΓ hx41 rfl rfl rfl rfl rfl rfl))) ?_
            refine ge_h0 [.row 112 2 (s13.1.set s13.2.toNat x35).length ((s13.1.set s13.2.toNat x35).flatMap e_api_Called)] rfl rfl (brk_st rfl) (qte_u (opu_setRowZ hΓ (enc := e_api_Called) (z' := x35) s13.2.toNat (by have := (List.getElem?_eq_some_iff.1 hj43).1; simpa using this) rfl rfl rfl rfl (fun _ => rfl) rfl rfl rfl rfl rfl)) ?_
            obtain ⟨x44, hx44, h45⟩ := bi_ok h42
            have hj46 := getZ_at hx44
            refine ge_q rfl (.inl rfl) (fun _ _ => qte_of_qt (qt_p (op_elemRowZ hΓ hx44 rfl rfl rfl rfl rfl rfl))) ?_
            refine ge_h0 [.row 112 2 ((s13.1.set s13.2.toNat x35).set ((wi (s13.2 - 1)).toNat) x38).length (((s13.1.set s13.2.toNat x35).set ((wi (s13.2 - 1)).toNat) x38).flatMap e_api_Called)] rfl rfl (brk_st rfl) (qte_u (opu_setRowZ hΓ (enc := e_api_Called) (z' := x38) ((wi (s13.2 - 1)).toNat) (by have := (List.getElem?_eq_some_iff.1 hj46).1; simpa using this) rfl rfl rfl rfl (fun _ => rfl) rfl rfl rfl rfl rfl)) ?_
            refine ge_fin ?_
            refine go hΓ 2 rfl ?_
            refine j_relen 0 (n' := ((s13.1.set s13.2.toNat x35).set ((wi (s13.2 - 1)).toNat) x38).length) rfl (by simp) ?_
            refine j_relen 37 (n' := ((s13.1.set s13.2.toNat x35).set ((wi (s13.2 - 1)).toNat) x38).length) rfl (by simp) ?_
            refine j_relen 39 (n' := ((s13.1.set s13.2.toNat x35).set ((wi (s13.2 - 1)).toNat) x38).length) rfl (by simp) ?_
            refine j_relen 42 (n' := ((s13.1.set s13.2.toNat x35).set ((wi (s13.2 - 1)).toNat) x38).length) rfl (by simp) ?_
            refine j_relen 47 (n' := ((s13.1.set s13.2.toNat x35).set ((wi (s13.2 - 1)).toNat) x38).length) rfl (by simp) ?_
            refine go hΓ 5 rfl ?_
            obtain rfl := Option.some.inj h45
            exact ⟨_, rfl, ⟨⟨rfl, rfl, rfl, rfl, rfl, rfl, trivial⟩, [], rfl, .inl rfl⟩⟩
          · have h47 := cF h23 hb
            refine go hΓ 4 rfl ?_
            obtain rfl := Option.some.inj h47
            obtain rfl := hout20 _ rfl
            exact ⟨⟨rfl, rfl, rfl, rfl, rfl, trivial⟩, [], rfl, .inl rfl⟩
      · refine go hΓ 7 rfl ?_
        obtain rfl := Option.some.inj h16
        exact ⟨_, rfl, ⟨⟨rfl, rfl, rfl, rfl, rfl, trivial⟩, [], rfl, .inl rfl⟩⟩
    · have h48 := cF hy8 hb
      refine go hΓ 4 rfl ?_
      obtain rfl := Option.some.inj h48
      obtain rfl := hout9 _ rfl
      exact ⟨trivial, [], rfl, .inl rfl⟩
  · obtain rfl := Option.some.inj h5
    exact fin_objs hΓ [] (.inl rfl) rfl rfl rfl rfl (.inl rfl)

theorem c_slices_pdqsortCmpFunc_api_Called_2 {k : Nat} {data : List T_api_Called} {a : Int} {b : Int} {limit : Int} {r : List T_api_Called} (h : m_slices_pdqsortCmpFunc_api_Called_2 k data a b limit = some r) : EC Tryz.prog 254 [.sl 0 data.length, I a, I b, I limit, .fn (.func 181) [] []] [.row 112 2 data.length (data.flatMap e_api_Called)] fun g hp' => g = .tup [] ∧ hp' = [.row 112 2 r.length (r.flatMap e_api_Called)] := by
  refine ec_enter (Fr.of 0 _) Tryz.func254 rfl (Fr.of_ok _) (Nat.le_of_ble_eq_true rfl) fun _ => ?_
  refine go_in ?_
  unfold m_slices_pdqsortCmpFunc_api_Called_2 at h
  refine go hΓ 10 rfl ?_
  obtain ⟨q4, hq4, h5⟩ := bi_ok h
  refine go hΓ 1 rfl ?_
  refine j_loop hq4 (fun s2 => [(0, .sl 0 data.length), (1, I a), (2, I b), (3, I limit), (4, .fn (.func 181) [] []), (10, B true), (11, B true)]) (fun s2 => [.row 112 2 data.length (data.flatMap e_api_Called)]) ⟨⟨rfl, rfl, rfl, rfl, rfl, rfl, rfl, trivial⟩, [], rfl, .inl rfl⟩ (fun s2 y10 hy8 hout9 => ?_)
  refine go hΓ 16 rfl ?_
  refine j_cond rfl (fun hb => ?_) (fun hb => ?_)
  · have h11 := cT hy8 hb
    obtain ⟨y12, hy12, h13⟩ := bi_ok h11
    refine go hΓ 6 rfl ?_
    refine eo_callF [0] (.tup []) [.row 112 2 y12.length (y12.flatMap e_api_Called)] (callable Tryz.func319 rfl rfl) (c_slices_insertionSortCmpFunc_api_Called_2 hy12) rfl (Nat.le_of_ble_eq_true rfl) rfl rfl rfl rfl rfl rfl rfl rfl rfl rfl ?_
    refine go_ops hΓ 5 rfl ?_
    obtain ⟨v14, hv14, h15⟩ := bi_ok h13
    obtain rfl := Option.some.inj h15
    obtain rfl := hout9 _ rfl
    obtain rfl := Option.some.inj h5
    refine go hΓ 2 rfl ?_
    obtain rfl := Option.some.inj hv14
    exact fin_objs hΓ [] (.inr rfl) rfl rfl rfl rfl (.inl rfl)
  · have h16 := cF hy8 hb
    refine go hΓ 9 rfl ?_
    refine j_cond rfl (fun hb => ?_) (fun hb => ?_)
    · have h17 := cT h16 hb
      refine go hΓ 6 rfl ?_
      cases h17
    · have h18 := cF h16 hb
      refine go hΓ 18 rfl ?_
      cases h18

theorem c_slices_SortFunc_api_Called_api_Called_2 {k : Nat} {x : List T_api_Called} {r : List T_api_Called} (h : m_slices_SortFunc_api_Called_api_Called_2 k x = some r) : EC Tryz.prog 172 [.sl 0 x.length, .fn (.func 181) [] []] [.row 112 2 x.length (x.flatMap e_api_Called)] fun g hp' => g = .tup [] ∧ hp' = [.row 112 2 r.length (r.flatMap e_api_Called)] := by
  refine ec_enter (Fr.of 0 _) Tryz.func172 rfl (Fr.of_ok _) (Nat.le_of_ble_eq_true rfl) fun _ => ?_
  refine go_in ?_
  unfold m_slices_SortFunc_api_Called_api_Called_2 at h
  obtain ⟨y1, hy1, h2⟩ := bi_ok h
  refine go hΓ 12 rfl ?_
  refine eo_callP (callable Tryz.func241 rfl rfl) (c_math_bits_Len hy1) rfl (Nat.le_of_ble_eq_true rfl) rfl rfl rfl rfl rfl ?_
  obtain ⟨y3, hy3, h4⟩ := bi_ok h2
  refine go_ops hΓ 1 rfl ?_
  refine eo_callF [0] (.tup []) [.row 112 2 y3.length (y3.flatMap e_api_Called)] (callable Tryz.func254 rfl rfl) (c_slices_pdqsortCmpFunc_api_Called_2 hy3) rfl (Nat.le_of_ble_eq_true rfl) rfl rfl rfl rfl rfl rfl rfl rfl rfl rfl ?_
  refine go_ops hΓ 1 rfl ?_
  obtain rfl := Option.some.inj h4
  exact fin_objs hΓ [] (.inl rfl) rfl rfl rfl rfl (.inl rfl)

theorem c_laneref1_CalledOf {k : Nat} {l : List T_api_Wish} {r : List T_api_Called} (h : m_laneref1_CalledOf k l = some r) : EC Tryz.prog 69 [.d (Sl e_api_Wish l)] [] fun g hp' => g = .sl 0 r.length ∧ hp' = [.row 112 2 r.length (r.flatMap e_api_Called)] := by
  refine ec_enter (Fr.of 0 _) Tryz.func69 rfl (Fr.of_ok _) (Nat.le_of_ble_eq_true rfl) fun _ => ?_
  refine go_in ?_
  unfold m_laneref1_CalledOf at h
  obtain ⟨y1, hy1, h2⟩ := bi_ok h
  refine go hΓ 8 rfl ?_
  refine eo_callF [] (.sl 0 y1.length) [.row 107 3 y1.length (y1.flatMap e_api_Wish)] (callable Tryz.func169 rfl rfl) (c_slices_Clone_api_Wish_api_Wish hy1) rfl (Nat.le_of_ble_eq_true rfl) rfl rfl rfl rfl rfl rfl rfl rfl rfl rfl ?_
  obtain ⟨y3, hy3, h4⟩ := bi_ok h2
  refine go_ops hΓ 6 rfl ?_
  refine eo_callF [0] (.tup []) [.row 107 3 y3.length (y3.flatMap e_api_Wish)] (callable Tryz.func170 rfl rfl) (c_slices_SortStableFunc_api_Wish_api_Wish_2 hy3) rfl (Nat.le_of_ble_eq_true rfl) rfl rfl rfl rfl rfl rfl rfl rfl rfl rfl ?_
  obtain ⟨hg6, h5⟩ := gd_ok h4
  refine eo_relen 3 rfl (of_decide_eq_true hg6).symm ?_
  refine go_ops hΓ 4 rfl ?_
  refine eo_s (Nat.le_of_ble_eq_true rfl) (nblt.1 rfl) (ops_makeMap false) ?_
  refine eo_hp [.row 107 3 y3.length (y3.flatMap e_api_Wish), mOb kS false eB ([] : List (Str × Bool))] rfl ?_
  refine go_ops hΓ 5 rfl ?_
  refine eo_nilOwn (t := 0) 112 2 rfl (Nat.le_of_ble_eq_true rfl) ?_
  refine go_ops hΓ 10 rfl ?_
  obtain ⟨q10, hq10, h11⟩ := bi_ok h5
  obtain ⟨hb13, h14⟩ := gd_ok hq10
  replace hb13 := of_decide_eq_true hb13
  refine j_cutNZ [(5, .sl 2 q10.2.length)] [.row 107 3 y3.length (y3.flatMap e_api_Wish), mOb kS false eB q10.1, .row 112 2 q10.2.length (q10.2.flatMap e_api_Called)] ?_ ?_
  · refine go hΓ 1 rfl ?_
    refine j_rangeG h14 (fun i7 s8 => [(4, .map 1), (5, .sl 2 s8.2.length), (17, .sl 0 y3.length), (18, I (y3.length : Int)), (19, I (i7 : Int))]) (fun s8 => [.row 107 3 y3.length (y3.flatMap e_api_Wish), mOb kS false eB s8.1, .row 112 2 s8.2.length (s8.2.flatMap e_api_Called)]) ⟨⟨rfl, rfl, rfl, rfl, rfl, trivial⟩, [], rfl, .inl rfl⟩ (fun i7 s8 y18 hlt hy16 => ?_) (fun hge => ?_)
    · refine go hΓ 6 rfl ?_
      refine j_condT rfl (decide_eq_true hlt) ?_
      obtain ⟨x19, hx19, h20⟩ := bi_ok hy16
      have hj21 := getZ_at hx19
      refine go hΓ 6 rfl ?_
      refine eo_o rfl (op_elemRowZ hΓ hx19 rfl rfl rfl rfl rfl rfl) ?_
      refine eo_o rfl (op_loadRowZ hΓ (enc := e_api_Wish) ((i7 : Int).toNat) 0 hj21 rfl rfl rfl rfl (fun _ => rfl) (g := .agg [S x19.Node, S x19.Name, I x19.Joined]) rfl) ?_
      refine eo_alloc hΓ rfl rfl rfl (Nat.le_of_ble_eq_true rfl) ?_
      refine eo_store hΓ rfl rfl rfl rfl rfl rfl rfl rfl (Nat.le_of_ble_eq_true rfl) ?_
      refine eo_hp [.row 107 3 y3.length (y3.flatMap e_api_Wish), mOb kS false eB s8.1, .row 112 2 s8.2.length (s8.2.flatMap e_api_Called), .box 107 [S x19.Node, S x19.Name, I x19.Joined]] rfl ?_
      obtain ⟨y22, hy22, h23⟩ := bi_ok h20
      refine go_ops hΓ 6 rfl ?_
      refine eo_callP (callable Tryz.func66 rfl rfl) (c_laneref1_LabelOf hy22) rfl (Nat.le_of_ble_eq_true rfl) rfl rfl rfl rfl rfl ?_
      refine go_ops hΓ 15 rfl ?_
      obtain ⟨q27, hq27, h28⟩ := bi_ok h23
      refine j_cutNZ [(4, .map 1), (5, .sl 2 s8.2.length), (7, .ptr 3 0), (9, S q27), (17, .sl 0 y3.length), (18, I (y3.length : Int)), (19, I (i7 : Int))] [.row 107 3 y3.length (y3.flatMap e_api_Wish), mOb kS false eB s8.1, .row 112 2 s8.2.length (s8.2.flatMap e_api_Called), .box 107 [S x19.Node, S x19.Name, I x19.Joined]] ?_ ?_
      · refine go hΓ 1 rfl ?_
        refine j_loop hq27 (fun s25 => [(4, .map 1), (5, .sl 2 s8.2.length), (7, .ptr 3 0), (8, S y22), (9, S s25.1), (10, I s25.2), (17, .sl 0 y3.length), (18, I (y3.length : Int)), (19, I (i7 : Int))]) (fun s25 => [.row 107 3 y3.length (y3.flatMap e_api_Wish), mOb kS false eB s8.1, .row 112 2 s8.2.length (s8.2.flatMap e_api_Called), .box 107 [S x19.Node, S x19.Name, I x19.Joined]]) ⟨⟨rfl, rfl, rfl, rfl, rfl, rfl, rfl, rfl, rfl, trivial⟩, [], rfl, .inl rfl⟩ (fun s25 y33 hy31 hout32 => ?_)
        refine go hΓ 5 rfl ?_
        refine eo_o rfl (op_lookup hΓ (kv := kS) (agg := false) (enc := eB) s8.1 s25.1 (false : Bool) rfl rfl rfl rfl key_str rfl rfl rfl rfl rfl rfl rfl) ?_
        refine go_ops hΓ 2 rfl ?_
        refine j_cond rfl (fun hb => ?_) (fun hb => ?_)
        · have h34 := cT hy31 hb
          obtain ⟨y35, hy35, h36⟩ := bi_ok h34
          refine go hΓ 7 rfl ?_
          refine eo_callP (callable Tryz.func126 rfl rfl) (c_strconv_Itoa hy35) rfl (Nat.le_of_ble_eq_true rfl) rfl rfl rfl rfl rfl ?_
          obtain ⟨y37, hy37, h38⟩ := bi_ok h36
          refine eo_o rfl (op_catZ hy37 rfl rfl) ?_
          obtain ⟨z39, hz39, h40⟩ := bi_ok h38
          refine go_ops hΓ 11 rfl ?_
          refine eo_o rfl (op_subZ hΓ hz39 rfl rfl rfl rfl rfl) ?_
          obtain ⟨y41, hy41, h42⟩ := bi_ok h40
          refine go_ops hΓ 1 rfl ?_
          refine eo_o rfl (op_catZ hy41 rfl rfl) ?_
          refine go_ops hΓ 9 rfl ?_
          obtain rfl := Option.some.inj h42
          exact ⟨_, rfl, ⟨⟨rfl, rfl, rfl, rfl, rfl, rfl, rfl, rfl, rfl, trivial⟩, [], rfl, .inl rfl⟩⟩
        · have h43 := cF hy31 hb
          refine go hΓ 4 rfl ?_
          obtain rfl := Option.some.inj h43
          obtain rfl := hout32 _ rfl
          exact ⟨⟨rfl, rfl, rfl, rfl, rfl, rfl, rfl, trivial⟩, [], rfl, .inl rfl⟩
      · refine go hΓ 5 rfl ?_
        refine eo_u (Nat.le_of_ble_eq_true rfl) (opu_mapUpdate hΓ (kv := kS) (agg := false) (enc := eB) s8.1 q27 true rfl rfl rfl key_str rfl rfl rfl rfl rfl) ?_
        refine eo_hp [.row 107 3 y3.length (y3.flatMap e_api_Wish), mOb kS false eB (mSet s8.1 q27 true), .row 112 2 s8.2.length (s8.2.flatMap e_api_Called), .box 107 [S x19.Node, S x19.Name, I x19.Joined]] rfl ?_
        refine go_ops hΓ 7 rfl ?_
        refine eo_build hΓ (gs := [S x19.Node, S q27]) rfl rfl rfl rfl rfl rfl rfl ?_
        refine eo_litT hΓ (enc := e_api_Called) [(⟨x19.Node, q27⟩ : T_api_Called)] rfl rfl rfl rfl rfl rfl rfl rfl rfl rfl rfl rfl (Nat.le_of_ble_eq_true rfl) ?_
        obtain ⟨y44, hy44, h45⟩ := bi_ok h28
        refine eo_appendT hΓ (enc := e_api_Called) hy44 rfl rfl rfl rfl rfl rfl rfl rfl rfl (fun _ => rfl) rfl rfl rfl rfl ?_
        refine go_ops hΓ 8 rfl ?_
        obtain rfl := Option.some.inj h45
        exact ⟨⟨rfl, rfl, rfl, rfl, get_eq rfl (w64_succ (by omega)), trivial⟩, [_], rfl, .inr ⟨HB.mk rfl, FB.mk rfl, (Nat.le_of_ble_eq_true rfl)⟩⟩
    · refine go hΓ 6 rfl ?_
      refine j_condF rfl (decide_eq_false hge) ?_
      refine go hΓ 4 rfl ?_
      exact ⟨⟨rfl, trivial⟩, [], rfl, .inl rfl⟩
  · obtain ⟨y46, hy46, h47⟩ := bi_ok h11
    refine go hΓ 4 rfl ?_
    refine eo_callF [2] (.tup []) [.row 107 3 y3.length (y3.flatMap e_api_Wish), mOb kS false eB q10.1, .row 112 2 y46.length (y46.flatMap e_api_Called)] (callable Tryz.func172 rfl rfl) (c_slices_SortFunc_api_Called_api_Called_2 hy46) rfl (Nat.le_of_ble_eq_true rfl) rfl rfl rfl rfl rfl rfl rfl rfl rfl rfl ?_
    obtain ⟨hg49, h48⟩ := gd_ok h47
    refine eo_relen 5 rfl (of_decide_eq_true hg49).symm ?_
    refine go_ops hΓ 6 rfl ?_
    refine eo_shr 0 [] _ [.dead, mOb kS false eB q10.1, .row 112 2 y46.length (y46.flatMap e_api_Called)] rfl rfl rfl (Nat.le_of_ble_eq_true rfl) ?_
    refine eo_move 2 0 [.row 112 2 y46.length (y46.flatMap e_api_Called), mOb kS false eB q10.1, .dead] rfl rfl rfl rfl rfl rfl ?_
    refine go_ops hΓ 3 rfl ?_
    obtain rfl := Option.some.inj h48
    exact fin_objs hΓ [_, _] (.inr rfl) rfl rfl rfl rfl (.inr ⟨HB.mk rfl, rfl⟩)

theorem c_slices_Equal_api_Called_api_Called {s1 : List T_api_Called} {s2 : List T_api_Called} {r : Bool} (h : m_slices_Equal_api_Called_api_Called s1 s2 = some r) : Pure Tryz.prog 68 [.d (Sl e_api_Called s1), .d (Sl e_api_Called s2)] (B r) := by
  refine Pure.enter (Fr.of 0 _) Tryz.func68 rfl (Fr.of_ok _) rfl rfl ?_
  refine go_in ?_
  unfold m_slices_Equal_api_Called_api_Called at h
  refine go hΓ 15 rfl ?_
  refine j_cond rfl (fun hb => ?_) (fun hb => ?_)
  · have h1 := cT h hb
    refine go hΓ 7 rfl ?_
    obtain rfl := Option.some.inj h1
    exact fin_pure hΓ (.inr rfl) rfl rfl
  · have h2 := cF h hb
    refine go hΓ 10 rfl ?_
    obtain ⟨q6, hq6, h7⟩ := bi_ok h2
    refine j_bound 0 rfl fun hb9 => ?_
    refine j_cutEZ (R := fun a8 => q6 = .go a8) (fun a8 => []) (fun a8 => []) ?_ ?_
    · refine go hΓ 1 rfl ?_
      refine j_range s1 hq6 (fun i3 s4 => [(0, .d (Sl e_api_Called s1)), (1, .d (Sl e_api_Called s2)), (12, I (s1.length : Int)), (13, I (i3 : Int))]) (fun s4 => []) ⟨⟨rfl, rfl, rfl, rfl, trivial⟩, [], rfl, .inl rfl⟩ (fun i3 x5 s4 y13 hx10 hlt hy11 hout12 => ?_) (fun s4 hgo => ?_)
      · refine go hΓ 6 rfl ?_
        refine j_condT rfl (decide_eq_true (Int.ofNat_lt.2 hlt)) ?_
        refine go hΓ 11 rfl ?_
        refine j_draw hmix (by kernel_rfl) ?_
        refine go hΓ 2 rfl ?_
        refine gl_o rfl (op_elemZ hΓ (enc := e_api_Called) (getZ_nat hx10) rfl rfl rfl rfl rfl (fun _ => rfl)) ?_
        obtain ⟨x14, hx14, h15⟩ := bi_ok hy11
        refine go_draw hΓ 3 rfl ?_
        refine gl_o rfl (op_elemZ hΓ (enc := e_api_Called) hx14 rfl rfl rfl rfl rfl (fun _ => rfl)) ?_
        refine go_draw hΓ 1 rfl ?_
        refine gl_o rfl (op_neS hΓ [112] (b := (((x5.Node : Str) == x14.Node) && (((x5.Label : Str) == x14.Label) && true))) (by kernel_rfl) (by kernel_rfl) rfl rfl rfl) ?_
        refine go_draw hΓ 2 rfl ?_
        refine j_cond rfl (fun hb => ?_) (fun hb => ?_)
        · have h16 := cT h15 hb
          refine go hΓ 8 rfl ?_
          obtain ⟨v17, hv17, h18⟩ := bi_ok h16
          obtain rfl := Option.some.inj h18
          obtain rfl := hout12 _ rfl
          obtain rfl := Option.some.inj h7
          refine go hΓ 4 rfl ?_
          obtain rfl := Option.some.inj hv17
          exact fin_pure hΓ (.inr rfl) rfl rfl
        · have h19 := cF h15 hb
          refine go hΓ 7 rfl ?_
          obtain rfl := Option.some.inj h19
          exact ⟨_, rfl, ⟨⟨rfl, rfl, rfl, get_eq rfl (w64_succ (Nat.lt_of_lt_of_le hlt hb9)), trivial⟩, [], rfl, .inl rfl⟩⟩
      · subst hgo
        refine go hΓ 6 rfl ?_
        refine j_condF rfl (decide_eq_false (Int.lt_irrefl _)) ?_
        refine go hΓ 4 rfl ?_
        exact ⟨_, rfl, ⟨trivial, [], rfl, .inl rfl⟩⟩
    · intro a8 ha
      subst ha
      replace h7 := goI_l h7
      refine go hΓ 7 rfl ?_
      obtain rfl := Option.some.inj h7
      exact fin_pure hΓ (.inr rfl) rfl rfl

theorem c_lanelaw1_NodesCalled {k : Nat} {l : List Int} {r : Bool} (h : m_lanelaw1_NodesCalled k l = some r) : Pure Tryz.prog 9 [.d (Sl (eN .i64) l)] (B r) := by
  refine Pure.enter (Fr.of 0 _) Tryz.func9 rfl (Fr.of_ok _) rfl rfl ?_
  refine go_in ?_
  unfold m_lanelaw1_NodesCalled at h
  refine go hΓ 8 rfl ?_
  refine eo_build hΓ (gs := [.d (Sl (eN .i64) l), I 0]) rfl rfl rfl rfl rfl rfl rfl ?_
  refine eo_box rfl rfl rfl rfl (Nat.le_of_ble_eq_true rfl) ?_
  obtain ⟨y1, hy1, h2⟩ := bi_ok h
  refine go_ops hΓ 6 rfl ?_
  refine eo_callF [0] (.sl 1 y1.1.length) [.box 25 [.d (Sl (eN .i64) y1.2.L), I y1.2.v_at], .row 107 3 y1.1.length (y1.1.flatMap e_api_Wish)] (callable Tryz.func63 rfl rfl) (c_lanemake_Stream_Wishes hy1) rfl (Nat.le_of_ble_eq_true rfl) rfl rfl rfl rfl rfl rfl rfl rfl rfl rfl ?_
  obtain ⟨y3, hy3, h4⟩ := bi_ok h2
  refine go_ops hΓ 6 rfl ?_
  refine eo_shr 1 [4, 15, 17] _ [.box 25 [.d (Sl (eN .i64) y1.2.L), I y1.2.v_at], .dead] rfl rfl rfl (Nat.le_of_ble_eq_true rfl) ?_
  refine eo_callP (callable Tryz.func64 rfl rfl) (c_name_Call hy3) rfl (Nat.le_of_ble_eq_true rfl) rfl rfl rfl rfl rfl ?_
  refine go_ops hΓ 15 rfl ?_
  obtain ⟨q8, hq8, h9⟩ := bi_ok h4
  refine j_bound 4 rfl fun hb11 => ?_
  refine j_cutEZ (R := fun a10 => q8 = .go a10) (fun a10 => [(4, .d (Sl e_api_Wish y1.1)), (5, .d (Sl e_api_Called y3.1)), (6, I y3.2)]) (fun a10 => [.box 25 [.d (Sl (eN .i64) a10.L), I a10.v_at], .dead]) ?_ ?_
  · refine go hΓ 1 rfl ?_
    refine j_range y1.1 hq8 (fun i5 s6 => [(3, .ptr 0 0), (4, .d (Sl e_api_Wish y1.1)), (5, .d (Sl e_api_Called y3.1)), (6, I y3.2), (21, .d (Sl e_api_Wish y1.1)), (22, I (y1.1.length : Int)), (23, I (i5 : Int))]) (fun s6 => [.box 25 [.d (Sl (eN .i64) s6.L), I s6.v_at], .dead]) ⟨⟨rfl, rfl, rfl, rfl, rfl, rfl, rfl, trivial⟩, [], rfl, .inl rfl⟩ (fun i5 x7 s6 y15 hx12 hlt hy13 hout14 => ?_) (fun s6 hgo => ?_)
    · refine go hΓ 6 rfl ?_
      refine j_condT rfl (decide_eq_true (Int.ofNat_lt.2 hlt)) ?_
      refine go hΓ 6 rfl ?_
      refine eo_o rfl (op_elemZ hΓ (enc := e_api_Wish) (getZ_nat hx12) rfl rfl rfl rfl rfl (fun _ => rfl)) ?_
      refine go_ops hΓ 1 rfl ?_
      refine eo_alloc hΓ rfl rfl rfl (Nat.le_of_ble_eq_true rfl) ?_
      refine eo_store hΓ rfl rfl rfl rfl rfl rfl rfl rfl (Nat.le_of_ble_eq_true rfl) ?_
      refine eo_hp [.box 25 [.d (Sl (eN .i64) s6.L), I s6.v_at], .dead, .box 107 [S x7.Node, S x7.Name, I x7.Joined]] rfl ?_
      obtain ⟨y16, hy16, h17⟩ := bi_ok hy13
      refine go_ops hΓ 13 rfl ?_
      refine eo_callF [0] (B y16.1) [.box 25 [.d (Sl (eN .i64) y16.2.L), I y16.2.v_at], .dead, .box 107 [S x7.Node, S x7.Name, I x7.Joined]] (callable Tryz.func13 rfl rfl) (c_lanemake_Stream_Flip hy16) rfl (Nat.le_of_ble_eq_true rfl) rfl rfl rfl rfl rfl rfl rfl rfl rfl rfl ?_
      obtain ⟨q18, hq18, h19⟩ := bi_ok h17
      refine go_ops hΓ 2 rfl ?_
      refine j_cutNZ [(3, .ptr 0 0), (4, .d (Sl e_api_Wish y1.1)), (5, .d (Sl e_api_Called y3.1)), (6, I y3.2), (9, S q18.2), (21, .d (Sl e_api_Wish y1.1)), (22, I (y1.1.length : Int)), (23, I (i5 : Int))] [.box 25 [.d (Sl (eN .i64) q18.1.L), I q18.1.v_at], .dead, .box 107 [S x7.Node, S x7.Name, I x7.Joined]] ?_ ?_
      · refine j_cond rfl (fun hb => ?_) (fun hb => ?_)
        · have h20 := cT hq18 hb
          obtain ⟨y21, hy21, h22⟩ := bi_ok h20
          refine go hΓ 3 rfl ?_
          refine eo_callF [0] (S y21.1) [.box 25 [.d (Sl (eN .i64) y21.2.L), I y21.2.v_at], .dead, .box 107 [S x7.Node, S x7.Name, I x7.Joined]] (callable Tryz.func42 rfl rfl) (c_lanemake_Stream_Changed hy21) rfl (Nat.le_of_ble_eq_true rfl) rfl rfl rfl rfl rfl rfl rfl rfl rfl rfl ?_
          refine go_ops hΓ 2 rfl ?_
          obtain rfl := Option.some.inj h22
          exact ⟨⟨rfl, rfl, rfl, rfl, rfl, rfl, rfl, rfl, trivial⟩, [], rfl, .inl rfl⟩
        · have h23 := cF hq18 hb
          refine go hΓ 1 rfl ?_
          obtain rfl := Option.some.inj h23
          exact ⟨⟨rfl, rfl, rfl, rfl, rfl, rfl, rfl, rfl, trivial⟩, [], rfl, .inl rfl⟩
      · obtain ⟨y24, hy24, h25⟩ := bi_ok h19
        refine go hΓ 4 rfl ?_
        refine eo_callP (callable Tryz.func65 rfl rfl) (c_name_Label hy24) rfl (Nat.le_of_ble_eq_true rfl) rfl rfl rfl rfl rfl ?_
        obtain ⟨y26, hy26, h27⟩ := bi_ok h25
        refine go_ops hΓ 1 rfl ?_
        refine eo_callP (callable Tryz.func66 rfl rfl) (c_laneref1_LabelOf hy26) rfl (Nat.le_of_ble_eq_true rfl) rfl rfl rfl rfl rfl ?_
        refine go_ops hΓ 3 rfl ?_
        refine j_cond rfl (fun hb => ?_) (fun hb => ?_)
        · have h28 := cT h27 hb
          refine go hΓ 8 rfl ?_
          obtain ⟨v29, hv29, h30⟩ := bi_ok h28
          obtain rfl := Option.some.inj h30
          obtain rfl := hout14 _ rfl
          obtain rfl := Option.some.inj h9
          refine go hΓ 4 rfl ?_
          obtain rfl := Option.some.inj hv29
          exact fin_pure hΓ (.inr rfl) rfl rfl
        · have h31 := cF h27 hb
          refine go hΓ 7 rfl ?_
          obtain rfl := Option.some.inj h31
          exact ⟨_, rfl, ⟨⟨rfl, rfl, rfl, rfl, rfl, rfl, get_eq rfl (w64_succ (Nat.lt_of_lt_of_le hlt hb11)), trivial⟩, [_], rfl, .inr ⟨HB.mk rfl, FB.mk rfl, (Nat.le_of_ble_eq_true rfl)⟩⟩⟩
    · subst hgo
      refine go hΓ 6 rfl ?_
      refine j_condF rfl (decide_eq_false (Int.lt_irrefl _)) ?_
      refine go hΓ 4 rfl ?_
      exact ⟨_, rfl, ⟨⟨rfl, rfl, rfl, trivial⟩, [], rfl, .inl rfl⟩⟩
  · intro a10 ha
    subst ha
    replace h9 := goI_l h9
    obtain ⟨y32, hy32, h33⟩ := bi_ok h9
    refine go hΓ 5 rfl ?_
    refine eo_callP (callable Tryz.func67 rfl rfl) (c_laneref1_WishesFault hy32) rfl (Nat.le_of_ble_eq_true rfl) rfl rfl rfl rfl rfl ?_
    refine go_ops hΓ 9 rfl ?_
    refine j_cond rfl (fun hb => ?_) (fun hb => ?_)
    · have h34 := cT h33 hb
      refine go hΓ 6 rfl ?_
      refine o_cut 4 [(51, B (((y3.2 : Int) == y32) && (((y3.1.length : Int) : Int) == 0)))] [.box 25 [.d (Sl (eN .i64) a10.L), I a10.v_at], .dead] ?_ ?_
      · refine eo_gsplit rfl rfl (fun hb => ?_) (fun hb => ?_)
        · refine go_ops hΓ 5 rfl ?_
          exact ⟨⟨get_b rfl (and_t hb), trivial⟩, [], rfl, .inl rfl⟩
        · refine go_ops hΓ 5 rfl ?_
          exact ⟨⟨get_b rfl (and_f hb), trivial⟩, [], rfl, .inl rfl⟩
      · refine go_ops hΓ 1 rfl ?_
        obtain ⟨q35, hq35, h36⟩ := bi_ok h34
        refine o_cut 2 [(54, B q35)] [.box 25 [.d (Sl (eN .i64) a10.L), I a10.v_at], .dead] ?_ ?_
        · refine eo_gsplit rfl rfl (fun hb => ?_) (fun hb => ?_)
          · have h37 := cT hq35 hb
            obtain ⟨y38, hy38, h39⟩ := bi_ok h37
            refine eo_guard rfl ?_
            refine eo_callP (callable Tryz.func19 rfl rfl) (c_lanelaw1_named hy38) rfl (Nat.le_of_ble_eq_true rfl) rfl rfl rfl rfl rfl ?_
            refine go_ops hΓ 2 rfl ?_
            obtain rfl := Option.some.inj h39
            exact ⟨⟨rfl, trivial⟩, [], rfl, .inl rfl⟩
          · have h40 := cF hq35 hb
            refine go_ops hΓ 3 rfl ?_
            obtain rfl := Option.some.inj h40
            exact ⟨⟨rfl, trivial⟩, [], rfl, .inl rfl⟩
        · refine go_ops hΓ 5 rfl ?_
          obtain rfl := Option.some.inj h36
          exact fin_pure hΓ (.inr rfl) rfl rfl
    · have h41 := cF h33 hb
      refine go hΓ 7 rfl ?_
      obtain ⟨q42, hq42, h43⟩ := bi_ok h41
      refine o_cut 5 [(62, B q42)] [.box 25 [.d (Sl (eN .i64) a10.L), I a10.v_at], .dead] ?_ ?_
      · refine eo_gsplit rfl rfl (fun hb => ?_) (fun hb => ?_)
        · have h44 := cT hq42 hb
          obtain ⟨y45, hy45, h46⟩ := bi_ok h44
          refine go_ops hΓ 2 rfl ?_
          refine eo_guard rfl ?_
          refine eo_callP (callable Tryz.func69 rfl rfl) (Pure.rows (c_laneref1_CalledOf hy45) rfl rfl) rfl (Nat.le_of_ble_eq_true rfl) rfl rfl rfl rfl rfl ?_
          obtain ⟨y47, hy47, h48⟩ := bi_ok h46
          refine eo_guard rfl ?_
          refine eo_callP (callable Tryz.func68 rfl rfl) (c_slices_Equal_api_Called_api_Called hy47) rfl (Nat.le_of_ble_eq_true rfl) rfl rfl rfl rfl rfl ?_
          refine go_ops hΓ 2 rfl ?_
          obtain rfl := Option.some.inj h48
          exact ⟨⟨rfl, trivial⟩, [], rfl, .inl rfl⟩
        · have h49 := cF hq42 hb
          refine go_ops hΓ 6 rfl ?_
          obtain rfl := Option.some.inj h49
          exact ⟨⟨rfl, trivial⟩, [], rfl, .inl rfl⟩
      · refine go_ops hΓ 1 rfl ?_
        obtain ⟨q50, hq50, h51⟩ := bi_ok h43
        refine o_cut 2 [(65, B q50)] [.box 25 [.d (Sl (eN .i64) a10.L), I a10.v_at], .dead] ?_ ?_
        · refine eo_gsplit rfl rfl (fun hb => ?_) (fun hb => ?_)
          · have h52 := cT hq50 hb
            obtain ⟨y53, hy53, h54⟩ := bi_ok h52
            refine eo_guard rfl ?_
            refine eo_callP (callable Tryz.func19 rfl rfl) (c_lanelaw1_named hy53) rfl (Nat.le_of_ble_eq_true rfl) rfl rfl rfl rfl rfl ?_
            refine go_ops hΓ 2 rfl ?_
            obtain rfl := Option.some.inj h54
            exact ⟨⟨rfl, trivial⟩, [], rfl, .inl rfl⟩
          · have h55 := cF hq50 hb
            refine go_ops hΓ 3 rfl ?_
            obtain rfl := Option.some.inj h55
            exact ⟨⟨rfl, trivial⟩, [], rfl, .inl rfl⟩
        · refine go_ops hΓ 4 rfl ?_
          obtain rfl := Option.some.inj h51
          exact fin_pure hΓ (.inr rfl) rfl rfl

end Go.Proofs.YtpgnhnjhpnbelaaGreatDoor
