/-
  The functions compute their models.
-/
import Derived.Test.YtimglghcggljcaaGreatDoorXMM
import Derived.Test.YtimglghcggljcaaGreatDoorGt
import Derived.Test.YtimglghcggljcaaGreatDoorStr2
import Derived.Test.YtimglghcggljcaaGreatDoorXMW1
set_option linter.unusedVariables false
set_option linter.unusedSimpArgs false
set_option maxRecDepth 100000
namespace Go.Proofs.YtimglghcggljcaaGreatDoor
open Go.Gk

theorem c_laneref1_MessageBytes {k : Nat} {m : T_api_Message} {r : List Int} (h : m_laneref1_MessageBytes k m = some r) : EC Tryz.prog 51 [.agg [I m.Id, B m.Reply, I m.Code, .d (Sl e_api_Question m.Asked), .d (Sl e_api_Record m.Got)]] [] fun g hp' => g = .sl 0 r.length ∧ hp' = [.row 5 1 r.length (r.flatMap (eN .u8))] := by
  refine ec_enterC (Fr.of 0 _) Tryz.func51 rfl (Fr.of_ok _) (Nat.le_of_ble_eq_true rfl) fun _ => ?_
  refine go_in ?_
  unfold m_laneref1_MessageBytes at h
  refine go hΓ 2 rfl ?_
  refine eo_box rfl rfl rfl rfl (Nat.le_of_ble_eq_true rfl) ?_
  refine eo_nilOwn (t := 0) 5 1 rfl (Nat.le_of_ble_eq_true rfl) ?_
  refine go_ops hΓ 4 rfl ?_
  refine eo_s (Nat.le_of_ble_eq_true rfl) (nblt.1 rfl) (ops_makeMap false) ?_
  refine eo_hp [.box 29 [I m.Id, B m.Reply, I m.Code, .d (Sl e_api_Question m.Asked), .d (Sl e_api_Record m.Got)], .row 5 1 ([] : List Int).length (([] : List Int).flatMap (eN .u8)), mOb kS false (eN .i64) ([] : List (Str × Int))] rfl ?_
  refine eo_s (Nat.le_of_ble_eq_true rfl) (nblt.1 rfl) (ops_nilAt 5 1 0 (OpP.s (op_buildX hΓ [0] (gs := [.d (.v (.slice none 0 0)), .map 2]) rfl rfl rfl rfl rfl rfl)) rfl) ?_
  refine eo_box rfl rfl rfl rfl (Nat.le_of_ble_eq_true rfl) ?_
  obtain ⟨y1, hy1, h2⟩ := bi_ok h
  refine go_ops hΓ 9 rfl ?_
  refine eo_callF [3, 2, 4] (.tup []) [.box 29 [I m.Id, B m.Reply, I m.Code, .d (Sl e_api_Question m.Asked), .d (Sl e_api_Record m.Got)], .row 5 1 ([] : List Int).length (([] : List Int).flatMap (eN .u8)), mOb kS false (eN .i64) y1.v_at, .dead, .box 162 [.sl 5 y1.b.length, .map 2], .row 5 1 y1.b.length (y1.b.flatMap (eN .u8))] (callable Tryz.func111 rfl rfl) (c_laneref1_pen_put hy1) rfl (Nat.le_of_ble_eq_true rfl) rfl rfl rfl rfl rfl rfl rfl rfl rfl rfl ?_
  refine eo_move 5 3 [.box 29 [I m.Id, B m.Reply, I m.Code, .d (Sl e_api_Question m.Asked), .d (Sl e_api_Record m.Got)], .row 5 1 ([] : List Int).length (([] : List Int).flatMap (eN .u8)), mOb kS false (eN .i64) y1.v_at, .row 5 1 y1.b.length (y1.b.flatMap (eN .u8)), .box 162 [.sl 3 y1.b.length, .map 2], .dead] rfl rfl rfl rfl rfl rfl ?_
  obtain ⟨q3, hq3, h4⟩ := bi_ok h2
  refine go_ops hΓ 14 rfl ?_
  refine j_cutNZ [(1, .ptr 0 0), (3, .ptr 4 0), (4, .d (.v (.int .u64 q3)))] [.box 29 [I m.Id, B m.Reply, I m.Code, .d (Sl e_api_Question m.Asked), .d (Sl e_api_Record m.Got)], .row 5 1 ([] : List Int).length (([] : List Int).flatMap (eN .u8)), mOb kS false (eN .i64) y1.v_at, .row 5 1 y1.b.length (y1.b.flatMap (eN .u8)), .box 162 [.sl 3 y1.b.length, .map 2], .dead] ?_ ?_
  · refine j_cond rfl (fun hb => ?_) (fun hb => ?_)
    · have h5 := cT hq3 hb
      refine go hΓ 3 rfl ?_
      obtain rfl := Option.some.inj h5
      exact ⟨⟨rfl, rfl, rfl, trivial⟩, [], rfl, .inl rfl⟩
    · have h6 := cF hq3 hb
      refine go hΓ 1 rfl ?_
      obtain rfl := Option.some.inj h6
      exact ⟨⟨rfl, rfl, rfl, trivial⟩, [], rfl, .inl rfl⟩
  · refine go hΓ 16 rfl ?_
    refine eo_litT hΓ (enc := (eN .u64)) [q3, IntKind.u64.wrap (m.Code), IntKind.u64.wrap ((m.Asked.length : Int)), IntKind.u64.wrap ((m.Got.length : Int))] rfl rfl rfl rfl rfl rfl rfl rfl rfl rfl rfl rfl (Nat.le_of_ble_eq_true rfl) ?_
    refine go_ops hΓ 4 rfl ?_
    obtain ⟨q10, hq10, h11⟩ := bi_ok h4
    refine j_bound 33 rfl fun hb13 => ?_
    refine j_cutNZ [(1, .ptr 0 0), (3, .ptr 4 0)] [.box 29 [I m.Id, B m.Reply, I m.Code, .d (Sl e_api_Question m.Asked), .d (Sl e_api_Record m.Got)], .row 5 1 ([] : List Int).length (([] : List Int).flatMap (eN .u8)), mOb kS false (eN .i64) q10.1, .row 5 1 q10.2.length (q10.2.flatMap (eN .u8)), .box 162 [.sl 3 q10.2.length, .map 2], .dead] ?_ ?_
    · refine go hΓ 1 rfl ?_
      refine j_rangeF [q3, IntKind.u64.wrap (m.Code), IntKind.u64.wrap ((m.Asked.length : Int)), IntKind.u64.wrap ((m.Got.length : Int))] hq10 (fun i7 s8 => [(1, .ptr 0 0), (3, .ptr 4 0), (33, .d (Sl (eN .u64) [q3, IntKind.u64.wrap (m.Code), IntKind.u64.wrap ((m.Asked.length : Int)), IntKind.u64.wrap ((m.Got.length : Int))])), (34, I ([q3, IntKind.u64.wrap (m.Code), IntKind.u64.wrap ((m.Asked.length : Int)), IntKind.u64.wrap ((m.Got.length : Int))].length : Int)), (35, I (i7 : Int))]) (fun s8 => [.box 29 [I m.Id, B m.Reply, I m.Code, .d (Sl e_api_Question m.Asked), .d (Sl e_api_Record m.Got)], .row 5 1 ([] : List Int).length (([] : List Int).flatMap (eN .u8)), mOb kS false (eN .i64) s8.1, .row 5 1 s8.2.length (s8.2.flatMap (eN .u8)), .box 162 [.sl 3 s8.2.length, .map 2], .dead]) ⟨⟨rfl, rfl, rfl, rfl, rfl, trivial⟩, [], rfl, .inl rfl⟩ (fun i7 x9 s8 y17 hx14 hlt hy15 => ?_) (?_)
      · refine go hΓ 6 rfl ?_
        refine j_condT rfl (decide_eq_true (Int.ofNat_lt.2 hlt)) ?_
        refine go hΓ 6 rfl ?_
        refine eo_o rfl (op_elemZ hΓ (enc := (eN .u64)) (getZ_nat hx14) rfl rfl rfl rfl rfl (fun _ => rfl)) ?_
        obtain ⟨y18, hy18, h19⟩ := bi_ok hy15
        refine go_ops hΓ 7 rfl ?_
        refine eo_callF [3, 2, 4] (.tup []) [.box 29 [I m.Id, B m.Reply, I m.Code, .d (Sl e_api_Question m.Asked), .d (Sl e_api_Record m.Got)], .row 5 1 ([] : List Int).length (([] : List Int).flatMap (eN .u8)), mOb kS false (eN .i64) y18.v_at, .dead, .box 162 [.sl 6 y18.b.length, .map 2], .dead, .row 5 1 y18.b.length (y18.b.flatMap (eN .u8))] (callable Tryz.func111 rfl rfl) (c_laneref1_pen_put hy18) rfl (Nat.le_of_ble_eq_true rfl) rfl rfl rfl rfl rfl rfl rfl rfl rfl rfl ?_
        refine eo_move 6 3 [.box 29 [I m.Id, B m.Reply, I m.Code, .d (Sl e_api_Question m.Asked), .d (Sl e_api_Record m.Got)], .row 5 1 ([] : List Int).length (([] : List Int).flatMap (eN .u8)), mOb kS false (eN .i64) y18.v_at, .row 5 1 y18.b.length (y18.b.flatMap (eN .u8)), .box 162 [.sl 3 y18.b.length, .map 2], .dead, .dead] rfl rfl rfl rfl rfl rfl ?_
        refine go_ops hΓ 7 rfl ?_
        obtain rfl := Option.some.inj h19
        exact ⟨⟨rfl, rfl, rfl, rfl, get_eq rfl (w64_succ (Nat.lt_of_lt_of_le hlt hb13)), trivial⟩, [_], rfl, .inr ⟨HB.mk rfl, FB.mk rfl, (Nat.le_of_ble_eq_true rfl)⟩⟩
      · refine go hΓ 6 rfl ?_
        refine j_condF rfl (decide_eq_false (Int.lt_irrefl _)) ?_
        refine go hΓ 4 rfl ?_
        exact ⟨⟨rfl, rfl, trivial⟩, [], rfl, .inl rfl⟩
    · refine go hΓ 10 rfl ?_
      obtain ⟨q23, hq23, h24⟩ := bi_ok h11
      refine j_bound 44 rfl fun hb26 => ?_
      refine j_cutNZ [(1, .ptr 0 0), (3, .ptr 4 0)] [.box 29 [I m.Id, B m.Reply, I m.Code, .d (Sl e_api_Question m.Asked), .d (Sl e_api_Record m.Got)], .row 5 1 ([] : List Int).length (([] : List Int).flatMap (eN .u8)), mOb kS false (eN .i64) q23.1, .row 5 1 q23.2.length (q23.2.flatMap (eN .u8)), .box 162 [.sl 3 q23.2.length, .map 2], .dead] ?_ ?_
      · refine go hΓ 1 rfl ?_
        refine j_rangeF m.Asked hq23 (fun i20 s21 => [(1, .ptr 0 0), (3, .ptr 4 0), (44, .d (Sl e_api_Question m.Asked)), (45, I (m.Asked.length : Int)), (46, I (i20 : Int))]) (fun s21 => [.box 29 [I m.Id, B m.Reply, I m.Code, .d (Sl e_api_Question m.Asked), .d (Sl e_api_Record m.Got)], .row 5 1 ([] : List Int).length (([] : List Int).flatMap (eN .u8)), mOb kS false (eN .i64) s21.1, .row 5 1 s21.2.length (s21.2.flatMap (eN .u8)), .box 162 [.sl 3 s21.2.length, .map 2], .dead]) ⟨⟨rfl, rfl, rfl, rfl, rfl, trivial⟩, [], rfl, .inl rfl⟩ (fun i20 x22 s21 y30 hx27 hlt hy28 => ?_) (?_)
        · refine go hΓ 6 rfl ?_
          refine j_condT rfl (decide_eq_true (Int.ofNat_lt.2 hlt)) ?_
          refine go hΓ 6 rfl ?_
          refine eo_o rfl (op_elemZ hΓ (enc := e_api_Question) (getZ_nat hx27) rfl rfl rfl rfl rfl (fun _ => rfl)) ?_
          refine go_ops hΓ 1 rfl ?_
          refine eo_alloc hΓ rfl rfl rfl (Nat.le_of_ble_eq_true rfl) ?_
          refine eo_store hΓ rfl rfl rfl rfl rfl rfl rfl rfl (Nat.le_of_ble_eq_true rfl) ?_
          refine eo_hp [.box 29 [I m.Id, B m.Reply, I m.Code, .d (Sl e_api_Question m.Asked), .d (Sl e_api_Record m.Got)], .row 5 1 ([] : List Int).length (([] : List Int).flatMap (eN .u8)), mOb kS false (eN .i64) s21.1, .row 5 1 s21.2.length (s21.2.flatMap (eN .u8)), .box 162 [.sl 3 s21.2.length, .map 2], .dead, .box 78 [S x22.Name, I x22.Kind]] rfl ?_
          obtain ⟨y31, hy31, h32⟩ := bi_ok hy28
          refine go_ops hΓ 7 rfl ?_
          refine eo_callF [3, 2, 4] (.tup []) [.box 29 [I m.Id, B m.Reply, I m.Code, .d (Sl e_api_Question m.Asked), .d (Sl e_api_Record m.Got)], .row 5 1 ([] : List Int).length (([] : List Int).flatMap (eN .u8)), mOb kS false (eN .i64) y31.v_at, .dead, .box 162 [.sl 7 y31.b.length, .map 2], .dead, .box 78 [S x22.Name, I x22.Kind], .row 5 1 y31.b.length (y31.b.flatMap (eN .u8))] (callable Tryz.func112 rfl rfl) (c_laneref1_pen_name hy31) rfl (Nat.le_of_ble_eq_true rfl) rfl rfl rfl rfl rfl rfl rfl rfl rfl rfl ?_
          refine eo_move 7 3 [.box 29 [I m.Id, B m.Reply, I m.Code, .d (Sl e_api_Question m.Asked), .d (Sl e_api_Record m.Got)], .row 5 1 ([] : List Int).length (([] : List Int).flatMap (eN .u8)), mOb kS false (eN .i64) y31.v_at, .row 5 1 y31.b.length (y31.b.flatMap (eN .u8)), .box 162 [.sl 3 y31.b.length, .map 2], .dead, .box 78 [S x22.Name, I x22.Kind], .dead] rfl rfl rfl rfl rfl rfl ?_
          obtain ⟨y33, hy33, h34⟩ := bi_ok h32
          refine go_ops hΓ 7 rfl ?_
          refine eo_callF [3, 2, 4] (.tup []) [.box 29 [I m.Id, B m.Reply, I m.Code, .d (Sl e_api_Question m.Asked), .d (Sl e_api_Record m.Got)], .row 5 1 ([] : List Int).length (([] : List Int).flatMap (eN .u8)), mOb kS false (eN .i64) y33.v_at, .dead, .box 162 [.sl 8 y33.b.length, .map 2], .dead, .box 78 [S x22.Name, I x22.Kind], .dead, .row 5 1 y33.b.length (y33.b.flatMap (eN .u8))] (callable Tryz.func111 rfl rfl) (c_laneref1_pen_put hy33) rfl (Nat.le_of_ble_eq_true rfl) rfl rfl rfl rfl rfl rfl rfl rfl rfl rfl ?_
          refine eo_move 8 3 [.box 29 [I m.Id, B m.Reply, I m.Code, .d (Sl e_api_Question m.Asked), .d (Sl e_api_Record m.Got)], .row 5 1 ([] : List Int).length (([] : List Int).flatMap (eN .u8)), mOb kS false (eN .i64) y33.v_at, .row 5 1 y33.b.length (y33.b.flatMap (eN .u8)), .box 162 [.sl 3 y33.b.length, .map 2], .dead, .box 78 [S x22.Name, I x22.Kind], .dead, .dead] rfl rfl rfl rfl rfl rfl ?_
          refine go_ops hΓ 7 rfl ?_
          obtain rfl := Option.some.inj h34
          exact ⟨⟨rfl, rfl, rfl, rfl, get_eq rfl (w64_succ (Nat.lt_of_lt_of_le hlt hb26)), trivial⟩, [_, _, _], rfl, .inr ⟨HB.mk rfl, FB.mk rfl, (Nat.le_of_ble_eq_true rfl)⟩⟩
        · refine go hΓ 6 rfl ?_
          refine j_condF rfl (decide_eq_false (Int.lt_irrefl _)) ?_
          refine go hΓ 4 rfl ?_
          exact ⟨⟨rfl, rfl, trivial⟩, [], rfl, .inl rfl⟩
      · refine go hΓ 10 rfl ?_
        obtain ⟨q38, hq38, h39⟩ := bi_ok h24
        refine j_bound 61 rfl fun hb41 => ?_
        refine j_cutNZ [(3, .ptr 4 0)] [.box 29 [I m.Id, B m.Reply, I m.Code, .d (Sl e_api_Question m.Asked), .d (Sl e_api_Record m.Got)], .row 5 1 ([] : List Int).length (([] : List Int).flatMap (eN .u8)), mOb kS false (eN .i64) q38.1, .row 5 1 q38.2.length (q38.2.flatMap (eN .u8)), .box 162 [.sl 3 q38.2.length, .map 2], .dead] ?_ ?_
        · refine go hΓ 1 rfl ?_
          refine j_rangeF m.Got hq38 (fun i35 s36 => [(3, .ptr 4 0), (61, .d (Sl e_api_Record m.Got)), (62, I (m.Got.length : Int)), (63, I (i35 : Int))]) (fun s36 => [.box 29 [I m.Id, B m.Reply, I m.Code, .d (Sl e_api_Question m.Asked), .d (Sl e_api_Record m.Got)], .row 5 1 ([] : List Int).length (([] : List Int).flatMap (eN .u8)), mOb kS false (eN .i64) s36.1, .row 5 1 s36.2.length (s36.2.flatMap (eN .u8)), .box 162 [.sl 3 s36.2.length, .map 2], .dead]) ⟨⟨rfl, rfl, rfl, rfl, trivial⟩, [], rfl, .inl rfl⟩ (fun i35 x37 s36 y45 hx42 hlt hy43 => ?_) (?_)
          · refine go hΓ 6 rfl ?_
            refine j_condT rfl (decide_eq_true (Int.ofNat_lt.2 hlt)) ?_
            refine go hΓ 6 rfl ?_
            refine eo_o rfl (op_elemZ hΓ (enc := e_api_Record) (getZ_nat hx42) rfl rfl rfl rfl rfl (fun _ => rfl)) ?_
            refine go_ops hΓ 1 rfl ?_
            refine eo_alloc hΓ rfl rfl rfl (Nat.le_of_ble_eq_true rfl) ?_
            refine eo_store hΓ rfl rfl rfl rfl rfl rfl rfl rfl (Nat.le_of_ble_eq_true rfl) ?_
            refine eo_hp [.box 29 [I m.Id, B m.Reply, I m.Code, .d (Sl e_api_Question m.Asked), .d (Sl e_api_Record m.Got)], .row 5 1 ([] : List Int).length (([] : List Int).flatMap (eN .u8)), mOb kS false (eN .i64) s36.1, .row 5 1 s36.2.length (s36.2.flatMap (eN .u8)), .box 162 [.sl 3 s36.2.length, .map 2], .dead, .box 38 [S x37.Name, I x37.Kind, B x37.Addr.Six, .d (.v (.int .u64 x37.Addr.Hi)), .d (.v (.int .u64 x37.Addr.Lo)), S x37.To, S x37.Words, I x37.Life]] rfl ?_
            obtain ⟨y46, hy46, h47⟩ := bi_ok hy43
            refine go_ops hΓ 7 rfl ?_
            refine eo_callF [3, 2, 4] (.tup []) [.box 29 [I m.Id, B m.Reply, I m.Code, .d (Sl e_api_Question m.Asked), .d (Sl e_api_Record m.Got)], .row 5 1 ([] : List Int).length (([] : List Int).flatMap (eN .u8)), mOb kS false (eN .i64) y46.v_at, .dead, .box 162 [.sl 7 y46.b.length, .map 2], .dead, .box 38 [S x37.Name, I x37.Kind, B x37.Addr.Six, .d (.v (.int .u64 x37.Addr.Hi)), .d (.v (.int .u64 x37.Addr.Lo)), S x37.To, S x37.Words, I x37.Life], .row 5 1 y46.b.length (y46.b.flatMap (eN .u8))] (callable Tryz.func112 rfl rfl) (c_laneref1_pen_name hy46) rfl (Nat.le_of_ble_eq_true rfl) rfl rfl rfl rfl rfl rfl rfl rfl rfl rfl ?_
            refine eo_move 7 3 [.box 29 [I m.Id, B m.Reply, I m.Code, .d (Sl e_api_Question m.Asked), .d (Sl e_api_Record m.Got)], .row 5 1 ([] : List Int).length (([] : List Int).flatMap (eN .u8)), mOb kS false (eN .i64) y46.v_at, .row 5 1 y46.b.length (y46.b.flatMap (eN .u8)), .box 162 [.sl 3 y46.b.length, .map 2], .dead, .box 38 [S x37.Name, I x37.Kind, B x37.Addr.Six, .d (.v (.int .u64 x37.Addr.Hi)), .d (.v (.int .u64 x37.Addr.Lo)), S x37.To, S x37.Words, I x37.Life], .dead] rfl rfl rfl rfl rfl rfl ?_
            obtain ⟨y48, hy48, h49⟩ := bi_ok h47
            refine go_ops hΓ 8 rfl ?_
            refine eo_callF [3, 2, 4] (.tup []) [.box 29 [I m.Id, B m.Reply, I m.Code, .d (Sl e_api_Question m.Asked), .d (Sl e_api_Record m.Got)], .row 5 1 ([] : List Int).length (([] : List Int).flatMap (eN .u8)), mOb kS false (eN .i64) y48.v_at, .dead, .box 162 [.sl 8 y48.b.length, .map 2], .dead, .box 38 [S x37.Name, I x37.Kind, B x37.Addr.Six, .d (.v (.int .u64 x37.Addr.Hi)), .d (.v (.int .u64 x37.Addr.Lo)), S x37.To, S x37.Words, I x37.Life], .dead, .row 5 1 y48.b.length (y48.b.flatMap (eN .u8))] (callable Tryz.func111 rfl rfl) (c_laneref1_pen_put hy48) rfl (Nat.le_of_ble_eq_true rfl) rfl rfl rfl rfl rfl rfl rfl rfl rfl rfl ?_
            refine eo_move 8 3 [.box 29 [I m.Id, B m.Reply, I m.Code, .d (Sl e_api_Question m.Asked), .d (Sl e_api_Record m.Got)], .row 5 1 ([] : List Int).length (([] : List Int).flatMap (eN .u8)), mOb kS false (eN .i64) y48.v_at, .row 5 1 y48.b.length (y48.b.flatMap (eN .u8)), .box 162 [.sl 3 y48.b.length, .map 2], .dead, .box 38 [S x37.Name, I x37.Kind, B x37.Addr.Six, .d (.v (.int .u64 x37.Addr.Hi)), .d (.v (.int .u64 x37.Addr.Lo)), S x37.To, S x37.Words, I x37.Life], .dead, .dead] rfl rfl rfl rfl rfl rfl ?_
            obtain ⟨y50, hy50, h51⟩ := bi_ok h49
            refine go_ops hΓ 8 rfl ?_
            refine eo_callF [3, 2, 4] (.tup []) [.box 29 [I m.Id, B m.Reply, I m.Code, .d (Sl e_api_Question m.Asked), .d (Sl e_api_Record m.Got)], .row 5 1 ([] : List Int).length (([] : List Int).flatMap (eN .u8)), mOb kS false (eN .i64) y50.v_at, .dead, .box 162 [.sl 9 y50.b.length, .map 2], .dead, .box 38 [S x37.Name, I x37.Kind, B x37.Addr.Six, .d (.v (.int .u64 x37.Addr.Hi)), .d (.v (.int .u64 x37.Addr.Lo)), S x37.To, S x37.Words, I x37.Life], .dead, .dead, .row 5 1 y50.b.length (y50.b.flatMap (eN .u8))] (callable Tryz.func111 rfl rfl) (c_laneref1_pen_put hy50) rfl (Nat.le_of_ble_eq_true rfl) rfl rfl rfl rfl rfl rfl rfl rfl rfl rfl ?_
            refine eo_move 9 3 [.box 29 [I m.Id, B m.Reply, I m.Code, .d (Sl e_api_Question m.Asked), .d (Sl e_api_Record m.Got)], .row 5 1 ([] : List Int).length (([] : List Int).flatMap (eN .u8)), mOb kS false (eN .i64) y50.v_at, .row 5 1 y50.b.length (y50.b.flatMap (eN .u8)), .box 162 [.sl 3 y50.b.length, .map 2], .dead, .box 38 [S x37.Name, I x37.Kind, B x37.Addr.Six, .d (.v (.int .u64 x37.Addr.Hi)), .d (.v (.int .u64 x37.Addr.Lo)), S x37.To, S x37.Words, I x37.Life], .dead, .dead, .dead] rfl rfl rfl rfl rfl rfl ?_
            refine go_ops hΓ 15 rfl ?_
            refine j_cond rfl (fun hb => ?_) (fun hb => ?_)
            · have h52 := cT h51 hb
              obtain ⟨y53, hy53, h54⟩ := bi_ok h52
              refine go hΓ 5 rfl ?_
              refine eo_callF [3, 2, 4] (.tup []) [.box 29 [I m.Id, B m.Reply, I m.Code, .d (Sl e_api_Question m.Asked), .d (Sl e_api_Record m.Got)], .row 5 1 ([] : List Int).length (([] : List Int).flatMap (eN .u8)), mOb kS false (eN .i64) y53.v_at, .dead, .box 162 [.sl 10 y53.b.length, .map 2], .dead, .box 38 [S x37.Name, I x37.Kind, B x37.Addr.Six, .d (.v (.int .u64 x37.Addr.Hi)), .d (.v (.int .u64 x37.Addr.Lo)), S x37.To, S x37.Words, I x37.Life], .dead, .dead, .dead, .row 5 1 y53.b.length (y53.b.flatMap (eN .u8))] (callable Tryz.func111 rfl rfl) (c_laneref1_pen_put hy53) rfl (Nat.le_of_ble_eq_true rfl) rfl rfl rfl rfl rfl rfl rfl rfl rfl rfl ?_
              refine eo_move 10 3 [.box 29 [I m.Id, B m.Reply, I m.Code, .d (Sl e_api_Question m.Asked), .d (Sl e_api_Record m.Got)], .row 5 1 ([] : List Int).length (([] : List Int).flatMap (eN .u8)), mOb kS false (eN .i64) y53.v_at, .row 5 1 y53.b.length (y53.b.flatMap (eN .u8)), .box 162 [.sl 3 y53.b.length, .map 2], .dead, .box 38 [S x37.Name, I x37.Kind, B x37.Addr.Six, .d (.v (.int .u64 x37.Addr.Hi)), .d (.v (.int .u64 x37.Addr.Lo)), S x37.To, S x37.Words, I x37.Life], .dead, .dead, .dead, .dead] rfl rfl rfl rfl rfl rfl ?_
              refine go_ops hΓ 8 rfl ?_
              obtain rfl := Option.some.inj h54
              exact ⟨⟨rfl, rfl, rfl, get_eq rfl (w64_succ (Nat.lt_of_lt_of_le hlt hb41)), trivial⟩, [_, _, _, _, _], rfl, .inr ⟨HB.mk rfl, FB.mk rfl, (Nat.le_of_ble_eq_true rfl)⟩⟩
            · have h55 := cF h51 hb
              refine go hΓ 6 rfl ?_
              refine j_cond rfl (fun hb => ?_) (fun hb => ?_)
              · have h56 := cT h55 hb
                obtain ⟨y57, hy57, h58⟩ := bi_ok h56
                refine go hΓ 6 rfl ?_
                refine eo_callF [3, 2, 4] (.tup []) [.box 29 [I m.Id, B m.Reply, I m.Code, .d (Sl e_api_Question m.Asked), .d (Sl e_api_Record m.Got)], .row 5 1 ([] : List Int).length (([] : List Int).flatMap (eN .u8)), mOb kS false (eN .i64) y57.v_at, .dead, .box 162 [.sl 10 y57.b.length, .map 2], .dead, .box 38 [S x37.Name, I x37.Kind, B x37.Addr.Six, .d (.v (.int .u64 x37.Addr.Hi)), .d (.v (.int .u64 x37.Addr.Lo)), S x37.To, S x37.Words, I x37.Life], .dead, .dead, .dead, .row 5 1 y57.b.length (y57.b.flatMap (eN .u8))] (callable Tryz.func111 rfl rfl) (c_laneref1_pen_put hy57) rfl (Nat.le_of_ble_eq_true rfl) rfl rfl rfl rfl rfl rfl rfl rfl rfl rfl ?_
                refine eo_move 10 3 [.box 29 [I m.Id, B m.Reply, I m.Code, .d (Sl e_api_Question m.Asked), .d (Sl e_api_Record m.Got)], .row 5 1 ([] : List Int).length (([] : List Int).flatMap (eN .u8)), mOb kS false (eN .i64) y57.v_at, .row 5 1 y57.b.length (y57.b.flatMap (eN .u8)), .box 162 [.sl 3 y57.b.length, .map 2], .dead, .box 38 [S x37.Name, I x37.Kind, B x37.Addr.Six, .d (.v (.int .u64 x37.Addr.Hi)), .d (.v (.int .u64 x37.Addr.Lo)), S x37.To, S x37.Words, I x37.Life], .dead, .dead, .dead, .dead] rfl rfl rfl rfl rfl rfl ?_
                obtain ⟨y59, hy59, h60⟩ := bi_ok h58
                refine go_ops hΓ 7 rfl ?_
                refine eo_callF [3, 2, 4] (.tup []) [.box 29 [I m.Id, B m.Reply, I m.Code, .d (Sl e_api_Question m.Asked), .d (Sl e_api_Record m.Got)], .row 5 1 ([] : List Int).length (([] : List Int).flatMap (eN .u8)), mOb kS false (eN .i64) y59.v_at, .dead, .box 162 [.sl 11 y59.b.length, .map 2], .dead, .box 38 [S x37.Name, I x37.Kind, B x37.Addr.Six, .d (.v (.int .u64 x37.Addr.Hi)), .d (.v (.int .u64 x37.Addr.Lo)), S x37.To, S x37.Words, I x37.Life], .dead, .dead, .dead, .dead, .row 5 1 y59.b.length (y59.b.flatMap (eN .u8))] (callable Tryz.func111 rfl rfl) (c_laneref1_pen_put hy59) rfl (Nat.le_of_ble_eq_true rfl) rfl rfl rfl rfl rfl rfl rfl rfl rfl rfl ?_
                refine eo_move 11 3 [.box 29 [I m.Id, B m.Reply, I m.Code, .d (Sl e_api_Question m.Asked), .d (Sl e_api_Record m.Got)], .row 5 1 ([] : List Int).length (([] : List Int).flatMap (eN .u8)), mOb kS false (eN .i64) y59.v_at, .row 5 1 y59.b.length (y59.b.flatMap (eN .u8)), .box 162 [.sl 3 y59.b.length, .map 2], .dead, .box 38 [S x37.Name, I x37.Kind, B x37.Addr.Six, .d (.v (.int .u64 x37.Addr.Hi)), .d (.v (.int .u64 x37.Addr.Lo)), S x37.To, S x37.Words, I x37.Life], .dead, .dead, .dead, .dead, .dead] rfl rfl rfl rfl rfl rfl ?_
                refine go_ops hΓ 8 rfl ?_
                obtain rfl := Option.some.inj h60
                exact ⟨⟨rfl, rfl, rfl, get_eq rfl (w64_succ (Nat.lt_of_lt_of_le hlt hb41)), trivial⟩, [_, _, _, _, _, _], rfl, .inr ⟨HB.mk rfl, FB.mk rfl, (Nat.le_of_ble_eq_true rfl)⟩⟩
              · have h61 := cF h55 hb
                refine go hΓ 6 rfl ?_
                refine j_cond rfl (fun hb => ?_) (fun hb => ?_)
                · have h62 := cT h61 hb
                  obtain ⟨y63, hy63, h64⟩ := bi_ok h62
                  refine go hΓ 7 rfl ?_
                  refine eo_callF [3, 2, 4] (.tup []) [.box 29 [I m.Id, B m.Reply, I m.Code, .d (Sl e_api_Question m.Asked), .d (Sl e_api_Record m.Got)], .row 5 1 ([] : List Int).length (([] : List Int).flatMap (eN .u8)), mOb kS false (eN .i64) y63.v_at, .dead, .box 162 [.sl 10 y63.b.length, .map 2], .dead, .box 38 [S x37.Name, I x37.Kind, B x37.Addr.Six, .d (.v (.int .u64 x37.Addr.Hi)), .d (.v (.int .u64 x37.Addr.Lo)), S x37.To, S x37.Words, I x37.Life], .dead, .dead, .dead, .row 5 1 y63.b.length (y63.b.flatMap (eN .u8))] (callable Tryz.func111 rfl rfl) (c_laneref1_pen_put hy63) rfl (Nat.le_of_ble_eq_true rfl) rfl rfl rfl rfl rfl rfl rfl rfl rfl rfl ?_
                  refine eo_move 10 3 [.box 29 [I m.Id, B m.Reply, I m.Code, .d (Sl e_api_Question m.Asked), .d (Sl e_api_Record m.Got)], .row 5 1 ([] : List Int).length (([] : List Int).flatMap (eN .u8)), mOb kS false (eN .i64) y63.v_at, .row 5 1 y63.b.length (y63.b.flatMap (eN .u8)), .box 162 [.sl 3 y63.b.length, .map 2], .dead, .box 38 [S x37.Name, I x37.Kind, B x37.Addr.Six, .d (.v (.int .u64 x37.Addr.Hi)), .d (.v (.int .u64 x37.Addr.Lo)), S x37.To, S x37.Words, I x37.Life], .dead, .dead, .dead, .dead] rfl rfl rfl rfl rfl rfl ?_
                  refine go_ops hΓ 2 rfl ?_
                  refine j_drawE [.dead, .dead, .dead, .dead, .box 162 [.sl 3 y63.b.length, .map 2], .dead, .box 38 [S x37.Name, I x37.Kind, B x37.Addr.Six, .d (.v (.int .u64 x37.Addr.Hi)), .d (.v (.int .u64 x37.Addr.Lo)), S x37.To, S x37.Words, I x37.Life]] [4, 6] [7, 10] [7, 10] hmix (by kernel_rfl) (by kernel_rfl) ⟨rfl, rfl, trivial⟩ (Nat.le_of_ble_eq_true rfl) ?_
                  obtain ⟨y65, hy65, h66⟩ := bi_ok h64
                  refine go_E hΓ 7 rfl ?_
                  refine ge_h [.box 29 [I m.Id, B m.Reply, I m.Code, .d (Sl e_api_Question m.Asked), .d (Sl e_api_Record m.Got)], .row 5 1 ([] : List Int).length (([] : List Int).flatMap (eN .u8)), mOb kS false (eN .i64) y63.v_at, .dead, .box 162 [.junk, .map 2], .dead, .box 38 [S x37.Name, I x37.Kind, B x37.Addr.Six, .d (.v (.int .u64 x37.Addr.Hi)), .d (.v (.int .u64 x37.Addr.Lo)), S x37.To, S x37.Words, I x37.Life], .dead, .dead, .dead, .dead, .row 5 1 y65.length (y65.flatMap (eN .u8))] rfl rfl rfl (brk_st rfl) (qte_s (ops_forg 3 (ops_appendST hΓ (id := 3) (h2 := show Γ 5 = some ⟨_, 1, _, _⟩ from rfl) hy65 rfl rfl rfl rfl rfl rfl rfl rfl rfl rfl rfl))) ?_
                  refine go_E hΓ 2 rfl ?_
                  refine ge_h0 [.box 29 [I m.Id, B m.Reply, I m.Code, .d (Sl e_api_Question m.Asked), .d (Sl e_api_Record m.Got)], .row 5 1 ([] : List Int).length (([] : List Int).flatMap (eN .u8)), mOb kS false (eN .i64) y63.v_at, .dead, .box 162 [.sl 11 y65.length, .map 2], .dead, .box 38 [S x37.Name, I x37.Kind, B x37.Addr.Six, .d (.v (.int .u64 x37.Addr.Hi)), .d (.v (.int .u64 x37.Addr.Lo)), S x37.To, S x37.Words, I x37.Life], .dead, .dead, .dead, .dead, .row 5 1 y65.length (y65.flatMap (eN .u8))] rfl rfl (brk_st rfl) (qte_u (opu_store2 hΓ rfl rfl rfl rfl rfl rfl rfl rfl rfl)) ?_
                  refine ge_fin ?_
                  refine go hΓ 3 rfl ?_
                  refine j_move 11 3 [.box 29 [I m.Id, B m.Reply, I m.Code, .d (Sl e_api_Question m.Asked), .d (Sl e_api_Record m.Got)], .row 5 1 ([] : List Int).length (([] : List Int).flatMap (eN .u8)), mOb kS false (eN .i64) y63.v_at, .row 5 1 y65.length (y65.flatMap (eN .u8)), .box 162 [.sl 3 y65.length, .map 2], .dead, .box 38 [S x37.Name, I x37.Kind, B x37.Addr.Six, .d (.v (.int .u64 x37.Addr.Hi)), .d (.v (.int .u64 x37.Addr.Lo)), S x37.To, S x37.Words, I x37.Life], .dead, .dead, .dead, .dead, .dead] rfl rfl rfl rfl rfl rfl ?_
                  refine go hΓ 4 rfl ?_
                  obtain rfl := Option.some.inj h66
                  exact ⟨⟨rfl, rfl, rfl, get_eq rfl (w64_succ (Nat.lt_of_lt_of_le hlt hb41)), trivial⟩, [_, _, _, _, _, _], rfl, .inr ⟨HB.mk rfl, FB.mk rfl, (Nat.le_of_ble_eq_true rfl)⟩⟩
                · have h67 := cF h61 hb
                  obtain ⟨y68, hy68, h69⟩ := bi_ok h67
                  refine go hΓ 4 rfl ?_
                  refine eo_callF [3, 2, 4] (.tup []) [.box 29 [I m.Id, B m.Reply, I m.Code, .d (Sl e_api_Question m.Asked), .d (Sl e_api_Record m.Got)], .row 5 1 ([] : List Int).length (([] : List Int).flatMap (eN .u8)), mOb kS false (eN .i64) y68.v_at, .dead, .box 162 [.sl 10 y68.b.length, .map 2], .dead, .box 38 [S x37.Name, I x37.Kind, B x37.Addr.Six, .d (.v (.int .u64 x37.Addr.Hi)), .d (.v (.int .u64 x37.Addr.Lo)), S x37.To, S x37.Words, I x37.Life], .dead, .dead, .dead, .row 5 1 y68.b.length (y68.b.flatMap (eN .u8))] (callable Tryz.func112 rfl rfl) (c_laneref1_pen_name hy68) rfl (Nat.le_of_ble_eq_true rfl) rfl rfl rfl rfl rfl rfl rfl rfl rfl rfl ?_
                  refine eo_move 10 3 [.box 29 [I m.Id, B m.Reply, I m.Code, .d (Sl e_api_Question m.Asked), .d (Sl e_api_Record m.Got)], .row 5 1 ([] : List Int).length (([] : List Int).flatMap (eN .u8)), mOb kS false (eN .i64) y68.v_at, .row 5 1 y68.b.length (y68.b.flatMap (eN .u8)), .box 162 [.sl 3 y68.b.length, .map 2], .dead, .box 38 [S x37.Name, I x37.Kind, B x37.Addr.Six, .d (.v (.int .u64 x37.Addr.Hi)), .d (.v (.int .u64 x37.Addr.Lo)), S x37.To, S x37.Words, I x37.Life], .dead, .dead, .dead, .dead] rfl rfl rfl rfl rfl rfl ?_
                  refine go_ops hΓ 8 rfl ?_
                  obtain rfl := Option.some.inj h69
                  exact ⟨⟨rfl, rfl, rfl, get_eq rfl (w64_succ (Nat.lt_of_lt_of_le hlt hb41)), trivial⟩, [_, _, _, _, _], rfl, .inr ⟨HB.mk rfl, FB.mk rfl, (Nat.le_of_ble_eq_true rfl)⟩⟩
          · refine go hΓ 6 rfl ?_
            refine j_condF rfl (decide_eq_false (Int.lt_irrefl _)) ?_
            refine go hΓ 4 rfl ?_
            exact ⟨⟨rfl, trivial⟩, [], rfl, .inl rfl⟩
        · refine go hΓ 11 rfl ?_
          refine cv_kill 0 [.dead, .row 5 1 ([] : List Int).length (([] : List Int).flatMap (eN .u8)), mOb kS false (eN .i64) q38.1, .row 5 1 q38.2.length (q38.2.flatMap (eN .u8)), .box 162 [.sl 3 q38.2.length, .map 2], .dead] rfl (Nat.le_of_ble_eq_true rfl) ?_
          refine cv_move 3 0 [.row 5 1 q38.2.length (q38.2.flatMap (eN .u8)), .row 5 1 ([] : List Int).length (([] : List Int).flatMap (eN .u8)), mOb kS false (eN .i64) q38.1, .dead, .box 162 [.sl 0 q38.2.length, .map 2], .dead] rfl rfl rfl rfl rfl rfl ?_
          refine cv_here ?_
          obtain rfl := Option.some.inj h39
          exact fin_objs hΓ [_, _, _, _, _] (.inr rfl) rfl rfl rfl rfl (.inr ⟨HB.mk rfl, rfl⟩)

theorem c_laneref1_EncodeOf {k : Nat} {m : T_api_Message} {r : (List Int) × Int} (h : m_laneref1_EncodeOf k m = some r) : Pure Tryz.prog 12 [.agg [I m.Id, B m.Reply, I m.Code, .d (Sl e_api_Question m.Asked), .d (Sl e_api_Record m.Got)]] (.tup [.d (Sl (eN .u8) r.1), I r.2]) := by
  refine Pure.enter (Fr.of 0 _) Tryz.func12 rfl (Fr.of_ok _) rfl rfl ?_
  refine go_in ?_
  unfold m_laneref1_EncodeOf at h
  refine go hΓ 2 rfl ?_
  refine eo_box rfl rfl rfl rfl (Nat.le_of_ble_eq_true rfl) ?_
  obtain ⟨y1, hy1, h2⟩ := bi_ok h
  refine go_ops hΓ 8 rfl ?_
  refine eo_callP (callable Tryz.func50 rfl rfl) (c_laneref1_MessageFault hy1) rfl (Nat.le_of_ble_eq_true rfl) rfl rfl rfl rfl rfl ?_
  refine go_ops hΓ 9 rfl ?_
  refine j_cond rfl (fun hb => ?_) (fun hb => ?_)
  · have h3 := cT h2 hb
    refine go hΓ 9 rfl ?_
    obtain rfl := Option.some.inj h3
    exact fin_pure hΓ (.inr rfl) rfl rfl
  · have h4 := cF h2 hb
    obtain ⟨y5, hy5, h6⟩ := bi_ok h4
    refine go hΓ 5 rfl ?_
    refine eo_callP (callable Tryz.func51 rfl rfl) (Pure.rows (c_laneref1_MessageBytes hy5) rfl rfl) rfl (Nat.le_of_ble_eq_true rfl) rfl rfl rfl rfl rfl ?_
    refine go_ops hΓ 11 rfl ?_
    refine j_cond rfl (fun hb => ?_) (fun hb => ?_)
    · have h7 := cT h6 hb
      refine go hΓ 8 rfl ?_
      obtain rfl := Option.some.inj h7
      exact fin_pure hΓ (.inr rfl) rfl rfl
    · have h8 := cF h6 hb
      refine go hΓ 10 rfl ?_
      obtain rfl := Option.some.inj h8
      exact fin_pure hΓ (.inr rfl) rfl rfl

theorem c_slices_Equal_byte_byte {s1 : List Int} {s2 : List Int} {r : Bool} (h : m_slices_Equal_byte_byte s1 s2 = some r) : Pure Tryz.prog 13 [.d (Sl (eN .u8) s1), .d (Sl (eN .u8) s2)] (B r) := by
  refine Pure.enter (Fr.of 0 _) Tryz.func13 rfl (Fr.of_ok _) rfl rfl ?_
  refine go_in ?_
  unfold m_slices_Equal_byte_byte at h
  refine go hΓ 15 rfl ?_
  refine j_cond rfl (fun hb => ?_) (fun hb => ?_)
  · have h1 := cT h hb
    refine go hΓ 7 rfl ?_
    obtain rfl := Option.some.inj h1
    exact fin_pure hΓ (.inr rfl) rfl rfl
  · have h2 := cF h hb
    refine go hΓ 10 rfl ?_
    obtain ⟨q6, hq6, h7⟩ := bi_ok h2
    refine j_bound 0 rfl fun hb9 => ?_
    refine j_cutEZ (R := fun a8 => q6 = .go a8) (fun a8 => []) (fun a8 => []) ?_ ?_
    · refine go hΓ 1 rfl ?_
      refine j_range s1 hq6 (fun i3 s4 => [(0, .d (Sl (eN .u8) s1)), (1, .d (Sl (eN .u8) s2)), (12, I (s1.length : Int)), (13, I (i3 : Int))]) (fun s4 => []) ⟨⟨rfl, rfl, rfl, rfl, trivial⟩, [], rfl, .inl rfl⟩ (fun i3 x5 s4 y13 hx10 hlt hy11 hout12 => ?_) (fun s4 hgo => ?_)
      · refine go hΓ 6 rfl ?_
        refine j_condT rfl (decide_eq_true (Int.ofNat_lt.2 hlt)) ?_
        refine go hΓ 11 rfl ?_
        refine j_draw hmix (by kernel_rfl) ?_
        refine go hΓ 2 rfl ?_
        refine gl_o rfl (op_elemZ hΓ (enc := (eN .u8)) (getZ_nat hx10) rfl rfl rfl rfl rfl (fun _ => rfl)) ?_
        obtain ⟨x14, hx14, h15⟩ := bi_ok hy11
        refine go_draw hΓ 3 rfl ?_
        refine gl_o rfl (op_elemZ hΓ (enc := (eN .u8)) hx14 rfl rfl rfl rfl rfl (fun _ => rfl)) ?_
        refine go_draw hΓ 4 rfl ?_
        refine j_cond rfl (fun hb => ?_) (fun hb => ?_)
        · have h16 := cT h15 hb
          refine go hΓ 8 rfl ?_
          obtain ⟨v17, hv17, h18⟩ := bi_ok h16
          obtain rfl := Option.some.inj h18
          obtain rfl := hout12 _ rfl
          obtain rfl := Option.some.inj h7
          refine go hΓ 4 rfl ?_
          obtain rfl := Option.some.inj hv17
          exact fin_pure hΓ (.inr rfl) rfl rfl
        · have h19 := cF h15 hb
          refine go hΓ 7 rfl ?_
          obtain rfl := Option.some.inj h19
          exact ⟨_, rfl, ⟨⟨rfl, rfl, rfl, get_eq rfl (w64_succ (Nat.lt_of_lt_of_le hlt hb9)), trivial⟩, [], rfl, .inl rfl⟩⟩
      · subst hgo
        refine go hΓ 6 rfl ?_
        refine j_condF rfl (decide_eq_false (Int.lt_irrefl _)) ?_
        refine go hΓ 4 rfl ?_
        exact ⟨_, rfl, ⟨trivial, [], rfl, .inl rfl⟩⟩
    · intro a8 ha
      subst ha
      replace h7 := goI_l h7
      refine go hΓ 7 rfl ?_
      obtain rfl := Option.some.inj h7
      exact fin_pure hΓ (.inr rfl) rfl rfl

theorem c_name_Label {s : Str} {r : Str} (h : m_name_Label s = some r) : Pure Tryz.prog 52 [S s] (S r) := by
  refine Pure.enter (Fr.of 0 _) Tryz.func52 rfl (Fr.of_ok _) rfl rfl ?_
  refine go_in ?_
  unfold m_name_Label at h
  refine go hΓ 7 rfl ?_
  refine eo_nilOwn (t := 0) 5 1 rfl (Nat.le_of_ble_eq_true rfl) ?_
  refine go_ops hΓ 10 rfl ?_
  obtain ⟨q4, hq4, h5⟩ := bi_ok h
  obtain ⟨hb7, h8⟩ := gd_ok hq4
  replace hb7 := of_decide_eq_true hb7
  refine j_cutNZ [(3, .sl 0 q4.length)] [.row 5 1 q4.length (q4.flatMap (eN .u8))] ?_ ?_
  · refine go hΓ 1 rfl ?_
    refine j_rangeG h8 (fun i1 s2 => [(0, S s), (3, .sl 0 s2.length), (8, I (s.length : Int)), (9, I (i1 : Int))]) (fun s2 => [.row 5 1 s2.length (s2.flatMap (eN .u8))]) ⟨⟨rfl, rfl, rfl, rfl, trivial⟩, [], rfl, .inl rfl⟩ (fun i1 s2 y12 hlt hy10 => ?_) (fun hge => ?_)
    · refine go hΓ 6 rfl ?_
      refine j_condT rfl (decide_eq_true hlt) ?_
      obtain ⟨c13, hc13, h14⟩ := bi_ok hy10
      refine go hΓ 14 rfl ?_
      refine eo_o rfl (op_byteZ hΓ hc13 rfl rfl rfl rfl) ?_
      refine go_ops hΓ 9 rfl ?_
      refine o_cut 3 [(0, S s), (3, .sl 0 s2.length), (5, .d (.v (.int .u8 (c13.toNat : Int)))), (8, I (s.length : Int)), (9, I (i1 : Int)), (20, B ((decide (((c13.toNat : Int) : Int) ≥ 65)) && (decide (((c13.toNat : Int) : Int) ≤ 90))))] [.row 5 1 s2.length (s2.flatMap (eN .u8))] ?_ ?_
      · refine eo_gsplit rfl rfl (fun hb => ?_) (fun hb => ?_)
        · refine go_ops hΓ 4 rfl ?_
          exact ⟨⟨rfl, rfl, rfl, rfl, rfl, get_b rfl (and_t hb), trivial⟩, [], rfl, .inl rfl⟩
        · refine go_ops hΓ 4 rfl ?_
          exact ⟨⟨rfl, rfl, rfl, rfl, rfl, get_b rfl (and_f hb), trivial⟩, [], rfl, .inl rfl⟩
      · obtain ⟨q15, hq15, h16⟩ := bi_ok h14
        refine go_ops hΓ 2 rfl ?_
        refine j_cutNZ [(0, S s), (3, .sl 0 s2.length), (5, .d (.v (.int .u8 q15))), (8, I (s.length : Int)), (9, I (i1 : Int))] [.row 5 1 s2.length (s2.flatMap (eN .u8))] ?_ ?_
        · refine j_cond rfl (fun hb => ?_) (fun hb => ?_)
          · have h17 := cT hq15 hb
            refine go hΓ 5 rfl ?_
            obtain rfl := Option.some.inj h17
            exact ⟨⟨rfl, rfl, rfl, rfl, rfl, trivial⟩, [], rfl, .inl rfl⟩
          · have h18 := cF hq15 hb
            refine go hΓ 1 rfl ?_
            obtain rfl := Option.some.inj h18
            exact ⟨⟨rfl, rfl, rfl, rfl, rfl, trivial⟩, [], rfl, .inl rfl⟩
        · obtain ⟨y19, hy19, h20⟩ := bi_ok h16
          refine go hΓ 5 rfl ?_
          refine eo_callP (callable Tryz.func113 rfl rfl) (c_name_isLetter hy19) rfl (Nat.le_of_ble_eq_true rfl) rfl rfl rfl rfl rfl ?_
          refine go_ops hΓ 3 rfl ?_
          refine j_cond rfl (fun hb => ?_) (fun hb => ?_)
          · have h21 := cT h20 hb
            refine go hΓ 3 rfl ?_
            refine eo_litT hΓ (enc := (eN .u8)) [q15] rfl rfl rfl rfl rfl rfl rfl rfl rfl rfl rfl rfl (Nat.le_of_ble_eq_true rfl) ?_
            obtain ⟨y22, hy22, h23⟩ := bi_ok h21
            refine eo_appendT hΓ (enc := (eN .u8)) hy22 rfl rfl rfl rfl rfl rfl rfl rfl rfl (fun _ => rfl) rfl rfl rfl rfl ?_
            refine go_ops hΓ 9 rfl ?_
            obtain rfl := Option.some.inj h23
            exact ⟨⟨rfl, rfl, rfl, get_eq rfl (w64_succ (by omega)), trivial⟩, [], rfl, .inl rfl⟩
          · have h24 := cF h20 hb
            refine go hΓ 6 rfl ?_
            obtain ⟨q25, hq25, h26⟩ := bi_ok h24
            refine o_cut 8 [(0, S s), (3, .sl 0 s2.length), (8, I (s.length : Int)), (9, I (i1 : Int)), (42, B q25)] [.row 5 1 s2.length (s2.flatMap (eN .u8))] ?_ ?_
            · refine eo_gsplit rfl rfl (fun hb => ?_) (fun hb => ?_)
              · have h27 := cT hq25 hb
                refine go_ops hΓ 9 rfl ?_
                obtain rfl := Option.some.inj h27
                exact ⟨⟨rfl, rfl, rfl, rfl, rfl, trivial⟩, [], rfl, .inl rfl⟩
              · have h28 := cF hq25 hb
                obtain ⟨x29, hx29, h30⟩ := bi_ok h28
                have hj31 := getZ_at hx29
                refine go_ops hΓ 4 rfl ?_
                refine eo_guard rfl ?_
                refine eo_o rfl (op_elemRowZ hΓ hx29 rfl rfl rfl rfl rfl rfl) ?_
                refine eo_guard rfl ?_
                refine eo_o rfl (op_loadRowZ hΓ (enc := (eN .u8)) ((wi ((s2.length : Int) - 1)).toNat) 0 hj31 rfl rfl rfl rfl (fun _ => rfl) (g := .d (.v (.int .u8 x29))) rfl) ?_
                refine go_ops hΓ 3 rfl ?_
                obtain rfl := Option.some.inj h30
                exact ⟨⟨rfl, rfl, rfl, rfl, rfl, trivial⟩, [], rfl, .inl rfl⟩
            · refine go_ops hΓ 3 rfl ?_
              refine j_cond rfl (fun hb => ?_) (fun hb => ?_)
              · have h32 := cT h26 hb
                refine go hΓ 2 rfl ?_
                refine eo_litT hΓ (enc := (eN .u8)) [45] rfl rfl rfl rfl rfl rfl rfl rfl rfl rfl rfl rfl (Nat.le_of_ble_eq_true rfl) ?_
                obtain ⟨y33, hy33, h34⟩ := bi_ok h32
                refine eo_appendT hΓ (enc := (eN .u8)) hy33 rfl rfl rfl rfl rfl rfl rfl rfl rfl (fun _ => rfl) rfl rfl rfl rfl ?_
                refine go_ops hΓ 9 rfl ?_
                obtain rfl := Option.some.inj h34
                exact ⟨⟨rfl, rfl, rfl, get_eq rfl (w64_succ (by omega)), trivial⟩, [], rfl, .inl rfl⟩
              · have h35 := cF h26 hb
                refine go hΓ 8 rfl ?_
                obtain rfl := Option.some.inj h35
                exact ⟨⟨rfl, rfl, rfl, get_eq rfl (w64_succ (by omega)), trivial⟩, [], rfl, .inl rfl⟩
    · refine go hΓ 6 rfl ?_
      refine j_condF rfl (decide_eq_false hge) ?_
      refine go hΓ 4 rfl ?_
      exact ⟨⟨rfl, trivial⟩, [], rfl, .inl rfl⟩
  · obtain ⟨z36, hz36, h37⟩ := bi_ok h5
    refine go hΓ 7 rfl ?_
    refine eo_subRowZ hΓ (enc := (eN .u8)) hz36 rfl rfl rfl rfl rfl rfl rfl rfl (fun _ => rfl) rfl (Nat.le_of_ble_eq_true rfl) ?_
    obtain ⟨y38, hy38, h39⟩ := bi_ok h37
    refine eo_o rfl (op_strRowZ hΓ hy38 rfl rfl rfl rfl rfl rfl rfl rfl rfl) ?_
    obtain ⟨y40, hy40, h41⟩ := bi_ok h39
    refine eo_callP (callable Tryz.func114 rfl rfl) (c_strings_Trim hy40) rfl (Nat.le_of_ble_eq_true rfl) rfl rfl rfl rfl rfl ?_
    refine go_ops hΓ 10 rfl ?_
    refine j_cond rfl (fun hb => ?_) (fun hb => ?_)
    · have h42 := cT h41 hb
      refine go hΓ 7 rfl ?_
      obtain rfl := Option.some.inj h42
      exact fin_pure hΓ (.inr rfl) rfl rfl
    · have h43 := cF h41 hb
      refine go hΓ 9 rfl ?_
      obtain rfl := Option.some.inj h43
      exact fin_pure hΓ (.inr rfl) rfl rfl

theorem c_lanelaw1_named {k : Nat} {r : Bool} (h : m_lanelaw1_named k = some r) : Pure Tryz.prog 14 [] (B r) := by
  refine Pure.enter (Fr.of 0 _) Tryz.func14 rfl (Fr.of_ok _) rfl rfl ?_
  refine go_in ?_
  unfold m_lanelaw1_named at h
  obtain ⟨y1, hy1, h2⟩ := bi_ok h
  refine go hΓ 7 rfl ?_
  refine eo_callP (callable Tryz.func52 rfl rfl) (c_name_Label hy1) rfl (Nat.le_of_ble_eq_true rfl) rfl rfl rfl rfl rfl ?_
  refine go_ops hΓ 2 rfl ?_
  obtain ⟨q3, hq3, h4⟩ := bi_ok h2
  refine o_cut 3 [(0, B false), (6, B q3)] [] ?_ ?_
  · refine eo_gsplit rfl rfl (fun hb => ?_) (fun hb => ?_)
    · have h5 := cT hq3 hb
      obtain ⟨y6, hy6, h7⟩ := bi_ok h5
      refine eo_guard rfl ?_
      refine eo_callP (callable Tryz.func53 rfl rfl) (c_name_CheckDomain hy6) rfl (Nat.le_of_ble_eq_true rfl) rfl rfl rfl rfl rfl ?_
      refine go_ops hΓ 3 rfl ?_
      obtain rfl := Option.some.inj h7
      exact ⟨⟨rfl, rfl, trivial⟩, [], rfl, .inl rfl⟩
    · have h8 := cF hq3 hb
      refine go_ops hΓ 4 rfl ?_
      obtain rfl := Option.some.inj h8
      exact ⟨⟨rfl, rfl, trivial⟩, [], rfl, .inl rfl⟩
  · refine go_ops hΓ 4 rfl ?_
    obtain rfl := Option.some.inj h4
    exact fin_pure hΓ (.inr rfl) rfl rfl

theorem c_lanelaw1_MessagesWritten {k : Nat} {l : List Int} {r : Bool} (h : m_lanelaw1_MessagesWritten k l = some r) : Pure Tryz.prog 3 [.d (Sl (eN .i64) l)] (B r) := by
  refine Pure.enter (Fr.of 0 _) Tryz.func3 rfl (Fr.of_ok _) rfl rfl ?_
  refine go_in ?_
  unfold m_lanelaw1_MessagesWritten at h
  refine go hΓ 8 rfl ?_
  refine eo_build hΓ (gs := [.d (Sl (eN .i64) l), I 0]) rfl rfl rfl rfl rfl rfl rfl ?_
  refine eo_box rfl rfl rfl rfl (Nat.le_of_ble_eq_true rfl) ?_
  obtain ⟨y1, hy1, h2⟩ := bi_ok h
  refine go_ops hΓ 6 rfl ?_
  refine eo_callF [0] (.agg [I y1.1.Id, B y1.1.Reply, I y1.1.Code, .sl 1 y1.1.Asked.length, .sl 2 y1.1.Got.length]) [.box 25 [.d (Sl (eN .i64) y1.2.L), I y1.2.v_at], .row 78 2 y1.1.Asked.length (y1.1.Asked.flatMap e_api_Question), .row 38 8 y1.1.Got.length (y1.1.Got.flatMap e_api_Record)] (callable Tryz.func7 rfl rfl) (c_lanemake_Stream_Message hy1) rfl (Nat.le_of_ble_eq_true rfl) rfl rfl rfl rfl rfl rfl rfl rfl rfl rfl ?_
  refine eo_alloc hΓ rfl rfl rfl (Nat.le_of_ble_eq_true rfl) ?_
  refine eo_store hΓ rfl rfl rfl rfl rfl rfl rfl rfl (Nat.le_of_ble_eq_true rfl) ?_
  refine eo_hp [.box 25 [.d (Sl (eN .i64) y1.2.L), I y1.2.v_at], .row 78 2 y1.1.Asked.length (y1.1.Asked.flatMap e_api_Question), .row 38 8 y1.1.Got.length (y1.1.Got.flatMap e_api_Record), .box 29 [I y1.1.Id, B y1.1.Reply, I y1.1.Code, .sl 1 y1.1.Asked.length, .sl 2 y1.1.Got.length]] rfl ?_
  obtain ⟨y3, hy3, h4⟩ := bi_ok h2
  refine go_ops hΓ 6 rfl ?_
  refine eo_callF [0] (B y3.1) [.box 25 [.d (Sl (eN .i64) y3.2.L), I y3.2.v_at], .row 78 2 y1.1.Asked.length (y1.1.Asked.flatMap e_api_Question), .row 38 8 y1.1.Got.length (y1.1.Got.flatMap e_api_Record), .box 29 [I y1.1.Id, B y1.1.Reply, I y1.1.Code, .sl 1 y1.1.Asked.length, .sl 2 y1.1.Got.length]] (callable Tryz.func8 rfl rfl) (c_lanemake_Stream_Flip hy3) rfl (Nat.le_of_ble_eq_true rfl) rfl rfl rfl rfl rfl rfl rfl rfl rfl rfl ?_
  obtain ⟨q5, hq5, h6⟩ := bi_ok h4
  refine go_ops hΓ 2 rfl ?_
  refine j_cutNC [(4, .ptr 3 0)] [.box 25 [.d (Sl (eN .i64) q5.1.L), I q5.1.v_at], .row 78 2 y1.1.Asked.length (y1.1.Asked.flatMap e_api_Question), .row 38 8 q5.2.length (q5.2.flatMap e_api_Record), .box 29 [I y1.1.Id, B y1.1.Reply, I y1.1.Code, .sl 1 y1.1.Asked.length, .sl 2 q5.2.length]] ?_ ?_
  · refine j_cond rfl (fun hb => ?_) (fun hb => ?_)
    · have h7 := cT hq5 hb
      refine go hΓ 3 rfl ?_
      refine eo_litT hΓ (enc := (eN .i64)) [40, 49, 50] rfl rfl rfl rfl rfl rfl rfl rfl rfl rfl rfl rfl (Nat.le_of_ble_eq_true rfl) ?_
      obtain ⟨y8, hy8, h9⟩ := bi_ok h7
      refine eo_callF [0] (I y8.1) [.box 25 [.d (Sl (eN .i64) y8.2.L), I y8.2.v_at], .row 78 2 y1.1.Asked.length (y1.1.Asked.flatMap e_api_Question), .row 38 8 y1.1.Got.length (y1.1.Got.flatMap e_api_Record), .box 29 [I y1.1.Id, B y1.1.Reply, I y1.1.Code, .sl 1 y1.1.Asked.length, .sl 2 y1.1.Got.length]] (callable Tryz.func9 rfl rfl) (c_lanemake_Stream_Pick hy8) rfl (Nat.le_of_ble_eq_true rfl) rfl rfl rfl rfl rfl rfl rfl rfl rfl rfl ?_
      refine go_ops hΓ 3 rfl ?_
      obtain ⟨q13, hq13, h14⟩ := bi_ok h9
      obtain ⟨hb16, h17⟩ := gd_ok hq13
      replace hb16 := of_decide_eq_true hb16
      refine j_cutNZ [(4, .ptr 3 0)] [.box 25 [.d (Sl (eN .i64) q13.1.L), I q13.1.v_at], .row 78 2 y1.1.Asked.length (y1.1.Asked.flatMap e_api_Question), .row 38 8 q13.2.length (q13.2.flatMap e_api_Record), .box 29 [I y1.1.Id, B y1.1.Reply, I y1.1.Code, .sl 1 y1.1.Asked.length, .sl 2 q13.2.length]] ?_ ?_
      · refine go hΓ 1 rfl ?_
        refine j_rangeG h17 (fun i10 s11 => [(3, .ptr 0 0), (4, .ptr 3 0), (18, I y8.1), (19, I (i10 : Int))]) (fun s11 => [.box 25 [.d (Sl (eN .i64) s11.1.L), I s11.1.v_at], .row 78 2 y1.1.Asked.length (y1.1.Asked.flatMap e_api_Question), .row 38 8 s11.2.length (s11.2.flatMap e_api_Record), .box 29 [I y1.1.Id, B y1.1.Reply, I y1.1.Code, .sl 1 y1.1.Asked.length, .sl 2 s11.2.length]]) ⟨⟨rfl, rfl, rfl, rfl, trivial⟩, [], rfl, .inl rfl⟩ (fun i10 s11 y21 hlt hy19 => ?_) (fun hge => ?_)
        · refine go hΓ 6 rfl ?_
          refine j_condT rfl (decide_eq_true hlt) ?_
          refine go hΓ 4 rfl ?_
          refine j_drawE [.dead, .dead, .dead, .box 29 [I y1.1.Id, B y1.1.Reply, I y1.1.Code, .sl 1 y1.1.Asked.length, .sl 2 s11.2.length]] [1] [3, 6, 8] [6, 8] hmix (by kernel_rfl) (by kernel_rfl) ⟨rfl, trivial⟩ (Nat.le_of_ble_eq_true rfl) ?_
          obtain ⟨y22, hy22, h23⟩ := bi_ok hy19
          refine go_E hΓ 3 rfl ?_
          refine ge_h [.box 25 [.d (Sl (eN .i64) y22.2.L), I y22.2.v_at], .row 78 2 y1.1.Asked.length (y1.1.Asked.flatMap e_api_Question), .row 38 8 s11.2.length (s11.2.flatMap e_api_Record), .box 29 [I y1.1.Id, B y1.1.Reply, I y1.1.Code, .sl 1 y1.1.Asked.length, .sl 2 s11.2.length]] rfl rfl rfl (st_st ⟨rfl, trivial⟩) (qte_callF [0] (S y22.1) [.box 25 [.d (Sl (eN .i64) y22.2.L), I y22.2.v_at], .row 78 2 y1.1.Asked.length (y1.1.Asked.flatMap e_api_Question), .row 38 8 s11.2.length (s11.2.flatMap e_api_Record), .box 29 [I y1.1.Id, B y1.1.Reply, I y1.1.Code, .sl 1 y1.1.Asked.length, .sl 2 s11.2.length]] (callable Tryz.func10 rfl rfl) (c_lanemake_Stream_Domain hy22) rfl rfl rfl rfl rfl rfl rfl rfl rfl rfl) ?_
          refine ge_q rfl (.inl rfl) (fun _ _ => qte_of_qt (qt_p (op_build hΓ (gs := [S y22.1, I 16, B false, .d (.v (.int .u64 0)), .d (.v (.int .u64 0)), S [], S [109, 97, 110, 121, 32, 119, 111, 114, 100, 115, 32, 111, 102, 32, 115, 111, 109, 101, 32, 108, 101, 110, 103, 116, 104, 32, 116, 104, 97, 116, 32, 110, 101, 101, 100, 32, 114, 111, 111, 109, 44, 32, 97, 110, 100, 32, 109, 111, 114, 101, 32, 111, 102, 32, 116, 104, 101, 109], I 1]) rfl rfl rfl rfl rfl rfl))) ?_
          refine ge_litT hΓ (enc := e_api_Record) [(⟨y22.1, 16, (⟨false, 0, 0⟩ : T_api_Addr), [], [109, 97, 110, 121, 32, 119, 111, 114, 100, 115, 32, 111, 102, 32, 115, 111, 109, 101, 32, 108, 101, 110, 103, 116, 104, 32, 116, 104, 97, 116, 32, 110, 101, 101, 100, 32, 114, 111, 111, 109, 44, 32, 97, 110, 100, 32, 109, 111, 114, 101, 32, 111, 102, 32, 116, 104, 101, 109], 1⟩ : T_api_Record)] rfl rfl rfl rfl rfl rfl rfl rfl rfl rfl rfl rfl ?_
          obtain ⟨y24, hy24, h25⟩ := bi_ok h23
          refine ge_h [.box 25 [.d (Sl (eN .i64) y22.2.L), I y22.2.v_at], .row 78 2 y1.1.Asked.length (y1.1.Asked.flatMap e_api_Question), .dead, .box 29 [I y1.1.Id, B y1.1.Reply, I y1.1.Code, .sl 1 y1.1.Asked.length, .junk], .row 38 8 y24.length (y24.flatMap e_api_Record)] rfl rfl rfl (brk_st rfl) (qte_s (ops_forg 2 (ops_appendT hΓ (enc := e_api_Record) (id := 2) (h2 := show Γ 38 = some ⟨_, 8, _, _⟩ from rfl) hy24 rfl rfl rfl rfl rfl rfl rfl rfl (fun _ => rfl) rfl))) ?_
          refine go_E hΓ 1 rfl ?_
          refine ge_h0 [.box 25 [.d (Sl (eN .i64) y22.2.L), I y22.2.v_at], .row 78 2 y1.1.Asked.length (y1.1.Asked.flatMap e_api_Question), .dead, .box 29 [I y1.1.Id, B y1.1.Reply, I y1.1.Code, .sl 1 y1.1.Asked.length, .sl 4 y24.length], .row 38 8 y24.length (y24.flatMap e_api_Record)] rfl rfl (brk_st rfl) (qte_u (opu_store2 hΓ rfl rfl rfl rfl rfl rfl rfl rfl rfl)) ?_
          refine ge_fin ?_
          refine go hΓ 2 rfl ?_
          refine j_move 4 2 [.box 25 [.d (Sl (eN .i64) y22.2.L), I y22.2.v_at], .row 78 2 y1.1.Asked.length (y1.1.Asked.flatMap e_api_Question), .row 38 8 y24.length (y24.flatMap e_api_Record), .box 29 [I y1.1.Id, B y1.1.Reply, I y1.1.Code, .sl 1 y1.1.Asked.length, .sl 2 y24.length], .dead] rfl rfl rfl rfl rfl rfl ?_
          refine go hΓ 4 rfl ?_
          obtain rfl := Option.some.inj h25
          exact ⟨⟨rfl, rfl, rfl, get_eq rfl (w64_succ (by omega)), trivial⟩, [_], rfl, .inr ⟨HB.mk rfl, FB.mk rfl, (Nat.le_of_ble_eq_true rfl)⟩⟩
        · refine go hΓ 6 rfl ?_
          refine j_condF rfl (decide_eq_false hge) ?_
          refine go hΓ 4 rfl ?_
          exact ⟨⟨rfl, trivial⟩, [], rfl, .inl rfl⟩
      · refine cv_here ?_
        obtain rfl := Option.some.inj h14
        exact ⟨⟨rfl, trivial⟩, [], rfl, .inl rfl⟩
    · have h26 := cF hq5 hb
      refine go hΓ 1 rfl ?_
      refine cv_here ?_
      obtain rfl := Option.some.inj h26
      exact ⟨⟨rfl, trivial⟩, [], rfl, .inl rfl⟩
  · refine go hΓ 4 rfl ?_
    refine eo_shr 1 [31] _ [.box 25 [.d (Sl (eN .i64) q5.1.L), I q5.1.v_at], .dead, .row 38 8 q5.2.length (q5.2.flatMap e_api_Record), .box 29 [I y1.1.Id, B y1.1.Reply, I y1.1.Code, .d (Sl e_api_Question y1.1.Asked), .sl 2 q5.2.length]] rfl rfl rfl (Nat.le_of_ble_eq_true rfl) ?_
    refine eo_shr 2 [31] _ [.box 25 [.d (Sl (eN .i64) q5.1.L), I q5.1.v_at], .dead, .dead, .box 29 [I y1.1.Id, B y1.1.Reply, I y1.1.Code, .d (Sl e_api_Question y1.1.Asked), .d (Sl e_api_Record q5.2)]] rfl rfl rfl (Nat.le_of_ble_eq_true rfl) ?_
    obtain ⟨y27, hy27, h28⟩ := bi_ok h6
    refine eo_callP (callable Tryz.func11 rfl rfl) (c_name_Encode hy27) rfl (Nat.le_of_ble_eq_true rfl) rfl rfl rfl rfl rfl ?_
    obtain ⟨y29, hy29, h30⟩ := bi_ok h28
    refine go_ops hΓ 10 rfl ?_
    refine eo_callP (callable Tryz.func12 rfl rfl) (c_laneref1_EncodeOf hy29) rfl (Nat.le_of_ble_eq_true rfl) rfl rfl rfl rfl rfl ?_
    refine go_ops hΓ 13 rfl ?_
    obtain ⟨q31, hq31, h32⟩ := bi_ok h30
    refine o_cut 4 [(47, B q31)] [.box 25 [.d (Sl (eN .i64) q5.1.L), I q5.1.v_at], .dead, .dead, .box 29 [I y1.1.Id, B y1.1.Reply, I y1.1.Code, .d (Sl e_api_Question y1.1.Asked), .d (Sl e_api_Record q5.2)]] ?_ ?_
    · refine eo_gsplit rfl rfl (fun hb => ?_) (fun hb => ?_)
      · have h33 := cT hq31 hb
        obtain ⟨y34, hy34, h35⟩ := bi_ok h33
        refine go_ops hΓ 2 rfl ?_
        refine eo_guard rfl ?_
        refine eo_callP (callable Tryz.func13 rfl rfl) (c_slices_Equal_byte_byte hy34) rfl (Nat.le_of_ble_eq_true rfl) rfl rfl rfl rfl rfl ?_
        refine go_ops hΓ 2 rfl ?_
        obtain rfl := Option.some.inj h35
        exact ⟨⟨rfl, trivial⟩, [], rfl, .inl rfl⟩
      · have h36 := cF hq31 hb
        refine go_ops hΓ 5 rfl ?_
        obtain rfl := Option.some.inj h36
        exact ⟨⟨rfl, trivial⟩, [], rfl, .inl rfl⟩
    · refine go_ops hΓ 1 rfl ?_
      obtain ⟨q37, hq37, h38⟩ := bi_ok h32
      refine o_cut 2 [(50, B q37)] [.box 25 [.d (Sl (eN .i64) q5.1.L), I q5.1.v_at], .dead, .dead, .box 29 [I y1.1.Id, B y1.1.Reply, I y1.1.Code, .d (Sl e_api_Question y1.1.Asked), .d (Sl e_api_Record q5.2)]] ?_ ?_
      · refine eo_gsplit rfl rfl (fun hb => ?_) (fun hb => ?_)
        · have h39 := cT hq37 hb
          obtain ⟨y40, hy40, h41⟩ := bi_ok h39
          refine eo_guard rfl ?_
          refine eo_callP (callable Tryz.func14 rfl rfl) (c_lanelaw1_named hy40) rfl (Nat.le_of_ble_eq_true rfl) rfl rfl rfl rfl rfl ?_
          refine go_ops hΓ 2 rfl ?_
          obtain rfl := Option.some.inj h41
          exact ⟨⟨rfl, trivial⟩, [], rfl, .inl rfl⟩
        · have h42 := cF hq37 hb
          refine go_ops hΓ 3 rfl ?_
          obtain rfl := Option.some.inj h42
          exact ⟨⟨rfl, trivial⟩, [], rfl, .inl rfl⟩
      · refine go_ops hΓ 4 rfl ?_
        obtain rfl := Option.some.inj h38
        exact fin_pure hΓ (.inr rfl) rfl rfl

end Go.Proofs.YtimglghcggljcaaGreatDoor
