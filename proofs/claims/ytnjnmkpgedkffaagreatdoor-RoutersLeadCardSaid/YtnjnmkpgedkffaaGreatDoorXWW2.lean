/-
  The functions compute their models.
-/
import Derived.Test.YtnjnmkpgedkffaaGreatDoorXWM
import Derived.Test.YtnjnmkpgedkffaaGreatDoorGt
import Derived.Test.YtnjnmkpgedkffaaGreatDoorStrR
import Derived.Test.YtnjnmkpgedkffaaGreatDoorXWW1
set_option linter.unusedVariables false
set_option linter.unusedSimpArgs false
set_option maxRecDepth 100000
namespace Go.Proofs.YtnjnmkpgedkffaaGreatDoor
open Go.Gk
theorem c_laneref1_routersOf_1 {x : T_api_Router} {x2 : T_api_Prefix} {r : Bool} (h : m_laneref1_routersOf_1 x x2 = some r) : EC Tryz.prog 123 [.agg [B x.Prefix.Addr.Six, .d (.v (.int .u64 x.Prefix.Addr.Hi)), .d (.v (.int .u64 x.Prefix.Addr.Lo)), I x.Prefix.Bits, S x.Node, I x.Weight], .ptr 0 0] [.box 42 [B x2.Addr.Six, .d (.v (.int .u64 x2.Addr.Hi)), .d (.v (.int .u64 x2.Addr.Lo)), I x2.Bits]] fun g hp' => g = B r ∧ hp' = [.box 42 [B x2.Addr.Six, .d (.v (.int .u64 x2.Addr.Hi)), .d (.v (.int .u64 x2.Addr.Lo)), I x2.Bits]] := by
  refine ec_enter (Fr.of 0 _) Tryz.func123 rfl (Fr.of_ok _) (Nat.le_of_ble_eq_true rfl) fun _ => ?_
  refine go_in ?_
  unfold m_laneref1_routersOf_1 at h
  refine go hΓ 2 rfl ?_
  refine eo_box rfl rfl rfl rfl (Nat.le_of_ble_eq_true rfl) ?_
  refine go_ops hΓ 8 rfl ?_
  refine eo_o rfl (op_neS hΓ [42, 34] (b := ((((x.Prefix.Addr.Six : Bool) == x2.Addr.Six) && (((x.Prefix.Addr.Hi : Int) == x2.Addr.Hi) && (((x.Prefix.Addr.Lo : Int) == x2.Addr.Lo) && true))) && (((x.Prefix.Bits : Int) == x2.Bits) && true))) (by kernel_rfl) (by kernel_rfl) rfl rfl rfl) ?_
  refine go_ops hΓ 4 rfl ?_
  obtain rfl := Option.some.inj h
  exact fin_objs hΓ [_] (.inr rfl) rfl rfl rfl rfl (.inr ⟨HB.mk rfl, rfl⟩)
theorem c_slices_IndexFunc_api_Router_api_Router_2 {s : List T_api_Router} {f : T_api_Prefix} {r : Int} (h : m_slices_IndexFunc_api_Router_api_Router_2 s f = some r) : EC Tryz.prog 117 [.sl 0 s.length, .fn (.func 123) [] [.ptr 1 0]] [.row 69 6 s.length (s.flatMap e_api_Router), .box 42 [B f.Addr.Six, .d (.v (.int .u64 f.Addr.Hi)), .d (.v (.int .u64 f.Addr.Lo)), I f.Bits]] fun g hp' => g = I r ∧ hp' = [.row 69 6 s.length (s.flatMap e_api_Router), .box 42 [B f.Addr.Six, .d (.v (.int .u64 f.Addr.Hi)), .d (.v (.int .u64 f.Addr.Lo)), I f.Bits]] := by
  refine ec_enter (Fr.of 0 _) Tryz.func117 rfl (Fr.of_ok _) (Nat.le_of_ble_eq_true rfl) fun _ => ?_
  refine go_in ?_
  unfold m_slices_IndexFunc_api_Router_api_Router_2 at h
  refine go hΓ 13 rfl ?_
  obtain ⟨q4, hq4, h5⟩ := bi_ok h
  obtain ⟨hb7, h8⟩ := gd_ok hq4
  replace hb7 := of_decide_eq_true hb7
  refine j_cutEZ (R := fun a6 => q4 = .go a6) (fun a6 => []) (fun a6 => [.row 69 6 s.length (s.flatMap e_api_Router), .box 42 [B f.Addr.Six, .d (.v (.int .u64 f.Addr.Hi)), .d (.v (.int .u64 f.Addr.Lo)), I f.Bits]]) ?_ ?_
  · refine go hΓ 1 rfl ?_
    refine j_rangeI h8 (fun i1 s2 => [(0, .sl 0 s.length), (1, .fn (.func 123) [] [.ptr 1 0]), (7, I (s.length : Int)), (8, I (i1 : Int))]) (fun s2 => [.row 69 6 s.length (s.flatMap e_api_Router), .box 42 [B f.Addr.Six, .d (.v (.int .u64 f.Addr.Hi)), .d (.v (.int .u64 f.Addr.Lo)), I f.Bits]]) ⟨⟨rfl, rfl, rfl, rfl, trivial⟩, [], rfl, .inl rfl⟩ (fun i1 s2 y12 hlt hy10 hout11 => ?_) (fun s2 hgo hge => ?_)
    · refine go hΓ 6 rfl ?_
      refine j_condT rfl (decide_eq_true hlt) ?_
      obtain ⟨x13, hx13, h14⟩ := bi_ok hy10
      have hj15 := getZ_at hx13
      refine go hΓ 15 rfl ?_
      refine eo_o rfl (op_elemRowZ hΓ hx13 rfl rfl rfl rfl rfl rfl) ?_
      refine eo_o rfl (op_loadRowZ hΓ (enc := e_api_Router) ((i1 : Int).toNat) 0 hj15 rfl rfl rfl rfl (fun _ => rfl) (g := .agg [B x13.Prefix.Addr.Six, .d (.v (.int .u64 x13.Prefix.Addr.Hi)), .d (.v (.int .u64 x13.Prefix.Addr.Lo)), I x13.Prefix.Bits, S x13.Node, I x13.Weight]) rfl) ?_
      obtain ⟨y16, hy16, h17⟩ := bi_ok h14
      refine eo_callF [1] (B y16) [.row 69 6 s.length (s.flatMap e_api_Router), .box 42 [B f.Addr.Six, .d (.v (.int .u64 f.Addr.Hi)), .d (.v (.int .u64 f.Addr.Lo)), I f.Bits]] (callable Tryz.func123 rfl rfl) (c_laneref1_routersOf_1 hy16) rfl (Nat.le_of_ble_eq_true rfl) rfl rfl rfl rfl rfl rfl rfl rfl rfl rfl ?_
      refine go_ops hΓ 2 rfl ?_
      refine j_cond rfl (fun hb => ?_) (fun hb => ?_)
      · have h18 := cT h17 hb
        refine go hΓ 9 rfl ?_
        obtain ⟨v19, hv19, h20⟩ := bi_ok h18
        obtain rfl := Option.some.inj h20
        obtain rfl := hout11 _ rfl
        obtain rfl := Option.some.inj h5
        refine go hΓ 4 rfl ?_
        obtain rfl := Option.some.inj hv19
        exact fin_objs hΓ [] (.inr rfl) rfl rfl rfl rfl (.inl rfl)
      · have h21 := cF h17 hb
        refine go hΓ 7 rfl ?_
        obtain rfl := Option.some.inj h21
        exact ⟨_, rfl, ⟨⟨rfl, rfl, rfl, get_eq rfl (w64_succ (by omega)), trivial⟩, [], rfl, .inl rfl⟩⟩
    · subst hgo
      refine go hΓ 6 rfl ?_
      refine j_condF rfl (decide_eq_false hge) ?_
      refine go hΓ 4 rfl ?_
      exact ⟨_, rfl, ⟨trivial, [], rfl, .inl rfl⟩⟩
  · intro a6 ha
    subst ha
    replace h5 := goI_l h5
    refine go hΓ 7 rfl ?_
    obtain rfl := Option.some.inj h5
    exact fin_objs hΓ [] (.inr rfl) rfl rfl rfl rfl (.inl rfl)
theorem c_slices_DeleteFunc_api_Router_api_Router_2 {k : Nat} {s : List T_api_Router} {f : T_api_Prefix} {r : List T_api_Router} (h : m_slices_DeleteFunc_api_Router_api_Router_2 k s f = some r) : EC Tryz.prog 62 [.sl 0 s.length, .fn (.func 123) [] [.ptr 1 0]] [.row 69 6 s.length (s.flatMap e_api_Router), .box 42 [B f.Addr.Six, .d (.v (.int .u64 f.Addr.Hi)), .d (.v (.int .u64 f.Addr.Lo)), I f.Bits]] fun g hp' => g = .sl 0 r.length ∧ hp' = [.row 69 6 r.length (r.flatMap e_api_Router), .box 42 [B f.Addr.Six, .d (.v (.int .u64 f.Addr.Hi)), .d (.v (.int .u64 f.Addr.Lo)), I f.Bits]] := by
  refine ec_enter (Fr.of 0 _) Tryz.func62 rfl (Fr.of_ok _) (Nat.le_of_ble_eq_true rfl) fun _ => ?_
  refine go_in ?_
  unfold m_slices_DeleteFunc_api_Router_api_Router_2 at h
  refine go hΓ 2 rfl ?_
  refine eo_nilOwn (t := 0) 69 6 rfl (Nat.le_of_ble_eq_true rfl) ?_
  obtain ⟨y1, hy1, h2⟩ := bi_ok h
  refine go_ops hΓ 6 rfl ?_
  refine eo_callF [0, 1] (I y1) [.row 69 6 s.length (s.flatMap e_api_Router), .box 42 [B f.Addr.Six, .d (.v (.int .u64 f.Addr.Hi)), .d (.v (.int .u64 f.Addr.Lo)), I f.Bits], .row 69 6 ([] : List T_api_Router).length (([] : List T_api_Router).flatMap e_api_Router)] (callable Tryz.func117 rfl rfl) (c_slices_IndexFunc_api_Router_api_Router_2 hy1) rfl (Nat.le_of_ble_eq_true rfl) rfl rfl rfl rfl rfl rfl rfl rfl rfl rfl ?_
  refine go_ops hΓ 10 rfl ?_
  refine j_cond rfl (fun hb => ?_) (fun hb => ?_)
  · have h3 := cT h2 hb
    refine go hΓ 8 rfl ?_
    obtain rfl := Option.some.inj h3
    exact fin_objs hΓ [_] (.inr rfl) rfl rfl rfl rfl (.inr ⟨HB.mk rfl, rfl⟩)
  · have h4 := cF h2 hb
    refine go hΓ 10 rfl ?_
    obtain ⟨q8, hq8, h9⟩ := bi_ok h4
    refine j_cutNZ [(0, .sl 0 q8.1.length), (5, I q8.2)] [.row 69 6 q8.1.length (q8.1.flatMap e_api_Router), .box 42 [B f.Addr.Six, .d (.v (.int .u64 f.Addr.Hi)), .d (.v (.int .u64 f.Addr.Lo)), I f.Bits], .row 69 6 ([] : List T_api_Router).length (([] : List T_api_Router).flatMap e_api_Router)] ?_ ?_
    · refine go hΓ 1 rfl ?_
      refine j_loop hq8 (fun s6 => [(0, .sl 0 s6.1.length), (1, .fn (.func 123) [] [.ptr 1 0]), (5, I s6.2.1), (6, I s6.2.2)]) (fun s6 => [.row 69 6 s6.1.length (s6.1.flatMap e_api_Router), .box 42 [B f.Addr.Six, .d (.v (.int .u64 f.Addr.Hi)), .d (.v (.int .u64 f.Addr.Lo)), I f.Bits], .row 69 6 ([] : List T_api_Router).length (([] : List T_api_Router).flatMap e_api_Router)]) ⟨⟨rfl, rfl, rfl, rfl, trivial⟩, [], rfl, .inl rfl⟩ (fun s6 y14 hy12 hout13 => ?_)
      refine go hΓ 9 rfl ?_
      refine j_cond rfl (fun hb => ?_) (fun hb => ?_)
      · have h15 := cT hy12 hb
        obtain ⟨x16, hx16, h17⟩ := bi_ok h15
        have hj18 := getZ_at hx16
        refine go hΓ 8 rfl ?_
        refine eo_o rfl (op_elemRowZ hΓ hx16 rfl rfl rfl rfl rfl rfl) ?_
        refine eo_o rfl (op_loadRowZ hΓ (enc := e_api_Router) s6.2.2.toNat 0 hj18 rfl rfl rfl rfl (fun _ => rfl) (g := .agg [B x16.Prefix.Addr.Six, .d (.v (.int .u64 x16.Prefix.Addr.Hi)), .d (.v (.int .u64 x16.Prefix.Addr.Lo)), I x16.Prefix.Bits, S x16.Node, I x16.Weight]) rfl) ?_
        refine eo_alloc hΓ rfl rfl rfl (Nat.le_of_ble_eq_true rfl) ?_
        refine eo_store hΓ rfl rfl rfl rfl rfl rfl rfl rfl (Nat.le_of_ble_eq_true rfl) ?_
        refine eo_hp [.row 69 6 s6.1.length (s6.1.flatMap e_api_Router), .box 42 [B f.Addr.Six, .d (.v (.int .u64 f.Addr.Hi)), .d (.v (.int .u64 f.Addr.Lo)), I f.Bits], .row 69 6 ([] : List T_api_Router).length (([] : List T_api_Router).flatMap e_api_Router), .box 69 [B x16.Prefix.Addr.Six, .d (.v (.int .u64 x16.Prefix.Addr.Hi)), .d (.v (.int .u64 x16.Prefix.Addr.Lo)), I x16.Prefix.Bits, S x16.Node, I x16.Weight]] rfl ?_
        obtain ⟨y19, hy19, h20⟩ := bi_ok h17
        refine go_ops hΓ 6 rfl ?_
        refine eo_callF [1] (B y19) [.row 69 6 s6.1.length (s6.1.flatMap e_api_Router), .box 42 [B f.Addr.Six, .d (.v (.int .u64 f.Addr.Hi)), .d (.v (.int .u64 f.Addr.Lo)), I f.Bits], .row 69 6 ([] : List T_api_Router).length (([] : List T_api_Router).flatMap e_api_Router), .box 69 [B x16.Prefix.Addr.Six, .d (.v (.int .u64 x16.Prefix.Addr.Hi)), .d (.v (.int .u64 x16.Prefix.Addr.Lo)), I x16.Prefix.Bits, S x16.Node, I x16.Weight]] (callable Tryz.func123 rfl rfl) (c_laneref1_routersOf_1 hy19) rfl (Nat.le_of_ble_eq_true rfl) rfl rfl rfl rfl rfl rfl rfl rfl rfl rfl ?_
        refine go_ops hΓ 3 rfl ?_
        refine j_cond rfl (fun hb => ?_) (fun hb => ?_)
        · have h21 := cT h20 hb
          obtain ⟨x22, hx22, h23⟩ := bi_ok h21
          have hj24 := getZ_at hx22
          refine go hΓ 5 rfl ?_
          refine eo_o rfl (op_elemRowZ hΓ hx22 rfl rfl rfl rfl rfl rfl) ?_
          refine eo_storeRowZ hΓ (enc := e_api_Router) (z' := x16) s6.2.1.toNat 0 hj24 rfl rfl rfl rfl (fun _ => rfl) rfl rfl rfl rfl rfl rfl (Nat.le_of_ble_eq_true rfl) ?_
          refine eo_hp [.row 69 6 (s6.1.set s6.2.1.toNat x16).length ((s6.1.set s6.2.1.toNat x16).flatMap e_api_Router), .box 42 [B f.Addr.Six, .d (.v (.int .u64 f.Addr.Hi)), .d (.v (.int .u64 f.Addr.Lo)), I f.Bits], .row 69 6 ([] : List T_api_Router).length (([] : List T_api_Router).flatMap e_api_Router), .box 69 [B x16.Prefix.Addr.Six, .d (.v (.int .u64 x16.Prefix.Addr.Hi)), .d (.v (.int .u64 x16.Prefix.Addr.Lo)), I x16.Prefix.Bits, S x16.Node, I x16.Weight]] rfl ?_
          refine eo_relen 0 (n' := (s6.1.set s6.2.1.toNat x16).length) rfl List.length_set.symm ?_
          refine go_ops hΓ 14 rfl ?_
          obtain rfl := Option.some.inj h23
          exact ⟨_, rfl, ⟨⟨rfl, rfl, rfl, rfl, trivial⟩, [_], rfl, .inr ⟨HB.mk rfl, FB.mk rfl, (Nat.le_of_ble_eq_true rfl)⟩⟩⟩
        · have h25 := cF h20 hb
          refine go hΓ 8 rfl ?_
          obtain rfl := Option.some.inj h25
          exact ⟨_, rfl, ⟨⟨rfl, rfl, rfl, rfl, trivial⟩, [_], rfl, .inr ⟨HB.mk rfl, FB.mk rfl, (Nat.le_of_ble_eq_true rfl)⟩⟩⟩
      · have h26 := cF hy12 hb
        refine go hΓ 4 rfl ?_
        obtain rfl := Option.some.inj h26
        obtain rfl := hout13 _ rfl
        exact ⟨⟨rfl, rfl, trivial⟩, [], rfl, .inl rfl⟩
    · obtain ⟨z27, hz27, h28⟩ := bi_ok h9
      refine go hΓ 5 rfl ?_
      refine eo_o rfl (op_viewI hΓ hz27 rfl rfl rfl rfl rfl rfl) ?_
      refine eo_s0 (Nat.le_of_ble_eq_true rfl) (ops_clearT hΓ (enc := e_api_Router) (a := q8.2) hz27 rfl rfl rfl rfl rfl rfl rfl rfl rfl rfl (fun _ => rfl)) ?_
      refine go_ops hΓ 6 rfl ?_
      refine eo_subCut hΓ hz27 rfl rfl rfl rfl rfl rfl rfl rfl ?_
      refine go_ops hΓ 4 rfl ?_
      obtain rfl := Option.some.inj h28
      exact fin_objs hΓ [_] (.inr rfl) rfl rfl rfl rfl (.inr ⟨HB.mk rfl, rfl⟩)
theorem c_laneref1_routersOf {k : Nat} {v_r : List T_api_Router} {p : T_api_Prefix} {r : List T_api_Router} (h : m_laneref1_routersOf k v_r p = some r) : EC Tryz.prog 75 [.d (Sl e_api_Router v_r), .agg [B p.Addr.Six, .d (.v (.int .u64 p.Addr.Hi)), .d (.v (.int .u64 p.Addr.Lo)), I p.Bits]] [] fun g hp' => g = .sl 0 r.length ∧ hp' = [.row 69 6 r.length (r.flatMap e_api_Router)] := by
  refine ec_enterC (Fr.of 0 _) Tryz.func75 rfl (Fr.of_ok _) (Nat.le_of_ble_eq_true rfl) fun _ => ?_
  refine go_in ?_
  unfold m_laneref1_routersOf at h
  refine go hΓ 2 rfl ?_
  refine eo_box rfl rfl rfl rfl (Nat.le_of_ble_eq_true rfl) ?_
  refine eo_nilOwn (t := 0) 69 6 rfl (Nat.le_of_ble_eq_true rfl) ?_
  obtain ⟨y1, hy1, h2⟩ := bi_ok h
  refine go_ops hΓ 5 rfl ?_
  refine eo_callF [] (.sl 2 y1.length) [.box 42 [B p.Addr.Six, .d (.v (.int .u64 p.Addr.Hi)), .d (.v (.int .u64 p.Addr.Lo)), I p.Bits], .row 69 6 ([] : List T_api_Router).length (([] : List T_api_Router).flatMap e_api_Router), .row 69 6 y1.length (y1.flatMap e_api_Router)] (callable Tryz.func63 rfl rfl) (c_slices_Clone_api_Router_api_Router hy1) rfl (Nat.le_of_ble_eq_true rfl) rfl rfl rfl rfl rfl rfl rfl rfl rfl rfl ?_
  obtain ⟨y3, hy3, h4⟩ := bi_ok h2
  refine go_ops hΓ 1 rfl ?_
  refine eo_callF [2, 0] (.sl 2 y3.length) [.box 42 [B p.Addr.Six, .d (.v (.int .u64 p.Addr.Hi)), .d (.v (.int .u64 p.Addr.Lo)), I p.Bits], .row 69 6 ([] : List T_api_Router).length (([] : List T_api_Router).flatMap e_api_Router), .row 69 6 y3.length (y3.flatMap e_api_Router)] (callable Tryz.func62 rfl rfl) (c_slices_DeleteFunc_api_Router_api_Router_2 hy3) rfl (Nat.le_of_ble_eq_true rfl) rfl rfl rfl rfl rfl rfl rfl rfl rfl rfl ?_
  refine go_ops hΓ 4 rfl ?_
  refine cv_kill 0 [.dead, .row 69 6 ([] : List T_api_Router).length (([] : List T_api_Router).flatMap e_api_Router), .row 69 6 y3.length (y3.flatMap e_api_Router)] rfl (Nat.le_of_ble_eq_true rfl) ?_
  refine cv_move 2 0 [.row 69 6 y3.length (y3.flatMap e_api_Router), .row 69 6 ([] : List T_api_Router).length (([] : List T_api_Router).flatMap e_api_Router), .dead] rfl rfl rfl rfl rfl rfl ?_
  refine cv_here ?_
  obtain rfl := Option.some.inj h4
  exact fin_objs hΓ [_, _] (.inr rfl) rfl rfl rfl rfl (.inr ⟨HB.mk rfl, rfl⟩)
theorem c_laneref1_FirstTurns_1 {a : T_api_Router} {b : T_api_Router} {r : Int} (h : m_laneref1_FirstTurns_1 a b = some r) : Pure Tryz.prog 99 [.agg [B a.Prefix.Addr.Six, .d (.v (.int .u64 a.Prefix.Addr.Hi)), .d (.v (.int .u64 a.Prefix.Addr.Lo)), I a.Prefix.Bits, S a.Node, I a.Weight], .agg [B b.Prefix.Addr.Six, .d (.v (.int .u64 b.Prefix.Addr.Hi)), .d (.v (.int .u64 b.Prefix.Addr.Lo)), I b.Prefix.Bits, S b.Node, I b.Weight]] (I r) := by
  refine Pure.enter (Fr.of 0 _) Tryz.func99 rfl (Fr.of_ok _) rfl rfl ?_
  refine go_in ?_
  unfold m_laneref1_FirstTurns_1 at h
  refine go hΓ 2 rfl ?_
  refine eo_box rfl rfl rfl rfl (Nat.le_of_ble_eq_true rfl) ?_
  refine eo_box rfl rfl rfl rfl (Nat.le_of_ble_eq_true rfl) ?_
  obtain ⟨y1, hy1, h2⟩ := bi_ok h
  refine go_ops hΓ 9 rfl ?_
  refine eo_callP (callable Tryz.func68 rfl rfl) (c_cmp_Compare_int hy1) rfl (Nat.le_of_ble_eq_true rfl) rfl rfl rfl rfl rfl ?_
  refine go_ops hΓ 4 rfl ?_
  obtain rfl := Option.some.inj h2
  exact fin_pure hΓ (.inr rfl) rfl rfl
theorem c_slices_insertionSortCmpFunc_api_Router_2 {k : Nat} {data : List T_api_Router} {a : Int} {b : Int} {r : List T_api_Router} (h : m_slices_insertionSortCmpFunc_api_Router_2 k data a b = some r) : EC Tryz.prog 147 [.sl 0 data.length, I a, I b, .fn (.func 99) [] []] [.row 69 6 data.length (data.flatMap e_api_Router)] fun g hp' => g = .tup [] ∧ hp' = [.row 69 6 r.length (r.flatMap e_api_Router)] := by
  refine ec_enter (Fr.of 0 _) Tryz.func147 rfl (Fr.of_ok _) (Nat.le_of_ble_eq_true rfl) fun _ => ?_
  refine go_in ?_
  unfold m_slices_insertionSortCmpFunc_api_Router_2 at h
  refine go hΓ 7 rfl ?_
  obtain ⟨q4, hq4, h5⟩ := bi_ok h
  refine j_cutNZ [] [.row 69 6 q4.length (q4.flatMap e_api_Router)] ?_ ?_
  · refine go hΓ 1 rfl ?_
    refine j_loop hq4 (fun s2 => [(0, .sl 0 s2.1.length), (1, I a), (2, I b), (3, .fn (.func 99) [] []), (8, I s2.2)]) (fun s2 => [.row 69 6 s2.1.length (s2.1.flatMap e_api_Router)]) ⟨⟨rfl, rfl, rfl, rfl, rfl, trivial⟩, [], rfl, .inl rfl⟩ (fun s2 y10 hy8 hout9 => ?_)
    refine go hΓ 8 rfl ?_
    refine j_cond rfl (fun hb => ?_) (fun hb => ?_)
    · have h11 := cT hy8 hb
      refine go hΓ 10 rfl ?_
      obtain ⟨q15, hq15, h16⟩ := bi_ok h11
      refine j_cutNZ [(0, .sl 0 q15.length), (1, I a), (2, I b), (3, .fn (.func 99) [] []), (8, I s2.2)] [.row 69 6 q15.length (q15.flatMap e_api_Router)] ?_ ?_
      · refine go hΓ 1 rfl ?_
        refine j_loop hq15 (fun s13 => [(0, .sl 0 s13.1.length), (1, I a), (2, I b), (3, .fn (.func 99) [] []), (8, I s2.2), (9, I s13.2)]) (fun s13 => [.row 69 6 s13.1.length (s13.1.flatMap e_api_Router)]) ⟨⟨rfl, rfl, rfl, rfl, rfl, rfl, trivial⟩, [], rfl, .inl rfl⟩ (fun s13 y21 hy19 hout20 => ?_)
        obtain ⟨q22, hq22, h23⟩ := bi_ok hy19
        refine go hΓ 2 rfl ?_
        refine j_cutNZ [(0, .sl 0 s13.1.length), (1, I a), (2, I b), (3, .fn (.func 99) [] []), (8, I s2.2), (9, I s13.2), (34, B q22)] [.row 69 6 s13.1.length (s13.1.flatMap e_api_Router)] ?_ ?_
        · refine j_draw hmix (by kernel_rfl) ?_
          refine go hΓ 4 rfl ?_
          refine gl_gsplit rfl rfl (fun hb => ?_) (fun hb => ?_)
          · have h24 := cT hq22 hb
            obtain ⟨x25, hx25, h26⟩ := bi_ok h24
            have hj27 := getZ_at hx25
            refine go_draw hΓ 3 rfl ?_
            refine gl_og rfl rfl (op_elemRowZ hΓ hx25 rfl rfl rfl rfl rfl rfl) ?_
            refine gl_og rfl rfl (op_loadRowZ hΓ (enc := e_api_Router) s13.2.toNat 0 hj27 rfl rfl rfl rfl (fun _ => rfl) (g := .agg [B x25.Prefix.Addr.Six, .d (.v (.int .u64 x25.Prefix.Addr.Hi)), .d (.v (.int .u64 x25.Prefix.Addr.Lo)), I x25.Prefix.Bits, S x25.Node, I x25.Weight]) rfl) ?_
            obtain ⟨x28, hx28, h29⟩ := bi_ok h26
            have hj30 := getZ_at hx28
            refine go_draw hΓ 3 rfl ?_
            refine gl_og rfl rfl (op_elemRowZ hΓ hx28 rfl rfl rfl rfl rfl rfl) ?_
            refine gl_og rfl rfl (op_loadRowZ hΓ (enc := e_api_Router) ((wi (s13.2 - 1)).toNat) 0 hj30 rfl rfl rfl rfl (fun _ => rfl) (g := .agg [B x28.Prefix.Addr.Six, .d (.v (.int .u64 x28.Prefix.Addr.Hi)), .d (.v (.int .u64 x28.Prefix.Addr.Lo)), I x28.Prefix.Bits, S x28.Node, I x28.Weight]) rfl) ?_
            obtain ⟨y31, hy31, h32⟩ := bi_ok h29
            refine gl_callPg (callable Tryz.func99 rfl rfl) (c_laneref1_FirstTurns_1 hy31) rfl rfl rfl rfl rfl rfl rfl ?_
            refine go_draw hΓ 3 rfl ?_
            obtain rfl := Option.some.inj h32
            exact ⟨⟨rfl, rfl, rfl, rfl, rfl, rfl, rfl, trivial⟩, [], rfl, .inl rfl⟩
          · have h33 := cF hq22 hb
            refine go_draw hΓ 14 rfl ?_
            obtain rfl := Option.some.inj h33
            exact ⟨⟨rfl, rfl, rfl, rfl, rfl, rfl, rfl, trivial⟩, [], rfl, .inl rfl⟩
        · refine go hΓ 1 rfl ?_
          refine j_cond rfl (fun hb => ?_) (fun hb => ?_)
          · have h34 := cT h23 hb
            refine go hΓ 4 rfl ?_
            refine j_drawE [.row 69 6 s13.1.length (s13.1.flatMap e_api_Router)] [9, 13] [15, 17] [15, 17] hmix (by kernel_rfl) (by kernel_rfl) ⟨rfl, trivial⟩ (Nat.le_of_ble_eq_true rfl) ?_
            obtain ⟨x35, hx35, h36⟩ := bi_ok h34
            have hj37 := getZ_at hx35
            refine go_E hΓ 8 rfl ?_
            refine ge_q rfl (.inl rfl) (fun _ _ => qte_of_qt (qt_p (op_elemRowZ hΓ hx35 rfl rfl rfl rfl rfl rfl))) ?_
            refine ge_p rfl (fun hp hs => op_loadRowZ hΓ (enc := e_api_Router) ((wi (s13.2 - 1)).toNat) 0 hj37 rfl rfl rfl (hs 0 _ rfl rfl) (fun _ => rfl) (g := .agg [B x35.Prefix.Addr.Six, .d (.v (.int .u64 x35.Prefix.Addr.Hi)), .d (.v (.int .u64 x35.Prefix.Addr.Lo)), I x35.Prefix.Bits, S x35.Node, I x35.Weight]) rfl) rfl ?_
            obtain ⟨x38, hx38, h39⟩ := bi_ok h36
            have hj40 := getZ_at hx38
            refine go_E hΓ 2 rfl ?_
            refine ge_q rfl (.inl rfl) (fun _ _ => qte_of_qt (qt_p (op_elemRowZ hΓ hx38 rfl rfl rfl rfl rfl rfl))) ?_
            refine ge_p rfl (fun hp hs => op_loadRowZ hΓ (enc := e_api_Router) s13.2.toNat 0 hj40 rfl rfl rfl (hs 0 _ rfl rfl) (fun _ => rfl) (g := .agg [B x38.Prefix.Addr.Six, .d (.v (.int .u64 x38.Prefix.Addr.Hi)), .d (.v (.int .u64 x38.Prefix.Addr.Lo)), I x38.Prefix.Bits, S x38.Node, I x38.Weight]) rfl) rfl ?_
            obtain ⟨x41, hx41, h42⟩ := bi_ok h39
            have hj43 := getZ_at hx41
            refine ge_q rfl (.inl rfl) (fun _ _ => qte_of_qt (qt_p (op_elemRowZ hΓ hx41 rfl rfl rfl rfl rfl rfl))) ?_
            refine ge_h0 [.row 69 6 (s13.1.set s13.2.toNat x35).length ((s13.1.set s13.2.toNat x35).flatMap e_api_Router)] rfl rfl (brk_st rfl) (qte_u (opu_setRowZ hΓ (enc := e_api_Router) (z' := x35) s13.2.toNat (by have := (List.getElem?_eq_some_iff.1 hj43).1; simpa using this) rfl rfl rfl rfl (fun _ => rfl) rfl rfl rfl rfl rfl)) ?_
            obtain ⟨x44, hx44, h45⟩ := bi_ok h42
            have hj46 := getZ_at hx44
            refine ge_q rfl (.inl rfl) (fun _ _ => qte_of_qt (qt_p (op_elemRowZ hΓ hx44 rfl rfl rfl rfl rfl rfl))) ?_
            obtain ⟨x47, hx47, h48⟩ := bi_ok h45
            have hj49 : (s13.1.set s13.2.toNat x35)[(wi (s13.2 - 1)).toNat]? = some x47 := hx47
            refine ge_h0 [.row 69 6 ((s13.1.set s13.2.toNat x35).set ((wi (s13.2 - 1)).toNat) x38).length (((s13.1.set s13.2.toNat x35).set ((wi (s13.2 - 1)).toNat) x38).flatMap e_api_Router)] rfl rfl (brk_st rfl) (qte_u (opu_setRowZ hΓ (enc := e_api_Router) (z' := x38) ((wi (s13.2 - 1)).toNat) (by have := (List.getElem?_eq_some_iff.1 hj49).1; simpa using this) rfl rfl rfl rfl (fun _ => rfl) rfl rfl rfl rfl rfl)) ?_
            refine ge_fin ?_
            refine go hΓ 2 rfl ?_
            refine j_relen 0 (n' := ((s13.1.set s13.2.toNat x35).set ((wi (s13.2 - 1)).toNat) x38).length) rfl (by simp) ?_
            refine j_relen 37 (n' := ((s13.1.set s13.2.toNat x35).set ((wi (s13.2 - 1)).toNat) x38).length) rfl (by simp) ?_
            refine j_relen 39 (n' := ((s13.1.set s13.2.toNat x35).set ((wi (s13.2 - 1)).toNat) x38).length) rfl (by simp) ?_
            refine j_relen 42 (n' := ((s13.1.set s13.2.toNat x35).set ((wi (s13.2 - 1)).toNat) x38).length) rfl (by simp) ?_
            refine j_relen 47 (n' := ((s13.1.set s13.2.toNat x35).set ((wi (s13.2 - 1)).toNat) x38).length) rfl (by simp) ?_
            refine go hΓ 5 rfl ?_
            obtain rfl := Option.some.inj h48
            exact ⟨_, rfl, ⟨⟨rfl, rfl, rfl, rfl, rfl, rfl, trivial⟩, [], rfl, .inl rfl⟩⟩
          · have h50 := cF h23 hb
            refine go hΓ 4 rfl ?_
            obtain rfl := Option.some.inj h50
            obtain rfl := hout20 _ rfl
            exact ⟨⟨rfl, rfl, rfl, rfl, rfl, trivial⟩, [], rfl, .inl rfl⟩
      · refine go hΓ 7 rfl ?_
        obtain rfl := Option.some.inj h16
        exact ⟨_, rfl, ⟨⟨rfl, rfl, rfl, rfl, rfl, trivial⟩, [], rfl, .inl rfl⟩⟩
    · have h51 := cF hy8 hb
      refine go hΓ 4 rfl ?_
      obtain rfl := Option.some.inj h51
      obtain rfl := hout9 _ rfl
      exact ⟨trivial, [], rfl, .inl rfl⟩
  · obtain rfl := Option.some.inj h5
    exact fin_objs hΓ [] (.inl rfl) rfl rfl rfl rfl (.inl rfl)
theorem c_slices_stableCmpFunc_api_Router_2 {k : Nat} {data : List T_api_Router} {n : Int} {r : List T_api_Router} (h : m_slices_stableCmpFunc_api_Router_2 k data n = some r) : EC Tryz.prog 118 [.sl 0 data.length, I n, .fn (.func 99) [] []] [.row 69 6 data.length (data.flatMap e_api_Router)] fun g hp' => g = .tup [] ∧ hp' = [.row 69 6 r.length (r.flatMap e_api_Router)] := by
  refine ec_enter (Fr.of 0 _) Tryz.func118 rfl (Fr.of_ok _) (Nat.le_of_ble_eq_true rfl) fun _ => ?_
  refine go_in ?_
  unfold m_slices_stableCmpFunc_api_Router_2 at h
  refine go hΓ 13 rfl ?_
  obtain ⟨q4, hq4, h5⟩ := bi_ok h
  refine j_cutNZ [(0, .sl 0 q4.1.length), (1, I n), (2, .fn (.func 99) [] []), (6, I 20), (7, I q4.2)] [.row 69 6 q4.1.length (q4.1.flatMap e_api_Router)] ?_ ?_
  · refine go hΓ 1 rfl ?_
    refine j_loop hq4 (fun s2 => [(0, .sl 0 s2.1.length), (1, I n), (2, .fn (.func 99) [] []), (6, I 20), (7, I s2.2.1), (8, I s2.2.2)]) (fun s2 => [.row 69 6 s2.1.length (s2.1.flatMap e_api_Router)]) ⟨⟨rfl, rfl, rfl, rfl, rfl, rfl, trivial⟩, [], rfl, .inl rfl⟩ (fun s2 y10 hy8 hout9 => ?_)
    refine go hΓ 8 rfl ?_
    refine j_cond rfl (fun hb => ?_) (fun hb => ?_)
    · have h11 := cT hy8 hb
      obtain ⟨y12, hy12, h13⟩ := bi_ok h11
      refine go hΓ 9 rfl ?_
      refine eo_callF [0] (.tup []) [.row 69 6 y12.length (y12.flatMap e_api_Router)] (callable Tryz.func147 rfl rfl) (c_slices_insertionSortCmpFunc_api_Router_2 hy12) rfl (Nat.le_of_ble_eq_true rfl) rfl rfl rfl rfl rfl rfl rfl rfl rfl rfl ?_
      obtain ⟨hg15, h14⟩ := gd_ok h13
      refine eo_relen 0 rfl (of_decide_eq_true hg15).symm ?_
      refine go_ops hΓ 15 rfl ?_
      obtain rfl := Option.some.inj h14
      exact ⟨_, rfl, ⟨⟨rfl, rfl, rfl, rfl, rfl, rfl, trivial⟩, [], rfl, .inl rfl⟩⟩
    · have h16 := cF hy8 hb
      refine go hΓ 4 rfl ?_
      obtain rfl := Option.some.inj h16
      obtain rfl := hout9 _ rfl
      exact ⟨⟨rfl, rfl, rfl, rfl, rfl, trivial⟩, [], rfl, .inl rfl⟩
  · obtain ⟨y17, hy17, h18⟩ := bi_ok h5
    refine go hΓ 7 rfl ?_
    refine eo_callF [0] (.tup []) [.row 69 6 y17.length (y17.flatMap e_api_Router)] (callable Tryz.func147 rfl rfl) (c_slices_insertionSortCmpFunc_api_Router_2 hy17) rfl (Nat.le_of_ble_eq_true rfl) rfl rfl rfl rfl rfl rfl rfl rfl rfl rfl ?_
    obtain ⟨hg20, h19⟩ := gd_ok h18
    refine eo_relen 0 rfl (of_decide_eq_true hg20).symm ?_
    refine go_ops hΓ 2 rfl ?_
    obtain ⟨q24, hq24, h25⟩ := bi_ok h19
    refine j_cutNZ [] [.row 69 6 y17.length (y17.flatMap e_api_Router)] ?_ ?_
    · refine go hΓ 1 rfl ?_
      refine j_loop hq24 (fun s22 => [(0, .sl 0 y17.length), (1, I n), (2, .fn (.func 99) [] []), (6, I s22)]) (fun s22 => [.row 69 6 y17.length (y17.flatMap e_api_Router)]) ⟨⟨rfl, rfl, rfl, rfl, trivial⟩, [], rfl, .inl rfl⟩ (fun s22 y30 hy28 hout29 => ?_)
      refine go hΓ 8 rfl ?_
      refine j_cond rfl (fun hb => ?_) (fun hb => ?_)
      · have h31 := cT hy28 hb
        refine go hΓ 12 rfl ?_
        obtain ⟨q35, hq35, h36⟩ := bi_ok h31
        refine j_cutNZ [(0, .sl 0 y17.length), (1, I n), (2, .fn (.func 99) [] []), (6, I s22), (7, I 0)] [.row 69 6 y17.length (y17.flatMap e_api_Router)] ?_ ?_
        · refine go hΓ 1 rfl ?_
          refine j_loop hq35 (fun s33 => [(0, .sl 0 y17.length), (1, I n), (2, .fn (.func 99) [] []), (6, I s22), (7, I 0), (8, I (wi (2 * s22)))]) (fun s33 => [.row 69 6 y17.length (y17.flatMap e_api_Router)]) ⟨⟨rfl, rfl, rfl, rfl, rfl, rfl, trivial⟩, [], rfl, .inl rfl⟩ (fun s33 y41 hy39 hout40 => ?_)
          refine go hΓ 8 rfl ?_
          refine j_cond rfl (fun hb => ?_) (fun hb => ?_)
          · have h42 := cT hy39 hb
            refine go hΓ 12 rfl ?_
            cases h42
          · have h43 := cF hy39 hb
            refine go hΓ 4 rfl ?_
            obtain rfl := Option.some.inj h43
            obtain rfl := hout40 _ rfl
            exact ⟨⟨rfl, rfl, rfl, rfl, rfl, trivial⟩, [], rfl, .inl rfl⟩
        · refine go hΓ 17 rfl ?_
          refine j_cond rfl (fun hb => ?_) (fun hb => ?_)
          · have h44 := cT h36 hb
            refine go hΓ 6 rfl ?_
            cases h44
          · have h45 := cF h36 hb
            refine go hΓ 8 rfl ?_
            obtain rfl := Option.some.inj h45
            exact ⟨_, rfl, ⟨⟨rfl, rfl, rfl, rfl, trivial⟩, [], rfl, .inl rfl⟩⟩
      · have h46 := cF hy28 hb
        refine go hΓ 4 rfl ?_
        obtain rfl := Option.some.inj h46
        obtain rfl := hout29 _ rfl
        exact ⟨trivial, [], rfl, .inl rfl⟩
    · obtain rfl := Option.some.inj h25
      exact fin_objs hΓ [] (.inl rfl) rfl rfl rfl rfl (.inl rfl)
theorem c_slices_SortStableFunc_api_Router_api_Router_2 {k : Nat} {x : List T_api_Router} {r : List T_api_Router} (h : m_slices_SortStableFunc_api_Router_api_Router_2 k x = some r) : EC Tryz.prog 66 [.sl 0 x.length, .fn (.func 99) [] []] [.row 69 6 x.length (x.flatMap e_api_Router)] fun g hp' => g = .tup [] ∧ hp' = [.row 69 6 r.length (r.flatMap e_api_Router)] := by
  refine ec_enter (Fr.of 0 _) Tryz.func66 rfl (Fr.of_ok _) (Nat.le_of_ble_eq_true rfl) fun _ => ?_
  refine go_in ?_
  unfold m_slices_SortStableFunc_api_Router_api_Router_2 at h
  obtain ⟨y1, hy1, h2⟩ := bi_ok h
  refine go hΓ 5 rfl ?_
  refine eo_callF [0] (.tup []) [.row 69 6 y1.length (y1.flatMap e_api_Router)] (callable Tryz.func118 rfl rfl) (c_slices_stableCmpFunc_api_Router_2 hy1) rfl (Nat.le_of_ble_eq_true rfl) rfl rfl rfl rfl rfl rfl rfl rfl rfl rfl ?_
  refine go_ops hΓ 1 rfl ?_
  obtain rfl := Option.some.inj h2
  exact fin_objs hΓ [] (.inl rfl) rfl rfl rfl rfl (.inl rfl)
theorem c_slices_Compact_int_int {k : Nat} {s : List Int} {r : List Int} (h : m_slices_Compact_int_int k s = some r) : EC Tryz.prog 132 [.sl 0 s.length] [.row 3 1 s.length (s.flatMap (eN .i64))] fun g hp' => g = .sl 0 r.length ∧ hp' = [.row 3 1 r.length (r.flatMap (eN .i64))] := by
  refine ec_enter (Fr.of 0 _) Tryz.func132 rfl (Fr.of_ok _) (Nat.le_of_ble_eq_true rfl) fun _ => ?_
  refine go_in ?_
  unfold m_slices_Compact_int_int at h
  refine go hΓ 13 rfl ?_
  refine j_cond rfl (fun hb => ?_) (fun hb => ?_)
  · have h1 := cT h hb
    refine go hΓ 8 rfl ?_
    obtain rfl := Option.some.inj h1
    exact fin_objs hΓ [] (.inr rfl) rfl rfl rfl rfl (.inl rfl)
  · have h2 := cF h hb
    refine go hΓ 8 rfl ?_
    obtain ⟨q6, hq6, h7⟩ := bi_ok h2
    refine j_cutEZ (R := fun a8 => q6 = .inl a8) (fun a8 => [(0, .sl 0 s.length)]) (fun a8 => [.row 3 1 s.length (s.flatMap (eN .i64))]) ?_ ?_
    · refine go hΓ 1 rfl ?_
      refine j_loop hq6 (fun s4 => [(0, .sl 0 s.length), (3, I s4)]) (fun s4 => [.row 3 1 s.length (s.flatMap (eN .i64))]) ⟨⟨rfl, rfl, trivial⟩, [], rfl, .inl rfl⟩ (fun s4 y12 hy10 hout11 => ?_)
      refine go hΓ 9 rfl ?_
      refine j_cond rfl (fun hb => ?_) (fun hb => ?_)
      · have h13 := cT hy10 hb
        refine go hΓ 5 rfl ?_
        refine j_draw hmix (by kernel_rfl) ?_
        obtain ⟨x14, hx14, h15⟩ := bi_ok h13
        have hj16 := getZ_at hx14
        refine go hΓ 2 rfl ?_
        refine gl_o rfl (op_elemRowZ hΓ hx14 rfl rfl rfl rfl rfl rfl) ?_
        refine gl_o rfl (op_loadRowZ hΓ (enc := (eN .i64)) s4.toNat 0 hj16 rfl rfl rfl rfl (fun _ => rfl) (g := I x14) rfl) ?_
        obtain ⟨x17, hx17, h18⟩ := bi_ok h15
        have hj19 := getZ_at hx17
        refine go_draw hΓ 3 rfl ?_
        refine gl_o rfl (op_elemRowZ hΓ hx17 rfl rfl rfl rfl rfl rfl) ?_
        refine gl_o rfl (op_loadRowZ hΓ (enc := (eN .i64)) ((wi (s4 - 1)).toNat) 0 hj19 rfl rfl rfl rfl (fun _ => rfl) (g := I x17) rfl) ?_
        refine go_draw hΓ 3 rfl ?_
        refine j_cond rfl (fun hb => ?_) (fun hb => ?_)
        · have h20 := cT h18 hb
          obtain ⟨z21, hz21, h22⟩ := bi_ok h20
          refine go hΓ 4 rfl ?_
          refine eo_o rfl (op_viewI hΓ hz21 rfl rfl rfl rfl rfl rfl) ?_
          refine go_ops hΓ 9 rfl ?_
          obtain ⟨q26, hq26, h27⟩ := bi_ok h22
          refine j_cutNZ [(0, .sl 0 q26.1.length), (3, I q26.2)] [.row 3 1 q26.1.length (q26.1.flatMap (eN .i64))] ?_ ?_
          · refine go hΓ 1 rfl ?_
            refine j_loop hq26 (fun s24 => [(0, .sl 0 s24.1.length), (3, I s24.2.1), (4, .slo 0 1 s4.toNat z21.length), (5, I s24.2.2)]) (fun s24 => [.row 3 1 s24.1.length (s24.1.flatMap (eN .i64))]) ⟨⟨rfl, rfl, rfl, rfl, trivial⟩, [], rfl, .inl rfl⟩ (fun s24 y32 hy30 hout31 => ?_)
            refine go hΓ 9 rfl ?_
            refine j_cond rfl (fun hb => ?_) (fun hb => ?_)
            · have h33 := cT hy30 hb
              refine go hΓ 5 rfl ?_
              refine j_draw hmix (by kernel_rfl) ?_
              obtain ⟨x34, hx34, h35⟩ := bi_ok h33
              obtain ⟨x36, hx36, h37⟩ := bi_ok h35
              have hj38 : s24.1[(s4.toNat + s24.2.2.toNat)]? = some x36 := hx36
              refine go hΓ 2 rfl ?_
              refine gl_o rfl (op_elemView hΓ hx34 rfl rfl rfl rfl rfl rfl rfl) ?_
              refine gl_o rfl (op_loadRowZ hΓ (enc := (eN .i64)) (s4.toNat + s24.2.2.toNat) 0 hj38 rfl rfl rfl rfl (fun _ => rfl) (g := I x36) rfl) ?_
              obtain ⟨x39, hx39, h40⟩ := bi_ok h37
              obtain ⟨x41, hx41, h42⟩ := bi_ok h40
              have hj43 : s24.1[(s4.toNat + (wi (s24.2.2 - 1)).toNat)]? = some x41 := hx41
              refine go_draw hΓ 3 rfl ?_
              refine gl_o rfl (op_elemView hΓ hx39 rfl rfl rfl rfl rfl rfl rfl) ?_
              refine gl_o rfl (op_loadRowZ hΓ (enc := (eN .i64)) (s4.toNat + (wi (s24.2.2 - 1)).toNat) 0 hj43 rfl rfl rfl rfl (fun _ => rfl) (g := I x41) rfl) ?_
              refine go_draw hΓ 3 rfl ?_
              refine j_cond rfl (fun hb => ?_) (fun hb => ?_)
              · have h44 := cT h42 hb
                obtain ⟨x45, hx45, h46⟩ := bi_ok h44
                obtain ⟨x47, hx47, h48⟩ := bi_ok h46
                have hj49 : s24.1[(s4.toNat + s24.2.2.toNat)]? = some x47 := hx47
                refine go hΓ 6 rfl ?_
                refine eo_o rfl (op_elemView hΓ hx45 rfl rfl rfl rfl rfl rfl rfl) ?_
                refine eo_o rfl (op_loadRowZ hΓ (enc := (eN .i64)) (s4.toNat + s24.2.2.toNat) 0 hj49 rfl rfl rfl rfl (fun _ => rfl) (g := I x47) rfl) ?_
                obtain ⟨x50, hx50, h51⟩ := bi_ok h48
                have hj52 := getZ_at hx50
                refine eo_o rfl (op_elemRowZ hΓ hx50 rfl rfl rfl rfl rfl rfl) ?_
                refine eo_storeRowZ hΓ (enc := (eN .i64)) (z' := x47) s24.2.1.toNat 0 hj52 rfl rfl rfl rfl (fun _ => rfl) rfl rfl rfl rfl rfl rfl (Nat.le_of_ble_eq_true rfl) ?_
                refine eo_hp [.row 3 1 (s24.1.set s24.2.1.toNat x47).length ((s24.1.set s24.2.1.toNat x47).flatMap (eN .i64))] rfl ?_
                refine eo_relen 0 (n' := (s24.1.set s24.2.1.toNat x47).length) rfl List.length_set.symm ?_
                refine go_ops hΓ 14 rfl ?_
                obtain rfl := Option.some.inj h51
                exact ⟨_, rfl, ⟨⟨rfl, rfl, rfl, rfl, trivial⟩, [], rfl, .inl rfl⟩⟩
              · have h53 := cF h42 hb
                refine go hΓ 8 rfl ?_
                obtain rfl := Option.some.inj h53
                exact ⟨_, rfl, ⟨⟨rfl, rfl, rfl, rfl, trivial⟩, [], rfl, .inl rfl⟩⟩
            · have h54 := cF hy30 hb
              refine go hΓ 4 rfl ?_
              obtain rfl := Option.some.inj h54
              obtain rfl := hout31 _ rfl
              exact ⟨⟨rfl, rfl, trivial⟩, [], rfl, .inl rfl⟩
          · obtain ⟨z55, hz55, h56⟩ := bi_ok h27
            refine go hΓ 5 rfl ?_
            refine eo_o rfl (op_viewI hΓ hz55 rfl rfl rfl rfl rfl rfl) ?_
            refine eo_s0 (Nat.le_of_ble_eq_true rfl) (ops_clearT hΓ (enc := (eN .i64)) (a := q26.2) hz55 rfl rfl rfl rfl rfl rfl rfl rfl rfl rfl (fun _ => rfl)) ?_
            refine go_ops hΓ 6 rfl ?_
            refine eo_subCut hΓ hz55 rfl rfl rfl rfl rfl rfl rfl rfl ?_
            refine go_ops hΓ 6 rfl ?_
            obtain ⟨v57, hv57, h58⟩ := bi_ok h56
            obtain rfl := Option.some.inj h58
            obtain rfl := hout11 _ rfl
            obtain rfl := Option.some.inj h7
            refine go hΓ 4 rfl ?_
            obtain rfl := Option.some.inj hv57
            exact fin_objs hΓ [] (.inr rfl) rfl rfl rfl rfl (.inl rfl)
        · have h59 := cF h18 hb
          refine go hΓ 8 rfl ?_
          obtain rfl := Option.some.inj h59
          exact ⟨_, rfl, ⟨⟨rfl, rfl, trivial⟩, [], rfl, .inl rfl⟩⟩
      · have h60 := cF hy10 hb
        refine go hΓ 4 rfl ?_
        obtain rfl := Option.some.inj h60
        obtain rfl := hout11 _ rfl
        exact ⟨_, rfl, ⟨⟨rfl, trivial⟩, [], rfl, .inl rfl⟩⟩
    · intro a8 ha
      subst ha
      replace h7 := orI_l h7
      refine go hΓ 8 rfl ?_
      obtain rfl := Option.some.inj h7
      exact fin_objs hΓ [] (.inr rfl) rfl rfl rfl rfl (.inl rfl)
theorem c_laneref1_told {k : Nat} {l : List T_api_Health} {r : List Int} (h : m_laneref1_told k l = some r) : EC Tryz.prog 90 [.d (Sl e_api_Health l)] [] fun g hp' => g = .sl 0 r.length ∧ hp' = [.row 3 1 r.length (r.flatMap (eN .i64))] := by
  refine ec_enterC (Fr.of 0 _) Tryz.func90 rfl (Fr.of_ok _) (Nat.le_of_ble_eq_true rfl) fun _ => ?_
  refine go_in ?_
  unfold m_laneref1_told at h
  refine go hΓ 7 rfl ?_
  refine eo_litRowT hΓ (enc := (eN .i64)) [0, 345686400] rfl rfl rfl rfl rfl rfl rfl rfl rfl rfl rfl rfl (Nat.le_of_ble_eq_true rfl) ?_
  refine go_ops hΓ 11 rfl ?_
  obtain ⟨q4, hq4, h5⟩ := bi_ok h
  refine j_bound 7 rfl fun hb7 => ?_
  refine j_cutNZ [(3, .sl 0 q4.length)] [.row 3 1 q4.length (q4.flatMap (eN .i64))] ?_ ?_
  · refine go hΓ 1 rfl ?_
    refine j_rangeF l hq4 (fun i1 s2 => [(3, .sl 0 s2.length), (7, .d (Sl e_api_Health l)), (8, I (l.length : Int)), (9, I (i1 : Int))]) (fun s2 => [.row 3 1 s2.length (s2.flatMap (eN .i64))]) ⟨⟨rfl, rfl, rfl, rfl, trivial⟩, [], rfl, .inl rfl⟩ (fun i1 x3 s2 y11 hx8 hlt hy9 => ?_) (?_)
    · refine go hΓ 6 rfl ?_
      refine j_condT rfl (decide_eq_true (Int.ofNat_lt.2 hlt)) ?_
      refine go hΓ 6 rfl ?_
      refine eo_o rfl (op_elemZ hΓ (enc := e_api_Health) (getZ_nat hx8) rfl rfl rfl rfl rfl (fun _ => rfl)) ?_
      refine go_ops hΓ 1 rfl ?_
      refine eo_alloc hΓ rfl rfl rfl (Nat.le_of_ble_eq_true rfl) ?_
      refine eo_store hΓ rfl rfl rfl rfl rfl rfl rfl rfl (Nat.le_of_ble_eq_true rfl) ?_
      refine eo_hp [.row 3 1 s2.length (s2.flatMap (eN .i64)), .box 103 [I x3.At, S x3.Node, B x3.Up]] rfl ?_
      refine go_ops hΓ 6 rfl ?_
      refine eo_litT hΓ (enc := (eN .i64)) [x3.At] rfl rfl rfl rfl rfl rfl rfl rfl rfl rfl rfl rfl (Nat.le_of_ble_eq_true rfl) ?_
      obtain ⟨y12, hy12, h13⟩ := bi_ok hy9
      refine eo_appendT hΓ (enc := (eN .i64)) hy12 rfl rfl rfl rfl rfl rfl rfl rfl rfl (fun _ => rfl) rfl rfl rfl rfl ?_
      refine go_ops hΓ 8 rfl ?_
      obtain rfl := Option.some.inj h13
      exact ⟨⟨rfl, rfl, rfl, get_eq rfl (w64_succ (Nat.lt_of_lt_of_le hlt hb7)), trivial⟩, [_], rfl, .inr ⟨HB.mk rfl, FB.mk rfl, (Nat.le_of_ble_eq_true rfl)⟩⟩
    · refine go hΓ 6 rfl ?_
      refine j_condF rfl (decide_eq_false (Int.lt_irrefl _)) ?_
      refine go hΓ 4 rfl ?_
      exact ⟨⟨rfl, trivial⟩, [], rfl, .inl rfl⟩
  · obtain ⟨y14, hy14, h15⟩ := bi_ok h5
    refine go hΓ 4 rfl ?_
    refine eo_callF [0] (.tup []) [.row 3 1 y14.length (y14.flatMap (eN .i64))] (callable Tryz.func131 rfl rfl) (c_slices_SortI hy14) rfl (Nat.le_of_ble_eq_true rfl) rfl rfl rfl rfl rfl rfl rfl rfl rfl rfl ?_
    obtain ⟨hg17, h16⟩ := gd_ok h15
    refine eo_relen 3 rfl (of_decide_eq_true hg17).symm ?_
    obtain ⟨y18, hy18, h19⟩ := bi_ok h16
    refine go_ops hΓ 5 rfl ?_
    refine eo_callF [0] (.sl 0 y18.length) [.row 3 1 y18.length (y18.flatMap (eN .i64))] (callable Tryz.func132 rfl rfl) (c_slices_Compact_int_int hy18) rfl (Nat.le_of_ble_eq_true rfl) rfl rfl rfl rfl rfl rfl rfl rfl rfl rfl ?_
    refine go_ops hΓ 4 rfl ?_
    refine cv_here ?_
    obtain rfl := Option.some.inj h19
    exact fin_objs hΓ [] (.inr rfl) rfl rfl rfl rfl (.inl rfl)
theorem c_laneref1_UpAt {l : List T_api_Health} {node : Str} {v_at : Int} {r : Bool} (h : m_laneref1_UpAt l node v_at = some r) : Pure Tryz.prog 36 [.d (Sl e_api_Health l), S node, I v_at] (B r) := by
  refine Pure.enter (Fr.of 0 _) Tryz.func36 rfl (Fr.of_ok _) rfl rfl ?_
  refine go_in ?_
  unfold m_laneref1_UpAt at h
  refine go hΓ 18 rfl ?_
  obtain ⟨q4, hq4, h5⟩ := bi_ok h
  refine j_bound 10 rfl fun hb7 => ?_
  refine j_cutNZ [(7, B q4)] [] ?_ ?_
  · refine go hΓ 1 rfl ?_
    refine j_rangeF l hq4 (fun i1 s2 => [(1, S node), (2, I v_at), (7, B s2), (10, .d (Sl e_api_Health l)), (11, I (l.length : Int)), (12, I (i1 : Int))]) (fun s2 => []) ⟨⟨rfl, rfl, rfl, rfl, rfl, rfl, trivial⟩, [], rfl, .inl rfl⟩ (fun i1 x3 s2 y11 hx8 hlt hy9 => ?_) (?_)
    · refine go hΓ 6 rfl ?_
      refine j_condT rfl (decide_eq_true (Int.ofNat_lt.2 hlt)) ?_
      refine go hΓ 6 rfl ?_
      refine eo_o rfl (op_elemZ hΓ (enc := e_api_Health) (getZ_nat hx8) rfl rfl rfl rfl rfl (fun _ => rfl)) ?_
      refine go_ops hΓ 1 rfl ?_
      refine eo_alloc hΓ rfl rfl rfl (Nat.le_of_ble_eq_true rfl) ?_
      refine eo_store hΓ rfl rfl rfl rfl rfl rfl rfl rfl (Nat.le_of_ble_eq_true rfl) ?_
      refine eo_hp [.box 103 [I x3.At, S x3.Node, B x3.Up]] rfl ?_
      refine go_ops hΓ 9 rfl ?_
      refine o_cut 5 [(1, S node), (2, I v_at), (7, B s2), (9, .ptr 0 0), (10, .d (Sl e_api_Health l)), (11, I (l.length : Int)), (12, I (i1 : Int)), (25, B (((x3.Node : Str) == node) && (decide ((x3.At : Int) ≤ v_at))))] [.box 103 [I x3.At, S x3.Node, B x3.Up]] ?_ ?_
      · refine eo_gsplit rfl rfl (fun hb => ?_) (fun hb => ?_)
        · refine go_ops hΓ 6 rfl ?_
          exact ⟨⟨rfl, rfl, rfl, rfl, rfl, rfl, rfl, get_b rfl (and_t hb), trivial⟩, [], rfl, .inl rfl⟩
        · refine go_ops hΓ 6 rfl ?_
          exact ⟨⟨rfl, rfl, rfl, rfl, rfl, rfl, rfl, get_b rfl (and_f hb), trivial⟩, [], rfl, .inl rfl⟩
      · refine go_ops hΓ 2 rfl ?_
        refine j_cond rfl (fun hb => ?_) (fun hb => ?_)
        · have h12 := cT hy9 hb
          refine go hΓ 11 rfl ?_
          obtain rfl := Option.some.inj h12
          exact ⟨⟨rfl, rfl, rfl, rfl, rfl, get_eq rfl (w64_succ (Nat.lt_of_lt_of_le hlt hb7)), trivial⟩, [_], rfl, .inr ⟨HB.mk rfl, FB.mk rfl, (Nat.le_of_ble_eq_true rfl)⟩⟩
        · have h13 := cF hy9 hb
          refine go hΓ 7 rfl ?_
          obtain rfl := Option.some.inj h13
          exact ⟨⟨rfl, rfl, rfl, rfl, rfl, get_eq rfl (w64_succ (Nat.lt_of_lt_of_le hlt hb7)), trivial⟩, [_], rfl, .inr ⟨HB.mk rfl, FB.mk rfl, (Nat.le_of_ble_eq_true rfl)⟩⟩
    · refine go hΓ 6 rfl ?_
      refine j_condF rfl (decide_eq_false (Int.lt_irrefl _)) ?_
      refine go hΓ 4 rfl ?_
      exact ⟨⟨rfl, trivial⟩, [], rfl, .inl rfl⟩
  · refine go hΓ 8 rfl ?_
    obtain rfl := Option.some.inj h5
    exact fin_pure hΓ (.inr rfl) rfl rfl
theorem c_laneref1_addTurn {l : List T_api_Turn} {who : Str} {v_from : Int} {v_to : Int} {r : List T_api_Turn} (h : m_laneref1_addTurn l who v_from v_to = some r) : EC Tryz.prog 100 [.sl 0 l.length, S who, I v_from, I v_to] [.row 91 3 l.length (l.flatMap e_api_Turn)] fun g hp' => g = .sl 1 r.length ∧ hp' = [.dead, .row 91 3 r.length (r.flatMap e_api_Turn)] := by
  refine ec_enter (Fr.of 0 _) Tryz.func100 rfl (Fr.of_ok _) (Nat.le_of_ble_eq_true rfl) fun _ => ?_
  refine go_in ?_
  unfold m_laneref1_addTurn at h
  refine go hΓ 2 rfl ?_
  refine eo_nilOwn (t := 0) 91 3 rfl (Nat.le_of_ble_eq_true rfl) ?_
  refine go_ops hΓ 8 rfl ?_
  refine o_cut 4 [(0, .sl 0 l.length), (1, S who), (2, I v_from), (3, I v_to), (16, B (((who : Str) == []) || (decide ((v_from : Int) ≥ v_to))))] [.row 91 3 l.length (l.flatMap e_api_Turn), .row 91 3 ([] : List T_api_Turn).length (([] : List T_api_Turn).flatMap e_api_Turn)] ?_ ?_
  · refine eo_gsplit rfl rfl (fun hb => ?_) (fun hb => ?_)
    · refine go_ops hΓ 5 rfl ?_
      exact ⟨⟨rfl, rfl, rfl, rfl, get_b rfl (or_t hb), trivial⟩, [], rfl, .inl rfl⟩
    · refine go_ops hΓ 5 rfl ?_
      exact ⟨⟨rfl, rfl, rfl, rfl, get_b rfl (or_f hb), trivial⟩, [], rfl, .inl rfl⟩
  · refine go_ops hΓ 2 rfl ?_
    refine j_cond rfl (fun hb => ?_) (fun hb => ?_)
    · have h1 := cT h hb
      refine go hΓ 4 rfl ?_
      refine eo_shr 1 [] _ [.row 91 3 l.length (l.flatMap e_api_Turn), .dead] rfl rfl rfl (Nat.le_of_ble_eq_true rfl) ?_
      refine eo_move 0 1 [.dead, .row 91 3 l.length (l.flatMap e_api_Turn)] rfl rfl rfl rfl rfl rfl ?_
      refine go_ops hΓ 4 rfl ?_
      obtain rfl := Option.some.inj h1
      exact fin_objs hΓ [] (.inr rfl) rfl rfl rfl rfl (.inl rfl)
    · have h2 := cF h hb
      refine go hΓ 15 rfl ?_
      obtain ⟨q3, hq3, h4⟩ := bi_ok h2
      refine o_cut 9 [(0, .sl 0 l.length), (1, S who), (2, I v_from), (3, I v_to), (9, I (l.length : Int)), (31, B q3)] [.row 91 3 l.length (l.flatMap e_api_Turn), .row 91 3 ([] : List T_api_Turn).length (([] : List T_api_Turn).flatMap e_api_Turn)] ?_ ?_
      · refine eo_gsplit rfl rfl (fun hb => ?_) (fun hb => ?_)
        · have h5 := cT hq3 hb
          obtain ⟨x6, hx6, h7⟩ := bi_ok h5
          have hj8 := getZ_at hx6
          refine go_ops hΓ 3 rfl ?_
          refine eo_guard rfl ?_
          refine eo_o rfl (op_elemRowZ hΓ hx6 rfl rfl rfl rfl rfl rfl) ?_
          refine go_ops hΓ 1 rfl ?_
          refine eo_guard rfl ?_
          refine eo_o rfl (op_loadRowZ hΓ (enc := e_api_Turn) ((wi ((l.length : Int) - 1)).toNat) 0 hj8 rfl rfl rfl rfl (fun _ => rfl) (g := S x6.Who) rfl) ?_
          refine go_ops hΓ 4 rfl ?_
          obtain rfl := Option.some.inj h7
          exact ⟨⟨rfl, rfl, rfl, rfl, rfl, rfl, trivial⟩, [], rfl, .inl rfl⟩
        · have h9 := cF hq3 hb
          refine go_ops hΓ 10 rfl ?_
          obtain rfl := Option.some.inj h9
          exact ⟨⟨rfl, rfl, rfl, rfl, rfl, rfl, trivial⟩, [], rfl, .inl rfl⟩
      · refine go_ops hΓ 1 rfl ?_
        obtain ⟨q10, hq10, h11⟩ := bi_ok h4
        refine o_cut 9 [(0, .sl 0 l.length), (1, S who), (2, I v_from), (3, I v_to), (9, I (l.length : Int)), (41, B q10)] [.row 91 3 l.length (l.flatMap e_api_Turn), .row 91 3 ([] : List T_api_Turn).length (([] : List T_api_Turn).flatMap e_api_Turn)] ?_ ?_
        · refine eo_gsplit rfl rfl (fun hb => ?_) (fun hb => ?_)
          · have h12 := cT hq10 hb
            obtain ⟨x13, hx13, h14⟩ := bi_ok h12
            have hj15 := getZ_at hx13
            refine go_ops hΓ 3 rfl ?_
            refine eo_guard rfl ?_
            refine eo_o rfl (op_elemRowZ hΓ hx13 rfl rfl rfl rfl rfl rfl) ?_
            refine go_ops hΓ 1 rfl ?_
            refine eo_guard rfl ?_
            refine eo_o rfl (op_loadRowZ hΓ (enc := e_api_Turn) ((wi ((l.length : Int) - 1)).toNat) 2 hj15 rfl rfl rfl rfl (fun _ => rfl) (g := I x13.To) rfl) ?_
            refine go_ops hΓ 4 rfl ?_
            obtain rfl := Option.some.inj h14
            exact ⟨⟨rfl, rfl, rfl, rfl, rfl, rfl, trivial⟩, [], rfl, .inl rfl⟩
          · have h16 := cF hq10 hb
            refine go_ops hΓ 10 rfl ?_
            obtain rfl := Option.some.inj h16
            exact ⟨⟨rfl, rfl, rfl, rfl, rfl, rfl, trivial⟩, [], rfl, .inl rfl⟩
        · refine go_ops hΓ 2 rfl ?_
          refine j_cond rfl (fun hb => ?_) (fun hb => ?_)
          · have h17 := cT h11 hb
            obtain ⟨x18, hx18, h19⟩ := bi_ok h17
            have hj20 := getZ_at hx18
            refine go hΓ 6 rfl ?_
            refine eo_o rfl (op_elemRowZ hΓ hx18 rfl rfl rfl rfl rfl rfl) ?_
            refine go_ops hΓ 1 rfl ?_
            refine eo_storeRowZ hΓ (enc := e_api_Turn) (z' := (⟨x18.Who, x18.From, v_to⟩ : T_api_Turn)) ((wi ((l.length : Int) - 1)).toNat) 2 hj20 rfl rfl rfl rfl (fun _ => rfl) rfl rfl rfl rfl rfl rfl (Nat.le_of_ble_eq_true rfl) ?_
            refine eo_hp [.row 91 3 (l.set ((wi ((l.length : Int) - 1)).toNat) (⟨x18.Who, x18.From, v_to⟩ : T_api_Turn)).length ((l.set ((wi ((l.length : Int) - 1)).toNat) (⟨x18.Who, x18.From, v_to⟩ : T_api_Turn)).flatMap e_api_Turn), .row 91 3 ([] : List T_api_Turn).length (([] : List T_api_Turn).flatMap e_api_Turn)] rfl ?_
            refine eo_relen 0 (n' := (l.set ((wi ((l.length : Int) - 1)).toNat) (⟨x18.Who, x18.From, v_to⟩ : T_api_Turn)).length) rfl List.length_set.symm ?_
            refine go_ops hΓ 6 rfl ?_
            refine eo_shr 1 [] _ [.row 91 3 (l.set ((wi ((l.length : Int) - 1)).toNat) (⟨x18.Who, x18.From, v_to⟩ : T_api_Turn)).length ((l.set ((wi ((l.length : Int) - 1)).toNat) (⟨x18.Who, x18.From, v_to⟩ : T_api_Turn)).flatMap e_api_Turn), .dead] rfl rfl rfl (Nat.le_of_ble_eq_true rfl) ?_
            refine eo_move 0 1 [.dead, .row 91 3 (l.set ((wi ((l.length : Int) - 1)).toNat) (⟨x18.Who, x18.From, v_to⟩ : T_api_Turn)).length ((l.set ((wi ((l.length : Int) - 1)).toNat) (⟨x18.Who, x18.From, v_to⟩ : T_api_Turn)).flatMap e_api_Turn)] rfl rfl rfl rfl rfl rfl ?_
            refine go_ops hΓ 4 rfl ?_
            obtain rfl := Option.some.inj h19
            exact fin_objs hΓ [] (.inr rfl) rfl rfl rfl rfl (.inl rfl)
          · have h21 := cF h11 hb
            refine go hΓ 8 rfl ?_
            refine eo_build hΓ (gs := [S who, I v_from, I v_to]) rfl rfl rfl rfl rfl rfl rfl ?_
            refine eo_litT hΓ (enc := e_api_Turn) [(⟨who, v_from, v_to⟩ : T_api_Turn)] rfl rfl rfl rfl rfl rfl rfl rfl rfl rfl rfl rfl (Nat.le_of_ble_eq_true rfl) ?_
            obtain ⟨y22, hy22, h23⟩ := bi_ok h21
            refine eo_s (Nat.le_of_ble_eq_true rfl) (nblt.1 rfl) (ops_appendT hΓ (enc := e_api_Turn) (id := 0) (h2 := show Γ 91 = some ⟨_, 3, _, _⟩ from rfl) hy22 rfl rfl rfl rfl rfl rfl rfl rfl (fun _ => rfl) rfl) ?_
            refine go_ops hΓ 1 rfl ?_
            refine eo_shr 1 [] _ [.dead, .dead, .row 91 3 y22.length (y22.flatMap e_api_Turn)] rfl rfl rfl (Nat.le_of_ble_eq_true rfl) ?_
            refine eo_move 2 1 [.dead, .row 91 3 y22.length (y22.flatMap e_api_Turn), .dead] rfl rfl rfl rfl rfl rfl ?_
            refine go_ops hΓ 3 rfl ?_
            obtain rfl := Option.some.inj h23
            exact fin_objs hΓ [_] (.inr rfl) rfl rfl rfl rfl (.inr ⟨HB.mk rfl, rfl⟩)
theorem c_laneref1_FirstTurns {k : Nat} {v_r : List T_api_Router} {l : List T_api_Health} {p : T_api_Prefix} {r : List T_api_Turn} (h : m_laneref1_FirstTurns k v_r l p = some r) : EC Tryz.prog 46 [.d (Sl e_api_Router v_r), .d (Sl e_api_Health l), .agg [B p.Addr.Six, .d (.v (.int .u64 p.Addr.Hi)), .d (.v (.int .u64 p.Addr.Lo)), I p.Bits]] [] fun g hp' => g = .sl 0 r.length ∧ hp' = [.row 91 3 r.length (r.flatMap e_api_Turn)] := by
  refine ec_enterC (Fr.of 0 _) Tryz.func46 rfl (Fr.of_ok _) (Nat.le_of_ble_eq_true rfl) fun _ => ?_
  refine go_in ?_
  unfold m_laneref1_FirstTurns at h
  refine go hΓ 2 rfl ?_
  refine eo_box rfl rfl rfl rfl (Nat.le_of_ble_eq_true rfl) ?_
  obtain ⟨y1, hy1, h2⟩ := bi_ok h
  refine go_ops hΓ 7 rfl ?_
  refine eo_callF [] (.sl 1 y1.length) [.box 42 [B p.Addr.Six, .d (.v (.int .u64 p.Addr.Hi)), .d (.v (.int .u64 p.Addr.Lo)), I p.Bits], .row 69 6 y1.length (y1.flatMap e_api_Router)] (callable Tryz.func75 rfl rfl) (c_laneref1_routersOf hy1) rfl (Nat.le_of_ble_eq_true rfl) rfl rfl rfl rfl rfl rfl rfl rfl rfl rfl ?_
  obtain ⟨y3, hy3, h4⟩ := bi_ok h2
  refine go_ops hΓ 6 rfl ?_
  refine eo_callF [1] (.tup []) [.box 42 [B p.Addr.Six, .d (.v (.int .u64 p.Addr.Hi)), .d (.v (.int .u64 p.Addr.Lo)), I p.Bits], .row 69 6 y3.length (y3.flatMap e_api_Router)] (callable Tryz.func66 rfl rfl) (c_slices_SortStableFunc_api_Router_api_Router_2 hy3) rfl (Nat.le_of_ble_eq_true rfl) rfl rfl rfl rfl rfl rfl rfl rfl rfl rfl ?_
  obtain ⟨hg6, h5⟩ := gd_ok h4
  refine eo_relen 7 rfl (of_decide_eq_true hg6).symm ?_
  refine go_ops hΓ 4 rfl ?_
  refine eo_nilOwn (t := 0) 91 3 rfl (Nat.le_of_ble_eq_true rfl) ?_
  obtain ⟨y7, hy7, h8⟩ := bi_ok h5
  refine go_ops hΓ 10 rfl ?_
  refine eo_callP (callable Tryz.func90 rfl rfl) (Pure.rows (c_laneref1_told hy7) rfl rfl) rfl (Nat.le_of_ble_eq_true rfl) rfl rfl rfl rfl rfl ?_
  refine go_ops hΓ 12 rfl ?_
  obtain ⟨q12, hq12, h13⟩ := bi_ok h8
  obtain ⟨hb15, h16⟩ := gd_ok hq12
  replace hb15 := of_decide_eq_true hb15
  refine j_cutNZ [(8, .sl 2 q12.1.length)] [.box 42 [B p.Addr.Six, .d (.v (.int .u64 p.Addr.Hi)), .d (.v (.int .u64 p.Addr.Lo)), I p.Bits], .row 69 6 y3.length (y3.flatMap e_api_Router), .row 91 3 q12.1.length (q12.1.flatMap e_api_Turn)] ?_ ?_
  · refine go hΓ 1 rfl ?_
    refine j_rangeG h16 (fun i9 s10 => [(1, .d (Sl e_api_Health l)), (7, .sl 1 y3.length), (8, .sl 2 s10.1.length), (9, S s10.2), (10, .d (Sl (eN .i64) y7)), (23, I (wi ((y7.length : Int) - 1))), (24, I (i9 : Int))]) (fun s10 => [.box 42 [B p.Addr.Six, .d (.v (.int .u64 p.Addr.Hi)), .d (.v (.int .u64 p.Addr.Lo)), I p.Bits], .row 69 6 y3.length (y3.flatMap e_api_Router), .row 91 3 s10.1.length (s10.1.flatMap e_api_Turn)]) ⟨⟨rfl, rfl, rfl, rfl, rfl, rfl, rfl, trivial⟩, [], rfl, .inl rfl⟩ (fun i9 s10 y20 hlt hy18 => ?_) (fun hge => ?_)
    · refine go hΓ 6 rfl ?_
      refine j_condT rfl (decide_eq_true hlt) ?_
      refine go hΓ 16 rfl ?_
      obtain ⟨q21, hq21, h22⟩ := bi_ok hy18
      refine o_cut 9 [(1, .d (Sl e_api_Health l)), (7, .sl 1 y3.length), (8, .sl 2 s10.1.length), (9, S s10.2), (10, .d (Sl (eN .i64) y7)), (11, I (i9 : Int)), (23, I (wi ((y7.length : Int) - 1))), (24, I (i9 : Int)), (38, B q21)] [.box 42 [B p.Addr.Six, .d (.v (.int .u64 p.Addr.Hi)), .d (.v (.int .u64 p.Addr.Lo)), I p.Bits], .row 69 6 y3.length (y3.flatMap e_api_Router), .row 91 3 s10.1.length (s10.1.flatMap e_api_Turn)] ?_ ?_
      · refine eo_gsplit rfl rfl (fun hb => ?_) (fun hb => ?_)
        · have h23 := cT hq21 hb
          refine go_ops hΓ 10 rfl ?_
          obtain rfl := Option.some.inj h23
          exact ⟨⟨rfl, rfl, rfl, rfl, rfl, rfl, rfl, rfl, rfl, trivial⟩, [], rfl, .inl rfl⟩
        · have h24 := cF hq21 hb
          obtain ⟨x25, hx25, h26⟩ := bi_ok h24
          refine go_ops hΓ 4 rfl ?_
          refine eo_guard rfl ?_
          refine eo_o rfl (op_elemZ hΓ (enc := (eN .i64)) hx25 rfl rfl rfl rfl rfl (fun _ => rfl)) ?_
          obtain ⟨y27, hy27, h28⟩ := bi_ok h26
          refine go_ops hΓ 1 rfl ?_
          refine eo_guard rfl ?_
          refine eo_callP (callable Tryz.func36 rfl rfl) (c_laneref1_UpAt hy27) rfl (Nat.le_of_ble_eq_true rfl) rfl rfl rfl rfl rfl ?_
          refine go_ops hΓ 3 rfl ?_
          obtain rfl := Option.some.inj h28
          exact ⟨⟨rfl, rfl, rfl, rfl, rfl, rfl, rfl, rfl, rfl, trivial⟩, [], rfl, .inl rfl⟩
      · obtain ⟨q29, hq29, h30⟩ := bi_ok h22
        refine go_ops hΓ 2 rfl ?_
        refine j_cutNZ [(1, .d (Sl e_api_Health l)), (7, .sl 1 y3.length), (8, .sl 2 s10.1.length), (9, S q29), (10, .d (Sl (eN .i64) y7)), (11, I (i9 : Int)), (23, I (wi ((y7.length : Int) - 1))), (24, I (i9 : Int))] [.box 42 [B p.Addr.Six, .d (.v (.int .u64 p.Addr.Hi)), .d (.v (.int .u64 p.Addr.Lo)), I p.Bits], .row 69 6 y3.length (y3.flatMap e_api_Router), .row 91 3 s10.1.length (s10.1.flatMap e_api_Turn)] ?_ ?_
        · refine j_cond rfl (fun hb => ?_) (fun hb => ?_)
          · have h31 := cT hq29 hb
            refine go hΓ 12 rfl ?_
            obtain ⟨q35, hq35, h36⟩ := bi_ok h31
            obtain ⟨hb38, h39⟩ := gd_ok hq35
            replace hb38 := of_decide_eq_true hb38
            obtain ⟨q40, hq40, h41⟩ := bi_ok h36
            refine j_cutNZ [(1, .d (Sl e_api_Health l)), (7, .sl 1 y3.length), (8, .sl 2 s10.1.length), (9, S q40), (10, .d (Sl (eN .i64) y7)), (11, I (i9 : Int)), (23, I (wi ((y7.length : Int) - 1))), (24, I (i9 : Int))] [.box 42 [B p.Addr.Six, .d (.v (.int .u64 p.Addr.Hi)), .d (.v (.int .u64 p.Addr.Lo)), I p.Bits], .row 69 6 y3.length (y3.flatMap e_api_Router), .row 91 3 s10.1.length (s10.1.flatMap e_api_Turn)] ?_ ?_
            · refine go hΓ 1 rfl ?_
              refine j_rangeI h39 (fun i32 s33 => [(1, .d (Sl e_api_Health l)), (7, .sl 1 y3.length), (8, .sl 2 s10.1.length), (9, S []), (10, .d (Sl (eN .i64) y7)), (11, I (i9 : Int)), (23, I (wi ((y7.length : Int) - 1))), (24, I (i9 : Int)), (39, .sl 1 y3.length), (40, I (y3.length : Int)), (41, I (i32 : Int))]) (fun s33 => [.box 42 [B p.Addr.Six, .d (.v (.int .u64 p.Addr.Hi)), .d (.v (.int .u64 p.Addr.Lo)), I p.Bits], .row 69 6 y3.length (y3.flatMap e_api_Router), .row 91 3 s10.1.length (s10.1.flatMap e_api_Turn)]) ⟨⟨rfl, rfl, rfl, rfl, rfl, rfl, rfl, rfl, rfl, rfl, rfl, trivial⟩, [], rfl, .inl rfl⟩ (fun i32 s33 y45 hlt hy43 hout44 => ?_) (fun s33 hgo hge => ?_)
              · refine go hΓ 6 rfl ?_
                refine j_condT rfl (decide_eq_true hlt) ?_
                obtain ⟨x46, hx46, h47⟩ := bi_ok hy43
                have hj48 := getZ_at hx46
                refine go hΓ 6 rfl ?_
                refine eo_o rfl (op_elemRowZ hΓ hx46 rfl rfl rfl rfl rfl rfl) ?_
                refine eo_o rfl (op_loadRowZ hΓ (enc := e_api_Router) ((i32 : Int).toNat) 0 hj48 rfl rfl rfl rfl (fun _ => rfl) (g := .agg [B x46.Prefix.Addr.Six, .d (.v (.int .u64 x46.Prefix.Addr.Hi)), .d (.v (.int .u64 x46.Prefix.Addr.Lo)), I x46.Prefix.Bits, S x46.Node, I x46.Weight]) rfl) ?_
                refine eo_alloc hΓ rfl rfl rfl (Nat.le_of_ble_eq_true rfl) ?_
                refine eo_store hΓ rfl rfl rfl rfl rfl rfl rfl rfl (Nat.le_of_ble_eq_true rfl) ?_
                refine eo_hp [.box 42 [B p.Addr.Six, .d (.v (.int .u64 p.Addr.Hi)), .d (.v (.int .u64 p.Addr.Lo)), I p.Bits], .row 69 6 y3.length (y3.flatMap e_api_Router), .row 91 3 s10.1.length (s10.1.flatMap e_api_Turn), .box 69 [B x46.Prefix.Addr.Six, .d (.v (.int .u64 x46.Prefix.Addr.Hi)), .d (.v (.int .u64 x46.Prefix.Addr.Lo)), I x46.Prefix.Bits, S x46.Node, I x46.Weight]] rfl ?_
                refine go_ops hΓ 3 rfl ?_
                refine j_draw hmix (by kernel_rfl) ?_
                obtain ⟨x49, hx49, h50⟩ := bi_ok h47
                refine go hΓ 5 rfl ?_
                refine gl_o rfl (op_elemZ hΓ (enc := (eN .i64)) hx49 rfl rfl rfl rfl rfl (fun _ => rfl)) ?_
                obtain ⟨y51, hy51, h52⟩ := bi_ok h50
                refine go_draw hΓ 1 rfl ?_
                refine gl_callP (callable Tryz.func36 rfl rfl) (c_laneref1_UpAt hy51) rfl rfl rfl rfl rfl rfl ?_
                refine go_draw hΓ 2 rfl ?_
                refine j_cond rfl (fun hb => ?_) (fun hb => ?_)
                · have h53 := cT h52 hb
                  refine go hΓ 12 rfl ?_
                  obtain rfl := Option.some.inj h53
                  obtain rfl := hout44 _ rfl
                  obtain rfl := Option.some.inj hq40
                  exact ⟨⟨rfl, rfl, rfl, rfl, rfl, rfl, rfl, rfl, trivial⟩, [_], rfl, .inr ⟨HB.mk rfl, FB.mk rfl, (Nat.le_of_ble_eq_true rfl)⟩⟩
                · have h54 := cF h52 hb
                  refine go hΓ 7 rfl ?_
                  obtain rfl := Option.some.inj h54
                  exact ⟨_, rfl, ⟨⟨rfl, rfl, rfl, rfl, rfl, rfl, rfl, rfl, rfl, rfl, get_eq rfl (w64_succ (by omega)), trivial⟩, [_], rfl, .inr ⟨HB.mk rfl, FB.mk rfl, (Nat.le_of_ble_eq_true rfl)⟩⟩⟩
              · subst hgo
                refine go hΓ 6 rfl ?_
                refine j_condF rfl (decide_eq_false hge) ?_
                refine go hΓ 4 rfl ?_
                obtain rfl := Option.some.inj hq40
                exact ⟨⟨rfl, rfl, rfl, rfl, rfl, rfl, rfl, rfl, trivial⟩, [], rfl, .inl rfl⟩
            · obtain rfl := Option.some.inj h41
              exact ⟨⟨rfl, rfl, rfl, rfl, rfl, rfl, rfl, rfl, trivial⟩, [], rfl, .inl rfl⟩
          · have h55 := cF hq29 hb
            refine go hΓ 1 rfl ?_
            obtain rfl := Option.some.inj h55
            exact ⟨⟨rfl, rfl, rfl, rfl, rfl, rfl, rfl, rfl, trivial⟩, [], rfl, .inl rfl⟩
        · refine go hΓ 1 rfl ?_
          refine j_drawE [] [] [11] [] hmix (by kernel_rfl) (by kernel_rfl) trivial (Nat.le_of_ble_eq_true rfl) ?_
          obtain ⟨x56, hx56, h57⟩ := bi_ok h30
          refine go_E hΓ 4 rfl ?_
          refine ge_q rfl (.inl rfl) (fun _ _ => qte_of_qt (qt_p (op_elemZ hΓ (enc := (eN .i64)) hx56 rfl rfl rfl rfl rfl (fun _ => rfl)))) ?_
          obtain ⟨x58, hx58, h59⟩ := bi_ok h57
          refine go_E hΓ 4 rfl ?_
          refine ge_q rfl (.inl rfl) (fun _ _ => qte_of_qt (qt_p (op_elemZ hΓ (enc := (eN .i64)) hx58 rfl rfl rfl rfl rfl (fun _ => rfl)))) ?_
          obtain ⟨y60, hy60, h61⟩ := bi_ok h59
          refine go_E hΓ 1 rfl ?_
          refine ge_h [.box 42 [B p.Addr.Six, .d (.v (.int .u64 p.Addr.Hi)), .d (.v (.int .u64 p.Addr.Lo)), I p.Bits], .row 69 6 y3.length (y3.flatMap e_api_Router), .dead, .row 91 3 y60.length (y60.flatMap e_api_Turn)] rfl rfl rfl (st_st trivial) (qte_callF [2] (.sl 3 y60.length) [.box 42 [B p.Addr.Six, .d (.v (.int .u64 p.Addr.Hi)), .d (.v (.int .u64 p.Addr.Lo)), I p.Bits], .row 69 6 y3.length (y3.flatMap e_api_Router), .dead, .row 91 3 y60.length (y60.flatMap e_api_Turn)] (callable Tryz.func100 rfl rfl) (c_laneref1_addTurn hy60) rfl rfl rfl rfl rfl rfl rfl rfl rfl rfl) ?_
          refine go_E hΓ 1 rfl ?_
          refine ge_fin ?_
          refine go hΓ 2 rfl ?_
          refine j_move 3 2 [.box 42 [B p.Addr.Six, .d (.v (.int .u64 p.Addr.Hi)), .d (.v (.int .u64 p.Addr.Lo)), I p.Bits], .row 69 6 y3.length (y3.flatMap e_api_Router), .row 91 3 y60.length (y60.flatMap e_api_Turn), .dead] rfl rfl rfl rfl rfl rfl ?_
          refine go hΓ 4 rfl ?_
          obtain rfl := Option.some.inj h61
          exact ⟨⟨rfl, rfl, rfl, rfl, rfl, rfl, get_eq rfl (w64_succ (by omega)), trivial⟩, [_], rfl, .inr ⟨HB.mk rfl, FB.mk rfl, (Nat.le_of_ble_eq_true rfl)⟩⟩
    · refine go hΓ 6 rfl ?_
      refine j_condF rfl (decide_eq_false hge) ?_
      refine go hΓ 4 rfl ?_
      exact ⟨⟨rfl, trivial⟩, [], rfl, .inl rfl⟩
  · refine go hΓ 8 rfl ?_
    refine cv_kill 0 [.dead, .row 69 6 y3.length (y3.flatMap e_api_Router), .row 91 3 q12.1.length (q12.1.flatMap e_api_Turn)] rfl (Nat.le_of_ble_eq_true rfl) ?_
    refine cv_move 2 0 [.row 91 3 q12.1.length (q12.1.flatMap e_api_Turn), .row 69 6 y3.length (y3.flatMap e_api_Router), .dead] rfl rfl rfl rfl rfl rfl ?_
    refine cv_here ?_
    obtain rfl := Option.some.inj h13
    exact fin_objs hΓ [_, _] (.inr rfl) rfl rfl rfl rfl (.inr ⟨HB.mk rfl, rfl⟩)
theorem c_laneref1_turnAt {l : List T_api_Turn} {v_at : Int} {r : Str} (h : m_laneref1_turnAt l v_at = some r) : Pure Tryz.prog 98 [.d (Sl e_api_Turn l), I v_at] (S r) := by
  refine Pure.enter (Fr.of 0 _) Tryz.func98 rfl (Fr.of_ok _) rfl rfl ?_
  refine go_in ?_
  unfold m_laneref1_turnAt at h
  refine go hΓ 13 rfl ?_
  obtain ⟨q4, hq4, h5⟩ := bi_ok h
  refine j_bound 7 rfl fun hb7 => ?_
  refine j_cutEZ (R := fun a6 => q4 = .go a6) (fun a6 => []) (fun a6 => []) ?_ ?_
  · refine go hΓ 1 rfl ?_
    refine j_range l hq4 (fun i1 s2 => [(1, I v_at), (7, .d (Sl e_api_Turn l)), (8, I (l.length : Int)), (9, I (i1 : Int))]) (fun s2 => []) ⟨⟨rfl, rfl, rfl, rfl, trivial⟩, [], rfl, .inl rfl⟩ (fun i1 x3 s2 y11 hx8 hlt hy9 hout10 => ?_) (fun s2 hgo => ?_)
    · refine go hΓ 6 rfl ?_
      refine j_condT rfl (decide_eq_true (Int.ofNat_lt.2 hlt)) ?_
      refine go hΓ 6 rfl ?_
      refine eo_o rfl (op_elemZ hΓ (enc := e_api_Turn) (getZ_nat hx8) rfl rfl rfl rfl rfl (fun _ => rfl)) ?_
      refine go_ops hΓ 1 rfl ?_
      refine eo_alloc hΓ rfl rfl rfl (Nat.le_of_ble_eq_true rfl) ?_
      refine eo_store hΓ rfl rfl rfl rfl rfl rfl rfl rfl (Nat.le_of_ble_eq_true rfl) ?_
      refine eo_hp [.box 91 [S x3.Who, I x3.From, I x3.To]] rfl ?_
      refine go_ops hΓ 9 rfl ?_
      refine o_cut 5 [(1, I v_at), (6, .ptr 0 0), (7, .d (Sl e_api_Turn l)), (8, I (l.length : Int)), (9, I (i1 : Int)), (22, B ((decide ((x3.From : Int) ≤ v_at)) && (decide ((v_at : Int) < x3.To))))] [.box 91 [S x3.Who, I x3.From, I x3.To]] ?_ ?_
      · refine eo_gsplit rfl rfl (fun hb => ?_) (fun hb => ?_)
        · refine go_ops hΓ 6 rfl ?_
          exact ⟨⟨rfl, rfl, rfl, rfl, rfl, get_b rfl (and_t hb), trivial⟩, [], rfl, .inl rfl⟩
        · refine go_ops hΓ 6 rfl ?_
          exact ⟨⟨rfl, rfl, rfl, rfl, rfl, get_b rfl (and_f hb), trivial⟩, [], rfl, .inl rfl⟩
      · refine go_ops hΓ 2 rfl ?_
        refine j_cond rfl (fun hb => ?_) (fun hb => ?_)
        · have h12 := cT hy9 hb
          refine go hΓ 10 rfl ?_
          obtain ⟨v13, hv13, h14⟩ := bi_ok h12
          obtain rfl := Option.some.inj h14
          obtain rfl := hout10 _ rfl
          obtain rfl := Option.some.inj h5
          refine go hΓ 4 rfl ?_
          obtain rfl := Option.some.inj hv13
          exact fin_pure hΓ (.inr rfl) rfl rfl
        · have h15 := cF hy9 hb
          refine go hΓ 7 rfl ?_
          obtain rfl := Option.some.inj h15
          exact ⟨_, rfl, ⟨⟨rfl, rfl, rfl, get_eq rfl (w64_succ (Nat.lt_of_lt_of_le hlt hb7)), trivial⟩, [_], rfl, .inr ⟨HB.mk rfl, FB.mk rfl, (Nat.le_of_ble_eq_true rfl)⟩⟩⟩
    · subst hgo
      refine go hΓ 6 rfl ?_
      refine j_condF rfl (decide_eq_false (Int.lt_irrefl _)) ?_
      refine go hΓ 4 rfl ?_
      exact ⟨_, rfl, ⟨trivial, [], rfl, .inl rfl⟩⟩
  · intro a6 ha
    subst ha
    replace h5 := goI_l h5
    refine go hΓ 7 rfl ?_
    obtain rfl := Option.some.inj h5
    exact fin_pure hΓ (.inr rfl) rfl rfl
theorem c_laneref1_FirstAt {k : Nat} {v_r : List T_api_Router} {l : List T_api_Health} {p : T_api_Prefix} {v_at : Int} {r : Str} (h : m_laneref1_FirstAt k v_r l p v_at = some r) : Pure Tryz.prog 43 [.d (Sl e_api_Router v_r), .d (Sl e_api_Health l), .agg [B p.Addr.Six, .d (.v (.int .u64 p.Addr.Hi)), .d (.v (.int .u64 p.Addr.Lo)), I p.Bits], I v_at] (S r) := by
  refine Pure.enter (Fr.of 0 _) Tryz.func43 rfl (Fr.of_ok _) rfl rfl ?_
  refine go_in ?_
  unfold m_laneref1_FirstAt at h
  refine go hΓ 2 rfl ?_
  refine eo_box rfl rfl rfl rfl (Nat.le_of_ble_eq_true rfl) ?_
  obtain ⟨y1, hy1, h2⟩ := bi_ok h
  refine go_ops hΓ 8 rfl ?_
  refine eo_callP (callable Tryz.func46 rfl rfl) (Pure.rows (c_laneref1_FirstTurns hy1) rfl rfl) rfl (Nat.le_of_ble_eq_true rfl) rfl rfl rfl rfl rfl ?_
  obtain ⟨y3, hy3, h4⟩ := bi_ok h2
  refine go_ops hΓ 1 rfl ?_
  refine eo_callP (callable Tryz.func98 rfl rfl) (c_laneref1_turnAt hy3) rfl (Nat.le_of_ble_eq_true rfl) rfl rfl rfl rfl rfl ?_
  refine go_ops hΓ 4 rfl ?_
  obtain rfl := Option.some.inj h4
  exact fin_pure hΓ (.inr rfl) rfl rfl
theorem c_slices_Equal_string_string {s1 : List Str} {s2 : List Str} {r : Bool} (h : m_slices_Equal_string_string s1 s2 = some r) : Pure Tryz.prog 22 [.d (Sl eS s1), .d (Sl eS s2)] (B r) := by
  refine Pure.enter (Fr.of 0 _) Tryz.func22 rfl (Fr.of_ok _) rfl rfl ?_
  refine go_in ?_
  unfold m_slices_Equal_string_string at h
  refine go hΓ 15 rfl ?_
  refine j_cond rfl (fun hb => ?_) (fun hb => ?_)
  · have h1 := cT h hb
    refine go hΓ 7 rfl ?_
    obtain rfl := Option.some.inj h1
    exact fin_pure hΓ (.inr rfl) rfl rfl
  · have h2 := cF h hb
    refine go hΓ 10 rfl ?_
    obtain ⟨q6, hq6, h7⟩ := bi_ok h2
    refine j_bound 0 rfl fun hb9 => ?_
    refine j_cutEZ (R := fun a8 => q6 = .go a8) (fun a8 => []) (fun a8 => []) ?_ ?_
    · refine go hΓ 1 rfl ?_
      refine j_range s1 hq6 (fun i3 s4 => [(0, .d (Sl eS s1)), (1, .d (Sl eS s2)), (12, I (s1.length : Int)), (13, I (i3 : Int))]) (fun s4 => []) ⟨⟨rfl, rfl, rfl, rfl, trivial⟩, [], rfl, .inl rfl⟩ (fun i3 x5 s4 y13 hx10 hlt hy11 hout12 => ?_) (fun s4 hgo => ?_)
      · refine go hΓ 6 rfl ?_
        refine j_condT rfl (decide_eq_true (Int.ofNat_lt.2 hlt)) ?_
        refine go hΓ 11 rfl ?_
        refine j_draw hmix (by kernel_rfl) ?_
        refine go hΓ 2 rfl ?_
        refine gl_o rfl (op_elemZ hΓ (enc := eS) (getZ_nat hx10) rfl rfl rfl rfl rfl (fun _ => rfl)) ?_
        obtain ⟨x14, hx14, h15⟩ := bi_ok hy11
        refine go_draw hΓ 3 rfl ?_
        refine gl_o rfl (op_elemZ hΓ (enc := eS) hx14 rfl rfl rfl rfl rfl (fun _ => rfl)) ?_
        refine go_draw hΓ 4 rfl ?_
        refine j_cond rfl (fun hb => ?_) (fun hb => ?_)
        · have h16 := cT h15 hb
          refine go hΓ 8 rfl ?_
          obtain ⟨v17, hv17, h18⟩ := bi_ok h16
          obtain rfl := Option.some.inj h18
          obtain rfl := hout12 _ rfl
          obtain rfl := Option.some.inj h7
          refine go hΓ 4 rfl ?_
          obtain rfl := Option.some.inj hv17
          exact fin_pure hΓ (.inr rfl) rfl rfl
        · have h19 := cF h15 hb
          refine go hΓ 7 rfl ?_
          obtain rfl := Option.some.inj h19
          exact ⟨_, rfl, ⟨⟨rfl, rfl, rfl, get_eq rfl (w64_succ (Nat.lt_of_lt_of_le hlt hb9)), trivial⟩, [], rfl, .inl rfl⟩⟩
      · subst hgo
        refine go hΓ 6 rfl ?_
        refine j_condF rfl (decide_eq_false (Int.lt_irrefl _)) ?_
        refine go hΓ 4 rfl ?_
        exact ⟨_, rfl, ⟨trivial, [], rfl, .inl rfl⟩⟩
    · intro a8 ha
      subst ha
      replace h7 := goI_l h7
      refine go hΓ 7 rfl ?_
      obtain rfl := Option.some.inj h7
      exact fin_pure hΓ (.inr rfl) rfl rfl
theorem c_route_CheckLinks {k : Nat} {l : List T_api_Link} {r : Int} (h : m_route_CheckLinks k l = some r) : Pure Tryz.prog 124 [.d (Sl e_api_Link l)] (I r) := by
  refine Pure.enter (Fr.of 0 _) Tryz.func124 rfl (Fr.of_ok _) rfl rfl ?_
  refine go_in ?_
  unfold m_route_CheckLinks at h
  refine go hΓ 13 rfl ?_
  refine j_cond rfl (fun hb => ?_) (fun hb => ?_)
  · have h1 := cT h hb
    refine go hΓ 7 rfl ?_
    obtain rfl := Option.some.inj h1
    exact fin_pure hΓ (.inr rfl) rfl rfl
  · have h2 := cF h hb
    refine go hΓ 10 rfl ?_
    obtain ⟨q6, hq6, h7⟩ := bi_ok h2
    refine j_bound 0 rfl fun hb9 => ?_
    refine j_cutEZ (R := fun a8 => q6 = .go a8) (fun a8 => []) (fun a8 => []) ?_ ?_
    · refine go hΓ 1 rfl ?_
      refine j_range l hq6 (fun i3 s4 => [(0, .d (Sl e_api_Link l)), (8, .d (Sl e_api_Link l)), (9, I (l.length : Int)), (10, I (i3 : Int))]) (fun s4 => []) ⟨⟨rfl, rfl, rfl, rfl, trivial⟩, [], rfl, .inl rfl⟩ (fun i3 x5 s4 y13 hx10 hlt hy11 hout12 => ?_) (fun s4 hgo => ?_)
      · refine go hΓ 6 rfl ?_
        refine j_condT rfl (decide_eq_true (Int.ofNat_lt.2 hlt)) ?_
        refine go hΓ 7 rfl ?_
        refine eo_o rfl (op_elemZ hΓ (enc := e_api_Link) (getZ_nat hx10) rfl rfl rfl rfl rfl (fun _ => rfl)) ?_
        refine go_ops hΓ 1 rfl ?_
        refine eo_alloc hΓ rfl rfl rfl (Nat.le_of_ble_eq_true rfl) ?_
        refine go_ops hΓ 1 rfl ?_
        refine eo_store hΓ rfl rfl rfl rfl rfl rfl rfl rfl (Nat.le_of_ble_eq_true rfl) ?_
        refine eo_hp [.box 121 [S x5.A, S x5.v_B, I x5.Millis]] rfl ?_
        obtain ⟨y14, hy14, h15⟩ := bi_ok hy11
        refine go_ops hΓ 7 rfl ?_
        refine eo_callP (callable Tryz.func82 rfl rfl) (c_kit_IsKey hy14) rfl (Nat.le_of_ble_eq_true rfl) rfl rfl rfl rfl rfl ?_
        refine go_ops hΓ 2 rfl ?_
        obtain ⟨q16, hq16, h17⟩ := bi_ok h15
        refine o_cut 5 [(0, .d (Sl e_api_Link l)), (3, I (i3 : Int)), (4, .ptr 0 0), (8, .d (Sl e_api_Link l)), (9, I (l.length : Int)), (10, I (i3 : Int)), (25, B q16)] [.box 121 [S x5.A, S x5.v_B, I x5.Millis]] ?_ ?_
        · refine eo_gsplit rfl rfl (fun hb => ?_) (fun hb => ?_)
          · have h18 := cT hq16 hb
            refine go_ops hΓ 6 rfl ?_
            obtain rfl := Option.some.inj h18
            exact ⟨⟨rfl, rfl, rfl, rfl, rfl, rfl, rfl, trivial⟩, [], rfl, .inl rfl⟩
          · have h19 := cF hq16 hb
            obtain ⟨y20, hy20, h21⟩ := bi_ok h19
            refine go_ops hΓ 2 rfl ?_
            refine eo_guard rfl ?_
            refine eo_callP (callable Tryz.func82 rfl rfl) (c_kit_IsKey hy20) rfl (Nat.le_of_ble_eq_true rfl) rfl rfl rfl rfl rfl ?_
            refine go_ops hΓ 3 rfl ?_
            obtain rfl := Option.some.inj h21
            exact ⟨⟨rfl, rfl, rfl, rfl, rfl, rfl, rfl, trivial⟩, [], rfl, .inl rfl⟩
        · refine go_ops hΓ 3 rfl ?_
          refine j_cond rfl (fun hb => ?_) (fun hb => ?_)
          · have h22 := cT h17 hb
            refine go hΓ 9 rfl ?_
            obtain ⟨v23, hv23, h24⟩ := bi_ok h22
            obtain rfl := Option.some.inj h24
            obtain rfl := hout12 _ rfl
            obtain rfl := Option.some.inj h7
            refine go hΓ 4 rfl ?_
            obtain rfl := Option.some.inj hv23
            exact fin_pure hΓ (.inr rfl) rfl rfl
          · have h25 := cF h17 hb
            refine go hΓ 10 rfl ?_
            refine j_cond rfl (fun hb => ?_) (fun hb => ?_)
            · have h26 := cT h25 hb
              refine go hΓ 9 rfl ?_
              obtain ⟨v27, hv27, h28⟩ := bi_ok h26
              obtain rfl := Option.some.inj h28
              obtain rfl := hout12 _ rfl
              obtain rfl := Option.some.inj h7
              refine go hΓ 4 rfl ?_
              obtain rfl := Option.some.inj hv27
              exact fin_pure hΓ (.inr rfl) rfl rfl
            · have h29 := cF h25 hb
              obtain ⟨y30, hy30, h31⟩ := bi_ok h29
              refine go hΓ 4 rfl ?_
              refine eo_callP (callable Tryz.func83 rfl rfl) (c_kit_Outside hy30) rfl (Nat.le_of_ble_eq_true rfl) rfl rfl rfl rfl rfl ?_
              refine go_ops hΓ 3 rfl ?_
              refine j_cond rfl (fun hb => ?_) (fun hb => ?_)
              · have h32 := cT h31 hb
                refine go hΓ 9 rfl ?_
                obtain ⟨v33, hv33, h34⟩ := bi_ok h32
                obtain rfl := Option.some.inj h34
                obtain rfl := hout12 _ rfl
                obtain rfl := Option.some.inj h7
                refine go hΓ 4 rfl ?_
                obtain rfl := Option.some.inj hv33
                exact fin_pure hΓ (.inr rfl) rfl rfl
              · have h35 := cF h31 hb
                obtain ⟨q36, hq36, h37⟩ := bi_ok h35
                refine go hΓ 1 rfl ?_
                refine j_cutNZ [(0, .d (Sl e_api_Link l)), (8, .d (Sl e_api_Link l)), (9, I (l.length : Int)), (10, I (i3 : Int)), (36, B q36)] [.box 121 [S x5.A, S x5.v_B, I x5.Millis]] ?_ ?_
                · refine j_drawE [.box 121 [S x5.A, S x5.v_B, I x5.Millis]] [10, 19] [] [] hmix (by kernel_rfl) (by kernel_rfl) ⟨rfl, trivial⟩ (Nat.le_of_ble_eq_true rfl) ?_
                  refine go_E hΓ 3 rfl ?_
                  refine ge_gsplit rfl rfl (fun hb => ?_) (fun hb => ?_)
                  · have h38 := cT hq36 hb
                    obtain ⟨x39, hx39, h40⟩ := bi_ok h38
                    refine go_E hΓ 3 rfl ?_
                    refine ge_q rfl (.inr ⟨_, _, rfl, rfl⟩) (fun _ _ => qte_of_qt (qt_p (op_elemZ hΓ (enc := e_api_Link) hx39 rfl rfl rfl rfl rfl (fun _ => rfl)))) ?_
                    obtain ⟨y41, hy41, h42⟩ := bi_ok h40
                    refine go_E hΓ 4 rfl ?_
                    refine ge_callPg rfl (callable Tryz.func73 rfl rfl) (c_strings_Compare hy41) rfl rfl rfl rfl rfl rfl ?_
                    obtain ⟨x43, hx43, h44⟩ := bi_ok h42
                    refine go_E hΓ 3 rfl ?_
                    refine ge_q rfl (.inr ⟨_, _, rfl, rfl⟩) (fun _ _ => qte_of_qt (qt_p (op_elemZ hΓ (enc := e_api_Link) hx43 rfl rfl rfl rfl rfl (fun _ => rfl)))) ?_
                    obtain ⟨y45, hy45, h46⟩ := bi_ok h44
                    refine go_E hΓ 4 rfl ?_
                    refine ge_callPg rfl (callable Tryz.func73 rfl rfl) (c_strings_Compare hy45) rfl rfl rfl rfl rfl rfl ?_
                    refine ge_litTg hΓ (enc := (eN .i64)) [y41, y45] rfl rfl rfl rfl rfl rfl rfl rfl rfl rfl rfl rfl rfl ?_
                    obtain ⟨y47, hy47, h48⟩ := bi_ok h46
                    refine ge_callPg rfl (callable Tryz.func71 rfl rfl) (c_cmp_Or_int hy47) rfl rfl rfl rfl rfl rfl ?_
                    refine go_E hΓ 3 rfl ?_
                    refine ge_fin ?_
                    obtain rfl := Option.some.inj h48
                    exact ⟨⟨rfl, rfl, rfl, rfl, rfl, trivial⟩, [], rfl, .inl rfl⟩
                  · have h49 := cF hq36 hb
                    refine go_E hΓ 23 rfl ?_
                    refine ge_fin ?_
                    obtain rfl := Option.some.inj h49
                    exact ⟨⟨rfl, rfl, rfl, rfl, rfl, trivial⟩, [], rfl, .inl rfl⟩
                · refine go hΓ 1 rfl ?_
                  refine j_cond rfl (fun hb => ?_) (fun hb => ?_)
                  · have h50 := cT h37 hb
                    refine go hΓ 9 rfl ?_
                    obtain ⟨v51, hv51, h52⟩ := bi_ok h50
                    obtain rfl := Option.some.inj h52
                    obtain rfl := hout12 _ rfl
                    obtain rfl := Option.some.inj h7
                    refine go hΓ 4 rfl ?_
                    obtain rfl := Option.some.inj hv51
                    exact fin_pure hΓ (.inr rfl) rfl rfl
                  · have h53 := cF h37 hb
                    refine go hΓ 8 rfl ?_
                    obtain rfl := Option.some.inj h53
                    exact ⟨_, rfl, ⟨⟨rfl, rfl, rfl, get_eq rfl (w64_succ (Nat.lt_of_lt_of_le hlt hb9)), trivial⟩, [_], rfl, .inr ⟨HB.mk rfl, FB.mk rfl, (Nat.le_of_ble_eq_true rfl)⟩⟩⟩
      · subst hgo
        refine go hΓ 6 rfl ?_
        refine j_condF rfl (decide_eq_false (Int.lt_irrefl _)) ?_
        refine go hΓ 4 rfl ?_
        exact ⟨_, rfl, ⟨trivial, [], rfl, .inl rfl⟩⟩
    · intro a8 ha
      subst ha
      replace h7 := goI_l h7
      refine go hΓ 7 rfl ?_
      obtain rfl := Option.some.inj h7
      exact fin_pure hΓ (.inr rfl) rfl rfl
theorem c_route_stepsOf {l : List T_api_Link} {r : List (Str × (List T_route_step))} (h : m_route_stepsOf l = some r) : EC Tryz.prog 151 [.d (Sl e_api_Link l)] [] fun g hp' => g = .map 0 ∧ hp' = [mOb kS false (eL e_route_step) r] := by
  refine ec_enterC (Fr.of 0 _) Tryz.func151 rfl (Fr.of_ok _) (Nat.le_of_ble_eq_true rfl) fun _ => ?_
  refine go_in ?_
  unfold m_route_stepsOf at h
  refine go hΓ 7 rfl ?_
  refine eo_s (Nat.le_of_ble_eq_true rfl) (nblt.1 rfl) (ops_makeMap false) ?_
  refine eo_hp [mOb kS false (eL e_route_step) ([] : List (Str × (List T_route_step)))] rfl ?_
  refine go_ops hΓ 11 rfl ?_
  obtain ⟨q4, hq4, h5⟩ := bi_ok h
  refine j_bound 7 rfl fun hb7 => ?_
  refine j_cutNZ [(3, .map 0)] [mOb kS false (eL e_route_step) q4] ?_ ?_
  · refine go hΓ 1 rfl ?_
    refine j_rangeF l hq4 (fun i1 s2 => [(3, .map 0), (7, .d (Sl e_api_Link l)), (8, I (l.length : Int)), (9, I (i1 : Int))]) (fun s2 => [mOb kS false (eL e_route_step) s2]) ⟨⟨rfl, rfl, rfl, rfl, trivial⟩, [], rfl, .inl rfl⟩ (fun i1 x3 s2 y11 hx8 hlt hy9 => ?_) (?_)
    · refine go hΓ 6 rfl ?_
      refine j_condT rfl (decide_eq_true (Int.ofNat_lt.2 hlt)) ?_
      refine go hΓ 6 rfl ?_
      refine eo_o rfl (op_elemZ hΓ (enc := e_api_Link) (getZ_nat hx8) rfl rfl rfl rfl rfl (fun _ => rfl)) ?_
      refine go_ops hΓ 1 rfl ?_
      refine eo_alloc hΓ rfl rfl rfl (Nat.le_of_ble_eq_true rfl) ?_
      refine eo_store hΓ rfl rfl rfl rfl rfl rfl rfl rfl (Nat.le_of_ble_eq_true rfl) ?_
      refine eo_hp [mOb kS false (eL e_route_step) s2, .box 121 [S x3.A, S x3.v_B, I x3.Millis]] rfl ?_
      refine go_ops hΓ 3 rfl ?_
      refine j_drawE [.dead, .box 121 [S x3.A, S x3.v_B, I x3.Millis]] [2, 5, 8, 10] [6, 13, 14] [] hmix (by kernel_rfl) (by kernel_rfl) ⟨rfl, trivial⟩ (Nat.le_of_ble_eq_true rfl) ?_
      obtain ⟨hg13, h12⟩ := gd_ok hy9
      refine go_E hΓ 6 rfl ?_
      refine ge_h [mOb kS false (eL e_route_step) s2, .box 121 [S x3.A, S x3.v_B, I x3.Millis], .row 195 2 ([] : List T_route_step).length (([] : List T_route_step).flatMap e_route_step)] rfl rfl rfl (st_st ⟨rfl, trivial⟩) (qte_s (ops_nilV 195 2 (op_lookupNil hΓ (kv := kS) (agg := false) (enc := (eL e_route_step)) s2 x3.A rfl rfl rfl rfl key_str rfl rfl rfl rfl hg13))) ?_
      refine go_E hΓ 4 rfl ?_
      refine ge_q rfl (.inl rfl) (fun _ _ => qte_of_qt (qt_p (op_build hΓ (gs := [S x3.v_B, I x3.Millis]) rfl rfl rfl rfl rfl rfl))) ?_
      refine ge_litT hΓ (enc := e_route_step) [(⟨x3.v_B, x3.Millis⟩ : T_route_step)] rfl rfl rfl rfl rfl rfl rfl rfl rfl rfl rfl rfl ?_
      obtain ⟨y14, hy14, h15⟩ := bi_ok h12
      refine ge_h [mOb kS false (eL e_route_step) s2, .box 121 [S x3.A, S x3.v_B, I x3.Millis], .dead, .row 195 2 y14.length (y14.flatMap e_route_step)] rfl rfl rfl (st_st ⟨rfl, trivial⟩) (qte_s (ops_appendT hΓ (enc := e_route_step) (id := 2) (h2 := show Γ 195 = some ⟨_, 2, _, _⟩ from rfl) hy14 rfl rfl rfl rfl rfl rfl rfl rfl (fun _ => rfl) rfl)) ?_
      refine ge_h0 [mOb kS false (eL e_route_step) (mSet s2 x3.A y14), .box 121 [S x3.A, S x3.v_B, I x3.Millis], .dead, .dead] rfl rfl (st_st ⟨rfl, trivial⟩) (qte_u (opu_pre (gh_shr 3 [26] rfl) (opu_mapUpdate hΓ (kv := kS) (agg := false) (enc := (eL e_route_step)) (id := 0) s2 x3.A y14 rfl rfl rfl key_str rfl rfl rfl rfl rfl) (Nat.le_of_ble_eq_true rfl))) ?_
      refine ge_fin ?_
      refine go hΓ 1 rfl ?_
      refine j_drawE [.dead, .box 121 [S x3.A, S x3.v_B, I x3.Millis]] [2, 5, 8, 10] [6, 13, 14] [] hmix (by kernel_rfl) (by kernel_rfl) ⟨rfl, trivial⟩ (Nat.le_of_ble_eq_true rfl) ?_
      obtain ⟨hg17, h16⟩ := gd_ok h15
      refine go_E hΓ 6 rfl ?_
      refine ge_h [mOb kS false (eL e_route_step) (mSet s2 x3.A y14), .box 121 [S x3.A, S x3.v_B, I x3.Millis], .dead, .dead, .row 195 2 ([] : List T_route_step).length (([] : List T_route_step).flatMap e_route_step)] rfl rfl rfl (st_st ⟨rfl, trivial⟩) (qte_s (ops_nilV 195 2 (op_lookupNil hΓ (kv := kS) (agg := false) (enc := (eL e_route_step)) (mSet s2 x3.A y14) x3.v_B rfl rfl rfl rfl key_str rfl rfl rfl rfl hg17))) ?_
      refine go_E hΓ 4 rfl ?_
      refine ge_q rfl (.inl rfl) (fun _ _ => qte_of_qt (qt_p (op_build hΓ (gs := [S x3.A, I x3.Millis]) rfl rfl rfl rfl rfl rfl))) ?_
      refine ge_litT hΓ (enc := e_route_step) [(⟨x3.A, x3.Millis⟩ : T_route_step)] rfl rfl rfl rfl rfl rfl rfl rfl rfl rfl rfl rfl ?_
      obtain ⟨y18, hy18, h19⟩ := bi_ok h16
      refine ge_h [mOb kS false (eL e_route_step) (mSet s2 x3.A y14), .box 121 [S x3.A, S x3.v_B, I x3.Millis], .dead, .dead, .dead, .row 195 2 y18.length (y18.flatMap e_route_step)] rfl rfl rfl (st_st ⟨rfl, trivial⟩) (qte_s (ops_appendT hΓ (enc := e_route_step) (id := 4) (h2 := show Γ 195 = some ⟨_, 2, _, _⟩ from rfl) hy18 rfl rfl rfl rfl rfl rfl rfl rfl (fun _ => rfl) rfl)) ?_
      refine ge_h0 [mOb kS false (eL e_route_step) (mSet (mSet s2 x3.A y14) x3.v_B y18), .box 121 [S x3.A, S x3.v_B, I x3.Millis], .dead, .dead, .dead, .dead] rfl rfl (st_st ⟨rfl, trivial⟩) (qte_u (opu_pre (gh_shr 5 [40] rfl) (opu_mapUpdate hΓ (kv := kS) (agg := false) (enc := (eL e_route_step)) (id := 0) (mSet s2 x3.A y14) x3.v_B y18 rfl rfl rfl key_str rfl rfl rfl rfl rfl) (Nat.le_of_ble_eq_true rfl))) ?_
      refine ge_fin ?_
      refine go hΓ 2 rfl ?_
      refine go hΓ 4 rfl ?_
      obtain rfl := Option.some.inj h19
      exact ⟨⟨rfl, rfl, rfl, get_eq rfl (w64_succ (Nat.lt_of_lt_of_le hlt hb7)), trivial⟩, [_, _, _, _, _], rfl, .inr ⟨HB.mk rfl, FB.mk rfl, (Nat.le_of_ble_eq_true rfl)⟩⟩
    · refine go hΓ 6 rfl ?_
      refine j_condF rfl (decide_eq_false (Int.lt_irrefl _)) ?_
      refine go hΓ 4 rfl ?_
      exact ⟨⟨rfl, trivial⟩, [], rfl, .inl rfl⟩
  · refine go hΓ 8 rfl ?_
    refine cv_here ?_
    obtain rfl := Option.some.inj h5
    exact fin_objs hΓ [] (.inr rfl) rfl rfl rfl rfl (.inl rfl)
theorem c_route_far_less {a : T_route_far} {b : T_route_far} {r : Bool} (h : m_route_far_less a b = some r) : Pure Tryz.prog 183 [.agg [I a.millis, I a.links], .agg [I b.millis, I b.links]] (B r) := by
  refine Pure.enter (Fr.of 0 _) Tryz.func183 rfl (Fr.of_ok _) rfl rfl ?_
  refine go_in ?_
  unfold m_route_far_less at h
  refine go hΓ 2 rfl ?_
  refine eo_box rfl rfl rfl rfl (Nat.le_of_ble_eq_true rfl) ?_
  refine eo_box rfl rfl rfl rfl (Nat.le_of_ble_eq_true rfl) ?_
  refine go_ops hΓ 11 rfl ?_
  refine o_cut 13 [(4, B false), (23, B ((decide ((a.millis : Int) < b.millis)) || (((a.millis : Int) == b.millis) && (decide ((a.links : Int) < b.links)))))] [.box 191 [I a.millis, I a.links], .box 191 [I b.millis, I b.links]] ?_ ?_
  · refine eo_gsplit rfl rfl (fun hb => ?_) (fun hb => ?_)
    · refine go_ops hΓ 14 rfl ?_
      exact ⟨⟨rfl, get_b rfl (or_t hb), trivial⟩, [], rfl, .inl rfl⟩
    · refine go_ops hΓ 6 rfl ?_
      refine o_cut 6 [(4, B false), (10, B false), (22, B (((a.millis : Int) == b.millis) && (decide ((a.links : Int) < b.links))))] [.box 191 [I a.millis, I a.links], .box 191 [I b.millis, I b.links]] ?_ ?_
      · refine eo_gsplit rfl rfl (fun hb => ?_) (fun hb => ?_)
        · refine go_ops hΓ 7 rfl ?_
          exact ⟨⟨rfl, rfl, get_b rfl (and_t hb), trivial⟩, [], rfl, .inl rfl⟩
        · refine go_ops hΓ 7 rfl ?_
          exact ⟨⟨rfl, rfl, get_b rfl (and_f hb), trivial⟩, [], rfl, .inl rfl⟩
      · refine go_ops hΓ 2 rfl ?_
        exact ⟨⟨rfl, get_b rfl (or_f hb), trivial⟩, [], rfl, .inl rfl⟩
  · refine go_ops hΓ 4 rfl ?_
    obtain rfl := Option.some.inj h
    exact fin_pure hΓ (.inr rfl) rfl rfl
set_option maxHeartbeats 8000000 in
theorem c_route_distances {k : Nat} {steps : List (Str × (List T_route_step))} {v_from : Str} {r : List (Str × T_route_far)} (h : m_route_distances k steps v_from = some r) : EC Tryz.prog 152 [.map 0, S v_from] [mOb kS false (eL e_route_step) steps] fun g hp' => g = .map 1 ∧ hp' = [mOb kS false (eL e_route_step) steps, mOb kS true e_route_far r] := by
  refine ec_enterC (Fr.of 0 _) Tryz.func152 rfl (Fr.of_ok _) (Nat.le_of_ble_eq_true rfl) fun _ => ?_
  refine go_in ?_
  unfold m_route_distances at h
  refine go hΓ 7 rfl ?_
  refine eo_s (Nat.le_of_ble_eq_true rfl) (nblt.1 rfl) (ops_makeMap true) ?_
  refine eo_hp [mOb kS false (eL e_route_step) steps, mOb kS true e_route_far ([] : List (Str × T_route_far))] rfl ?_
  refine go_ops hΓ 1 rfl ?_
  refine eo_build hΓ (gs := [I 0, I 0]) rfl rfl rfl rfl rfl rfl rfl ?_
  refine eo_u (Nat.le_of_ble_eq_true rfl) (opu_insert hΓ (kv := kS) (agg := true) (enc := e_route_far) (id := 1) ([] : List (Str × T_route_far)) v_from (⟨0, 0⟩ : T_route_far) rfl rfl rfl key_str rfl rfl rfl rfl rfl) ?_
  refine eo_hp [mOb kS false (eL e_route_step) steps, mOb kS true e_route_far (mSet ([] : List (Str × T_route_far)) v_from (⟨0, 0⟩ : T_route_far))] rfl ?_
  refine go_ops hΓ 6 rfl ?_
  refine eo_s (Nat.le_of_ble_eq_true rfl) (nblt.1 rfl) (ops_makeMap false) ?_
  refine eo_hp [mOb kS false (eL e_route_step) steps, mOb kS true e_route_far (mSet ([] : List (Str × T_route_far)) v_from (⟨0, 0⟩ : T_route_far)), mOb kS false eB ([] : List (Str × Bool))] rfl ?_
  refine go_ops hΓ 3 rfl ?_
  obtain ⟨q4, hq4, h5⟩ := bi_ok h
  refine go hΓ 1 rfl ?_
  refine j_loop hq4 (fun s2 => [(0, .map 0), (5, .map 1), (6, .map 2)]) (fun s2 => [mOb kS false (eL e_route_step) steps, mOb kS true e_route_far s2.1, mOb kS false eB s2.2]) ⟨⟨rfl, rfl, rfl, trivial⟩, [], rfl, .inl rfl⟩ (fun s2 y10 hy8 hout9 => ?_)
  refine go hΓ 11 rfl ?_
  refine eo_range hΓ (kv := kS) (agg := true) (enc := e_route_far) s2.1 rfl rfl rfl rfl rfl (Nat.le_of_ble_eq_true rfl) (fun mr11 bs12 cl13 hpm14 hbl15 hbn16 => ?_)
  refine eo_hp [mOb kS false (eL e_route_step) steps, mObS kS true e_route_far s2.1 (rawM kS e_route_far mr11 bs12 cl13), mOb kS false eB s2.2, .iter 1 cl13 []] rfl ?_
  refine go_ops hΓ 2 rfl ?_
  obtain ⟨q22, hq22, h23⟩ := bi_ok hy8
  refine go hΓ 1 rfl ?_
  refine j_rangeP hq22 hpm14 hbl15 hbn16 (fun s17 => [(0, .map 0), (5, .map 1), (6, .map 2), (7, S s17.1), (8, B s17.2), (22, .ptr 3 0)]) (fun sn19 s17 => [mOb kS false (eL e_route_step) steps, mObS kS true e_route_far s2.1 (rawM kS e_route_far mr11 bs12 cl13), mOb kS false eB s2.2, .iter 1 cl13 sn19]) ⟨⟨rfl, rfl, rfl, rfl, rfl, rfl, trivial⟩, [], rfl, .inl rfl⟩ (fun sn19 s17 hdone24 hstep25 => ?_)
  refine go hΓ 2 rfl ?_
  refine eo_next (kv := kS) (agg := true) (enc := e_route_far) s2.1 mr11 bs12 cl13 sn19 [mOb kS false (eL e_route_step) steps, mOb kS true e_route_far s2.1, mOb kS false eB s2.2, .dead] rfl rfl rfl rfl rfl (Nat.le_of_ble_eq_true rfl) (fun hdsn19 => ?_) (fun j20 x18 b21 hjsn19 hbsn19 hnsn19 => ?_)
  · have hqsn19 := hdone24 hdsn19
    subst hqsn19
    refine go_ops hΓ 17 rfl ?_
    refine j_cond rfl (fun hb => ?_) (fun hb => ?_)
    · have h26 := cT h23 hb
      refine go hΓ 9 rfl ?_
      obtain ⟨v27, hv27, h28⟩ := bi_ok h26
      obtain rfl := Option.some.inj h28
      obtain rfl := hout9 _ rfl
      obtain rfl := Option.some.inj h5
      refine go hΓ 2 rfl ?_
      refine cv_here ?_
      obtain rfl := Option.some.inj hv27
      exact fin_objs hΓ [_, _] (.inr rfl) rfl rfl rfl rfl (.inr ⟨HB.mk rfl, rfl⟩)
    · have h29 := cF h23 hb
      refine go hΓ 6 rfl ?_
      refine eo_u (Nat.le_of_ble_eq_true rfl) (opu_mapUpdate hΓ (kv := kS) (agg := false) (enc := eB) (id := 2) s2.2 q22.1 true rfl rfl rfl key_str rfl rfl rfl rfl rfl) ?_
      refine eo_hp [mOb kS false (eL e_route_step) steps, mOb kS true e_route_far s2.1, mOb kS false eB (mSet s2.2 q22.1 true), .dead] rfl ?_
      refine go_ops hΓ 6 rfl ?_
      refine eo_o rfl (op_lookup hΓ (kv := kS) (agg := false) (enc := (eL e_route_step)) steps q22.1 ([] : List T_route_step) rfl rfl rfl rfl key_str rfl rfl rfl rfl rfl rfl rfl) ?_
      refine go_ops hΓ 4 rfl ?_
      obtain ⟨q33, hq33, h34⟩ := bi_ok h29
      refine j_bound 51 rfl fun hb36 => ?_
      refine j_cutNZ [(0, .map 0), (5, .map 1), (6, .map 2)] [mOb kS false (eL e_route_step) steps, mOb kS true e_route_far q33, mOb kS false eB (mSet s2.2 q22.1 true), .dead] ?_ ?_
      · refine go hΓ 1 rfl ?_
        refine j_rangeF ((mGet steps q22.1).getD []) hq33 (fun i30 s31 => [(0, .map 0), (5, .map 1), (6, .map 2), (7, S q22.1), (51, .d (Sl e_route_step ((mGet steps q22.1).getD []))), (52, I (((mGet steps q22.1).getD []).length : Int)), (53, I (i30 : Int))]) (fun s31 => [mOb kS false (eL e_route_step) steps, mOb kS true e_route_far s31, mOb kS false eB (mSet s2.2 q22.1 true), .dead]) ⟨⟨rfl, rfl, rfl, rfl, rfl, rfl, rfl, trivial⟩, [], rfl, .inl rfl⟩ (fun i30 x32 s31 y40 hx37 hlt hy38 => ?_) (?_)
        · refine go hΓ 6 rfl ?_
          refine j_condT rfl (decide_eq_true (Int.ofNat_lt.2 hlt)) ?_
          refine go hΓ 6 rfl ?_
          refine eo_o rfl (op_elemZ hΓ (enc := e_route_step) (getZ_nat hx37) rfl rfl rfl rfl rfl (fun _ => rfl)) ?_
          refine go_ops hΓ 1 rfl ?_
          refine eo_alloc hΓ rfl rfl rfl (Nat.le_of_ble_eq_true rfl) ?_
          refine eo_store hΓ rfl rfl rfl rfl rfl rfl rfl rfl (Nat.le_of_ble_eq_true rfl) ?_
          refine eo_hp [mOb kS false (eL e_route_step) steps, mOb kS true e_route_far s31, mOb kS false eB (mSet s2.2 q22.1 true), .dead, .box 195 [S x32.v_to, I x32.millis]] rfl ?_
          refine go_ops hΓ 6 rfl ?_
          refine eo_o rfl (op_lookup hΓ (kv := kS) (agg := true) (enc := e_route_far) s31 q22.1 ((⟨0, 0⟩ : T_route_far) : T_route_far) rfl rfl rfl rfl key_str rfl rfl rfl rfl rfl rfl rfl) ?_
          refine go_ops hΓ 6 rfl ?_
          refine eo_o rfl (op_lookup hΓ (kv := kS) (agg := true) (enc := e_route_far) s31 q22.1 ((⟨0, 0⟩ : T_route_far) : T_route_far) rfl rfl rfl rfl key_str rfl rfl rfl rfl rfl rfl rfl) ?_
          refine go_ops hΓ 2 rfl ?_
          refine eo_build hΓ (gs := [I (wi ((((mGet s31 q22.1).getD (⟨0, 0⟩ : T_route_far)).millis) + x32.millis)), I (wi ((((mGet s31 q22.1).getD (⟨0, 0⟩ : T_route_far)).links) + 1))]) rfl rfl rfl rfl rfl rfl rfl ?_
          refine eo_alloc hΓ rfl rfl rfl (Nat.le_of_ble_eq_true rfl) ?_
          refine eo_store hΓ rfl rfl rfl rfl rfl rfl rfl rfl (Nat.le_of_ble_eq_true rfl) ?_
          refine eo_hp [mOb kS false (eL e_route_step) steps, mOb kS true e_route_far s31, mOb kS false eB (mSet s2.2 q22.1 true), .dead, .box 195 [S x32.v_to, I x32.millis], .box 191 [I (wi ((((mGet s31 q22.1).getD (⟨0, 0⟩ : T_route_far)).millis) + x32.millis)), I (wi ((((mGet s31 q22.1).getD (⟨0, 0⟩ : T_route_far)).links) + 1))]] rfl ?_
          refine go_ops hΓ 7 rfl ?_
          refine eo_o rfl (op_lookupOk hΓ (kv := kS) (agg := true) (enc := e_route_far) s31 x32.v_to ((⟨0, 0⟩ : T_route_far) : T_route_far) rfl rfl rfl rfl key_str rfl rfl rfl rfl rfl rfl rfl) ?_
          refine go_ops hΓ 3 rfl ?_
          refine eo_alloc hΓ rfl rfl rfl (Nat.le_of_ble_eq_true rfl) ?_
          refine eo_store hΓ rfl rfl rfl rfl rfl rfl rfl rfl (Nat.le_of_ble_eq_true rfl) ?_
          refine eo_hp [mOb kS false (eL e_route_step) steps, mOb kS true e_route_far s31, mOb kS false eB (mSet s2.2 q22.1 true), .dead, .box 195 [S x32.v_to, I x32.millis], .box 191 [I (wi ((((mGet s31 q22.1).getD (⟨0, 0⟩ : T_route_far)).millis) + x32.millis)), I (wi ((((mGet s31 q22.1).getD (⟨0, 0⟩ : T_route_far)).links) + 1))], .box 191 [I (((mGet s31 x32.v_to).getD (⟨0, 0⟩ : T_route_far)).millis), I (((mGet s31 x32.v_to).getD (⟨0, 0⟩ : T_route_far)).links)]] rfl ?_
          refine go_ops hΓ 8 rfl ?_
          obtain ⟨q41, hq41, h42⟩ := bi_ok hy38
          refine o_cut 4 [(0, .map 0), (5, .map 1), (6, .map 2), (7, S q22.1), (12, .ptr 4 0), (13, .ptr 5 0), (51, .d (Sl e_route_step ((mGet steps q22.1).getD []))), (52, I (((mGet steps q22.1).getD []).length : Int)), (53, I (i30 : Int)), (83, B q41)] [mOb kS false (eL e_route_step) steps, mOb kS true e_route_far s31, mOb kS false eB (mSet s2.2 q22.1 true), .dead, .box 195 [S x32.v_to, I x32.millis], .box 191 [I (wi ((((mGet s31 q22.1).getD (⟨0, 0⟩ : T_route_far)).millis) + x32.millis)), I (wi ((((mGet s31 q22.1).getD (⟨0, 0⟩ : T_route_far)).links) + 1))], .box 191 [I (((mGet s31 x32.v_to).getD (⟨0, 0⟩ : T_route_far)).millis), I (((mGet s31 x32.v_to).getD (⟨0, 0⟩ : T_route_far)).links)]] ?_ ?_
          · refine eo_gsplit rfl rfl (fun hb => ?_) (fun hb => ?_)
            · have h43 := cT hq41 hb
              refine go_ops hΓ 5 rfl ?_
              obtain rfl := Option.some.inj h43
              exact ⟨⟨rfl, rfl, rfl, rfl, rfl, rfl, rfl, rfl, rfl, rfl, trivial⟩, [], rfl, .inl rfl⟩
            · have h44 := cF hq41 hb
              obtain ⟨y45, hy45, h46⟩ := bi_ok h44
              refine go_ops hΓ 2 rfl ?_
              refine eo_guard rfl ?_
              refine eo_callP (callable Tryz.func183 rfl rfl) (c_route_far_less hy45) rfl (Nat.le_of_ble_eq_true rfl) rfl rfl rfl rfl rfl ?_
              refine go_ops hΓ 2 rfl ?_
              obtain rfl := Option.some.inj h46
              exact ⟨⟨rfl, rfl, rfl, rfl, rfl, rfl, rfl, rfl, rfl, rfl, trivial⟩, [], rfl, .inl rfl⟩
          · refine go_ops hΓ 2 rfl ?_
            refine j_cond rfl (fun hb => ?_) (fun hb => ?_)
            · have h47 := cT h42 hb
              refine go hΓ 5 rfl ?_
              refine eo_u (Nat.le_of_ble_eq_true rfl) (opu_mapUpdate hΓ (kv := kS) (agg := true) (enc := e_route_far) (id := 1) s31 x32.v_to (⟨wi ((((mGet s31 q22.1).getD (⟨0, 0⟩ : T_route_far)).millis) + x32.millis), wi ((((mGet s31 q22.1).getD (⟨0, 0⟩ : T_route_far)).links) + 1)⟩ : T_route_far) rfl rfl rfl key_str rfl rfl rfl rfl rfl) ?_
              refine eo_hp [mOb kS false (eL e_route_step) steps, mOb kS true e_route_far (mSet s31 x32.v_to (⟨wi ((((mGet s31 q22.1).getD (⟨0, 0⟩ : T_route_far)).millis) + x32.millis), wi ((((mGet s31 q22.1).getD (⟨0, 0⟩ : T_route_far)).links) + 1)⟩ : T_route_far)), mOb kS false eB (mSet s2.2 q22.1 true), .dead, .box 195 [S x32.v_to, I x32.millis], .box 191 [I (wi ((((mGet s31 q22.1).getD (⟨0, 0⟩ : T_route_far)).millis) + x32.millis)), I (wi ((((mGet s31 q22.1).getD (⟨0, 0⟩ : T_route_far)).links) + 1))], .box 191 [I (((mGet s31 x32.v_to).getD (⟨0, 0⟩ : T_route_far)).millis), I (((mGet s31 x32.v_to).getD (⟨0, 0⟩ : T_route_far)).links)]] rfl ?_
              refine go_ops hΓ 7 rfl ?_
              obtain rfl := Option.some.inj h47
              exact ⟨⟨rfl, rfl, rfl, rfl, rfl, rfl, get_eq rfl (w64_succ (Nat.lt_of_lt_of_le hlt hb36)), trivial⟩, [_, _, _], rfl, .inr ⟨HB.mk rfl, FB.mk rfl, (Nat.le_of_ble_eq_true rfl)⟩⟩
            · have h48 := cF h42 hb
              refine go hΓ 7 rfl ?_
              obtain rfl := Option.some.inj h48
              exact ⟨⟨rfl, rfl, rfl, rfl, rfl, rfl, get_eq rfl (w64_succ (Nat.lt_of_lt_of_le hlt hb36)), trivial⟩, [_, _, _], rfl, .inr ⟨HB.mk rfl, FB.mk rfl, (Nat.le_of_ble_eq_true rfl)⟩⟩
        · refine go hΓ 6 rfl ?_
          refine j_condF rfl (decide_eq_false (Int.lt_irrefl _)) ?_
          refine go hΓ 4 rfl ?_
          exact ⟨⟨rfl, rfl, rfl, trivial⟩, [], rfl, .inl rfl⟩
      · refine go hΓ 1 rfl ?_
        obtain rfl := Option.some.inj h34
        exact ⟨_, rfl, ⟨⟨rfl, rfl, rfl, trivial⟩, [_], rfl, .inr ⟨HB.mk rfl, FB.mk rfl, (Nat.le_of_ble_eq_true rfl)⟩⟩⟩
  · obtain ⟨s49, h50⟩ := hstep25 j20 x18 b21 hjsn19 hbsn19 hnsn19
    have hssn19 := h50
    refine go_ops hΓ 10 rfl ?_
    refine eo_o rfl (op_entry (kv := kS) (agg := true) (enc := e_route_far) s2.1 mr11 bs12 cl13 sn19 hjsn19 hbsn19 rfl rfl rfl rfl (fun _ => rfl)) ?_
    refine go_ops hΓ 2 rfl ?_
    refine eo_alloc hΓ rfl rfl rfl (Nat.le_of_ble_eq_true rfl) ?_
    refine go_ops hΓ 1 rfl ?_
    refine eo_store hΓ rfl rfl rfl rfl rfl rfl rfl rfl (Nat.le_of_ble_eq_true rfl) ?_
    refine eo_hp [mOb kS false (eL e_route_step) steps, mObS kS true e_route_far s2.1 (rawM kS e_route_far mr11 bs12 cl13), mOb kS false eB s2.2, .iter 1 cl13 (sn19 ++ [b21]), .box 191 [I x18.2.millis, I x18.2.links]] rfl ?_
    refine go_ops hΓ 6 rfl ?_
    refine eo_o rfl (op_lookup hΓ (kv := kS) (agg := false) (enc := eB) s2.2 x18.1 (false : Bool) rfl rfl rfl rfl key_str rfl rfl rfl rfl rfl rfl rfl) ?_
    refine go_ops hΓ 2 rfl ?_
    obtain ⟨q51, hq51, h52⟩ := bi_ok h50
    refine o_cut 10 [(0, .map 0), (5, .map 1), (6, .map 2), (7, S s17.1), (8, B s17.2), (9, S x18.1), (22, .ptr 3 0), (42, B q51)] [mOb kS false (eL e_route_step) steps, mObS kS true e_route_far s2.1 (rawM kS e_route_far mr11 bs12 cl13), mOb kS false eB s2.2, .iter 1 cl13 (sn19 ++ [b21]), .box 191 [I x18.2.millis, I x18.2.links]] ?_ ?_
    · refine eo_gsplit rfl rfl (fun hb => ?_) (fun hb => ?_)
      · have h53 := cT hq51 hb
        refine go_ops hΓ 3 rfl ?_
        obtain ⟨q54, hq54, h55⟩ := bi_ok h53
        refine o_cut 6 [(0, .map 0), (5, .map 1), (6, .map 2), (7, S s17.1), (8, B s17.2), (9, S x18.1), (22, .ptr 3 0), (32, B true), (41, B q54)] [mOb kS false (eL e_route_step) steps, mObS kS true e_route_far s2.1 (rawM kS e_route_far mr11 bs12 cl13), mOb kS false eB s2.2, .iter 1 cl13 (sn19 ++ [b21]), .box 191 [I x18.2.millis, I x18.2.links]] ?_ ?_
        · refine eo_gsplit rfl rfl (fun hb => ?_) (fun hb => ?_)
          · have h56 := cT hq54 hb
            refine go_ops hΓ 7 rfl ?_
            obtain rfl := Option.some.inj h56
            exact ⟨⟨rfl, rfl, rfl, rfl, rfl, rfl, rfl, rfl, rfl, trivial⟩, [], rfl, .inl rfl⟩
          · have h57 := cF hq54 hb
            refine go_ops hΓ 3 rfl ?_
            refine eo_guard rfl ?_
            refine eo_o rfl (op_lookup hΓ (kv := kS) (agg := true) (enc := e_route_far) s2.1 s17.1 ((⟨0, 0⟩ : T_route_far) : T_route_far) rfl rfl rfl rfl key_str rfl rfl rfl rfl rfl rfl rfl) ?_
            obtain ⟨y58, hy58, h59⟩ := bi_ok h57
            refine eo_guard rfl ?_
            refine eo_callP (callable Tryz.func183 rfl rfl) (c_route_far_less hy58) rfl (Nat.le_of_ble_eq_true rfl) rfl rfl rfl rfl rfl ?_
            refine go_ops hΓ 2 rfl ?_
            obtain rfl := Option.some.inj h59
            exact ⟨⟨rfl, rfl, rfl, rfl, rfl, rfl, rfl, rfl, rfl, trivial⟩, [], rfl, .inl rfl⟩
        · refine go_ops hΓ 2 rfl ?_
          obtain rfl := Option.some.inj h55
          exact ⟨⟨rfl, rfl, rfl, rfl, rfl, rfl, rfl, rfl, trivial⟩, [], rfl, .inl rfl⟩
      · have h60 := cF hq51 hb
        refine go_ops hΓ 11 rfl ?_
        obtain rfl := Option.some.inj h60
        exact ⟨⟨rfl, rfl, rfl, rfl, rfl, rfl, rfl, rfl, trivial⟩, [], rfl, .inl rfl⟩
    · refine go_ops hΓ 2 rfl ?_
      refine j_cond rfl (fun hb => ?_) (fun hb => ?_)
      · have h61 := cT h52 hb
        refine go hΓ 6 rfl ?_
        obtain rfl := Option.some.inj h61
        exact ⟨j20, x18, b21, _, hjsn19, hbsn19, hnsn19, hssn19, ⟨⟨rfl, rfl, rfl, rfl, rfl, rfl, trivial⟩, [_], rfl, .inr ⟨HB.mk rfl, FB.mk rfl, (Nat.le_of_ble_eq_true rfl)⟩⟩⟩
      · have h62 := cF h52 hb
        refine go hΓ 2 rfl ?_
        obtain rfl := Option.some.inj h62
        exact ⟨j20, x18, b21, _, hjsn19, hbsn19, hnsn19, hssn19, ⟨⟨rfl, rfl, rfl, rfl, rfl, rfl, trivial⟩, [_], rfl, .inr ⟨HB.mk rfl, FB.mk rfl, (Nat.le_of_ble_eq_true rfl)⟩⟩⟩
theorem c_route_through {k : Nat} {l : List T_api_Link} {a : Str} {b : Str} {r : (List Str) × Int × Int} (h : m_route_through k l a b = some r) : Pure Tryz.prog 125 [.d (Sl e_api_Link l), S a, S b] (.tup [.d (Sl eS r.1), I r.2.1, I r.2.2]) := by
  refine Pure.enter (Fr.of 0 _) Tryz.func125 rfl (Fr.of_ok _) rfl rfl ?_
  refine go_in ?_
  unfold m_route_through at h
  obtain ⟨y1, hy1, h2⟩ := bi_ok h
  refine go hΓ 10 rfl ?_
  refine eo_callF [] (.map 0) [mOb kS false (eL e_route_step) y1] (callable Tryz.func151 rfl rfl) (c_route_stepsOf hy1) rfl (Nat.le_of_ble_eq_true rfl) rfl rfl rfl rfl rfl rfl rfl rfl rfl rfl ?_
  obtain ⟨y3, hy3, h4⟩ := bi_ok h2
  refine go_ops hΓ 7 rfl ?_
  refine eo_callF [0] (.map 1) [mOb kS false (eL e_route_step) y1, mOb kS true e_route_far y3] (callable Tryz.func152 rfl rfl) (c_route_distances hy3) rfl (Nat.le_of_ble_eq_true rfl) rfl rfl rfl rfl rfl rfl rfl rfl rfl rfl ?_
  refine go_ops hΓ 8 rfl ?_
  refine eo_o rfl (op_lookupOk hΓ (kv := kS) (agg := true) (enc := e_route_far) y3 a ((⟨0, 0⟩ : T_route_far) : T_route_far) rfl rfl rfl rfl key_str rfl rfl rfl rfl rfl rfl rfl) ?_
  refine go_ops hΓ 3 rfl ?_
  refine eo_alloc hΓ rfl rfl rfl (Nat.le_of_ble_eq_true rfl) ?_
  refine eo_store hΓ rfl rfl rfl rfl rfl rfl rfl rfl (Nat.le_of_ble_eq_true rfl) ?_
  refine eo_hp [mOb kS false (eL e_route_step) y1, mOb kS true e_route_far y3, .box 191 [I (((mGet y3 a).getD (⟨0, 0⟩ : T_route_far)).millis), I (((mGet y3 a).getD (⟨0, 0⟩ : T_route_far)).links)]] rfl ?_
  refine go_ops hΓ 9 rfl ?_
  refine j_cond rfl (fun hb => ?_) (fun hb => ?_)
  · have h5 := cT h4 hb
    refine go hΓ 9 rfl ?_
    obtain rfl := Option.some.inj h5
    exact fin_pure hΓ (.inr rfl) rfl rfl
  · have h6 := cF h4 hb
    refine go hΓ 5 rfl ?_
    refine eo_litRowT hΓ (enc := eS) [a] rfl rfl rfl rfl rfl rfl rfl rfl rfl rfl rfl rfl (Nat.le_of_ble_eq_true rfl) ?_
    refine go_ops hΓ 10 rfl ?_
    obtain ⟨q10, hq10, h11⟩ := bi_ok h6
    refine j_cutNZ [(1, S a), (10, .map 1), (13, .sl 3 q10.length)] [mOb kS false (eL e_route_step) y1, mOb kS true e_route_far y3, .box 191 [I (((mGet y3 a).getD (⟨0, 0⟩ : T_route_far)).millis), I (((mGet y3 a).getD (⟨0, 0⟩ : T_route_far)).links)], .row 9 1 q10.length (q10.flatMap eS)] ?_ ?_
    · refine go hΓ 1 rfl ?_
      refine j_loop hq10 (fun s8 => [(1, S a), (2, S b), (9, .map 0), (10, .map 1), (13, .sl 3 s8.1.length), (14, S s8.2)]) (fun s8 => [mOb kS false (eL e_route_step) y1, mOb kS true e_route_far y3, .box 191 [I (((mGet y3 a).getD (⟨0, 0⟩ : T_route_far)).millis), I (((mGet y3 a).getD (⟨0, 0⟩ : T_route_far)).links)], .row 9 1 s8.1.length (s8.1.flatMap eS)]) ⟨⟨rfl, rfl, rfl, rfl, rfl, rfl, trivial⟩, [], rfl, .inl rfl⟩ (fun s8 y16 hy14 hout15 => ?_)
      refine go hΓ 8 rfl ?_
      refine j_cond rfl (fun hb => ?_) (fun hb => ?_)
      · have h17 := cT hy14 hb
        refine go hΓ 13 rfl ?_
        refine eo_o rfl (op_lookup hΓ (kv := kS) (agg := false) (enc := (eL e_route_step)) y1 s8.2 ([] : List T_route_step) rfl rfl rfl rfl key_str rfl rfl rfl rfl rfl rfl rfl) ?_
        refine go_ops hΓ 4 rfl ?_
        obtain ⟨q21, hq21, h22⟩ := bi_ok h17
        refine j_bound 41 rfl fun hb24 => ?_
        refine j_cutNZ [(1, S a), (2, S b), (9, .map 0), (10, .map 1), (13, .sl 3 s8.1.length), (15, S q21)] [mOb kS false (eL e_route_step) y1, mOb kS true e_route_far y3, .box 191 [I (((mGet y3 a).getD (⟨0, 0⟩ : T_route_far)).millis), I (((mGet y3 a).getD (⟨0, 0⟩ : T_route_far)).links)], .row 9 1 s8.1.length (s8.1.flatMap eS)] ?_ ?_
        · refine go hΓ 1 rfl ?_
          refine j_rangeF ((mGet y1 s8.2).getD []) hq21 (fun i18 s19 => [(1, S a), (2, S b), (9, .map 0), (10, .map 1), (13, .sl 3 s8.1.length), (14, S s8.2), (15, S s19), (41, .d (Sl e_route_step ((mGet y1 s8.2).getD []))), (42, I (((mGet y1 s8.2).getD []).length : Int)), (43, I (i18 : Int))]) (fun s19 => [mOb kS false (eL e_route_step) y1, mOb kS true e_route_far y3, .box 191 [I (((mGet y3 a).getD (⟨0, 0⟩ : T_route_far)).millis), I (((mGet y3 a).getD (⟨0, 0⟩ : T_route_far)).links)], .row 9 1 s8.1.length (s8.1.flatMap eS)]) ⟨⟨rfl, rfl, rfl, rfl, rfl, rfl, rfl, rfl, rfl, rfl, trivial⟩, [], rfl, .inl rfl⟩ (fun i18 x20 s19 y28 hx25 hlt hy26 => ?_) (?_)
          · refine go hΓ 6 rfl ?_
            refine j_condT rfl (decide_eq_true (Int.ofNat_lt.2 hlt)) ?_
            refine go hΓ 6 rfl ?_
            refine eo_o rfl (op_elemZ hΓ (enc := e_route_step) (getZ_nat hx25) rfl rfl rfl rfl rfl (fun _ => rfl)) ?_
            refine go_ops hΓ 1 rfl ?_
            refine eo_alloc hΓ rfl rfl rfl (Nat.le_of_ble_eq_true rfl) ?_
            refine eo_store hΓ rfl rfl rfl rfl rfl rfl rfl rfl (Nat.le_of_ble_eq_true rfl) ?_
            refine eo_hp [mOb kS false (eL e_route_step) y1, mOb kS true e_route_far y3, .box 191 [I (((mGet y3 a).getD (⟨0, 0⟩ : T_route_far)).millis), I (((mGet y3 a).getD (⟨0, 0⟩ : T_route_far)).links)], .row 9 1 s8.1.length (s8.1.flatMap eS), .box 195 [S x20.v_to, I x20.millis]] rfl ?_
            refine go_ops hΓ 7 rfl ?_
            refine eo_o rfl (op_lookupOk hΓ (kv := kS) (agg := true) (enc := e_route_far) y3 x20.v_to ((⟨0, 0⟩ : T_route_far) : T_route_far) rfl rfl rfl rfl key_str rfl rfl rfl rfl rfl rfl rfl) ?_
            refine go_ops hΓ 3 rfl ?_
            refine eo_alloc hΓ rfl rfl rfl (Nat.le_of_ble_eq_true rfl) ?_
            refine eo_store hΓ rfl rfl rfl rfl rfl rfl rfl rfl (Nat.le_of_ble_eq_true rfl) ?_
            refine eo_hp [mOb kS false (eL e_route_step) y1, mOb kS true e_route_far y3, .box 191 [I (((mGet y3 a).getD (⟨0, 0⟩ : T_route_far)).millis), I (((mGet y3 a).getD (⟨0, 0⟩ : T_route_far)).links)], .row 9 1 s8.1.length (s8.1.flatMap eS), .box 195 [S x20.v_to, I x20.millis], .box 191 [I (((mGet y3 x20.v_to).getD (⟨0, 0⟩ : T_route_far)).millis), I (((mGet y3 x20.v_to).getD (⟨0, 0⟩ : T_route_far)).links)]] rfl ?_
            refine go_ops hΓ 7 rfl ?_
            refine o_cut 11 [(1, S a), (2, S b), (9, .map 0), (10, .map 1), (13, .sl 3 s8.1.length), (14, S s8.2), (15, S s19), (17, .ptr 4 0), (18, .ptr 5 0), (41, .d (Sl e_route_step ((mGet y1 s8.2).getD []))), (42, I (((mGet y1 s8.2).getD []).length : Int)), (43, I (i18 : Int)), (66, B (((mGet y3 x20.v_to).isSome) && ((wi ((((mGet y3 x20.v_to).getD (⟨0, 0⟩ : T_route_far)).millis) + x20.millis) : Int) == (((mGet y3 s8.2).getD (⟨0, 0⟩ : T_route_far)).millis))))] [mOb kS false (eL e_route_step) y1, mOb kS true e_route_far y3, .box 191 [I (((mGet y3 a).getD (⟨0, 0⟩ : T_route_far)).millis), I (((mGet y3 a).getD (⟨0, 0⟩ : T_route_far)).links)], .row 9 1 s8.1.length (s8.1.flatMap eS), .box 195 [S x20.v_to, I x20.millis], .box 191 [I (((mGet y3 x20.v_to).getD (⟨0, 0⟩ : T_route_far)).millis), I (((mGet y3 x20.v_to).getD (⟨0, 0⟩ : T_route_far)).links)]] ?_ ?_
            · refine eo_gsplit rfl rfl (fun hb => ?_) (fun hb => ?_)
              · refine go_ops hΓ 7 rfl ?_
                refine eo_guard rfl ?_
                refine eo_o rfl (op_lookup hΓ (kv := kS) (agg := true) (enc := e_route_far) y3 s8.2 ((⟨0, 0⟩ : T_route_far) : T_route_far) rfl rfl rfl rfl key_str rfl rfl rfl rfl rfl rfl rfl) ?_
                refine go_ops hΓ 4 rfl ?_
                exact ⟨⟨rfl, rfl, rfl, rfl, rfl, rfl, rfl, rfl, rfl, rfl, rfl, rfl, get_b rfl (and_t hb), trivial⟩, [], rfl, .inl rfl⟩
              · refine go_ops hΓ 12 rfl ?_
                exact ⟨⟨rfl, rfl, rfl, rfl, rfl, rfl, rfl, rfl, rfl, rfl, rfl, rfl, get_b rfl (and_f hb), trivial⟩, [], rfl, .inl rfl⟩
            · refine go_ops hΓ 1 rfl ?_
              refine o_cut 9 [(1, S a), (2, S b), (9, .map 0), (10, .map 1), (13, .sl 3 s8.1.length), (14, S s8.2), (15, S s19), (17, .ptr 4 0), (41, .d (Sl e_route_step ((mGet y1 s8.2).getD []))), (42, I (((mGet y1 s8.2).getD []).length : Int)), (43, I (i18 : Int)), (76, B ((((mGet y3 x20.v_to).isSome) && ((wi ((((mGet y3 x20.v_to).getD (⟨0, 0⟩ : T_route_far)).millis) + x20.millis) : Int) == (((mGet y3 s8.2).getD (⟨0, 0⟩ : T_route_far)).millis))) && ((wi ((((mGet y3 x20.v_to).getD (⟨0, 0⟩ : T_route_far)).links) + 1) : Int) == (((mGet y3 s8.2).getD (⟨0, 0⟩ : T_route_far)).links))))] [mOb kS false (eL e_route_step) y1, mOb kS true e_route_far y3, .box 191 [I (((mGet y3 a).getD (⟨0, 0⟩ : T_route_far)).millis), I (((mGet y3 a).getD (⟨0, 0⟩ : T_route_far)).links)], .row 9 1 s8.1.length (s8.1.flatMap eS), .box 195 [S x20.v_to, I x20.millis], .box 191 [I (((mGet y3 x20.v_to).getD (⟨0, 0⟩ : T_route_far)).millis), I (((mGet y3 x20.v_to).getD (⟨0, 0⟩ : T_route_far)).links)]] ?_ ?_
              · refine eo_gsplit rfl rfl (fun hb => ?_) (fun hb => ?_)
                · refine go_ops hΓ 5 rfl ?_
                  refine eo_guard rfl ?_
                  refine eo_o rfl (op_lookup hΓ (kv := kS) (agg := true) (enc := e_route_far) y3 s8.2 ((⟨0, 0⟩ : T_route_far) : T_route_far) rfl rfl rfl rfl key_str rfl rfl rfl rfl rfl rfl rfl) ?_
                  refine go_ops hΓ 4 rfl ?_
                  exact ⟨⟨rfl, rfl, rfl, rfl, rfl, rfl, rfl, rfl, rfl, rfl, rfl, get_b rfl (and_t hb), trivial⟩, [], rfl, .inl rfl⟩
                · refine go_ops hΓ 10 rfl ?_
                  exact ⟨⟨rfl, rfl, rfl, rfl, rfl, rfl, rfl, rfl, rfl, rfl, rfl, get_b rfl (and_f hb), trivial⟩, [], rfl, .inl rfl⟩
              · refine go_ops hΓ 1 rfl ?_
                refine o_cut 9 [(1, S a), (2, S b), (9, .map 0), (10, .map 1), (13, .sl 3 s8.1.length), (14, S s8.2), (15, S s19), (17, .ptr 4 0), (41, .d (Sl e_route_step ((mGet y1 s8.2).getD []))), (42, I (((mGet y1 s8.2).getD []).length : Int)), (43, I (i18 : Int)), (86, B (((((mGet y3 x20.v_to).isSome) && ((wi ((((mGet y3 x20.v_to).getD (⟨0, 0⟩ : T_route_far)).millis) + x20.millis) : Int) == (((mGet y3 s8.2).getD (⟨0, 0⟩ : T_route_far)).millis))) && ((wi ((((mGet y3 x20.v_to).getD (⟨0, 0⟩ : T_route_far)).links) + 1) : Int) == (((mGet y3 s8.2).getD (⟨0, 0⟩ : T_route_far)).links))) && (((s19 : Str) == []) || (Op.bytesLess x20.v_to s19))))] [mOb kS false (eL e_route_step) y1, mOb kS true e_route_far y3, .box 191 [I (((mGet y3 a).getD (⟨0, 0⟩ : T_route_far)).millis), I (((mGet y3 a).getD (⟨0, 0⟩ : T_route_far)).links)], .row 9 1 s8.1.length (s8.1.flatMap eS), .box 195 [S x20.v_to, I x20.millis], .box 191 [I (((mGet y3 x20.v_to).getD (⟨0, 0⟩ : T_route_far)).millis), I (((mGet y3 x20.v_to).getD (⟨0, 0⟩ : T_route_far)).links)]] ?_ ?_
                · refine eo_gsplit rfl rfl (fun hb => ?_) (fun hb => ?_)
                  · refine go_ops hΓ 3 rfl ?_
                    refine o_cut 5 [(1, S a), (2, S b), (9, .map 0), (10, .map 1), (13, .sl 3 s8.1.length), (14, S s8.2), (15, S s19), (17, .ptr 4 0), (41, .d (Sl e_route_step ((mGet y1 s8.2).getD []))), (42, I (((mGet y1 s8.2).getD []).length : Int)), (43, I (i18 : Int)), (77, B true), (85, B (((s19 : Str) == []) || (Op.bytesLess x20.v_to s19)))] [mOb kS false (eL e_route_step) y1, mOb kS true e_route_far y3, .box 191 [I (((mGet y3 a).getD (⟨0, 0⟩ : T_route_far)).millis), I (((mGet y3 a).getD (⟨0, 0⟩ : T_route_far)).links)], .row 9 1 s8.1.length (s8.1.flatMap eS), .box 195 [S x20.v_to, I x20.millis], .box 191 [I (((mGet y3 x20.v_to).getD (⟨0, 0⟩ : T_route_far)).millis), I (((mGet y3 x20.v_to).getD (⟨0, 0⟩ : T_route_far)).links)]] ?_ ?_
                    · refine eo_gsplit rfl rfl (fun hb => ?_) (fun hb => ?_)
                      · refine go_ops hΓ 6 rfl ?_
                        exact ⟨⟨rfl, rfl, rfl, rfl, rfl, rfl, rfl, rfl, rfl, rfl, rfl, rfl, get_b rfl (or_t hb), trivial⟩, [], rfl, .inl rfl⟩
                      · refine go_ops hΓ 6 rfl ?_
                        exact ⟨⟨rfl, rfl, rfl, rfl, rfl, rfl, rfl, rfl, rfl, rfl, rfl, rfl, get_b rfl (or_f hb), trivial⟩, [], rfl, .inl rfl⟩
                    · refine go_ops hΓ 2 rfl ?_
                      exact ⟨⟨rfl, rfl, rfl, rfl, rfl, rfl, rfl, rfl, rfl, rfl, rfl, get_b rfl (and_t hb), trivial⟩, [], rfl, .inl rfl⟩
                  · refine go_ops hΓ 10 rfl ?_
                    exact ⟨⟨rfl, rfl, rfl, rfl, rfl, rfl, rfl, rfl, rfl, rfl, rfl, get_b rfl (and_f hb), trivial⟩, [], rfl, .inl rfl⟩
                · refine go_ops hΓ 2 rfl ?_
                  refine j_cond rfl (fun hb => ?_) (fun hb => ?_)
                  · have h29 := cT hy26 hb
                    refine go hΓ 11 rfl ?_
                    obtain rfl := Option.some.inj h29
                    exact ⟨⟨rfl, rfl, rfl, rfl, rfl, rfl, rfl, rfl, rfl, get_eq rfl (w64_succ (Nat.lt_of_lt_of_le hlt hb24)), trivial⟩, [_, _], rfl, .inr ⟨HB.mk rfl, FB.mk rfl, (Nat.le_of_ble_eq_true rfl)⟩⟩
                  · have h30 := cF hy26 hb
                    refine go hΓ 7 rfl ?_
                    obtain rfl := Option.some.inj h30
                    exact ⟨⟨rfl, rfl, rfl, rfl, rfl, rfl, rfl, rfl, rfl, get_eq rfl (w64_succ (Nat.lt_of_lt_of_le hlt hb24)), trivial⟩, [_, _], rfl, .inr ⟨HB.mk rfl, FB.mk rfl, (Nat.le_of_ble_eq_true rfl)⟩⟩
          · refine go hΓ 6 rfl ?_
            refine j_condF rfl (decide_eq_false (Int.lt_irrefl _)) ?_
            refine go hΓ 4 rfl ?_
            exact ⟨⟨rfl, rfl, rfl, rfl, rfl, rfl, trivial⟩, [], rfl, .inl rfl⟩
        · refine go hΓ 10 rfl ?_
          refine eo_litT hΓ (enc := eS) [q21] rfl rfl rfl rfl rfl rfl rfl rfl rfl rfl rfl rfl (Nat.le_of_ble_eq_true rfl) ?_
          obtain ⟨y31, hy31, h32⟩ := bi_ok h22
          refine eo_appendT hΓ (enc := eS) hy31 rfl rfl rfl rfl rfl rfl rfl rfl rfl (fun _ => rfl) rfl rfl rfl rfl ?_
          refine go_ops hΓ 3 rfl ?_
          obtain rfl := Option.some.inj h32
          exact ⟨_, rfl, ⟨⟨rfl, rfl, rfl, rfl, rfl, rfl, trivial⟩, [], rfl, .inl rfl⟩⟩
      · have h33 := cF hy14 hb
        refine go hΓ 4 rfl ?_
        obtain rfl := Option.some.inj h33
        obtain rfl := hout15 _ rfl
        exact ⟨⟨rfl, rfl, rfl, trivial⟩, [], rfl, .inl rfl⟩
    · refine go hΓ 2 rfl ?_
      refine j_draw hmix (by kernel_rfl) ?_
      refine go hΓ 3 rfl ?_
      refine gl_o rfl (op_lookup hΓ (kv := kS) (agg := true) (enc := e_route_far) y3 a ((⟨0, 0⟩ : T_route_far) : T_route_far) rfl rfl rfl rfl key_str rfl rfl rfl rfl rfl rfl rfl) ?_
      refine go_draw hΓ 6 rfl ?_
      refine j_shr 3 [6, 13, 95] _ [mOb kS false (eL e_route_step) y1, mOb kS true e_route_far y3, .box 191 [I (((mGet y3 a).getD (⟨0, 0⟩ : T_route_far)).millis), I (((mGet y3 a).getD (⟨0, 0⟩ : T_route_far)).links)], .dead] rfl rfl rfl (Nat.le_of_ble_eq_true rfl) ?_
      refine go hΓ 1 rfl ?_
      obtain rfl := Option.some.inj h11
      exact fin_pure hΓ (.inr rfl) rfl rfl
theorem c_route_Through {k : Nat} {l : List T_api_Link} {a : Str} {b : Str} {r : (List Str) × Int × Int} (h : m_route_Through k l a b = some r) : Pure Tryz.prog 77 [.d (Sl e_api_Link l), S a, S b] (.tup [.d (Sl eS r.1), I r.2.1, I r.2.2]) := by
  refine Pure.enter (Fr.of 0 _) Tryz.func77 rfl (Fr.of_ok _) rfl rfl ?_
  refine go_in ?_
  unfold m_route_Through at h
  obtain ⟨y1, hy1, h2⟩ := bi_ok h
  refine go hΓ 11 rfl ?_
  refine eo_callP (callable Tryz.func124 rfl rfl) (c_route_CheckLinks hy1) rfl (Nat.le_of_ble_eq_true rfl) rfl rfl rfl rfl rfl ?_
  refine go_ops hΓ 9 rfl ?_
  refine j_cond rfl (fun hb => ?_) (fun hb => ?_)
  · have h3 := cT h2 hb
    refine go hΓ 10 rfl ?_
    obtain rfl := Option.some.inj h3
    exact fin_pure hΓ (.inr rfl) rfl rfl
  · have h4 := cF h2 hb
    obtain ⟨y5, hy5, h6⟩ := bi_ok h4
    refine go hΓ 6 rfl ?_
    refine eo_callP (callable Tryz.func82 rfl rfl) (c_kit_IsKey hy5) rfl (Nat.le_of_ble_eq_true rfl) rfl rfl rfl rfl rfl ?_
    refine go_ops hΓ 2 rfl ?_
    obtain ⟨q7, hq7, h8⟩ := bi_ok h6
    refine o_cut 4 [(0, .d (Sl e_api_Link l)), (1, S a), (2, S b), (22, B q7)] [] ?_ ?_
    · refine eo_gsplit rfl rfl (fun hb => ?_) (fun hb => ?_)
      · have h9 := cT hq7 hb
        refine go_ops hΓ 5 rfl ?_
        obtain rfl := Option.some.inj h9
        exact ⟨⟨rfl, rfl, rfl, rfl, trivial⟩, [], rfl, .inl rfl⟩
      · have h10 := cF hq7 hb
        obtain ⟨y11, hy11, h12⟩ := bi_ok h10
        refine go_ops hΓ 1 rfl ?_
        refine eo_guard rfl ?_
        refine eo_callP (callable Tryz.func82 rfl rfl) (c_kit_IsKey hy11) rfl (Nat.le_of_ble_eq_true rfl) rfl rfl rfl rfl rfl ?_
        refine go_ops hΓ 3 rfl ?_
        obtain rfl := Option.some.inj h12
        exact ⟨⟨rfl, rfl, rfl, rfl, trivial⟩, [], rfl, .inl rfl⟩
    · refine go_ops hΓ 2 rfl ?_
      refine j_cond rfl (fun hb => ?_) (fun hb => ?_)
      · have h13 := cT h8 hb
        refine go hΓ 9 rfl ?_
        obtain rfl := Option.some.inj h13
        exact fin_pure hΓ (.inr rfl) rfl rfl
      · have h14 := cF h8 hb
        obtain ⟨y15, hy15, h16⟩ := bi_ok h14
        refine go hΓ 7 rfl ?_
        refine eo_callP (callable Tryz.func125 rfl rfl) (c_route_through hy15) rfl (Nat.le_of_ble_eq_true rfl) rfl rfl rfl rfl rfl ?_
        refine go_ops hΓ 9 rfl ?_
        obtain rfl := Option.some.inj h16
        exact fin_pure hΓ (.inr rfl) rfl rfl
theorem c_lanelaw1_routed {k : Nat} {r : Bool} (h : m_lanelaw1_routed k = some r) : Pure Tryz.prog 24 [] (B r) := by
  refine Pure.enter (Fr.of 0 _) Tryz.func24 rfl (Fr.of_ok _) rfl rfl ?_
  refine go_in ?_
  unfold m_lanelaw1_routed at h
  refine go hΓ 7 rfl ?_
  refine eo_build hΓ (gs := [S [97], S [98], I 3]) rfl rfl rfl rfl rfl rfl rfl ?_
  refine eo_litT hΓ (enc := e_api_Link) [(⟨[97], [98], 3⟩ : T_api_Link)] rfl rfl rfl rfl rfl rfl rfl rfl rfl rfl rfl rfl (Nat.le_of_ble_eq_true rfl) ?_
  obtain ⟨y1, hy1, h2⟩ := bi_ok h
  refine eo_callP (callable Tryz.func77 rfl rfl) (c_route_Through hy1) rfl (Nat.le_of_ble_eq_true rfl) rfl rfl rfl rfl rfl ?_
  refine go_ops hΓ 14 rfl ?_
  refine o_cut 3 [(0, B false), (1, .d (Sl eS y1.1)), (16, B (((y1.2.2 : Int) == 0) && ((y1.2.1 : Int) == 3)))] [] ?_ ?_
  · refine eo_gsplit rfl rfl (fun hb => ?_) (fun hb => ?_)
    · refine go_ops hΓ 4 rfl ?_
      exact ⟨⟨rfl, rfl, get_b rfl (and_t hb), trivial⟩, [], rfl, .inl rfl⟩
    · refine go_ops hΓ 4 rfl ?_
      exact ⟨⟨rfl, rfl, get_b rfl (and_f hb), trivial⟩, [], rfl, .inl rfl⟩
  · refine go_ops hΓ 1 rfl ?_
    obtain ⟨q3, hq3, h4⟩ := bi_ok h2
    refine o_cut 4 [(0, B false), (21, B q3)] [] ?_ ?_
    · refine eo_gsplit rfl rfl (fun hb => ?_) (fun hb => ?_)
      · have h5 := cT hq3 hb
        refine go_ops hΓ 1 rfl ?_
        refine eo_guard rfl ?_
        refine eo_litT hΓ (enc := eS) [[98], [97]] rfl rfl rfl rfl rfl rfl rfl rfl rfl rfl rfl rfl (Nat.le_of_ble_eq_true rfl) ?_
        obtain ⟨y6, hy6, h7⟩ := bi_ok h5
        refine eo_guard rfl ?_
        refine eo_callP (callable Tryz.func22 rfl rfl) (c_slices_Equal_string_string hy6) rfl (Nat.le_of_ble_eq_true rfl) rfl rfl rfl rfl rfl ?_
        refine go_ops hΓ 2 rfl ?_
        obtain rfl := Option.some.inj h7
        exact ⟨⟨rfl, rfl, trivial⟩, [], rfl, .inl rfl⟩
      · have h8 := cF hq3 hb
        refine go_ops hΓ 5 rfl ?_
        obtain rfl := Option.some.inj h8
        exact ⟨⟨rfl, rfl, trivial⟩, [], rfl, .inl rfl⟩
    · refine go_ops hΓ 4 rfl ?_
      obtain rfl := Option.some.inj h4
      exact fin_pure hΓ (.inr rfl) rfl rfl
theorem c_lanemake_Stream_Span {s : T_lanemake_Stream} {r : T_api_Window × T_lanemake_Stream} (h : m_lanemake_Stream_Span s = some r) : EC Tryz.prog 26 [.ptr 0 0] [.box 25 [.d (Sl (eN .i64) s.L), I s.v_at]] fun g hp' => g = .agg [I r.1.From, I r.1.To] ∧ hp' = [.box 25 [.d (Sl (eN .i64) r.2.L), I r.2.v_at]] := by
  refine ec_enter (Fr.of 0 _) Tryz.func26 rfl (Fr.of_ok _) (Nat.le_of_ble_eq_true rfl) fun _ => ?_
  refine go_in ?_
  unfold m_lanemake_Stream_Span at h
  refine go hΓ 2 rfl ?_
  refine eo_alloc hΓ rfl rfl rfl (Nat.le_of_ble_eq_true rfl) ?_
  refine go_ops hΓ 5 rfl ?_
  refine eo_litT hΓ (enc := (eN .i64)) [0, 5, 30, 100] rfl rfl rfl rfl rfl rfl rfl rfl rfl rfl rfl rfl (Nat.le_of_ble_eq_true rfl) ?_
  obtain ⟨y1, hy1, h2⟩ := bi_ok h
  refine eo_callF [0] (I y1.1) [.box 25 [.d (Sl (eN .i64) y1.2.L), I y1.2.v_at], .box 64 [I 0, I 0]] (callable Tryz.func54 rfl rfl) (c_lanemake_Stream_Pick hy1) rfl (Nat.le_of_ble_eq_true rfl) rfl rfl rfl rfl rfl rfl rfl rfl rfl rfl ?_
  refine go_ops hΓ 1 rfl ?_
  refine eo_litT hΓ (enc := (eN .i64)) [30, 100, 250, 1000, 345686400] rfl rfl rfl rfl rfl rfl rfl rfl rfl rfl rfl rfl (Nat.le_of_ble_eq_true rfl) ?_
  obtain ⟨y3, hy3, h4⟩ := bi_ok h2
  refine eo_callF [0] (I y3.1) [.box 25 [.d (Sl (eN .i64) y3.2.L), I y3.2.v_at], .box 64 [I 0, I 0]] (callable Tryz.func54 rfl rfl) (c_lanemake_Stream_Pick hy3) rfl (Nat.le_of_ble_eq_true rfl) rfl rfl rfl rfl rfl rfl rfl rfl rfl rfl ?_
  refine eo_build hΓ (gs := [I y1.1, I y3.1]) rfl rfl rfl rfl rfl rfl rfl ?_
  refine eo_alloc hΓ rfl rfl rfl (Nat.le_of_ble_eq_true rfl) ?_
  refine eo_store hΓ rfl rfl rfl rfl rfl rfl rfl rfl (Nat.le_of_ble_eq_true rfl) ?_
  refine eo_hp [.box 25 [.d (Sl (eN .i64) y3.2.L), I y3.2.v_at], .box 64 [I 0, I 0], .box 64 [I y1.1, I y3.1]] rfl ?_
  obtain ⟨y5, hy5, h6⟩ := bi_ok h4
  refine go_ops hΓ 6 rfl ?_
  refine eo_callF [0] (B y5.1) [.box 25 [.d (Sl (eN .i64) y5.2.L), I y5.2.v_at], .box 64 [I 0, I 0], .box 64 [I y1.1, I y3.1]] (callable Tryz.func11 rfl rfl) (c_lanemake_Stream_Flip hy5) rfl (Nat.le_of_ble_eq_true rfl) rfl rfl rfl rfl rfl rfl rfl rfl rfl rfl ?_
  obtain ⟨q7, hq7, h8⟩ := bi_ok h6
  refine go_ops hΓ 2 rfl ?_
  refine j_cutNZ [(2, .ptr 1 0), (3, .ptr 2 0)] [.box 25 [.d (Sl (eN .i64) q7.1.L), I q7.1.v_at], .box 64 [I 0, I 0], .box 64 [I q7.2.From, I q7.2.To]] ?_ ?_
  · refine j_cond rfl (fun hb => ?_) (fun hb => ?_)
    · have h9 := cT hq7 hb
      refine go hΓ 2 rfl ?_
      refine eo_litT hΓ (enc := (eN .i64)) [-1, 10] rfl rfl rfl rfl rfl rfl rfl rfl rfl rfl rfl rfl (Nat.le_of_ble_eq_true rfl) ?_
      obtain ⟨y10, hy10, h11⟩ := bi_ok h9
      refine eo_callF [0] (I y10.1) [.box 25 [.d (Sl (eN .i64) y10.2.L), I y10.2.v_at], .box 64 [I 0, I 0], .box 64 [I y1.1, I y3.1]] (callable Tryz.func54 rfl rfl) (c_lanemake_Stream_Pick hy10) rfl (Nat.le_of_ble_eq_true rfl) rfl rfl rfl rfl rfl rfl rfl rfl rfl rfl ?_
      refine go_ops hΓ 1 rfl ?_
      refine eo_litT hΓ (enc := (eN .i64)) [9, 345686401] rfl rfl rfl rfl rfl rfl rfl rfl rfl rfl rfl rfl (Nat.le_of_ble_eq_true rfl) ?_
      obtain ⟨y12, hy12, h13⟩ := bi_ok h11
      refine eo_callF [0] (I y12.1) [.box 25 [.d (Sl (eN .i64) y12.2.L), I y12.2.v_at], .box 64 [I 0, I 0], .box 64 [I y1.1, I y3.1]] (callable Tryz.func54 rfl rfl) (c_lanemake_Stream_Pick hy12) rfl (Nat.le_of_ble_eq_true rfl) rfl rfl rfl rfl rfl rfl rfl rfl rfl rfl ?_
      refine eo_build hΓ (gs := [I y10.1, I y12.1]) rfl rfl rfl rfl rfl rfl rfl ?_
      refine eo_store hΓ rfl rfl rfl rfl rfl rfl rfl rfl (Nat.le_of_ble_eq_true rfl) ?_
      refine eo_hp [.box 25 [.d (Sl (eN .i64) y12.2.L), I y12.2.v_at], .box 64 [I 0, I 0], .box 64 [I y10.1, I y12.1]] rfl ?_
      refine go_ops hΓ 1 rfl ?_
      obtain rfl := Option.some.inj h13
      exact ⟨⟨rfl, rfl, trivial⟩, [], rfl, .inl rfl⟩
    · have h14 := cF hq7 hb
      refine go hΓ 1 rfl ?_
      obtain rfl := Option.some.inj h14
      exact ⟨⟨rfl, rfl, trivial⟩, [], rfl, .inl rfl⟩
  · refine go hΓ 4 rfl ?_
    refine eo_store hΓ rfl rfl rfl rfl rfl rfl rfl rfl (Nat.le_of_ble_eq_true rfl) ?_
    refine eo_hp [.box 25 [.d (Sl (eN .i64) q7.1.L), I q7.1.v_at], .box 64 [I q7.2.From, I q7.2.To], .box 64 [I q7.2.From, I q7.2.To]] rfl ?_
    refine go_ops hΓ 3 rfl ?_
    obtain rfl := Option.some.inj h8
    exact fin_objs hΓ [_, _] (.inr rfl) rfl rfl rfl rfl (.inr ⟨HB.mk rfl, rfl⟩)
theorem c_route_nodeFault {k : Nat} {l : List T_api_Health} {node : Str} {r : Int} (h : m_route_nodeFault k l node = some r) : Pure Tryz.prog 86 [.d (Sl e_api_Health l), S node] (I r) := by
  refine Pure.enter (Fr.of 0 _) Tryz.func86 rfl (Fr.of_ok _) rfl rfl ?_
  refine go_in ?_
  unfold m_route_nodeFault at h
  obtain ⟨y1, hy1, h2⟩ := bi_ok h
  refine go hΓ 9 rfl ?_
  refine eo_callP (callable Tryz.func31 rfl rfl) (c_route_CheckHealth hy1) rfl (Nat.le_of_ble_eq_true rfl) rfl rfl rfl rfl rfl ?_
  refine go_ops hΓ 9 rfl ?_
  refine j_cond rfl (fun hb => ?_) (fun hb => ?_)
  · have h3 := cT h2 hb
    refine go hΓ 8 rfl ?_
    obtain rfl := Option.some.inj h3
    exact fin_pure hΓ (.inr rfl) rfl rfl
  · have h4 := cF h2 hb
    obtain ⟨y5, hy5, h6⟩ := bi_ok h4
    refine go hΓ 6 rfl ?_
    refine eo_callP (callable Tryz.func82 rfl rfl) (c_kit_IsKey hy5) rfl (Nat.le_of_ble_eq_true rfl) rfl rfl rfl rfl rfl ?_
    refine go_ops hΓ 3 rfl ?_
    refine j_cond rfl (fun hb => ?_) (fun hb => ?_)
    · have h7 := cT h6 hb
      refine go hΓ 7 rfl ?_
      obtain rfl := Option.some.inj h7
      exact fin_pure hΓ (.inr rfl) rfl rfl
    · have h8 := cF h6 hb
      refine go hΓ 8 rfl ?_
      obtain rfl := Option.some.inj h8
      exact fin_pure hΓ (.inr rfl) rfl rfl
theorem c_route_IsUp {k : Nat} {l : List T_api_Health} {node : Str} {v_at : Int} {r : Bool × Int} (h : m_route_IsUp k l node v_at = some r) : Pure Tryz.prog 32 [.d (Sl e_api_Health l), S node, I v_at] (.tup [B r.1, I r.2]) := by
  refine Pure.enter (Fr.of 0 _) Tryz.func32 rfl (Fr.of_ok _) rfl rfl ?_
  refine go_in ?_
  unfold m_route_IsUp at h
  obtain ⟨y1, hy1, h2⟩ := bi_ok h
  refine go hΓ 11 rfl ?_
  refine eo_callP (callable Tryz.func86 rfl rfl) (c_route_nodeFault hy1) rfl (Nat.le_of_ble_eq_true rfl) rfl rfl rfl rfl rfl ?_
  refine go_ops hΓ 9 rfl ?_
  refine j_cond rfl (fun hb => ?_) (fun hb => ?_)
  · have h3 := cT h2 hb
    refine go hΓ 9 rfl ?_
    obtain rfl := Option.some.inj h3
    exact fin_pure hΓ (.inr rfl) rfl rfl
  · have h4 := cF h2 hb
    obtain ⟨y5, hy5, h6⟩ := bi_ok h4
    refine go hΓ 6 rfl ?_
    refine eo_callP (callable Tryz.func58 rfl rfl) (c_route_momentFault hy5) rfl (Nat.le_of_ble_eq_true rfl) rfl rfl rfl rfl rfl ?_
    refine go_ops hΓ 9 rfl ?_
    refine j_cond rfl (fun hb => ?_) (fun hb => ?_)
    · have h7 := cT h6 hb
      refine go hΓ 9 rfl ?_
      obtain rfl := Option.some.inj h7
      exact fin_pure hΓ (.inr rfl) rfl rfl
    · have h8 := cF h6 hb
      obtain ⟨y9, hy9, h10⟩ := bi_ok h8
      refine go hΓ 7 rfl ?_
      refine eo_callP (callable Tryz.func65 rfl rfl) (c_route_isUp hy9) rfl (Nat.le_of_ble_eq_true rfl) rfl rfl rfl rfl rfl ?_
      refine go_ops hΓ 5 rfl ?_
      obtain rfl := Option.some.inj h10
      exact fin_pure hΓ (.inr rfl) rfl rfl
theorem c_route_windowFault {w : T_api_Window} {r : Int} (h : m_route_windowFault w = some r) : Pure Tryz.prog 87 [.agg [I w.From, I w.To]] (I r) := by
  refine Pure.enter (Fr.of 0 _) Tryz.func87 rfl (Fr.of_ok _) rfl rfl ?_
  refine go_in ?_
  unfold m_route_windowFault at h
  refine go hΓ 2 rfl ?_
  refine eo_box rfl rfl rfl rfl (Nat.le_of_ble_eq_true rfl) ?_
  obtain ⟨y1, hy1, h2⟩ := bi_ok h
  refine go_ops hΓ 10 rfl ?_
  refine eo_callP (callable Tryz.func83 rfl rfl) (c_kit_Outside hy1) rfl (Nat.le_of_ble_eq_true rfl) rfl rfl rfl rfl rfl ?_
  refine go_ops hΓ 1 rfl ?_
  refine o_cut 4 [(12, B (y1 || (decide ((w.To : Int) > 345686400))))] [.box 64 [I w.From, I w.To]] ?_ ?_
  · refine eo_gsplit rfl rfl (fun hb => ?_) (fun hb => ?_)
    · refine go_ops hΓ 5 rfl ?_
      exact ⟨⟨get_b rfl (or_t hb), trivial⟩, [], rfl, .inl rfl⟩
    · refine go_ops hΓ 5 rfl ?_
      exact ⟨⟨get_b rfl (or_f hb), trivial⟩, [], rfl, .inl rfl⟩
  · refine go_ops hΓ 2 rfl ?_
    refine j_cond rfl (fun hb => ?_) (fun hb => ?_)
    · have h3 := cT h2 hb
      refine go hΓ 7 rfl ?_
      obtain rfl := Option.some.inj h3
      exact fin_pure hΓ (.inr rfl) rfl rfl
    · have h4 := cF h2 hb
      refine go hΓ 8 rfl ?_
      obtain rfl := Option.some.inj h4
      exact fin_pure hΓ (.inr rfl) rfl rfl
theorem c_route_within {v_from : Int} {v_to : Int} {w : T_api_Window} {r : Int} (h : m_route_within v_from v_to w = some r) : Pure Tryz.prog 88 [I v_from, I v_to, .agg [I w.From, I w.To]] (I r) := by
  refine Pure.enter (Fr.of 0 _) Tryz.func88 rfl (Fr.of_ok _) rfl rfl ?_
  refine go_in ?_
  unfold m_route_within at h
  refine go hΓ 2 rfl ?_
  refine eo_box rfl rfl rfl rfl (Nat.le_of_ble_eq_true rfl) ?_
  refine go_ops hΓ 19 rfl ?_
  obtain rfl := Option.some.inj h
  exact fin_pure hΓ (.inr rfl) rfl rfl
theorem c_route_UpTime {k : Nat} {l : List T_api_Health} {node : Str} {w : T_api_Window} {r : Int × Int} (h : m_route_UpTime k l node w = some r) : Pure Tryz.prog 33 [.d (Sl e_api_Health l), S node, .agg [I w.From, I w.To]] (.tup [I r.1, I r.2]) := by
  refine Pure.enter (Fr.of 0 _) Tryz.func33 rfl (Fr.of_ok _) rfl rfl ?_
  refine go_in ?_
  unfold m_route_UpTime at h
  refine go hΓ 2 rfl ?_
  refine eo_box rfl rfl rfl rfl (Nat.le_of_ble_eq_true rfl) ?_
  obtain ⟨y1, hy1, h2⟩ := bi_ok h
  refine go_ops hΓ 9 rfl ?_
  refine eo_callP (callable Tryz.func86 rfl rfl) (c_route_nodeFault hy1) rfl (Nat.le_of_ble_eq_true rfl) rfl rfl rfl rfl rfl ?_
  refine go_ops hΓ 9 rfl ?_
  refine j_cond rfl (fun hb => ?_) (fun hb => ?_)
  · have h3 := cT h2 hb
    refine go hΓ 9 rfl ?_
    obtain rfl := Option.some.inj h3
    exact fin_pure hΓ (.inr rfl) rfl rfl
  · have h4 := cF h2 hb
    obtain ⟨y5, hy5, h6⟩ := bi_ok h4
    refine go hΓ 6 rfl ?_
    refine eo_callP (callable Tryz.func87 rfl rfl) (c_route_windowFault hy5) rfl (Nat.le_of_ble_eq_true rfl) rfl rfl rfl rfl rfl ?_
    refine go_ops hΓ 9 rfl ?_
    refine j_cond rfl (fun hb => ?_) (fun hb => ?_)
    · have h7 := cT h6 hb
      refine go hΓ 9 rfl ?_
      obtain rfl := Option.some.inj h7
      exact fin_pure hΓ (.inr rfl) rfl rfl
    · have h8 := cF h6 hb
      refine go hΓ 17 rfl ?_
      obtain ⟨q12, hq12, h13⟩ := bi_ok h8
      refine j_bound 26 rfl fun hb15 => ?_
      refine j_cutNZ [(5, .ptr 0 0), (10, I q12.1), (11, I q12.2.1), (12, B q12.2.2)] [.box 64 [I w.From, I w.To]] ?_ ?_
      · refine go hΓ 1 rfl ?_
        refine j_rangeF l hq12 (fun i9 s10 => [(1, S node), (5, .ptr 0 0), (10, I s10.1), (11, I s10.2.1), (12, B s10.2.2), (26, .d (Sl e_api_Health l)), (27, I (l.length : Int)), (28, I (i9 : Int))]) (fun s10 => [.box 64 [I w.From, I w.To]]) ⟨⟨rfl, rfl, rfl, rfl, rfl, rfl, rfl, rfl, trivial⟩, [], rfl, .inl rfl⟩ (fun i9 x11 s10 y19 hx16 hlt hy17 => ?_) (?_)
        · refine go hΓ 6 rfl ?_
          refine j_condT rfl (decide_eq_true (Int.ofNat_lt.2 hlt)) ?_
          refine go hΓ 6 rfl ?_
          refine eo_o rfl (op_elemZ hΓ (enc := e_api_Health) (getZ_nat hx16) rfl rfl rfl rfl rfl (fun _ => rfl)) ?_
          refine go_ops hΓ 1 rfl ?_
          refine eo_alloc hΓ rfl rfl rfl (Nat.le_of_ble_eq_true rfl) ?_
          refine eo_store hΓ rfl rfl rfl rfl rfl rfl rfl rfl (Nat.le_of_ble_eq_true rfl) ?_
          refine eo_hp [.box 64 [I w.From, I w.To], .box 103 [I x11.At, S x11.Node, B x11.Up]] rfl ?_
          refine go_ops hΓ 11 rfl ?_
          refine j_cond rfl (fun hb => ?_) (fun hb => ?_)
          · have h20 := cT hy17 hb
            refine go hΓ 8 rfl ?_
            obtain rfl := Option.some.inj h20
            exact ⟨⟨rfl, rfl, rfl, rfl, rfl, rfl, rfl, get_eq rfl (w64_succ (Nat.lt_of_lt_of_le hlt hb15)), trivial⟩, [_], rfl, .inr ⟨HB.mk rfl, FB.mk rfl, (Nat.le_of_ble_eq_true rfl)⟩⟩
          · have h21 := cF hy17 hb
            obtain ⟨q22, hq22, h23⟩ := bi_ok h21
            refine go hΓ 8 rfl ?_
            refine j_cutNZ [(1, S node), (5, .ptr 0 0), (10, I q22), (14, .ptr 1 0), (26, .d (Sl e_api_Health l)), (27, I (l.length : Int)), (28, I (i9 : Int))] [.box 64 [I w.From, I w.To], .box 103 [I x11.At, S x11.Node, B x11.Up]] ?_ ?_
            · refine j_cond rfl (fun hb => ?_) (fun hb => ?_)
              · have h24 := cT hq22 hb
                obtain ⟨y25, hy25, h26⟩ := bi_ok h24
                refine go hΓ 6 rfl ?_
                refine eo_callP (callable Tryz.func88 rfl rfl) (c_route_within hy25) rfl (Nat.le_of_ble_eq_true rfl) rfl rfl rfl rfl rfl ?_
                refine go_ops hΓ 3 rfl ?_
                obtain rfl := Option.some.inj h26
                exact ⟨⟨rfl, rfl, rfl, rfl, rfl, rfl, rfl, trivial⟩, [], rfl, .inl rfl⟩
              · have h27 := cF hq22 hb
                refine go hΓ 1 rfl ?_
                obtain rfl := Option.some.inj h27
                exact ⟨⟨rfl, rfl, rfl, rfl, rfl, rfl, rfl, trivial⟩, [], rfl, .inl rfl⟩
            · refine go hΓ 1 rfl ?_
              refine j_draw hmix (by kernel_rfl) ?_
              refine go hΓ 13 rfl ?_
              obtain rfl := Option.some.inj h23
              exact ⟨⟨rfl, rfl, rfl, rfl, rfl, rfl, rfl, get_eq rfl (w64_succ (Nat.lt_of_lt_of_le hlt hb15)), trivial⟩, [_], rfl, .inr ⟨HB.mk rfl, FB.mk rfl, (Nat.le_of_ble_eq_true rfl)⟩⟩
        · refine go hΓ 6 rfl ?_
          refine j_condF rfl (decide_eq_false (Int.lt_irrefl _)) ?_
          refine go hΓ 4 rfl ?_
          exact ⟨⟨rfl, rfl, rfl, rfl, trivial⟩, [], rfl, .inl rfl⟩
      · obtain ⟨q28, hq28, h29⟩ := bi_ok h13
        refine go hΓ 7 rfl ?_
        refine j_cutNZ [(10, I q28)] [.box 64 [I w.From, I w.To]] ?_ ?_
        · refine j_cond rfl (fun hb => ?_) (fun hb => ?_)
          · have h30 := cT hq28 hb
            obtain ⟨y31, hy31, h32⟩ := bi_ok h30
            refine go hΓ 4 rfl ?_
            refine eo_callP (callable Tryz.func88 rfl rfl) (c_route_within hy31) rfl (Nat.le_of_ble_eq_true rfl) rfl rfl rfl rfl rfl ?_
            refine go_ops hΓ 3 rfl ?_
            obtain rfl := Option.some.inj h32
            exact ⟨⟨rfl, trivial⟩, [], rfl, .inl rfl⟩
          · have h33 := cF hq28 hb
            refine go hΓ 1 rfl ?_
            obtain rfl := Option.some.inj h33
            exact ⟨⟨rfl, trivial⟩, [], rfl, .inl rfl⟩
        · refine go hΓ 9 rfl ?_
          obtain rfl := Option.some.inj h29
          exact fin_pure hΓ (.inr rfl) rfl rfl
theorem c_laneref1_keyFault {s : Str} {r : Int} (h : m_laneref1_keyFault s = some r) : Pure Tryz.prog 89 [S s] (I r) := by
  refine Pure.enter (Fr.of 0 _) Tryz.func89 rfl (Fr.of_ok _) rfl rfl ?_
  refine go_in ?_
  unfold m_laneref1_keyFault at h
  obtain ⟨y1, hy1, h2⟩ := bi_ok h
  refine go hΓ 9 rfl ?_
  refine eo_callP (callable Tryz.func69 rfl rfl) (c_laneref2_Key hy1) rfl (Nat.le_of_ble_eq_true rfl) rfl rfl rfl rfl rfl ?_
  refine go_ops hΓ 3 rfl ?_
  refine j_cond rfl (fun hb => ?_) (fun hb => ?_)
  · have h3 := cT h2 hb
    refine go hΓ 7 rfl ?_
    obtain rfl := Option.some.inj h3
    exact fin_pure hΓ (.inr rfl) rfl rfl
  · have h4 := cF h2 hb
    refine go hΓ 8 rfl ?_
    obtain rfl := Option.some.inj h4
    exact fin_pure hΓ (.inr rfl) rfl rfl
theorem c_laneref1_KeyFault {s : Str} {r : Int} (h : m_laneref1_KeyFault s = some r) : Pure Tryz.prog 34 [S s] (I r) := by
  refine Pure.enter (Fr.of 0 _) Tryz.func34 rfl (Fr.of_ok _) rfl rfl ?_
  refine go_in ?_
  unfold m_laneref1_KeyFault at h
  obtain ⟨y1, hy1, h2⟩ := bi_ok h
  refine go hΓ 8 rfl ?_
  refine eo_callP (callable Tryz.func89 rfl rfl) (c_laneref1_keyFault hy1) rfl (Nat.le_of_ble_eq_true rfl) rfl rfl rfl rfl rfl ?_
  refine go_ops hΓ 4 rfl ?_
  obtain rfl := Option.some.inj h2
  exact fin_pure hΓ (.inr rfl) rfl rfl
theorem c_laneref1_WindowFault {w : T_api_Window} {r : Int} (h : m_laneref1_WindowFault w = some r) : Pure Tryz.prog 35 [.agg [I w.From, I w.To]] (I r) := by
  refine Pure.enter (Fr.of 0 _) Tryz.func35 rfl (Fr.of_ok _) rfl rfl ?_
  refine go_in ?_
  unfold m_laneref1_WindowFault at h
  refine go hΓ 2 rfl ?_
  refine eo_box rfl rfl rfl rfl (Nat.le_of_ble_eq_true rfl) ?_
  refine go_ops hΓ 10 rfl ?_
  refine o_cut 6 [(1, .ptr 0 0), (12, B ((decide ((w.From : Int) < 0)) || (decide ((w.From : Int) > w.To))))] [.box 64 [I w.From, I w.To]] ?_ ?_
  · refine eo_gsplit rfl rfl (fun hb => ?_) (fun hb => ?_)
    · refine go_ops hΓ 7 rfl ?_
      exact ⟨⟨rfl, get_b rfl (or_t hb), trivial⟩, [], rfl, .inl rfl⟩
    · refine go_ops hΓ 7 rfl ?_
      exact ⟨⟨rfl, get_b rfl (or_f hb), trivial⟩, [], rfl, .inl rfl⟩
  · refine go_ops hΓ 1 rfl ?_
    refine o_cut 4 [(17, B (((decide ((w.From : Int) < 0)) || (decide ((w.From : Int) > w.To))) || (decide ((w.To : Int) > 345686400))))] [.box 64 [I w.From, I w.To]] ?_ ?_
    · refine eo_gsplit rfl rfl (fun hb => ?_) (fun hb => ?_)
      · refine go_ops hΓ 5 rfl ?_
        exact ⟨⟨get_b rfl (or_t hb), trivial⟩, [], rfl, .inl rfl⟩
      · refine go_ops hΓ 5 rfl ?_
        exact ⟨⟨get_b rfl (or_f hb), trivial⟩, [], rfl, .inl rfl⟩
    · refine go_ops hΓ 2 rfl ?_
      refine j_cond rfl (fun hb => ?_) (fun hb => ?_)
      · have h1 := cT h hb
        refine go hΓ 7 rfl ?_
        obtain rfl := Option.some.inj h1
        exact fin_pure hΓ (.inr rfl) rfl rfl
      · have h2 := cF h hb
        refine go hΓ 8 rfl ?_
        obtain rfl := Option.some.inj h2
        exact fin_pure hΓ (.inr rfl) rfl rfl
theorem c_laneref1_UpIn {k : Nat} {l : List T_api_Health} {node : Str} {w : T_api_Window} {r : Int} (h : m_laneref1_UpIn k l node w = some r) : Pure Tryz.prog 37 [.d (Sl e_api_Health l), S node, .agg [I w.From, I w.To]] (I r) := by
  refine Pure.enter (Fr.of 0 _) Tryz.func37 rfl (Fr.of_ok _) rfl rfl ?_
  refine go_in ?_
  unfold m_laneref1_UpIn at h
  refine go hΓ 2 rfl ?_
  refine eo_box rfl rfl rfl rfl (Nat.le_of_ble_eq_true rfl) ?_
  obtain ⟨y1, hy1, h2⟩ := bi_ok h
  refine go_ops hΓ 6 rfl ?_
  refine eo_callP (callable Tryz.func90 rfl rfl) (Pure.rows (c_laneref1_told hy1) rfl rfl) rfl (Nat.le_of_ble_eq_true rfl) rfl rfl rfl rfl rfl ?_
  refine go_ops hΓ 17 rfl ?_
  obtain ⟨q6, hq6, h7⟩ := bi_ok h2
  obtain ⟨hb9, h10⟩ := gd_ok hq6
  replace hb9 := of_decide_eq_true hb9
  refine j_cutNZ [(8, I q6)] [.box 64 [I w.From, I w.To]] ?_ ?_
  · refine go hΓ 1 rfl ?_
    refine j_rangeG h10 (fun i3 s4 => [(0, .d (Sl e_api_Health l)), (1, S node), (5, .ptr 0 0), (7, .d (Sl (eN .i64) y1)), (8, I s4), (14, I (wi ((y1.length : Int) - 1))), (15, I (i3 : Int))]) (fun s4 => [.box 64 [I w.From, I w.To]]) ⟨⟨rfl, rfl, rfl, rfl, rfl, rfl, rfl, trivial⟩, [], rfl, .inl rfl⟩ (fun i3 s4 y14 hlt hy12 => ?_) (fun hge => ?_)
    · refine go hΓ 6 rfl ?_
      refine j_condT rfl (decide_eq_true hlt) ?_
      obtain ⟨x15, hx15, h16⟩ := bi_ok hy12
      refine go hΓ 16 rfl ?_
      refine eo_o rfl (op_elemZ hΓ (enc := (eN .i64)) hx15 rfl rfl rfl rfl rfl (fun _ => rfl)) ?_
      obtain ⟨y17, hy17, h18⟩ := bi_ok h16
      refine go_ops hΓ 1 rfl ?_
      refine eo_callP (callable Tryz.func36 rfl rfl) (c_laneref1_UpAt hy17) rfl (Nat.le_of_ble_eq_true rfl) rfl rfl rfl rfl rfl ?_
      refine go_ops hΓ 2 rfl ?_
      refine j_cond rfl (fun hb => ?_) (fun hb => ?_)
      · have h19 := cT h18 hb
        refine j_draw hmix (by kernel_rfl) ?_
        obtain ⟨x20, hx20, h21⟩ := bi_ok h19
        refine go hΓ 4 rfl ?_
        refine gl_o rfl (op_elemZ hΓ (enc := (eN .i64)) hx20 rfl rfl rfl rfl rfl (fun _ => rfl)) ?_
        obtain ⟨x22, hx22, h23⟩ := bi_ok h21
        refine go_draw hΓ 6 rfl ?_
        refine gl_o rfl (op_elemZ hΓ (enc := (eN .i64)) hx22 rfl rfl rfl rfl rfl (fun _ => rfl)) ?_
        refine go_draw hΓ 15 rfl ?_
        obtain rfl := Option.some.inj h23
        exact ⟨⟨rfl, rfl, rfl, rfl, rfl, rfl, get_eq rfl (w64_succ (by omega)), trivial⟩, [], rfl, .inl rfl⟩
      · have h24 := cF h18 hb
        refine go hΓ 7 rfl ?_
        obtain rfl := Option.some.inj h24
        exact ⟨⟨rfl, rfl, rfl, rfl, rfl, rfl, get_eq rfl (w64_succ (by omega)), trivial⟩, [], rfl, .inl rfl⟩
    · refine go hΓ 6 rfl ?_
      refine j_condF rfl (decide_eq_false hge) ?_
      refine go hΓ 4 rfl ?_
      exact ⟨⟨rfl, trivial⟩, [], rfl, .inl rfl⟩
  · refine go hΓ 8 rfl ?_
    obtain rfl := Option.some.inj h7
    exact fin_pure hΓ (.inr rfl) rfl rfl
theorem c_route_of {k : Nat} {v_r : List T_api_Router} {l : List T_api_Health} {p : T_api_Prefix} {al : List Bool} {r : (List T_api_Router) × Int × (List Bool)} (h : m_route_of k v_r l p al = some r) : EC Tryz.prog 91 [.d (Sl e_api_Router v_r), .d (Sl e_api_Health l), .agg [B p.Addr.Six, .d (.v (.int .u64 p.Addr.Hi)), .d (.v (.int .u64 p.Addr.Lo)), I p.Bits]] [.bag al] fun g hp' => g = .tup [.d (Sl e_api_Router r.1), I r.2.1] ∧ hp' = [.bag r.2.2] := by
  refine ec_enter (Fr.of 0 _) Tryz.func91 rfl (Fr.of_ok _) (Nat.le_of_ble_eq_true rfl) fun _ => ?_
  refine go_in ?_
  unfold m_route_of at h
  refine go hΓ 2 rfl ?_
  refine eo_box rfl rfl rfl rfl (Nat.le_of_ble_eq_true rfl) ?_
  obtain ⟨y1, hy1, h2⟩ := bi_ok h
  refine go_ops hΓ 9 rfl ?_
  refine eo_callP (callable Tryz.func57 rfl rfl) (c_route_routersFault hy1) rfl (Nat.le_of_ble_eq_true rfl) rfl rfl rfl rfl rfl ?_
  refine go_ops hΓ 9 rfl ?_
  refine j_cond rfl (fun hb => ?_) (fun hb => ?_)
  · have h3 := cT h2 hb
    refine go hΓ 9 rfl ?_
    obtain rfl := Option.some.inj h3
    exact fin_objs hΓ [_] (.inr rfl) rfl rfl rfl rfl (.inr ⟨HB.mk rfl, rfl⟩)
  · have h4 := cF h2 hb
    obtain ⟨y5, hy5, h6⟩ := bi_ok h4
    refine go hΓ 6 rfl ?_
    refine eo_callP (callable Tryz.func81 rfl rfl) (c_addr_CheckPrefix hy5) rfl (Nat.le_of_ble_eq_true rfl) rfl rfl rfl rfl rfl ?_
    refine go_ops hΓ 9 rfl ?_
    refine j_cond rfl (fun hb => ?_) (fun hb => ?_)
    · have h7 := cT h6 hb
      refine go hΓ 9 rfl ?_
      obtain rfl := Option.some.inj h7
      exact fin_objs hΓ [_] (.inr rfl) rfl rfl rfl rfl (.inr ⟨HB.mk rfl, rfl⟩)
    · have h8 := cF h6 hb
      obtain ⟨y9, hy9, h10⟩ := bi_ok h8
      refine go hΓ 6 rfl ?_
      refine eo_callF [0] (.sl 2 y9.1.length) [.bag y9.2, .box 42 [B p.Addr.Six, .d (.v (.int .u64 p.Addr.Hi)), .d (.v (.int .u64 p.Addr.Lo)), I p.Bits], .row 160 5 y9.1.length (y9.1.flatMap e_route_group)] (callable Tryz.func115 rfl rfl) (c_route_groupsOf hy9) rfl (Nat.le_of_ble_eq_true rfl) rfl rfl rfl rfl rfl rfl rfl rfl rfl rfl ?_
      refine eo_shr 2 [24] _ [.bag y9.2, .box 42 [B p.Addr.Six, .d (.v (.int .u64 p.Addr.Hi)), .d (.v (.int .u64 p.Addr.Lo)), I p.Bits], .dead] rfl rfl rfl (Nat.le_of_ble_eq_true rfl) ?_
      refine go_ops hΓ 4 rfl ?_
      obtain ⟨q14, hq14, h15⟩ := bi_ok h10
      refine j_bound 24 rfl fun hb17 => ?_
      refine j_cutEZ (R := fun a16 => q14 = .go a16) (fun a16 => []) (fun a16 => [.bag y9.2, .box 42 [B p.Addr.Six, .d (.v (.int .u64 p.Addr.Hi)), .d (.v (.int .u64 p.Addr.Lo)), I p.Bits], .dead]) ?_ ?_
      · refine go hΓ 1 rfl ?_
        refine j_range y9.1 hq14 (fun i11 s12 => [(5, .ptr 1 0), (24, .d (Sl e_route_group y9.1)), (25, I (y9.1.length : Int)), (26, I (i11 : Int))]) (fun s12 => [.bag y9.2, .box 42 [B p.Addr.Six, .d (.v (.int .u64 p.Addr.Hi)), .d (.v (.int .u64 p.Addr.Lo)), I p.Bits], .dead]) ⟨⟨rfl, rfl, rfl, rfl, trivial⟩, [], rfl, .inl rfl⟩ (fun i11 x13 s12 y21 hx18 hlt hy19 hout20 => ?_) (fun s12 hgo => ?_)
        · refine go hΓ 6 rfl ?_
          refine j_condT rfl (decide_eq_true (Int.ofNat_lt.2 hlt)) ?_
          refine go hΓ 6 rfl ?_
          refine eo_o rfl (op_elemZ hΓ (enc := e_route_group) (getZ_nat hx18) rfl rfl rfl rfl rfl (fun _ => rfl)) ?_
          refine go_ops hΓ 1 rfl ?_
          refine eo_s (Nat.le_of_ble_eq_true rfl) (nblt.1 rfl) (ops_allocT hΓ [4] [B false, .d (.v (.int .u64 0)), .d (.v (.int .u64 0)), I 0, .d (Slt 69 6 e_api_Router (1, []))] (hi := show Γ 160 = some ⟨_, _, _, _⟩ from rfl) rfl ⟨.refl _, .refl _, .refl _, .refl _, G.Le.tagN, trivial⟩) ?_
          refine eo_hp [.bag y9.2, .box 42 [B p.Addr.Six, .d (.v (.int .u64 p.Addr.Hi)), .d (.v (.int .u64 p.Addr.Lo)), I p.Bits], .dead, .box 160 [B false, .d (.v (.int .u64 0)), .d (.v (.int .u64 0)), I 0, .d (Slt 69 6 e_api_Router (1, []))]] rfl ?_
          refine eo_store hΓ rfl rfl rfl rfl rfl rfl rfl rfl (Nat.le_of_ble_eq_true rfl) ?_
          refine eo_hp [.bag y9.2, .box 42 [B p.Addr.Six, .d (.v (.int .u64 p.Addr.Hi)), .d (.v (.int .u64 p.Addr.Lo)), I p.Bits], .dead, .box 160 [B x13.v_prefix.Addr.Six, .d (.v (.int .u64 x13.v_prefix.Addr.Hi)), .d (.v (.int .u64 x13.v_prefix.Addr.Lo)), I x13.v_prefix.Bits, .d (Slt 69 6 e_api_Router x13.list)]] rfl ?_
          refine go_ops hΓ 7 rfl ?_
          refine eo_o rfl (op_eqS hΓ [42, 34] (b := ((((x13.v_prefix.Addr.Six : Bool) == p.Addr.Six) && (((x13.v_prefix.Addr.Hi : Int) == p.Addr.Hi) && (((x13.v_prefix.Addr.Lo : Int) == p.Addr.Lo) && true))) && (((x13.v_prefix.Bits : Int) == p.Bits) && true))) (by kernel_rfl) (by kernel_rfl) rfl rfl rfl) ?_
          refine go_ops hΓ 2 rfl ?_
          refine j_cond rfl (fun hb => ?_) (fun hb => ?_)
          · have h22 := cT hy19 hb
            refine go hΓ 3 rfl ?_
            refine eo_o rfl (op_le (pst_ok hΓ (g := .d (Slt 69 6 e_api_Router x13.list)) rfl) G.Le.unt) ?_
            refine go_ops hΓ 7 rfl ?_
            obtain ⟨v23, hv23, h24⟩ := bi_ok h22
            obtain rfl := Option.some.inj h24
            obtain rfl := hout20 _ rfl
            obtain rfl := Option.some.inj h15
            refine go hΓ 4 rfl ?_
            obtain rfl := Option.some.inj hv23
            exact fin_objs hΓ [_, _, _] (.inr rfl) rfl rfl rfl rfl (.inr ⟨HB.mk rfl, rfl⟩)
          · have h25 := cF hy19 hb
            refine go hΓ 7 rfl ?_
            obtain rfl := Option.some.inj h25
            exact ⟨_, rfl, ⟨⟨rfl, rfl, rfl, get_eq rfl (w64_succ (Nat.lt_of_lt_of_le hlt hb17)), trivial⟩, [_], rfl, .inr ⟨HB.mk rfl, FB.mk rfl, (Nat.le_of_ble_eq_true rfl)⟩⟩⟩
        · subst hgo
          refine go hΓ 6 rfl ?_
          refine j_condF rfl (decide_eq_false (Int.lt_irrefl _)) ?_
          refine go hΓ 4 rfl ?_
          exact ⟨_, rfl, ⟨trivial, [], rfl, .inl rfl⟩⟩
      · intro a16 ha
        subst ha
        replace h15 := goI_l h15
        refine go hΓ 8 rfl ?_
        obtain rfl := Option.some.inj h15
        exact fin_objs hΓ [_, _] (.inr rfl) rfl rfl rfl rfl (.inr ⟨HB.mk rfl, rfl⟩)
theorem c_route_First {k : Nat} {v_r : List T_api_Router} {l : List T_api_Health} {p : T_api_Prefix} {v_at : Int} {al : List Bool} {r : Str × Int × (List Bool)} (h : m_route_First k v_r l p v_at al = some r) : EC Tryz.prog 38 [.d (Sl e_api_Router v_r), .d (Sl e_api_Health l), .agg [B p.Addr.Six, .d (.v (.int .u64 p.Addr.Hi)), .d (.v (.int .u64 p.Addr.Lo)), I p.Bits], I v_at] [.bag al] fun g hp' => g = .tup [S r.1, I r.2.1] ∧ hp' = [.bag r.2.2] := by
  refine ec_enter (Fr.of 0 _) Tryz.func38 rfl (Fr.of_ok _) (Nat.le_of_ble_eq_true rfl) fun _ => ?_
  refine go_in ?_
  unfold m_route_First at h
  refine go hΓ 2 rfl ?_
  refine eo_box rfl rfl rfl rfl (Nat.le_of_ble_eq_true rfl) ?_
  obtain ⟨y1, hy1, h2⟩ := bi_ok h
  refine go_ops hΓ 9 rfl ?_
  refine eo_callF [0] (.tup [.d (Sl e_api_Router y1.1), I y1.2.1]) [.bag y1.2.2, .box 42 [B p.Addr.Six, .d (.v (.int .u64 p.Addr.Hi)), .d (.v (.int .u64 p.Addr.Lo)), I p.Bits]] (callable Tryz.func91 rfl rfl) (c_route_of hy1) rfl (Nat.le_of_ble_eq_true rfl) rfl rfl rfl rfl rfl rfl rfl rfl rfl rfl ?_
  refine go_ops hΓ 14 rfl ?_
  refine j_cond rfl (fun hb => ?_) (fun hb => ?_)
  · have h3 := cT h2 hb
    refine go hΓ 9 rfl ?_
    obtain rfl := Option.some.inj h3
    exact fin_objs hΓ [_] (.inr rfl) rfl rfl rfl rfl (.inr ⟨HB.mk rfl, rfl⟩)
  · have h4 := cF h2 hb
    obtain ⟨y5, hy5, h6⟩ := bi_ok h4
    refine go hΓ 6 rfl ?_
    refine eo_callP (callable Tryz.func58 rfl rfl) (c_route_momentFault hy5) rfl (Nat.le_of_ble_eq_true rfl) rfl rfl rfl rfl rfl ?_
    refine go_ops hΓ 9 rfl ?_
    refine j_cond rfl (fun hb => ?_) (fun hb => ?_)
    · have h7 := cT h6 hb
      refine go hΓ 9 rfl ?_
      obtain rfl := Option.some.inj h7
      exact fin_objs hΓ [_] (.inr rfl) rfl rfl rfl rfl (.inr ⟨HB.mk rfl, rfl⟩)
    · have h8 := cF h6 hb
      obtain ⟨y9, hy9, h10⟩ := bi_ok h8
      refine go hΓ 6 rfl ?_
      refine eo_callP (callable Tryz.func93 rfl rfl) (Pure.rows (c_route_turns hy9) rfl rfl) rfl (Nat.le_of_ble_eq_true rfl) rfl rfl rfl rfl rfl ?_
      obtain ⟨y11, hy11, h12⟩ := bi_ok h10
      refine go_ops hΓ 1 rfl ?_
      refine eo_callP (callable Tryz.func92 rfl rfl) (c_route_whoAt hy11) rfl (Nat.le_of_ble_eq_true rfl) rfl rfl rfl rfl rfl ?_
      refine go_ops hΓ 10 rfl ?_
      refine j_cond rfl (fun hb => ?_) (fun hb => ?_)
      · have h13 := cT h12 hb
        refine go hΓ 8 rfl ?_
        obtain rfl := Option.some.inj h13
        exact fin_objs hΓ [_] (.inr rfl) rfl rfl rfl rfl (.inr ⟨HB.mk rfl, rfl⟩)
      · have h14 := cF h12 hb
        refine go hΓ 10 rfl ?_
        obtain rfl := Option.some.inj h14
        exact fin_objs hΓ [_] (.inr rfl) rfl rfl rfl rfl (.inr ⟨HB.mk rfl, rfl⟩)
theorem c_route_Turns {k : Nat} {v_r : List T_api_Router} {l : List T_api_Health} {p : T_api_Prefix} {al : List Bool} {r : (List T_api_Turn) × Int × (List Bool)} (h : m_route_Turns k v_r l p al = some r) : EC Tryz.prog 39 [.d (Sl e_api_Router v_r), .d (Sl e_api_Health l), .agg [B p.Addr.Six, .d (.v (.int .u64 p.Addr.Hi)), .d (.v (.int .u64 p.Addr.Lo)), I p.Bits]] [.bag al] fun g hp' => g = .tup [.d (Sl e_api_Turn r.1), I r.2.1] ∧ hp' = [.bag r.2.2] := by
  refine ec_enter (Fr.of 0 _) Tryz.func39 rfl (Fr.of_ok _) (Nat.le_of_ble_eq_true rfl) fun _ => ?_
  refine go_in ?_
  unfold m_route_Turns at h
  refine go hΓ 2 rfl ?_
  refine eo_box rfl rfl rfl rfl (Nat.le_of_ble_eq_true rfl) ?_
  obtain ⟨y1, hy1, h2⟩ := bi_ok h
  refine go_ops hΓ 9 rfl ?_
  refine eo_callF [0] (.tup [.d (Sl e_api_Router y1.1), I y1.2.1]) [.bag y1.2.2, .box 42 [B p.Addr.Six, .d (.v (.int .u64 p.Addr.Hi)), .d (.v (.int .u64 p.Addr.Lo)), I p.Bits]] (callable Tryz.func91 rfl rfl) (c_route_of hy1) rfl (Nat.le_of_ble_eq_true rfl) rfl rfl rfl rfl rfl rfl rfl rfl rfl rfl ?_
  refine go_ops hΓ 14 rfl ?_
  refine j_cond rfl (fun hb => ?_) (fun hb => ?_)
  · have h3 := cT h2 hb
    refine go hΓ 9 rfl ?_
    obtain rfl := Option.some.inj h3
    exact fin_objs hΓ [_] (.inr rfl) rfl rfl rfl rfl (.inr ⟨HB.mk rfl, rfl⟩)
  · have h4 := cF h2 hb
    obtain ⟨y5, hy5, h6⟩ := bi_ok h4
    refine go hΓ 6 rfl ?_
    refine eo_callP (callable Tryz.func93 rfl rfl) (Pure.rows (c_route_turns hy5) rfl rfl) rfl (Nat.le_of_ble_eq_true rfl) rfl rfl rfl rfl rfl ?_
    refine go_ops hΓ 5 rfl ?_
    obtain rfl := Option.some.inj h6
    exact fin_objs hΓ [_] (.inr rfl) rfl rfl rfl rfl (.inr ⟨HB.mk rfl, rfl⟩)
theorem c_route_Outage {k : Nat} {v_r : List T_api_Router} {l : List T_api_Health} {p : T_api_Prefix} {w : T_api_Window} {al : List Bool} {r : Int × Int × (List Bool)} (h : m_route_Outage k v_r l p w al = some r) : EC Tryz.prog 40 [.d (Sl e_api_Router v_r), .d (Sl e_api_Health l), .agg [B p.Addr.Six, .d (.v (.int .u64 p.Addr.Hi)), .d (.v (.int .u64 p.Addr.Lo)), I p.Bits], .agg [I w.From, I w.To]] [.bag al] fun g hp' => g = .tup [I r.1, I r.2.1] ∧ hp' = [.bag r.2.2] := by
  refine ec_enter (Fr.of 0 _) Tryz.func40 rfl (Fr.of_ok _) (Nat.le_of_ble_eq_true rfl) fun _ => ?_
  refine go_in ?_
  unfold m_route_Outage at h
  refine go hΓ 2 rfl ?_
  refine eo_box rfl rfl rfl rfl (Nat.le_of_ble_eq_true rfl) ?_
  refine eo_box rfl rfl rfl rfl (Nat.le_of_ble_eq_true rfl) ?_
  obtain ⟨y1, hy1, h2⟩ := bi_ok h
  refine go_ops hΓ 9 rfl ?_
  refine eo_callF [0] (.tup [.d (Sl e_api_Router y1.1), I y1.2.1]) [.bag y1.2.2, .box 42 [B p.Addr.Six, .d (.v (.int .u64 p.Addr.Hi)), .d (.v (.int .u64 p.Addr.Lo)), I p.Bits], .box 64 [I w.From, I w.To]] (callable Tryz.func91 rfl rfl) (c_route_of hy1) rfl (Nat.le_of_ble_eq_true rfl) rfl rfl rfl rfl rfl rfl rfl rfl rfl rfl ?_
  refine go_ops hΓ 14 rfl ?_
  refine j_cond rfl (fun hb => ?_) (fun hb => ?_)
  · have h3 := cT h2 hb
    refine go hΓ 9 rfl ?_
    obtain rfl := Option.some.inj h3
    exact fin_objs hΓ [_, _] (.inr rfl) rfl rfl rfl rfl (.inr ⟨HB.mk rfl, rfl⟩)
  · have h4 := cF h2 hb
    obtain ⟨y5, hy5, h6⟩ := bi_ok h4
    refine go hΓ 6 rfl ?_
    refine eo_callP (callable Tryz.func87 rfl rfl) (c_route_windowFault hy5) rfl (Nat.le_of_ble_eq_true rfl) rfl rfl rfl rfl rfl ?_
    refine go_ops hΓ 9 rfl ?_
    refine j_cond rfl (fun hb => ?_) (fun hb => ?_)
    · have h7 := cT h6 hb
      refine go hΓ 9 rfl ?_
      obtain rfl := Option.some.inj h7
      exact fin_objs hΓ [_, _] (.inr rfl) rfl rfl rfl rfl (.inr ⟨HB.mk rfl, rfl⟩)
    · have h8 := cF h6 hb
      obtain ⟨y9, hy9, h10⟩ := bi_ok h8
      refine go hΓ 17 rfl ?_
      refine eo_callP (callable Tryz.func93 rfl rfl) (Pure.rows (c_route_turns hy9) rfl rfl) rfl (Nat.le_of_ble_eq_true rfl) rfl rfl rfl rfl rfl ?_
      refine go_ops hΓ 4 rfl ?_
      obtain ⟨q14, hq14, h15⟩ := bi_ok h10
      refine j_bound 38 rfl fun hb17 => ?_
      refine j_cutNZ [(13, I q14)] [.bag y1.2.2, .box 42 [B p.Addr.Six, .d (.v (.int .u64 p.Addr.Hi)), .d (.v (.int .u64 p.Addr.Lo)), I p.Bits], .box 64 [I w.From, I w.To]] ?_ ?_
      · refine go hΓ 1 rfl ?_
        refine j_rangeF y9 hq14 (fun i11 s12 => [(7, .ptr 2 0), (13, I s12), (38, .d (Sl e_api_Turn y9)), (39, I (y9.length : Int)), (40, I (i11 : Int))]) (fun s12 => [.bag y1.2.2, .box 42 [B p.Addr.Six, .d (.v (.int .u64 p.Addr.Hi)), .d (.v (.int .u64 p.Addr.Lo)), I p.Bits], .box 64 [I w.From, I w.To]]) ⟨⟨rfl, rfl, rfl, rfl, rfl, trivial⟩, [], rfl, .inl rfl⟩ (fun i11 x13 s12 y21 hx18 hlt hy19 => ?_) (?_)
        · refine go hΓ 6 rfl ?_
          refine j_condT rfl (decide_eq_true (Int.ofNat_lt.2 hlt)) ?_
          refine go hΓ 6 rfl ?_
          refine eo_o rfl (op_elemZ hΓ (enc := e_api_Turn) (getZ_nat hx18) rfl rfl rfl rfl rfl (fun _ => rfl)) ?_
          refine go_ops hΓ 1 rfl ?_
          refine eo_alloc hΓ rfl rfl rfl (Nat.le_of_ble_eq_true rfl) ?_
          refine eo_store hΓ rfl rfl rfl rfl rfl rfl rfl rfl (Nat.le_of_ble_eq_true rfl) ?_
          refine eo_hp [.bag y1.2.2, .box 42 [B p.Addr.Six, .d (.v (.int .u64 p.Addr.Hi)), .d (.v (.int .u64 p.Addr.Lo)), I p.Bits], .box 64 [I w.From, I w.To], .box 91 [S x13.Who, I x13.From, I x13.To]] rfl ?_
          obtain ⟨y22, hy22, h23⟩ := bi_ok hy19
          refine go_ops hΓ 9 rfl ?_
          refine eo_callP (callable Tryz.func88 rfl rfl) (c_route_within hy22) rfl (Nat.le_of_ble_eq_true rfl) rfl rfl rfl rfl rfl ?_
          refine go_ops hΓ 9 rfl ?_
          obtain rfl := Option.some.inj h23
          exact ⟨⟨rfl, rfl, rfl, rfl, get_eq rfl (w64_succ (Nat.lt_of_lt_of_le hlt hb17)), trivial⟩, [_], rfl, .inr ⟨HB.mk rfl, FB.mk rfl, (Nat.le_of_ble_eq_true rfl)⟩⟩
        · refine go hΓ 6 rfl ?_
          refine j_condF rfl (decide_eq_false (Int.lt_irrefl _)) ?_
          refine go hΓ 4 rfl ?_
          exact ⟨⟨rfl, trivial⟩, [], rfl, .inl rfl⟩
      · refine go hΓ 9 rfl ?_
        obtain rfl := Option.some.inj h15
        exact fin_objs hΓ [_, _] (.inr rfl) rfl rfl rfl rfl (.inr ⟨HB.mk rfl, rfl⟩)
theorem c_laneref1_HasRouters {k : Nat} {v_r : List T_api_Router} {p : T_api_Prefix} {r : Bool} (h : m_laneref1_HasRouters k v_r p = some r) : Pure Tryz.prog 42 [.d (Sl e_api_Router v_r), .agg [B p.Addr.Six, .d (.v (.int .u64 p.Addr.Hi)), .d (.v (.int .u64 p.Addr.Lo)), I p.Bits]] (B r) := by
  refine Pure.enter (Fr.of 0 _) Tryz.func42 rfl (Fr.of_ok _) rfl rfl ?_
  refine go_in ?_
  unfold m_laneref1_HasRouters at h
  refine go hΓ 2 rfl ?_
  refine eo_box rfl rfl rfl rfl (Nat.le_of_ble_eq_true rfl) ?_
  obtain ⟨y1, hy1, h2⟩ := bi_ok h
  refine go_ops hΓ 7 rfl ?_
  refine eo_callP (callable Tryz.func75 rfl rfl) (Pure.rows (c_laneref1_routersOf hy1) rfl rfl) rfl (Nat.le_of_ble_eq_true rfl) rfl rfl rfl rfl rfl ?_
  refine go_ops hΓ 6 rfl ?_
  obtain rfl := Option.some.inj h2
  exact fin_pure hΓ (.inr rfl) rfl rfl
theorem c_lanelaw1_when {is : Bool} {e : Int} {r : Int} (h : m_lanelaw1_when is e = some r) : Pure Tryz.prog 44 [B is, I e] (I r) := by
  refine Pure.enter (Fr.of 0 _) Tryz.func44 rfl (Fr.of_ok _) rfl rfl ?_
  refine go_in ?_
  unfold m_lanelaw1_when at h
  refine go hΓ 11 rfl ?_
  refine j_cond rfl (fun hb => ?_) (fun hb => ?_)
  · have h1 := cT h hb
    refine go hΓ 8 rfl ?_
    obtain rfl := Option.some.inj h1
    exact fin_pure hΓ (.inr rfl) rfl rfl
  · have h2 := cF h hb
    refine go hΓ 8 rfl ?_
    obtain rfl := Option.some.inj h2
    exact fin_pure hΓ (.inr rfl) rfl rfl
theorem c_slices_Equal_api_Turn_api_Turn {s1 : List T_api_Turn} {s2 : List T_api_Turn} {r : Bool} (h : m_slices_Equal_api_Turn_api_Turn s1 s2 = some r) : Pure Tryz.prog 45 [.d (Sl e_api_Turn s1), .d (Sl e_api_Turn s2)] (B r) := by
  refine Pure.enter (Fr.of 0 _) Tryz.func45 rfl (Fr.of_ok _) rfl rfl ?_
  refine go_in ?_
  unfold m_slices_Equal_api_Turn_api_Turn at h
  refine go hΓ 15 rfl ?_
  refine j_cond rfl (fun hb => ?_) (fun hb => ?_)
  · have h1 := cT h hb
    refine go hΓ 7 rfl ?_
    obtain rfl := Option.some.inj h1
    exact fin_pure hΓ (.inr rfl) rfl rfl
  · have h2 := cF h hb
    refine go hΓ 10 rfl ?_
    obtain ⟨q6, hq6, h7⟩ := bi_ok h2
    refine j_bound 0 rfl fun hb9 => ?_
    refine j_cutEZ (R := fun a8 => q6 = .go a8) (fun a8 => []) (fun a8 => []) ?_ ?_
    · refine go hΓ 1 rfl ?_
      refine j_range s1 hq6 (fun i3 s4 => [(0, .d (Sl e_api_Turn s1)), (1, .d (Sl e_api_Turn s2)), (12, I (s1.length : Int)), (13, I (i3 : Int))]) (fun s4 => []) ⟨⟨rfl, rfl, rfl, rfl, trivial⟩, [], rfl, .inl rfl⟩ (fun i3 x5 s4 y13 hx10 hlt hy11 hout12 => ?_) (fun s4 hgo => ?_)
      · refine go hΓ 6 rfl ?_
        refine j_condT rfl (decide_eq_true (Int.ofNat_lt.2 hlt)) ?_
        refine go hΓ 11 rfl ?_
        refine j_draw hmix (by kernel_rfl) ?_
        refine go hΓ 2 rfl ?_
        refine gl_o rfl (op_elemZ hΓ (enc := e_api_Turn) (getZ_nat hx10) rfl rfl rfl rfl rfl (fun _ => rfl)) ?_
        obtain ⟨x14, hx14, h15⟩ := bi_ok hy11
        refine go_draw hΓ 3 rfl ?_
        refine gl_o rfl (op_elemZ hΓ (enc := e_api_Turn) hx14 rfl rfl rfl rfl rfl (fun _ => rfl)) ?_
        refine go_draw hΓ 1 rfl ?_
        refine gl_o rfl (op_neS hΓ [91] (b := (((x5.Who : Str) == x14.Who) && (((x5.From : Int) == x14.From) && (((x5.To : Int) == x14.To) && true)))) (by kernel_rfl) (by kernel_rfl) rfl rfl rfl) ?_
        refine go_draw hΓ 2 rfl ?_
        refine j_cond rfl (fun hb => ?_) (fun hb => ?_)
        · have h16 := cT h15 hb
          refine go hΓ 8 rfl ?_
          obtain ⟨v17, hv17, h18⟩ := bi_ok h16
          obtain rfl := Option.some.inj h18
          obtain rfl := hout12 _ rfl
          obtain rfl := Option.some.inj h7
          refine go hΓ 4 rfl ?_
          obtain rfl := Option.some.inj hv17
          exact fin_pure hΓ (.inr rfl) rfl rfl
        · have h19 := cF h15 hb
          refine go hΓ 7 rfl ?_
          obtain rfl := Option.some.inj h19
          exact ⟨_, rfl, ⟨⟨rfl, rfl, rfl, get_eq rfl (w64_succ (Nat.lt_of_lt_of_le hlt hb9)), trivial⟩, [], rfl, .inl rfl⟩⟩
      · subst hgo
        refine go hΓ 6 rfl ?_
        refine j_condF rfl (decide_eq_false (Int.lt_irrefl _)) ?_
        refine go hΓ 4 rfl ?_
        exact ⟨_, rfl, ⟨trivial, [], rfl, .inl rfl⟩⟩
    · intro a8 ha
      subst ha
      replace h7 := goI_l h7
      refine go hΓ 7 rfl ?_
      obtain rfl := Option.some.inj h7
      exact fin_pure hΓ (.inr rfl) rfl rfl
theorem c_laneref1_OutageIn {k : Nat} {v_r : List T_api_Router} {l : List T_api_Health} {p : T_api_Prefix} {w : T_api_Window} {r : Int} (h : m_laneref1_OutageIn k v_r l p w = some r) : Pure Tryz.prog 47 [.d (Sl e_api_Router v_r), .d (Sl e_api_Health l), .agg [B p.Addr.Six, .d (.v (.int .u64 p.Addr.Hi)), .d (.v (.int .u64 p.Addr.Lo)), I p.Bits], .agg [I w.From, I w.To]] (I r) := by
  refine Pure.enter (Fr.of 0 _) Tryz.func47 rfl (Fr.of_ok _) rfl rfl ?_
  refine go_in ?_
  unfold m_laneref1_OutageIn at h
  refine go hΓ 2 rfl ?_
  refine eo_box rfl rfl rfl rfl (Nat.le_of_ble_eq_true rfl) ?_
  refine eo_box rfl rfl rfl rfl (Nat.le_of_ble_eq_true rfl) ?_
  obtain ⟨y1, hy1, h2⟩ := bi_ok h
  refine go_ops hΓ 19 rfl ?_
  refine eo_callP (callable Tryz.func46 rfl rfl) (Pure.rows (c_laneref1_FirstTurns hy1) rfl rfl) rfl (Nat.le_of_ble_eq_true rfl) rfl rfl rfl rfl rfl ?_
  refine go_ops hΓ 4 rfl ?_
  obtain ⟨q6, hq6, h7⟩ := bi_ok h2
  refine j_bound 20 rfl fun hb9 => ?_
  refine j_cutNZ [(9, I q6)] [.box 42 [B p.Addr.Six, .d (.v (.int .u64 p.Addr.Hi)), .d (.v (.int .u64 p.Addr.Lo)), I p.Bits], .box 64 [I w.From, I w.To]] ?_ ?_
  · refine go hΓ 1 rfl ?_
    refine j_rangeF y1 hq6 (fun i3 s4 => [(7, .ptr 1 0), (9, I s4), (20, .d (Sl e_api_Turn y1)), (21, I (y1.length : Int)), (22, I (i3 : Int))]) (fun s4 => [.box 42 [B p.Addr.Six, .d (.v (.int .u64 p.Addr.Hi)), .d (.v (.int .u64 p.Addr.Lo)), I p.Bits], .box 64 [I w.From, I w.To]]) ⟨⟨rfl, rfl, rfl, rfl, rfl, trivial⟩, [], rfl, .inl rfl⟩ (fun i3 x5 s4 y13 hx10 hlt hy11 => ?_) (?_)
    · refine go hΓ 6 rfl ?_
      refine j_condT rfl (decide_eq_true (Int.ofNat_lt.2 hlt)) ?_
      refine go hΓ 6 rfl ?_
      refine eo_o rfl (op_elemZ hΓ (enc := e_api_Turn) (getZ_nat hx10) rfl rfl rfl rfl rfl (fun _ => rfl)) ?_
      refine go_ops hΓ 1 rfl ?_
      refine eo_alloc hΓ rfl rfl rfl (Nat.le_of_ble_eq_true rfl) ?_
      refine eo_store hΓ rfl rfl rfl rfl rfl rfl rfl rfl (Nat.le_of_ble_eq_true rfl) ?_
      refine eo_hp [.box 42 [B p.Addr.Six, .d (.v (.int .u64 p.Addr.Hi)), .d (.v (.int .u64 p.Addr.Lo)), I p.Bits], .box 64 [I w.From, I w.To], .box 91 [S x5.Who, I x5.From, I x5.To]] rfl ?_
      refine go_ops hΓ 25 rfl ?_
      obtain rfl := Option.some.inj hy11
      exact ⟨⟨rfl, rfl, rfl, rfl, get_eq rfl (w64_succ (Nat.lt_of_lt_of_le hlt hb9)), trivial⟩, [_], rfl, .inr ⟨HB.mk rfl, FB.mk rfl, (Nat.le_of_ble_eq_true rfl)⟩⟩
    · refine go hΓ 6 rfl ?_
      refine j_condF rfl (decide_eq_false (Int.lt_irrefl _)) ?_
      refine go hΓ 4 rfl ?_
      exact ⟨⟨rfl, trivial⟩, [], rfl, .inl rfl⟩
  · refine go hΓ 8 rfl ?_
    obtain rfl := Option.some.inj h7
    exact fin_pure hΓ (.inr rfl) rfl rfl
end Go.Proofs.YtnjnmkpgedkffaaGreatDoor
