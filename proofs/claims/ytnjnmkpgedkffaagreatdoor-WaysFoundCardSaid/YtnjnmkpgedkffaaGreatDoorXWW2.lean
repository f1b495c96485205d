/-
  The functions compute their models.
-/
import Derived.Test.YtnjnmkpgedkffaaGreatDoorXWM
import Derived.Test.YtnjnmkpgedkffaaGreatDoorGt
import Derived.Test.YtnjnmkpgedkffaaGreatDoorStrR
import Derived.Test.YtnjnmkpgedkffaaGreatDoorXWW1
set_option linter.unusedVariables false
set_option linter.unusedSimpArgs false
set_option maxRecDepth 100000
namespace Go.Proofs.YtnjnmkpgedkffaaGreatDoor
open Go.Gk
theorem c_laneref1_routersOf_1 {x : T_api_Router} {x2 : T_api_Prefix} {r : Bool} (h : m_laneref1_routersOf_1 x x2 = some r) : EC Tryz.prog 123 [.agg [B x.Prefix.Addr.Six, .d (.v (.int .u64 x.Prefix.Addr.Hi)), .d (.v (.int .u64 x.Prefix.Addr.Lo)), I x.Prefix.Bits, S x.Node, I x.Weight], .ptr 0 0] [.box 42 [B x2.Addr.Six, .d (.v (.int .u64 x2.Addr.Hi)), .d (.v (.int .u64 x2.Addr.Lo)), I x2.Bits]] fun g hp' => g = B r ∧ hp' = [.box 42 [B x2.Addr.Six, .d (.v (.int .u64 x2.Addr.Hi)), .d (.v (.int .u64 x2.Addr.Lo)), I x2.Bits]] := by
  refine ec_enter (Fr.of 0 _) Tryz.func123 rfl (Fr.of_ok _) (Nat.le_of_ble_eq_true rfl) fun _ => ?_
  refine go_in ?_
  unfold m_laneref1_routersOf_1 at h
  refine go hΓ 2 rfl ?_
  refine eo_box rfl rfl rfl rfl (Nat.le_of_ble_eq_true rfl) ?_
  refine go_ops hΓ 8 rfl ?_
  refine eo_o rfl (op_neS hΓ [42, 34] (b := ((((x.Prefix.Addr.Six : Bool) == x2.Addr.Six) && (((x.Prefix.Addr.Hi : Int) == x2.Addr.Hi) && (((x.Prefix.Addr.Lo : Int) == x2.Addr.Lo) && true))) && (((x.Prefix.Bits : Int) == x2.Bits) && true))) (by kernel_rfl) (by kernel_rfl) rfl rfl rfl) ?_
  refine go_ops hΓ 4 rfl ?_
  obtain rfl := Option.some.inj h
  exact fin_objs hΓ [_] (.inr rfl) rfl rfl rfl rfl (.inr ⟨HB.mk rfl, rfl⟩)
theorem c_slices_IndexFunc_api_Router_api_Router_2 {s : List T_api_Router} {f : T_api_Prefix} {r : Int} (h : m_slices_IndexFunc_api_Router_api_Router_2 s f = some r) : EC Tryz.prog 117 [.sl 0 s.length, .fn (.func 123) [] [.ptr 1 0]] [.row 69 6 s.length (s.flatMap e_api_Router), .box 42 [B f.Addr.Six, .d (.v (.int .u64 f.Addr.Hi)), .d (.v (.int .u64 f.Addr.Lo)), I f.Bits]] fun g hp' => g = I r ∧ hp' = [.row 69 6 s.length (s.flatMap e_api_Router), .box 42 [B f.Addr.Six, .d (.v (.int .u64 f.Addr.Hi)), .d (.v (.int .u64 f.Addr.Lo)), I f.Bits]] := by
  refine ec_enter (Fr.of 0 _) Tryz.func117 rfl (Fr.of_ok _) (Nat.le_of_ble_eq_true rfl) fun _ => ?_
  refine go_in ?_
  unfold m_slices_IndexFunc_api_Router_api_Router_2 at h
  refine go hΓ 13 rfl ?_
  obtain ⟨q4, hq4, h5⟩ := bi_ok h
  obtain ⟨hb7, h8⟩ := gd_ok hq4
  replace hb7 := of_decide_eq_true hb7
  refine j_cutEZ (R := fun a6 => q4 = .go a6) (fun a6 => []) (fun a6 => [.row 69 6 s.length (s.flatMap e_api_Router), .box 42 [B f.Addr.Six, .d (.v (.int .u64 f.Addr.Hi)), .d (.v (.int .u64 f.Addr.Lo)), I f.Bits]]) ?_ ?_
  · refine go hΓ 1 rfl ?_
    refine j_rangeI h8 (fun i1 s2 => [(0, .sl 0 s.length), (1, .fn (.func 123) [] [.ptr 1 0]), (7, I (s.length : Int)), (8, I (i1 : Int))]) (fun s2 => [.row 69 6 s.length (s.flatMap e_api_Router), .box 42 [B f.Addr.Six, .d (.v (.int .u64 f.Addr.Hi)), .d (.v (.int .u64 f.Addr.Lo)), I f.Bits]]) ⟨⟨rfl, rfl, rfl, rfl, trivial⟩, [], rfl, .inl rfl⟩ (fun i1 s2 y12 hlt hy10 hout11 => ?_) (fun s2 hgo hge => ?_)
    · refine go hΓ 6 rfl ?_
      refine j_condT rfl (decide_eq_true hlt) ?_
      obtain ⟨x13, hx13, h14⟩ := bi_ok hy10
      have hj15 := getZ_at hx13
      refine go hΓ 15 rfl ?_
      refine eo_o rfl (op_elemRowZ hΓ hx13 rfl rfl rfl rfl rfl rfl) ?_
      refine eo_o rfl (op_loadRowZ hΓ (enc := e_api_Router) ((i1 : Int).toNat) 0 hj15 rfl rfl rfl rfl (fun _ => rfl) (g := .agg [B x13.Prefix.Addr.Six, .d (.v (.int .u64 x13.Prefix.Addr.Hi)), .d (.v (.int .u64 x13.Prefix.Addr.Lo)), I x13.Prefix.Bits, S x13.Node, I x13.Weight]) rfl) ?_
      obtain ⟨y16, hy16, h17⟩ := bi_ok h14
      refine eo_callF [1] (B y16) [.row 69 6 s.length (s.flatMap e_api_Router), .box 42 [B f.Addr.Six, .d (.v (.int .u64 f.Addr.Hi)), .d (.v (.int .u64 f.Addr.Lo)), I f.Bits]] (callable Tryz.func123 rfl rfl) (c_laneref1_routersOf_1 hy16) rfl (Nat.le_of_ble_eq_true rfl) rfl rfl rfl rfl rfl rfl rfl rfl rfl rfl ?_
      refine go_ops hΓ 2 rfl ?_
      refine j_cond rfl (fun hb => ?_) (fun hb => ?_)
      · have h18 := cT h17 hb
        refine go hΓ 9 rfl ?_
        obtain ⟨v19, hv19, h20⟩ := bi_ok h18
        obtain rfl := Option.some.inj h20
        obtain rfl := hout11 _ rfl
        obtain rfl := Option.some.inj h5
        refine go hΓ 4 rfl ?_
        obtain rfl := Option.some.inj hv19
        exact fin_objs hΓ [] (.inr rfl) rfl rfl rfl rfl (.inl rfl)
      · have h21 := cF h17 hb
        refine go hΓ 7 rfl ?_
        obtain rfl := Option.some.inj h21
        exact ⟨_, rfl, ⟨⟨rfl, rfl, rfl, get_eq rfl (w64_succ (by omega)), trivial⟩, [], rfl, .inl rfl⟩⟩
    · subst hgo
      refine go hΓ 6 rfl ?_
      refine j_condF rfl (decide_eq_false hge) ?_
      refine go hΓ 4 rfl ?_
      exact ⟨_, rfl, ⟨trivial, [], rfl, .inl rfl⟩⟩
  · intro a6 ha
    subst ha
    replace h5 := goI_l h5
    refine go hΓ 7 rfl ?_
    obtain rfl := Option.some.inj h5
    exact fin_objs hΓ [] (.inr rfl) rfl rfl rfl rfl (.inl rfl)
theorem c_slices_DeleteFunc_api_Router_api_Router_2 {k : Nat} {s : List T_api_Router} {f : T_api_Prefix} {r : List T_api_Router} (h : m_slices_DeleteFunc_api_Router_api_Router_2 k s f = some r) : EC Tryz.prog 62 [.sl 0 s.length, .fn (.func 123) [] [.ptr 1 0]] [.row 69 6 s.length (s.flatMap e_api_Router), .box 42 [B f.Addr.Six, .d (.v (.int .u64 f.Addr.Hi)), .d (.v (.int .u64 f.Addr.Lo)), I f.Bits]] fun g hp' => g = .sl 0 r.length ∧ hp' = [.row 69 6 r.length (r.flatMap e_api_Router), .box 42 [B f.Addr.Six, .d (.v (.int .u64 f.Addr.Hi)), .d (.v (.int .u64 f.Addr.Lo)), I f.Bits]] := by
  refine ec_enter (Fr.of 0 _) Tryz.func62 rfl (Fr.of_ok _) (Nat.le_of_ble_eq_true rfl) fun _ => ?_
  refine go_in ?_
  unfold m_slices_DeleteFunc_api_Router_api_Router_2 at h
  refine go hΓ 2 rfl ?_
  refine eo_nilOwn (t := 0) 69 6 rfl (Nat.le_of_ble_eq_true rfl) ?_
  obtain ⟨y1, hy1, h2⟩ := bi_ok h
  refine go_ops hΓ 6 rfl ?_
  refine eo_callF [0, 1] (I y1) [.row 69 6 s.length (s.flatMap e_api_Router), .box 42 [B f.Addr.Six, .d (.v (.int .u64 f.Addr.Hi)), .d (.v (.int .u64 f.Addr.Lo)), I f.Bits], .row 69 6 ([] : List T_api_Router).length (([] : List T_api_Router).flatMap e_api_Router)] (callable Tryz.func117 rfl rfl) (c_slices_IndexFunc_api_Router_api_Router_2 hy1) rfl (Nat.le_of_ble_eq_true rfl) rfl rfl rfl rfl rfl rfl rfl rfl rfl rfl ?_
  refine go_ops hΓ 10 rfl ?_
  refine j_cond rfl (fun hb => ?_) (fun hb => ?_)
  · have h3 := cT h2 hb
    refine go hΓ 8 rfl ?_
    obtain rfl := Option.some.inj h3
    exact fin_objs hΓ [_] (.inr rfl) rfl rfl rfl rfl (.inr ⟨HB.mk rfl, rfl⟩)
  · have h4 := cF h2 hb
    refine go hΓ 10 rfl ?_
    obtain ⟨q8, hq8, h9⟩ := bi_ok h4
    refine j_cutNZ [(0, .sl 0 q8.1.length), (5, I q8.2)] [.row 69 6 q8.1.length (q8.1.flatMap e_api_Router), .box 42 [B f.Addr.Six, .d (.v (.int .u64 f.Addr.Hi)), .d (.v (.int .u64 f.Addr.Lo)), I f.Bits], .row 69 6 ([] : List T_api_Router).length (([] : List T_api_Router).flatMap e_api_Router)] ?_ ?_
    · refine go hΓ 1 rfl ?_
      refine j_loop hq8 (fun s6 => [(0, .sl 0 s6.1.length), (1, .fn (.func 123) [] [.ptr 1 0]), (5, I s6.2.1), (6, I s6.2.2)]) (fun s6 => [.row 69 6 s6.1.length (s6.1.flatMap e_api_Router), .box 42 [B f.Addr.Six, .d (.v (.int .u64 f.Addr.Hi)), .d (.v (.int .u64 f.Addr.Lo)), I f.Bits], .row 69 6 ([] : List T_api_Router).length (([] : List T_api_Router).flatMap e_api_Router)]) ⟨⟨rfl, rfl, rfl, rfl, trivial⟩, [], rfl, .inl rfl⟩ (fun s6 y14 hy12 hout13 => ?_)
      refine go hΓ 9 rfl ?_
      refine j_cond rfl (fun hb => ?_) (fun hb => ?_)
      · have h15 := cT hy12 hb
        obtain ⟨x16, hx16, h17⟩ := bi_ok h15
        have hj18 := getZ_at hx16
        refine go hΓ 8 rfl ?_
        refine eo_o rfl (op_elemRowZ hΓ hx16 rfl rfl rfl rfl rfl rfl) ?_
        refine eo_o rfl (op_loadRowZ hΓ (enc := e_api_Router) s6.2.2.toNat 0 hj18 rfl rfl rfl rfl (fun _ => rfl) (g := .agg [B x16.Prefix.Addr.Six, .d (.v (.int .u64 x16.Prefix.Addr.Hi)), .d (.v (.int .u64 x16.Prefix.Addr.Lo)), I x16.Prefix.Bits, S x16.Node, I x16.Weight]) rfl) ?_
        refine eo_alloc hΓ rfl rfl rfl (Nat.le_of_ble_eq_true rfl) ?_
        refine eo_store hΓ rfl rfl rfl rfl rfl rfl rfl rfl (Nat.le_of_ble_eq_true rfl) ?_
        refine eo_hp [.row 69 6 s6.1.length (s6.1.flatMap e_api_Router), .box 42 [B f.Addr.Six, .d (.v (.int .u64 f.Addr.Hi)), .d (.v (.int .u64 f.Addr.Lo)), I f.Bits], .row 69 6 ([] : List T_api_Router).length (([] : List T_api_Router).flatMap e_api_Router), .box 69 [B x16.Prefix.Addr.Six, .d (.v (.int .u64 x16.Prefix.Addr.Hi)), .d (.v (.int .u64 x16.Prefix.Addr.Lo)), I x16.Prefix.Bits, S x16.Node, I x16.Weight]] rfl ?_
        obtain ⟨y19, hy19, h20⟩ := bi_ok h17
        refine go_ops hΓ 6 rfl ?_
        refine eo_callF [1] (B y19) [.row 69 6 s6.1.length (s6.1.flatMap e_api_Router), .box 42 [B f.Addr.Six, .d (.v (.int .u64 f.Addr.Hi)), .d (.v (.int .u64 f.Addr.Lo)), I f.Bits], .row 69 6 ([] : List T_api_Router).length (([] : List T_api_Router).flatMap e_api_Router), .box 69 [B x16.Prefix.Addr.Six, .d (.v (.int .u64 x16.Prefix.Addr.Hi)), .d (.v (.int .u64 x16.Prefix.Addr.Lo)), I x16.Prefix.Bits, S x16.Node, I x16.Weight]] (callable Tryz.func123 rfl rfl) (c_laneref1_routersOf_1 hy19) rfl (Nat.le_of_ble_eq_true rfl) rfl rfl rfl rfl rfl rfl rfl rfl rfl rfl ?_
        refine go_ops hΓ 3 rfl ?_
        refine j_cond rfl (fun hb => ?_) (fun hb => ?_)
        · have h21 := cT h20 hb
          obtain ⟨x22, hx22, h23⟩ := bi_ok h21
          have hj24 := getZ_at hx22
          refine go hΓ 5 rfl ?_
          refine eo_o rfl (op_elemRowZ hΓ hx22 rfl rfl rfl rfl rfl rfl) ?_
          refine eo_storeRowZ hΓ (enc := e_api_Router) (z' := x16) s6.2.1.toNat 0 hj24 rfl rfl rfl rfl (fun _ => rfl) rfl rfl rfl rfl rfl rfl (Nat.le_of_ble_eq_true rfl) ?_
          refine eo_hp [.row 69 6 (s6.1.set s6.2.1.toNat x16).length ((s6.1.set s6.2.1.toNat x16).flatMap e_api_Router), .box 42 [B f.Addr.Six, .d (.v (.int .u64 f.Addr.Hi)), .d (.v (.int .u64 f.Addr.Lo)), I f.Bits], .row 69 6 ([] : List T_api_Router).length (([] : List T_api_Router).flatMap e_api_Router), .box 69 [B x16.Prefix.Addr.Six, .d (.v (.int .u64 x16.Prefix.Addr.Hi)), .d (.v (.int .u64 x16.Prefix.Addr.Lo)), I x16.Prefix.Bits, S x16.Node, I x16.Weight]] rfl ?_
          refine eo_relen 0 (n' := (s6.1.set s6.2.1.toNat x16).length) rfl List.length_set.symm ?_
          refine go_ops hΓ 14 rfl ?_
          obtain rfl := Option.some.inj h23
          exact ⟨_, rfl, ⟨⟨rfl, rfl, rfl, rfl, trivial⟩, [_], rfl, .inr ⟨HB.mk rfl, FB.mk rfl, (Nat.le_of_ble_eq_true rfl)⟩⟩⟩
        · have h25 := cF h20 hb
          refine go hΓ 8 rfl ?_
          obtain rfl := Option.some.inj h25
          exact ⟨_, rfl, ⟨⟨rfl, rfl, rfl, rfl, trivial⟩, [_], rfl, .inr ⟨HB.mk rfl, FB.mk rfl, (Nat.le_of_ble_eq_true rfl)⟩⟩⟩
      · have h26 := cF hy12 hb
        refine go hΓ 4 rfl ?_
        obtain rfl := Option.some.inj h26
        obtain rfl := hout13 _ rfl
        exact ⟨⟨rfl, rfl, trivial⟩, [], rfl, .inl rfl⟩
    · obtain ⟨z27, hz27, h28⟩ := bi_ok h9
      refine go hΓ 5 rfl ?_
      refine eo_o rfl (op_viewI hΓ hz27 rfl rfl rfl rfl rfl rfl) ?_
      refine eo_s0 (Nat.le_of_ble_eq_true rfl) (ops_clearT hΓ (enc := e_api_Router) (a := q8.2) hz27 rfl rfl rfl rfl rfl rfl rfl rfl rfl rfl (fun _ => rfl)) ?_
      refine go_ops hΓ 6 rfl ?_
      refine eo_subCut hΓ hz27 rfl rfl rfl rfl rfl rfl rfl rfl ?_
      refine go_ops hΓ 4 rfl ?_
      obtain rfl := Option.some.inj h28
      exact fin_objs hΓ [_] (.inr rfl) rfl rfl rfl rfl (.inr ⟨HB.mk rfl, rfl⟩)
theorem c_laneref1_routersOf {k : Nat} {v_r : List T_api_Router} {p : T_api_Prefix} {r : List T_api_Router} (h : m_laneref1_routersOf k v_r p = some r) : EC Tryz.prog 75 [.d (Sl e_api_Router v_r), .agg [B p.Addr.Six, .d (.v (.int .u64 p.Addr.Hi)), .d (.v (.int .u64 p.Addr.Lo)), I p.Bits]] [] fun g hp' => g = .sl 0 r.length ∧ hp' = [.row 69 6 r.length (r.flatMap e_api_Router)] := by
  refine ec_enterC (Fr.of 0 _) Tryz.func75 rfl (Fr.of_ok _) (Nat.le_of_ble_eq_true rfl) fun _ => ?_
  refine go_in ?_
  unfold m_laneref1_routersOf at h
  refine go hΓ 2 rfl ?_
  refine eo_box rfl rfl rfl rfl (Nat.le_of_ble_eq_true rfl) ?_
  refine eo_nilOwn (t := 0) 69 6 rfl (Nat.le_of_ble_eq_true rfl) ?_
  obtain ⟨y1, hy1, h2⟩ := bi_ok h
  refine go_ops hΓ 5 rfl ?_
  refine eo_callF [] (.sl 2 y1.length) [.box 42 [B p.Addr.Six, .d (.v (.int .u64 p.Addr.Hi)), .d (.v (.int .u64 p.Addr.Lo)), I p.Bits], .row 69 6 ([] : List T_api_Router).length (([] : List T_api_Router).flatMap e_api_Router), .row 69 6 y1.length (y1.flatMap e_api_Router)] (callable Tryz.func63 rfl rfl) (c_slices_Clone_api_Router_api_Router hy1) rfl (Nat.le_of_ble_eq_true rfl) rfl rfl rfl rfl rfl rfl rfl rfl rfl rfl ?_
  obtain ⟨y3, hy3, h4⟩ := bi_ok h2
  refine go_ops hΓ 1 rfl ?_
  refine eo_callF [2, 0] (.sl 2 y3.length) [.box 42 [B p.Addr.Six, .d (.v (.int .u64 p.Addr.Hi)), .d (.v (.int .u64 p.Addr.Lo)), I p.Bits], .row 69 6 ([] : List T_api_Router).length (([] : List T_api_Router).flatMap e_api_Router), .row 69 6 y3.length (y3.flatMap e_api_Router)] (callable Tryz.func62 rfl rfl) (c_slices_DeleteFunc_api_Router_api_Router_2 hy3) rfl (Nat.le_of_ble_eq_true rfl) rfl rfl rfl rfl rfl rfl rfl rfl rfl rfl ?_
  refine go_ops hΓ 4 rfl ?_
  refine cv_kill 0 [.dead, .row 69 6 ([] : List T_api_Router).length (([] : List T_api_Router).flatMap e_api_Router), .row 69 6 y3.length (y3.flatMap e_api_Router)] rfl (Nat.le_of_ble_eq_true rfl) ?_
  refine cv_move 2 0 [.row 69 6 y3.length (y3.flatMap e_api_Router), .row 69 6 ([] : List T_api_Router).length (([] : List T_api_Router).flatMap e_api_Router), .dead] rfl rfl rfl rfl rfl rfl ?_
  refine cv_here ?_
  obtain rfl := Option.some.inj h4
  exact fin_objs hΓ [_, _] (.inr rfl) rfl rfl rfl rfl (.inr ⟨HB.mk rfl, rfl⟩)
theorem c_laneref1_FirstTurns_1 {a : T_api_Router} {b : T_api_Router} {r : Int} (h : m_laneref1_FirstTurns_1 a b = some r) : Pure Tryz.prog 99 [.agg [B a.Prefix.Addr.Six, .d (.v (.int .u64 a.Prefix.Addr.Hi)), .d (.v (.int .u64 a.Prefix.Addr.Lo)), I a.Prefix.Bits, S a.Node, I a.Weight], .agg [B b.Prefix.Addr.Six, .d (.v (.int .u64 b.Prefix.Addr.Hi)), .d (.v (.int .u64 b.Prefix.Addr.Lo)), I b.Prefix.Bits, S b.Node, I b.Weight]] (I r) := by
  refine Pure.enter (Fr.of 0 _) Tryz.func99 rfl (Fr.of_ok _) rfl rfl ?_
  refine go_in ?_
  unfold m_laneref1_FirstTurns_1 at h
  refine go hΓ 2 rfl ?_
  refine eo_box rfl rfl rfl rfl (Nat.le_of_ble_eq_true rfl) ?_
  refine eo_box rfl rfl rfl rfl (Nat.le_of_ble_eq_true rfl) ?_
  obtain ⟨y1, hy1, h2⟩ := bi_ok h
  refine go_ops hΓ 9 rfl ?_
  refine eo_callP (callable Tryz.func68 rfl rfl) (c_cmp_Compare_int hy1) rfl (Nat.le_of_ble_eq_true rfl) rfl rfl rfl rfl rfl ?_
  refine go_ops hΓ 4 rfl ?_
  obtain rfl := Option.some.inj h2
  exact fin_pure hΓ (.inr rfl) rfl rfl
theorem c_slices_insertionSortCmpFunc_api_Router_2 {k : Nat} {data : List T_api_Router} {a : Int} {b : Int} {r : List T_api_Router} (h : m_slices_insertionSortCmpFunc_api_Router_2 k data a b = some r) : EC Tryz.prog 147 [.sl 0 data.length, I a, I b, .fn (.func 99) [] []] [.row 69 6 data.length (data.flatMap e_api_Router)] fun g hp' => g = .tup [] ∧ hp' = [.row 69 6 r.length (r.flatMap e_api_Router)] := by
  refine ec_enter (Fr.of 0 _) Tryz.func147 rfl (Fr.of_ok _) (Nat.le_of_ble_eq_true rfl) fun _ => ?_
  refine go_in ?_
  unfold m_slices_insertionSortCmpFunc_api_Router_2 at h
  refine go hΓ 7 rfl ?_
  obtain ⟨q4, hq4, h5⟩ := bi_ok h
  refine j_cutNZ [] [.row 69 6 q4.length (q4.flatMap e_api_Router)] ?_ ?_
  · refine go hΓ 1 rfl ?_
    refine j_loop hq4 (fun s2 => [(0, .sl 0 s2.1.length), (1, I a), (2, I b), (3, .fn (.func 99) [] []), (8, I s2.2)]) (fun s2 => [.row 69 6 s2.1.length (s2.1.flatMap e_api_Router)]) ⟨⟨rfl, rfl, rfl, rfl, rfl, trivial⟩, [], rfl, .inl rfl⟩ (fun s2 y10 hy8 hout9 => ?_)
    refine go hΓ 8 rfl ?_
    refine j_cond rfl (fun hb => ?_) (fun hb => ?_)
    · have h11 := cT hy8 hb
      refine go hΓ 10 rfl ?_
      obtain ⟨q15, hq15, h16⟩ := bi_ok h11
      refine j_cutNZ [(0, .sl 0 q15.length), (1, I a), (2, I b), (3, .fn (.func 99) [] []), (8, I s2.2)] [.row 69 6 q15.length (q15.flatMap e_api_Router)] ?_ ?_
      · refine go hΓ 1 rfl ?_
        refine j_loop hq15 (fun s13 => [(0, .sl 0 s13.1.length), (1, I a), (2, I b), (3, .fn (.func 99) [] []), (8, I s2.2), (9, I s13.2)]) (fun s13 => [.row 69 6 s13.1.length (s13.1.flatMap e_api_Router)]) ⟨⟨rfl, rfl, rfl, rfl, rfl, rfl, trivial⟩, [], rfl, .inl rfl⟩ (fun s13 y21 hy19 hout20 => ?_)
        obtain ⟨q22, hq22, h23⟩ := bi_ok hy19
        refine go hΓ 2 rfl ?_
        refine j_cutNZ [(0, .sl 0 s13.1.length), (1, I a), (2, I b), (3, .fn (.func 99) [] []), (8, I s2.2), (9, I s13.2), (34, B q22)] [.row 69 6 s13.1.length (s13.1.flatMap e_api_Router)] ?_ ?_
        · refine j_draw hmix (by kernel_rfl) ?_
          refine go hΓ 4 rfl ?_
          refine gl_gsplit rfl rfl (fun hb => ?_) (fun hb => ?_)
          · have h24 := cT hq22 hb
            obtain ⟨x25, hx25, h26⟩ := bi_ok h24
            have hj27 := getZ_at hx25
            refine go_draw hΓ 3 rfl ?_
            refine gl_og rfl rfl (op_elemRowZ hΓ hx25 rfl rfl rfl rfl rfl rfl) ?_
            refine gl_og rfl rfl (op_loadRowZ hΓ (enc := e_api_Router) s13.2.toNat 0 hj27 rfl rfl rfl rfl (fun _ => rfl) (g := .agg [B x25.Prefix.Addr.Six, .d (.v (.int .u64 x25.Prefix.Addr.Hi)), .d (.v (.int .u64 x25.Prefix.Addr.Lo)), I x25.Prefix.Bits, S x25.Node, I x25.Weight]) rfl) ?_
            obtain ⟨x28, hx28, h29⟩ := bi_ok h26
            have hj30 := getZ_at hx28
            refine go_draw hΓ 3 rfl ?_
            refine gl_og rfl rfl (op_elemRowZ hΓ hx28 rfl rfl rfl rfl rfl rfl) ?_
            refine gl_og rfl rfl (op_loadRowZ hΓ (enc := e_api_Router) ((wi (s13.2 - 1)).toNat) 0 hj30 rfl rfl rfl rfl (fun _ => rfl) (g := .agg [B x28.Prefix.Addr.Six, .d (.v (.int .u64 x28.Prefix.Addr.Hi)), .d (.v (.int .u64 x28.Prefix.Addr.Lo)), I x28.Prefix.Bits, S x28.Node, I x28.Weight]) rfl) ?_
            obtain ⟨y31, hy31, h32⟩ := bi_ok h29
            refine gl_callPg (callable Tryz.func99 rfl rfl) (c_laneref1_FirstTurns_1 hy31) rfl rfl rfl rfl rfl rfl rfl ?_
            refine go_draw hΓ 3 rfl ?_
            obtain rfl := Option.some.inj h32
            exact ⟨⟨rfl, rfl, rfl, rfl, rfl, rfl, rfl, trivial⟩, [], rfl, .inl rfl⟩
          · have h33 := cF hq22 hb
            refine go_draw hΓ 14 rfl ?_
            obtain rfl := Option.some.inj h33
            exact ⟨⟨rfl, rfl, rfl, rfl, rfl, rfl, rfl, trivial⟩, [], rfl, .inl rfl⟩
        · refine go hΓ 1 rfl ?_
          refine j_cond rfl (fun hb => ?_) (fun hb => ?_)
          · have h34 := cT h23 hb
            refine go hΓ 4 rfl ?_
            refine j_drawE [.row 69 6 s13.1.length (s13.1.flatMap e_api_Router)] [9, 13] [15, 17] [15, 17] hmix (by kernel_rfl) (by kernel_rfl) ⟨rfl, trivial⟩ (Nat.le_of_ble_eq_true rfl) ?_
            obtain ⟨x35, hx35, h36⟩ := bi_ok h34
            have hj37 := getZ_at hx35
            refine go_E hΓ 8 rfl ?_
            refine ge_q rfl (.inl rfl) (fun _ _ => qte_of_qt (qt_p (op_elemRowZ hΓ hx35 rfl rfl rfl rfl rfl rfl))) ?_
            refine ge_p rfl (fun hp hs => op_loadRowZ hΓ (enc := e_api_Router) ((wi (s13.2 - 1)).toNat) 0 hj37 rfl rfl rfl (hs 0 _ rfl rfl) (fun _ => rfl) (g := .agg [B x35.Prefix.Addr.Six, .d (.v (.int .u64 x35.Prefix.Addr.Hi)), .d (.v (.int .u64 x35.Prefix.Addr.Lo)), I x35.Prefix.Bits, S x35.Node, I x35.Weight]) rfl) rfl ?_
            obtain ⟨x38, hx38, h39⟩ := bi_ok h36
            have hj40 := getZ_at hx38
            refine go_E hΓ 2 rfl ?_
            refine ge_q rfl (.inl rfl) (fun _ _ => qte_of_qt (qt_p (op_elemRowZ hΓ hx38 rfl rfl rfl rfl rfl rfl))) ?_
            refine ge_p rfl (fun hp hs => op_loadRowZ hΓ (enc := e_api_Router) s13.2.toNat 0 hj40 rfl rfl rfl (hs 0 _ rfl rfl) (fun _ => rfl) (g := .agg [B x38.Prefix.Addr.Six, .d (.v (.int .u64 x38.Prefix.Addr.Hi)), .d (.v (.int .u64 x38.Prefix.Addr.Lo)), I x38.Prefix.Bits, S x38.Node, I x38.Weight]) rfl) rfl ?_
            obtain ⟨x41, hx41, h42⟩ := bi_ok h39
            have hj43 := getZ_at hx41
            refine ge_q rfl (.inl rfl) (fun _ _ => qte_of_qt (qt_p (op_elemRowZ hΓ hx41 rfl rfl rfl rfl rfl rfl))) ?_
            refine ge_h0 [.row 69 6 (s13.1.set s13.2.toNat x35).length ((s13.1.set s13.2.toNat x35).flatMap e_api_Router)] rfl rfl (brk_st rfl) (qte_u (opu_setRowZ hΓ (enc := e_api_Router) (z' := x35) s13.2.toNat (by have := (List.getElem?_eq_some_iff.1 hj43).1; simpa using this) rfl rfl rfl rfl (fun _ => rfl) rfl rfl rfl rfl rfl)) ?_
            obtain ⟨x44, hx44, h45⟩ := bi_ok h42
            have hj46 := getZ_at hx44
            refine ge_q rfl (.inl rfl) (fun _ _ => qte_of_qt (qt_p (op_elemRowZ hΓ hx44 rfl rfl rfl rfl rfl rfl))) ?_
            obtain ⟨x47, hx47, h48⟩ := bi_ok h45
            have hj49 : (s13.1.set s13.2.toNat x35)[(wi (s13.2 - 1)).toNat]? = some x47 := hx47
            refine ge_h0 [.row 69 6 ((s13.1.set s13.2.toNat x35).set ((wi (s13.2 - 1)).toNat) x38).length (((s13.1.set s13.2.toNat x35).set ((wi (s13.2 - 1)).toNat) x38).flatMap e_api_Router)] rfl rfl (brk_st rfl) (qte_u (opu_setRowZ hΓ (enc := e_api_Router) (z' := x38) ((wi (s13.2 - 1)).toNat) (by have := (List.getElem?_eq_some_iff.1 hj49).1; simpa using this) rfl rfl rfl rfl (fun _ => rfl) rfl rfl rfl rfl rfl)) ?_
            refine ge_fin ?_
            refine go hΓ 2 rfl ?_
            refine j_relen 0 (n' := ((s13.1.set s13.2.toNat x35).set ((wi (s13.2 - 1)).toNat) x38).length) rfl (by simp) ?_
            refine j_relen 37 (n' := ((s13.1.set s13.2.toNat x35).set ((wi (s13.2 - 1)).toNat) x38).length) rfl (by simp) ?_
            refine j_relen 39 (n' := ((s13.1.set s13.2.toNat x35).set ((wi (s13.2 - 1)).toNat) x38).length) rfl (by simp) ?_
            refine j_relen 42 (n' := ((s13.1.set s13.2.toNat x35).set ((wi (s13.2 - 1)).toNat) x38).length) rfl (by simp) ?_
            refine j_relen 47 (n' := ((s13.1.set s13.2.toNat x35).set ((wi (s13.2 - 1)).toNat) x38).length) rfl (by simp) ?_
            refine go hΓ 5 rfl ?_
            obtain rfl := Option.some.inj h48
            exact ⟨_, rfl, ⟨⟨rfl, rfl, rfl, rfl, rfl, rfl, trivial⟩, [], rfl, .inl rfl⟩⟩
          · have h50 := cF h23 hb
            refine go hΓ 4 rfl ?_
            obtain rfl := Option.some.inj h50
            obtain rfl := hout20 _ rfl
            exact ⟨⟨rfl, rfl, rfl, rfl, rfl, trivial⟩, [], rfl, .inl rfl⟩
      · refine go hΓ 7 rfl ?_
        obtain rfl := Option.some.inj h16
        exact ⟨_, rfl, ⟨⟨rfl, rfl, rfl, rfl, rfl, trivial⟩, [], rfl, .inl rfl⟩⟩
    · have h51 := cF hy8 hb
      refine go hΓ 4 rfl ?_
      obtain rfl := Option.some.inj h51
      obtain rfl := hout9 _ rfl
      exact ⟨trivial, [], rfl, .inl rfl⟩
  · obtain rfl := Option.some.inj h5
    exact fin_objs hΓ [] (.inl rfl) rfl rfl rfl rfl (.inl rfl)
theorem c_slices_stableCmpFunc_api_Router_2 {k : Nat} {data : List T_api_Router} {n : Int} {r : List T_api_Router} (h : m_slices_stableCmpFunc_api_Router_2 k data n = some r) : EC Tryz.prog 118 [.sl 0 data.length, I n, .fn (.func 99) [] []] [.row 69 6 data.length (data.flatMap e_api_Router)] fun g hp' => g = .tup [] ∧ hp' = [.row 69 6 r.length (r.flatMap e_api_Router)] := by
  refine ec_enter (Fr.of 0 _) Tryz.func118 rfl (Fr.of_ok _) (Nat.le_of_ble_eq_true rfl) fun _ => ?_
  refine go_in ?_
  unfold m_slices_stableCmpFunc_api_Router_2 at h
  refine go hΓ 13 rfl ?_
  obtain ⟨q4, hq4, h5⟩ := bi_ok h
  refine j_cutNZ [(0, .sl 0 q4.1.length), (1, I n), (2, .fn (.func 99) [] []), (6, I 20), (7, I q4.2)] [.row 69 6 q4.1.length (q4.1.flatMap e_api_Router)] ?_ ?_
  · refine go hΓ 1 rfl ?_
    refine j_loop hq4 (fun s2 => [(0, .sl 0 s2.1.length), (1, I n), (2, .fn (.func 99) [] []), (6, I 20), (7, I s2.2.1), (8, I s2.2.2)]) (fun s2 => [.row 69 6 s2.1.length (s2.1.flatMap e_api_Router)]) ⟨⟨rfl, rfl, rfl, rfl, rfl, rfl, trivial⟩, [], rfl, .inl rfl⟩ (fun s2 y10 hy8 hout9 => ?_)
    refine go hΓ 8 rfl ?_
    refine j_cond rfl (fun hb => ?_) (fun hb => ?_)
    · have h11 := cT hy8 hb
      obtain ⟨y12, hy12, h13⟩ := bi_ok h11
      refine go hΓ 9 rfl ?_
      refine eo_callF [0] (.tup []) [.row 69 6 y12.length (y12.flatMap e_api_Router)] (callable Tryz.func147 rfl rfl) (c_slices_insertionSortCmpFunc_api_Router_2 hy12) rfl (Nat.le_of_ble_eq_true rfl) rfl rfl rfl rfl rfl rfl rfl rfl rfl rfl ?_
      obtain ⟨hg15, h14⟩ := gd_ok h13
      refine eo_relen 0 rfl (of_decide_eq_true hg15).symm ?_
      refine go_ops hΓ 15 rfl ?_
      obtain rfl := Option.some.inj h14
      exact ⟨_, rfl, ⟨⟨rfl, rfl, rfl, rfl, rfl, rfl, trivial⟩, [], rfl, .inl rfl⟩⟩
    · have h16 := cF hy8 hb
      refine go hΓ 4 rfl ?_
      obtain rfl := Option.some.inj h16
      obtain rfl := hout9 _ rfl
      exact ⟨⟨rfl, rfl, rfl, rfl, rfl, trivial⟩, [], rfl, .inl rfl⟩
  · obtain ⟨y17, hy17, h18⟩ := bi_ok h5
    refine go hΓ 7 rfl ?_
    refine eo_callF [0] (.tup []) [.row 69 6 y17.length (y17.flatMap e_api_Router)] (callable Tryz.func147 rfl rfl) (c_slices_insertionSortCmpFunc_api_Router_2 hy17) rfl (Nat.le_of_ble_eq_true rfl) rfl rfl rfl rfl rfl rfl rfl rfl rfl rfl ?_
    obtain ⟨hg20, h19⟩ := gd_ok h18
    refine eo_relen 0 rfl (of_decide_eq_true hg20).symm ?_
    refine go_ops hΓ 2 rfl ?_
    obtain ⟨q24, hq24, h25⟩ := bi_ok h19
    refine j_cutNZ [] [.row 69 6 y17.length (y17.flatMap e_api_Router)] ?_ ?_
    · refine go hΓ 1 rfl ?_
      refine j_loop hq24 (fun s22 => [(0, .sl 0 y17.length), (1, I n), (2, .fn (.func 99) [] []), (6, I s22)]) (fun s22 => [.row 69 6 y17.length (y17.flatMap e_api_Router)]) ⟨⟨rfl, rfl, rfl, rfl, trivial⟩, [], rfl, .inl rfl⟩ (fun s22 y30 hy28 hout29 => ?_)
      refine go hΓ 8 rfl ?_
      refine j_cond rfl (fun hb => ?_) (fun hb => ?_)
      · have h31 := cT hy28 hb
        refine go hΓ 12 rfl ?_
        obtain ⟨q35, hq35, h36⟩ := bi_ok h31
        refine j_cutNZ [(0, .sl 0 y17.length), (1, I n), (2, .fn (.func 99) [] []), (6, I s22), (7, I 0)] [.row 69 6 y17.length (y17.flatMap e_api_Router)] ?_ ?_
        · refine go hΓ 1 rfl ?_
          refine j_loop hq35 (fun s33 => [(0, .sl 0 y17.length), (1, I n), (2, .fn (.func 99) [] []), (6, I s22), (7, I 0), (8, I (wi (2 * s22)))]) (fun s33 => [.row 69 6 y17.length (y17.flatMap e_api_Router)]) ⟨⟨rfl, rfl, rfl, rfl, rfl, rfl, trivial⟩, [], rfl, .inl rfl⟩ (fun s33 y41 hy39 hout40 => ?_)
          refine go hΓ 8 rfl ?_
          refine j_cond rfl (fun hb => ?_) (fun hb => ?_)
          · have h42 := cT hy39 hb
            refine go hΓ 12 rfl ?_
            cases h42
          · have h43 := cF hy39 hb
            refine go hΓ 4 rfl ?_
            obtain rfl := Option.some.inj h43
            obtain rfl := hout40 _ rfl
            exact ⟨⟨rfl, rfl, rfl, rfl, rfl, trivial⟩, [], rfl, .inl rfl⟩
        · refine go hΓ 17 rfl ?_
          refine j_cond rfl (fun hb => ?_) (fun hb => ?_)
          · have h44 := cT h36 hb
            refine go hΓ 6 rfl ?_
            cases h44
          · have h45 := cF h36 hb
            refine go hΓ 8 rfl ?_
            obtain rfl := Option.some.inj h45
            exact ⟨_, rfl, ⟨⟨rfl, rfl, rfl, rfl, trivial⟩, [], rfl, .inl rfl⟩⟩
      · have h46 := cF hy28 hb
        refine go hΓ 4 rfl ?_
        obtain rfl := Option.some.inj h46
        obtain rfl := hout29 _ rfl
        exact ⟨trivial, [], rfl, .inl rfl⟩
    · obtain rfl := Option.some.inj h25
      exact fin_objs hΓ [] (.inl rfl) rfl rfl rfl rfl (.inl rfl)
theorem c_slices_SortStableFunc_api_Router_api_Router_2 {k : Nat} {x : List T_api_Router} {r : List T_api_Router} (h : m_slices_SortStableFunc_api_Router_api_Router_2 k x = some r) : EC Tryz.prog 66 [.sl 0 x.length, .fn (.func 99) [] []] [.row 69 6 x.length (x.flatMap e_api_Router)] fun g hp' => g = .tup [] ∧ hp' = [.row 69 6 r.length (r.flatMap e_api_Router)] := by
  refine ec_enter (Fr.of 0 _) Tryz.func66 rfl (Fr.of_ok _) (Nat.le_of_ble_eq_true rfl) fun _ => ?_
  refine go_in ?_
  unfold m_slices_SortStableFunc_api_Router_api_Router_2 at h
  obtain ⟨y1, hy1, h2⟩ := bi_ok h
  refine go hΓ 5 rfl ?_
  refine eo_callF [0] (.tup []) [.row 69 6 y1.length (y1.flatMap e_api_Router)] (callable Tryz.func118 rfl rfl) (c_slices_stableCmpFunc_api_Router_2 hy1) rfl (Nat.le_of_ble_eq_true rfl) rfl rfl rfl rfl rfl rfl rfl rfl rfl rfl ?_
  refine go_ops hΓ 1 rfl ?_
  obtain rfl := Option.some.inj h2
  exact fin_objs hΓ [] (.inl rfl) rfl rfl rfl rfl (.inl rfl)
theorem c_slices_Compact_int_int {k : Nat} {s : List Int} {r : List Int} (h : m_slices_Compact_int_int k s = some r) : EC Tryz.prog 132 [.sl 0 s.length] [.row 3 1 s.length (s.flatMap (eN .i64))] fun g hp' => g = .sl 0 r.length ∧ hp' = [.row 3 1 r.length (r.flatMap (eN .i64))] := by
  refine ec_enter (Fr.of 0 _) Tryz.func132 rfl (Fr.of_ok _) (Nat.le_of_ble_eq_true rfl) fun _ => ?_
  refine go_in ?_
  unfold m_slices_Compact_int_int at h
  refine go hΓ 13 rfl ?_
  refine j_cond rfl (fun hb => ?_) (fun hb => ?_)
  · have h1 := cT h hb
    refine go hΓ 8 rfl ?_
    obtain rfl := Option.some.inj h1
    exact fin_objs hΓ [] (.inr rfl) rfl rfl rfl rfl (.inl rfl)
  · have h2 := cF h hb
    refine go hΓ 8 rfl ?_
    obtain ⟨q6, hq6, h7⟩ := bi_ok h2
    refine j_cutEZ (R := fun a8 => q6 = .inl a8) (fun a8 => [(0, .sl 0 s.length)]) (fun a8 => [.row 3 1 s.length (s.flatMap (eN .i64))]) ?_ ?_
    · refine go hΓ 1 rfl ?_
      refine j_loop hq6 (fun s4 => [(0, .sl 0 s.length), (3, I s4)]) (fun s4 => [.row 3 1 s.length (s.flatMap (eN .i64))]) ⟨⟨rfl, rfl, trivial⟩, [], rfl, .inl rfl⟩ (fun s4 y12 hy10 hout11 => ?_)
      refine go hΓ 9 rfl ?_
      refine j_cond rfl (fun hb => ?_) (fun hb => ?_)
      · have h13 := cT hy10 hb
        refine go hΓ 5 rfl ?_
        refine j_draw hmix (by kernel_rfl) ?_
        obtain ⟨x14, hx14, h15⟩ := bi_ok h13
        have hj16 := getZ_at hx14
        refine go hΓ 2 rfl ?_
        refine gl_o rfl (op_elemRowZ hΓ hx14 rfl rfl rfl rfl rfl rfl) ?_
        refine gl_o rfl (op_loadRowZ hΓ (enc := (eN .i64)) s4.toNat 0 hj16 rfl rfl rfl rfl (fun _ => rfl) (g := I x14) rfl) ?_
        obtain ⟨x17, hx17, h18⟩ := bi_ok h15
        have hj19 := getZ_at hx17
        refine go_draw hΓ 3 rfl ?_
        refine gl_o rfl (op_elemRowZ hΓ hx17 rfl rfl rfl rfl rfl rfl) ?_
        refine gl_o rfl (op_loadRowZ hΓ (enc := (eN .i64)) ((wi (s4 - 1)).toNat) 0 hj19 rfl rfl rfl rfl (fun _ => rfl) (g := I x17) rfl) ?_
        refine go_draw hΓ 3 rfl ?_
        refine j_cond rfl (fun hb => ?_) (fun hb => ?_)
        · have h20 := cT h18 hb
          obtain ⟨z21, hz21, h22⟩ := bi_ok h20
          refine go hΓ 4 rfl ?_
          refine eo_o rfl (op_viewI hΓ hz21 rfl rfl rfl rfl rfl rfl) ?_
          refine go_ops hΓ 9 rfl ?_
          obtain ⟨q26, hq26, h27⟩ := bi_ok h22
          refine j_cutNZ [(0, .sl 0 q26.1.length), (3, I q26.2)] [.row 3 1 q26.1.length (q26.1.flatMap (eN .i64))] ?_ ?_
          · refine go hΓ 1 rfl ?_
            refine j_loop hq26 (fun s24 => [(0, .sl 0 s24.1.length), (3, I s24.2.1), (4, .slo 0 1 s4.toNat z21.length), (5, I s24.2.2)]) (fun s24 => [.row 3 1 s24.1.length (s24.1.flatMap (eN .i64))]) ⟨⟨rfl, rfl, rfl, rfl, trivial⟩, [], rfl, .inl rfl⟩ (fun s24 y32 hy30 hout31 => ?_)
            refine go hΓ 9 rfl ?_
            refine j_cond rfl (fun hb => ?_) (fun hb => ?_)
            · have h33 := cT hy30 hb
              refine go hΓ 5 rfl ?_
              refine j_draw hmix (by kernel_rfl) ?_
              obtain ⟨x34, hx34, h35⟩ := bi_ok h33
              obtain ⟨x36, hx36, h37⟩ := bi_ok h35
              have hj38 : s24.1[(s4.toNat + s24.2.2.toNat)]? = some x36 := hx36
              refine go hΓ 2 rfl ?_
              refine gl_o rfl (op_elemView hΓ hx34 rfl rfl rfl rfl rfl rfl rfl) ?_
              refine gl_o rfl (op_loadRowZ hΓ (enc := (eN .i64)) (s4.toNat + s24.2.2.toNat) 0 hj38 rfl rfl rfl rfl (fun _ => rfl) (g := I x36) rfl) ?_
              obtain ⟨x39, hx39, h40⟩ := bi_ok h37
              obtain ⟨x41, hx41, h42⟩ := bi_ok h40
              have hj43 : s24.1[(s4.toNat + (wi (s24.2.2 - 1)).toNat)]? = some x41 := hx41
              refine go_draw hΓ 3 rfl ?_
              refine gl_o rfl (op_elemView hΓ hx39 rfl rfl rfl rfl rfl rfl rfl) ?_
              refine gl_o rfl (op_loadRowZ hΓ (enc := (eN .i64)) (s4.toNat + (wi (s24.2.2 - 1)).toNat) 0 hj43 rfl rfl rfl rfl (fun _ => rfl) (g := I x41) rfl) ?_
              refine go_draw hΓ 3 rfl ?_
              refine j_cond rfl (fun hb => ?_) (fun hb => ?_)
              · have h44 := cT h42 hb
                obtain ⟨x45, hx45, h46⟩ := bi_ok h44
                obtain ⟨x47, hx47, h48⟩ := bi_ok h46
                have hj49 : s24.1[(s4.toNat + s24.2.2.toNat)]? = some x47 := hx47
                refine go hΓ 6 rfl ?_
                refine eo_o rfl (op_elemView hΓ hx45 rfl rfl rfl rfl rfl rfl rfl) ?_
                refine eo_o rfl (op_loadRowZ hΓ (enc := (eN .i64)) (s4.toNat + s24.2.2.toNat) 0 hj49 rfl rfl rfl rfl (fun _ => rfl) (g := I x47) rfl) ?_
                obtain ⟨x50, hx50, h51⟩ := bi_ok h48
                have hj52 := getZ_at hx50
                refine eo_o rfl (op_elemRowZ hΓ hx50 rfl rfl rfl rfl rfl rfl) ?_
                refine eo_storeRowZ hΓ (enc := (eN .i64)) (z' := x47) s24.2.1.toNat 0 hj52 rfl rfl rfl rfl (fun _ => rfl) rfl rfl rfl rfl rfl rfl (Nat.le_of_ble_eq_true rfl) ?_
                refine eo_hp [.row 3 1 (s24.1.set s24.2.1.toNat x47).length ((s24.1.set s24.2.1.toNat x47).flatMap (eN .i64))] rfl ?_
                refine eo_relen 0 (n' := (s24.1.set s24.2.1.toNat x47).length) rfl List.length_set.symm ?_
                refine go_ops hΓ 14 rfl ?_
                obtain rfl := Option.some.inj h51
                exact ⟨_, rfl, ⟨⟨rfl, rfl, rfl, rfl, trivial⟩, [], rfl, .inl rfl⟩⟩
              · have h53 := cF h42 hb
                refine go hΓ 8 rfl ?_
                obtain rfl := Option.some.inj h53
                exact ⟨_, rfl, ⟨⟨rfl, rfl, rfl, rfl, trivial⟩, [], rfl, .inl rfl⟩⟩
            · have h54 := cF hy30 hb
              refine go hΓ 4 rfl ?_
              obtain rfl := Option.some.inj h54
              obtain rfl := hout31 _ rfl
              exact ⟨⟨rfl, rfl, trivial⟩, [], rfl, .inl rfl⟩
          · obtain ⟨z55, hz55, h56⟩ := bi_ok h27
            refine go hΓ 5 rfl ?_
            refine eo_o rfl (op_viewI hΓ hz55 rfl rfl rfl rfl rfl rfl) ?_
            refine eo_s0 (Nat.le_of_ble_eq_true rfl) (ops_clearT hΓ (enc := (eN .i64)) (a := q26.2) hz55 rfl rfl rfl rfl rfl rfl rfl rfl rfl rfl (fun _ => rfl)) ?_
            refine go_ops hΓ 6 rfl ?_
            refine eo_subCut hΓ hz55 rfl rfl rfl rfl rfl rfl rfl rfl ?_
            refine go_ops hΓ 6 rfl ?_
            obtain ⟨v57, hv57, h58⟩ := bi_ok h56
            obtain rfl := Option.some.inj h58
            obtain rfl := hout11 _ rfl
            obtain rfl := Option.some.inj h7
            refine go hΓ 4 rfl ?_
            obtain rfl := Option.some.inj hv57
            exact fin_objs hΓ [] (.inr rfl) rfl rfl rfl rfl (.inl rfl)
        · have h59 := cF h18 hb
          refine go hΓ 8 rfl ?_
          obtain rfl := Option.some.inj h59
          exact ⟨_, rfl, ⟨⟨rfl, rfl, trivial⟩, [], rfl, .inl rfl⟩⟩
      · have h60 := cF hy10 hb
        refine go hΓ 4 rfl ?_
        obtain rfl := Option.some.inj h60
        obtain rfl := hout11 _ rfl
        exact ⟨_, rfl, ⟨⟨rfl, trivial⟩, [], rfl, .inl rfl⟩⟩
    · intro a8 ha
      subst ha
      replace h7 := orI_l h7
      refine go hΓ 8 rfl ?_
      obtain rfl := Option.some.inj h7
      exact fin_objs hΓ [] (.inr rfl) rfl rfl rfl rfl (.inl rfl)
theorem c_laneref1_told {k : Nat} {l : List T_api_Health} {r : List Int} (h : m_laneref1_told k l = some r) : EC Tryz.prog 90 [.d (Sl e_api_Health l)] [] fun g hp' => g = .sl 0 r.length ∧ hp' = [.row 3 1 r.length (r.flatMap (eN .i64))] := by
  refine ec_enterC (Fr.of 0 _) Tryz.func90 rfl (Fr.of_ok _) (Nat.le_of_ble_eq_true rfl) fun _ => ?_
  refine go_in ?_
  unfold m_laneref1_told at h
  refine go hΓ 7 rfl ?_
  refine eo_litRowT hΓ (enc := (eN .i64)) [0, 345686400] rfl rfl rfl rfl rfl rfl rfl rfl rfl rfl rfl rfl (Nat.le_of_ble_eq_true rfl) ?_
  refine go_ops hΓ 11 rfl ?_
  obtain ⟨q4, hq4, h5⟩ := bi_ok h
  refine j_bound 7 rfl fun hb7 => ?_
  refine j_cutNZ [(3, .sl 0 q4.length)] [.row 3 1 q4.length (q4.flatMap (eN .i64))] ?_ ?_
  · refine go hΓ 1 rfl ?_
    refine j_rangeF l hq4 (fun i1 s2 => [(3, .sl 0 s2.length), (7, .d (Sl e_api_Health l)), (8, I (l.length : Int)), (9, I (i1 : Int))]) (fun s2 => [.row 3 1 s2.length (s2.flatMap (eN .i64))]) ⟨⟨rfl, rfl, rfl, rfl, trivial⟩, [], rfl, .inl rfl⟩ (fun i1 x3 s2 y11 hx8 hlt hy9 => ?_) (?_)
    · refine go hΓ 6 rfl ?_
      refine j_condT rfl (decide_eq_true (Int.ofNat_lt.2 hlt)) ?_
      refine go hΓ 6 rfl ?_
      refine eo_o rfl (op_elemZ hΓ (enc := e_api_Health) (getZ_nat hx8) rfl rfl rfl rfl rfl (fun _ => rfl)) ?_
      refine go_ops hΓ 1 rfl ?_
      refine eo_alloc hΓ rfl rfl rfl (Nat.le_of_ble_eq_true rfl) ?_
      refine eo_store hΓ rfl rfl rfl rfl rfl rfl rfl rfl (Nat.le_of_ble_eq_true rfl) ?_
      refine eo_hp [.row 3 1 s2.length (s2.flatMap (eN .i64)), .box 103 [I x3.At, S x3.Node, B x3.Up]] rfl ?_
      refine go_ops hΓ 6 rfl ?_
      refine eo_litT hΓ (enc := (eN .i64)) [x3.At] rfl rfl rfl rfl rfl rfl rfl rfl rfl rfl rfl rfl (Nat.le_of_ble_eq_true rfl) ?_
      obtain ⟨y12, hy12, h13⟩ := bi_ok hy9
      refine eo_appendT hΓ (enc := (eN .i64)) hy12 rfl rfl rfl rfl rfl rfl rfl rfl rfl (fun _ => rfl) rfl rfl rfl rfl ?_
      refine go_ops hΓ 8 rfl ?_
      obtain rfl := Option.some.inj h13
      exact ⟨⟨rfl, rfl, rfl, get_eq rfl (w64_succ (Nat.lt_of_lt_of_le hlt hb7)), trivial⟩, [_], rfl, .inr ⟨HB.mk rfl, FB.mk rfl, (Nat.le_of_ble_eq_true rfl)⟩⟩
    · refine go hΓ 6 rfl ?_
      refine j_condF rfl (decide_eq_false (Int.lt_irrefl _)) ?_
      refine go hΓ 4 rfl ?_
      exact ⟨⟨rfl, trivial⟩, [], rfl, .inl rfl⟩
  · obtain ⟨y14, hy14, h15⟩ := bi_ok h5
    refine go hΓ 4 rfl ?_
    refine eo_callF [0] (.tup []) [.row 3 1 y14.length (y14.flatMap (eN .i64))] (callable Tryz.func131 rfl rfl) (c_slices_SortI hy14) rfl (Nat.le_of_ble_eq_true rfl) rfl rfl rfl rfl rfl rfl rfl rfl rfl rfl ?_
    obtain ⟨hg17, h16⟩ := gd_ok h15
    refine eo_relen 3 rfl (of_decide_eq_true hg17).symm ?_
    obtain ⟨y18, hy18, h19⟩ := bi_ok h16
    refine go_ops hΓ 5 rfl ?_
    refine eo_callF [0] (.sl 0 y18.length) [.row 3 1 y18.length (y18.flatMap (eN .i64))] (callable Tryz.func132 rfl rfl) (c_slices_Compact_int_int hy18) rfl (Nat.le_of_ble_eq_true rfl) rfl rfl rfl rfl rfl rfl rfl rfl rfl rfl ?_
    refine go_ops hΓ 4 rfl ?_
    refine cv_here ?_
    obtain rfl := Option.some.inj h19
    exact fin_objs hΓ [] (.inr rfl) rfl rfl rfl rfl (.inl rfl)
theorem c_laneref1_UpAt {l : List T_api_Health} {node : Str} {v_at : Int} {r : Bool} (h : m_laneref1_UpAt l node v_at = some r) : Pure Tryz.prog 36 [.d (Sl e_api_Health l), S node, I v_at] (B r) := by
  refine Pure.enter (Fr.of 0 _) Tryz.func36 rfl (Fr.of_ok _) rfl rfl ?_
  refine go_in ?_
  unfold m_laneref1_UpAt at h
  refine go hΓ 18 rfl ?_
  obtain ⟨q4, hq4, h5⟩ := bi_ok h
  refine j_bound 10 rfl fun hb7 => ?_
  refine j_cutNZ [(7, B q4)] [] ?_ ?_
  · refine go hΓ 1 rfl ?_
    refine j_rangeF l hq4 (fun i1 s2 => [(1, S node), (2, I v_at), (7, B s2), (10, .d (Sl e_api_Health l)), (11, I (l.length : Int)), (12, I (i1 : Int))]) (fun s2 => []) ⟨⟨rfl, rfl, rfl, rfl, rfl, rfl, trivial⟩, [], rfl, .inl rfl⟩ (fun i1 x3 s2 y11 hx8 hlt hy9 => ?_) (?_)
    · refine go hΓ 6 rfl ?_
      refine j_condT rfl (decide_eq_true (Int.ofNat_lt.2 hlt)) ?_
      refine go hΓ 6 rfl ?_
      refine eo_o rfl (op_elemZ hΓ (enc := e_api_Health) (getZ_nat hx8) rfl rfl rfl rfl rfl (fun _ => rfl)) ?_
      refine go_ops hΓ 1 rfl ?_
      refine eo_alloc hΓ rfl rfl rfl (Nat.le_of_ble_eq_true rfl) ?_
      refine eo_store hΓ rfl rfl rfl rfl rfl rfl rfl rfl (Nat.le_of_ble_eq_true rfl) ?_
      refine eo_hp [.box 103 [I x3.At, S x3.Node, B x3.Up]] rfl ?_
      refine go_ops hΓ 9 rfl ?_
      refine o_cut 5 [(1, S node), (2, I v_at), (7, B s2), (9, .ptr 0 0), (10, .d (Sl e_api_Health l)), (11, I (l.length : Int)), (12, I (i1 : Int)), (25, B (((x3.Node : Str) == node) && (decide ((x3.At : Int) ≤ v_at))))] [.box 103 [I x3.At, S x3.Node, B x3.Up]] ?_ ?_
      · refine eo_gsplit rfl rfl (fun hb => ?_) (fun hb => ?_)
        · refine go_ops hΓ 6 rfl ?_
          exact ⟨⟨rfl, rfl, rfl, rfl, rfl, rfl, rfl, get_b rfl (and_t hb), trivial⟩, [], rfl, .inl rfl⟩
        · refine go_ops hΓ 6 rfl ?_
          exact ⟨⟨rfl, rfl, rfl, rfl, rfl, rfl, rfl, get_b rfl (and_f hb), trivial⟩, [], rfl, .inl rfl⟩
      · refine go_ops hΓ 2 rfl ?_
        refine j_cond rfl (fun hb => ?_) (fun hb => ?_)
        · have h12 := cT hy9 hb
          refine go hΓ 11 rfl ?_
          obtain rfl := Option.some.inj h12
          exact ⟨⟨rfl, rfl, rfl, rfl, rfl, get_eq rfl (w64_succ (Nat.lt_of_lt_of_le hlt hb7)), trivial⟩, [_], rfl, .inr ⟨HB.mk rfl, FB.mk rfl, (Nat.le_of_ble_eq_true rfl)⟩⟩
        · have h13 := cF hy9 hb
          refine go hΓ 7 rfl ?_
          obtain rfl := Option.some.inj h13
          exact ⟨⟨rfl, rfl, rfl, rfl, rfl, get_eq rfl (w64_succ (Nat.lt_of_lt_of_le hlt hb7)), trivial⟩, [_], rfl, .inr ⟨HB.mk rfl, FB.mk rfl, (Nat.le_of_ble_eq_true rfl)⟩⟩
    · refine go hΓ 6 rfl ?_
      refine j_condF rfl (decide_eq_false (Int.lt_irrefl _)) ?_
      refine go hΓ 4 rfl ?_
      exact ⟨⟨rfl, trivial⟩, [], rfl, .inl rfl⟩
  · refine go hΓ 8 rfl ?_
    obtain rfl := Option.some.inj h5
    exact fin_pure hΓ (.inr rfl) rfl rfl
theorem c_laneref1_addTurn {l : List T_api_Turn} {who : Str} {v_from : Int} {v_to : Int} {r : List T_api_Turn} (h : m_laneref1_addTurn l who v_from v_to = some r) : EC Tryz.prog 100 [.sl 0 l.length, S who, I v_from, I v_to] [.row 91 3 l.length (l.flatMap e_api_Turn)] fun g hp' => g = .sl 1 r.length ∧ hp' = [.dead, .row 91 3 r.length (r.flatMap e_api_Turn)] := by
  refine ec_enter (Fr.of 0 _) Tryz.func100 rfl (Fr.of_ok _) (Nat.le_of_ble_eq_true rfl) fun _ => ?_
  refine go_in ?_
  unfold m_laneref1_addTurn at h
  refine go hΓ 2 rfl ?_
  refine eo_nilOwn (t := 0) 91 3 rfl (Nat.le_of_ble_eq_true rfl) ?_
  refine go_ops hΓ 8 rfl ?_
  refine o_cut 4 [(0, .sl 0 l.length), (1, S who), (2, I v_from), (3, I v_to), (16, B (((who : Str) == []) || (decide ((v_from : Int) ≥ v_to))))] [.row 91 3 l.length (l.flatMap e_api_Turn), .row 91 3 ([] : List T_api_Turn).length (([] : List T_api_Turn).flatMap e_api_Turn)] ?_ ?_
  · refine eo_gsplit rfl rfl (fun hb => ?_) (fun hb => ?_)
    · refine go_ops hΓ 5 rfl ?_
      exact ⟨⟨rfl, rfl, rfl, rfl, get_b rfl (or_t hb), trivial⟩, [], rfl, .inl rfl⟩
    · refine go_ops hΓ 5 rfl ?_
      exact ⟨⟨rfl, rfl, rfl, rfl, get_b rfl (or_f hb), trivial⟩, [], rfl, .inl rfl⟩
  · refine go_ops hΓ 2 rfl ?_
    refine j_cond rfl (fun hb => ?_) (fun hb => ?_)
    · have h1 := cT h hb
      refine go hΓ 4 rfl ?_
      refine eo_shr 1 [] _ [.row 91 3 l.length (l.flatMap e_api_Turn), .dead] rfl rfl rfl (Nat.le_of_ble_eq_true rfl) ?_
      refine eo_move 0 1 [.dead, .row 91 3 l.length (l.flatMap e_api_Turn)] rfl rfl rfl rfl rfl rfl ?_
      refine go_ops hΓ 4 rfl ?_
      obtain rfl := Option.some.inj h1
      exact fin_objs hΓ [] (.inr rfl) rfl rfl rfl rfl (.inl rfl)
    · have h2 := cF h hb
      refine go hΓ 15 rfl ?_
      obtain ⟨q3, hq3, h4⟩ := bi_ok h2
      refine o_cut 9 [(0, .sl 0 l.length), (1, S who), (2, I v_from), (3, I v_to), (9, I (l.length : Int)), (31, B q3)] [.row 91 3 l.length (l.flatMap e_api_Turn), .row 91 3 ([] : List T_api_Turn).length (([] : List T_api_Turn).flatMap e_api_Turn)] ?_ ?_
      · refine eo_gsplit rfl rfl (fun hb => ?_) (fun hb => ?_)
        · have h5 := cT hq3 hb
          obtain ⟨x6, hx6, h7⟩ := bi_ok h5
          have hj8 := getZ_at hx6
          refine go_ops hΓ 3 rfl ?_
          refine eo_guard rfl ?_
          refine eo_o rfl (op_elemRowZ hΓ hx6 rfl rfl rfl rfl rfl rfl) ?_
          refine go_ops hΓ 1 rfl ?_
          refine eo_guard rfl ?_
          refine eo_o rfl (op_loadRowZ hΓ (enc := e_api_Turn) ((wi ((l.length : Int) - 1)).toNat) 0 hj8 rfl rfl rfl rfl (fun _ => rfl) (g := S x6.Who) rfl) ?_
          refine go_ops hΓ 4 rfl ?_
          obtain rfl := Option.some.inj h7
          exact ⟨⟨rfl, rfl, rfl, rfl, rfl, rfl, trivial⟩, [], rfl, .inl rfl⟩
        · have h9 := cF hq3 hb
          refine go_ops hΓ 10 rfl ?_
          obtain rfl := Option.some.inj h9
          exact ⟨⟨rfl, rfl, rfl, rfl, rfl, rfl, trivial⟩, [], rfl, .inl rfl⟩
      · refine go_ops hΓ 1 rfl ?_
        obtain ⟨q10, hq10, h11⟩ := bi_ok h4
        refine o_cut 9 [(0, .sl 0 l.length), (1, S who), (2, I v_from), (3, I v_to), (9, I (l.length : Int)), (41, B q10)] [.row 91 3 l.length (l.flatMap e_api_Turn), .row 91 3 ([] : List T_api_Turn).length (([] : List T_api_Turn).flatMap e_api_Turn)] ?_ ?_
        · refine eo_gsplit rfl rfl (fun hb => ?_) (fun hb => ?_)
          · have h12 := cT hq10 hb
            obtain ⟨x13, hx13, h14⟩ := bi_ok h12
            have hj15 := getZ_at hx13
            refine go_ops hΓ 3 rfl ?_
            refine eo_guard rfl ?_
            refine eo_o rfl (op_elemRowZ hΓ hx13 rfl rfl rfl rfl rfl rfl) ?_
            refine go_ops hΓ 1 rfl ?_
            refine eo_guard rfl ?_
            refine eo_o rfl (op_loadRowZ hΓ (enc := e_api_Turn) ((wi ((l.length : Int) - 1)).toNat) 2 hj15 rfl rfl rfl rfl (fun _ => rfl) (g := I x13.To) rfl) ?_
            refine go_ops hΓ 4 rfl ?_
            obtain rfl := Option.some.inj h14
            exact ⟨⟨rfl, rfl, rfl, rfl, rfl, rfl, trivial⟩, [], rfl, .inl rfl⟩
          · have h16 := cF hq10 hb
            refine go_ops hΓ 10 rfl ?_
            obtain rfl := Option.some.inj h16
            exact ⟨⟨rfl, rfl, rfl, rfl, rfl, rfl, trivial⟩, [], rfl, .inl rfl⟩
        · refine go_ops hΓ 2 rfl ?_
          refine j_cond rfl (fun hb => ?_) (fun hb => ?_)
          · have h17 := cT h11 hb
            obtain ⟨x18, hx18, h19⟩ := bi_ok h17
            have hj20 := getZ_at hx18
            refine go hΓ 6 rfl ?_
            refine eo_o rfl (op_elemRowZ hΓ hx18 rfl rfl rfl rfl rfl rfl) ?_
            refine go_ops hΓ 1 rfl ?_
            refine eo_storeRowZ hΓ (enc := e_api_Turn) (z' := (⟨x18.Who, x18.From, v_to⟩ : T_api_Turn)) ((wi ((l.length : Int) - 1)).toNat) 2 hj20 rfl rfl rfl rfl (fun _ => rfl) rfl rfl rfl rfl rfl rfl (Nat.le_of_ble_eq_true rfl) ?_
            refine eo_hp [.row 91 3 (l.set ((wi ((l.length : Int) - 1)).toNat) (⟨x18.Who, x18.From, v_to⟩ : T_api_Turn)).length ((l.set ((wi ((l.length : Int) - 1)).toNat) (⟨x18.Who, x18.From, v_to⟩ : T_api_Turn)).flatMap e_api_Turn), .row 91 3 ([] : List T_api_Turn).length (([] : List T_api_Turn).flatMap e_api_Turn)] rfl ?_
            refine eo_relen 0 (n' := (l.set ((wi ((l.length : Int) - 1)).toNat) (⟨x18.Who, x18.From, v_to⟩ : T_api_Turn)).length) rfl List.length_set.symm ?_
            refine go_ops hΓ 6 rfl ?_
            refine eo_shr 1 [] _ [.row 91 3 (l.set ((wi ((l.length : Int) - 1)).toNat) (⟨x18.Who, x18.From, v_to⟩ : T_api_Turn)).length ((l.set ((wi ((l.length : Int) - 1)).toNat) (⟨x18.Who, x18.From, v_to⟩ : T_api_Turn)).flatMap e_api_Turn), .dead] rfl rfl rfl (Nat.le_of_ble_eq_true rfl) ?_
            refine eo_move 0 1 [.dead, .row 91 3 (l.set ((wi ((l.length : Int) - 1)).toNat) (⟨x18.Who, x18.From, v_to⟩ : T_api_Turn)).length ((l.set ((wi ((l.length : Int) - 1)).toNat) (⟨x18.Who, x18.From, v_to⟩ : T_api_Turn)).flatMap e_api_Turn)] rfl rfl rfl rfl rfl rfl ?_
            refine go_ops hΓ 4 rfl ?_
            obtain rfl := Option.some.inj h19
            exact fin_objs hΓ [] (.inr rfl) rfl rfl rfl rfl (.inl rfl)
          · have h21 := cF h11 hb
            refine go hΓ 8 rfl ?_
            refine eo_build hΓ (gs := [S who, I v_from, I v_to]) rfl rfl rfl rfl rfl rfl rfl ?_
            refine eo_litT hΓ (enc := e_api_Turn) [(⟨who, v_from, v_to⟩ : T_api_Turn)] rfl rfl rfl rfl rfl rfl rfl rfl rfl rfl rfl rfl (Nat.le_of_ble_eq_true rfl) ?_
            obtain ⟨y22, hy22, h23⟩ := bi_ok h21
            refine eo_s (Nat.le_of_ble_eq_true rfl) (nblt.1 rfl) (ops_appendT hΓ (enc := e_api_Turn) (id := 0) (h2 := show Γ 91 = some ⟨_, 3, _, _⟩ from rfl) hy22 rfl rfl rfl rfl rfl rfl rfl rfl (fun _ => rfl) rfl) ?_
            refine go_ops hΓ 1 rfl ?_
            refine eo_shr 1 [] _ [.dead, .dead, .row 91 3 y22.length (y22.flatMap e_api_Turn)] rfl rfl rfl (Nat.le_of_ble_eq_true rfl) ?_
            refine eo_move 2 1 [.dead, .row 91 3 y22.length (y22.flatMap e_api_Turn), .dead] rfl rfl rfl rfl rfl rfl ?_
            refine go_ops hΓ 3 rfl ?_
            obtain rfl := Option.some.inj h23
            exact fin_objs hΓ [_] (.inr rfl) rfl rfl rfl rfl (.inr ⟨HB.mk rfl, rfl⟩)
theorem c_laneref1_FirstTurns {k : Nat} {v_r : List T_api_Router} {l : List T_api_Health} {p : T_api_Prefix} {r : List T_api_Turn} (h : m_laneref1_FirstTurns k v_r l p = some r) : EC Tryz.prog 46 [.d (Sl e_api_Router v_r), .d (Sl e_api_Health l), .agg [B p.Addr.Six, .d (.v (.int .u64 p.Addr.Hi)), .d (.v (.int .u64 p.Addr.Lo)), I p.Bits]] [] fun g hp' => g = .sl 0 r.length ∧ hp' = [.row 91 3 r.length (r.flatMap e_api_Turn)] := by
  refine ec_enterC (Fr.of 0 _) Tryz.func46 rfl (Fr.of_ok _) (Nat.le_of_ble_eq_true rfl) fun _ => ?_
  refine go_in ?_
  unfold m_laneref1_FirstTurns at h
  refine go hΓ 2 rfl ?_
  refine eo_box rfl rfl rfl rfl (Nat.le_of_ble_eq_true rfl) ?_
  obtain ⟨y1, hy1, h2⟩ := bi_ok h
  refine go_ops hΓ 7 rfl ?_
  refine eo_callF [] (.sl 1 y1.length) [.box 42 [B p.Addr.Six, .d (.v (.int .u64 p.Addr.Hi)), .d (.v (.int .u64 p.Addr.Lo)), I p.Bits], .row 69 6 y1.length (y1.flatMap e_api_Router)] (callable Tryz.func75 rfl rfl) (c_laneref1_routersOf hy1) rfl (Nat.le_of_ble_eq_true rfl) rfl rfl rfl rfl rfl rfl rfl rfl rfl rfl ?_
  obtain ⟨y3, hy3, h4⟩ := bi_ok h2
  refine go_ops hΓ 6 rfl ?_
  refine eo_callF [1] (.tup []) [.box 42 [B p.Addr.Six, .d (.v (.int .u64 p.Addr.Hi)), .d (.v (.int .u64 p.Addr.Lo)), I p.Bits], .row 69 6 y3.length (y3.flatMap e_api_Router)] (callable Tryz.func66 rfl rfl) (c_slices_SortStableFunc_api_Router_api_Router_2 hy3) rfl (Nat.le_of_ble_eq_true rfl) rfl rfl rfl rfl rfl rfl rfl rfl rfl rfl ?_
  obtain ⟨hg6, h5⟩ := gd_ok h4
  refine eo_relen 7 rfl (of_decide_eq_true hg6).symm ?_
  refine go_ops hΓ 4 rfl ?_
  refine eo_nilOwn (t := 0) 91 3 rfl (Nat.le_of_ble_eq_true rfl) ?_
  obtain ⟨y7, hy7, h8⟩ := bi_ok h5
  refine go_ops hΓ 10 rfl ?_
  refine eo_callP (callable Tryz.func90 rfl rfl) (Pure.rows (c_laneref1_told hy7) rfl rfl) rfl (Nat.le_of_ble_eq_true rfl) rfl rfl rfl rfl rfl ?_
  refine go_ops hΓ 12 rfl ?_
  obtain ⟨q12, hq12, h13⟩ := bi_ok h8
  obtain ⟨hb15, h16⟩ := gd_ok hq12
  replace hb15 := of_decide_eq_true hb15
  refine j_cutNZ [(8, .sl 2 q12.1.length)] [.box 42 [B p.Addr.Six, .d (.v (.int .u64 p.Addr.Hi)), .d (.v (.int .u64 p.Addr.Lo)), I p.Bits], .row 69 6 y3.length (y3.flatMap e_api_Router), .row 91 3 q12.1.length (q12.1.flatMap e_api_Turn)] ?_ ?_
  · refine go hΓ 1 rfl ?_
    refine j_rangeG h16 (fun i9 s10 => [(1, .d (Sl e_api_Health l)), (7, .sl 1 y3.length), (8, .sl 2 s10.1.length), (9, S s10.2), (10, .d (Sl (eN .i64) y7)), (23, I (wi ((y7.length : Int) - 1))), (24, I (i9 : Int))]) (fun s10 => [.box 42 [B p.Addr.Six, .d (.v (.int .u64 p.Addr.Hi)), .d (.v (.int .u64 p.Addr.Lo)), I p.Bits], .row 69 6 y3.length (y3.flatMap e_api_Router), .row 91 3 s10.1.length (s10.1.flatMap e_api_Turn)]) ⟨⟨rfl, rfl, rfl, rfl, rfl, rfl, rfl, trivial⟩, [], rfl, .inl rfl⟩ (fun i9 s10 y20 hlt hy18 => ?_) (fun hge => ?_)
    · refine go hΓ 6 rfl ?_
      refine j_condT rfl (decide_eq_true hlt) ?_
      refine go hΓ 16 rfl ?_
      obtain ⟨q21, hq21, h22⟩ := bi_ok hy18
      refine o_cut 9 [(1, .d (Sl e_api_Health l)), (7, .sl 1 y3.length), (8, .sl 2 s10.1.length), (9, S s10.2), (10, .d (Sl (eN .i64) y7)), (11, I (i9 : Int)), (23, I (wi ((y7.length : Int) - 1))), (24, I (i9 : Int)), (38, B q21)] [.box 42 [B p.Addr.Six, .d (.v (.int .u64 p.Addr.Hi)), .d (.v (.int .u64 p.Addr.Lo)), I p.Bits], .row 69 6 y3.length (y3.flatMap e_api_Router), .row 91 3 s10.1.length (s10.1.flatMap e_api_Turn)] ?_ ?_
      · refine eo_gsplit rfl rfl (fun hb => ?_) (fun hb => ?_)
        · have h23 := cT hq21 hb
          refine go_ops hΓ 10 rfl ?_
          obtain rfl := Option.some.inj h23
          exact ⟨⟨rfl, rfl, rfl, rfl, rfl, rfl, rfl, rfl, rfl, trivial⟩, [], rfl, .inl rfl⟩
        · have h24 := cF hq21 hb
          obtain ⟨x25, hx25, h26⟩ := bi_ok h24
          refine go_ops hΓ 4 rfl ?_
          refine eo_guard rfl ?_
          refine eo_o rfl (op_elemZ hΓ (enc := (eN .i64)) hx25 rfl rfl rfl rfl rfl (fun _ => rfl)) ?_
          obtain ⟨y27, hy27, h28⟩ := bi_ok h26
          refine go_ops hΓ 1 rfl ?_
          refine eo_guard rfl ?_
          refine eo_callP (callable Tryz.func36 rfl rfl) (c_laneref1_UpAt hy27) rfl (Nat.le_of_ble_eq_true rfl) rfl rfl rfl rfl rfl ?_
          refine go_ops hΓ 3 rfl ?_
          obtain rfl := Option.some.inj h28
          exact ⟨⟨rfl, rfl, rfl, rfl, rfl, rfl, rfl, rfl, rfl, trivial⟩, [], rfl, .inl rfl⟩
      · obtain ⟨q29, hq29, h30⟩ := bi_ok h22
        refine go_ops hΓ 2 rfl ?_
        refine j_cutNZ [(1, .d (Sl e_api_Health l)), (7, .sl 1 y3.length), (8, .sl 2 s10.1.length), (9, S q29), (10, .d (Sl (eN .i64) y7)), (11, I (i9 : Int)), (23, I (wi ((y7.length : Int) - 1))), (24, I (i9 : Int))] [.box 42 [B p.Addr.Six, .d (.v (.int .u64 p.Addr.Hi)), .d (.v (.int .u64 p.Addr.Lo)), I p.Bits], .row 69 6 y3.length (y3.flatMap e_api_Router), .row 91 3 s10.1.length (s10.1.flatMap e_api_Turn)] ?_ ?_
        · refine j_cond rfl (fun hb => ?_) (fun hb => ?_)
          · have h31 := cT hq29 hb
            refine go hΓ 12 rfl ?_
            obtain ⟨q35, hq35, h36⟩ := bi_ok h31
            obtain ⟨hb38, h39⟩ := gd_ok hq35
            replace hb38 := of_decide_eq_true hb38
            obtain ⟨q40, hq40, h41⟩ := bi_ok h36
            refine j_cutNZ [(1, .d (Sl e_api_Health l)), (7, .sl 1 y3.length), (8, .sl 2 s10.1.length), (9, S q40), (10, .d (Sl (eN .i64) y7)), (11, I (i9 : Int)), (23, I (wi ((y7.length : Int) - 1))), (24, I (i9 : Int))] [.box 42 [B p.Addr.Six, .d (.v (.int .u64 p.Addr.Hi)), .d (.v (.int .u64 p.Addr.Lo)), I p.Bits], .row 69 6 y3.length (y3.flatMap e_api_Router), .row 91 3 s10.1.length (s10.1.flatMap e_api_Turn)] ?_ ?_
            · refine go hΓ 1 rfl ?_
              refine j_rangeI h39 (fun i32 s33 => [(1, .d (Sl e_api_Health l)), (7, .sl 1 y3.length), (8, .sl 2 s10.1.length), (9, S []), (10, .d (Sl (eN .i64) y7)), (11, I (i9 : Int)), (23, I (wi ((y7.length : Int) - 1))), (24, I (i9 : Int)), (39, .sl 1 y3.length), (40, I (y3.length : Int)), (41, I (i32 : Int))]) (fun s33 => [.box 42 [B p.Addr.Six, .d (.v (.int .u64 p.Addr.Hi)), .d (.v (.int .u64 p.Addr.Lo)), I p.Bits], .row 69 6 y3.length (y3.flatMap e_api_Router), .row 91 3 s10.1.length (s10.1.flatMap e_api_Turn)]) ⟨⟨rfl, rfl, rfl, rfl, rfl, rfl, rfl, rfl, rfl, rfl, rfl, trivial⟩, [], rfl, .inl rfl⟩ (fun i32 s33 y45 hlt hy43 hout44 => ?_) (fun s33 hgo hge => ?_)
              · refine go hΓ 6 rfl ?_
                refine j_condT rfl (decide_eq_true hlt) ?_
                obtain ⟨x46, hx46, h47⟩ := bi_ok hy43
                have hj48 := getZ_at hx46
                refine go hΓ 6 rfl ?_
                refine eo_o rfl (op_elemRowZ hΓ hx46 rfl rfl rfl rfl rfl rfl) ?_
                refine eo_o rfl (op_loadRowZ hΓ (enc := e_api_Router) ((i32 : Int).toNat) 0 hj48 rfl rfl rfl rfl (fun _ => rfl) (g := .agg [B x46.Prefix.Addr.Six, .d (.v (.int .u64 x46.Prefix.Addr.Hi)), .d (.v (.int .u64 x46.Prefix.Addr.Lo)), I x46.Prefix.Bits, S x46.Node, I x46.Weight]) rfl) ?_
                refine eo_alloc hΓ rfl rfl rfl (Nat.le_of_ble_eq_true rfl) ?_
                refine eo_store hΓ rfl rfl rfl rfl rfl rfl rfl rfl (Nat.le_of_ble_eq_true rfl) ?_
                refine eo_hp [.box 42 [B p.Addr.Six, .d (.v (.int .u64 p.Addr.Hi)), .d (.v (.int .u64 p.Addr.Lo)), I p.Bits], .row 69 6 y3.length (y3.flatMap e_api_Router), .row 91 3 s10.1.length (s10.1.flatMap e_api_Turn), .box 69 [B x46.Prefix.Addr.Six, .d (.v (.int .u64 x46.Prefix.Addr.Hi)), .d (.v (.int .u64 x46.Prefix.Addr.Lo)), I x46.Prefix.Bits, S x46.Node, I x46.Weight]] rfl ?_
                refine go_ops hΓ 3 rfl ?_
                refine j_draw hmix (by kernel_rfl) ?_
                obtain ⟨x49, hx49, h50⟩ := bi_ok h47
                refine go hΓ 5 rfl ?_
                refine gl_o rfl (op_elemZ hΓ (enc := (eN .i64)) hx49 rfl rfl rfl rfl rfl (fun _ => rfl)) ?_
                obtain ⟨y51, hy51, h52⟩ := bi_ok h50
                refine go_draw hΓ 1 rfl ?_
                refine gl_callP (callable Tryz.func36 rfl rfl) (c_laneref1_UpAt hy51) rfl rfl rfl rfl rfl rfl ?_
                refine go_draw hΓ 2 rfl ?_
                refine j_cond rfl (fun hb => ?_) (fun hb => ?_)
                · have h53 := cT h52 hb
                  refine go hΓ 12 rfl ?_
                  obtain rfl := Option.some.inj h53
                  obtain rfl := hout44 _ rfl
                  obtain rfl := Option.some.inj hq40
                  exact ⟨⟨rfl, rfl, rfl, rfl, rfl, rfl, rfl, rfl, trivial⟩, [_], rfl, .inr ⟨HB.mk rfl, FB.mk rfl, (Nat.le_of_ble_eq_true rfl)⟩⟩
                · have h54 := cF h52 hb
                  refine go hΓ 7 rfl ?_
                  obtain rfl := Option.some.inj h54
                  exact ⟨_, rfl, ⟨⟨rfl, rfl, rfl, rfl, rfl, rfl, rfl, rfl, rfl, rfl, get_eq rfl (w64_succ (by omega)), trivial⟩, [_], rfl, .inr ⟨HB.mk rfl, FB.mk rfl, (Nat.le_of_ble_eq_true rfl)⟩⟩⟩
              · subst hgo
                refine go hΓ 6 rfl ?_
                refine j_condF rfl (decide_eq_false hge) ?_
                refine go hΓ 4 rfl ?_
                obtain rfl := Option.some.inj hq40
                exact ⟨⟨rfl, rfl, rfl, rfl, rfl, rfl, rfl, rfl, trivial⟩, [], rfl, .inl rfl⟩
            · obtain rfl := Option.some.inj h41
              exact ⟨⟨rfl, rfl, rfl, rfl, rfl, rfl, rfl, rfl, trivial⟩, [], rfl, .inl rfl⟩
          · have h55 := cF hq29 hb
            refine go hΓ 1 rfl ?_
            obtain rfl := Option.some.inj h55
            exact ⟨⟨rfl, rfl, rfl, rfl, rfl, rfl, rfl, rfl, trivial⟩, [], rfl, .inl rfl⟩
        · refine go hΓ 1 rfl ?_
          refine j_drawE [] [] [11] [] hmix (by kernel_rfl) (by kernel_rfl) trivial (Nat.le_of_ble_eq_true rfl) ?_
          obtain ⟨x56, hx56, h57⟩ := bi_ok h30
          refine go_E hΓ 4 rfl ?_
          refine ge_q rfl (.inl rfl) (fun _ _ => qte_of_qt (qt_p (op_elemZ hΓ (enc := (eN .i64)) hx56 rfl rfl rfl rfl rfl (fun _ => rfl)))) ?_
          obtain ⟨x58, hx58, h59⟩ := bi_ok h57
          refine go_E hΓ 4 rfl ?_
          refine ge_q rfl (.inl rfl) (fun _ _ => qte_of_qt (qt_p (op_elemZ hΓ (enc := (eN .i64)) hx58 rfl rfl rfl rfl rfl (fun _ => rfl)))) ?_
          obtain ⟨y60, hy60, h61⟩ := bi_ok h59
          refine go_E hΓ 1 rfl ?_
          refine ge_h [.box 42 [B p.Addr.Six, .d (.v (.int .u64 p.Addr.Hi)), .d (.v (.int .u64 p.Addr.Lo)), I p.Bits], .row 69 6 y3.length (y3.flatMap e_api_Router), .dead, .row 91 3 y60.length (y60.flatMap e_api_Turn)] rfl rfl rfl (st_st trivial) (qte_callF [2] (.sl 3 y60.length) [.box 42 [B p.Addr.Six, .d (.v (.int .u64 p.Addr.Hi)), .d (.v (.int .u64 p.Addr.Lo)), I p.Bits], .row 69 6 y3.length (y3.flatMap e_api_Router), .dead, .row 91 3 y60.length (y60.flatMap e_api_Turn)] (callable Tryz.func100 rfl rfl) (c_laneref1_addTurn hy60) rfl rfl rfl rfl rfl rfl rfl rfl rfl rfl) ?_
          refine go_E hΓ 1 rfl ?_
          refine ge_fin ?_
          refine go hΓ 2 rfl ?_
          refine j_move 3 2 [.box 42 [B p.Addr.Six, .d (.v (.int .u64 p.Addr.Hi)), .d (.v (.int .u64 p.Addr.Lo)), I p.Bits], .row 69 6 y3.length (y3.flatMap e_api_Router), .row 91 3 y60.length (y60.flatMap e_api_Turn), .dead] rfl rfl rfl rfl rfl rfl ?_
          refine go hΓ 4 rfl ?_
          obtain rfl := Option.some.inj h61
          exact ⟨⟨rfl, rfl, rfl, rfl, rfl, rfl, get_eq rfl (w64_succ (by omega)), trivial⟩, [_], rfl, .inr ⟨HB.mk rfl, FB.mk rfl, (Nat.le_of_ble_eq_true rfl)⟩⟩
    · refine go hΓ 6 rfl ?_
      refine j_condF rfl (decide_eq_false hge) ?_
      refine go hΓ 4 rfl ?_
      exact ⟨⟨rfl, trivial⟩, [], rfl, .inl rfl⟩
  · refine go hΓ 8 rfl ?_
    refine cv_kill 0 [.dead, .row 69 6 y3.length (y3.flatMap e_api_Router), .row 91 3 q12.1.length (q12.1.flatMap e_api_Turn)] rfl (Nat.le_of_ble_eq_true rfl) ?_
    refine cv_move 2 0 [.row 91 3 q12.1.length (q12.1.flatMap e_api_Turn), .row 69 6 y3.length (y3.flatMap e_api_Router), .dead] rfl rfl rfl rfl rfl rfl ?_
    refine cv_here ?_
    obtain rfl := Option.some.inj h13
    exact fin_objs hΓ [_, _] (.inr rfl) rfl rfl rfl rfl (.inr ⟨HB.mk rfl, rfl⟩)
theorem c_laneref1_turnAt {l : List T_api_Turn} {v_at : Int} {r : Str} (h : m_laneref1_turnAt l v_at = some r) : Pure Tryz.prog 98 [.d (Sl e_api_Turn l), I v_at] (S r) := by
  refine Pure.enter (Fr.of 0 _) Tryz.func98 rfl (Fr.of_ok _) rfl rfl ?_
  refine go_in ?_
  unfold m_laneref1_turnAt at h
  refine go hΓ 13 rfl ?_
  obtain ⟨q4, hq4, h5⟩ := bi_ok h
  refine j_bound 7 rfl fun hb7 => ?_
  refine j_cutEZ (R := fun a6 => q4 = .go a6) (fun a6 => []) (fun a6 => []) ?_ ?_
  · refine go hΓ 1 rfl ?_
    refine j_range l hq4 (fun i1 s2 => [(1, I v_at), (7, .d (Sl e_api_Turn l)), (8, I (l.length : Int)), (9, I (i1 : Int))]) (fun s2 => []) ⟨⟨rfl, rfl, rfl, rfl, trivial⟩, [], rfl, .inl rfl⟩ (fun i1 x3 s2 y11 hx8 hlt hy9 hout10 => ?_) (fun s2 hgo => ?_)
    · refine go hΓ 6 rfl ?_
      refine j_condT rfl (decide_eq_true (Int.ofNat_lt.2 hlt)) ?_
      refine go hΓ 6 rfl ?_
      refine eo_o rfl (op_elemZ hΓ (enc := e_api_Turn) (getZ_nat hx8) rfl rfl rfl rfl rfl (fun _ => rfl)) ?_
      refine go_ops hΓ 1 rfl ?_
      refine eo_alloc hΓ rfl rfl rfl (Nat.le_of_ble_eq_true rfl) ?_
      refine eo_store hΓ rfl rfl rfl rfl rfl rfl rfl rfl (Nat.le_of_ble_eq_true rfl) ?_
      refine eo_hp [.box 91 [S x3.Who, I x3.From, I x3.To]] rfl ?_
      refine go_ops hΓ 9 rfl ?_
      refine o_cut 5 [(1, I v_at), (6, .ptr 0 0), (7, .d (Sl e_api_Turn l)), (8, I (l.length : Int)), (9, I (i1 : Int)), (22, B ((decide ((x3.From : Int) ≤ v_at)) && (decide ((v_at : Int) < x3.To))))] [.box 91 [S x3.Who, I x3.From, I x3.To]] ?_ ?_
      · refine eo_gsplit rfl rfl (fun hb => ?_) (fun hb => ?_)
        · refine go_ops hΓ 6 rfl ?_
          exact ⟨⟨rfl, rfl, rfl, rfl, rfl, get_b rfl (and_t hb), trivial⟩, [], rfl, .inl rfl⟩
        · refine go_ops hΓ 6 rfl ?_
          exact ⟨⟨rfl, rfl, rfl, rfl, rfl, get_b rfl (and_f hb), trivial⟩, [], rfl, .inl rfl⟩
      · refine go_ops hΓ 2 rfl ?_
        refine j_cond rfl (fun hb => ?_) (fun hb => ?_)
        · have h12 := cT hy9 hb
          refine go hΓ 10 rfl ?_
          obtain ⟨v13, hv13, h14⟩ := bi_ok h12
          obtain rfl := Option.some.inj h14
          obtain rfl := hout10 _ rfl
          obtain rfl := Option.some.inj h5
          refine go hΓ 4 rfl ?_
          obtain rfl := Option.some.inj hv13
          exact fin_pure hΓ (.inr rfl) rfl rfl
        · have h15 := cF hy9 hb
          refine go hΓ 7 rfl ?_
          obtain rfl := Option.some.inj h15
          exact ⟨_, rfl, ⟨⟨rfl, rfl, rfl, get_eq rfl (w64_succ (Nat.lt_of_lt_of_le hlt hb7)), trivial⟩, [_], rfl, .inr ⟨HB.mk rfl, FB.mk rfl, (Nat.le_of_ble_eq_true rfl)⟩⟩⟩
    · subst hgo
      refine go hΓ 6 rfl ?_
      refine j_condF rfl (decide_eq_false (Int.lt_irrefl _)) ?_
      refine go hΓ 4 rfl ?_
      exact ⟨_, rfl, ⟨trivial, [], rfl, .inl rfl⟩⟩
  · intro a6 ha
    subst ha
    replace h5 := goI_l h5
    refine go hΓ 7 rfl ?_
    obtain rfl := Option.some.inj h5
    exact fin_pure hΓ (.inr rfl) rfl rfl
theorem c_laneref1_FirstAt {k : Nat} {v_r : List T_api_Router} {l : List T_api_Health} {p : T_api_Prefix} {v_at : Int} {r : Str} (h : m_laneref1_FirstAt k v_r l p v_at = some r) : Pure Tryz.prog 43 [.d (Sl e_api_Router v_r), .d (Sl e_api_Health l), .agg [B p.Addr.Six, .d (.v (.int .u64 p.Addr.Hi)), .d (.v (.int .u64 p.Addr.Lo)), I p.Bits], I v_at] (S r) := by
  refine Pure.enter (Fr.of 0 _) Tryz.func43 rfl (Fr.of_ok _) rfl rfl ?_
  refine go_in ?_
  unfold m_laneref1_FirstAt at h
  refine go hΓ 2 rfl ?_
  refine eo_box rfl rfl rfl rfl (Nat.le_of_ble_eq_true rfl) ?_
  obtain ⟨y1, hy1, h2⟩ := bi_ok h
  refine go_ops hΓ 8 rfl ?_
  refine eo_callP (callable Tryz.func46 rfl rfl) (Pure.rows (c_laneref1_FirstTurns hy1) rfl rfl) rfl (Nat.le_of_ble_eq_true rfl) rfl rfl rfl rfl rfl ?_
  obtain ⟨y3, hy3, h4⟩ := bi_ok h2
  refine go_ops hΓ 1 rfl ?_
  refine eo_callP (callable Tryz.func98 rfl rfl) (c_laneref1_turnAt hy3) rfl (Nat.le_of_ble_eq_true rfl) rfl rfl rfl rfl rfl ?_
  refine go_ops hΓ 4 rfl ?_
  obtain rfl := Option.some.inj h4
  exact fin_pure hΓ (.inr rfl) rfl rfl
theorem c_laneref1_LeadsAt {k : Nat} {v_r : List T_api_Router} {l : List T_api_Health} {v_at : Int} {r : List T_api_Lead} (h : m_laneref1_LeadsAt k v_r l v_at = some r) : EC Tryz.prog 21 [.d (Sl e_api_Router v_r), .d (Sl e_api_Health l), I v_at] [] fun g hp' => g = .sl 0 r.length ∧ hp' = [.row 44 5 r.length (r.flatMap e_api_Lead)] := by
  refine ec_enterC (Fr.of 0 _) Tryz.func21 rfl (Fr.of_ok _) (Nat.le_of_ble_eq_true rfl) fun _ => ?_
  refine go_in ?_
  unfold m_laneref1_LeadsAt at h
  refine go hΓ 7 rfl ?_
  refine eo_nilOwn (t := 0) 44 5 rfl (Nat.le_of_ble_eq_true rfl) ?_
  refine go_ops hΓ 10 rfl ?_
  obtain ⟨q4, hq4, h5⟩ := bi_ok h
  refine j_bound 0 rfl fun hb7 => ?_
  refine j_cutNZ [(7, .sl 0 q4.length)] [.row 44 5 q4.length (q4.flatMap e_api_Lead)] ?_ ?_
  · refine go hΓ 1 rfl ?_
    refine j_rangeF v_r hq4 (fun i1 s2 => [(0, .d (Sl e_api_Router v_r)), (1, .d (Sl e_api_Health l)), (2, I v_at), (7, .sl 0 s2.length), (11, .d (Sl e_api_Router v_r)), (12, I (v_r.length : Int)), (13, I (i1 : Int))]) (fun s2 => [.row 44 5 s2.length (s2.flatMap e_api_Lead)]) ⟨⟨rfl, rfl, rfl, rfl, rfl, rfl, rfl, trivial⟩, [], rfl, .inl rfl⟩ (fun i1 x3 s2 y11 hx8 hlt hy9 => ?_) (?_)
    · refine go hΓ 6 rfl ?_
      refine j_condT rfl (decide_eq_true (Int.ofNat_lt.2 hlt)) ?_
      refine go hΓ 7 rfl ?_
      refine eo_o rfl (op_elemZ hΓ (enc := e_api_Router) (getZ_nat hx8) rfl rfl rfl rfl rfl (fun _ => rfl)) ?_
      refine go_ops hΓ 1 rfl ?_
      refine eo_alloc hΓ rfl rfl rfl (Nat.le_of_ble_eq_true rfl) ?_
      refine go_ops hΓ 1 rfl ?_
      refine eo_store hΓ rfl rfl rfl rfl rfl rfl rfl rfl (Nat.le_of_ble_eq_true rfl) ?_
      refine eo_hp [.row 44 5 s2.length (s2.flatMap e_api_Lead), .box 69 [B x3.Prefix.Addr.Six, .d (.v (.int .u64 x3.Prefix.Addr.Hi)), .d (.v (.int .u64 x3.Prefix.Addr.Lo)), I x3.Prefix.Bits, S x3.Node, I x3.Weight]] rfl ?_
      obtain ⟨q12, hq12, h13⟩ := bi_ok hy9
      refine go_ops hΓ 4 rfl ?_
      refine j_cutNZ [(0, .d (Sl e_api_Router v_r)), (1, .d (Sl e_api_Health l)), (2, I v_at), (7, .sl 0 s2.length), (9, .ptr 1 0), (11, .d (Sl e_api_Router v_r)), (12, I (v_r.length : Int)), (13, I (i1 : Int)), (30, B q12)] [.row 44 5 s2.length (s2.flatMap e_api_Lead), .box 69 [B x3.Prefix.Addr.Six, .d (.v (.int .u64 x3.Prefix.Addr.Hi)), .d (.v (.int .u64 x3.Prefix.Addr.Lo)), I x3.Prefix.Bits, S x3.Node, I x3.Weight]] ?_ ?_
      · refine j_draw hmix (by kernel_rfl) ?_
        refine go hΓ 3 rfl ?_
        refine gl_gsplit rfl rfl (fun hb => ?_) (fun hb => ?_)
        · have h14 := cT hq12 hb
          obtain ⟨x15, hx15, h16⟩ := bi_ok h14
          refine go_draw hΓ 3 rfl ?_
          refine gl_og rfl rfl (op_elemZ hΓ (enc := e_api_Router) hx15 rfl rfl rfl rfl rfl (fun _ => rfl)) ?_
          refine go_draw hΓ 4 rfl ?_
          refine gl_og rfl rfl (op_eqS hΓ [42, 34] (b := ((((x15.Prefix.Addr.Six : Bool) == x3.Prefix.Addr.Six) && (((x15.Prefix.Addr.Hi : Int) == x3.Prefix.Addr.Hi) && (((x15.Prefix.Addr.Lo : Int) == x3.Prefix.Addr.Lo) && true))) && (((x15.Prefix.Bits : Int) == x3.Prefix.Bits) && true))) (by kernel_rfl) (by kernel_rfl) rfl rfl rfl) ?_
          refine go_draw hΓ 2 rfl ?_
          obtain rfl := Option.some.inj h16
          exact ⟨⟨rfl, rfl, rfl, rfl, rfl, rfl, rfl, rfl, rfl, trivial⟩, [], rfl, .inl rfl⟩
        · have h17 := cF hq12 hb
          refine go_draw hΓ 11 rfl ?_
          obtain rfl := Option.some.inj h17
          exact ⟨⟨rfl, rfl, rfl, rfl, rfl, rfl, rfl, rfl, rfl, trivial⟩, [], rfl, .inl rfl⟩
      · refine go hΓ 1 rfl ?_
        refine j_cond rfl (fun hb => ?_) (fun hb => ?_)
        · have h18 := cT h13 hb
          refine go hΓ 8 rfl ?_
          obtain rfl := Option.some.inj h18
          exact ⟨⟨rfl, rfl, rfl, rfl, rfl, rfl, get_eq rfl (w64_succ (Nat.lt_of_lt_of_le hlt hb7)), trivial⟩, [_], rfl, .inr ⟨HB.mk rfl, FB.mk rfl, (Nat.le_of_ble_eq_true rfl)⟩⟩
        · have h19 := cF h13 hb
          obtain ⟨y20, hy20, h21⟩ := bi_ok h19
          refine go hΓ 9 rfl ?_
          refine eo_callP (callable Tryz.func43 rfl rfl) (c_laneref1_FirstAt hy20) rfl (Nat.le_of_ble_eq_true rfl) rfl rfl rfl rfl rfl ?_
          refine go_ops hΓ 9 rfl ?_
          refine j_cond rfl (fun hb => ?_) (fun hb => ?_)
          · have h22 := cT h21 hb
            refine go hΓ 5 rfl ?_
            refine eo_build hΓ (gs := [B x3.Prefix.Addr.Six, .d (.v (.int .u64 x3.Prefix.Addr.Hi)), .d (.v (.int .u64 x3.Prefix.Addr.Lo)), I x3.Prefix.Bits, S y20]) rfl rfl rfl rfl rfl rfl rfl ?_
            refine eo_litT hΓ (enc := e_api_Lead) [(⟨x3.Prefix, y20⟩ : T_api_Lead)] rfl rfl rfl rfl rfl rfl rfl rfl rfl rfl rfl rfl (Nat.le_of_ble_eq_true rfl) ?_
            obtain ⟨y23, hy23, h24⟩ := bi_ok h22
            refine eo_appendT hΓ (enc := e_api_Lead) hy23 rfl rfl rfl rfl rfl rfl rfl rfl rfl (fun _ => rfl) rfl rfl rfl rfl ?_
            refine go_ops hΓ 8 rfl ?_
            obtain rfl := Option.some.inj h24
            exact ⟨⟨rfl, rfl, rfl, rfl, rfl, rfl, get_eq rfl (w64_succ (Nat.lt_of_lt_of_le hlt hb7)), trivial⟩, [_], rfl, .inr ⟨HB.mk rfl, FB.mk rfl, (Nat.le_of_ble_eq_true rfl)⟩⟩
          · have h25 := cF h21 hb
            refine go hΓ 7 rfl ?_
            obtain rfl := Option.some.inj h25
            exact ⟨⟨rfl, rfl, rfl, rfl, rfl, rfl, get_eq rfl (w64_succ (Nat.lt_of_lt_of_le hlt hb7)), trivial⟩, [_], rfl, .inr ⟨HB.mk rfl, FB.mk rfl, (Nat.le_of_ble_eq_true rfl)⟩⟩
    · refine go hΓ 6 rfl ?_
      refine j_condF rfl (decide_eq_false (Int.lt_irrefl _)) ?_
      refine go hΓ 4 rfl ?_
      exact ⟨⟨rfl, trivial⟩, [], rfl, .inl rfl⟩
  · refine go hΓ 8 rfl ?_
    refine cv_here ?_
    obtain rfl := Option.some.inj h5
    exact fin_objs hΓ [] (.inr rfl) rfl rfl rfl rfl (.inl rfl)
theorem c_slices_Equal_api_Lead_api_Lead {s1 : List T_api_Lead} {s2 : List T_api_Lead} {r : Bool} (h : m_slices_Equal_api_Lead_api_Lead s1 s2 = some r) : Pure Tryz.prog 20 [.d (Sl e_api_Lead s1), .d (Sl e_api_Lead s2)] (B r) := by
  refine Pure.enter (Fr.of 0 _) Tryz.func20 rfl (Fr.of_ok _) rfl rfl ?_
  refine go_in ?_
  unfold m_slices_Equal_api_Lead_api_Lead at h
  refine go hΓ 15 rfl ?_
  refine j_cond rfl (fun hb => ?_) (fun hb => ?_)
  · have h1 := cT h hb
    refine go hΓ 7 rfl ?_
    obtain rfl := Option.some.inj h1
    exact fin_pure hΓ (.inr rfl) rfl rfl
  · have h2 := cF h hb
    refine go hΓ 10 rfl ?_
    obtain ⟨q6, hq6, h7⟩ := bi_ok h2
    refine j_bound 0 rfl fun hb9 => ?_
    refine j_cutEZ (R := fun a8 => q6 = .go a8) (fun a8 => []) (fun a8 => []) ?_ ?_
    · refine go hΓ 1 rfl ?_
      refine j_range s1 hq6 (fun i3 s4 => [(0, .d (Sl e_api_Lead s1)), (1, .d (Sl e_api_Lead s2)), (12, I (s1.length : Int)), (13, I (i3 : Int))]) (fun s4 => []) ⟨⟨rfl, rfl, rfl, rfl, trivial⟩, [], rfl, .inl rfl⟩ (fun i3 x5 s4 y13 hx10 hlt hy11 hout12 => ?_) (fun s4 hgo => ?_)
      · refine go hΓ 6 rfl ?_
        refine j_condT rfl (decide_eq_true (Int.ofNat_lt.2 hlt)) ?_
        refine go hΓ 11 rfl ?_
        refine j_draw hmix (by kernel_rfl) ?_
        refine go hΓ 2 rfl ?_
        refine gl_o rfl (op_elemZ hΓ (enc := e_api_Lead) (getZ_nat hx10) rfl rfl rfl rfl rfl (fun _ => rfl)) ?_
        obtain ⟨x14, hx14, h15⟩ := bi_ok hy11
        refine go_draw hΓ 3 rfl ?_
        refine gl_o rfl (op_elemZ hΓ (enc := e_api_Lead) hx14 rfl rfl rfl rfl rfl (fun _ => rfl)) ?_
        refine go_draw hΓ 1 rfl ?_
        refine gl_o rfl (op_neS hΓ [44, 42, 34] (b := (((((x5.Prefix.Addr.Six : Bool) == x14.Prefix.Addr.Six) && (((x5.Prefix.Addr.Hi : Int) == x14.Prefix.Addr.Hi) && (((x5.Prefix.Addr.Lo : Int) == x14.Prefix.Addr.Lo) && true))) && (((x5.Prefix.Bits : Int) == x14.Prefix.Bits) && true)) && (((x5.Node : Str) == x14.Node) && true))) (by kernel_rfl) (by kernel_rfl) rfl rfl rfl) ?_
        refine go_draw hΓ 2 rfl ?_
        refine j_cond rfl (fun hb => ?_) (fun hb => ?_)
        · have h16 := cT h15 hb
          refine go hΓ 8 rfl ?_
          obtain ⟨v17, hv17, h18⟩ := bi_ok h16
          obtain rfl := Option.some.inj h18
          obtain rfl := hout12 _ rfl
          obtain rfl := Option.some.inj h7
          refine go hΓ 4 rfl ?_
          obtain rfl := Option.some.inj hv17
          exact fin_pure hΓ (.inr rfl) rfl rfl
        · have h19 := cF h15 hb
          refine go hΓ 7 rfl ?_
          obtain rfl := Option.some.inj h19
          exact ⟨_, rfl, ⟨⟨rfl, rfl, rfl, get_eq rfl (w64_succ (Nat.lt_of_lt_of_le hlt hb9)), trivial⟩, [], rfl, .inl rfl⟩⟩
      · subst hgo
        refine go hΓ 6 rfl ?_
        refine j_condF rfl (decide_eq_false (Int.lt_irrefl _)) ?_
        refine go hΓ 4 rfl ?_
        exact ⟨_, rfl, ⟨trivial, [], rfl, .inl rfl⟩⟩
    · intro a8 ha
      subst ha
      replace h7 := goI_l h7
      refine go hΓ 7 rfl ?_
      obtain rfl := Option.some.inj h7
      exact fin_pure hΓ (.inr rfl) rfl rfl
theorem c_laneref1_ExitsAt_1 {a : T_api_Router} {b : T_api_Router} {r : Int} (h : m_laneref1_ExitsAt_1 a b = some r) : Pure Tryz.prog 76 [.agg [B a.Prefix.Addr.Six, .d (.v (.int .u64 a.Prefix.Addr.Hi)), .d (.v (.int .u64 a.Prefix.Addr.Lo)), I a.Prefix.Bits, S a.Node, I a.Weight], .agg [B b.Prefix.Addr.Six, .d (.v (.int .u64 b.Prefix.Addr.Hi)), .d (.v (.int .u64 b.Prefix.Addr.Lo)), I b.Prefix.Bits, S b.Node, I b.Weight]] (I r) := by
  refine Pure.enter (Fr.of 0 _) Tryz.func76 rfl (Fr.of_ok _) rfl rfl ?_
  refine go_in ?_
  unfold m_laneref1_ExitsAt_1 at h
  refine go hΓ 2 rfl ?_
  refine eo_box rfl rfl rfl rfl (Nat.le_of_ble_eq_true rfl) ?_
  refine eo_box rfl rfl rfl rfl (Nat.le_of_ble_eq_true rfl) ?_
  obtain ⟨y1, hy1, h2⟩ := bi_ok h
  refine go_ops hΓ 9 rfl ?_
  refine eo_callP (callable Tryz.func68 rfl rfl) (c_cmp_Compare_int hy1) rfl (Nat.le_of_ble_eq_true rfl) rfl rfl rfl rfl rfl ?_
  refine go_ops hΓ 4 rfl ?_
  obtain rfl := Option.some.inj h2
  exact fin_pure hΓ (.inr rfl) rfl rfl
theorem c_slices_insertionSortCmpFunc_api_Router_3 {k : Nat} {data : List T_api_Router} {a : Int} {b : Int} {r : List T_api_Router} (h : m_slices_insertionSortCmpFunc_api_Router_3 k data a b = some r) : EC Tryz.prog 147 [.sl 0 data.length, I a, I b, .fn (.func 76) [] []] [.row 69 6 data.length (data.flatMap e_api_Router)] fun g hp' => g = .tup [] ∧ hp' = [.row 69 6 r.length (r.flatMap e_api_Router)] := by
  refine ec_enter (Fr.of 0 _) Tryz.func147 rfl (Fr.of_ok _) (Nat.le_of_ble_eq_true rfl) fun _ => ?_
  refine go_in ?_
  unfold m_slices_insertionSortCmpFunc_api_Router_3 at h
  refine go hΓ 7 rfl ?_
  obtain ⟨q4, hq4, h5⟩ := bi_ok h
  refine j_cutNZ [] [.row 69 6 q4.length (q4.flatMap e_api_Router)] ?_ ?_
  · refine go hΓ 1 rfl ?_
    refine j_loop hq4 (fun s2 => [(0, .sl 0 s2.1.length), (1, I a), (2, I b), (3, .fn (.func 76) [] []), (8, I s2.2)]) (fun s2 => [.row 69 6 s2.1.length (s2.1.flatMap e_api_Router)]) ⟨⟨rfl, rfl, rfl, rfl, rfl, trivial⟩, [], rfl, .inl rfl⟩ (fun s2 y10 hy8 hout9 => ?_)
    refine go hΓ 8 rfl ?_
    refine j_cond rfl (fun hb => ?_) (fun hb => ?_)
    · have h11 := cT hy8 hb
      refine go hΓ 10 rfl ?_
      obtain ⟨q15, hq15, h16⟩ := bi_ok h11
      refine j_cutNZ [(0, .sl 0 q15.length), (1, I a), (2, I b), (3, .fn (.func 76) [] []), (8, I s2.2)] [.row 69 6 q15.length (q15.flatMap e_api_Router)] ?_ ?_
      · refine go hΓ 1 rfl ?_
        refine j_loop hq15 (fun s13 => [(0, .sl 0 s13.1.length), (1, I a), (2, I b), (3, .fn (.func 76) [] []), (8, I s2.2), (9, I s13.2)]) (fun s13 => [.row 69 6 s13.1.length (s13.1.flatMap e_api_Router)]) ⟨⟨rfl, rfl, rfl, rfl, rfl, rfl, trivial⟩, [], rfl, .inl rfl⟩ (fun s13 y21 hy19 hout20 => ?_)
        obtain ⟨q22, hq22, h23⟩ := bi_ok hy19
        refine go hΓ 2 rfl ?_
        refine j_cutNZ [(0, .sl 0 s13.1.length), (1, I a), (2, I b), (3, .fn (.func 76) [] []), (8, I s2.2), (9, I s13.2), (34, B q22)] [.row 69 6 s13.1.length (s13.1.flatMap e_api_Router)] ?_ ?_
        · refine j_draw hmix (by kernel_rfl) ?_
          refine go hΓ 4 rfl ?_
          refine gl_gsplit rfl rfl (fun hb => ?_) (fun hb => ?_)
          · have h24 := cT hq22 hb
            obtain ⟨x25, hx25, h26⟩ := bi_ok h24
            have hj27 := getZ_at hx25
            refine go_draw hΓ 3 rfl ?_
            refine gl_og rfl rfl (op_elemRowZ hΓ hx25 rfl rfl rfl rfl rfl rfl) ?_
            refine gl_og rfl rfl (op_loadRowZ hΓ (enc := e_api_Router) s13.2.toNat 0 hj27 rfl rfl rfl rfl (fun _ => rfl) (g := .agg [B x25.Prefix.Addr.Six, .d (.v (.int .u64 x25.Prefix.Addr.Hi)), .d (.v (.int .u64 x25.Prefix.Addr.Lo)), I x25.Prefix.Bits, S x25.Node, I x25.Weight]) rfl) ?_
            obtain ⟨x28, hx28, h29⟩ := bi_ok h26
            have hj30 := getZ_at hx28
            refine go_draw hΓ 3 rfl ?_
            refine gl_og rfl rfl (op_elemRowZ hΓ hx28 rfl rfl rfl rfl rfl rfl) ?_
            refine gl_og rfl rfl (op_loadRowZ hΓ (enc := e_api_Router) ((wi (s13.2 - 1)).toNat) 0 hj30 rfl rfl rfl rfl (fun _ => rfl) (g := .agg [B x28.Prefix.Addr.Six, .d (.v (.int .u64 x28.Prefix.Addr.Hi)), .d (.v (.int .u64 x28.Prefix.Addr.Lo)), I x28.Prefix.Bits, S x28.Node, I x28.Weight]) rfl) ?_
            obtain ⟨y31, hy31, h32⟩ := bi_ok h29
            refine gl_callPg (callable Tryz.func76 rfl rfl) (c_laneref1_ExitsAt_1 hy31) rfl rfl rfl rfl rfl rfl rfl ?_
            refine go_draw hΓ 3 rfl ?_
            obtain rfl := Option.some.inj h32
            exact ⟨⟨rfl, rfl, rfl, rfl, rfl, rfl, rfl, trivial⟩, [], rfl, .inl rfl⟩
          · have h33 := cF hq22 hb
            refine go_draw hΓ 14 rfl ?_
            obtain rfl := Option.some.inj h33
            exact ⟨⟨rfl, rfl, rfl, rfl, rfl, rfl, rfl, trivial⟩, [], rfl, .inl rfl⟩
        · refine go hΓ 1 rfl ?_
          refine j_cond rfl (fun hb => ?_) (fun hb => ?_)
          · have h34 := cT h23 hb
            refine go hΓ 4 rfl ?_
            refine j_drawE [.row 69 6 s13.1.length (s13.1.flatMap e_api_Router)] [9, 13] [15, 17] [15, 17] hmix (by kernel_rfl) (by kernel_rfl) ⟨rfl, trivial⟩ (Nat.le_of_ble_eq_true rfl) ?_
            obtain ⟨x35, hx35, h36⟩ := bi_ok h34
            have hj37 := getZ_at hx35
            refine go_E hΓ 8 rfl ?_
            refine ge_q rfl (.inl rfl) (fun _ _ => qte_of_qt (qt_p (op_elemRowZ hΓ hx35 rfl rfl rfl rfl rfl rfl))) ?_
            refine ge_p rfl (fun hp hs => op_loadRowZ hΓ (enc := e_api_Router) ((wi (s13.2 - 1)).toNat) 0 hj37 rfl rfl rfl (hs 0 _ rfl rfl) (fun _ => rfl) (g := .agg [B x35.Prefix.Addr.Six, .d (.v (.int .u64 x35.Prefix.Addr.Hi)), .d (.v (.int .u64 x35.Prefix.Addr.Lo)), I x35.Prefix.Bits, S x35.Node, I x35.Weight]) rfl) rfl ?_
            obtain ⟨x38, hx38, h39⟩ := bi_ok h36
            have hj40 := getZ_at hx38
            refine go_E hΓ 2 rfl ?_
            refine ge_q rfl (.inl rfl) (fun _ _ => qte_of_qt (qt_p (op_elemRowZ hΓ hx38 rfl rfl rfl rfl rfl rfl))) ?_
            refine ge_p rfl (fun hp hs => op_loadRowZ hΓ (enc := e_api_Router) s13.2.toNat 0 hj40 rfl rfl rfl (hs 0 _ rfl rfl) (fun _ => rfl) (g := .agg [B x38.Prefix.Addr.Six, .d (.v (.int .u64 x38.Prefix.Addr.Hi)), .d (.v (.int .u64 x38.Prefix.Addr.Lo)), I x38.Prefix.Bits, S x38.Node, I x38.Weight]) rfl) rfl ?_
            obtain ⟨x41, hx41, h42⟩ := bi_ok h39
            have hj43 := getZ_at hx41
            refine ge_q rfl (.inl rfl) (fun _ _ => qte_of_qt (qt_p (op_elemRowZ hΓ hx41 rfl rfl rfl rfl rfl rfl))) ?_
            refine ge_h0 [.row 69 6 (s13.1.set s13.2.toNat x35).length ((s13.1.set s13.2.toNat x35).flatMap e_api_Router)] rfl rfl (brk_st rfl) (qte_u (opu_setRowZ hΓ (enc := e_api_Router) (z' := x35) s13.2.toNat (by have := (List.getElem?_eq_some_iff.1 hj43).1; simpa using this) rfl rfl rfl rfl (fun _ => rfl) rfl rfl rfl rfl rfl)) ?_
            obtain ⟨x44, hx44, h45⟩ := bi_ok h42
            have hj46 := getZ_at hx44
            refine ge_q rfl (.inl rfl) (fun _ _ => qte_of_qt (qt_p (op_elemRowZ hΓ hx44 rfl rfl rfl rfl rfl rfl))) ?_
            obtain ⟨x47, hx47, h48⟩ := bi_ok h45
            have hj49 : (s13.1.set s13.2.toNat x35)[(wi (s13.2 - 1)).toNat]? = some x47 := hx47
            refine ge_h0 [.row 69 6 ((s13.1.set s13.2.toNat x35).set ((wi (s13.2 - 1)).toNat) x38).length (((s13.1.set s13.2.toNat x35).set ((wi (s13.2 - 1)).toNat) x38).flatMap e_api_Router)] rfl rfl (brk_st rfl) (qte_u (opu_setRowZ hΓ (enc := e_api_Router) (z' := x38) ((wi (s13.2 - 1)).toNat) (by have := (List.getElem?_eq_some_iff.1 hj49).1; simpa using this) rfl rfl rfl rfl (fun _ => rfl) rfl rfl rfl rfl rfl)) ?_
            refine ge_fin ?_
            refine go hΓ 2 rfl ?_
            refine j_relen 0 (n' := ((s13.1.set s13.2.toNat x35).set ((wi (s13.2 - 1)).toNat) x38).length) rfl (by simp) ?_
            refine j_relen 37 (n' := ((s13.1.set s13.2.toNat x35).set ((wi (s13.2 - 1)).toNat) x38).length) rfl (by simp) ?_
            refine j_relen 39 (n' := ((s13.1.set s13.2.toNat x35).set ((wi (s13.2 - 1)).toNat) x38).length) rfl (by simp) ?_
            refine j_relen 42 (n' := ((s13.1.set s13.2.toNat x35).set ((wi (s13.2 - 1)).toNat) x38).length) rfl (by simp) ?_
            refine j_relen 47 (n' := ((s13.1.set s13.2.toNat x35).set ((wi (s13.2 - 1)).toNat) x38).length) rfl (by simp) ?_
            refine go hΓ 5 rfl ?_
            obtain rfl := Option.some.inj h48
            exact ⟨_, rfl, ⟨⟨rfl, rfl, rfl, rfl, rfl, rfl, trivial⟩, [], rfl, .inl rfl⟩⟩
          · have h50 := cF h23 hb
            refine go hΓ 4 rfl ?_
            obtain rfl := Option.some.inj h50
            obtain rfl := hout20 _ rfl
            exact ⟨⟨rfl, rfl, rfl, rfl, rfl, trivial⟩, [], rfl, .inl rfl⟩
      · refine go hΓ 7 rfl ?_
        obtain rfl := Option.some.inj h16
        exact ⟨_, rfl, ⟨⟨rfl, rfl, rfl, rfl, rfl, trivial⟩, [], rfl, .inl rfl⟩⟩
    · have h51 := cF hy8 hb
      refine go hΓ 4 rfl ?_
      obtain rfl := Option.some.inj h51
      obtain rfl := hout9 _ rfl
      exact ⟨trivial, [], rfl, .inl rfl⟩
  · obtain rfl := Option.some.inj h5
    exact fin_objs hΓ [] (.inl rfl) rfl rfl rfl rfl (.inl rfl)
theorem c_slices_stableCmpFunc_api_Router_3 {k : Nat} {data : List T_api_Router} {n : Int} {r : List T_api_Router} (h : m_slices_stableCmpFunc_api_Router_3 k data n = some r) : EC Tryz.prog 118 [.sl 0 data.length, I n, .fn (.func 76) [] []] [.row 69 6 data.length (data.flatMap e_api_Router)] fun g hp' => g = .tup [] ∧ hp' = [.row 69 6 r.length (r.flatMap e_api_Router)] := by
  refine ec_enter (Fr.of 0 _) Tryz.func118 rfl (Fr.of_ok _) (Nat.le_of_ble_eq_true rfl) fun _ => ?_
  refine go_in ?_
  unfold m_slices_stableCmpFunc_api_Router_3 at h
  refine go hΓ 13 rfl ?_
  obtain ⟨q4, hq4, h5⟩ := bi_ok h
  refine j_cutNZ [(0, .sl 0 q4.1.length), (1, I n), (2, .fn (.func 76) [] []), (6, I 20), (7, I q4.2)] [.row 69 6 q4.1.length (q4.1.flatMap e_api_Router)] ?_ ?_
  · refine go hΓ 1 rfl ?_
    refine j_loop hq4 (fun s2 => [(0, .sl 0 s2.1.length), (1, I n), (2, .fn (.func 76) [] []), (6, I 20), (7, I s2.2.1), (8, I s2.2.2)]) (fun s2 => [.row 69 6 s2.1.length (s2.1.flatMap e_api_Router)]) ⟨⟨rfl, rfl, rfl, rfl, rfl, rfl, trivial⟩, [], rfl, .inl rfl⟩ (fun s2 y10 hy8 hout9 => ?_)
    refine go hΓ 8 rfl ?_
    refine j_cond rfl (fun hb => ?_) (fun hb => ?_)
    · have h11 := cT hy8 hb
      obtain ⟨y12, hy12, h13⟩ := bi_ok h11
      refine go hΓ 9 rfl ?_
      refine eo_callF [0] (.tup []) [.row 69 6 y12.length (y12.flatMap e_api_Router)] (callable Tryz.func147 rfl rfl) (c_slices_insertionSortCmpFunc_api_Router_3 hy12) rfl (Nat.le_of_ble_eq_true rfl) rfl rfl rfl rfl rfl rfl rfl rfl rfl rfl ?_
      obtain ⟨hg15, h14⟩ := gd_ok h13
      refine eo_relen 0 rfl (of_decide_eq_true hg15).symm ?_
      refine go_ops hΓ 15 rfl ?_
      obtain rfl := Option.some.inj h14
      exact ⟨_, rfl, ⟨⟨rfl, rfl, rfl, rfl, rfl, rfl, trivial⟩, [], rfl, .inl rfl⟩⟩
    · have h16 := cF hy8 hb
      refine go hΓ 4 rfl ?_
      obtain rfl := Option.some.inj h16
      obtain rfl := hout9 _ rfl
      exact ⟨⟨rfl, rfl, rfl, rfl, rfl, trivial⟩, [], rfl, .inl rfl⟩
  · obtain ⟨y17, hy17, h18⟩ := bi_ok h5
    refine go hΓ 7 rfl ?_
    refine eo_callF [0] (.tup []) [.row 69 6 y17.length (y17.flatMap e_api_Router)] (callable Tryz.func147 rfl rfl) (c_slices_insertionSortCmpFunc_api_Router_3 hy17) rfl (Nat.le_of_ble_eq_true rfl) rfl rfl rfl rfl rfl rfl rfl rfl rfl rfl ?_
    obtain ⟨hg20, h19⟩ := gd_ok h18
    refine eo_relen 0 rfl (of_decide_eq_true hg20).symm ?_
    refine go_ops hΓ 2 rfl ?_
    obtain ⟨q24, hq24, h25⟩ := bi_ok h19
    refine j_cutNZ [] [.row 69 6 y17.length (y17.flatMap e_api_Router)] ?_ ?_
    · refine go hΓ 1 rfl ?_
      refine j_loop hq24 (fun s22 => [(0, .sl 0 y17.length), (1, I n), (2, .fn (.func 76) [] []), (6, I s22)]) (fun s22 => [.row 69 6 y17.length (y17.flatMap e_api_Router)]) ⟨⟨rfl, rfl, rfl, rfl, trivial⟩, [], rfl, .inl rfl⟩ (fun s22 y30 hy28 hout29 => ?_)
      refine go hΓ 8 rfl ?_
      refine j_cond rfl (fun hb => ?_) (fun hb => ?_)
      · have h31 := cT hy28 hb
        refine go hΓ 12 rfl ?_
        obtain ⟨q35, hq35, h36⟩ := bi_ok h31
        refine j_cutNZ [(0, .sl 0 y17.length), (1, I n), (2, .fn (.func 76) [] []), (6, I s22), (7, I 0)] [.row 69 6 y17.length (y17.flatMap e_api_Router)] ?_ ?_
        · refine go hΓ 1 rfl ?_
          refine j_loop hq35 (fun s33 => [(0, .sl 0 y17.length), (1, I n), (2, .fn (.func 76) [] []), (6, I s22), (7, I 0), (8, I (wi (2 * s22)))]) (fun s33 => [.row 69 6 y17.length (y17.flatMap e_api_Router)]) ⟨⟨rfl, rfl, rfl, rfl, rfl, rfl, trivial⟩, [], rfl, .inl rfl⟩ (fun s33 y41 hy39 hout40 => ?_)
          refine go hΓ 8 rfl ?_
          refine j_cond rfl (fun hb => ?_) (fun hb => ?_)
          · have h42 := cT hy39 hb
            refine go hΓ 12 rfl ?_
            cases h42
          · have h43 := cF hy39 hb
            refine go hΓ 4 rfl ?_
            obtain rfl := Option.some.inj h43
            obtain rfl := hout40 _ rfl
            exact ⟨⟨rfl, rfl, rfl, rfl, rfl, trivial⟩, [], rfl, .inl rfl⟩
        · refine go hΓ 17 rfl ?_
          refine j_cond rfl (fun hb => ?_) (fun hb => ?_)
          · have h44 := cT h36 hb
            refine go hΓ 6 rfl ?_
            cases h44
          · have h45 := cF h36 hb
            refine go hΓ 8 rfl ?_
            obtain rfl := Option.some.inj h45
            exact ⟨_, rfl, ⟨⟨rfl, rfl, rfl, rfl, trivial⟩, [], rfl, .inl rfl⟩⟩
      · have h46 := cF hy28 hb
        refine go hΓ 4 rfl ?_
        obtain rfl := Option.some.inj h46
        obtain rfl := hout29 _ rfl
        exact ⟨trivial, [], rfl, .inl rfl⟩
    · obtain rfl := Option.some.inj h25
      exact fin_objs hΓ [] (.inl rfl) rfl rfl rfl rfl (.inl rfl)
theorem c_slices_SortStableFunc_api_Router_api_Router_3 {k : Nat} {x : List T_api_Router} {r : List T_api_Router} (h : m_slices_SortStableFunc_api_Router_api_Router_3 k x = some r) : EC Tryz.prog 66 [.sl 0 x.length, .fn (.func 76) [] []] [.row 69 6 x.length (x.flatMap e_api_Router)] fun g hp' => g = .tup [] ∧ hp' = [.row 69 6 r.length (r.flatMap e_api_Router)] := by
  refine ec_enter (Fr.of 0 _) Tryz.func66 rfl (Fr.of_ok _) (Nat.le_of_ble_eq_true rfl) fun _ => ?_
  refine go_in ?_
  unfold m_slices_SortStableFunc_api_Router_api_Router_3 at h
  obtain ⟨y1, hy1, h2⟩ := bi_ok h
  refine go hΓ 5 rfl ?_
  refine eo_callF [0] (.tup []) [.row 69 6 y1.length (y1.flatMap e_api_Router)] (callable Tryz.func118 rfl rfl) (c_slices_stableCmpFunc_api_Router_3 hy1) rfl (Nat.le_of_ble_eq_true rfl) rfl rfl rfl rfl rfl rfl rfl rfl rfl rfl ?_
  refine go_ops hΓ 1 rfl ?_
  obtain rfl := Option.some.inj h2
  exact fin_objs hΓ [] (.inl rfl) rfl rfl rfl rfl (.inl rfl)
theorem c_laneref1_ExitsAt {k : Nat} {v_r : List T_api_Router} {l : List T_api_Health} {six : Bool} {v_at : Int} {r : List Str} (h : m_laneref1_ExitsAt k v_r l six v_at = some r) : EC Tryz.prog 23 [.d (Sl e_api_Router v_r), .d (Sl e_api_Health l), B six, I v_at] [] fun g hp' => g = .sl 0 r.length ∧ hp' = [.row 9 1 r.length (r.flatMap eS)] := by
  refine ec_enterC (Fr.of 0 _) Tryz.func23 rfl (Fr.of_ok _) (Nat.le_of_ble_eq_true rfl) fun _ => ?_
  refine go_in ?_
  unfold m_laneref1_ExitsAt at h
  refine go hΓ 9 rfl ?_
  refine eo_build hΓ (gs := [B six, .d (.v (.int .u64 0)), .d (.v (.int .u64 0))]) rfl rfl rfl rfl rfl rfl rfl ?_
  refine eo_build hΓ (gs := [B six, .d (.v (.int .u64 0)), .d (.v (.int .u64 0)), I 0]) rfl rfl rfl rfl rfl rfl rfl ?_
  obtain ⟨y1, hy1, h2⟩ := bi_ok h
  refine eo_callF [] (.sl 0 y1.length) [.row 69 6 y1.length (y1.flatMap e_api_Router)] (callable Tryz.func75 rfl rfl) (c_laneref1_routersOf hy1) rfl (Nat.le_of_ble_eq_true rfl) rfl rfl rfl rfl rfl rfl rfl rfl rfl rfl ?_
  obtain ⟨y3, hy3, h4⟩ := bi_ok h2
  refine go_ops hΓ 6 rfl ?_
  refine eo_callF [0] (.tup []) [.row 69 6 y3.length (y3.flatMap e_api_Router)] (callable Tryz.func66 rfl rfl) (c_slices_SortStableFunc_api_Router_api_Router_3 hy3) rfl (Nat.le_of_ble_eq_true rfl) rfl rfl rfl rfl rfl rfl rfl rfl rfl rfl ?_
  obtain ⟨hg6, h5⟩ := gd_ok h4
  refine eo_relen 9 rfl (of_decide_eq_true hg6).symm ?_
  refine go_ops hΓ 4 rfl ?_
  refine eo_nilOwn (t := 0) 9 1 rfl (Nat.le_of_ble_eq_true rfl) ?_
  refine go_ops hΓ 10 rfl ?_
  obtain ⟨q10, hq10, h11⟩ := bi_ok h5
  obtain ⟨hb13, h14⟩ := gd_ok hq10
  replace hb13 := of_decide_eq_true hb13
  refine j_cutNZ [(10, .sl 1 q10.length)] [.row 69 6 y3.length (y3.flatMap e_api_Router), .row 9 1 q10.length (q10.flatMap eS)] ?_ ?_
  · refine go hΓ 1 rfl ?_
    refine j_rangeG h14 (fun i7 s8 => [(1, .d (Sl e_api_Health l)), (3, I v_at), (10, .sl 1 s8.length), (20, .sl 0 y3.length), (21, I (y3.length : Int)), (22, I (i7 : Int))]) (fun s8 => [.row 69 6 y3.length (y3.flatMap e_api_Router), .row 9 1 s8.length (s8.flatMap eS)]) ⟨⟨rfl, rfl, rfl, rfl, rfl, rfl, trivial⟩, [], rfl, .inl rfl⟩ (fun i7 s8 y18 hlt hy16 => ?_) (fun hge => ?_)
    · refine go hΓ 6 rfl ?_
      refine j_condT rfl (decide_eq_true hlt) ?_
      obtain ⟨x19, hx19, h20⟩ := bi_ok hy16
      have hj21 := getZ_at hx19
      refine go hΓ 6 rfl ?_
      refine eo_o rfl (op_elemRowZ hΓ hx19 rfl rfl rfl rfl rfl rfl) ?_
      refine eo_o rfl (op_loadRowZ hΓ (enc := e_api_Router) ((i7 : Int).toNat) 0 hj21 rfl rfl rfl rfl (fun _ => rfl) (g := .agg [B x19.Prefix.Addr.Six, .d (.v (.int .u64 x19.Prefix.Addr.Hi)), .d (.v (.int .u64 x19.Prefix.Addr.Lo)), I x19.Prefix.Bits, S x19.Node, I x19.Weight]) rfl) ?_
      refine eo_alloc hΓ rfl rfl rfl (Nat.le_of_ble_eq_true rfl) ?_
      refine eo_store hΓ rfl rfl rfl rfl rfl rfl rfl rfl (Nat.le_of_ble_eq_true rfl) ?_
      refine eo_hp [.row 69 6 y3.length (y3.flatMap e_api_Router), .row 9 1 s8.length (s8.flatMap eS), .box 69 [B x19.Prefix.Addr.Six, .d (.v (.int .u64 x19.Prefix.Addr.Hi)), .d (.v (.int .u64 x19.Prefix.Addr.Lo)), I x19.Prefix.Bits, S x19.Node, I x19.Weight]] rfl ?_
      obtain ⟨y22, hy22, h23⟩ := bi_ok h20
      refine go_ops hΓ 8 rfl ?_
      refine eo_callP (callable Tryz.func36 rfl rfl) (c_laneref1_UpAt hy22) rfl (Nat.le_of_ble_eq_true rfl) rfl rfl rfl rfl rfl ?_
      refine go_ops hΓ 2 rfl ?_
      refine j_cond rfl (fun hb => ?_) (fun hb => ?_)
      · have h24 := cT h23 hb
        refine go hΓ 4 rfl ?_
        refine eo_litT hΓ (enc := eS) [x19.Node] rfl rfl rfl rfl rfl rfl rfl rfl rfl rfl rfl rfl (Nat.le_of_ble_eq_true rfl) ?_
        obtain ⟨y25, hy25, h26⟩ := bi_ok h24
        refine eo_appendT hΓ (enc := eS) hy25 rfl rfl rfl rfl rfl rfl rfl rfl rfl (fun _ => rfl) rfl rfl rfl rfl ?_
        refine go_ops hΓ 8 rfl ?_
        obtain rfl := Option.some.inj h26
        exact ⟨⟨rfl, rfl, rfl, rfl, rfl, get_eq rfl (w64_succ (by omega)), trivial⟩, [_], rfl, .inr ⟨HB.mk rfl, FB.mk rfl, (Nat.le_of_ble_eq_true rfl)⟩⟩
      · have h27 := cF h23 hb
        refine go hΓ 7 rfl ?_
        obtain rfl := Option.some.inj h27
        exact ⟨⟨rfl, rfl, rfl, rfl, rfl, get_eq rfl (w64_succ (by omega)), trivial⟩, [_], rfl, .inr ⟨HB.mk rfl, FB.mk rfl, (Nat.le_of_ble_eq_true rfl)⟩⟩
    · refine go hΓ 6 rfl ?_
      refine j_condF rfl (decide_eq_false hge) ?_
      refine go hΓ 4 rfl ?_
      exact ⟨⟨rfl, trivial⟩, [], rfl, .inl rfl⟩
  · refine go hΓ 8 rfl ?_
    refine cv_kill 0 [.dead, .row 9 1 q10.length (q10.flatMap eS)] rfl (Nat.le_of_ble_eq_true rfl) ?_
    refine cv_move 1 0 [.row 9 1 q10.length (q10.flatMap eS), .dead] rfl rfl rfl rfl rfl rfl ?_
    refine cv_here ?_
    obtain rfl := Option.some.inj h11
    exact fin_objs hΓ [_] (.inr rfl) rfl rfl rfl rfl (.inr ⟨HB.mk rfl, rfl⟩)
theorem c_slices_Equal_string_string {s1 : List Str} {s2 : List Str} {r : Bool} (h : m_slices_Equal_string_string s1 s2 = some r) : Pure Tryz.prog 22 [.d (Sl eS s1), .d (Sl eS s2)] (B r) := by
  refine Pure.enter (Fr.of 0 _) Tryz.func22 rfl (Fr.of_ok _) rfl rfl ?_
  refine go_in ?_
  unfold m_slices_Equal_string_string at h
  refine go hΓ 15 rfl ?_
  refine j_cond rfl (fun hb => ?_) (fun hb => ?_)
  · have h1 := cT h hb
    refine go hΓ 7 rfl ?_
    obtain rfl := Option.some.inj h1
    exact fin_pure hΓ (.inr rfl) rfl rfl
  · have h2 := cF h hb
    refine go hΓ 10 rfl ?_
    obtain ⟨q6, hq6, h7⟩ := bi_ok h2
    refine j_bound 0 rfl fun hb9 => ?_
    refine j_cutEZ (R := fun a8 => q6 = .go a8) (fun a8 => []) (fun a8 => []) ?_ ?_
    · refine go hΓ 1 rfl ?_
      refine j_range s1 hq6 (fun i3 s4 => [(0, .d (Sl eS s1)), (1, .d (Sl eS s2)), (12, I (s1.length : Int)), (13, I (i3 : Int))]) (fun s4 => []) ⟨⟨rfl, rfl, rfl, rfl, trivial⟩, [], rfl, .inl rfl⟩ (fun i3 x5 s4 y13 hx10 hlt hy11 hout12 => ?_) (fun s4 hgo => ?_)
      · refine go hΓ 6 rfl ?_
        refine j_condT rfl (decide_eq_true (Int.ofNat_lt.2 hlt)) ?_
        refine go hΓ 11 rfl ?_
        refine j_draw hmix (by kernel_rfl) ?_
        refine go hΓ 2 rfl ?_
        refine gl_o rfl (op_elemZ hΓ (enc := eS) (getZ_nat hx10) rfl rfl rfl rfl rfl (fun _ => rfl)) ?_
        obtain ⟨x14, hx14, h15⟩ := bi_ok hy11
        refine go_draw hΓ 3 rfl ?_
        refine gl_o rfl (op_elemZ hΓ (enc := eS) hx14 rfl rfl rfl rfl rfl (fun _ => rfl)) ?_
        refine go_draw hΓ 4 rfl ?_
        refine j_cond rfl (fun hb => ?_) (fun hb => ?_)
        · have h16 := cT h15 hb
          refine go hΓ 8 rfl ?_
          obtain ⟨v17, hv17, h18⟩ := bi_ok h16
          obtain rfl := Option.some.inj h18
          obtain rfl := hout12 _ rfl
          obtain rfl := Option.some.inj h7
          refine go hΓ 4 rfl ?_
          obtain rfl := Option.some.inj hv17
          exact fin_pure hΓ (.inr rfl) rfl rfl
        · have h19 := cF h15 hb
          refine go hΓ 7 rfl ?_
          obtain rfl := Option.some.inj h19
          exact ⟨_, rfl, ⟨⟨rfl, rfl, rfl, get_eq rfl (w64_succ (Nat.lt_of_lt_of_le hlt hb9)), trivial⟩, [], rfl, .inl rfl⟩⟩
      · subst hgo
        refine go hΓ 6 rfl ?_
        refine j_condF rfl (decide_eq_false (Int.lt_irrefl _)) ?_
        refine go hΓ 4 rfl ?_
        exact ⟨_, rfl, ⟨trivial, [], rfl, .inl rfl⟩⟩
    · intro a8 ha
      subst ha
      replace h7 := goI_l h7
      refine go hΓ 7 rfl ?_
      obtain rfl := Option.some.inj h7
      exact fin_pure hΓ (.inr rfl) rfl rfl
theorem c_route_CheckLinks {k : Nat} {l : List T_api_Link} {r : Int} (h : m_route_CheckLinks k l = some r) : Pure Tryz.prog 124 [.d (Sl e_api_Link l)] (I r) := by
  refine Pure.enter (Fr.of 0 _) Tryz.func124 rfl (Fr.of_ok _) rfl rfl ?_
  refine go_in ?_
  unfold m_route_CheckLinks at h
  refine go hΓ 13 rfl ?_
  refine j_cond rfl (fun hb => ?_) (fun hb => ?_)
  · have h1 := cT h hb
    refine go hΓ 7 rfl ?_
    obtain rfl := Option.some.inj h1
    exact fin_pure hΓ (.inr rfl) rfl rfl
  · have h2 := cF h hb
    refine go hΓ 10 rfl ?_
    obtain ⟨q6, hq6, h7⟩ := bi_ok h2
    refine j_bound 0 rfl fun hb9 => ?_
    refine j_cutEZ (R := fun a8 => q6 = .go a8) (fun a8 => []) (fun a8 => []) ?_ ?_
    · refine go hΓ 1 rfl ?_
      refine j_range l hq6 (fun i3 s4 => [(0, .d (Sl e_api_Link l)), (8, .d (Sl e_api_Link l)), (9, I (l.length : Int)), (10, I (i3 : Int))]) (fun s4 => []) ⟨⟨rfl, rfl, rfl, rfl, trivial⟩, [], rfl, .inl rfl⟩ (fun i3 x5 s4 y13 hx10 hlt hy11 hout12 => ?_) (fun s4 hgo => ?_)
      · refine go hΓ 6 rfl ?_
        refine j_condT rfl (decide_eq_true (Int.ofNat_lt.2 hlt)) ?_
        refine go hΓ 7 rfl ?_
        refine eo_o rfl (op_elemZ hΓ (enc := e_api_Link) (getZ_nat hx10) rfl rfl rfl rfl rfl (fun _ => rfl)) ?_
        refine go_ops hΓ 1 rfl ?_
        refine eo_alloc hΓ rfl rfl rfl (Nat.le_of_ble_eq_true rfl) ?_
        refine go_ops hΓ 1 rfl ?_
        refine eo_store hΓ rfl rfl rfl rfl rfl rfl rfl rfl (Nat.le_of_ble_eq_true rfl) ?_
        refine eo_hp [.box 121 [S x5.A, S x5.v_B, I x5.Millis]] rfl ?_
        obtain ⟨y14, hy14, h15⟩ := bi_ok hy11
        refine go_ops hΓ 7 rfl ?_
        refine eo_callP (callable Tryz.func82 rfl rfl) (c_kit_IsKey hy14) rfl (Nat.le_of_ble_eq_true rfl) rfl rfl rfl rfl rfl ?_
        refine go_ops hΓ 2 rfl ?_
        obtain ⟨q16, hq16, h17⟩ := bi_ok h15
        refine o_cut 5 [(0, .d (Sl e_api_Link l)), (3, I (i3 : Int)), (4, .ptr 0 0), (8, .d (Sl e_api_Link l)), (9, I (l.length : Int)), (10, I (i3 : Int)), (25, B q16)] [.box 121 [S x5.A, S x5.v_B, I x5.Millis]] ?_ ?_
        · refine eo_gsplit rfl rfl (fun hb => ?_) (fun hb => ?_)
          · have h18 := cT hq16 hb
            refine go_ops hΓ 6 rfl ?_
            obtain rfl := Option.some.inj h18
            exact ⟨⟨rfl, rfl, rfl, rfl, rfl, rfl, rfl, trivial⟩, [], rfl, .inl rfl⟩
          · have h19 := cF hq16 hb
            obtain ⟨y20, hy20, h21⟩ := bi_ok h19
            refine go_ops hΓ 2 rfl ?_
            refine eo_guard rfl ?_
            refine eo_callP (callable Tryz.func82 rfl rfl) (c_kit_IsKey hy20) rfl (Nat.le_of_ble_eq_true rfl) rfl rfl rfl rfl rfl ?_
            refine go_ops hΓ 3 rfl ?_
            obtain rfl := Option.some.inj h21
            exact ⟨⟨rfl, rfl, rfl, rfl, rfl, rfl, rfl, trivial⟩, [], rfl, .inl rfl⟩
        · refine go_ops hΓ 3 rfl ?_
          refine j_cond rfl (fun hb => ?_) (fun hb => ?_)
          · have h22 := cT h17 hb
            refine go hΓ 9 rfl ?_
            obtain ⟨v23, hv23, h24⟩ := bi_ok h22
            obtain rfl := Option.some.inj h24
            obtain rfl := hout12 _ rfl
            obtain rfl := Option.some.inj h7
            refine go hΓ 4 rfl ?_
            obtain rfl := Option.some.inj hv23
            exact fin_pure hΓ (.inr rfl) rfl rfl
          · have h25 := cF h17 hb
            refine go hΓ 10 rfl ?_
            refine j_cond rfl (fun hb => ?_) (fun hb => ?_)
            · have h26 := cT h25 hb
              refine go hΓ 9 rfl ?_
              obtain ⟨v27, hv27, h28⟩ := bi_ok h26
              obtain rfl := Option.some.inj h28
              obtain rfl := hout12 _ rfl
              obtain rfl := Option.some.inj h7
              refine go hΓ 4 rfl ?_
              obtain rfl := Option.some.inj hv27
              exact fin_pure hΓ (.inr rfl) rfl rfl
            · have h29 := cF h25 hb
              obtain ⟨y30, hy30, h31⟩ := bi_ok h29
              refine go hΓ 4 rfl ?_
              refine eo_callP (callable Tryz.func83 rfl rfl) (c_kit_Outside hy30) rfl (Nat.le_of_ble_eq_true rfl) rfl rfl rfl rfl rfl ?_
              refine go_ops hΓ 3 rfl ?_
              refine j_cond rfl (fun hb => ?_) (fun hb => ?_)
              · have h32 := cT h31 hb
                refine go hΓ 9 rfl ?_
                obtain ⟨v33, hv33, h34⟩ := bi_ok h32
                obtain rfl := Option.some.inj h34
                obtain rfl := hout12 _ rfl
                obtain rfl := Option.some.inj h7
                refine go hΓ 4 rfl ?_
                obtain rfl := Option.some.inj hv33
                exact fin_pure hΓ (.inr rfl) rfl rfl
              · have h35 := cF h31 hb
                obtain ⟨q36, hq36, h37⟩ := bi_ok h35
                refine go hΓ 1 rfl ?_
                refine j_cutNZ [(0, .d (Sl e_api_Link l)), (8, .d (Sl e_api_Link l)), (9, I (l.length : Int)), (10, I (i3 : Int)), (36, B q36)] [.box 121 [S x5.A, S x5.v_B, I x5.Millis]] ?_ ?_
                · refine j_drawE [.box 121 [S x5.A, S x5.v_B, I x5.Millis]] [10, 19] [] [] hmix (by kernel_rfl) (by kernel_rfl) ⟨rfl, trivial⟩ (Nat.le_of_ble_eq_true rfl) ?_
                  refine go_E hΓ 3 rfl ?_
                  refine ge_gsplit rfl rfl (fun hb => ?_) (fun hb => ?_)
                  · have h38 := cT hq36 hb
                    obtain ⟨x39, hx39, h40⟩ := bi_ok h38
                    refine go_E hΓ 3 rfl ?_
                    refine ge_q rfl (.inr ⟨_, _, rfl, rfl⟩) (fun _ _ => qte_of_qt (qt_p (op_elemZ hΓ (enc := e_api_Link) hx39 rfl rfl rfl rfl rfl (fun _ => rfl)))) ?_
                    obtain ⟨y41, hy41, h42⟩ := bi_ok h40
                    refine go_E hΓ 4 rfl ?_
                    refine ge_callPg rfl (callable Tryz.func73 rfl rfl) (c_strings_Compare hy41) rfl rfl rfl rfl rfl rfl ?_
                    obtain ⟨x43, hx43, h44⟩ := bi_ok h42
                    refine go_E hΓ 3 rfl ?_
                    refine ge_q rfl (.inr ⟨_, _, rfl, rfl⟩) (fun _ _ => qte_of_qt (qt_p (op_elemZ hΓ (enc := e_api_Link) hx43 rfl rfl rfl rfl rfl (fun _ => rfl)))) ?_
                    obtain ⟨y45, hy45, h46⟩ := bi_ok h44
                    refine go_E hΓ 4 rfl ?_
                    refine ge_callPg rfl (callable Tryz.func73 rfl rfl) (c_strings_Compare hy45) rfl rfl rfl rfl rfl rfl ?_
                    refine ge_litTg hΓ (enc := (eN .i64)) [y41, y45] rfl rfl rfl rfl rfl rfl rfl rfl rfl rfl rfl rfl rfl ?_
                    obtain ⟨y47, hy47, h48⟩ := bi_ok h46
                    refine ge_callPg rfl (callable Tryz.func71 rfl rfl) (c_cmp_Or_int hy47) rfl rfl rfl rfl rfl rfl ?_
                    refine go_E hΓ 3 rfl ?_
                    refine ge_fin ?_
                    obtain rfl := Option.some.inj h48
                    exact ⟨⟨rfl, rfl, rfl, rfl, rfl, trivial⟩, [], rfl, .inl rfl⟩
                  · have h49 := cF hq36 hb
                    refine go_E hΓ 23 rfl ?_
                    refine ge_fin ?_
                    obtain rfl := Option.some.inj h49
                    exact ⟨⟨rfl, rfl, rfl, rfl, rfl, trivial⟩, [], rfl, .inl rfl⟩
                · refine go hΓ 1 rfl ?_
                  refine j_cond rfl (fun hb => ?_) (fun hb => ?_)
                  · have h50 := cT h37 hb
                    refine go hΓ 9 rfl ?_
                    obtain ⟨v51, hv51, h52⟩ := bi_ok h50
                    obtain rfl := Option.some.inj h52
                    obtain rfl := hout12 _ rfl
                    obtain rfl := Option.some.inj h7
                    refine go hΓ 4 rfl ?_
                    obtain rfl := Option.some.inj hv51
                    exact fin_pure hΓ (.inr rfl) rfl rfl
                  · have h53 := cF h37 hb
                    refine go hΓ 8 rfl ?_
                    obtain rfl := Option.some.inj h53
                    exact ⟨_, rfl, ⟨⟨rfl, rfl, rfl, get_eq rfl (w64_succ (Nat.lt_of_lt_of_le hlt hb9)), trivial⟩, [_], rfl, .inr ⟨HB.mk rfl, FB.mk rfl, (Nat.le_of_ble_eq_true rfl)⟩⟩⟩
      · subst hgo
        refine go hΓ 6 rfl ?_
        refine j_condF rfl (decide_eq_false (Int.lt_irrefl _)) ?_
        refine go hΓ 4 rfl ?_
        exact ⟨_, rfl, ⟨trivial, [], rfl, .inl rfl⟩⟩
    · intro a8 ha
      subst ha
      replace h7 := goI_l h7
      refine go hΓ 7 rfl ?_
      obtain rfl := Option.some.inj h7
      exact fin_pure hΓ (.inr rfl) rfl rfl
theorem c_route_stepsOf {l : List T_api_Link} {r : List (Str × (List T_route_step))} (h : m_route_stepsOf l = some r) : EC Tryz.prog 151 [.d (Sl e_api_Link l)] [] fun g hp' => g = .map 0 ∧ hp' = [mOb kS false (eL e_route_step) r] := by
  refine ec_enterC (Fr.of 0 _) Tryz.func151 rfl (Fr.of_ok _) (Nat.le_of_ble_eq_true rfl) fun _ => ?_
  refine go_in ?_
  unfold m_route_stepsOf at h
  refine go hΓ 7 rfl ?_
  refine eo_s (Nat.le_of_ble_eq_true rfl) (nblt.1 rfl) (ops_makeMap false) ?_
  refine eo_hp [mOb kS false (eL e_route_step) ([] : List (Str × (List T_route_step)))] rfl ?_
  refine go_ops hΓ 11 rfl ?_
  obtain ⟨q4, hq4, h5⟩ := bi_ok h
  refine j_bound 7 rfl fun hb7 => ?_
  refine j_cutNZ [(3, .map 0)] [mOb kS false (eL e_route_step) q4] ?_ ?_
  · refine go hΓ 1 rfl ?_
    refine j_rangeF l hq4 (fun i1 s2 => [(3, .map 0), (7, .d (Sl e_api_Link l)), (8, I (l.length : Int)), (9, I (i1 : Int))]) (fun s2 => [mOb kS false (eL e_route_step) s2]) ⟨⟨rfl, rfl, rfl, rfl, trivial⟩, [], rfl, .inl rfl⟩ (fun i1 x3 s2 y11 hx8 hlt hy9 => ?_) (?_)
    · refine go hΓ 6 rfl ?_
      refine j_condT rfl (decide_eq_true (Int.ofNat_lt.2 hlt)) ?_
      refine go hΓ 6 rfl ?_
      refine eo_o rfl (op_elemZ hΓ (enc := e_api_Link) (getZ_nat hx8) rfl rfl rfl rfl rfl (fun _ => rfl)) ?_
      refine go_ops hΓ 1 rfl ?_
      refine eo_alloc hΓ rfl rfl rfl (Nat.le_of_ble_eq_true rfl) ?_
      refine eo_store hΓ rfl rfl rfl rfl rfl rfl rfl rfl (Nat.le_of_ble_eq_true rfl) ?_
      refine eo_hp [mOb kS false (eL e_route_step) s2, .box 121 [S x3.A, S x3.v_B, I x3.Millis]] rfl ?_
      refine go_ops hΓ 3 rfl ?_
      refine j_drawE [.dead, .box 121 [S x3.A, S x3.v_B, I x3.Millis]] [2, 5, 8, 10] [6, 13, 14] [] hmix (by kernel_rfl) (by kernel_rfl) ⟨rfl, trivial⟩ (Nat.le_of_ble_eq_true rfl) ?_
      obtain ⟨hg13, h12⟩ := gd_ok hy9
      refine go_E hΓ 6 rfl ?_
      refine ge_h [mOb kS false (eL e_route_step) s2, .box 121 [S x3.A, S x3.v_B, I x3.Millis], .row 195 2 ([] : List T_route_step).length (([] : List T_route_step).flatMap e_route_step)] rfl rfl rfl (st_st ⟨rfl, trivial⟩) (qte_s (ops_nilV 195 2 (op_lookupNil hΓ (kv := kS) (agg := false) (enc := (eL e_route_step)) s2 x3.A rfl rfl rfl rfl key_str rfl rfl rfl rfl hg13))) ?_
      refine go_E hΓ 4 rfl ?_
      refine ge_q rfl (.inl rfl) (fun _ _ => qte_of_qt (qt_p (op_build hΓ (gs := [S x3.v_B, I x3.Millis]) rfl rfl rfl rfl rfl rfl))) ?_
      refine ge_litT hΓ (enc := e_route_step) [(⟨x3.v_B, x3.Millis⟩ : T_route_step)] rfl rfl rfl rfl rfl rfl rfl rfl rfl rfl rfl rfl ?_
      obtain ⟨y14, hy14, h15⟩ := bi_ok h12
      refine ge_h [mOb kS false (eL e_route_step) s2, .box 121 [S x3.A, S x3.v_B, I x3.Millis], .dead, .row 195 2 y14.length (y14.flatMap e_route_step)] rfl rfl rfl (st_st ⟨rfl, trivial⟩) (qte_s (ops_appendT hΓ (enc := e_route_step) (id := 2) (h2 := show Γ 195 = some ⟨_, 2, _, _⟩ from rfl) hy14 rfl rfl rfl rfl rfl rfl rfl rfl (fun _ => rfl) rfl)) ?_
      refine ge_h0 [mOb kS false (eL e_route_step) (mSet s2 x3.A y14), .box 121 [S x3.A, S x3.v_B, I x3.Millis], .dead, .dead] rfl rfl (st_st ⟨rfl, trivial⟩) (qte_u (opu_pre (gh_shr 3 [26] rfl) (opu_mapUpdate hΓ (kv := kS) (agg := false) (enc := (eL e_route_step)) (id := 0) s2 x3.A y14 rfl rfl rfl key_str rfl rfl rfl rfl rfl) (Nat.le_of_ble_eq_true rfl))) ?_
      refine ge_fin ?_
      refine go hΓ 1 rfl ?_
      refine j_drawE [.dead, .box 121 [S x3.A, S x3.v_B, I x3.Millis]] [2, 5, 8, 10] [6, 13, 14] [] hmix (by kernel_rfl) (by kernel_rfl) ⟨rfl, trivial⟩ (Nat.le_of_ble_eq_true rfl) ?_
      obtain ⟨hg17, h16⟩ := gd_ok h15
      refine go_E hΓ 6 rfl ?_
      refine ge_h [mOb kS false (eL e_route_step) (mSet s2 x3.A y14), .box 121 [S x3.A, S x3.v_B, I x3.Millis], .dead, .dead, .row 195 2 ([] : List T_route_step).length (([] : List T_route_step).flatMap e_route_step)] rfl rfl rfl (st_st ⟨rfl, trivial⟩) (qte_s (ops_nilV 195 2 (op_lookupNil hΓ (kv := kS) (agg := false) (enc := (eL e_route_step)) (mSet s2 x3.A y14) x3.v_B rfl rfl rfl rfl key_str rfl rfl rfl rfl hg17))) ?_
      refine go_E hΓ 4 rfl ?_
      refine ge_q rfl (.inl rfl) (fun _ _ => qte_of_qt (qt_p (op_build hΓ (gs := [S x3.A, I x3.Millis]) rfl rfl rfl rfl rfl rfl))) ?_
      refine ge_litT hΓ (enc := e_route_step) [(⟨x3.A, x3.Millis⟩ : T_route_step)] rfl rfl rfl rfl rfl rfl rfl rfl rfl rfl rfl rfl ?_
      obtain ⟨y18, hy18, h19⟩ := bi_ok h16
      refine ge_h [mOb kS false (eL e_route_step) (mSet s2 x3.A y14), .box 121 [S x3.A, S x3.v_B, I x3.Millis], .dead, .dead, .dead, .row 195 2 y18.length (y18.flatMap e_route_step)] rfl rfl rfl (st_st ⟨rfl, trivial⟩) (qte_s (ops_appendT hΓ (enc := e_route_step) (id := 4) (h2 := show Γ 195 = some ⟨_, 2, _, _⟩ from rfl) hy18 rfl rfl rfl rfl rfl rfl rfl rfl (fun _ => rfl) rfl)) ?_
      refine ge_h0 [mOb kS false (eL e_route_step) (mSet (mSet s2 x3.A y14) x3.v_B y18), .box 121 [S x3.A, S x3.v_B, I x3.Millis], .dead, .dead, .dead, .dead] rfl rfl (st_st ⟨rfl, trivial⟩) (qte_u (opu_pre (gh_shr 5 [40] rfl) (opu_mapUpdate hΓ (kv := kS) (agg := false) (enc := (eL e_route_step)) (id := 0) (mSet s2 x3.A y14) x3.v_B y18 rfl rfl rfl key_str rfl rfl rfl rfl rfl) (Nat.le_of_ble_eq_true rfl))) ?_
      refine ge_fin ?_
      refine go hΓ 2 rfl ?_
      refine go hΓ 4 rfl ?_
      obtain rfl := Option.some.inj h19
      exact ⟨⟨rfl, rfl, rfl, get_eq rfl (w64_succ (Nat.lt_of_lt_of_le hlt hb7)), trivial⟩, [_, _, _, _, _], rfl, .inr ⟨HB.mk rfl, FB.mk rfl, (Nat.le_of_ble_eq_true rfl)⟩⟩
    · refine go hΓ 6 rfl ?_
      refine j_condF rfl (decide_eq_false (Int.lt_irrefl _)) ?_
      refine go hΓ 4 rfl ?_
      exact ⟨⟨rfl, trivial⟩, [], rfl, .inl rfl⟩
  · refine go hΓ 8 rfl ?_
    refine cv_here ?_
    obtain rfl := Option.some.inj h5
    exact fin_objs hΓ [] (.inr rfl) rfl rfl rfl rfl (.inl rfl)
theorem c_route_far_less {a : T_route_far} {b : T_route_far} {r : Bool} (h : m_route_far_less a b = some r) : Pure Tryz.prog 183 [.agg [I a.millis, I a.links], .agg [I b.millis, I b.links]] (B r) := by
  refine Pure.enter (Fr.of 0 _) Tryz.func183 rfl (Fr.of_ok _) rfl rfl ?_
  refine go_in ?_
  unfold m_route_far_less at h
  refine go hΓ 2 rfl ?_
  refine eo_box rfl rfl rfl rfl (Nat.le_of_ble_eq_true rfl) ?_
  refine eo_box rfl rfl rfl rfl (Nat.le_of_ble_eq_true rfl) ?_
  refine go_ops hΓ 11 rfl ?_
  refine o_cut 13 [(4, B false), (23, B ((decide ((a.millis : Int) < b.millis)) || (((a.millis : Int) == b.millis) && (decide ((a.links : Int) < b.links)))))] [.box 191 [I a.millis, I a.links], .box 191 [I b.millis, I b.links]] ?_ ?_
  · refine eo_gsplit rfl rfl (fun hb => ?_) (fun hb => ?_)
    · refine go_ops hΓ 14 rfl ?_
      exact ⟨⟨rfl, get_b rfl (or_t hb), trivial⟩, [], rfl, .inl rfl⟩
    · refine go_ops hΓ 6 rfl ?_
      refine o_cut 6 [(4, B false), (10, B false), (22, B (((a.millis : Int) == b.millis) && (decide ((a.links : Int) < b.links))))] [.box 191 [I a.millis, I a.links], .box 191 [I b.millis, I b.links]] ?_ ?_
      · refine eo_gsplit rfl rfl (fun hb => ?_) (fun hb => ?_)
        · refine go_ops hΓ 7 rfl ?_
          exact ⟨⟨rfl, rfl, get_b rfl (and_t hb), trivial⟩, [], rfl, .inl rfl⟩
        · refine go_ops hΓ 7 rfl ?_
          exact ⟨⟨rfl, rfl, get_b rfl (and_f hb), trivial⟩, [], rfl, .inl rfl⟩
      · refine go_ops hΓ 2 rfl ?_
        exact ⟨⟨rfl, get_b rfl (or_f hb), trivial⟩, [], rfl, .inl rfl⟩
  · refine go_ops hΓ 4 rfl ?_
    obtain rfl := Option.some.inj h
    exact fin_pure hΓ (.inr rfl) rfl rfl
set_option maxHeartbeats 8000000 in
theorem c_route_distances {k : Nat} {steps : List (Str × (List T_route_step))} {v_from : Str} {r : List (Str × T_route_far)} (h : m_route_distances k steps v_from = some r) : EC Tryz.prog 152 [.map 0, S v_from] [mOb kS false (eL e_route_step) steps] fun g hp' => g = .map 1 ∧ hp' = [mOb kS false (eL e_route_step) steps, mOb kS true e_route_far r] := by
  refine ec_enterC (Fr.of 0 _) Tryz.func152 rfl (Fr.of_ok _) (Nat.le_of_ble_eq_true rfl) fun _ => ?_
  refine go_in ?_
  unfold m_route_distances at h
  refine go hΓ 7 rfl ?_
  refine eo_s (Nat.le_of_ble_eq_true rfl) (nblt.1 rfl) (ops_makeMap true) ?_
  refine eo_hp [mOb kS false (eL e_route_step) steps, mOb kS true e_route_far ([] : List (Str × T_route_far))] rfl ?_
  refine go_ops hΓ 1 rfl ?_
  refine eo_build hΓ (gs := [I 0, I 0]) rfl rfl rfl rfl rfl rfl rfl ?_
  refine eo_u (Nat.le_of_ble_eq_true rfl) (opu_insert hΓ (kv := kS) (agg := true) (enc := e_route_far) (id := 1) ([] : List (Str × T_route_far)) v_from (⟨0, 0⟩ : T_route_far) rfl rfl rfl key_str rfl rfl rfl rfl rfl) ?_
  refine eo_hp [mOb kS false (eL e_route_step) steps, mOb kS true e_route_far (mSet ([] : List (Str × T_route_far)) v_from (⟨0, 0⟩ : T_route_far))] rfl ?_
  refine go_ops hΓ 6 rfl ?_
  refine eo_s (Nat.le_of_ble_eq_true rfl) (nblt.1 rfl) (ops_makeMap false) ?_
  refine eo_hp [mOb kS false (eL e_route_step) steps, mOb kS true e_route_far (mSet ([] : List (Str × T_route_far)) v_from (⟨0, 0⟩ : T_route_far)), mOb kS false eB ([] : List (Str × Bool))] rfl ?_
  refine go_ops hΓ 3 rfl ?_
  obtain ⟨q4, hq4, h5⟩ := bi_ok h
  refine go hΓ 1 rfl ?_
  refine j_loop hq4 (fun s2 => [(0, .map 0), (5, .map 1), (6, .map 2)]) (fun s2 => [mOb kS false (eL e_route_step) steps, mOb kS true e_route_far s2.1, mOb kS false eB s2.2]) ⟨⟨rfl, rfl, rfl, trivial⟩, [], rfl, .inl rfl⟩ (fun s2 y10 hy8 hout9 => ?_)
  refine go hΓ 11 rfl ?_
  refine eo_range hΓ (kv := kS) (agg := true) (enc := e_route_far) s2.1 rfl rfl rfl rfl rfl (Nat.le_of_ble_eq_true rfl) (fun mr11 bs12 cl13 hpm14 hbl15 hbn16 => ?_)
  refine eo_hp [mOb kS false (eL e_route_step) steps, mObS kS true e_route_far s2.1 (rawM kS e_route_far mr11 bs12 cl13), mOb kS false eB s2.2, .iter 1 cl13 []] rfl ?_
  refine go_ops hΓ 2 rfl ?_
  obtain ⟨q22, hq22, h23⟩ := bi_ok hy8
  refine go hΓ 1 rfl ?_
  refine j_rangeP hq22 hpm14 hbl15 hbn16 (fun s17 => [(0, .map 0), (5, .map 1), (6, .map 2), (7, S s17.1), (8, B s17.2), (22, .ptr 3 0)]) (fun sn19 s17 => [mOb kS false (eL e_route_step) steps, mObS kS true e_route_far s2.1 (rawM kS e_route_far mr11 bs12 cl13), mOb kS false eB s2.2, .iter 1 cl13 sn19]) ⟨⟨rfl, rfl, rfl, rfl, rfl, rfl, trivial⟩, [], rfl, .inl rfl⟩ (fun sn19 s17 hdone24 hstep25 => ?_)
  refine go hΓ 2 rfl ?_
  refine eo_next (kv := kS) (agg := true) (enc := e_route_far) s2.1 mr11 bs12 cl13 sn19 [mOb kS false (eL e_route_step) steps, mOb kS true e_route_far s2.1, mOb kS false eB s2.2, .dead] rfl rfl rfl rfl rfl (Nat.le_of_ble_eq_true rfl) (fun hdsn19 => ?_) (fun j20 x18 b21 hjsn19 hbsn19 hnsn19 => ?_)
  · have hqsn19 := hdone24 hdsn19
    subst hqsn19
    refine go_ops hΓ 17 rfl ?_
    refine j_cond rfl (fun hb => ?_) (fun hb => ?_)
    · have h26 := cT h23 hb
      refine go hΓ 9 rfl ?_
      obtain ⟨v27, hv27, h28⟩ := bi_ok h26
      obtain rfl := Option.some.inj h28
      obtain rfl := hout9 _ rfl
      obtain rfl := Option.some.inj h5
      refine go hΓ 2 rfl ?_
      refine cv_here ?_
      obtain rfl := Option.some.inj hv27
      exact fin_objs hΓ [_, _] (.inr rfl) rfl rfl rfl rfl (.inr ⟨HB.mk rfl, rfl⟩)
    · have h29 := cF h23 hb
      refine go hΓ 6 rfl ?_
      refine eo_u (Nat.le_of_ble_eq_true rfl) (opu_mapUpdate hΓ (kv := kS) (agg := false) (enc := eB) (id := 2) s2.2 q22.1 true rfl rfl rfl key_str rfl rfl rfl rfl rfl) ?_
      refine eo_hp [mOb kS false (eL e_route_step) steps, mOb kS true e_route_far s2.1, mOb kS false eB (mSet s2.2 q22.1 true), .dead] rfl ?_
      refine go_ops hΓ 6 rfl ?_
      refine eo_o rfl (op_lookup hΓ (kv := kS) (agg := false) (enc := (eL e_route_step)) steps q22.1 ([] : List T_route_step) rfl rfl rfl rfl key_str rfl rfl rfl rfl rfl rfl rfl) ?_
      refine go_ops hΓ 4 rfl ?_
      obtain ⟨q33, hq33, h34⟩ := bi_ok h29
      refine j_bound 51 rfl fun hb36 => ?_
      refine j_cutNZ [(0, .map 0), (5, .map 1), (6, .map 2)] [mOb kS false (eL e_route_step) steps, mOb kS true e_route_far q33, mOb kS false eB (mSet s2.2 q22.1 true), .dead] ?_ ?_
      · refine go hΓ 1 rfl ?_
        refine j_rangeF ((mGet steps q22.1).getD []) hq33 (fun i30 s31 => [(0, .map 0), (5, .map 1), (6, .map 2), (7, S q22.1), (51, .d (Sl e_route_step ((mGet steps q22.1).getD []))), (52, I (((mGet steps q22.1).getD []).length : Int)), (53, I (i30 : Int))]) (fun s31 => [mOb kS false (eL e_route_step) steps, mOb kS true e_route_far s31, mOb kS false eB (mSet s2.2 q22.1 true), .dead]) ⟨⟨rfl, rfl, rfl, rfl, rfl, rfl, rfl, trivial⟩, [], rfl, .inl rfl⟩ (fun i30 x32 s31 y40 hx37 hlt hy38 => ?_) (?_)
        · refine go hΓ 6 rfl ?_
          refine j_condT rfl (decide_eq_true (Int.ofNat_lt.2 hlt)) ?_
          refine go hΓ 6 rfl ?_
          refine eo_o rfl (op_elemZ hΓ (enc := e_route_step) (getZ_nat hx37) rfl rfl rfl rfl rfl (fun _ => rfl)) ?_
          refine go_ops hΓ 1 rfl ?_
          refine eo_alloc hΓ rfl rfl rfl (Nat.le_of_ble_eq_true rfl) ?_
          refine eo_store hΓ rfl rfl rfl rfl rfl rfl rfl rfl (Nat.le_of_ble_eq_true rfl) ?_
          refine eo_hp [mOb kS false (eL e_route_step) steps, mOb kS true e_route_far s31, mOb kS false eB (mSet s2.2 q22.1 true), .dead, .box 195 [S x32.v_to, I x32.millis]] rfl ?_
          refine go_ops hΓ 6 rfl ?_
          refine eo_o rfl (op_lookup hΓ (kv := kS) (agg := true) (enc := e_route_far) s31 q22.1 ((⟨0, 0⟩ : T_route_far) : T_route_far) rfl rfl rfl rfl key_str rfl rfl rfl rfl rfl rfl rfl) ?_
          refine go_ops hΓ 6 rfl ?_
          refine eo_o rfl (op_lookup hΓ (kv := kS) (agg := true) (enc := e_route_far) s31 q22.1 ((⟨0, 0⟩ : T_route_far) : T_route_far) rfl rfl rfl rfl key_str rfl rfl rfl rfl rfl rfl rfl) ?_
          refine go_ops hΓ 2 rfl ?_
          refine eo_build hΓ (gs := [I (wi ((((mGet s31 q22.1).getD (⟨0, 0⟩ : T_route_far)).millis) + x32.millis)), I (wi ((((mGet s31 q22.1).getD (⟨0, 0⟩ : T_route_far)).links) + 1))]) rfl rfl rfl rfl rfl rfl rfl ?_
          refine eo_alloc hΓ rfl rfl rfl (Nat.le_of_ble_eq_true rfl) ?_
          refine eo_store hΓ rfl rfl rfl rfl rfl rfl rfl rfl (Nat.le_of_ble_eq_true rfl) ?_
          refine eo_hp [mOb kS false (eL e_route_step) steps, mOb kS true e_route_far s31, mOb kS false eB (mSet s2.2 q22.1 true), .dead, .box 195 [S x32.v_to, I x32.millis], .box 191 [I (wi ((((mGet s31 q22.1).getD (⟨0, 0⟩ : T_route_far)).millis) + x32.millis)), I (wi ((((mGet s31 q22.1).getD (⟨0, 0⟩ : T_route_far)).links) + 1))]] rfl ?_
          refine go_ops hΓ 7 rfl ?_
          refine eo_o rfl (op_lookupOk hΓ (kv := kS) (agg := true) (enc := e_route_far) s31 x32.v_to ((⟨0, 0⟩ : T_route_far) : T_route_far) rfl rfl rfl rfl key_str rfl rfl rfl rfl rfl rfl rfl) ?_
          refine go_ops hΓ 3 rfl ?_
          refine eo_alloc hΓ rfl rfl rfl (Nat.le_of_ble_eq_true rfl) ?_
          refine eo_store hΓ rfl rfl rfl rfl rfl rfl rfl rfl (Nat.le_of_ble_eq_true rfl) ?_
          refine eo_hp [mOb kS false (eL e_route_step) steps, mOb kS true e_route_far s31, mOb kS false eB (mSet s2.2 q22.1 true), .dead, .box 195 [S x32.v_to, I x32.millis], .box 191 [I (wi ((((mGet s31 q22.1).getD (⟨0, 0⟩ : T_route_far)).millis) + x32.millis)), I (wi ((((mGet s31 q22.1).getD (⟨0, 0⟩ : T_route_far)).links) + 1))], .box 191 [I (((mGet s31 x32.v_to).getD (⟨0, 0⟩ : T_route_far)).millis), I (((mGet s31 x32.v_to).getD (⟨0, 0⟩ : T_route_far)).links)]] rfl ?_
          refine go_ops hΓ 8 rfl ?_
          obtain ⟨q41, hq41, h42⟩ := bi_ok hy38
          refine o_cut 4 [(0, .map 0), (5, .map 1), (6, .map 2), (7, S q22.1), (12, .ptr 4 0), (13, .ptr 5 0), (51, .d (Sl e_route_step ((mGet steps q22.1).getD []))), (52, I (((mGet steps q22.1).getD []).length : Int)), (53, I (i30 : Int)), (83, B q41)] [mOb kS false (eL e_route_step) steps, mOb kS true e_route_far s31, mOb kS false eB (mSet s2.2 q22.1 true), .dead, .box 195 [S x32.v_to, I x32.millis], .box 191 [I (wi ((((mGet s31 q22.1).getD (⟨0, 0⟩ : T_route_far)).millis) + x32.millis)), I (wi ((((mGet s31 q22.1).getD (⟨0, 0⟩ : T_route_far)).links) + 1))], .box 191 [I (((mGet s31 x32.v_to).getD (⟨0, 0⟩ : T_route_far)).millis), I (((mGet s31 x32.v_to).getD (⟨0, 0⟩ : T_route_far)).links)]] ?_ ?_
          · refine eo_gsplit rfl rfl (fun hb => ?_) (fun hb => ?_)
            · have h43 := cT hq41 hb
              refine go_ops hΓ 5 rfl ?_
              obtain rfl := Option.some.inj h43
              exact ⟨⟨rfl, rfl, rfl, rfl, rfl, rfl, rfl, rfl, rfl, rfl, trivial⟩, [], rfl, .inl rfl⟩
            · have h44 := cF hq41 hb
              obtain ⟨y45, hy45, h46⟩ := bi_ok h44
              refine go_ops hΓ 2 rfl ?_
              refine eo_guard rfl ?_
              refine eo_callP (callable Tryz.func183 rfl rfl) (c_route_far_less hy45) rfl (Nat.le_of_ble_eq_true rfl) rfl rfl rfl rfl rfl ?_
              refine go_ops hΓ 2 rfl ?_
              obtain rfl := Option.some.inj h46
              exact ⟨⟨rfl, rfl, rfl, rfl, rfl, rfl, rfl, rfl, rfl, rfl, trivial⟩, [], rfl, .inl rfl⟩
          · refine go_ops hΓ 2 rfl ?_
            refine j_cond rfl (fun hb => ?_) (fun hb => ?_)
            · have h47 := cT h42 hb
              refine go hΓ 5 rfl ?_
              refine eo_u (Nat.le_of_ble_eq_true rfl) (opu_mapUpdate hΓ (kv := kS) (agg := true) (enc := e_route_far) (id := 1) s31 x32.v_to (⟨wi ((((mGet s31 q22.1).getD (⟨0, 0⟩ : T_route_far)).millis) + x32.millis), wi ((((mGet s31 q22.1).getD (⟨0, 0⟩ : T_route_far)).links) + 1)⟩ : T_route_far) rfl rfl rfl key_str rfl rfl rfl rfl rfl) ?_
              refine eo_hp [mOb kS false (eL e_route_step) steps, mOb kS true e_route_far (mSet s31 x32.v_to (⟨wi ((((mGet s31 q22.1).getD (⟨0, 0⟩ : T_route_far)).millis) + x32.millis), wi ((((mGet s31 q22.1).getD (⟨0, 0⟩ : T_route_far)).links) + 1)⟩ : T_route_far)), mOb kS false eB (mSet s2.2 q22.1 true), .dead, .box 195 [S x32.v_to, I x32.millis], .box 191 [I (wi ((((mGet s31 q22.1).getD (⟨0, 0⟩ : T_route_far)).millis) + x32.millis)), I (wi ((((mGet s31 q22.1).getD (⟨0, 0⟩ : T_route_far)).links) + 1))], .box 191 [I (((mGet s31 x32.v_to).getD (⟨0, 0⟩ : T_route_far)).millis), I (((mGet s31 x32.v_to).getD (⟨0, 0⟩ : T_route_far)).links)]] rfl ?_
              refine go_ops hΓ 7 rfl ?_
              obtain rfl := Option.some.inj h47
              exact ⟨⟨rfl, rfl, rfl, rfl, rfl, rfl, get_eq rfl (w64_succ (Nat.lt_of_lt_of_le hlt hb36)), trivial⟩, [_, _, _], rfl, .inr ⟨HB.mk rfl, FB.mk rfl, (Nat.le_of_ble_eq_true rfl)⟩⟩
            · have h48 := cF h42 hb
              refine go hΓ 7 rfl ?_
              obtain rfl := Option.some.inj h48
              exact ⟨⟨rfl, rfl, rfl, rfl, rfl, rfl, get_eq rfl (w64_succ (Nat.lt_of_lt_of_le hlt hb36)), trivial⟩, [_, _, _], rfl, .inr ⟨HB.mk rfl, FB.mk rfl, (Nat.le_of_ble_eq_true rfl)⟩⟩
        · refine go hΓ 6 rfl ?_
          refine j_condF rfl (decide_eq_false (Int.lt_irrefl _)) ?_
          refine go hΓ 4 rfl ?_
          exact ⟨⟨rfl, rfl, rfl, trivial⟩, [], rfl, .inl rfl⟩
      · refine go hΓ 1 rfl ?_
        obtain rfl := Option.some.inj h34
        exact ⟨_, rfl, ⟨⟨rfl, rfl, rfl, trivial⟩, [_], rfl, .inr ⟨HB.mk rfl, FB.mk rfl, (Nat.le_of_ble_eq_true rfl)⟩⟩⟩
  · obtain ⟨s49, h50⟩ := hstep25 j20 x18 b21 hjsn19 hbsn19 hnsn19
    have hssn19 := h50
    refine go_ops hΓ 10 rfl ?_
    refine eo_o rfl (op_entry (kv := kS) (agg := true) (enc := e_route_far) s2.1 mr11 bs12 cl13 sn19 hjsn19 hbsn19 rfl rfl rfl rfl (fun _ => rfl)) ?_
    refine go_ops hΓ 2 rfl ?_
    refine eo_alloc hΓ rfl rfl rfl (Nat.le_of_ble_eq_true rfl) ?_
    refine go_ops hΓ 1 rfl ?_
    refine eo_store hΓ rfl rfl rfl rfl rfl rfl rfl rfl (Nat.le_of_ble_eq_true rfl) ?_
    refine eo_hp [mOb kS false (eL e_route_step) steps, mObS kS true e_route_far s2.1 (rawM kS e_route_far mr11 bs12 cl13), mOb kS false eB s2.2, .iter 1 cl13 (sn19 ++ [b21]), .box 191 [I x18.2.millis, I x18.2.links]] rfl ?_
    refine go_ops hΓ 6 rfl ?_
    refine eo_o rfl (op_lookup hΓ (kv := kS) (agg := false) (enc := eB) s2.2 x18.1 (false : Bool) rfl rfl rfl rfl key_str rfl rfl rfl rfl rfl rfl rfl) ?_
    refine go_ops hΓ 2 rfl ?_
    obtain ⟨q51, hq51, h52⟩ := bi_ok h50
    refine o_cut 10 [(0, .map 0), (5, .map 1), (6, .map 2), (7, S s17.1), (8, B s17.2), (9, S x18.1), (22, .ptr 3 0), (42, B q51)] [mOb kS false (eL e_route_step) steps, mObS kS true e_route_far s2.1 (rawM kS e_route_far mr11 bs12 cl13), mOb kS false eB s2.2, .iter 1 cl13 (sn19 ++ [b21]), .box 191 [I x18.2.millis, I x18.2.links]] ?_ ?_
    · refine eo_gsplit rfl rfl (fun hb => ?_) (fun hb => ?_)
      · have h53 := cT hq51 hb
        refine go_ops hΓ 3 rfl ?_
        obtain ⟨q54, hq54, h55⟩ := bi_ok h53
        refine o_cut 6 [(0, .map 0), (5, .map 1), (6, .map 2), (7, S s17.1), (8, B s17.2), (9, S x18.1), (22, .ptr 3 0), (32, B true), (41, B q54)] [mOb kS false (eL e_route_step) steps, mObS kS true e_route_far s2.1 (rawM kS e_route_far mr11 bs12 cl13), mOb kS false eB s2.2, .iter 1 cl13 (sn19 ++ [b21]), .box 191 [I x18.2.millis, I x18.2.links]] ?_ ?_
        · refine eo_gsplit rfl rfl (fun hb => ?_) (fun hb => ?_)
          · have h56 := cT hq54 hb
            refine go_ops hΓ 7 rfl ?_
            obtain rfl := Option.some.inj h56
            exact ⟨⟨rfl, rfl, rfl, rfl, rfl, rfl, rfl, rfl, rfl, trivial⟩, [], rfl, .inl rfl⟩
          · have h57 := cF hq54 hb
            refine go_ops hΓ 3 rfl ?_
            refine eo_guard rfl ?_
            refine eo_o rfl (op_lookup hΓ (kv := kS) (agg := true) (enc := e_route_far) s2.1 s17.1 ((⟨0, 0⟩ : T_route_far) : T_route_far) rfl rfl rfl rfl key_str rfl rfl rfl rfl rfl rfl rfl) ?_
            obtain ⟨y58, hy58, h59⟩ := bi_ok h57
            refine eo_guard rfl ?_
            refine eo_callP (callable Tryz.func183 rfl rfl) (c_route_far_less hy58) rfl (Nat.le_of_ble_eq_true rfl) rfl rfl rfl rfl rfl ?_
            refine go_ops hΓ 2 rfl ?_
            obtain rfl := Option.some.inj h59
            exact ⟨⟨rfl, rfl, rfl, rfl, rfl, rfl, rfl, rfl, rfl, trivial⟩, [], rfl, .inl rfl⟩
        · refine go_ops hΓ 2 rfl ?_
          obtain rfl := Option.some.inj h55
          exact ⟨⟨rfl, rfl, rfl, rfl, rfl, rfl, rfl, rfl, trivial⟩, [], rfl, .inl rfl⟩
      · have h60 := cF hq51 hb
        refine go_ops hΓ 11 rfl ?_
        obtain rfl := Option.some.inj h60
        exact ⟨⟨rfl, rfl, rfl, rfl, rfl, rfl, rfl, rfl, trivial⟩, [], rfl, .inl rfl⟩
    · refine go_ops hΓ 2 rfl ?_
      refine j_cond rfl (fun hb => ?_) (fun hb => ?_)
      · have h61 := cT h52 hb
        refine go hΓ 6 rfl ?_
        obtain rfl := Option.some.inj h61
        exact ⟨j20, x18, b21, _, hjsn19, hbsn19, hnsn19, hssn19, ⟨⟨rfl, rfl, rfl, rfl, rfl, rfl, trivial⟩, [_], rfl, .inr ⟨HB.mk rfl, FB.mk rfl, (Nat.le_of_ble_eq_true rfl)⟩⟩⟩
      · have h62 := cF h52 hb
        refine go hΓ 2 rfl ?_
        obtain rfl := Option.some.inj h62
        exact ⟨j20, x18, b21, _, hjsn19, hbsn19, hnsn19, hssn19, ⟨⟨rfl, rfl, rfl, rfl, rfl, rfl, trivial⟩, [_], rfl, .inr ⟨HB.mk rfl, FB.mk rfl, (Nat.le_of_ble_eq_true rfl)⟩⟩⟩
theorem c_route_through {k : Nat} {l : List T_api_Link} {a : Str} {b : Str} {r : (List Str) × Int × Int} (h : m_route_through k l a b = some r) : Pure Tryz.prog 125 [.d (Sl e_api_Link l), S a, S b] (.tup [.d (Sl eS r.1), I r.2.1, I r.2.2]) := by
  refine Pure.enter (Fr.of 0 _) Tryz.func125 rfl (Fr.of_ok _) rfl rfl ?_
  refine go_in ?_
  unfold m_route_through at h
  obtain ⟨y1, hy1, h2⟩ := bi_ok h
  refine go hΓ 10 rfl ?_
  refine eo_callF [] (.map 0) [mOb kS false (eL e_route_step) y1] (callable Tryz.func151 rfl rfl) (c_route_stepsOf hy1) rfl (Nat.le_of_ble_eq_true rfl) rfl rfl rfl rfl rfl rfl rfl rfl rfl rfl ?_
  obtain ⟨y3, hy3, h4⟩ := bi_ok h2
  refine go_ops hΓ 7 rfl ?_
  refine eo_callF [0] (.map 1) [mOb kS false (eL e_route_step) y1, mOb kS true e_route_far y3] (callable Tryz.func152 rfl rfl) (c_route_distances hy3) rfl (Nat.le_of_ble_eq_true rfl) rfl rfl rfl rfl rfl rfl rfl rfl rfl rfl ?_
  refine go_ops hΓ 8 rfl ?_
  refine eo_o rfl (op_lookupOk hΓ (kv := kS) (agg := true) (enc := e_route_far) y3 a ((⟨0, 0⟩ : T_route_far) : T_route_far) rfl rfl rfl rfl key_str rfl rfl rfl rfl rfl rfl rfl) ?_
  refine go_ops hΓ 3 rfl ?_
  refine eo_alloc hΓ rfl rfl rfl (Nat.le_of_ble_eq_true rfl) ?_
  refine eo_store hΓ rfl rfl rfl rfl rfl rfl rfl rfl (Nat.le_of_ble_eq_true rfl) ?_
  refine eo_hp [mOb kS false (eL e_route_step) y1, mOb kS true e_route_far y3, .box 191 [I (((mGet y3 a).getD (⟨0, 0⟩ : T_route_far)).millis), I (((mGet y3 a).getD (⟨0, 0⟩ : T_route_far)).links)]] rfl ?_
  refine go_ops hΓ 9 rfl ?_
  refine j_cond rfl (fun hb => ?_) (fun hb => ?_)
  · have h5 := cT h4 hb
    refine go hΓ 9 rfl ?_
    obtain rfl := Option.some.inj h5
    exact fin_pure hΓ (.inr rfl) rfl rfl
  · have h6 := cF h4 hb
    refine go hΓ 5 rfl ?_
    refine eo_litRowT hΓ (enc := eS) [a] rfl rfl rfl rfl rfl rfl rfl rfl rfl rfl rfl rfl (Nat.le_of_ble_eq_true rfl) ?_
    refine go_ops hΓ 10 rfl ?_
    obtain ⟨q10, hq10, h11⟩ := bi_ok h6
    refine j_cutNZ [(1, S a), (10, .map 1), (13, .sl 3 q10.length)] [mOb kS false (eL e_route_step) y1, mOb kS true e_route_far y3, .box 191 [I (((mGet y3 a).getD (⟨0, 0⟩ : T_route_far)).millis), I (((mGet y3 a).getD (⟨0, 0⟩ : T_route_far)).links)], .row 9 1 q10.length (q10.flatMap eS)] ?_ ?_
    · refine go hΓ 1 rfl ?_
      refine j_loop hq10 (fun s8 => [(1, S a), (2, S b), (9, .map 0), (10, .map 1), (13, .sl 3 s8.1.length), (14, S s8.2)]) (fun s8 => [mOb kS false (eL e_route_step) y1, mOb kS true e_route_far y3, .box 191 [I (((mGet y3 a).getD (⟨0, 0⟩ : T_route_far)).millis), I (((mGet y3 a).getD (⟨0, 0⟩ : T_route_far)).links)], .row 9 1 s8.1.length (s8.1.flatMap eS)]) ⟨⟨rfl, rfl, rfl, rfl, rfl, rfl, trivial⟩, [], rfl, .inl rfl⟩ (fun s8 y16 hy14 hout15 => ?_)
      refine go hΓ 8 rfl ?_
      refine j_cond rfl (fun hb => ?_) (fun hb => ?_)
      · have h17 := cT hy14 hb
        refine go hΓ 13 rfl ?_
        refine eo_o rfl (op_lookup hΓ (kv := kS) (agg := false) (enc := (eL e_route_step)) y1 s8.2 ([] : List T_route_step) rfl rfl rfl rfl key_str rfl rfl rfl rfl rfl rfl rfl) ?_
        refine go_ops hΓ 4 rfl ?_
        obtain ⟨q21, hq21, h22⟩ := bi_ok h17
        refine j_bound 41 rfl fun hb24 => ?_
        refine j_cutNZ [(1, S a), (2, S b), (9, .map 0), (10, .map 1), (13, .sl 3 s8.1.length), (15, S q21)] [mOb kS false (eL e_route_step) y1, mOb kS true e_route_far y3, .box 191 [I (((mGet y3 a).getD (⟨0, 0⟩ : T_route_far)).millis), I (((mGet y3 a).getD (⟨0, 0⟩ : T_route_far)).links)], .row 9 1 s8.1.length (s8.1.flatMap eS)] ?_ ?_
        · refine go hΓ 1 rfl ?_
          refine j_rangeF ((mGet y1 s8.2).getD []) hq21 (fun i18 s19 => [(1, S a), (2, S b), (9, .map 0), (10, .map 1), (13, .sl 3 s8.1.length), (14, S s8.2), (15, S s19), (41, .d (Sl e_route_step ((mGet y1 s8.2).getD []))), (42, I (((mGet y1 s8.2).getD []).length : Int)), (43, I (i18 : Int))]) (fun s19 => [mOb kS false (eL e_route_step) y1, mOb kS true e_route_far y3, .box 191 [I (((mGet y3 a).getD (⟨0, 0⟩ : T_route_far)).millis), I (((mGet y3 a).getD (⟨0, 0⟩ : T_route_far)).links)], .row 9 1 s8.1.length (s8.1.flatMap eS)]) ⟨⟨rfl, rfl, rfl, rfl, rfl, rfl, rfl, rfl, rfl, rfl, trivial⟩, [], rfl, .inl rfl⟩ (fun i18 x20 s19 y28 hx25 hlt hy26 => ?_) (?_)
          · refine go hΓ 6 rfl ?_
            refine j_condT rfl (decide_eq_true (Int.ofNat_lt.2 hlt)) ?_
            refine go hΓ 6 rfl ?_
            refine eo_o rfl (op_elemZ hΓ (enc := e_route_step) (getZ_nat hx25) rfl rfl rfl rfl rfl (fun _ => rfl)) ?_
            refine go_ops hΓ 1 rfl ?_
            refine eo_alloc hΓ rfl rfl rfl (Nat.le_of_ble_eq_true rfl) ?_
            refine eo_store hΓ rfl rfl rfl rfl rfl rfl rfl rfl (Nat.le_of_ble_eq_true rfl) ?_
            refine eo_hp [mOb kS false (eL e_route_step) y1, mOb kS true e_route_far y3, .box 191 [I (((mGet y3 a).getD (⟨0, 0⟩ : T_route_far)).millis), I (((mGet y3 a).getD (⟨0, 0⟩ : T_route_far)).links)], .row 9 1 s8.1.length (s8.1.flatMap eS), .box 195 [S x20.v_to, I x20.millis]] rfl ?_
            refine go_ops hΓ 7 rfl ?_
            refine eo_o rfl (op_lookupOk hΓ (kv := kS) (agg := true) (enc := e_route_far) y3 x20.v_to ((⟨0, 0⟩ : T_route_far) : T_route_far) rfl rfl rfl rfl key_str rfl rfl rfl rfl rfl rfl rfl) ?_
            refine go_ops hΓ 3 rfl ?_
            refine eo_alloc hΓ rfl rfl rfl (Nat.le_of_ble_eq_true rfl) ?_
            refine eo_store hΓ rfl rfl rfl rfl rfl rfl rfl rfl (Nat.le_of_ble_eq_true rfl) ?_
            refine eo_hp [mOb kS false (eL e_route_step) y1, mOb kS true e_route_far y3, .box 191 [I (((mGet y3 a).getD (⟨0, 0⟩ : T_route_far)).millis), I (((mGet y3 a).getD (⟨0, 0⟩ : T_route_far)).links)], .row 9 1 s8.1.length (s8.1.flatMap eS), .box 195 [S x20.v_to, I x20.millis], .box 191 [I (((mGet y3 x20.v_to).getD (⟨0, 0⟩ : T_route_far)).millis), I (((mGet y3 x20.v_to).getD (⟨0, 0⟩ : T_route_far)).links)]] rfl ?_
            refine go_ops hΓ 7 rfl ?_
            refine o_cut 11 [(1, S a), (2, S b), (9, .map 0), (10, .map 1), (13, .sl 3 s8.1.length), (14, S s8.2), (15, S s19), (17, .ptr 4 0), (18, .ptr 5 0), (41, .d (Sl e_route_step ((mGet y1 s8.2).getD []))), (42, I (((mGet y1 s8.2).getD []).length : Int)), (43, I (i18 : Int)), (66, B (((mGet y3 x20.v_to).isSome) && ((wi ((((mGet y3 x20.v_to).getD (⟨0, 0⟩ : T_route_far)).millis) + x20.millis) : Int) == (((mGet y3 s8.2).getD (⟨0, 0⟩ : T_route_far)).millis))))] [mOb kS false (eL e_route_step) y1, mOb kS true e_route_far y3, .box 191 [I (((mGet y3 a).getD (⟨0, 0⟩ : T_route_far)).millis), I (((mGet y3 a).getD (⟨0, 0⟩ : T_route_far)).links)], .row 9 1 s8.1.length (s8.1.flatMap eS), .box 195 [S x20.v_to, I x20.millis], .box 191 [I (((mGet y3 x20.v_to).getD (⟨0, 0⟩ : T_route_far)).millis), I (((mGet y3 x20.v_to).getD (⟨0, 0⟩ : T_route_far)).links)]] ?_ ?_
            · refine eo_gsplit rfl rfl (fun hb => ?_) (fun hb => ?_)
              · refine go_ops hΓ 7 rfl ?_
                refine eo_guard rfl ?_
                refine eo_o rfl (op_lookup hΓ (kv := kS) (agg := true) (enc := e_route_far) y3 s8.2 ((⟨0, 0⟩ : T_route_far) : T_route_far) rfl rfl rfl rfl key_str rfl rfl rfl rfl rfl rfl rfl) ?_
                refine go_ops hΓ 4 rfl ?_
                exact ⟨⟨rfl, rfl, rfl, rfl, rfl, rfl, rfl, rfl, rfl, rfl, rfl, rfl, get_b rfl (and_t hb), trivial⟩, [], rfl, .inl rfl⟩
              · refine go_ops hΓ 12 rfl ?_
                exact ⟨⟨rfl, rfl, rfl, rfl, rfl, rfl, rfl, rfl, rfl, rfl, rfl, rfl, get_b rfl (and_f hb), trivial⟩, [], rfl, .inl rfl⟩
            · refine go_ops hΓ 1 rfl ?_
              refine o_cut 9 [(1, S a), (2, S b), (9, .map 0), (10, .map 1), (13, .sl 3 s8.1.length), (14, S s8.2), (15, S s19), (17, .ptr 4 0), (41, .d (Sl e_route_step ((mGet y1 s8.2).getD []))), (42, I (((mGet y1 s8.2).getD []).length : Int)), (43, I (i18 : Int)), (76, B ((((mGet y3 x20.v_to).isSome) && ((wi ((((mGet y3 x20.v_to).getD (⟨0, 0⟩ : T_route_far)).millis) + x20.millis) : Int) == (((mGet y3 s8.2).getD (⟨0, 0⟩ : T_route_far)).millis))) && ((wi ((((mGet y3 x20.v_to).getD (⟨0, 0⟩ : T_route_far)).links) + 1) : Int) == (((mGet y3 s8.2).getD (⟨0, 0⟩ : T_route_far)).links))))] [mOb kS false (eL e_route_step) y1, mOb kS true e_route_far y3, .box 191 [I (((mGet y3 a).getD (⟨0, 0⟩ : T_route_far)).millis), I (((mGet y3 a).getD (⟨0, 0⟩ : T_route_far)).links)], .row 9 1 s8.1.length (s8.1.flatMap eS), .box 195 [S x20.v_to, I x20.millis], .box 191 [I (((mGet y3 x20.v_to).getD (⟨0, 0⟩ : T_route_far)).millis), I (((mGet y3 x20.v_to).getD (⟨0, 0⟩ : T_route_far)).links)]] ?_ ?_
              · refine eo_gsplit rfl rfl (fun hb => ?_) (fun hb => ?_)
                · refine go_ops hΓ 5 rfl ?_
                  refine eo_guard rfl ?_
                  refine eo_o rfl (op_lookup hΓ (kv := kS) (agg := true) (enc := e_route_far) y3 s8.2 ((⟨0, 0⟩ : T_route_far) : T_route_far) rfl rfl rfl rfl key_str rfl rfl rfl rfl rfl rfl rfl) ?_
                  refine go_ops hΓ 4 rfl ?_
                  exact ⟨⟨rfl, rfl, rfl, rfl, rfl, rfl, rfl, rfl, rfl, rfl, rfl, get_b rfl (and_t hb), trivial⟩, [], rfl, .inl rfl⟩
                · refine go_ops hΓ 10 rfl ?_
                  exact ⟨⟨rfl, rfl, rfl, rfl, rfl, rfl, rfl, rfl, rfl, rfl, rfl, get_b rfl (and_f hb), trivial⟩, [], rfl, .inl rfl⟩
              · refine go_ops hΓ 1 rfl ?_
                refine o_cut 9 [(1, S a), (2, S b), (9, .map 0), (10, .map 1), (13, .sl 3 s8.1.length), (14, S s8.2), (15, S s19), (17, .ptr 4 0), (41, .d (Sl e_route_step ((mGet y1 s8.2).getD []))), (42, I (((mGet y1 s8.2).getD []).length : Int)), (43, I (i18 : Int)), (86, B (((((mGet y3 x20.v_to).isSome) && ((wi ((((mGet y3 x20.v_to).getD (⟨0, 0⟩ : T_route_far)).millis) + x20.millis) : Int) == (((mGet y3 s8.2).getD (⟨0, 0⟩ : T_route_far)).millis))) && ((wi ((((mGet y3 x20.v_to).getD (⟨0, 0⟩ : T_route_far)).links) + 1) : Int) == (((mGet y3 s8.2).getD (⟨0, 0⟩ : T_route_far)).links))) && (((s19 : Str) == []) || (Op.bytesLess x20.v_to s19))))] [mOb kS false (eL e_route_step) y1, mOb kS true e_route_far y3, .box 191 [I (((mGet y3 a).getD (⟨0, 0⟩ : T_route_far)).millis), I (((mGet y3 a).getD (⟨0, 0⟩ : T_route_far)).links)], .row 9 1 s8.1.length (s8.1.flatMap eS), .box 195 [S x20.v_to, I x20.millis], .box 191 [I (((mGet y3 x20.v_to).getD (⟨0, 0⟩ : T_route_far)).millis), I (((mGet y3 x20.v_to).getD (⟨0, 0⟩ : T_route_far)).links)]] ?_ ?_
                · refine eo_gsplit rfl rfl (fun hb => ?_) (fun hb => ?_)
                  · refine go_ops hΓ 3 rfl ?_
                    refine o_cut 5 [(1, S a), (2, S b), (9, .map 0), (10, .map 1), (13, .sl 3 s8.1.length), (14, S s8.2), (15, S s19), (17, .ptr 4 0), (41, .d (Sl e_route_step ((mGet y1 s8.2).getD []))), (42, I (((mGet y1 s8.2).getD []).length : Int)), (43, I (i18 : Int)), (77, B true), (85, B (((s19 : Str) == []) || (Op.bytesLess x20.v_to s19)))] [mOb kS false (eL e_route_step) y1, mOb kS true e_route_far y3, .box 191 [I (((mGet y3 a).getD (⟨0, 0⟩ : T_route_far)).millis), I (((mGet y3 a).getD (⟨0, 0⟩ : T_route_far)).links)], .row 9 1 s8.1.length (s8.1.flatMap eS), .box 195 [S x20.v_to, I x20.millis], .box 191 [I (((mGet y3 x20.v_to).getD (⟨0, 0⟩ : T_route_far)).millis), I (((mGet y3 x20.v_to).getD (⟨0, 0⟩ : T_route_far)).links)]] ?_ ?_
                    · refine eo_gsplit rfl rfl (fun hb => ?_) (fun hb => ?_)
                      · refine go_ops hΓ 6 rfl ?_
                        exact ⟨⟨rfl, rfl, rfl, rfl, rfl, rfl, rfl, rfl, rfl, rfl, rfl, rfl, get_b rfl (or_t hb), trivial⟩, [], rfl, .inl rfl⟩
                      · refine go_ops hΓ 6 rfl ?_
                        exact ⟨⟨rfl, rfl, rfl, rfl, rfl, rfl, rfl, rfl, rfl, rfl, rfl, rfl, get_b rfl (or_f hb), trivial⟩, [], rfl, .inl rfl⟩
                    · refine go_ops hΓ 2 rfl ?_
                      exact ⟨⟨rfl, rfl, rfl, rfl, rfl, rfl, rfl, rfl, rfl, rfl, rfl, get_b rfl (and_t hb), trivial⟩, [], rfl, .inl rfl⟩
                  · refine go_ops hΓ 10 rfl ?_
                    exact ⟨⟨rfl, rfl, rfl, rfl, rfl, rfl, rfl, rfl, rfl, rfl, rfl, get_b rfl (and_f hb), trivial⟩, [], rfl, .inl rfl⟩
                · refine go_ops hΓ 2 rfl ?_
                  refine j_cond rfl (fun hb => ?_) (fun hb => ?_)
                  · have h29 := cT hy26 hb
                    refine go hΓ 11 rfl ?_
                    obtain rfl := Option.some.inj h29
                    exact ⟨⟨rfl, rfl, rfl, rfl, rfl, rfl, rfl, rfl, rfl, get_eq rfl (w64_succ (Nat.lt_of_lt_of_le hlt hb24)), trivial⟩, [_, _], rfl, .inr ⟨HB.mk rfl, FB.mk rfl, (Nat.le_of_ble_eq_true rfl)⟩⟩
                  · have h30 := cF hy26 hb
                    refine go hΓ 7 rfl ?_
                    obtain rfl := Option.some.inj h30
                    exact ⟨⟨rfl, rfl, rfl, rfl, rfl, rfl, rfl, rfl, rfl, get_eq rfl (w64_succ (Nat.lt_of_lt_of_le hlt hb24)), trivial⟩, [_, _], rfl, .inr ⟨HB.mk rfl, FB.mk rfl, (Nat.le_of_ble_eq_true rfl)⟩⟩
          · refine go hΓ 6 rfl ?_
            refine j_condF rfl (decide_eq_false (Int.lt_irrefl _)) ?_
            refine go hΓ 4 rfl ?_
            exact ⟨⟨rfl, rfl, rfl, rfl, rfl, rfl, trivial⟩, [], rfl, .inl rfl⟩
        · refine go hΓ 10 rfl ?_
          refine eo_litT hΓ (enc := eS) [q21] rfl rfl rfl rfl rfl rfl rfl rfl rfl rfl rfl rfl (Nat.le_of_ble_eq_true rfl) ?_
          obtain ⟨y31, hy31, h32⟩ := bi_ok h22
          refine eo_appendT hΓ (enc := eS) hy31 rfl rfl rfl rfl rfl rfl rfl rfl rfl (fun _ => rfl) rfl rfl rfl rfl ?_
          refine go_ops hΓ 3 rfl ?_
          obtain rfl := Option.some.inj h32
          exact ⟨_, rfl, ⟨⟨rfl, rfl, rfl, rfl, rfl, rfl, trivial⟩, [], rfl, .inl rfl⟩⟩
      · have h33 := cF hy14 hb
        refine go hΓ 4 rfl ?_
        obtain rfl := Option.some.inj h33
        obtain rfl := hout15 _ rfl
        exact ⟨⟨rfl, rfl, rfl, trivial⟩, [], rfl, .inl rfl⟩
    · refine go hΓ 2 rfl ?_
      refine j_draw hmix (by kernel_rfl) ?_
      refine go hΓ 3 rfl ?_
      refine gl_o rfl (op_lookup hΓ (kv := kS) (agg := true) (enc := e_route_far) y3 a ((⟨0, 0⟩ : T_route_far) : T_route_far) rfl rfl rfl rfl key_str rfl rfl rfl rfl rfl rfl rfl) ?_
      refine go_draw hΓ 6 rfl ?_
      refine j_shr 3 [6, 13, 95] _ [mOb kS false (eL e_route_step) y1, mOb kS true e_route_far y3, .box 191 [I (((mGet y3 a).getD (⟨0, 0⟩ : T_route_far)).millis), I (((mGet y3 a).getD (⟨0, 0⟩ : T_route_far)).links)], .dead] rfl rfl rfl (Nat.le_of_ble_eq_true rfl) ?_
      refine go hΓ 1 rfl ?_
      obtain rfl := Option.some.inj h11
      exact fin_pure hΓ (.inr rfl) rfl rfl
theorem c_route_Through {k : Nat} {l : List T_api_Link} {a : Str} {b : Str} {r : (List Str) × Int × Int} (h : m_route_Through k l a b = some r) : Pure Tryz.prog 77 [.d (Sl e_api_Link l), S a, S b] (.tup [.d (Sl eS r.1), I r.2.1, I r.2.2]) := by
  refine Pure.enter (Fr.of 0 _) Tryz.func77 rfl (Fr.of_ok _) rfl rfl ?_
  refine go_in ?_
  unfold m_route_Through at h
  obtain ⟨y1, hy1, h2⟩ := bi_ok h
  refine go hΓ 11 rfl ?_
  refine eo_callP (callable Tryz.func124 rfl rfl) (c_route_CheckLinks hy1) rfl (Nat.le_of_ble_eq_true rfl) rfl rfl rfl rfl rfl ?_
  refine go_ops hΓ 9 rfl ?_
  refine j_cond rfl (fun hb => ?_) (fun hb => ?_)
  · have h3 := cT h2 hb
    refine go hΓ 10 rfl ?_
    obtain rfl := Option.some.inj h3
    exact fin_pure hΓ (.inr rfl) rfl rfl
  · have h4 := cF h2 hb
    obtain ⟨y5, hy5, h6⟩ := bi_ok h4
    refine go hΓ 6 rfl ?_
    refine eo_callP (callable Tryz.func82 rfl rfl) (c_kit_IsKey hy5) rfl (Nat.le_of_ble_eq_true rfl) rfl rfl rfl rfl rfl ?_
    refine go_ops hΓ 2 rfl ?_
    obtain ⟨q7, hq7, h8⟩ := bi_ok h6
    refine o_cut 4 [(0, .d (Sl e_api_Link l)), (1, S a), (2, S b), (22, B q7)] [] ?_ ?_
    · refine eo_gsplit rfl rfl (fun hb => ?_) (fun hb => ?_)
      · have h9 := cT hq7 hb
        refine go_ops hΓ 5 rfl ?_
        obtain rfl := Option.some.inj h9
        exact ⟨⟨rfl, rfl, rfl, rfl, trivial⟩, [], rfl, .inl rfl⟩
      · have h10 := cF hq7 hb
        obtain ⟨y11, hy11, h12⟩ := bi_ok h10
        refine go_ops hΓ 1 rfl ?_
        refine eo_guard rfl ?_
        refine eo_callP (callable Tryz.func82 rfl rfl) (c_kit_IsKey hy11) rfl (Nat.le_of_ble_eq_true rfl) rfl rfl rfl rfl rfl ?_
        refine go_ops hΓ 3 rfl ?_
        obtain rfl := Option.some.inj h12
        exact ⟨⟨rfl, rfl, rfl, rfl, trivial⟩, [], rfl, .inl rfl⟩
    · refine go_ops hΓ 2 rfl ?_
      refine j_cond rfl (fun hb => ?_) (fun hb => ?_)
      · have h13 := cT h8 hb
        refine go hΓ 9 rfl ?_
        obtain rfl := Option.some.inj h13
        exact fin_pure hΓ (.inr rfl) rfl rfl
      · have h14 := cF h8 hb
        obtain ⟨y15, hy15, h16⟩ := bi_ok h14
        refine go hΓ 7 rfl ?_
        refine eo_callP (callable Tryz.func125 rfl rfl) (c_route_through hy15) rfl (Nat.le_of_ble_eq_true rfl) rfl rfl rfl rfl rfl ?_
        refine go_ops hΓ 9 rfl ?_
        obtain rfl := Option.some.inj h16
        exact fin_pure hΓ (.inr rfl) rfl rfl
theorem c_lanelaw1_routed {k : Nat} {r : Bool} (h : m_lanelaw1_routed k = some r) : Pure Tryz.prog 24 [] (B r) := by
  refine Pure.enter (Fr.of 0 _) Tryz.func24 rfl (Fr.of_ok _) rfl rfl ?_
  refine go_in ?_
  unfold m_lanelaw1_routed at h
  refine go hΓ 7 rfl ?_
  refine eo_build hΓ (gs := [S [97], S [98], I 3]) rfl rfl rfl rfl rfl rfl rfl ?_
  refine eo_litT hΓ (enc := e_api_Link) [(⟨[97], [98], 3⟩ : T_api_Link)] rfl rfl rfl rfl rfl rfl rfl rfl rfl rfl rfl rfl (Nat.le_of_ble_eq_true rfl) ?_
  obtain ⟨y1, hy1, h2⟩ := bi_ok h
  refine eo_callP (callable Tryz.func77 rfl rfl) (c_route_Through hy1) rfl (Nat.le_of_ble_eq_true rfl) rfl rfl rfl rfl rfl ?_
  refine go_ops hΓ 14 rfl ?_
  refine o_cut 3 [(0, B false), (1, .d (Sl eS y1.1)), (16, B (((y1.2.2 : Int) == 0) && ((y1.2.1 : Int) == 3)))] [] ?_ ?_
  · refine eo_gsplit rfl rfl (fun hb => ?_) (fun hb => ?_)
    · refine go_ops hΓ 4 rfl ?_
      exact ⟨⟨rfl, rfl, get_b rfl (and_t hb), trivial⟩, [], rfl, .inl rfl⟩
    · refine go_ops hΓ 4 rfl ?_
      exact ⟨⟨rfl, rfl, get_b rfl (and_f hb), trivial⟩, [], rfl, .inl rfl⟩
  · refine go_ops hΓ 1 rfl ?_
    obtain ⟨q3, hq3, h4⟩ := bi_ok h2
    refine o_cut 4 [(0, B false), (21, B q3)] [] ?_ ?_
    · refine eo_gsplit rfl rfl (fun hb => ?_) (fun hb => ?_)
      · have h5 := cT hq3 hb
        refine go_ops hΓ 1 rfl ?_
        refine eo_guard rfl ?_
        refine eo_litT hΓ (enc := eS) [[98], [97]] rfl rfl rfl rfl rfl rfl rfl rfl rfl rfl rfl rfl (Nat.le_of_ble_eq_true rfl) ?_
        obtain ⟨y6, hy6, h7⟩ := bi_ok h5
        refine eo_guard rfl ?_
        refine eo_callP (callable Tryz.func22 rfl rfl) (c_slices_Equal_string_string hy6) rfl (Nat.le_of_ble_eq_true rfl) rfl rfl rfl rfl rfl ?_
        refine go_ops hΓ 2 rfl ?_
        obtain rfl := Option.some.inj h7
        exact ⟨⟨rfl, rfl, trivial⟩, [], rfl, .inl rfl⟩
      · have h8 := cF hq3 hb
        refine go_ops hΓ 5 rfl ?_
        obtain rfl := Option.some.inj h8
        exact ⟨⟨rfl, rfl, trivial⟩, [], rfl, .inl rfl⟩
    · refine go_ops hΓ 4 rfl ?_
      obtain rfl := Option.some.inj h4
      exact fin_pure hΓ (.inr rfl) rfl rfl
theorem c_laneref2_lastOf {k : Nat} {p : T_api_Prefix} {r : (Int × Int × Int × Int × Int × Int × Int × Int × Int)} (h : m_laneref2_lastOf k p = some r) : Pure Tryz.prog 127 [.agg [B p.Addr.Six, .d (.v (.int .u64 p.Addr.Hi)), .d (.v (.int .u64 p.Addr.Lo)), I p.Bits]] (.agg [I r.1, I r.2.1, I r.2.2.1, I r.2.2.2.1, I r.2.2.2.2.1, I r.2.2.2.2.2.1, I r.2.2.2.2.2.2.1, I r.2.2.2.2.2.2.2.1, I r.2.2.2.2.2.2.2.2]) := by
  refine Pure.enter (Fr.of 0 _) Tryz.func127 rfl (Fr.of_ok _) rfl rfl ?_
  refine go_in ?_
  unfold m_laneref2_lastOf at h
  refine go hΓ 2 rfl ?_
  refine eo_box rfl rfl rfl rfl (Nat.le_of_ble_eq_true rfl) ?_
  refine eo_alloc hΓ rfl rfl rfl (Nat.le_of_ble_eq_true rfl) ?_
  obtain ⟨y1, hy1, h2⟩ := bi_ok h
  refine go_ops hΓ 6 rfl ?_
  refine eo_callP (callable Tryz.func97 rfl rfl) (c_laneref2_of hy1) rfl (Nat.le_of_ble_eq_true rfl) rfl rfl rfl rfl rfl ?_
  refine eo_alloc hΓ rfl rfl rfl (Nat.le_of_ble_eq_true rfl) ?_
  refine eo_store hΓ rfl rfl rfl rfl rfl rfl rfl rfl (Nat.le_of_ble_eq_true rfl) ?_
  refine eo_hp [.box 42 [B p.Addr.Six, .d (.v (.int .u64 p.Addr.Hi)), .d (.v (.int .u64 p.Addr.Lo)), I p.Bits], .box 132 [I 0, I 0, I 0, I 0, I 0, I 0, I 0, I 0, I 0], .box 132 [I y1.1, I y1.2.1, I y1.2.2.1, I y1.2.2.2.1, I y1.2.2.2.2.1, I y1.2.2.2.2.2.1, I y1.2.2.2.2.2.2.1, I y1.2.2.2.2.2.2.2.1, I y1.2.2.2.2.2.2.2.2]] rfl ?_
  refine go_ops hΓ 4 rfl ?_
  refine j_draw hmix (by kernel_rfl) ?_
  obtain ⟨y3, hy3, h4⟩ := bi_ok h2
  refine go hΓ 2 rfl ?_
  refine gl_callP (callable Tryz.func95 rfl rfl) (c_laneref2_length hy3) rfl rfl rfl rfl rfl rfl ?_
  refine go_draw hΓ 6 rfl ?_
  obtain ⟨q8, hq8, h9⟩ := bi_ok h4
  obtain ⟨hb11, h12⟩ := gd_ok hq8
  replace hb11 := of_decide_eq_true hb11
  refine j_cutNZ [(2, .ptr 1 0), (3, .ptr 2 0)] [.box 42 [B p.Addr.Six, .d (.v (.int .u64 p.Addr.Hi)), .d (.v (.int .u64 p.Addr.Lo)), I p.Bits], .box 132 [I 0, I 0, I 0, I 0, I 0, I 0, I 0, I 0, I 0], .box 132 [I q8.1, I q8.2.1, I q8.2.2.1, I q8.2.2.2.1, I q8.2.2.2.2.1, I q8.2.2.2.2.2.1, I q8.2.2.2.2.2.2.1, I q8.2.2.2.2.2.2.2.1, I q8.2.2.2.2.2.2.2.2]] ?_ ?_
  · refine go hΓ 1 rfl ?_
    refine j_rangeG h12 (fun i5 s6 => [(2, .ptr 1 0), (3, .ptr 2 0), (13, I (wi (y3 - p.Bits))), (14, I (i5 : Int))]) (fun s6 => [.box 42 [B p.Addr.Six, .d (.v (.int .u64 p.Addr.Hi)), .d (.v (.int .u64 p.Addr.Lo)), I p.Bits], .box 132 [I 0, I 0, I 0, I 0, I 0, I 0, I 0, I 0, I 0], .box 132 [I s6.1, I s6.2.1, I s6.2.2.1, I s6.2.2.2.1, I s6.2.2.2.2.1, I s6.2.2.2.2.2.1, I s6.2.2.2.2.2.2.1, I s6.2.2.2.2.2.2.2.1, I s6.2.2.2.2.2.2.2.2]]) ⟨⟨rfl, rfl, rfl, rfl, trivial⟩, [], rfl, .inl rfl⟩ (fun i5 s6 y16 hlt hy14 => ?_) (fun hge => ?_)
    · refine go hΓ 6 rfl ?_
      refine j_condT rfl (decide_eq_true hlt) ?_
      refine go hΓ 10 rfl ?_
      refine j_drawE [.dead, .dead, .box 132 [I s6.1, I s6.2.1, I s6.2.2.1, I s6.2.2.2.1, I s6.2.2.2.2.1, I s6.2.2.2.2.2.1, I s6.2.2.2.2.2.2.1, I s6.2.2.2.2.2.2.2.1, I s6.2.2.2.2.2.2.2.2]] [3] [9] [9] hmix (by kernel_rfl) (by kernel_rfl) ⟨rfl, trivial⟩ (Nat.le_of_ble_eq_true rfl) ?_
      obtain ⟨y17, hy17, h18⟩ := bi_ok hy14
      refine go_E hΓ 1 rfl ?_
      refine ge_q rfl (.inl rfl) (fun _ _ => qte_of_qt (qt_p (op_quoZ hy17 rfl rfl))) ?_
      obtain ⟨x19, hx19, h20⟩ := bi_ok h18
      refine ge_q rfl (.inl rfl) (fun _ _ => qte_of_qt (qt_p (op_elemArr hΓ hx19 rfl rfl rfl rfl rfl rfl))) ?_
      refine ge_p rfl (fun hp hs => op_loadArr hΓ (f := fun z => .d (.v (.int .i64 z))) hx19 rfl rfl rfl rfl (hs 2 _ rfl rfl) rfl) rfl ?_
      obtain ⟨y21, hy21, h22⟩ := bi_ok h20
      refine go_E hΓ 1 rfl ?_
      refine ge_q rfl (.inl rfl) (fun _ _ => qte_of_qt (qt_p (op_remZ hy21 rfl rfl))) ?_
      obtain ⟨y23, hy23, h24⟩ := bi_ok h22
      refine ge_q rfl (.inl rfl) (fun _ _ => qte_of_qt (qt_p (op_shlZ hy23 rfl rfl))) ?_
      obtain ⟨x25, hx25, h26⟩ := bi_ok h24
      refine go_E hΓ 1 rfl ?_
      refine ge_q rfl (.inl rfl) (fun _ _ => qte_of_qt (qt_p (op_elemArr hΓ hx25 rfl rfl rfl rfl rfl rfl))) ?_
      refine ge_h0 [.box 42 [B p.Addr.Six, .d (.v (.int .u64 p.Addr.Hi)), .d (.v (.int .u64 p.Addr.Lo)), I p.Bits], .box 132 [I 0, I 0, I 0, I 0, I 0, I 0, I 0, I 0, I 0], .box 132 [I (updA y17 0 (bitsV .or .i64 x19 y23) s6.1), I (updA y17 1 (bitsV .or .i64 x19 y23) s6.2.1), I (updA y17 2 (bitsV .or .i64 x19 y23) s6.2.2.1), I (updA y17 3 (bitsV .or .i64 x19 y23) s6.2.2.2.1), I (updA y17 4 (bitsV .or .i64 x19 y23) s6.2.2.2.2.1), I (updA y17 5 (bitsV .or .i64 x19 y23) s6.2.2.2.2.2.1), I (updA y17 6 (bitsV .or .i64 x19 y23) s6.2.2.2.2.2.2.1), I (updA y17 7 (bitsV .or .i64 x19 y23) s6.2.2.2.2.2.2.2.1), I (updA y17 8 (bitsV .or .i64 x19 y23) s6.2.2.2.2.2.2.2.2)]] rfl rfl (brk_st rfl) (qte_u (opu_setArr hΓ (l := ([s6.1, s6.2.1, s6.2.2.1, s6.2.2.2.1, s6.2.2.2.2.1, s6.2.2.2.2.2.1, s6.2.2.2.2.2.2.1, s6.2.2.2.2.2.2.2.1, s6.2.2.2.2.2.2.2.2] : List Int)) (v := (bitsV .or .i64 x19 y23)) (f := fun z => .d (.v (.int .i64 z))) hx25 rfl rfl rfl rfl rfl rfl rfl rfl rfl rfl)) ?_
      refine ge_fin ?_
      refine go hΓ 6 rfl ?_
      obtain rfl := Option.some.inj h26
      exact ⟨⟨rfl, rfl, rfl, get_eq rfl (w64_succ (by omega)), trivial⟩, [], rfl, .inl rfl⟩
    · refine go hΓ 6 rfl ?_
      refine j_condF rfl (decide_eq_false hge) ?_
      refine go hΓ 4 rfl ?_
      exact ⟨⟨rfl, rfl, trivial⟩, [], rfl, .inl rfl⟩
  · refine go hΓ 4 rfl ?_
    refine eo_store hΓ rfl rfl rfl rfl rfl rfl rfl rfl (Nat.le_of_ble_eq_true rfl) ?_
    refine eo_hp [.box 42 [B p.Addr.Six, .d (.v (.int .u64 p.Addr.Hi)), .d (.v (.int .u64 p.Addr.Lo)), I p.Bits], .box 132 [I q8.1, I q8.2.1, I q8.2.2.1, I q8.2.2.2.1, I q8.2.2.2.2.1, I q8.2.2.2.2.2.1, I q8.2.2.2.2.2.2.1, I q8.2.2.2.2.2.2.2.1, I q8.2.2.2.2.2.2.2.2], .box 132 [I q8.1, I q8.2.1, I q8.2.2.1, I q8.2.2.2.1, I q8.2.2.2.2.1, I q8.2.2.2.2.2.1, I q8.2.2.2.2.2.2.1, I q8.2.2.2.2.2.2.2.1, I q8.2.2.2.2.2.2.2.2]] rfl ?_
    refine go_ops hΓ 3 rfl ?_
    obtain rfl := Option.some.inj h9
    exact fin_pure hΓ (.inr rfl) rfl rfl
theorem c_laneref2_Holds {k : Nat} {p : T_api_Prefix} {a : T_api_Addr} {r : Bool} (h : m_laneref2_Holds k p a = some r) : Pure Tryz.prog 78 [.agg [B p.Addr.Six, .d (.v (.int .u64 p.Addr.Hi)), .d (.v (.int .u64 p.Addr.Lo)), I p.Bits], .agg [B a.Six, .d (.v (.int .u64 a.Hi)), .d (.v (.int .u64 a.Lo))]] (B r) := by
  refine Pure.enter (Fr.of 0 _) Tryz.func78 rfl (Fr.of_ok _) rfl rfl ?_
  refine go_in ?_
  unfold m_laneref2_Holds at h
  refine go hΓ 2 rfl ?_
  refine eo_box rfl rfl rfl rfl (Nat.le_of_ble_eq_true rfl) ?_
  refine eo_box rfl rfl rfl rfl (Nat.le_of_ble_eq_true rfl) ?_
  obtain ⟨q1, hq1, h2⟩ := bi_ok h
  refine go_ops hΓ 4 rfl ?_
  refine j_cutNZ [(4, B q1)] [.box 42 [B p.Addr.Six, .d (.v (.int .u64 p.Addr.Hi)), .d (.v (.int .u64 p.Addr.Lo)), I p.Bits], .box 34 [B a.Six, .d (.v (.int .u64 a.Hi)), .d (.v (.int .u64 a.Lo))]] ?_ ?_
  · refine j_draw hmix (by kernel_rfl) ?_
    obtain ⟨y3, hy3, h4⟩ := bi_ok hq1
    refine go hΓ 2 rfl ?_
    refine gl_callP (callable Tryz.func97 rfl rfl) (c_laneref2_of hy3) rfl rfl rfl rfl rfl rfl ?_
    obtain ⟨y5, hy5, h6⟩ := bi_ok h4
    refine go_draw hΓ 1 rfl ?_
    refine gl_callP (callable Tryz.func97 rfl rfl) (c_laneref2_of hy5) rfl rfl rfl rfl rfl rfl ?_
    obtain ⟨y7, hy7, h8⟩ := bi_ok h6
    refine gl_callP (callable Tryz.func126 rfl rfl) (c_laneref2_wide_cmp hy7) rfl rfl rfl rfl rfl rfl ?_
    refine go_draw hΓ 2 rfl ?_
    refine gl_gsplit rfl rfl (fun hb => ?_) (fun hb => ?_)
    · have h9 := cT h8 hb
      obtain ⟨y10, hy10, h11⟩ := bi_ok h9
      refine go_draw hΓ 1 rfl ?_
      refine gl_callPg (callable Tryz.func97 rfl rfl) (c_laneref2_of hy10) rfl rfl rfl rfl rfl rfl rfl ?_
      obtain ⟨y12, hy12, h13⟩ := bi_ok h11
      refine go_draw hΓ 1 rfl ?_
      refine gl_callPg (callable Tryz.func127 rfl rfl) (c_laneref2_lastOf hy12) rfl rfl rfl rfl rfl rfl rfl ?_
      obtain ⟨y14, hy14, h15⟩ := bi_ok h13
      refine gl_callPg (callable Tryz.func126 rfl rfl) (c_laneref2_wide_cmp hy14) rfl rfl rfl rfl rfl rfl rfl ?_
      refine go_draw hΓ 4 rfl ?_
      obtain rfl := Option.some.inj h15
      exact ⟨⟨rfl, trivial⟩, [], rfl, .inl rfl⟩
    · have h16 := cF h8 hb
      refine go_draw hΓ 9 rfl ?_
      obtain rfl := Option.some.inj h16
      exact ⟨⟨rfl, trivial⟩, [], rfl, .inl rfl⟩
  · refine go hΓ 2 rfl ?_
    obtain rfl := Option.some.inj h2
    exact fin_pure hΓ (.inr rfl) rfl rfl
theorem c_laneref1_WayAt {k : Nat} {v_r : List T_api_Router} {l : List T_api_Health} {a : T_api_Addr} {v_at : Int} {r : T_api_Lead × Bool} (h : m_laneref1_WayAt k v_r l a v_at = some r) : Pure Tryz.prog 25 [.d (Sl e_api_Router v_r), .d (Sl e_api_Health l), .agg [B a.Six, .d (.v (.int .u64 a.Hi)), .d (.v (.int .u64 a.Lo))], I v_at] (.tup [.agg [B r.1.Prefix.Addr.Six, .d (.v (.int .u64 r.1.Prefix.Addr.Hi)), .d (.v (.int .u64 r.1.Prefix.Addr.Lo)), I r.1.Prefix.Bits, S r.1.Node], B r.2]) := by
  refine Pure.enter (Fr.of 0 _) Tryz.func25 rfl (Fr.of_ok _) rfl rfl ?_
  refine go_in ?_
  unfold m_laneref1_WayAt at h
  refine go hΓ 2 rfl ?_
  refine eo_box rfl rfl rfl rfl (Nat.le_of_ble_eq_true rfl) ?_
  refine eo_alloc hΓ rfl rfl rfl (Nat.le_of_ble_eq_true rfl) ?_
  refine go_ops hΓ 5 rfl ?_
  refine eo_build hΓ (gs := [B false, .d (.v (.int .u64 0)), .d (.v (.int .u64 0)), I (-1)]) rfl rfl rfl rfl rfl rfl rfl ?_
  refine eo_build hΓ (gs := [B false, .d (.v (.int .u64 0)), .d (.v (.int .u64 0)), I (-1), S []]) rfl rfl rfl rfl rfl rfl rfl ?_
  refine eo_alloc hΓ rfl rfl rfl (Nat.le_of_ble_eq_true rfl) ?_
  refine eo_store hΓ rfl rfl rfl rfl rfl rfl rfl rfl (Nat.le_of_ble_eq_true rfl) ?_
  refine eo_hp [.box 34 [B a.Six, .d (.v (.int .u64 a.Hi)), .d (.v (.int .u64 a.Lo))], .box 44 [B false, .d (.v (.int .u64 0)), .d (.v (.int .u64 0)), I 0, S []], .box 44 [B false, .d (.v (.int .u64 0)), .d (.v (.int .u64 0)), I (-1), S []]] rfl ?_
  obtain ⟨y1, hy1, h2⟩ := bi_ok h
  refine go_ops hΓ 8 rfl ?_
  refine eo_callP (callable Tryz.func21 rfl rfl) (Pure.rows (c_laneref1_LeadsAt hy1) rfl rfl) rfl (Nat.le_of_ble_eq_true rfl) rfl rfl rfl rfl rfl ?_
  refine go_ops hΓ 4 rfl ?_
  obtain ⟨q6, hq6, h7⟩ := bi_ok h2
  refine j_bound 18 rfl fun hb9 => ?_
  refine j_cutNZ [(8, .ptr 1 0), (10, .ptr 2 0)] [.box 34 [B a.Six, .d (.v (.int .u64 a.Hi)), .d (.v (.int .u64 a.Lo))], .box 44 [B false, .d (.v (.int .u64 0)), .d (.v (.int .u64 0)), I 0, S []], .box 44 [B q6.Prefix.Addr.Six, .d (.v (.int .u64 q6.Prefix.Addr.Hi)), .d (.v (.int .u64 q6.Prefix.Addr.Lo)), I q6.Prefix.Bits, S q6.Node]] ?_ ?_
  · refine go hΓ 1 rfl ?_
    refine j_rangeF y1 hq6 (fun i3 s4 => [(6, .ptr 0 0), (8, .ptr 1 0), (10, .ptr 2 0), (18, .d (Sl e_api_Lead y1)), (19, I (y1.length : Int)), (20, I (i3 : Int))]) (fun s4 => [.box 34 [B a.Six, .d (.v (.int .u64 a.Hi)), .d (.v (.int .u64 a.Lo))], .box 44 [B false, .d (.v (.int .u64 0)), .d (.v (.int .u64 0)), I 0, S []], .box 44 [B s4.Prefix.Addr.Six, .d (.v (.int .u64 s4.Prefix.Addr.Hi)), .d (.v (.int .u64 s4.Prefix.Addr.Lo)), I s4.Prefix.Bits, S s4.Node]]) ⟨⟨rfl, rfl, rfl, rfl, rfl, rfl, trivial⟩, [], rfl, .inl rfl⟩ (fun i3 x5 s4 y13 hx10 hlt hy11 => ?_) (?_)
    · refine go hΓ 6 rfl ?_
      refine j_condT rfl (decide_eq_true (Int.ofNat_lt.2 hlt)) ?_
      refine go hΓ 6 rfl ?_
      refine eo_o rfl (op_elemZ hΓ (enc := e_api_Lead) (getZ_nat hx10) rfl rfl rfl rfl rfl (fun _ => rfl)) ?_
      refine go_ops hΓ 1 rfl ?_
      refine eo_alloc hΓ rfl rfl rfl (Nat.le_of_ble_eq_true rfl) ?_
      refine eo_store hΓ rfl rfl rfl rfl rfl rfl rfl rfl (Nat.le_of_ble_eq_true rfl) ?_
      refine eo_hp [.box 34 [B a.Six, .d (.v (.int .u64 a.Hi)), .d (.v (.int .u64 a.Lo))], .box 44 [B false, .d (.v (.int .u64 0)), .d (.v (.int .u64 0)), I 0, S []], .box 44 [B s4.Prefix.Addr.Six, .d (.v (.int .u64 s4.Prefix.Addr.Hi)), .d (.v (.int .u64 s4.Prefix.Addr.Lo)), I s4.Prefix.Bits, S s4.Node], .box 44 [B x5.Prefix.Addr.Six, .d (.v (.int .u64 x5.Prefix.Addr.Hi)), .d (.v (.int .u64 x5.Prefix.Addr.Lo)), I x5.Prefix.Bits, S x5.Node]] rfl ?_
      obtain ⟨y14, hy14, h15⟩ := bi_ok hy11
      refine go_ops hΓ 7 rfl ?_
      refine eo_callP (callable Tryz.func78 rfl rfl) (c_laneref2_Holds hy14) rfl (Nat.le_of_ble_eq_true rfl) rfl rfl rfl rfl rfl ?_
      refine go_ops hΓ 1 rfl ?_
      refine o_cut 8 [(6, .ptr 0 0), (8, .ptr 1 0), (10, .ptr 2 0), (12, .ptr 3 0), (18, .d (Sl e_api_Lead y1)), (19, I (y1.length : Int)), (20, I (i3 : Int)), (36, B (y14 && (decide ((x5.Prefix.Bits : Int) > s4.Prefix.Bits))))] [.box 34 [B a.Six, .d (.v (.int .u64 a.Hi)), .d (.v (.int .u64 a.Lo))], .box 44 [B false, .d (.v (.int .u64 0)), .d (.v (.int .u64 0)), I 0, S []], .box 44 [B s4.Prefix.Addr.Six, .d (.v (.int .u64 s4.Prefix.Addr.Hi)), .d (.v (.int .u64 s4.Prefix.Addr.Lo)), I s4.Prefix.Bits, S s4.Node], .box 44 [B x5.Prefix.Addr.Six, .d (.v (.int .u64 x5.Prefix.Addr.Hi)), .d (.v (.int .u64 x5.Prefix.Addr.Lo)), I x5.Prefix.Bits, S x5.Node]] ?_ ?_
      · refine eo_gsplit rfl rfl (fun hb => ?_) (fun hb => ?_)
        · refine go_ops hΓ 9 rfl ?_
          exact ⟨⟨rfl, rfl, rfl, rfl, rfl, rfl, rfl, get_b rfl (and_t hb), trivial⟩, [], rfl, .inl rfl⟩
        · refine go_ops hΓ 9 rfl ?_
          exact ⟨⟨rfl, rfl, rfl, rfl, rfl, rfl, rfl, get_b rfl (and_f hb), trivial⟩, [], rfl, .inl rfl⟩
      · refine go_ops hΓ 2 rfl ?_
        refine j_cond rfl (fun hb => ?_) (fun hb => ?_)
        · have h16 := cT h15 hb
          refine go hΓ 2 rfl ?_
          refine eo_store hΓ rfl rfl rfl rfl rfl rfl rfl rfl (Nat.le_of_ble_eq_true rfl) ?_
          refine eo_hp [.box 34 [B a.Six, .d (.v (.int .u64 a.Hi)), .d (.v (.int .u64 a.Lo))], .box 44 [B false, .d (.v (.int .u64 0)), .d (.v (.int .u64 0)), I 0, S []], .box 44 [B x5.Prefix.Addr.Six, .d (.v (.int .u64 x5.Prefix.Addr.Hi)), .d (.v (.int .u64 x5.Prefix.Addr.Lo)), I x5.Prefix.Bits, S x5.Node], .box 44 [B x5.Prefix.Addr.Six, .d (.v (.int .u64 x5.Prefix.Addr.Hi)), .d (.v (.int .u64 x5.Prefix.Addr.Lo)), I x5.Prefix.Bits, S x5.Node]] rfl ?_
          refine go_ops hΓ 7 rfl ?_
          obtain rfl := Option.some.inj h16
          exact ⟨⟨rfl, rfl, rfl, rfl, rfl, get_eq rfl (w64_succ (Nat.lt_of_lt_of_le hlt hb9)), trivial⟩, [_], rfl, .inr ⟨HB.mk rfl, FB.mk rfl, (Nat.le_of_ble_eq_true rfl)⟩⟩
        · have h17 := cF h15 hb
          refine go hΓ 7 rfl ?_
          obtain rfl := Option.some.inj h17
          exact ⟨⟨rfl, rfl, rfl, rfl, rfl, get_eq rfl (w64_succ (Nat.lt_of_lt_of_le hlt hb9)), trivial⟩, [_], rfl, .inr ⟨HB.mk rfl, FB.mk rfl, (Nat.le_of_ble_eq_true rfl)⟩⟩
    · refine go hΓ 6 rfl ?_
      refine j_condF rfl (decide_eq_false (Int.lt_irrefl _)) ?_
      refine go hΓ 4 rfl ?_
      exact ⟨⟨rfl, rfl, trivial⟩, [], rfl, .inl rfl⟩
  · refine go hΓ 9 rfl ?_
    refine j_cond rfl (fun hb => ?_) (fun hb => ?_)
    · have h18 := cT h7 hb
      refine go hΓ 2 rfl ?_
      refine eo_build hΓ (gs := [B false, .d (.v (.int .u64 0)), .d (.v (.int .u64 0)), I 0, S []]) rfl rfl rfl rfl rfl rfl rfl ?_
      refine eo_store hΓ rfl rfl rfl rfl rfl rfl rfl rfl (Nat.le_of_ble_eq_true rfl) ?_
      refine eo_hp [.box 34 [B a.Six, .d (.v (.int .u64 a.Hi)), .d (.v (.int .u64 a.Lo))], .box 44 [B false, .d (.v (.int .u64 0)), .d (.v (.int .u64 0)), I 0, S []], .box 44 [B q6.Prefix.Addr.Six, .d (.v (.int .u64 q6.Prefix.Addr.Hi)), .d (.v (.int .u64 q6.Prefix.Addr.Lo)), I q6.Prefix.Bits, S q6.Node]] rfl ?_
      refine go_ops hΓ 5 rfl ?_
      obtain rfl := Option.some.inj h18
      exact fin_pure hΓ (.inr rfl) rfl rfl
    · have h19 := cF h7 hb
      refine go hΓ 5 rfl ?_
      refine eo_store hΓ rfl rfl rfl rfl rfl rfl rfl rfl (Nat.le_of_ble_eq_true rfl) ?_
      refine eo_hp [.box 34 [B a.Six, .d (.v (.int .u64 a.Hi)), .d (.v (.int .u64 a.Lo))], .box 44 [B q6.Prefix.Addr.Six, .d (.v (.int .u64 q6.Prefix.Addr.Hi)), .d (.v (.int .u64 q6.Prefix.Addr.Lo)), I q6.Prefix.Bits, S q6.Node], .box 44 [B q6.Prefix.Addr.Six, .d (.v (.int .u64 q6.Prefix.Addr.Hi)), .d (.v (.int .u64 q6.Prefix.Addr.Lo)), I q6.Prefix.Bits, S q6.Node]] rfl ?_
      refine go_ops hΓ 4 rfl ?_
      obtain rfl := Option.some.inj h19
      exact fin_pure hΓ (.inr rfl) rfl rfl
set_option maxHeartbeats 8000000 in
theorem c_lanelaw1_WaysFound {k : Nat} {l : List Int} {al : List Bool} {r : Bool × (List Bool)} (h : m_lanelaw1_WaysFound k l al = some r) : EC Tryz.prog 3 [.d (Sl (eN .i64) l)] [.bag al] fun g hp' => g = B r.1 ∧ hp' = [.bag r.2] := by
  refine ec_enter (Fr.of 0 _) Tryz.func3 rfl (Fr.of_ok _) (Nat.le_of_ble_eq_true rfl) fun _ => ?_
  refine go_in ?_
  unfold m_lanelaw1_WaysFound at h
  refine go hΓ 8 rfl ?_
  refine eo_build hΓ (gs := [.d (Sl (eN .i64) l), I 0]) rfl rfl rfl rfl rfl rfl rfl ?_
  refine eo_box rfl rfl rfl rfl (Nat.le_of_ble_eq_true rfl) ?_
  obtain ⟨y1, hy1, h2⟩ := bi_ok h
  refine go_ops hΓ 6 rfl ?_
  refine eo_callF [1] (.sl 2 y1.1.length) [.bag al, .box 25 [.d (Sl (eN .i64) y1.2.L), I y1.2.v_at], .row 69 6 y1.1.length (y1.1.flatMap e_api_Router)] (callable Tryz.func6 rfl rfl) (c_lanemake_Stream_Routers hy1) rfl (Nat.le_of_ble_eq_true rfl) rfl rfl rfl rfl rfl rfl rfl rfl rfl rfl ?_
  refine eo_shr 2 [25] _ [.bag al, .box 25 [.d (Sl (eN .i64) y1.2.L), I y1.2.v_at], .dead] rfl rfl rfl (Nat.le_of_ble_eq_true rfl) ?_
  obtain ⟨y3, hy3, h4⟩ := bi_ok h2
  refine go_ops hΓ 2 rfl ?_
  refine eo_callF [1] (I y3.1) [.bag al, .box 25 [.d (Sl (eN .i64) y3.2.L), I y3.2.v_at], .dead] (callable Tryz.func8 rfl rfl) (c_lanemake_Stream_Range hy3) rfl (Nat.le_of_ble_eq_true rfl) rfl rfl rfl rfl rfl rfl rfl rfl rfl rfl ?_
  obtain ⟨y5, hy5, h6⟩ := bi_ok h4
  refine eo_callF [1] (.sl 3 y5.1.length) [.bag al, .box 25 [.d (Sl (eN .i64) y5.2.L), I y5.2.v_at], .dead, .row 103 3 y5.1.length (y5.1.flatMap e_api_Health)] (callable Tryz.func7 rfl rfl) (c_lanemake_Stream_HealthLog hy5) rfl (Nat.le_of_ble_eq_true rfl) rfl rfl rfl rfl rfl rfl rfl rfl rfl rfl ?_
  refine eo_shr 3 [29] _ [.bag al, .box 25 [.d (Sl (eN .i64) y5.2.L), I y5.2.v_at], .dead, .dead] rfl rfl rfl (Nat.le_of_ble_eq_true rfl) ?_
  obtain ⟨y7, hy7, h8⟩ := bi_ok h6
  refine go_ops hΓ 1 rfl ?_
  refine eo_callF [1] (I y7.1) [.bag al, .box 25 [.d (Sl (eN .i64) y7.2.L), I y7.2.v_at], .dead, .dead] (callable Tryz.func9 rfl rfl) (c_lanemake_Stream_Time hy7) rfl (Nat.le_of_ble_eq_true rfl) rfl rfl rfl rfl rfl rfl rfl rfl rfl rfl ?_
  obtain ⟨y9, hy9, h10⟩ := bi_ok h8
  refine go_ops hΓ 1 rfl ?_
  refine eo_callF [1] (.agg [B y9.1.Six, .d (.v (.int .u64 y9.1.Hi)), .d (.v (.int .u64 y9.1.Lo))]) [.bag al, .box 25 [.d (Sl (eN .i64) y9.2.L), I y9.2.v_at], .dead, .dead] (callable Tryz.func10 rfl rfl) (c_lanemake_Stream_Raw hy9) rfl (Nat.le_of_ble_eq_true rfl) rfl rfl rfl rfl rfl rfl rfl rfl rfl rfl ?_
  obtain ⟨y11, hy11, h12⟩ := bi_ok h10
  refine go_ops hΓ 1 rfl ?_
  refine eo_callF [1] (B y11.1) [.bag al, .box 25 [.d (Sl (eN .i64) y11.2.L), I y11.2.v_at], .dead, .dead] (callable Tryz.func11 rfl rfl) (c_lanemake_Stream_Flip hy11) rfl (Nat.le_of_ble_eq_true rfl) rfl rfl rfl rfl rfl rfl rfl rfl rfl rfl ?_
  refine eo_alloc hΓ rfl rfl rfl (Nat.le_of_ble_eq_true rfl) ?_
  refine go_ops hΓ 3 rfl ?_
  refine eo_store hΓ rfl rfl rfl rfl rfl rfl rfl rfl (Nat.le_of_ble_eq_true rfl) ?_
  refine eo_hp [.bag al, .box 25 [.d (Sl (eN .i64) y11.2.L), I y11.2.v_at], .dead, .dead, .box 34 [B y9.1.Six, .d (.v (.int .u64 y9.1.Hi)), .d (.v (.int .u64 y9.1.Lo))]] rfl ?_
  obtain ⟨y13, hy13, h14⟩ := bi_ok h12
  refine go_ops hΓ 8 rfl ?_
  refine eo_callF [0] (.tup [.d (Sl e_api_Lead y13.1), I y13.2.1]) [.bag y13.2.2, .box 25 [.d (Sl (eN .i64) y11.2.L), I y11.2.v_at], .dead, .dead, .box 34 [B y9.1.Six, .d (.v (.int .u64 y9.1.Hi)), .d (.v (.int .u64 y9.1.Lo))]] (callable Tryz.func12 rfl rfl) (c_route_Firsts hy13) rfl (Nat.le_of_ble_eq_true rfl) rfl rfl rfl rfl rfl rfl rfl rfl rfl rfl ?_
  obtain ⟨y15, hy15, h16⟩ := bi_ok h14
  refine go_ops hΓ 13 rfl ?_
  refine eo_callF [0] (.tup [.agg [B y15.1.Prefix.Addr.Six, .d (.v (.int .u64 y15.1.Prefix.Addr.Hi)), .d (.v (.int .u64 y15.1.Prefix.Addr.Lo)), I y15.1.Prefix.Bits, S y15.1.Node], B y15.2.1, I y15.2.2.1]) [.bag y15.2.2.2, .box 25 [.d (Sl (eN .i64) y11.2.L), I y11.2.v_at], .dead, .dead, .box 34 [B y9.1.Six, .d (.v (.int .u64 y9.1.Hi)), .d (.v (.int .u64 y9.1.Lo))]] (callable Tryz.func13 rfl rfl) (c_route_Way hy15) rfl (Nat.le_of_ble_eq_true rfl) rfl rfl rfl rfl rfl rfl rfl rfl rfl rfl ?_
  refine go_ops hΓ 4 rfl ?_
  refine eo_alloc hΓ rfl rfl rfl (Nat.le_of_ble_eq_true rfl) ?_
  refine eo_store hΓ rfl rfl rfl rfl rfl rfl rfl rfl (Nat.le_of_ble_eq_true rfl) ?_
  refine eo_hp [.bag y15.2.2.2, .box 25 [.d (Sl (eN .i64) y11.2.L), I y11.2.v_at], .dead, .dead, .box 34 [B y9.1.Six, .d (.v (.int .u64 y9.1.Hi)), .d (.v (.int .u64 y9.1.Lo))], .box 44 [B y15.1.Prefix.Addr.Six, .d (.v (.int .u64 y15.1.Prefix.Addr.Hi)), .d (.v (.int .u64 y15.1.Prefix.Addr.Lo)), I y15.1.Prefix.Bits, S y15.1.Node]] rfl ?_
  obtain ⟨y17, hy17, h18⟩ := bi_ok h16
  refine go_ops hΓ 10 rfl ?_
  refine eo_callP (callable Tryz.func14 rfl rfl) (c_route_Exits hy17) rfl (Nat.le_of_ble_eq_true rfl) rfl rfl rfl rfl rfl ?_
  obtain ⟨y19, hy19, h20⟩ := bi_ok h18
  refine go_ops hΓ 10 rfl ?_
  refine eo_callP (callable Tryz.func16 rfl rfl) (c_laneref1_RoutersFault hy19) rfl (Nat.le_of_ble_eq_true rfl) rfl rfl rfl rfl rfl ?_
  obtain ⟨y21, hy21, h22⟩ := bi_ok h20
  refine go_ops hΓ 1 rfl ?_
  refine eo_callP (callable Tryz.func17 rfl rfl) (c_laneref1_HealthFault hy21) rfl (Nat.le_of_ble_eq_true rfl) rfl rfl rfl rfl rfl ?_
  refine eo_litT hΓ (enc := (eN .i64)) [y19, y21] rfl rfl rfl rfl rfl rfl rfl rfl rfl rfl rfl rfl (Nat.le_of_ble_eq_true rfl) ?_
  obtain ⟨y23, hy23, h24⟩ := bi_ok h22
  refine eo_callP (callable Tryz.func15 rfl rfl) (c_cmp_Or_api_Errno hy23) rfl (Nat.le_of_ble_eq_true rfl) rfl rfl rfl rfl rfl ?_
  refine go_ops hΓ 4 rfl ?_
  refine j_draw hmix (by kernel_rfl) ?_
  obtain ⟨y25, hy25, h26⟩ := bi_ok h24
  refine go hΓ 2 rfl ?_
  refine gl_callP (callable Tryz.func18 rfl rfl) (c_laneref1_MomentFault hy25) rfl rfl rfl rfl rfl rfl ?_
  refine gl_litT hΓ (enc := (eN .i64)) [y23, y25] rfl rfl rfl rfl rfl rfl rfl rfl rfl rfl rfl rfl ?_
  obtain ⟨y27, hy27, h28⟩ := bi_ok h26
  refine gl_callP (callable Tryz.func15 rfl rfl) (c_cmp_Or_api_Errno hy27) rfl rfl rfl rfl rfl rfl ?_
  obtain ⟨y29, hy29, h30⟩ := bi_ok h28
  refine go_draw hΓ 2 rfl ?_
  refine gl_callP (callable Tryz.func19 rfl rfl) (c_laneref2_AddrFault hy29) rfl rfl rfl rfl rfl rfl ?_
  obtain ⟨y31, hy31, h32⟩ := bi_ok h30
  refine go_draw hΓ 1 rfl ?_
  refine gl_callP (callable Tryz.func18 rfl rfl) (c_laneref1_MomentFault hy31) rfl rfl rfl rfl rfl rfl ?_
  refine gl_litT hΓ (enc := (eN .i64)) [y23, y29, y31] rfl rfl rfl rfl rfl rfl rfl rfl rfl rfl rfl rfl ?_
  obtain ⟨y33, hy33, h34⟩ := bi_ok h32
  refine gl_callP (callable Tryz.func15 rfl rfl) (c_cmp_Or_api_Errno hy33) rfl rfl rfl rfl rfl rfl ?_
  refine go_draw hΓ 11 rfl ?_
  refine o_cut 4 [(4, .d (Sl e_api_Router y1.1)), (5, .d (Sl e_api_Health y5.1)), (6, I y7.1), (7, .ptr 4 0), (8, B y11.1), (9, .d (Sl e_api_Lead y13.1)), (11, .ptr 5 0), (12, B y15.2.1), (13, I y15.2.2.1), (14, .d (Sl eS y17.1)), (17, I y27), (18, I y33), (85, B (((y13.2.1 : Int) != y27) || ((y17.2 : Int) != y27)))] [.bag y15.2.2.2, .box 25 [.d (Sl (eN .i64) y11.2.L), I y11.2.v_at], .dead, .dead, .box 34 [B y9.1.Six, .d (.v (.int .u64 y9.1.Hi)), .d (.v (.int .u64 y9.1.Lo))], .box 44 [B y15.1.Prefix.Addr.Six, .d (.v (.int .u64 y15.1.Prefix.Addr.Hi)), .d (.v (.int .u64 y15.1.Prefix.Addr.Lo)), I y15.1.Prefix.Bits, S y15.1.Node]] ?_ ?_
  · refine eo_gsplit rfl rfl (fun hb => ?_) (fun hb => ?_)
    · refine go_ops hΓ 5 rfl ?_
      exact ⟨⟨rfl, rfl, rfl, rfl, rfl, rfl, rfl, rfl, rfl, rfl, rfl, rfl, get_b rfl (or_t hb), trivial⟩, [], rfl, .inl rfl⟩
    · refine go_ops hΓ 5 rfl ?_
      exact ⟨⟨rfl, rfl, rfl, rfl, rfl, rfl, rfl, rfl, rfl, rfl, rfl, rfl, get_b rfl (or_f hb), trivial⟩, [], rfl, .inl rfl⟩
  · refine go_ops hΓ 1 rfl ?_
    refine o_cut 4 [(4, .d (Sl e_api_Router y1.1)), (5, .d (Sl e_api_Health y5.1)), (6, I y7.1), (7, .ptr 4 0), (8, B y11.1), (9, .d (Sl e_api_Lead y13.1)), (11, .ptr 5 0), (12, B y15.2.1), (14, .d (Sl eS y17.1)), (17, I y27), (18, I y33), (90, B ((((y13.2.1 : Int) != y27) || ((y17.2 : Int) != y27)) || ((y15.2.2.1 : Int) != y33)))] [.bag y15.2.2.2, .box 25 [.d (Sl (eN .i64) y11.2.L), I y11.2.v_at], .dead, .dead, .box 34 [B y9.1.Six, .d (.v (.int .u64 y9.1.Hi)), .d (.v (.int .u64 y9.1.Lo))], .box 44 [B y15.1.Prefix.Addr.Six, .d (.v (.int .u64 y15.1.Prefix.Addr.Hi)), .d (.v (.int .u64 y15.1.Prefix.Addr.Lo)), I y15.1.Prefix.Bits, S y15.1.Node]] ?_ ?_
    · refine eo_gsplit rfl rfl (fun hb => ?_) (fun hb => ?_)
      · refine go_ops hΓ 5 rfl ?_
        exact ⟨⟨rfl, rfl, rfl, rfl, rfl, rfl, rfl, rfl, rfl, rfl, rfl, get_b rfl (or_t hb), trivial⟩, [], rfl, .inl rfl⟩
      · refine go_ops hΓ 5 rfl ?_
        exact ⟨⟨rfl, rfl, rfl, rfl, rfl, rfl, rfl, rfl, rfl, rfl, rfl, get_b rfl (or_f hb), trivial⟩, [], rfl, .inl rfl⟩
    · refine go_ops hΓ 2 rfl ?_
      refine j_cond rfl (fun hb => ?_) (fun hb => ?_)
      · have h35 := cT h34 hb
        refine go hΓ 7 rfl ?_
        obtain rfl := Option.some.inj h35
        exact fin_objs hΓ [_, _, _, _, _] (.inr rfl) rfl rfl rfl rfl (.inr ⟨HB.mk rfl, rfl⟩)
      · have h36 := cF h34 hb
        refine go hΓ 8 rfl ?_
        obtain ⟨q37, hq37, h38⟩ := bi_ok h36
        refine o_cut 18 [(4, .d (Sl e_api_Router y1.1)), (5, .d (Sl e_api_Health y5.1)), (6, I y7.1), (7, .ptr 4 0), (11, .ptr 5 0), (12, B y15.2.1), (18, I y33), (111, B q37)] [.bag y15.2.2.2, .box 25 [.d (Sl (eN .i64) y11.2.L), I y11.2.v_at], .dead, .dead, .box 34 [B y9.1.Six, .d (.v (.int .u64 y9.1.Hi)), .d (.v (.int .u64 y9.1.Lo))], .box 44 [B y15.1.Prefix.Addr.Six, .d (.v (.int .u64 y15.1.Prefix.Addr.Hi)), .d (.v (.int .u64 y15.1.Prefix.Addr.Lo)), I y15.1.Prefix.Bits, S y15.1.Node]] ?_ ?_
        · refine eo_gsplit rfl rfl (fun hb => ?_) (fun hb => ?_)
          · have h39 := cT hq37 hb
            obtain ⟨y40, hy40, h41⟩ := bi_ok h39
            refine go_ops hΓ 4 rfl ?_
            refine eo_guard rfl ?_
            refine eo_callP (callable Tryz.func21 rfl rfl) (Pure.rows (c_laneref1_LeadsAt hy40) rfl rfl) rfl (Nat.le_of_ble_eq_true rfl) rfl rfl rfl rfl rfl ?_
            obtain ⟨y42, hy42, h43⟩ := bi_ok h41
            refine eo_guard rfl ?_
            refine eo_callP (callable Tryz.func20 rfl rfl) (c_slices_Equal_api_Lead_api_Lead hy42) rfl (Nat.le_of_ble_eq_true rfl) rfl rfl rfl rfl rfl ?_
            refine go_ops hΓ 2 rfl ?_
            obtain ⟨q44, hq44, h45⟩ := bi_ok h43
            refine o_cut 9 [(4, .d (Sl e_api_Router y1.1)), (5, .d (Sl e_api_Health y5.1)), (6, I y7.1), (7, .ptr 4 0), (11, .ptr 5 0), (12, B y15.2.1), (18, I y33), (93, B true), (110, B q44)] [.bag y15.2.2.2, .box 25 [.d (Sl (eN .i64) y11.2.L), I y11.2.v_at], .dead, .dead, .box 34 [B y9.1.Six, .d (.v (.int .u64 y9.1.Hi)), .d (.v (.int .u64 y9.1.Lo))], .box 44 [B y15.1.Prefix.Addr.Six, .d (.v (.int .u64 y15.1.Prefix.Addr.Hi)), .d (.v (.int .u64 y15.1.Prefix.Addr.Lo)), I y15.1.Prefix.Bits, S y15.1.Node]] ?_ ?_
            · refine eo_gsplit rfl rfl (fun hb => ?_) (fun hb => ?_)
              · have h46 := cT hq44 hb
                refine go_ops hΓ 10 rfl ?_
                obtain rfl := Option.some.inj h46
                exact ⟨⟨rfl, rfl, rfl, rfl, rfl, rfl, rfl, rfl, rfl, trivial⟩, [], rfl, .inl rfl⟩
              · have h47 := cF hq44 hb
                obtain ⟨y48, hy48, h49⟩ := bi_ok h47
                refine go_ops hΓ 5 rfl ?_
                refine eo_guard rfl ?_
                refine eo_callP (callable Tryz.func23 rfl rfl) (Pure.rows (c_laneref1_ExitsAt hy48) rfl rfl) rfl (Nat.le_of_ble_eq_true rfl) rfl rfl rfl rfl rfl ?_
                obtain ⟨y50, hy50, h51⟩ := bi_ok h49
                refine eo_guard rfl ?_
                refine eo_callP (callable Tryz.func22 rfl rfl) (c_slices_Equal_string_string hy50) rfl (Nat.le_of_ble_eq_true rfl) rfl rfl rfl rfl rfl ?_
                refine go_ops hΓ 3 rfl ?_
                obtain rfl := Option.some.inj h51
                exact ⟨⟨rfl, rfl, rfl, rfl, rfl, rfl, rfl, rfl, rfl, trivial⟩, [], rfl, .inl rfl⟩
            · refine go_ops hΓ 2 rfl ?_
              obtain rfl := Option.some.inj h45
              exact ⟨⟨rfl, rfl, rfl, rfl, rfl, rfl, rfl, rfl, trivial⟩, [], rfl, .inl rfl⟩
          · have h52 := cF hq37 hb
            refine go_ops hΓ 19 rfl ?_
            obtain rfl := Option.some.inj h52
            exact ⟨⟨rfl, rfl, rfl, rfl, rfl, rfl, rfl, rfl, trivial⟩, [], rfl, .inl rfl⟩
        · refine go_ops hΓ 2 rfl ?_
          refine j_cond rfl (fun hb => ?_) (fun hb => ?_)
          · have h53 := cT h38 hb
            refine go hΓ 7 rfl ?_
            obtain rfl := Option.some.inj h53
            exact fin_objs hΓ [_, _, _, _, _] (.inr rfl) rfl rfl rfl rfl (.inr ⟨HB.mk rfl, rfl⟩)
          · have h54 := cF h38 hb
            refine go hΓ 9 rfl ?_
            refine j_cond rfl (fun hb => ?_) (fun hb => ?_)
            · have h55 := cT h54 hb
              refine go hΓ 5 rfl ?_
              obtain ⟨q56, hq56, h57⟩ := bi_ok h55
              refine o_cut 2 [(118, B q56)] [.bag y15.2.2.2, .box 25 [.d (Sl (eN .i64) y11.2.L), I y11.2.v_at], .dead, .dead, .box 34 [B y9.1.Six, .d (.v (.int .u64 y9.1.Hi)), .d (.v (.int .u64 y9.1.Lo))], .box 44 [B y15.1.Prefix.Addr.Six, .d (.v (.int .u64 y15.1.Prefix.Addr.Hi)), .d (.v (.int .u64 y15.1.Prefix.Addr.Lo)), I y15.1.Prefix.Bits, S y15.1.Node]] ?_ ?_
              · refine eo_gsplit rfl rfl (fun hb => ?_) (fun hb => ?_)
                · have h58 := cT hq56 hb
                  obtain ⟨y59, hy59, h60⟩ := bi_ok h58
                  refine eo_guard rfl ?_
                  refine eo_callP (callable Tryz.func24 rfl rfl) (c_lanelaw1_routed hy59) rfl (Nat.le_of_ble_eq_true rfl) rfl rfl rfl rfl rfl ?_
                  refine go_ops hΓ 2 rfl ?_
                  obtain rfl := Option.some.inj h60
                  exact ⟨⟨rfl, trivial⟩, [], rfl, .inl rfl⟩
                · have h61 := cF hq56 hb
                  refine go_ops hΓ 3 rfl ?_
                  obtain rfl := Option.some.inj h61
                  exact ⟨⟨rfl, trivial⟩, [], rfl, .inl rfl⟩
              · refine go_ops hΓ 5 rfl ?_
                obtain rfl := Option.some.inj h57
                exact fin_objs hΓ [_, _, _, _, _] (.inr rfl) rfl rfl rfl rfl (.inr ⟨HB.mk rfl, rfl⟩)
            · have h62 := cF h54 hb
              obtain ⟨y63, hy63, h64⟩ := bi_ok h62
              refine go hΓ 8 rfl ?_
              refine eo_callP (callable Tryz.func25 rfl rfl) (c_laneref1_WayAt hy63) rfl (Nat.le_of_ble_eq_true rfl) rfl rfl rfl rfl rfl ?_
              refine go_ops hΓ 3 rfl ?_
              refine eo_alloc hΓ rfl rfl rfl (Nat.le_of_ble_eq_true rfl) ?_
              refine eo_store hΓ rfl rfl rfl rfl rfl rfl rfl rfl (Nat.le_of_ble_eq_true rfl) ?_
              refine eo_hp [.bag y15.2.2.2, .box 25 [.d (Sl (eN .i64) y11.2.L), I y11.2.v_at], .dead, .dead, .box 34 [B y9.1.Six, .d (.v (.int .u64 y9.1.Hi)), .d (.v (.int .u64 y9.1.Lo))], .box 44 [B y15.1.Prefix.Addr.Six, .d (.v (.int .u64 y15.1.Prefix.Addr.Hi)), .d (.v (.int .u64 y15.1.Prefix.Addr.Lo)), I y15.1.Prefix.Bits, S y15.1.Node], .box 44 [B y63.1.Prefix.Addr.Six, .d (.v (.int .u64 y63.1.Prefix.Addr.Hi)), .d (.v (.int .u64 y63.1.Prefix.Addr.Lo)), I y63.1.Prefix.Bits, S y63.1.Node]] rfl ?_
              refine go_ops hΓ 7 rfl ?_
              refine eo_o rfl (op_eqS hΓ [44, 42, 34] (b := (((((y15.1.Prefix.Addr.Six : Bool) == y63.1.Prefix.Addr.Six) && (((y15.1.Prefix.Addr.Hi : Int) == y63.1.Prefix.Addr.Hi) && (((y15.1.Prefix.Addr.Lo : Int) == y63.1.Prefix.Addr.Lo) && true))) && (((y15.1.Prefix.Bits : Int) == y63.1.Prefix.Bits) && true)) && (((y15.1.Node : Str) == y63.1.Node) && true))) (by kernel_rfl) (by kernel_rfl) rfl rfl rfl) ?_
              refine go_ops hΓ 1 rfl ?_
              refine o_cut 4 [(134, B ((((((y15.1.Prefix.Addr.Six : Bool) == y63.1.Prefix.Addr.Six) && (((y15.1.Prefix.Addr.Hi : Int) == y63.1.Prefix.Addr.Hi) && (((y15.1.Prefix.Addr.Lo : Int) == y63.1.Prefix.Addr.Lo) && true))) && (((y15.1.Prefix.Bits : Int) == y63.1.Prefix.Bits) && true)) && (((y15.1.Node : Str) == y63.1.Node) && true)) && ((y15.2.1 : Bool) == y63.2)))] [.bag y15.2.2.2, .box 25 [.d (Sl (eN .i64) y11.2.L), I y11.2.v_at], .dead, .dead, .box 34 [B y9.1.Six, .d (.v (.int .u64 y9.1.Hi)), .d (.v (.int .u64 y9.1.Lo))], .box 44 [B y15.1.Prefix.Addr.Six, .d (.v (.int .u64 y15.1.Prefix.Addr.Hi)), .d (.v (.int .u64 y15.1.Prefix.Addr.Lo)), I y15.1.Prefix.Bits, S y15.1.Node], .box 44 [B y63.1.Prefix.Addr.Six, .d (.v (.int .u64 y63.1.Prefix.Addr.Hi)), .d (.v (.int .u64 y63.1.Prefix.Addr.Lo)), I y63.1.Prefix.Bits, S y63.1.Node]] ?_ ?_
              · refine eo_gsplit rfl rfl (fun hb => ?_) (fun hb => ?_)
                · refine go_ops hΓ 5 rfl ?_
                  exact ⟨⟨get_b rfl (and_t hb), trivial⟩, [], rfl, .inl rfl⟩
                · refine go_ops hΓ 5 rfl ?_
                  exact ⟨⟨get_b rfl (and_f hb), trivial⟩, [], rfl, .inl rfl⟩
              · refine go_ops hΓ 1 rfl ?_
                obtain ⟨q65, hq65, h66⟩ := bi_ok h64
                refine o_cut 2 [(137, B q65)] [.bag y15.2.2.2, .box 25 [.d (Sl (eN .i64) y11.2.L), I y11.2.v_at], .dead, .dead, .box 34 [B y9.1.Six, .d (.v (.int .u64 y9.1.Hi)), .d (.v (.int .u64 y9.1.Lo))], .box 44 [B y15.1.Prefix.Addr.Six, .d (.v (.int .u64 y15.1.Prefix.Addr.Hi)), .d (.v (.int .u64 y15.1.Prefix.Addr.Lo)), I y15.1.Prefix.Bits, S y15.1.Node], .box 44 [B y63.1.Prefix.Addr.Six, .d (.v (.int .u64 y63.1.Prefix.Addr.Hi)), .d (.v (.int .u64 y63.1.Prefix.Addr.Lo)), I y63.1.Prefix.Bits, S y63.1.Node]] ?_ ?_
                · refine eo_gsplit rfl rfl (fun hb => ?_) (fun hb => ?_)
                  · have h67 := cT hq65 hb
                    obtain ⟨y68, hy68, h69⟩ := bi_ok h67
                    refine eo_guard rfl ?_
                    refine eo_callP (callable Tryz.func24 rfl rfl) (c_lanelaw1_routed hy68) rfl (Nat.le_of_ble_eq_true rfl) rfl rfl rfl rfl rfl ?_
                    refine go_ops hΓ 2 rfl ?_
                    obtain rfl := Option.some.inj h69
                    exact ⟨⟨rfl, trivial⟩, [], rfl, .inl rfl⟩
                  · have h70 := cF hq65 hb
                    refine go_ops hΓ 3 rfl ?_
                    obtain rfl := Option.some.inj h70
                    exact ⟨⟨rfl, trivial⟩, [], rfl, .inl rfl⟩
                · refine go_ops hΓ 4 rfl ?_
                  obtain rfl := Option.some.inj h66
                  exact fin_objs hΓ [_, _, _, _, _, _] (.inr rfl) rfl rfl rfl rfl (.inr ⟨HB.mk rfl, rfl⟩)
end Go.Proofs.YtnjnmkpgedkffaaGreatDoor
