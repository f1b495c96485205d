/-
  The functions compute their models.
-/
import Derived.Test.YtnjnmkpgedkffaaXNM
import Derived.Test.YtnjnmkpgedkffaaGt
import Derived.Test.YtnjnmkpgedkffaaStrC
import Derived.Test.YtnjnmkpgedkffaaXNW1
set_option linter.unusedVariables false
set_option linter.unusedSimpArgs false
set_option maxRecDepth 100000
namespace Go.Proofs.Ytnjnmkpgedkffaa
open Go.Gk
set_option maxHeartbeats 8000000 in
theorem c_route_Can {k : Nat} {a : T_api_Nat} {b : T_api_Nat} {rounds : Int} {al : List Bool} {r : T_api_Punched × Int × (List Bool)} (h : m_route_Can k a b rounds al = some r) : EC Try.prog 21 [.agg [I a.Maps, I a.Lets, I a.Timeout, I a.First, I a.Ports, B a.Outer.Six, U a.Outer.Hi, U a.Outer.Lo], .agg [I b.Maps, I b.Lets, I b.Timeout, I b.First, I b.Ports, B b.Outer.Six, U b.Outer.Hi, U b.Outer.Lo], I rounds] [.bag al] fun g hp' => g = .tup [.agg [I r.1.A, I r.1.v_B], I r.2.1] ∧ hp' = [.bag r.2.2] := by
  refine ec_enter (Fr.of 0 _) Try.func21 rfl (Fr.of_ok _) (Nat.le_of_ble_eq_true rfl) fun _ => ?_
  refine go_in ?_
  unfold m_route_Can at h
  refine go hΓ 2 rfl ?_
  refine eo_box rfl rfl rfl rfl (Nat.le_of_ble_eq_true rfl) ?_
  refine eo_box rfl rfl rfl rfl (Nat.le_of_ble_eq_true rfl) ?_
  refine eo_alloc hΓ rfl rfl rfl (Nat.le_of_ble_eq_true rfl) ?_
  refine go_ops hΓ 8 rfl ?_
  refine eo_o rfl (op_buildA hΓ (gs := [I a.Maps, I a.Lets, I a.Timeout, I a.First, I a.Ports, B a.Outer.Six, U a.Outer.Hi, U a.Outer.Lo, I b.Maps, I b.Lets, I b.Timeout, I b.First, I b.Ports, B b.Outer.Six, U b.Outer.Hi, U b.Outer.Lo]) rfl rfl rfl rfl rfl rfl) ?_
  refine go_ops hΓ 3 rfl ?_
  obtain ⟨q4, hq4, h5⟩ := bi_ok h
  refine j_cutEZ (R := fun a6 => q4 = .inl a6) (fun a6 => [(2, I rounds), (3, .ptr 1 0), (4, .ptr 2 0), (6, .ptr 3 0)]) (fun a6 => [.bag al, .box 30 [I a.Maps, I a.Lets, I a.Timeout, I a.First, I a.Ports, B a.Outer.Six, U a.Outer.Hi, U a.Outer.Lo], .box 30 [I b.Maps, I b.Lets, I b.Timeout, I b.First, I b.Ports, B b.Outer.Six, U b.Outer.Hi, U b.Outer.Lo], .box 55 [I 0, I 0]]) ?_ ?_
  · refine go hΓ 1 rfl ?_
    refine j_loop hq4 (fun s2 => [(2, I rounds), (3, .ptr 1 0), (4, .ptr 2 0), (6, .ptr 3 0), (21, .agg [I a.Maps, I a.Lets, I a.Timeout, I a.First, I a.Ports, B a.Outer.Six, U a.Outer.Hi, U a.Outer.Lo, I b.Maps, I b.Lets, I b.Timeout, I b.First, I b.Ports, B b.Outer.Six, U b.Outer.Hi, U b.Outer.Lo]), (22, I s2)]) (fun s2 => [.bag al, .box 30 [I a.Maps, I a.Lets, I a.Timeout, I a.First, I a.Ports, B a.Outer.Six, U a.Outer.Hi, U a.Outer.Lo], .box 30 [I b.Maps, I b.Lets, I b.Timeout, I b.First, I b.Ports, B b.Outer.Six, U b.Outer.Hi, U b.Outer.Lo], .box 55 [I 0, I 0]]) ⟨⟨rfl, rfl, rfl, rfl, rfl, rfl, trivial⟩, [], rfl, .inl rfl⟩ (fun s2 y10 hy8 hout9 => ?_)
    refine go hΓ 6 rfl ?_
    refine j_cond rfl (fun hb => ?_) (fun hb => ?_)
    · have h11 := cT hy8 hb
      obtain ⟨x12, hx12, h13⟩ := bi_ok h11
      refine go hΓ 6 rfl ?_
      refine eo_o rfl (op_indexArrZ hΓ (enc := e_api_Nat) [a, b] hx12 rfl rfl rfl rfl rfl rfl rfl (fun _ => rfl) rfl) ?_
      refine eo_alloc hΓ rfl rfl rfl (Nat.le_of_ble_eq_true rfl) ?_
      refine eo_store hΓ rfl rfl rfl rfl rfl rfl rfl rfl (Nat.le_of_ble_eq_true rfl) ?_
      refine eo_hp [.bag al, .box 30 [I a.Maps, I a.Lets, I a.Timeout, I a.First, I a.Ports, B a.Outer.Six, U a.Outer.Hi, U a.Outer.Lo], .box 30 [I b.Maps, I b.Lets, I b.Timeout, I b.First, I b.Ports, B b.Outer.Six, U b.Outer.Hi, U b.Outer.Lo], .box 55 [I 0, I 0], .box 30 [I x12.Maps, I x12.Lets, I x12.Timeout, I x12.First, I x12.Ports, B x12.Outer.Six, U x12.Outer.Hi, U x12.Outer.Lo]] rfl ?_
      obtain ⟨y14, hy14, h15⟩ := bi_ok h13
      refine go_ops hΓ 5 rfl ?_
      refine eo_callP (callable Try.func27 rfl rfl) (c_route_natFault hy14) rfl (Nat.le_of_ble_eq_true rfl) rfl rfl rfl rfl rfl ?_
      refine go_ops hΓ 9 rfl ?_
      refine j_cond rfl (fun hb => ?_) (fun hb => ?_)
      · have h16 := cT h15 hb
        refine go hΓ 2 rfl ?_
        refine eo_build hΓ (gs := [I 0, I 0]) rfl rfl rfl rfl rfl rfl rfl ?_
        refine go_ops hΓ 1 rfl ?_
        refine eo_store hΓ rfl rfl rfl rfl rfl rfl rfl rfl (Nat.le_of_ble_eq_true rfl) ?_
        refine eo_hp [.bag al, .box 30 [I a.Maps, I a.Lets, I a.Timeout, I a.First, I a.Ports, B a.Outer.Six, U a.Outer.Hi, U a.Outer.Lo], .box 30 [I b.Maps, I b.Lets, I b.Timeout, I b.First, I b.Ports, B b.Outer.Six, U b.Outer.Hi, U b.Outer.Lo], .box 55 [I 0, I 0], .box 30 [I x12.Maps, I x12.Lets, I x12.Timeout, I x12.First, I x12.Ports, B x12.Outer.Six, U x12.Outer.Hi, U x12.Outer.Lo]] rfl ?_
        refine go_ops hΓ 6 rfl ?_
        obtain ⟨v17, hv17, h18⟩ := bi_ok h16
        obtain rfl := Option.some.inj h18
        obtain rfl := hout9 _ rfl
        obtain rfl := Option.some.inj h5
        refine go hΓ 4 rfl ?_
        obtain rfl := Option.some.inj hv17
        exact fin_objs hΓ [_, _, _, _] (.inr rfl) rfl rfl rfl rfl (.inr ⟨HB.mk rfl, rfl⟩)
      · have h19 := cF h15 hb
        refine go hΓ 7 rfl ?_
        obtain rfl := Option.some.inj h19
        exact ⟨_, rfl, ⟨⟨rfl, rfl, rfl, rfl, rfl, rfl, trivial⟩, [_], rfl, .inr ⟨HB.mk rfl, FB.mk rfl, (Nat.le_of_ble_eq_true rfl)⟩⟩⟩
    · have h20 := cF hy8 hb
      refine go hΓ 4 rfl ?_
      obtain rfl := Option.some.inj h20
      obtain rfl := hout9 _ rfl
      exact ⟨_, rfl, ⟨⟨rfl, rfl, rfl, rfl, trivial⟩, [], rfl, .inl rfl⟩⟩
  · intro a6 ha
    subst ha
    replace h5 := orI_l h5
    refine go hΓ 3 rfl ?_
    refine eo_build hΓ (gs := [B false, U 0, U 16843009]) rfl rfl rfl rfl rfl rfl rfl ?_
    refine eo_build hΓ (gs := [B false, U 0, U 16843009, I 3478]) rfl rfl rfl rfl rfl rfl rfl ?_
    refine eo_alloc hΓ rfl rfl rfl (Nat.le_of_ble_eq_true rfl) ?_
    refine eo_store hΓ rfl rfl rfl rfl rfl rfl rfl rfl (Nat.le_of_ble_eq_true rfl) ?_
    refine eo_hp [.bag al, .box 30 [I a.Maps, I a.Lets, I a.Timeout, I a.First, I a.Ports, B a.Outer.Six, U a.Outer.Hi, U a.Outer.Lo], .box 30 [I b.Maps, I b.Lets, I b.Timeout, I b.First, I b.Ports, B b.Outer.Six, U b.Outer.Hi, U b.Outer.Lo], .box 55 [I 0, I 0], .box 45 [B false, U 0, U 16843009, I 3478]] rfl ?_
    refine go_ops hΓ 9 rfl ?_
    refine eo_o rfl (op_eqS hΓ [28] (b := (((a.Outer.Six : Bool) == b.Outer.Six) && (((a.Outer.Hi : Int) == b.Outer.Hi) && (((a.Outer.Lo : Int) == b.Outer.Lo) && true)))) (by kernel_rfl) (by kernel_rfl) rfl rfl rfl) ?_
    refine go_ops hΓ 1 rfl ?_
    refine o_cut 6 [(2, I rounds), (3, .ptr 1 0), (4, .ptr 2 0), (6, .ptr 3 0), (11, .ptr 4 0), (45, B ((((a.Outer.Six : Bool) == b.Outer.Six) && (((a.Outer.Hi : Int) == b.Outer.Hi) && (((a.Outer.Lo : Int) == b.Outer.Lo) && true))) || (((a.Outer.Six : Bool) == false) && (((a.Outer.Hi : Int) == 0) && (((a.Outer.Lo : Int) == 16843009) && true)))))] [.bag al, .box 30 [I a.Maps, I a.Lets, I a.Timeout, I a.First, I a.Ports, B a.Outer.Six, U a.Outer.Hi, U a.Outer.Lo], .box 30 [I b.Maps, I b.Lets, I b.Timeout, I b.First, I b.Ports, B b.Outer.Six, U b.Outer.Hi, U b.Outer.Lo], .box 55 [I 0, I 0], .box 45 [B false, U 0, U 16843009, I 3478]] ?_ ?_
    · refine eo_gsplit rfl rfl (fun hb => ?_) (fun hb => ?_)
      · refine go_ops hΓ 7 rfl ?_
        exact ⟨⟨rfl, rfl, rfl, rfl, rfl, get_b rfl (or_t hb), trivial⟩, [], rfl, .inl rfl⟩
      · refine go_ops hΓ 4 rfl ?_
        refine eo_guard rfl ?_
        refine eo_o rfl (op_eqS hΓ [28] (b := (((a.Outer.Six : Bool) == false) && (((a.Outer.Hi : Int) == 0) && (((a.Outer.Lo : Int) == 16843009) && true)))) (by kernel_rfl) (by kernel_rfl) rfl rfl rfl) ?_
        refine go_ops hΓ 2 rfl ?_
        exact ⟨⟨rfl, rfl, rfl, rfl, rfl, get_b rfl (or_f hb), trivial⟩, [], rfl, .inl rfl⟩
    · refine go_ops hΓ 1 rfl ?_
      refine o_cut 6 [(2, I rounds), (3, .ptr 1 0), (4, .ptr 2 0), (6, .ptr 3 0), (11, .ptr 4 0), (52, B (((((a.Outer.Six : Bool) == b.Outer.Six) && (((a.Outer.Hi : Int) == b.Outer.Hi) && (((a.Outer.Lo : Int) == b.Outer.Lo) && true))) || (((a.Outer.Six : Bool) == false) && (((a.Outer.Hi : Int) == 0) && (((a.Outer.Lo : Int) == 16843009) && true)))) || (((b.Outer.Six : Bool) == false) && (((b.Outer.Hi : Int) == 0) && (((b.Outer.Lo : Int) == 16843009) && true)))))] [.bag al, .box 30 [I a.Maps, I a.Lets, I a.Timeout, I a.First, I a.Ports, B a.Outer.Six, U a.Outer.Hi, U a.Outer.Lo], .box 30 [I b.Maps, I b.Lets, I b.Timeout, I b.First, I b.Ports, B b.Outer.Six, U b.Outer.Hi, U b.Outer.Lo], .box 55 [I 0, I 0], .box 45 [B false, U 0, U 16843009, I 3478]] ?_ ?_
      · refine eo_gsplit rfl rfl (fun hb => ?_) (fun hb => ?_)
        · refine go_ops hΓ 7 rfl ?_
          exact ⟨⟨rfl, rfl, rfl, rfl, rfl, get_b rfl (or_t hb), trivial⟩, [], rfl, .inl rfl⟩
        · refine go_ops hΓ 4 rfl ?_
          refine eo_guard rfl ?_
          refine eo_o rfl (op_eqS hΓ [28] (b := (((b.Outer.Six : Bool) == false) && (((b.Outer.Hi : Int) == 0) && (((b.Outer.Lo : Int) == 16843009) && true)))) (by kernel_rfl) (by kernel_rfl) rfl rfl rfl) ?_
          refine go_ops hΓ 2 rfl ?_
          exact ⟨⟨rfl, rfl, rfl, rfl, rfl, get_b rfl (or_f hb), trivial⟩, [], rfl, .inl rfl⟩
      · refine go_ops hΓ 2 rfl ?_
        refine j_cond rfl (fun hb => ?_) (fun hb => ?_)
        · have h21 := cT h5 hb
          refine go hΓ 2 rfl ?_
          refine eo_build hΓ (gs := [I 0, I 0]) rfl rfl rfl rfl rfl rfl rfl ?_
          refine eo_store hΓ rfl rfl rfl rfl rfl rfl rfl rfl (Nat.le_of_ble_eq_true rfl) ?_
          refine eo_hp [.bag al, .box 30 [I a.Maps, I a.Lets, I a.Timeout, I a.First, I a.Ports, B a.Outer.Six, U a.Outer.Hi, U a.Outer.Lo], .box 30 [I b.Maps, I b.Lets, I b.Timeout, I b.First, I b.Ports, B b.Outer.Six, U b.Outer.Hi, U b.Outer.Lo], .box 55 [I 0, I 0], .box 45 [B false, U 0, U 16843009, I 3478]] rfl ?_
          refine go_ops hΓ 5 rfl ?_
          obtain rfl := Option.some.inj h21
          exact fin_objs hΓ [_, _, _, _] (.inr rfl) rfl rfl rfl rfl (.inr ⟨HB.mk rfl, rfl⟩)
        · have h22 := cF h5 hb
          obtain ⟨y23, hy23, h24⟩ := bi_ok h22
          refine go hΓ 6 rfl ?_
          refine eo_callP (callable Try.func53 rfl rfl) (c_kit_Outside hy23) rfl (Nat.le_of_ble_eq_true rfl) rfl rfl rfl rfl rfl ?_
          refine go_ops hΓ 2 rfl ?_
          refine j_cond rfl (fun hb => ?_) (fun hb => ?_)
          · have h25 := cT h24 hb
            refine go hΓ 2 rfl ?_
            refine eo_build hΓ (gs := [I 0, I 0]) rfl rfl rfl rfl rfl rfl rfl ?_
            refine eo_store hΓ rfl rfl rfl rfl rfl rfl rfl rfl (Nat.le_of_ble_eq_true rfl) ?_
            refine eo_hp [.bag al, .box 30 [I a.Maps, I a.Lets, I a.Timeout, I a.First, I a.Ports, B a.Outer.Six, U a.Outer.Hi, U a.Outer.Lo], .box 30 [I b.Maps, I b.Lets, I b.Timeout, I b.First, I b.Ports, B b.Outer.Six, U b.Outer.Hi, U b.Outer.Lo], .box 55 [I 0, I 0], .box 45 [B false, U 0, U 16843009, I 3478]] rfl ?_
            refine go_ops hΓ 5 rfl ?_
            obtain rfl := Option.some.inj h25
            exact fin_objs hΓ [_, _, _, _] (.inr rfl) rfl rfl rfl rfl (.inr ⟨HB.mk rfl, rfl⟩)
          · have h26 := cF h24 hb
            refine go hΓ 3 rfl ?_
            refine j_drawR hΓ [.dead, .box 30 [I a.Maps, I a.Lets, I a.Timeout, I a.First, I a.Ports, B a.Outer.Six, U a.Outer.Hi, U a.Outer.Lo], .box 30 [I b.Maps, I b.Lets, I b.Timeout, I b.First, I b.Ports, B b.Outer.Six, U b.Outer.Hi, U b.Outer.Lo]] [0, 2, 7, 9] [4, 6, 11, 13] [(3, [10]), (5, [1]), (10, [10]), (12, [1])] [([0, 1, 2, 3, 4, 5, 6, 7, 8], [0, 1, 2, 3, 4, 5, 6, 7, 8]), ([0, 1, 2, 3, 4, 5, 7, 6, 8], [0, 1, 2, 3, 4, 5, 7, 6, 8]), ([0, 1, 2, 3, 4, 5, 7, 8, 6], [0, 1, 2, 3, 4, 5, 8, 6, 7]), ([0, 1, 2, 3, 4, 7, 5, 6, 8], [0, 1, 2, 3, 4, 6, 7, 5, 8]), ([0, 1, 2, 3, 4, 7, 5, 8, 6], [0, 1, 2, 3, 4, 6, 8, 5, 7]), ([0, 1, 2, 3, 4, 7, 8, 5, 6], [0, 1, 2, 3, 4, 7, 8, 5, 6])] [(2, I rounds), (6, .ptr 3 0), (11, .ptr 4 0), (12, .ptr 6 0), (13, .ptr 8 0)] [.bag al, .box 30 [I a.Maps, I a.Lets, I a.Timeout, I a.First, I a.Ports, B a.Outer.Six, U a.Outer.Hi, U a.Outer.Lo], .box 30 [I b.Maps, I b.Lets, I b.Timeout, I b.First, I b.Ports, B b.Outer.Six, U b.Outer.Hi, U b.Outer.Lo], .box 55 [I 0, I 0], .box 45 [B false, U 0, U 16843009, I 3478], .box 64 [I a.Maps, I a.Lets, I a.Timeout, I a.First, I a.Ports, B a.Outer.Six, U a.Outer.Hi, U a.Outer.Lo, I 0, I a.First, .d (.v (.slice none 0 0))], .box 104 [.ptr 5 0, .d (.v (.slice none 0 0)), I 0], .box 64 [I b.Maps, I b.Lets, I b.Timeout, I b.First, I b.Ports, B b.Outer.Six, U b.Outer.Hi, U b.Outer.Lo, I 0, I b.First, .d (.v (.slice none 0 0))], .box 104 [.ptr 7 0, .d (.v (.slice none 0 0)), I 0]] hmix (by kernel_rfl) ⟨rfl, rfl, trivial⟩ (Nat.le_of_ble_eq_true rfl) ?_
            refine go hΓ 1 rfl ?_
            refine j_nilBox 5 10 86 11 [.bag al, .box 30 [I a.Maps, I a.Lets, I a.Timeout, I a.First, I a.Ports, B a.Outer.Six, U a.Outer.Hi, U a.Outer.Lo], .box 30 [I b.Maps, I b.Lets, I b.Timeout, I b.First, I b.Ports, B b.Outer.Six, U b.Outer.Hi, U b.Outer.Lo], .box 55 [I 0, I 0], .box 45 [B false, U 0, U 16843009, I 3478], .box 64 [I a.Maps, I a.Lets, I a.Timeout, I a.First, I a.Ports, B a.Outer.Six, U a.Outer.Hi, U a.Outer.Lo, I 0, I a.First, .sl 9 ([] : List T_route_entry).length], .box 104 [.ptr 5 0, .d (.v (.slice none 0 0)), I 0], .box 64 [I b.Maps, I b.Lets, I b.Timeout, I b.First, I b.Ports, B b.Outer.Six, U b.Outer.Hi, U b.Outer.Lo, I 0, I b.First, .d (.v (.slice none 0 0))], .box 104 [.ptr 7 0, .d (.v (.slice none 0 0)), I 0], .row 86 11 ([] : List T_route_entry).length (([] : List T_route_entry).flatMap e_route_entry)] rfl rfl rfl (Nat.le_of_ble_eq_true rfl) ?_
            refine j_nilBox 6 1 45 4 [.bag al, .box 30 [I a.Maps, I a.Lets, I a.Timeout, I a.First, I a.Ports, B a.Outer.Six, U a.Outer.Hi, U a.Outer.Lo], .box 30 [I b.Maps, I b.Lets, I b.Timeout, I b.First, I b.Ports, B b.Outer.Six, U b.Outer.Hi, U b.Outer.Lo], .box 55 [I 0, I 0], .box 45 [B false, U 0, U 16843009, I 3478], .box 64 [I a.Maps, I a.Lets, I a.Timeout, I a.First, I a.Ports, B a.Outer.Six, U a.Outer.Hi, U a.Outer.Lo, I 0, I a.First, .sl 9 ([] : List T_route_entry).length], .box 104 [.ptr 5 0, .sl 10 ([] : List T_api_Spot).length, I 0], .box 64 [I b.Maps, I b.Lets, I b.Timeout, I b.First, I b.Ports, B b.Outer.Six, U b.Outer.Hi, U b.Outer.Lo, I 0, I b.First, .d (.v (.slice none 0 0))], .box 104 [.ptr 7 0, .d (.v (.slice none 0 0)), I 0], .row 86 11 ([] : List T_route_entry).length (([] : List T_route_entry).flatMap e_route_entry), .row 45 4 ([] : List T_api_Spot).length (([] : List T_api_Spot).flatMap e_api_Spot)] rfl rfl rfl (Nat.le_of_ble_eq_true rfl) ?_
            refine j_nilBox 7 10 86 11 [.bag al, .box 30 [I a.Maps, I a.Lets, I a.Timeout, I a.First, I a.Ports, B a.Outer.Six, U a.Outer.Hi, U a.Outer.Lo], .box 30 [I b.Maps, I b.Lets, I b.Timeout, I b.First, I b.Ports, B b.Outer.Six, U b.Outer.Hi, U b.Outer.Lo], .box 55 [I 0, I 0], .box 45 [B false, U 0, U 16843009, I 3478], .box 64 [I a.Maps, I a.Lets, I a.Timeout, I a.First, I a.Ports, B a.Outer.Six, U a.Outer.Hi, U a.Outer.Lo, I 0, I a.First, .sl 9 ([] : List T_route_entry).length], .box 104 [.ptr 5 0, .sl 10 ([] : List T_api_Spot).length, I 0], .box 64 [I b.Maps, I b.Lets, I b.Timeout, I b.First, I b.Ports, B b.Outer.Six, U b.Outer.Hi, U b.Outer.Lo, I 0, I b.First, .sl 11 ([] : List T_route_entry).length], .box 104 [.ptr 7 0, .d (.v (.slice none 0 0)), I 0], .row 86 11 ([] : List T_route_entry).length (([] : List T_route_entry).flatMap e_route_entry), .row 45 4 ([] : List T_api_Spot).length (([] : List T_api_Spot).flatMap e_api_Spot), .row 86 11 ([] : List T_route_entry).length (([] : List T_route_entry).flatMap e_route_entry)] rfl rfl rfl (Nat.le_of_ble_eq_true rfl) ?_
            refine j_nilBox 8 1 45 4 [.bag al, .box 30 [I a.Maps, I a.Lets, I a.Timeout, I a.First, I a.Ports, B a.Outer.Six, U a.Outer.Hi, U a.Outer.Lo], .box 30 [I b.Maps, I b.Lets, I b.Timeout, I b.First, I b.Ports, B b.Outer.Six, U b.Outer.Hi, U b.Outer.Lo], .box 55 [I 0, I 0], .box 45 [B false, U 0, U 16843009, I 3478], .box 64 [I a.Maps, I a.Lets, I a.Timeout, I a.First, I a.Ports, B a.Outer.Six, U a.Outer.Hi, U a.Outer.Lo, I 0, I a.First, .sl 9 ([] : List T_route_entry).length], .box 104 [.ptr 5 0, .sl 10 ([] : List T_api_Spot).length, I 0], .box 64 [I b.Maps, I b.Lets, I b.Timeout, I b.First, I b.Ports, B b.Outer.Six, U b.Outer.Hi, U b.Outer.Lo, I 0, I b.First, .sl 11 ([] : List T_route_entry).length], .box 104 [.ptr 7 0, .sl 12 ([] : List T_api_Spot).length, I 0], .row 86 11 ([] : List T_route_entry).length (([] : List T_route_entry).flatMap e_route_entry), .row 45 4 ([] : List T_api_Spot).length (([] : List T_api_Spot).flatMap e_api_Spot), .row 86 11 ([] : List T_route_entry).length (([] : List T_route_entry).flatMap e_route_entry), .row 45 4 ([] : List T_api_Spot).length (([] : List T_api_Spot).flatMap e_api_Spot)] rfl rfl rfl (Nat.le_of_ble_eq_true rfl) ?_
            refine go hΓ 1 rfl ?_
            refine j_drawE [.dead, .dead, .dead, .dead, .box 45 [B false, U 0, U 16843009, I 3478], .dead, .box 104 [.ptr 5 0, .sl 10 ([] : List T_api_Spot).length, I 0]] [3, 5] [6, 11] [12010] hmix (by kernel_rfl) (by kernel_rfl) ⟨rfl, rfl, trivial⟩ (Nat.le_of_ble_eq_true rfl) ?_
            obtain ⟨y27, hy27, h28⟩ := bi_ok h26
            refine go_E hΓ 4 rfl ?_
            refine ge_callP (callable Try.func54 rfl rfl) (c_route_inner hy27) rfl rfl rfl rfl rfl rfl ?_
            obtain ⟨y29, hy29, h30⟩ := bi_ok h28
            refine go_E hΓ 1 rfl ?_
            refine ge_h [.bag y29.2.2.2, .box 30 [I a.Maps, I a.Lets, I a.Timeout, I a.First, I a.Ports, B a.Outer.Six, U a.Outer.Hi, U a.Outer.Lo], .box 30 [I b.Maps, I b.Lets, I b.Timeout, I b.First, I b.Ports, B b.Outer.Six, U b.Outer.Hi, U b.Outer.Lo], .box 55 [I 0, I 0], .box 45 [B false, U 0, U 16843009, I 3478], .box 64 [I y29.2.2.1.nat.Maps, I y29.2.2.1.nat.Lets, I y29.2.2.1.nat.Timeout, I y29.2.2.1.nat.First, I y29.2.2.1.nat.Ports, B y29.2.2.1.nat.Outer.Six, U y29.2.2.1.nat.Outer.Hi, U y29.2.2.1.nat.Outer.Lo, I y29.2.2.1.now, I y29.2.2.1.v_next, .sl 13 y29.2.2.1.list.length], .box 104 [.ptr 5 0, .sl 10 ([] : List T_api_Spot).length, I 0], .box 64 [I b.Maps, I b.Lets, I b.Timeout, I b.First, I b.Ports, B b.Outer.Six, U b.Outer.Hi, U b.Outer.Lo, I 0, I b.First, .sl 11 ([] : List T_route_entry).length], .box 104 [.ptr 7 0, .sl 12 ([] : List T_api_Spot).length, I 0], .dead, .row 45 4 ([] : List T_api_Spot).length (([] : List T_api_Spot).flatMap e_api_Spot), .row 86 11 ([] : List T_route_entry).length (([] : List T_route_entry).flatMap e_route_entry), .row 45 4 ([] : List T_api_Spot).length (([] : List T_api_Spot).flatMap e_api_Spot), .row 86 11 y29.2.2.1.list.length (y29.2.2.1.list.flatMap e_route_entry)] rfl rfl rfl (st_st ⟨rfl, rfl, trivial⟩) (qte_callF [9, 5, 0] (.tup [.agg [B y29.1.Addr.Six, U y29.1.Addr.Hi, U y29.1.Addr.Lo, I y29.1.Port], I y29.2.1]) [.bag y29.2.2.2, .box 30 [I a.Maps, I a.Lets, I a.Timeout, I a.First, I a.Ports, B a.Outer.Six, U a.Outer.Hi, U a.Outer.Lo], .box 30 [I b.Maps, I b.Lets, I b.Timeout, I b.First, I b.Ports, B b.Outer.Six, U b.Outer.Hi, U b.Outer.Lo], .box 55 [I 0, I 0], .box 45 [B false, U 0, U 16843009, I 3478], .box 64 [I y29.2.2.1.nat.Maps, I y29.2.2.1.nat.Lets, I y29.2.2.1.nat.Timeout, I y29.2.2.1.nat.First, I y29.2.2.1.nat.Ports, B y29.2.2.1.nat.Outer.Six, U y29.2.2.1.nat.Outer.Hi, U y29.2.2.1.nat.Outer.Lo, I y29.2.2.1.now, I y29.2.2.1.v_next, .sl 13 y29.2.2.1.list.length], .box 104 [.ptr 5 0, .sl 10 ([] : List T_api_Spot).length, I 0], .box 64 [I b.Maps, I b.Lets, I b.Timeout, I b.First, I b.Ports, B b.Outer.Six, U b.Outer.Hi, U b.Outer.Lo, I 0, I b.First, .sl 11 ([] : List T_route_entry).length], .box 104 [.ptr 7 0, .sl 12 ([] : List T_api_Spot).length, I 0], .dead, .row 45 4 ([] : List T_api_Spot).length (([] : List T_api_Spot).flatMap e_api_Spot), .row 86 11 ([] : List T_route_entry).length (([] : List T_route_entry).flatMap e_route_entry), .row 45 4 ([] : List T_api_Spot).length (([] : List T_api_Spot).flatMap e_api_Spot), .row 86 11 y29.2.2.1.list.length (y29.2.2.1.list.flatMap e_route_entry)] (callable Try.func15 rfl rfl) (c_route_Translator_Out hy29) rfl rfl rfl rfl rfl rfl rfl rfl rfl rfl) ?_
            refine go_E hΓ 3 rfl ?_
            refine ge_new hΓ 11 (i := _) rfl rfl rfl rfl ?_
            refine ge_fill hΓ 10 14 [] [B false, U 0, U 0, I 0] [.bag y29.2.2.2, .box 30 [I a.Maps, I a.Lets, I a.Timeout, I a.First, I a.Ports, B a.Outer.Six, U a.Outer.Hi, U a.Outer.Lo], .box 30 [I b.Maps, I b.Lets, I b.Timeout, I b.First, I b.Ports, B b.Outer.Six, U b.Outer.Hi, U b.Outer.Lo], .box 55 [I 0, I 0], .box 45 [B false, U 0, U 16843009, I 3478], .box 64 [I y29.2.2.1.nat.Maps, I y29.2.2.1.nat.Lets, I y29.2.2.1.nat.Timeout, I y29.2.2.1.nat.First, I y29.2.2.1.nat.Ports, B y29.2.2.1.nat.Outer.Six, U y29.2.2.1.nat.Outer.Hi, U y29.2.2.1.nat.Outer.Lo, I y29.2.2.1.now, I y29.2.2.1.v_next, .sl 13 y29.2.2.1.list.length], .box 104 [.ptr 5 0, .sl 10 ([] : List T_api_Spot).length, I 0], .box 64 [I b.Maps, I b.Lets, I b.Timeout, I b.First, I b.Ports, B b.Outer.Six, U b.Outer.Hi, U b.Outer.Lo, I 0, I b.First, .sl 11 ([] : List T_route_entry).length], .box 104 [.ptr 7 0, .sl 12 ([] : List T_api_Spot).length, I 0], .dead, .row 45 4 ([] : List T_api_Spot).length (([] : List T_api_Spot).flatMap e_api_Spot), .row 86 11 ([] : List T_route_entry).length (([] : List T_route_entry).flatMap e_route_entry), .row 45 4 ([] : List T_api_Spot).length (([] : List T_api_Spot).flatMap e_api_Spot), .row 86 11 y29.2.2.1.list.length (y29.2.2.1.list.flatMap e_route_entry), .box 45 [B y29.1.Addr.Six, U y29.1.Addr.Hi, U y29.1.Addr.Lo, I y29.1.Port]] rfl rfl rfl (show Γ 45 = some ⟨_, _, _, _⟩ from rfl) rfl ⟨.refl _, .refl _, .refl _, .refl _, trivial⟩ rfl rfl rfl rfl (st_st ⟨rfl, rfl, trivial⟩) (qte_u (opu_store2 hΓ rfl rfl rfl rfl rfl rfl rfl rfl rfl)) ?_
            refine go_E hΓ 1 rfl ?_
            refine ge_fin ?_
            refine go hΓ 1 rfl ?_
            refine j_move 13 9 [.bag y29.2.2.2, .box 30 [I a.Maps, I a.Lets, I a.Timeout, I a.First, I a.Ports, B a.Outer.Six, U a.Outer.Hi, U a.Outer.Lo], .box 30 [I b.Maps, I b.Lets, I b.Timeout, I b.First, I b.Ports, B b.Outer.Six, U b.Outer.Hi, U b.Outer.Lo], .box 55 [I 0, I 0], .box 45 [B false, U 0, U 16843009, I 3478], .box 64 [I y29.2.2.1.nat.Maps, I y29.2.2.1.nat.Lets, I y29.2.2.1.nat.Timeout, I y29.2.2.1.nat.First, I y29.2.2.1.nat.Ports, B y29.2.2.1.nat.Outer.Six, U y29.2.2.1.nat.Outer.Hi, U y29.2.2.1.nat.Outer.Lo, I y29.2.2.1.now, I y29.2.2.1.v_next, .sl 9 y29.2.2.1.list.length], .box 104 [.ptr 5 0, .sl 10 ([] : List T_api_Spot).length, I 0], .box 64 [I b.Maps, I b.Lets, I b.Timeout, I b.First, I b.Ports, B b.Outer.Six, U b.Outer.Hi, U b.Outer.Lo, I 0, I b.First, .sl 11 ([] : List T_route_entry).length], .box 104 [.ptr 7 0, .sl 12 ([] : List T_api_Spot).length, I 0], .row 86 11 y29.2.2.1.list.length (y29.2.2.1.list.flatMap e_route_entry), .row 45 4 ([] : List T_api_Spot).length (([] : List T_api_Spot).flatMap e_api_Spot), .row 86 11 ([] : List T_route_entry).length (([] : List T_route_entry).flatMap e_route_entry), .row 45 4 ([] : List T_api_Spot).length (([] : List T_api_Spot).flatMap e_api_Spot), .dead, .box 45 [B y29.1.Addr.Six, U y29.1.Addr.Hi, U y29.1.Addr.Lo, I y29.1.Port]] rfl rfl rfl rfl rfl rfl ?_
            refine go hΓ 1 rfl ?_
            refine j_drawE [.dead, .dead, .dead, .dead, .box 45 [B false, U 0, U 16843009, I 3478], .dead, .dead, .dead, .box 104 [.ptr 7 0, .sl 12 ([] : List T_api_Spot).length, I 0]] [3, 5] [6, 11] [12010] hmix (by kernel_rfl) (by kernel_rfl) ⟨rfl, rfl, trivial⟩ (Nat.le_of_ble_eq_true rfl) ?_
            obtain ⟨y31, hy31, h32⟩ := bi_ok h30
            refine go_E hΓ 4 rfl ?_
            refine ge_callP (callable Try.func54 rfl rfl) (c_route_inner hy31) rfl rfl rfl rfl rfl rfl ?_
            obtain ⟨y33, hy33, h34⟩ := bi_ok h32
            refine go_E hΓ 1 rfl ?_
            refine ge_h [.bag y33.2.2.2, .box 30 [I a.Maps, I a.Lets, I a.Timeout, I a.First, I a.Ports, B a.Outer.Six, U a.Outer.Hi, U a.Outer.Lo], .box 30 [I b.Maps, I b.Lets, I b.Timeout, I b.First, I b.Ports, B b.Outer.Six, U b.Outer.Hi, U b.Outer.Lo], .box 55 [I 0, I 0], .box 45 [B false, U 0, U 16843009, I 3478], .box 64 [I y29.2.2.1.nat.Maps, I y29.2.2.1.nat.Lets, I y29.2.2.1.nat.Timeout, I y29.2.2.1.nat.First, I y29.2.2.1.nat.Ports, B y29.2.2.1.nat.Outer.Six, U y29.2.2.1.nat.Outer.Hi, U y29.2.2.1.nat.Outer.Lo, I y29.2.2.1.now, I y29.2.2.1.v_next, .sl 9 y29.2.2.1.list.length], .box 104 [.ptr 5 0, .sl 10 ([] : List T_api_Spot).length, I 0], .box 64 [I y33.2.2.1.nat.Maps, I y33.2.2.1.nat.Lets, I y33.2.2.1.nat.Timeout, I y33.2.2.1.nat.First, I y33.2.2.1.nat.Ports, B y33.2.2.1.nat.Outer.Six, U y33.2.2.1.nat.Outer.Hi, U y33.2.2.1.nat.Outer.Lo, I y33.2.2.1.now, I y33.2.2.1.v_next, .sl 15 y33.2.2.1.list.length], .box 104 [.ptr 7 0, .sl 12 ([] : List T_api_Spot).length, I 0], .row 86 11 y29.2.2.1.list.length (y29.2.2.1.list.flatMap e_route_entry), .row 45 4 ([] : List T_api_Spot).length (([] : List T_api_Spot).flatMap e_api_Spot), .dead, .row 45 4 ([] : List T_api_Spot).length (([] : List T_api_Spot).flatMap e_api_Spot), .dead, .box 45 [B y29.1.Addr.Six, U y29.1.Addr.Hi, U y29.1.Addr.Lo, I y29.1.Port], .row 86 11 y33.2.2.1.list.length (y33.2.2.1.list.flatMap e_route_entry)] rfl rfl rfl (st_st ⟨rfl, rfl, trivial⟩) (qte_callF [11, 7, 0] (.tup [.agg [B y33.1.Addr.Six, U y33.1.Addr.Hi, U y33.1.Addr.Lo, I y33.1.Port], I y33.2.1]) [.bag y33.2.2.2, .box 30 [I a.Maps, I a.Lets, I a.Timeout, I a.First, I a.Ports, B a.Outer.Six, U a.Outer.Hi, U a.Outer.Lo], .box 30 [I b.Maps, I b.Lets, I b.Timeout, I b.First, I b.Ports, B b.Outer.Six, U b.Outer.Hi, U b.Outer.Lo], .box 55 [I 0, I 0], .box 45 [B false, U 0, U 16843009, I 3478], .box 64 [I y29.2.2.1.nat.Maps, I y29.2.2.1.nat.Lets, I y29.2.2.1.nat.Timeout, I y29.2.2.1.nat.First, I y29.2.2.1.nat.Ports, B y29.2.2.1.nat.Outer.Six, U y29.2.2.1.nat.Outer.Hi, U y29.2.2.1.nat.Outer.Lo, I y29.2.2.1.now, I y29.2.2.1.v_next, .sl 9 y29.2.2.1.list.length], .box 104 [.ptr 5 0, .sl 10 ([] : List T_api_Spot).length, I 0], .box 64 [I y33.2.2.1.nat.Maps, I y33.2.2.1.nat.Lets, I y33.2.2.1.nat.Timeout, I y33.2.2.1.nat.First, I y33.2.2.1.nat.Ports, B y33.2.2.1.nat.Outer.Six, U y33.2.2.1.nat.Outer.Hi, U y33.2.2.1.nat.Outer.Lo, I y33.2.2.1.now, I y33.2.2.1.v_next, .sl 15 y33.2.2.1.list.length], .box 104 [.ptr 7 0, .sl 12 ([] : List T_api_Spot).length, I 0], .row 86 11 y29.2.2.1.list.length (y29.2.2.1.list.flatMap e_route_entry), .row 45 4 ([] : List T_api_Spot).length (([] : List T_api_Spot).flatMap e_api_Spot), .dead, .row 45 4 ([] : List T_api_Spot).length (([] : List T_api_Spot).flatMap e_api_Spot), .dead, .box 45 [B y29.1.Addr.Six, U y29.1.Addr.Hi, U y29.1.Addr.Lo, I y29.1.Port], .row 86 11 y33.2.2.1.list.length (y33.2.2.1.list.flatMap e_route_entry)] (callable Try.func15 rfl rfl) (c_route_Translator_Out hy33) rfl rfl rfl rfl rfl rfl rfl rfl rfl rfl) ?_
            refine go_E hΓ 3 rfl ?_
            refine ge_new hΓ 11 (i := _) rfl rfl rfl rfl ?_
            refine ge_fill hΓ 10 16 [] [B false, U 0, U 0, I 0] [.bag y33.2.2.2, .box 30 [I a.Maps, I a.Lets, I a.Timeout, I a.First, I a.Ports, B a.Outer.Six, U a.Outer.Hi, U a.Outer.Lo], .box 30 [I b.Maps, I b.Lets, I b.Timeout, I b.First, I b.Ports, B b.Outer.Six, U b.Outer.Hi, U b.Outer.Lo], .box 55 [I 0, I 0], .box 45 [B false, U 0, U 16843009, I 3478], .box 64 [I y29.2.2.1.nat.Maps, I y29.2.2.1.nat.Lets, I y29.2.2.1.nat.Timeout, I y29.2.2.1.nat.First, I y29.2.2.1.nat.Ports, B y29.2.2.1.nat.Outer.Six, U y29.2.2.1.nat.Outer.Hi, U y29.2.2.1.nat.Outer.Lo, I y29.2.2.1.now, I y29.2.2.1.v_next, .sl 9 y29.2.2.1.list.length], .box 104 [.ptr 5 0, .sl 10 ([] : List T_api_Spot).length, I 0], .box 64 [I y33.2.2.1.nat.Maps, I y33.2.2.1.nat.Lets, I y33.2.2.1.nat.Timeout, I y33.2.2.1.nat.First, I y33.2.2.1.nat.Ports, B y33.2.2.1.nat.Outer.Six, U y33.2.2.1.nat.Outer.Hi, U y33.2.2.1.nat.Outer.Lo, I y33.2.2.1.now, I y33.2.2.1.v_next, .sl 15 y33.2.2.1.list.length], .box 104 [.ptr 7 0, .sl 12 ([] : List T_api_Spot).length, I 0], .row 86 11 y29.2.2.1.list.length (y29.2.2.1.list.flatMap e_route_entry), .row 45 4 ([] : List T_api_Spot).length (([] : List T_api_Spot).flatMap e_api_Spot), .dead, .row 45 4 ([] : List T_api_Spot).length (([] : List T_api_Spot).flatMap e_api_Spot), .dead, .box 45 [B y29.1.Addr.Six, U y29.1.Addr.Hi, U y29.1.Addr.Lo, I y29.1.Port], .row 86 11 y33.2.2.1.list.length (y33.2.2.1.list.flatMap e_route_entry), .box 45 [B y33.1.Addr.Six, U y33.1.Addr.Hi, U y33.1.Addr.Lo, I y33.1.Port]] rfl rfl rfl (show Γ 45 = some ⟨_, _, _, _⟩ from rfl) rfl ⟨.refl _, .refl _, .refl _, .refl _, trivial⟩ rfl rfl rfl rfl (st_st ⟨rfl, rfl, trivial⟩) (qte_u (opu_store2 hΓ rfl rfl rfl rfl rfl rfl rfl rfl rfl)) ?_
            refine go_E hΓ 1 rfl ?_
            refine ge_fin ?_
            refine go hΓ 1 rfl ?_
            refine j_move 15 11 [.bag y33.2.2.2, .box 30 [I a.Maps, I a.Lets, I a.Timeout, I a.First, I a.Ports, B a.Outer.Six, U a.Outer.Hi, U a.Outer.Lo], .box 30 [I b.Maps, I b.Lets, I b.Timeout, I b.First, I b.Ports, B b.Outer.Six, U b.Outer.Hi, U b.Outer.Lo], .box 55 [I 0, I 0], .box 45 [B false, U 0, U 16843009, I 3478], .box 64 [I y29.2.2.1.nat.Maps, I y29.2.2.1.nat.Lets, I y29.2.2.1.nat.Timeout, I y29.2.2.1.nat.First, I y29.2.2.1.nat.Ports, B y29.2.2.1.nat.Outer.Six, U y29.2.2.1.nat.Outer.Hi, U y29.2.2.1.nat.Outer.Lo, I y29.2.2.1.now, I y29.2.2.1.v_next, .sl 9 y29.2.2.1.list.length], .box 104 [.ptr 5 0, .sl 10 ([] : List T_api_Spot).length, I 0], .box 64 [I y33.2.2.1.nat.Maps, I y33.2.2.1.nat.Lets, I y33.2.2.1.nat.Timeout, I y33.2.2.1.nat.First, I y33.2.2.1.nat.Ports, B y33.2.2.1.nat.Outer.Six, U y33.2.2.1.nat.Outer.Hi, U y33.2.2.1.nat.Outer.Lo, I y33.2.2.1.now, I y33.2.2.1.v_next, .sl 11 y33.2.2.1.list.length], .box 104 [.ptr 7 0, .sl 12 ([] : List T_api_Spot).length, I 0], .row 86 11 y29.2.2.1.list.length (y29.2.2.1.list.flatMap e_route_entry), .row 45 4 ([] : List T_api_Spot).length (([] : List T_api_Spot).flatMap e_api_Spot), .row 86 11 y33.2.2.1.list.length (y33.2.2.1.list.flatMap e_route_entry), .row 45 4 ([] : List T_api_Spot).length (([] : List T_api_Spot).flatMap e_api_Spot), .dead, .box 45 [B y29.1.Addr.Six, U y29.1.Addr.Hi, U y29.1.Addr.Lo, I y29.1.Port], .dead, .box 45 [B y33.1.Addr.Six, U y33.1.Addr.Hi, U y33.1.Addr.Lo, I y33.1.Port]] rfl rfl rfl rfl rfl rfl ?_
            refine go hΓ 1 rfl ?_
            refine j_drawR hΓ [.dead, .dead, .dead, .dead, .dead, .dead, .dead, .dead, .dead, .dead, .dead, .dead, .dead, .dead, .box 45 [B y29.1.Addr.Six, U y29.1.Addr.Hi, U y29.1.Addr.Lo, I y29.1.Port], .dead, .box 45 [B y33.1.Addr.Six, U y33.1.Addr.Hi, U y33.1.Addr.Lo, I y33.1.Port]] [2, 4] [3, 5, 8, 11] [] [([0, 1, 2, 3, 4, 5, 6, 7, 8, 9, 10, 11, 12, 13, 14, 15, 16, 17, 18], [0, 1, 2, 3, 4, 5, 6, 7, 8, 9, 10, 11, 12, 13, 14, 15, 16, 17, 18]), ([0, 1, 2, 3, 4, 5, 6, 7, 8, 9, 10, 11, 12, 13, 14, 15, 16, 17, 18], [0, 1, 2, 3, 4, 5, 6, 7, 8, 9, 10, 11, 12, 13, 14, 15, 16, 17, 18]), ([0, 1, 2, 3, 4, 5, 6, 7, 8, 9, 10, 11, 12, 13, 14, 15, 16, 18, 17], [0, 1, 2, 3, 4, 5, 6, 7, 8, 9, 10, 11, 12, 13, 14, 15, 16, 18, 17])] [(2, I rounds), (6, .ptr 3 0), (12, .ptr 6 0), (13, .ptr 8 0)] [.bag y33.2.2.2, .box 30 [I a.Maps, I a.Lets, I a.Timeout, I a.First, I a.Ports, B a.Outer.Six, U a.Outer.Hi, U a.Outer.Lo], .box 30 [I b.Maps, I b.Lets, I b.Timeout, I b.First, I b.Ports, B b.Outer.Six, U b.Outer.Hi, U b.Outer.Lo], .box 55 [I 0, I 0], .box 45 [B false, U 0, U 16843009, I 3478], .box 64 [I y29.2.2.1.nat.Maps, I y29.2.2.1.nat.Lets, I y29.2.2.1.nat.Timeout, I y29.2.2.1.nat.First, I y29.2.2.1.nat.Ports, B y29.2.2.1.nat.Outer.Six, U y29.2.2.1.nat.Outer.Hi, U y29.2.2.1.nat.Outer.Lo, I y29.2.2.1.now, I y29.2.2.1.v_next, .sl 9 y29.2.2.1.list.length], .box 104 [.ptr 5 0, .sl 17 [y33.1].length, I 0], .box 64 [I y33.2.2.1.nat.Maps, I y33.2.2.1.nat.Lets, I y33.2.2.1.nat.Timeout, I y33.2.2.1.nat.First, I y33.2.2.1.nat.Ports, B y33.2.2.1.nat.Outer.Six, U y33.2.2.1.nat.Outer.Hi, U y33.2.2.1.nat.Outer.Lo, I y33.2.2.1.now, I y33.2.2.1.v_next, .sl 11 y33.2.2.1.list.length], .box 104 [.ptr 7 0, .sl 18 [y29.1].length, I 0], .row 86 11 y29.2.2.1.list.length (y29.2.2.1.list.flatMap e_route_entry), .row 45 4 ([] : List T_api_Spot).length (([] : List T_api_Spot).flatMap e_api_Spot), .row 86 11 y33.2.2.1.list.length (y33.2.2.1.list.flatMap e_route_entry), .row 45 4 ([] : List T_api_Spot).length (([] : List T_api_Spot).flatMap e_api_Spot), .dead, .box 45 [B y29.1.Addr.Six, U y29.1.Addr.Hi, U y29.1.Addr.Lo, I y29.1.Port], .dead, .box 45 [B y33.1.Addr.Six, U y33.1.Addr.Hi, U y33.1.Addr.Lo, I y33.1.Port], .row 45 4 [y33.1].length ([y33.1].flatMap e_api_Spot), .row 45 4 [y29.1].length ([y29.1].flatMap e_api_Spot)] hmix (by kernel_rfl) ⟨rfl, rfl, trivial⟩ (Nat.le_of_ble_eq_true rfl) ?_
            refine go hΓ 7 rfl ?_
            obtain ⟨q38, hq38, h39⟩ := bi_ok h34
            refine j_cutNZ [(6, .ptr 3 0), (12, .ptr 6 0), (13, .ptr 8 0)] [.bag q38.1, .box 30 [I a.Maps, I a.Lets, I a.Timeout, I a.First, I a.Ports, B a.Outer.Six, U a.Outer.Hi, U a.Outer.Lo], .box 30 [I b.Maps, I b.Lets, I b.Timeout, I b.First, I b.Ports, B b.Outer.Six, U b.Outer.Hi, U b.Outer.Lo], .box 55 [I 0, I 0], .box 45 [B false, U 0, U 16843009, I 3478], .box 64 [I q38.2.1, I q38.2.2.1, I q38.2.2.2.1, I q38.2.2.2.2.1, I q38.2.2.2.2.2.1, B q38.2.2.2.2.2.2.1, U q38.2.2.2.2.2.2.2.1, U q38.2.2.2.2.2.2.2.2.1, I q38.2.2.2.2.2.2.2.2.2.1, I q38.2.2.2.2.2.2.2.2.2.2.1, .sl 9 q38.2.2.2.2.2.2.2.2.2.2.2.2.2.2.2.2.2.2.2.2.2.2.2.1.length], .box 104 [.ptr 5 0, .sl 17 q38.2.2.2.2.2.2.2.2.2.2.2.2.2.2.2.2.2.2.2.2.2.2.2.2.2.1.length, I q38.2.2.2.2.2.2.2.2.2.2.2.1], .box 64 [I q38.2.2.2.2.2.2.2.2.2.2.2.2.1, I q38.2.2.2.2.2.2.2.2.2.2.2.2.2.1, I q38.2.2.2.2.2.2.2.2.2.2.2.2.2.2.1, I q38.2.2.2.2.2.2.2.2.2.2.2.2.2.2.2.1, I q38.2.2.2.2.2.2.2.2.2.2.2.2.2.2.2.2.1, B q38.2.2.2.2.2.2.2.2.2.2.2.2.2.2.2.2.2.1, U q38.2.2.2.2.2.2.2.2.2.2.2.2.2.2.2.2.2.2.1, U q38.2.2.2.2.2.2.2.2.2.2.2.2.2.2.2.2.2.2.2.1, I q38.2.2.2.2.2.2.2.2.2.2.2.2.2.2.2.2.2.2.2.2.1, I q38.2.2.2.2.2.2.2.2.2.2.2.2.2.2.2.2.2.2.2.2.2.1, .sl 11 q38.2.2.2.2.2.2.2.2.2.2.2.2.2.2.2.2.2.2.2.2.2.2.2.2.1.length], .box 104 [.ptr 7 0, .sl 18 q38.2.2.2.2.2.2.2.2.2.2.2.2.2.2.2.2.2.2.2.2.2.2.2.2.2.2.length, I q38.2.2.2.2.2.2.2.2.2.2.2.2.2.2.2.2.2.2.2.2.2.2.1], .row 86 11 q38.2.2.2.2.2.2.2.2.2.2.2.2.2.2.2.2.2.2.2.2.2.2.2.1.length (q38.2.2.2.2.2.2.2.2.2.2.2.2.2.2.2.2.2.2.2.2.2.2.2.1.flatMap e_route_entry), .row 45 4 ([] : List T_api_Spot).length (([] : List T_api_Spot).flatMap e_api_Spot), .row 86 11 q38.2.2.2.2.2.2.2.2.2.2.2.2.2.2.2.2.2.2.2.2.2.2.2.2.1.length (q38.2.2.2.2.2.2.2.2.2.2.2.2.2.2.2.2.2.2.2.2.2.2.2.2.1.flatMap e_route_entry), .row 45 4 ([] : List T_api_Spot).length (([] : List T_api_Spot).flatMap e_api_Spot), .dead, .box 45 [B y29.1.Addr.Six, U y29.1.Addr.Hi, U y29.1.Addr.Lo, I y29.1.Port], .dead, .box 45 [B y33.1.Addr.Six, U y33.1.Addr.Hi, U y33.1.Addr.Lo, I y33.1.Port], .row 45 4 q38.2.2.2.2.2.2.2.2.2.2.2.2.2.2.2.2.2.2.2.2.2.2.2.2.2.1.length (q38.2.2.2.2.2.2.2.2.2.2.2.2.2.2.2.2.2.2.2.2.2.2.2.2.2.1.flatMap e_api_Spot), .row 45 4 q38.2.2.2.2.2.2.2.2.2.2.2.2.2.2.2.2.2.2.2.2.2.2.2.2.2.2.length (q38.2.2.2.2.2.2.2.2.2.2.2.2.2.2.2.2.2.2.2.2.2.2.2.2.2.2.flatMap e_api_Spot)] ?_ ?_
            · refine go hΓ 1 rfl ?_
              refine j_loop hq38 (fun s36 => [(2, I rounds), (6, .ptr 3 0), (12, .ptr 6 0), (13, .ptr 8 0), (18, I s36.2.2.2.2.2.2.2.2.2.2.2.2.2.2.2.2.2.2.2.2.2.2.2.2.2.2.2)]) (fun s36 => [.bag s36.1, .box 30 [I a.Maps, I a.Lets, I a.Timeout, I a.First, I a.Ports, B a.Outer.Six, U a.Outer.Hi, U a.Outer.Lo], .box 30 [I b.Maps, I b.Lets, I b.Timeout, I b.First, I b.Ports, B b.Outer.Six, U b.Outer.Hi, U b.Outer.Lo], .box 55 [I 0, I 0], .box 45 [B false, U 0, U 16843009, I 3478], .box 64 [I s36.2.1, I s36.2.2.1, I s36.2.2.2.1, I s36.2.2.2.2.1, I s36.2.2.2.2.2.1, B s36.2.2.2.2.2.2.1, U s36.2.2.2.2.2.2.2.1, U s36.2.2.2.2.2.2.2.2.1, I s36.2.2.2.2.2.2.2.2.2.1, I s36.2.2.2.2.2.2.2.2.2.2.1, .sl 9 s36.2.2.2.2.2.2.2.2.2.2.2.2.2.2.2.2.2.2.2.2.2.2.2.1.length], .box 104 [.ptr 5 0, .sl 17 s36.2.2.2.2.2.2.2.2.2.2.2.2.2.2.2.2.2.2.2.2.2.2.2.2.2.1.length, I s36.2.2.2.2.2.2.2.2.2.2.2.1], .box 64 [I s36.2.2.2.2.2.2.2.2.2.2.2.2.1, I s36.2.2.2.2.2.2.2.2.2.2.2.2.2.1, I s36.2.2.2.2.2.2.2.2.2.2.2.2.2.2.1, I s36.2.2.2.2.2.2.2.2.2.2.2.2.2.2.2.1, I s36.2.2.2.2.2.2.2.2.2.2.2.2.2.2.2.2.1, B s36.2.2.2.2.2.2.2.2.2.2.2.2.2.2.2.2.2.1, U s36.2.2.2.2.2.2.2.2.2.2.2.2.2.2.2.2.2.2.1, U s36.2.2.2.2.2.2.2.2.2.2.2.2.2.2.2.2.2.2.2.1, I s36.2.2.2.2.2.2.2.2.2.2.2.2.2.2.2.2.2.2.2.2.1, I s36.2.2.2.2.2.2.2.2.2.2.2.2.2.2.2.2.2.2.2.2.2.1, .sl 11 s36.2.2.2.2.2.2.2.2.2.2.2.2.2.2.2.2.2.2.2.2.2.2.2.2.1.length], .box 104 [.ptr 7 0, .sl 18 s36.2.2.2.2.2.2.2.2.2.2.2.2.2.2.2.2.2.2.2.2.2.2.2.2.2.2.1.length, I s36.2.2.2.2.2.2.2.2.2.2.2.2.2.2.2.2.2.2.2.2.2.2.1], .row 86 11 s36.2.2.2.2.2.2.2.2.2.2.2.2.2.2.2.2.2.2.2.2.2.2.2.1.length (s36.2.2.2.2.2.2.2.2.2.2.2.2.2.2.2.2.2.2.2.2.2.2.2.1.flatMap e_route_entry), .row 45 4 ([] : List T_api_Spot).length (([] : List T_api_Spot).flatMap e_api_Spot), .row 86 11 s36.2.2.2.2.2.2.2.2.2.2.2.2.2.2.2.2.2.2.2.2.2.2.2.2.1.length (s36.2.2.2.2.2.2.2.2.2.2.2.2.2.2.2.2.2.2.2.2.2.2.2.2.1.flatMap e_route_entry), .row 45 4 ([] : List T_api_Spot).length (([] : List T_api_Spot).flatMap e_api_Spot), .dead, .box 45 [B y29.1.Addr.Six, U y29.1.Addr.Hi, U y29.1.Addr.Lo, I y29.1.Port], .dead, .box 45 [B y33.1.Addr.Six, U y33.1.Addr.Hi, U y33.1.Addr.Lo, I y33.1.Port], .row 45 4 s36.2.2.2.2.2.2.2.2.2.2.2.2.2.2.2.2.2.2.2.2.2.2.2.2.2.1.length (s36.2.2.2.2.2.2.2.2.2.2.2.2.2.2.2.2.2.2.2.2.2.2.2.2.2.1.flatMap e_api_Spot), .row 45 4 s36.2.2.2.2.2.2.2.2.2.2.2.2.2.2.2.2.2.2.2.2.2.2.2.2.2.2.1.length (s36.2.2.2.2.2.2.2.2.2.2.2.2.2.2.2.2.2.2.2.2.2.2.2.2.2.2.1.flatMap e_api_Spot)]) ⟨⟨rfl, rfl, rfl, rfl, rfl, trivial⟩, [], rfl, .inl rfl⟩ (fun s36 y44 hy42 hout43 => ?_)
              refine go hΓ 8 rfl ?_
              refine j_cond rfl (fun hb => ?_) (fun hb => ?_)
              · have h45 := cT hy42 hb
                obtain ⟨y46, hy46, h47⟩ := bi_ok h45
                refine go hΓ 9 rfl ?_
                refine eo_callF [9, 5, 17, 6, 11, 7, 18, 8, 0] (.tup []) [.bag y46.2.2, .box 30 [I a.Maps, I a.Lets, I a.Timeout, I a.First, I a.Ports, B a.Outer.Six, U a.Outer.Hi, U a.Outer.Lo], .box 30 [I b.Maps, I b.Lets, I b.Timeout, I b.First, I b.Ports, B b.Outer.Six, U b.Outer.Hi, U b.Outer.Lo], .box 55 [I 0, I 0], .box 45 [B false, U 0, U 16843009, I 3478], .box 64 [I y46.1.t.nat.Maps, I y46.1.t.nat.Lets, I y46.1.t.nat.Timeout, I y46.1.t.nat.First, I y46.1.t.nat.Ports, B y46.1.t.nat.Outer.Six, U y46.1.t.nat.Outer.Hi, U y46.1.t.nat.Outer.Lo, I y46.1.t.now, I y46.1.t.v_next, .sl 19 y46.1.t.list.length], .box 104 [.ptr 5 0, .sl 20 y46.1.knows.length, I y46.1.heard], .box 64 [I y46.2.1.t.nat.Maps, I y46.2.1.t.nat.Lets, I y46.2.1.t.nat.Timeout, I y46.2.1.t.nat.First, I y46.2.1.t.nat.Ports, B y46.2.1.t.nat.Outer.Six, U y46.2.1.t.nat.Outer.Hi, U y46.2.1.t.nat.Outer.Lo, I y46.2.1.t.now, I y46.2.1.t.v_next, .sl 21 y46.2.1.t.list.length], .box 104 [.ptr 7 0, .sl 22 y46.2.1.knows.length, I y46.2.1.heard], .dead, .row 45 4 ([] : List T_api_Spot).length (([] : List T_api_Spot).flatMap e_api_Spot), .dead, .row 45 4 ([] : List T_api_Spot).length (([] : List T_api_Spot).flatMap e_api_Spot), .dead, .box 45 [B y29.1.Addr.Six, U y29.1.Addr.Hi, U y29.1.Addr.Lo, I y29.1.Port], .dead, .box 45 [B y33.1.Addr.Six, U y33.1.Addr.Hi, U y33.1.Addr.Lo, I y33.1.Port], .dead, .dead, .row 86 11 y46.1.t.list.length (y46.1.t.list.flatMap e_route_entry), .row 45 4 y46.1.knows.length (y46.1.knows.flatMap e_api_Spot), .row 86 11 y46.2.1.t.list.length (y46.2.1.t.list.flatMap e_route_entry), .row 45 4 y46.2.1.knows.length (y46.2.1.knows.flatMap e_api_Spot)] (callable Try.func55 rfl rfl) (c_route_peer_turn hy46) rfl (Nat.le_of_ble_eq_true rfl) rfl rfl rfl rfl rfl rfl rfl rfl rfl rfl ?_
                refine eo_move 19 9 [.bag y46.2.2, .box 30 [I a.Maps, I a.Lets, I a.Timeout, I a.First, I a.Ports, B a.Outer.Six, U a.Outer.Hi, U a.Outer.Lo], .box 30 [I b.Maps, I b.Lets, I b.Timeout, I b.First, I b.Ports, B b.Outer.Six, U b.Outer.Hi, U b.Outer.Lo], .box 55 [I 0, I 0], .box 45 [B false, U 0, U 16843009, I 3478], .box 64 [I y46.1.t.nat.Maps, I y46.1.t.nat.Lets, I y46.1.t.nat.Timeout, I y46.1.t.nat.First, I y46.1.t.nat.Ports, B y46.1.t.nat.Outer.Six, U y46.1.t.nat.Outer.Hi, U y46.1.t.nat.Outer.Lo, I y46.1.t.now, I y46.1.t.v_next, .sl 9 y46.1.t.list.length], .box 104 [.ptr 5 0, .sl 20 y46.1.knows.length, I y46.1.heard], .box 64 [I y46.2.1.t.nat.Maps, I y46.2.1.t.nat.Lets, I y46.2.1.t.nat.Timeout, I y46.2.1.t.nat.First, I y46.2.1.t.nat.Ports, B y46.2.1.t.nat.Outer.Six, U y46.2.1.t.nat.Outer.Hi, U y46.2.1.t.nat.Outer.Lo, I y46.2.1.t.now, I y46.2.1.t.v_next, .sl 21 y46.2.1.t.list.length], .box 104 [.ptr 7 0, .sl 22 y46.2.1.knows.length, I y46.2.1.heard], .row 86 11 y46.1.t.list.length (y46.1.t.list.flatMap e_route_entry), .row 45 4 ([] : List T_api_Spot).length (([] : List T_api_Spot).flatMap e_api_Spot), .dead, .row 45 4 ([] : List T_api_Spot).length (([] : List T_api_Spot).flatMap e_api_Spot), .dead, .box 45 [B y29.1.Addr.Six, U y29.1.Addr.Hi, U y29.1.Addr.Lo, I y29.1.Port], .dead, .box 45 [B y33.1.Addr.Six, U y33.1.Addr.Hi, U y33.1.Addr.Lo, I y33.1.Port], .dead, .dead, .dead, .row 45 4 y46.1.knows.length (y46.1.knows.flatMap e_api_Spot), .row 86 11 y46.2.1.t.list.length (y46.2.1.t.list.flatMap e_route_entry), .row 45 4 y46.2.1.knows.length (y46.2.1.knows.flatMap e_api_Spot)] rfl rfl rfl rfl rfl rfl ?_
                refine eo_move 20 17 [.bag y46.2.2, .box 30 [I a.Maps, I a.Lets, I a.Timeout, I a.First, I a.Ports, B a.Outer.Six, U a.Outer.Hi, U a.Outer.Lo], .box 30 [I b.Maps, I b.Lets, I b.Timeout, I b.First, I b.Ports, B b.Outer.Six, U b.Outer.Hi, U b.Outer.Lo], .box 55 [I 0, I 0], .box 45 [B false, U 0, U 16843009, I 3478], .box 64 [I y46.1.t.nat.Maps, I y46.1.t.nat.Lets, I y46.1.t.nat.Timeout, I y46.1.t.nat.First, I y46.1.t.nat.Ports, B y46.1.t.nat.Outer.Six, U y46.1.t.nat.Outer.Hi, U y46.1.t.nat.Outer.Lo, I y46.1.t.now, I y46.1.t.v_next, .sl 9 y46.1.t.list.length], .box 104 [.ptr 5 0, .sl 17 y46.1.knows.length, I y46.1.heard], .box 64 [I y46.2.1.t.nat.Maps, I y46.2.1.t.nat.Lets, I y46.2.1.t.nat.Timeout, I y46.2.1.t.nat.First, I y46.2.1.t.nat.Ports, B y46.2.1.t.nat.Outer.Six, U y46.2.1.t.nat.Outer.Hi, U y46.2.1.t.nat.Outer.Lo, I y46.2.1.t.now, I y46.2.1.t.v_next, .sl 21 y46.2.1.t.list.length], .box 104 [.ptr 7 0, .sl 22 y46.2.1.knows.length, I y46.2.1.heard], .row 86 11 y46.1.t.list.length (y46.1.t.list.flatMap e_route_entry), .row 45 4 ([] : List T_api_Spot).length (([] : List T_api_Spot).flatMap e_api_Spot), .dead, .row 45 4 ([] : List T_api_Spot).length (([] : List T_api_Spot).flatMap e_api_Spot), .dead, .box 45 [B y29.1.Addr.Six, U y29.1.Addr.Hi, U y29.1.Addr.Lo, I y29.1.Port], .dead, .box 45 [B y33.1.Addr.Six, U y33.1.Addr.Hi, U y33.1.Addr.Lo, I y33.1.Port], .row 45 4 y46.1.knows.length (y46.1.knows.flatMap e_api_Spot), .dead, .dead, .dead, .row 86 11 y46.2.1.t.list.length (y46.2.1.t.list.flatMap e_route_entry), .row 45 4 y46.2.1.knows.length (y46.2.1.knows.flatMap e_api_Spot)] rfl rfl rfl rfl rfl rfl ?_
                refine eo_move 21 11 [.bag y46.2.2, .box 30 [I a.Maps, I a.Lets, I a.Timeout, I a.First, I a.Ports, B a.Outer.Six, U a.Outer.Hi, U a.Outer.Lo], .box 30 [I b.Maps, I b.Lets, I b.Timeout, I b.First, I b.Ports, B b.Outer.Six, U b.Outer.Hi, U b.Outer.Lo], .box 55 [I 0, I 0], .box 45 [B false, U 0, U 16843009, I 3478], .box 64 [I y46.1.t.nat.Maps, I y46.1.t.nat.Lets, I y46.1.t.nat.Timeout, I y46.1.t.nat.First, I y46.1.t.nat.Ports, B y46.1.t.nat.Outer.Six, U y46.1.t.nat.Outer.Hi, U y46.1.t.nat.Outer.Lo, I y46.1.t.now, I y46.1.t.v_next, .sl 9 y46.1.t.list.length], .box 104 [.ptr 5 0, .sl 17 y46.1.knows.length, I y46.1.heard], .box 64 [I y46.2.1.t.nat.Maps, I y46.2.1.t.nat.Lets, I y46.2.1.t.nat.Timeout, I y46.2.1.t.nat.First, I y46.2.1.t.nat.Ports, B y46.2.1.t.nat.Outer.Six, U y46.2.1.t.nat.Outer.Hi, U y46.2.1.t.nat.Outer.Lo, I y46.2.1.t.now, I y46.2.1.t.v_next, .sl 11 y46.2.1.t.list.length], .box 104 [.ptr 7 0, .sl 22 y46.2.1.knows.length, I y46.2.1.heard], .row 86 11 y46.1.t.list.length (y46.1.t.list.flatMap e_route_entry), .row 45 4 ([] : List T_api_Spot).length (([] : List T_api_Spot).flatMap e_api_Spot), .row 86 11 y46.2.1.t.list.length (y46.2.1.t.list.flatMap e_route_entry), .row 45 4 ([] : List T_api_Spot).length (([] : List T_api_Spot).flatMap e_api_Spot), .dead, .box 45 [B y29.1.Addr.Six, U y29.1.Addr.Hi, U y29.1.Addr.Lo, I y29.1.Port], .dead, .box 45 [B y33.1.Addr.Six, U y33.1.Addr.Hi, U y33.1.Addr.Lo, I y33.1.Port], .row 45 4 y46.1.knows.length (y46.1.knows.flatMap e_api_Spot), .dead, .dead, .dead, .dead, .row 45 4 y46.2.1.knows.length (y46.2.1.knows.flatMap e_api_Spot)] rfl rfl rfl rfl rfl rfl ?_
                refine eo_move 22 18 [.bag y46.2.2, .box 30 [I a.Maps, I a.Lets, I a.Timeout, I a.First, I a.Ports, B a.Outer.Six, U a.Outer.Hi, U a.Outer.Lo], .box 30 [I b.Maps, I b.Lets, I b.Timeout, I b.First, I b.Ports, B b.Outer.Six, U b.Outer.Hi, U b.Outer.Lo], .box 55 [I 0, I 0], .box 45 [B false, U 0, U 16843009, I 3478], .box 64 [I y46.1.t.nat.Maps, I y46.1.t.nat.Lets, I y46.1.t.nat.Timeout, I y46.1.t.nat.First, I y46.1.t.nat.Ports, B y46.1.t.nat.Outer.Six, U y46.1.t.nat.Outer.Hi, U y46.1.t.nat.Outer.Lo, I y46.1.t.now, I y46.1.t.v_next, .sl 9 y46.1.t.list.length], .box 104 [.ptr 5 0, .sl 17 y46.1.knows.length, I y46.1.heard], .box 64 [I y46.2.1.t.nat.Maps, I y46.2.1.t.nat.Lets, I y46.2.1.t.nat.Timeout, I y46.2.1.t.nat.First, I y46.2.1.t.nat.Ports, B y46.2.1.t.nat.Outer.Six, U y46.2.1.t.nat.Outer.Hi, U y46.2.1.t.nat.Outer.Lo, I y46.2.1.t.now, I y46.2.1.t.v_next, .sl 11 y46.2.1.t.list.length], .box 104 [.ptr 7 0, .sl 18 y46.2.1.knows.length, I y46.2.1.heard], .row 86 11 y46.1.t.list.length (y46.1.t.list.flatMap e_route_entry), .row 45 4 ([] : List T_api_Spot).length (([] : List T_api_Spot).flatMap e_api_Spot), .row 86 11 y46.2.1.t.list.length (y46.2.1.t.list.flatMap e_route_entry), .row 45 4 ([] : List T_api_Spot).length (([] : List T_api_Spot).flatMap e_api_Spot), .dead, .box 45 [B y29.1.Addr.Six, U y29.1.Addr.Hi, U y29.1.Addr.Lo, I y29.1.Port], .dead, .box 45 [B y33.1.Addr.Six, U y33.1.Addr.Hi, U y33.1.Addr.Lo, I y33.1.Port], .row 45 4 y46.1.knows.length (y46.1.knows.flatMap e_api_Spot), .row 45 4 y46.2.1.knows.length (y46.2.1.knows.flatMap e_api_Spot), .dead, .dead, .dead, .dead] rfl rfl rfl rfl rfl rfl ?_
                obtain ⟨y48, hy48, h49⟩ := bi_ok h47
                refine go_ops hΓ 6 rfl ?_
                refine eo_callF [11, 7, 18, 8, 9, 5, 17, 6, 0] (.tup []) [.bag y48.2.2, .box 30 [I a.Maps, I a.Lets, I a.Timeout, I a.First, I a.Ports, B a.Outer.Six, U a.Outer.Hi, U a.Outer.Lo], .box 30 [I b.Maps, I b.Lets, I b.Timeout, I b.First, I b.Ports, B b.Outer.Six, U b.Outer.Hi, U b.Outer.Lo], .box 55 [I 0, I 0], .box 45 [B false, U 0, U 16843009, I 3478], .box 64 [I y48.2.1.t.nat.Maps, I y48.2.1.t.nat.Lets, I y48.2.1.t.nat.Timeout, I y48.2.1.t.nat.First, I y48.2.1.t.nat.Ports, B y48.2.1.t.nat.Outer.Six, U y48.2.1.t.nat.Outer.Hi, U y48.2.1.t.nat.Outer.Lo, I y48.2.1.t.now, I y48.2.1.t.v_next, .sl 25 y48.2.1.t.list.length], .box 104 [.ptr 5 0, .sl 26 y48.2.1.knows.length, I y48.2.1.heard], .box 64 [I y48.1.t.nat.Maps, I y48.1.t.nat.Lets, I y48.1.t.nat.Timeout, I y48.1.t.nat.First, I y48.1.t.nat.Ports, B y48.1.t.nat.Outer.Six, U y48.1.t.nat.Outer.Hi, U y48.1.t.nat.Outer.Lo, I y48.1.t.now, I y48.1.t.v_next, .sl 23 y48.1.t.list.length], .box 104 [.ptr 7 0, .sl 24 y48.1.knows.length, I y48.1.heard], .dead, .row 45 4 ([] : List T_api_Spot).length (([] : List T_api_Spot).flatMap e_api_Spot), .dead, .row 45 4 ([] : List T_api_Spot).length (([] : List T_api_Spot).flatMap e_api_Spot), .dead, .box 45 [B y29.1.Addr.Six, U y29.1.Addr.Hi, U y29.1.Addr.Lo, I y29.1.Port], .dead, .box 45 [B y33.1.Addr.Six, U y33.1.Addr.Hi, U y33.1.Addr.Lo, I y33.1.Port], .dead, .dead, .dead, .dead, .dead, .dead, .row 86 11 y48.1.t.list.length (y48.1.t.list.flatMap e_route_entry), .row 45 4 y48.1.knows.length (y48.1.knows.flatMap e_api_Spot), .row 86 11 y48.2.1.t.list.length (y48.2.1.t.list.flatMap e_route_entry), .row 45 4 y48.2.1.knows.length (y48.2.1.knows.flatMap e_api_Spot)] (callable Try.func55 rfl rfl) (c_route_peer_turn hy48) rfl (Nat.le_of_ble_eq_true rfl) rfl rfl rfl rfl rfl rfl rfl rfl rfl rfl ?_
                refine eo_move 23 11 [.bag y48.2.2, .box 30 [I a.Maps, I a.Lets, I a.Timeout, I a.First, I a.Ports, B a.Outer.Six, U a.Outer.Hi, U a.Outer.Lo], .box 30 [I b.Maps, I b.Lets, I b.Timeout, I b.First, I b.Ports, B b.Outer.Six, U b.Outer.Hi, U b.Outer.Lo], .box 55 [I 0, I 0], .box 45 [B false, U 0, U 16843009, I 3478], .box 64 [I y48.2.1.t.nat.Maps, I y48.2.1.t.nat.Lets, I y48.2.1.t.nat.Timeout, I y48.2.1.t.nat.First, I y48.2.1.t.nat.Ports, B y48.2.1.t.nat.Outer.Six, U y48.2.1.t.nat.Outer.Hi, U y48.2.1.t.nat.Outer.Lo, I y48.2.1.t.now, I y48.2.1.t.v_next, .sl 25 y48.2.1.t.list.length], .box 104 [.ptr 5 0, .sl 26 y48.2.1.knows.length, I y48.2.1.heard], .box 64 [I y48.1.t.nat.Maps, I y48.1.t.nat.Lets, I y48.1.t.nat.Timeout, I y48.1.t.nat.First, I y48.1.t.nat.Ports, B y48.1.t.nat.Outer.Six, U y48.1.t.nat.Outer.Hi, U y48.1.t.nat.Outer.Lo, I y48.1.t.now, I y48.1.t.v_next, .sl 11 y48.1.t.list.length], .box 104 [.ptr 7 0, .sl 24 y48.1.knows.length, I y48.1.heard], .dead, .row 45 4 ([] : List T_api_Spot).length (([] : List T_api_Spot).flatMap e_api_Spot), .row 86 11 y48.1.t.list.length (y48.1.t.list.flatMap e_route_entry), .row 45 4 ([] : List T_api_Spot).length (([] : List T_api_Spot).flatMap e_api_Spot), .dead, .box 45 [B y29.1.Addr.Six, U y29.1.Addr.Hi, U y29.1.Addr.Lo, I y29.1.Port], .dead, .box 45 [B y33.1.Addr.Six, U y33.1.Addr.Hi, U y33.1.Addr.Lo, I y33.1.Port], .dead, .dead, .dead, .dead, .dead, .dead, .dead, .row 45 4 y48.1.knows.length (y48.1.knows.flatMap e_api_Spot), .row 86 11 y48.2.1.t.list.length (y48.2.1.t.list.flatMap e_route_entry), .row 45 4 y48.2.1.knows.length (y48.2.1.knows.flatMap e_api_Spot)] rfl rfl rfl rfl rfl rfl ?_
                refine eo_move 24 18 [.bag y48.2.2, .box 30 [I a.Maps, I a.Lets, I a.Timeout, I a.First, I a.Ports, B a.Outer.Six, U a.Outer.Hi, U a.Outer.Lo], .box 30 [I b.Maps, I b.Lets, I b.Timeout, I b.First, I b.Ports, B b.Outer.Six, U b.Outer.Hi, U b.Outer.Lo], .box 55 [I 0, I 0], .box 45 [B false, U 0, U 16843009, I 3478], .box 64 [I y48.2.1.t.nat.Maps, I y48.2.1.t.nat.Lets, I y48.2.1.t.nat.Timeout, I y48.2.1.t.nat.First, I y48.2.1.t.nat.Ports, B y48.2.1.t.nat.Outer.Six, U y48.2.1.t.nat.Outer.Hi, U y48.2.1.t.nat.Outer.Lo, I y48.2.1.t.now, I y48.2.1.t.v_next, .sl 25 y48.2.1.t.list.length], .box 104 [.ptr 5 0, .sl 26 y48.2.1.knows.length, I y48.2.1.heard], .box 64 [I y48.1.t.nat.Maps, I y48.1.t.nat.Lets, I y48.1.t.nat.Timeout, I y48.1.t.nat.First, I y48.1.t.nat.Ports, B y48.1.t.nat.Outer.Six, U y48.1.t.nat.Outer.Hi, U y48.1.t.nat.Outer.Lo, I y48.1.t.now, I y48.1.t.v_next, .sl 11 y48.1.t.list.length], .box 104 [.ptr 7 0, .sl 18 y48.1.knows.length, I y48.1.heard], .dead, .row 45 4 ([] : List T_api_Spot).length (([] : List T_api_Spot).flatMap e_api_Spot), .row 86 11 y48.1.t.list.length (y48.1.t.list.flatMap e_route_entry), .row 45 4 ([] : List T_api_Spot).length (([] : List T_api_Spot).flatMap e_api_Spot), .dead, .box 45 [B y29.1.Addr.Six, U y29.1.Addr.Hi, U y29.1.Addr.Lo, I y29.1.Port], .dead, .box 45 [B y33.1.Addr.Six, U y33.1.Addr.Hi, U y33.1.Addr.Lo, I y33.1.Port], .dead, .row 45 4 y48.1.knows.length (y48.1.knows.flatMap e_api_Spot), .dead, .dead, .dead, .dead, .dead, .dead, .row 86 11 y48.2.1.t.list.length (y48.2.1.t.list.flatMap e_route_entry), .row 45 4 y48.2.1.knows.length (y48.2.1.knows.flatMap e_api_Spot)] rfl rfl rfl rfl rfl rfl ?_
                refine eo_move 25 9 [.bag y48.2.2, .box 30 [I a.Maps, I a.Lets, I a.Timeout, I a.First, I a.Ports, B a.Outer.Six, U a.Outer.Hi, U a.Outer.Lo], .box 30 [I b.Maps, I b.Lets, I b.Timeout, I b.First, I b.Ports, B b.Outer.Six, U b.Outer.Hi, U b.Outer.Lo], .box 55 [I 0, I 0], .box 45 [B false, U 0, U 16843009, I 3478], .box 64 [I y48.2.1.t.nat.Maps, I y48.2.1.t.nat.Lets, I y48.2.1.t.nat.Timeout, I y48.2.1.t.nat.First, I y48.2.1.t.nat.Ports, B y48.2.1.t.nat.Outer.Six, U y48.2.1.t.nat.Outer.Hi, U y48.2.1.t.nat.Outer.Lo, I y48.2.1.t.now, I y48.2.1.t.v_next, .sl 9 y48.2.1.t.list.length], .box 104 [.ptr 5 0, .sl 26 y48.2.1.knows.length, I y48.2.1.heard], .box 64 [I y48.1.t.nat.Maps, I y48.1.t.nat.Lets, I y48.1.t.nat.Timeout, I y48.1.t.nat.First, I y48.1.t.nat.Ports, B y48.1.t.nat.Outer.Six, U y48.1.t.nat.Outer.Hi, U y48.1.t.nat.Outer.Lo, I y48.1.t.now, I y48.1.t.v_next, .sl 11 y48.1.t.list.length], .box 104 [.ptr 7 0, .sl 18 y48.1.knows.length, I y48.1.heard], .row 86 11 y48.2.1.t.list.length (y48.2.1.t.list.flatMap e_route_entry), .row 45 4 ([] : List T_api_Spot).length (([] : List T_api_Spot).flatMap e_api_Spot), .row 86 11 y48.1.t.list.length (y48.1.t.list.flatMap e_route_entry), .row 45 4 ([] : List T_api_Spot).length (([] : List T_api_Spot).flatMap e_api_Spot), .dead, .box 45 [B y29.1.Addr.Six, U y29.1.Addr.Hi, U y29.1.Addr.Lo, I y29.1.Port], .dead, .box 45 [B y33.1.Addr.Six, U y33.1.Addr.Hi, U y33.1.Addr.Lo, I y33.1.Port], .dead, .row 45 4 y48.1.knows.length (y48.1.knows.flatMap e_api_Spot), .dead, .dead, .dead, .dead, .dead, .dead, .dead, .row 45 4 y48.2.1.knows.length (y48.2.1.knows.flatMap e_api_Spot)] rfl rfl rfl rfl rfl rfl ?_
                refine eo_move 26 17 [.bag y48.2.2, .box 30 [I a.Maps, I a.Lets, I a.Timeout, I a.First, I a.Ports, B a.Outer.Six, U a.Outer.Hi, U a.Outer.Lo], .box 30 [I b.Maps, I b.Lets, I b.Timeout, I b.First, I b.Ports, B b.Outer.Six, U b.Outer.Hi, U b.Outer.Lo], .box 55 [I 0, I 0], .box 45 [B false, U 0, U 16843009, I 3478], .box 64 [I y48.2.1.t.nat.Maps, I y48.2.1.t.nat.Lets, I y48.2.1.t.nat.Timeout, I y48.2.1.t.nat.First, I y48.2.1.t.nat.Ports, B y48.2.1.t.nat.Outer.Six, U y48.2.1.t.nat.Outer.Hi, U y48.2.1.t.nat.Outer.Lo, I y48.2.1.t.now, I y48.2.1.t.v_next, .sl 9 y48.2.1.t.list.length], .box 104 [.ptr 5 0, .sl 17 y48.2.1.knows.length, I y48.2.1.heard], .box 64 [I y48.1.t.nat.Maps, I y48.1.t.nat.Lets, I y48.1.t.nat.Timeout, I y48.1.t.nat.First, I y48.1.t.nat.Ports, B y48.1.t.nat.Outer.Six, U y48.1.t.nat.Outer.Hi, U y48.1.t.nat.Outer.Lo, I y48.1.t.now, I y48.1.t.v_next, .sl 11 y48.1.t.list.length], .box 104 [.ptr 7 0, .sl 18 y48.1.knows.length, I y48.1.heard], .row 86 11 y48.2.1.t.list.length (y48.2.1.t.list.flatMap e_route_entry), .row 45 4 ([] : List T_api_Spot).length (([] : List T_api_Spot).flatMap e_api_Spot), .row 86 11 y48.1.t.list.length (y48.1.t.list.flatMap e_route_entry), .row 45 4 ([] : List T_api_Spot).length (([] : List T_api_Spot).flatMap e_api_Spot), .dead, .box 45 [B y29.1.Addr.Six, U y29.1.Addr.Hi, U y29.1.Addr.Lo, I y29.1.Port], .dead, .box 45 [B y33.1.Addr.Six, U y33.1.Addr.Hi, U y33.1.Addr.Lo, I y33.1.Port], .row 45 4 y48.2.1.knows.length (y48.2.1.knows.flatMap e_api_Spot), .row 45 4 y48.1.knows.length (y48.1.knows.flatMap e_api_Spot), .dead, .dead, .dead, .dead, .dead, .dead, .dead, .dead] rfl rfl rfl rfl rfl rfl ?_
                refine go_ops hΓ 8 rfl ?_
                obtain rfl := Option.some.inj h49
                exact ⟨_, rfl, ⟨⟨rfl, rfl, rfl, rfl, rfl, trivial⟩, [_, _, _, _, _, _, _, _], rfl, .inr ⟨HB.mk rfl, FB.mk rfl, (Nat.le_of_ble_eq_true rfl)⟩⟩⟩
              · have h50 := cF hy42 hb
                refine go hΓ 4 rfl ?_
                obtain rfl := Option.some.inj h50
                obtain rfl := hout43 _ rfl
                exact ⟨⟨rfl, rfl, rfl, trivial⟩, [], rfl, .inl rfl⟩
            · refine go hΓ 2 rfl ?_
              refine j_drawE [.dead, .dead, .dead, .dead, .dead, .dead, .box 104 [.ptr 5 0, .sl 17 q38.2.2.2.2.2.2.2.2.2.2.2.2.2.2.2.2.2.2.2.2.2.2.2.2.2.1.length, I q38.2.2.2.2.2.2.2.2.2.2.2.1], .dead, .box 104 [.ptr 7 0, .sl 18 q38.2.2.2.2.2.2.2.2.2.2.2.2.2.2.2.2.2.2.2.2.2.2.2.2.2.2.length, I q38.2.2.2.2.2.2.2.2.2.2.2.2.2.2.2.2.2.2.2.2.2.2.1]] [3, 7] [9] [] hmix (by kernel_rfl) (by kernel_rfl) ⟨rfl, rfl, trivial⟩ (Nat.le_of_ble_eq_true rfl) ?_
              refine go_E hΓ 8 rfl ?_
              refine ge_q rfl (.inl rfl) (fun _ _ => qte_of_qt (qt_p (op_build hΓ (gs := [I q38.2.2.2.2.2.2.2.2.2.2.2.1, I q38.2.2.2.2.2.2.2.2.2.2.2.2.2.2.2.2.2.2.2.2.2.2.1]) rfl rfl rfl rfl rfl rfl))) ?_
              refine ge_h0 [.bag q38.1, .box 30 [I a.Maps, I a.Lets, I a.Timeout, I a.First, I a.Ports, B a.Outer.Six, U a.Outer.Hi, U a.Outer.Lo], .box 30 [I b.Maps, I b.Lets, I b.Timeout, I b.First, I b.Ports, B b.Outer.Six, U b.Outer.Hi, U b.Outer.Lo], .box 55 [I q38.2.2.2.2.2.2.2.2.2.2.2.1, I q38.2.2.2.2.2.2.2.2.2.2.2.2.2.2.2.2.2.2.2.2.2.2.1], .box 45 [B false, U 0, U 16843009, I 3478], .box 64 [I q38.2.1, I q38.2.2.1, I q38.2.2.2.1, I q38.2.2.2.2.1, I q38.2.2.2.2.2.1, B q38.2.2.2.2.2.2.1, U q38.2.2.2.2.2.2.2.1, U q38.2.2.2.2.2.2.2.2.1, I q38.2.2.2.2.2.2.2.2.2.1, I q38.2.2.2.2.2.2.2.2.2.2.1, .sl 9 q38.2.2.2.2.2.2.2.2.2.2.2.2.2.2.2.2.2.2.2.2.2.2.2.1.length], .box 104 [.ptr 5 0, .sl 17 q38.2.2.2.2.2.2.2.2.2.2.2.2.2.2.2.2.2.2.2.2.2.2.2.2.2.1.length, I q38.2.2.2.2.2.2.2.2.2.2.2.1], .box 64 [I q38.2.2.2.2.2.2.2.2.2.2.2.2.1, I q38.2.2.2.2.2.2.2.2.2.2.2.2.2.1, I q38.2.2.2.2.2.2.2.2.2.2.2.2.2.2.1, I q38.2.2.2.2.2.2.2.2.2.2.2.2.2.2.2.1, I q38.2.2.2.2.2.2.2.2.2.2.2.2.2.2.2.2.1, B q38.2.2.2.2.2.2.2.2.2.2.2.2.2.2.2.2.2.1, U q38.2.2.2.2.2.2.2.2.2.2.2.2.2.2.2.2.2.2.1, U q38.2.2.2.2.2.2.2.2.2.2.2.2.2.2.2.2.2.2.2.1, I q38.2.2.2.2.2.2.2.2.2.2.2.2.2.2.2.2.2.2.2.2.1, I q38.2.2.2.2.2.2.2.2.2.2.2.2.2.2.2.2.2.2.2.2.2.1, .sl 11 q38.2.2.2.2.2.2.2.2.2.2.2.2.2.2.2.2.2.2.2.2.2.2.2.2.1.length], .box 104 [.ptr 7 0, .sl 18 q38.2.2.2.2.2.2.2.2.2.2.2.2.2.2.2.2.2.2.2.2.2.2.2.2.2.2.length, I q38.2.2.2.2.2.2.2.2.2.2.2.2.2.2.2.2.2.2.2.2.2.2.1], .row 86 11 q38.2.2.2.2.2.2.2.2.2.2.2.2.2.2.2.2.2.2.2.2.2.2.2.1.length (q38.2.2.2.2.2.2.2.2.2.2.2.2.2.2.2.2.2.2.2.2.2.2.2.1.flatMap e_route_entry), .row 45 4 ([] : List T_api_Spot).length (([] : List T_api_Spot).flatMap e_api_Spot), .row 86 11 q38.2.2.2.2.2.2.2.2.2.2.2.2.2.2.2.2.2.2.2.2.2.2.2.2.1.length (q38.2.2.2.2.2.2.2.2.2.2.2.2.2.2.2.2.2.2.2.2.2.2.2.2.1.flatMap e_route_entry), .row 45 4 ([] : List T_api_Spot).length (([] : List T_api_Spot).flatMap e_api_Spot), .dead, .box 45 [B y29.1.Addr.Six, U y29.1.Addr.Hi, U y29.1.Addr.Lo, I y29.1.Port], .dead, .box 45 [B y33.1.Addr.Six, U y33.1.Addr.Hi, U y33.1.Addr.Lo, I y33.1.Port], .row 45 4 q38.2.2.2.2.2.2.2.2.2.2.2.2.2.2.2.2.2.2.2.2.2.2.2.2.2.1.length (q38.2.2.2.2.2.2.2.2.2.2.2.2.2.2.2.2.2.2.2.2.2.2.2.2.2.1.flatMap e_api_Spot), .row 45 4 q38.2.2.2.2.2.2.2.2.2.2.2.2.2.2.2.2.2.2.2.2.2.2.2.2.2.2.length (q38.2.2.2.2.2.2.2.2.2.2.2.2.2.2.2.2.2.2.2.2.2.2.2.2.2.2.flatMap e_api_Spot)] rfl rfl (st_st ⟨rfl, rfl, trivial⟩) (qte_u (opu_store2 hΓ rfl rfl rfl rfl rfl rfl rfl rfl rfl)) ?_
              refine go_E hΓ 1 rfl ?_
              refine ge_fin ?_
              refine go hΓ 2 rfl ?_
              obtain rfl := Option.some.inj h39
              exact fin_objs hΓ [_, _, _, _, _, _, _, _, _, _, _, _, _, _, _, _, _, _] (.inr rfl) rfl rfl rfl rfl (.inr ⟨HB.mk rfl, rfl⟩)
theorem c_laneref1_in {n : Int} {low : Int} {high : Int} {r : Bool} (h : m_laneref1_in n low high = some r) : Pure Try.prog 28 [I n, I low, I high] (B r) := by
  refine Pure.enter (Fr.of 0 _) Try.func28 rfl (Fr.of_ok _) rfl rfl ?_
  refine go_in ?_
  unfold m_laneref1_in at h
  refine go hΓ 11 rfl ?_
  refine o_cut 4 [(6, B false), (14, B ((decide ((low : Int) ≤ n)) && (decide ((n : Int) ≤ high))))] [] ?_ ?_
  · refine eo_gsplit rfl rfl (fun hb => ?_) (fun hb => ?_)
    · refine go_ops hΓ 5 rfl ?_
      exact ⟨⟨rfl, get_b rfl (and_t hb), trivial⟩, [], rfl, .inl rfl⟩
    · refine go_ops hΓ 5 rfl ?_
      exact ⟨⟨rfl, get_b rfl (and_f hb), trivial⟩, [], rfl, .inl rfl⟩
  · refine go_ops hΓ 4 rfl ?_
    obtain rfl := Option.some.inj h
    exact fin_pure hΓ (.inr rfl) rfl rfl
theorem c_laneref2_AddrFault {a : T_api_Addr} {r : Int} (h : m_laneref2_AddrFault a = some r) : Pure Try.prog 29 [.agg [B a.Six, U a.Hi, U a.Lo]] (I r) := by
  refine Pure.enter (Fr.of 0 _) Try.func29 rfl (Fr.of_ok _) rfl rfl ?_
  refine go_in ?_
  unfold m_laneref2_AddrFault at h
  refine go hΓ 2 rfl ?_
  refine eo_box rfl rfl rfl rfl (Nat.le_of_ble_eq_true rfl) ?_
  refine go_ops hΓ 10 rfl ?_
  refine o_cut 9 [(15, B ((!a.Six) && ((decide ((a.Hi : Int) > 0)) || (decide ((a.Lo : Int) > 4294967295)))))] [.box 28 [B a.Six, U a.Hi, U a.Lo]] ?_ ?_
  · refine eo_gsplit rfl rfl (fun hb => ?_) (fun hb => ?_)
    · refine go_ops hΓ 4 rfl ?_
      refine o_cut 4 [(6, B true), (14, B ((decide ((a.Hi : Int) > 0)) || (decide ((a.Lo : Int) > 4294967295))))] [.box 28 [B a.Six, U a.Hi, U a.Lo]] ?_ ?_
      · refine eo_gsplit rfl rfl (fun hb => ?_) (fun hb => ?_)
        · refine go_ops hΓ 5 rfl ?_
          exact ⟨⟨rfl, get_b rfl (or_t hb), trivial⟩, [], rfl, .inl rfl⟩
        · refine go_ops hΓ 5 rfl ?_
          exact ⟨⟨rfl, get_b rfl (or_f hb), trivial⟩, [], rfl, .inl rfl⟩
      · refine go_ops hΓ 2 rfl ?_
        exact ⟨⟨get_b rfl (and_t hb), trivial⟩, [], rfl, .inl rfl⟩
    · refine go_ops hΓ 10 rfl ?_
      exact ⟨⟨get_b rfl (and_f hb), trivial⟩, [], rfl, .inl rfl⟩
  · refine go_ops hΓ 2 rfl ?_
    refine j_cond rfl (fun hb => ?_) (fun hb => ?_)
    · have h1 := cT h hb
      refine go hΓ 7 rfl ?_
      obtain rfl := Option.some.inj h1
      exact fin_pure hΓ (.inr rfl) rfl rfl
    · have h2 := cF h hb
      refine go hΓ 8 rfl ?_
      obtain rfl := Option.some.inj h2
      exact fin_pure hΓ (.inr rfl) rfl rfl
set_option maxHeartbeats 8000000 in
theorem c_laneref1_NatFault {n : T_api_Nat} {r : Int} (h : m_laneref1_NatFault n = some r) : Pure Try.prog 7 [.agg [I n.Maps, I n.Lets, I n.Timeout, I n.First, I n.Ports, B n.Outer.Six, U n.Outer.Hi, U n.Outer.Lo]] (I r) := by
  refine Pure.enter (Fr.of 0 _) Try.func7 rfl (Fr.of_ok _) rfl rfl ?_
  refine go_in ?_
  unfold m_laneref1_NatFault at h
  refine go hΓ 2 rfl ?_
  refine eo_box rfl rfl rfl rfl (Nat.le_of_ble_eq_true rfl) ?_
  obtain ⟨y1, hy1, h2⟩ := bi_ok h
  refine go_ops hΓ 9 rfl ?_
  refine eo_callP (callable Try.func28 rfl rfl) (c_laneref1_in hy1) rfl (Nat.le_of_ble_eq_true rfl) rfl rfl rfl rfl rfl ?_
  refine go_ops hΓ 2 rfl ?_
  obtain ⟨q3, hq3, h4⟩ := bi_ok h2
  refine o_cut 5 [(1, .ptr 0 0), (13, B q3)] [.box 30 [I n.Maps, I n.Lets, I n.Timeout, I n.First, I n.Ports, B n.Outer.Six, U n.Outer.Hi, U n.Outer.Lo]] ?_ ?_
  · refine eo_gsplit rfl rfl (fun hb => ?_) (fun hb => ?_)
    · have h5 := cT hq3 hb
      refine go_ops hΓ 6 rfl ?_
      obtain rfl := Option.some.inj h5
      exact ⟨⟨rfl, rfl, trivial⟩, [], rfl, .inl rfl⟩
    · have h6 := cF hq3 hb
      obtain ⟨y7, hy7, h8⟩ := bi_ok h6
      refine go_ops hΓ 2 rfl ?_
      refine eo_guard rfl ?_
      refine eo_callP (callable Try.func28 rfl rfl) (c_laneref1_in hy7) rfl (Nat.le_of_ble_eq_true rfl) rfl rfl rfl rfl rfl ?_
      refine go_ops hΓ 3 rfl ?_
      obtain rfl := Option.some.inj h8
      exact ⟨⟨rfl, rfl, trivial⟩, [], rfl, .inl rfl⟩
  · refine go_ops hΓ 3 rfl ?_
    refine j_cond rfl (fun hb => ?_) (fun hb => ?_)
    · have h9 := cT h4 hb
      refine go hΓ 8 rfl ?_
      obtain rfl := Option.some.inj h9
      exact fin_pure hΓ (.inr rfl) rfl rfl
    · have h10 := cF h4 hb
      obtain ⟨y11, hy11, h12⟩ := bi_ok h10
      refine go hΓ 4 rfl ?_
      refine eo_callP (callable Try.func28 rfl rfl) (c_laneref1_in hy11) rfl (Nat.le_of_ble_eq_true rfl) rfl rfl rfl rfl rfl ?_
      refine go_ops hΓ 2 rfl ?_
      obtain ⟨q13, hq13, h14⟩ := bi_ok h12
      refine o_cut 5 [(1, .ptr 0 0), (24, B q13)] [.box 30 [I n.Maps, I n.Lets, I n.Timeout, I n.First, I n.Ports, B n.Outer.Six, U n.Outer.Hi, U n.Outer.Lo]] ?_ ?_
      · refine eo_gsplit rfl rfl (fun hb => ?_) (fun hb => ?_)
        · have h15 := cT hq13 hb
          refine go_ops hΓ 6 rfl ?_
          obtain rfl := Option.some.inj h15
          exact ⟨⟨rfl, rfl, trivial⟩, [], rfl, .inl rfl⟩
        · have h16 := cF hq13 hb
          obtain ⟨y17, hy17, h18⟩ := bi_ok h16
          refine go_ops hΓ 2 rfl ?_
          refine eo_guard rfl ?_
          refine eo_callP (callable Try.func28 rfl rfl) (c_laneref1_in hy17) rfl (Nat.le_of_ble_eq_true rfl) rfl rfl rfl rfl rfl ?_
          refine go_ops hΓ 3 rfl ?_
          obtain rfl := Option.some.inj h18
          exact ⟨⟨rfl, rfl, trivial⟩, [], rfl, .inl rfl⟩
      · refine go_ops hΓ 1 rfl ?_
        obtain ⟨q19, hq19, h20⟩ := bi_ok h14
        refine o_cut 8 [(1, .ptr 0 0), (33, B q19)] [.box 30 [I n.Maps, I n.Lets, I n.Timeout, I n.First, I n.Ports, B n.Outer.Six, U n.Outer.Hi, U n.Outer.Lo]] ?_ ?_
        · refine eo_gsplit rfl rfl (fun hb => ?_) (fun hb => ?_)
          · have h21 := cT hq19 hb
            refine go_ops hΓ 9 rfl ?_
            obtain rfl := Option.some.inj h21
            exact ⟨⟨rfl, rfl, trivial⟩, [], rfl, .inl rfl⟩
          · have h22 := cF hq19 hb
            obtain ⟨y23, hy23, h24⟩ := bi_ok h22
            refine go_ops hΓ 5 rfl ?_
            refine eo_guard rfl ?_
            refine eo_callP (callable Try.func28 rfl rfl) (c_laneref1_in hy23) rfl (Nat.le_of_ble_eq_true rfl) rfl rfl rfl rfl rfl ?_
            refine go_ops hΓ 3 rfl ?_
            obtain rfl := Option.some.inj h24
            exact ⟨⟨rfl, rfl, trivial⟩, [], rfl, .inl rfl⟩
        · refine go_ops hΓ 3 rfl ?_
          refine j_cond rfl (fun hb => ?_) (fun hb => ?_)
          · have h25 := cT h20 hb
            refine go hΓ 8 rfl ?_
            obtain rfl := Option.some.inj h25
            exact fin_pure hΓ (.inr rfl) rfl rfl
          · have h26 := cF h20 hb
            obtain ⟨y27, hy27, h28⟩ := bi_ok h26
            refine go hΓ 7 rfl ?_
            refine eo_callP (callable Try.func29 rfl rfl) (c_laneref2_AddrFault hy27) rfl (Nat.le_of_ble_eq_true rfl) rfl rfl rfl rfl rfl ?_
            refine go_ops hΓ 4 rfl ?_
            obtain rfl := Option.some.inj h28
            exact fin_pure hΓ (.inr rfl) rfl rfl
theorem c_cmp_Or_api_Errno {vals : List Int} {r : Int} (h : m_cmp_Or_api_Errno vals = some r) : Pure Try.prog 41 [.d (Sl (eN .i64) vals)] (I r) := by
  refine Pure.enter (Fr.of 0 _) Try.func41 rfl (Fr.of_ok _) rfl rfl ?_
  refine go_in ?_
  unfold m_cmp_Or_api_Errno at h
  refine go hΓ 18 rfl ?_
  obtain ⟨q4, hq4, h5⟩ := bi_ok h
  refine j_bound 6 rfl fun hb7 => ?_
  refine j_cutEZ (R := fun a6 => q4 = .go a6) (fun a6 => [(3, I 0)]) (fun a6 => []) ?_ ?_
  · refine go hΓ 1 rfl ?_
    refine j_range vals hq4 (fun i1 s2 => [(3, I 0), (6, .d (Sl (eN .i64) vals)), (7, I (vals.length : Int)), (8, I (i1 : Int))]) (fun s2 => []) ⟨⟨rfl, rfl, rfl, rfl, trivial⟩, [], rfl, .inl rfl⟩ (fun i1 x3 s2 y11 hx8 hlt hy9 hout10 => ?_) (fun s2 hgo => ?_)
    · refine go hΓ 6 rfl ?_
      refine j_condT rfl (decide_eq_true (Int.ofNat_lt.2 hlt)) ?_
      refine go hΓ 6 rfl ?_
      refine eo_o rfl (op_elemZ hΓ (enc := (eN .i64)) (getZ_nat hx8) rfl rfl rfl rfl rfl (fun _ => rfl)) ?_
      refine go_ops hΓ 11 rfl ?_
      refine j_cond rfl (fun hb => ?_) (fun hb => ?_)
      · have h12 := cT hy9 hb
        refine go hΓ 9 rfl ?_
        obtain ⟨v13, hv13, h14⟩ := bi_ok h12
        obtain rfl := Option.some.inj h14
        obtain rfl := hout10 _ rfl
        obtain rfl := Option.some.inj h5
        refine go hΓ 4 rfl ?_
        obtain rfl := Option.some.inj hv13
        exact fin_pure hΓ (.inr rfl) rfl rfl
      · have h15 := cF hy9 hb
        refine go hΓ 7 rfl ?_
        obtain rfl := Option.some.inj h15
        exact ⟨_, rfl, ⟨⟨rfl, rfl, rfl, get_eq rfl (w64_succ (Nat.lt_of_lt_of_le hlt hb7)), trivial⟩, [], rfl, .inl rfl⟩⟩
    · subst hgo
      refine go hΓ 6 rfl ?_
      refine j_condF rfl (decide_eq_false (Int.lt_irrefl _)) ?_
      refine go hΓ 4 rfl ?_
      exact ⟨_, rfl, ⟨⟨rfl, trivial⟩, [], rfl, .inl rfl⟩⟩
  · intro a6 ha
    subst ha
    replace h5 := goI_l h5
    refine go hΓ 8 rfl ?_
    obtain rfl := Option.some.inj h5
    exact fin_pure hΓ (.inr rfl) rfl rfl
theorem c_laneref1_server {r : T_api_Spot} (h : m_laneref1_server = some r) : Pure Try.prog 56 [] (.agg [B r.Addr.Six, U r.Addr.Hi, U r.Addr.Lo, I r.Port]) := by
  refine Pure.enter (Fr.of 0 _) Try.func56 rfl (Fr.of_ok _) rfl rfl ?_
  refine go_in ?_
  unfold m_laneref1_server at h
  refine go hΓ 2 rfl ?_
  refine eo_alloc hΓ rfl rfl rfl (Nat.le_of_ble_eq_true rfl) ?_
  refine go_ops hΓ 4 rfl ?_
  refine eo_build hΓ (gs := [B false, U 0, U 16843009]) rfl rfl rfl rfl rfl rfl rfl ?_
  refine eo_build hΓ (gs := [B false, U 0, U 16843009, I 3478]) rfl rfl rfl rfl rfl rfl rfl ?_
  refine eo_store hΓ rfl rfl rfl rfl rfl rfl rfl rfl (Nat.le_of_ble_eq_true rfl) ?_
  refine eo_hp [.box 45 [B false, U 0, U 16843009, I 3478]] rfl ?_
  refine go_ops hΓ 3 rfl ?_
  obtain rfl := Option.some.inj h
  exact fin_pure hΓ (.inr rfl) rfl rfl
set_option maxHeartbeats 8000000 in
theorem c_laneref1_CanFault {a : T_api_Nat} {b : T_api_Nat} {rounds : Int} {r : Int} (h : m_laneref1_CanFault a b rounds = some r) : Pure Try.prog 22 [.agg [I a.Maps, I a.Lets, I a.Timeout, I a.First, I a.Ports, B a.Outer.Six, U a.Outer.Hi, U a.Outer.Lo], .agg [I b.Maps, I b.Lets, I b.Timeout, I b.First, I b.Ports, B b.Outer.Six, U b.Outer.Hi, U b.Outer.Lo], I rounds] (I r) := by
  refine Pure.enter (Fr.of 0 _) Try.func22 rfl (Fr.of_ok _) rfl rfl ?_
  refine go_in ?_
  unfold m_laneref1_CanFault at h
  refine go hΓ 2 rfl ?_
  refine eo_box rfl rfl rfl rfl (Nat.le_of_ble_eq_true rfl) ?_
  refine eo_box rfl rfl rfl rfl (Nat.le_of_ble_eq_true rfl) ?_
  refine go_ops hΓ 5 rfl ?_
  refine j_draw hmix (by kernel_rfl) ?_
  obtain ⟨y1, hy1, h2⟩ := bi_ok h
  refine go hΓ 1 rfl ?_
  refine gl_callP (callable Try.func7 rfl rfl) (c_laneref1_NatFault hy1) rfl rfl rfl rfl rfl rfl ?_
  obtain ⟨y3, hy3, h4⟩ := bi_ok h2
  refine go_draw hΓ 1 rfl ?_
  refine gl_callP (callable Try.func7 rfl rfl) (c_laneref1_NatFault hy3) rfl rfl rfl rfl rfl rfl ?_
  refine gl_litT hΓ (enc := (eN .i64)) [y1, y3] rfl rfl rfl rfl rfl rfl rfl rfl rfl rfl rfl rfl ?_
  obtain ⟨y5, hy5, h6⟩ := bi_ok h4
  refine gl_callP (callable Try.func41 rfl rfl) (c_cmp_Or_api_Errno hy5) rfl rfl rfl rfl rfl rfl ?_
  refine go_draw hΓ 9 rfl ?_
  refine j_cond rfl (fun hb => ?_) (fun hb => ?_)
  · have h7 := cT h6 hb
    refine go hΓ 8 rfl ?_
    obtain rfl := Option.some.inj h7
    exact fin_pure hΓ (.inr rfl) rfl rfl
  · have h8 := cF h6 hb
    obtain ⟨q9, hq9, h10⟩ := bi_ok h8
    refine go hΓ 4 rfl ?_
    refine j_cutNZ [(2, I rounds), (35, B q9)] [.box 30 [I a.Maps, I a.Lets, I a.Timeout, I a.First, I a.Ports, B a.Outer.Six, U a.Outer.Hi, U a.Outer.Lo], .box 30 [I b.Maps, I b.Lets, I b.Timeout, I b.First, I b.Ports, B b.Outer.Six, U b.Outer.Hi, U b.Outer.Lo]] ?_ ?_
    · refine j_draw hmix (by kernel_rfl) ?_
      refine go hΓ 4 rfl ?_
      refine gl_o rfl (op_eqS hΓ [28] (b := (((a.Outer.Six : Bool) == b.Outer.Six) && (((a.Outer.Hi : Int) == b.Outer.Hi) && (((a.Outer.Lo : Int) == b.Outer.Lo) && true)))) (by kernel_rfl) (by kernel_rfl) rfl rfl rfl) ?_
      refine go_draw hΓ 1 rfl ?_
      refine gl_gsplit rfl rfl (fun hb => ?_) (fun hb => ?_)
      · have h11 := cT hq9 hb
        refine go_draw hΓ 14 rfl ?_
        obtain rfl := Option.some.inj h11
        exact ⟨⟨rfl, rfl, trivial⟩, [], rfl, .inl rfl⟩
      · have h12 := cF hq9 hb
        obtain ⟨y13, hy13, h14⟩ := bi_ok h12
        refine go_draw hΓ 2 rfl ?_
        refine gl_callPg (callable Try.func56 rfl rfl) (c_laneref1_server hy13) rfl rfl rfl rfl rfl rfl rfl ?_
        refine go_draw hΓ 1 rfl ?_
        refine gl_og rfl rfl (op_eqS hΓ [28] (b := (((a.Outer.Six : Bool) == y13.Addr.Six) && (((a.Outer.Hi : Int) == y13.Addr.Hi) && (((a.Outer.Lo : Int) == y13.Addr.Lo) && true)))) (by kernel_rfl) (by kernel_rfl) rfl rfl rfl) ?_
        refine go_draw hΓ 2 rfl ?_
        refine gl_gsplit rfl rfl (fun hb => ?_) (fun hb => ?_)
        · have h15 := cT h14 hb
          refine go_draw hΓ 7 rfl ?_
          obtain rfl := Option.some.inj h15
          exact ⟨⟨rfl, rfl, trivial⟩, [], rfl, .inl rfl⟩
        · have h16 := cF h14 hb
          obtain ⟨y17, hy17, h18⟩ := bi_ok h16
          refine go_draw hΓ 2 rfl ?_
          refine gl_callPg (callable Try.func56 rfl rfl) (c_laneref1_server hy17) rfl rfl rfl rfl rfl rfl rfl ?_
          refine go_draw hΓ 1 rfl ?_
          refine gl_og rfl rfl (op_eqS hΓ [28] (b := (((b.Outer.Six : Bool) == y17.Addr.Six) && (((b.Outer.Hi : Int) == y17.Addr.Hi) && (((b.Outer.Lo : Int) == y17.Addr.Lo) && true)))) (by kernel_rfl) (by kernel_rfl) rfl rfl rfl) ?_
          refine go_draw hΓ 2 rfl ?_
          obtain rfl := Option.some.inj h18
          exact ⟨⟨rfl, rfl, trivial⟩, [], rfl, .inl rfl⟩
    · refine go hΓ 1 rfl ?_
      refine j_cond rfl (fun hb => ?_) (fun hb => ?_)
      · have h19 := cT h10 hb
        refine go hΓ 7 rfl ?_
        obtain rfl := Option.some.inj h19
        exact fin_pure hΓ (.inr rfl) rfl rfl
      · have h20 := cF h10 hb
        obtain ⟨y21, hy21, h22⟩ := bi_ok h20
        refine go hΓ 6 rfl ?_
        refine eo_callP (callable Try.func28 rfl rfl) (c_laneref1_in hy21) rfl (Nat.le_of_ble_eq_true rfl) rfl rfl rfl rfl rfl ?_
        refine go_ops hΓ 3 rfl ?_
        refine j_cond rfl (fun hb => ?_) (fun hb => ?_)
        · have h23 := cT h22 hb
          refine go hΓ 7 rfl ?_
          obtain rfl := Option.some.inj h23
          exact fin_pure hΓ (.inr rfl) rfl rfl
        · have h24 := cF h22 hb
          refine go hΓ 8 rfl ?_
          obtain rfl := Option.some.inj h24
          exact fin_pure hΓ (.inr rfl) rfl rfl
set_option maxHeartbeats 8000000 in
theorem c_kit_IsKey {k : Nat} {s : Str} {r : Bool} (h : m_kit_IsKey k s = some r) : Pure Try.prog 61 [S s] (B r) := by
  refine Pure.enter (Fr.of 0 _) Try.func61 rfl (Fr.of_ok _) rfl rfl ?_
  refine go_in ?_
  unfold m_kit_IsKey at h
  refine go hΓ 11 rfl ?_
  obtain ⟨q4, hq4, h5⟩ := bi_ok h
  refine j_cutEZ (R := fun a6 => q4 = .inl a6) (fun a6 => [(0, S s)]) (fun a6 => []) ?_ ?_
  · refine go hΓ 1 rfl ?_
    refine j_loop hq4 (fun s2 => [(0, S s), (3, I s2)]) (fun s2 => []) ⟨⟨rfl, rfl, trivial⟩, [], rfl, .inl rfl⟩ (fun s2 y10 hy8 hout9 => ?_)
    refine go hΓ 9 rfl ?_
    refine j_cond rfl (fun hb => ?_) (fun hb => ?_)
    · have h11 := cT hy8 hb
      obtain ⟨c12, hc12, h13⟩ := bi_ok h11
      refine go hΓ 8 rfl ?_
      refine eo_o rfl (op_byteZ hΓ hc12 rfl rfl rfl rfl) ?_
      refine go_ops hΓ 8 rfl ?_
      refine o_cut 3 [(0, S s), (3, I s2), (4, .d (.v (.int .u8 (c12.toNat : Int)))), (19, B ((decide (((c12.toNat : Int) : Int) ≥ 97)) && (decide (((c12.toNat : Int) : Int) ≤ 122))))] [] ?_ ?_
      · refine eo_gsplit rfl rfl (fun hb => ?_) (fun hb => ?_)
        · refine go_ops hΓ 4 rfl ?_
          exact ⟨⟨rfl, rfl, rfl, get_b rfl (and_t hb), trivial⟩, [], rfl, .inl rfl⟩
        · refine go_ops hΓ 4 rfl ?_
          exact ⟨⟨rfl, rfl, rfl, get_b rfl (and_f hb), trivial⟩, [], rfl, .inl rfl⟩
      · refine go_ops hΓ 1 rfl ?_
        refine o_cut 19 [(0, S s), (3, I s2), (39, B (((decide (((c12.toNat : Int) : Int) ≥ 97)) && (decide (((c12.toNat : Int) : Int) ≤ 122))) || ((decide ((s2 : Int) > 0)) && ((((decide (((c12.toNat : Int) : Int) ≥ 48)) && (decide (((c12.toNat : Int) : Int) ≤ 57))) || (((c12.toNat : Int) : Int) == 45)) || (((c12.toNat : Int) : Int) == 95)))))] [] ?_ ?_
        · refine eo_gsplit rfl rfl (fun hb => ?_) (fun hb => ?_)
          · refine go_ops hΓ 20 rfl ?_
            exact ⟨⟨rfl, rfl, get_b rfl (or_t hb), trivial⟩, [], rfl, .inl rfl⟩
          · refine go_ops hΓ 3 rfl ?_
            refine o_cut 15 [(0, S s), (3, I s2), (20, B false), (38, B ((decide ((s2 : Int) > 0)) && ((((decide (((c12.toNat : Int) : Int) ≥ 48)) && (decide (((c12.toNat : Int) : Int) ≤ 57))) || (((c12.toNat : Int) : Int) == 45)) || (((c12.toNat : Int) : Int) == 95))))] [] ?_ ?_
            · refine eo_gsplit rfl rfl (fun hb => ?_) (fun hb => ?_)
              · refine go_ops hΓ 3 rfl ?_
                refine o_cut 3 [(0, S s), (3, I s2), (4, .d (.v (.int .u8 (c12.toNat : Int)))), (20, B false), (23, B true), (29, B ((decide (((c12.toNat : Int) : Int) ≥ 48)) && (decide (((c12.toNat : Int) : Int) ≤ 57))))] [] ?_ ?_
                · refine eo_gsplit rfl rfl (fun hb => ?_) (fun hb => ?_)
                  · refine go_ops hΓ 4 rfl ?_
                    exact ⟨⟨rfl, rfl, rfl, rfl, rfl, get_b rfl (and_t hb), trivial⟩, [], rfl, .inl rfl⟩
                  · refine go_ops hΓ 4 rfl ?_
                    exact ⟨⟨rfl, rfl, rfl, rfl, rfl, get_b rfl (and_f hb), trivial⟩, [], rfl, .inl rfl⟩
                · refine go_ops hΓ 1 rfl ?_
                  refine o_cut 3 [(0, S s), (3, I s2), (4, .d (.v (.int .u8 (c12.toNat : Int)))), (20, B false), (23, B true), (33, B (((decide (((c12.toNat : Int) : Int) ≥ 48)) && (decide (((c12.toNat : Int) : Int) ≤ 57))) || (((c12.toNat : Int) : Int) == 45)))] [] ?_ ?_
                  · refine eo_gsplit rfl rfl (fun hb => ?_) (fun hb => ?_)
                    · refine go_ops hΓ 4 rfl ?_
                      exact ⟨⟨rfl, rfl, rfl, rfl, rfl, get_b rfl (or_t hb), trivial⟩, [], rfl, .inl rfl⟩
                    · refine go_ops hΓ 4 rfl ?_
                      exact ⟨⟨rfl, rfl, rfl, rfl, rfl, get_b rfl (or_f hb), trivial⟩, [], rfl, .inl rfl⟩
                  · refine go_ops hΓ 1 rfl ?_
                    refine o_cut 3 [(0, S s), (3, I s2), (20, B false), (23, B true), (37, B ((((decide (((c12.toNat : Int) : Int) ≥ 48)) && (decide (((c12.toNat : Int) : Int) ≤ 57))) || (((c12.toNat : Int) : Int) == 45)) || (((c12.toNat : Int) : Int) == 95)))] [] ?_ ?_
                    · refine eo_gsplit rfl rfl (fun hb => ?_) (fun hb => ?_)
                      · refine go_ops hΓ 4 rfl ?_
                        exact ⟨⟨rfl, rfl, rfl, rfl, get_b rfl (or_t hb), trivial⟩, [], rfl, .inl rfl⟩
                      · refine go_ops hΓ 4 rfl ?_
                        exact ⟨⟨rfl, rfl, rfl, rfl, get_b rfl (or_f hb), trivial⟩, [], rfl, .inl rfl⟩
                    · refine go_ops hΓ 2 rfl ?_
                      exact ⟨⟨rfl, rfl, rfl, get_b rfl (and_t hb), trivial⟩, [], rfl, .inl rfl⟩
              · refine go_ops hΓ 16 rfl ?_
                exact ⟨⟨rfl, rfl, rfl, get_b rfl (and_f hb), trivial⟩, [], rfl, .inl rfl⟩
            · refine go_ops hΓ 2 rfl ?_
              exact ⟨⟨rfl, rfl, get_b rfl (or_f hb), trivial⟩, [], rfl, .inl rfl⟩
        · refine go_ops hΓ 3 rfl ?_
          refine j_cond rfl (fun hb => ?_) (fun hb => ?_)
          · have h14 := cT h13 hb
            refine go hΓ 8 rfl ?_
            obtain ⟨v15, hv15, h16⟩ := bi_ok h14
            obtain rfl := Option.some.inj h16
            obtain rfl := hout9 _ rfl
            obtain rfl := Option.some.inj h5
            refine go hΓ 4 rfl ?_
            obtain rfl := Option.some.inj hv15
            exact fin_pure hΓ (.inr rfl) rfl rfl
          · have h17 := cF h13 hb
            refine go hΓ 8 rfl ?_
            obtain rfl := Option.some.inj h17
            exact ⟨_, rfl, ⟨⟨rfl, rfl, trivial⟩, [], rfl, .inl rfl⟩⟩
    · have h18 := cF hy8 hb
      refine go hΓ 4 rfl ?_
      obtain rfl := Option.some.inj h18
      obtain rfl := hout9 _ rfl
      exact ⟨_, rfl, ⟨⟨rfl, trivial⟩, [], rfl, .inl rfl⟩⟩
  · intro a6 ha
    subst ha
    replace h5 := orI_l h5
    refine go hΓ 6 rfl ?_
    refine o_cut 4 [(47, B ((!((s : Str) == [])) && (decide (((s.length : Int) : Int) ≤ 40))))] [] ?_ ?_
    · refine eo_gsplit rfl rfl (fun hb => ?_) (fun hb => ?_)
      · refine go_ops hΓ 5 rfl ?_
        exact ⟨⟨get_b rfl (and_t hb), trivial⟩, [], rfl, .inl rfl⟩
      · refine go_ops hΓ 5 rfl ?_
        exact ⟨⟨get_b rfl (and_f hb), trivial⟩, [], rfl, .inl rfl⟩
    · refine go_ops hΓ 4 rfl ?_
      obtain rfl := Option.some.inj h5
      exact fin_pure hΓ (.inr rfl) rfl rfl
theorem c_cmp_Or_int {vals : List Int} {r : Int} (h : m_cmp_Or_int vals = some r) : Pure Try.prog 79 [.d (Sl (eN .i64) vals)] (I r) := by
  refine Pure.enter (Fr.of 0 _) Try.func79 rfl (Fr.of_ok _) rfl rfl ?_
  refine go_in ?_
  unfold m_cmp_Or_int at h
  refine go hΓ 18 rfl ?_
  obtain ⟨q4, hq4, h5⟩ := bi_ok h
  refine j_bound 6 rfl fun hb7 => ?_
  refine j_cutEZ (R := fun a6 => q4 = .go a6) (fun a6 => [(3, I 0)]) (fun a6 => []) ?_ ?_
  · refine go hΓ 1 rfl ?_
    refine j_range vals hq4 (fun i1 s2 => [(3, I 0), (6, .d (Sl (eN .i64) vals)), (7, I (vals.length : Int)), (8, I (i1 : Int))]) (fun s2 => []) ⟨⟨rfl, rfl, rfl, rfl, trivial⟩, [], rfl, .inl rfl⟩ (fun i1 x3 s2 y11 hx8 hlt hy9 hout10 => ?_) (fun s2 hgo => ?_)
    · refine go hΓ 6 rfl ?_
      refine j_condT rfl (decide_eq_true (Int.ofNat_lt.2 hlt)) ?_
      refine go hΓ 6 rfl ?_
      refine eo_o rfl (op_elemZ hΓ (enc := (eN .i64)) (getZ_nat hx8) rfl rfl rfl rfl rfl (fun _ => rfl)) ?_
      refine go_ops hΓ 11 rfl ?_
      refine j_cond rfl (fun hb => ?_) (fun hb => ?_)
      · have h12 := cT hy9 hb
        refine go hΓ 9 rfl ?_
        obtain ⟨v13, hv13, h14⟩ := bi_ok h12
        obtain rfl := Option.some.inj h14
        obtain rfl := hout10 _ rfl
        obtain rfl := Option.some.inj h5
        refine go hΓ 4 rfl ?_
        obtain rfl := Option.some.inj hv13
        exact fin_pure hΓ (.inr rfl) rfl rfl
      · have h15 := cF hy9 hb
        refine go hΓ 7 rfl ?_
        obtain rfl := Option.some.inj h15
        exact ⟨_, rfl, ⟨⟨rfl, rfl, rfl, get_eq rfl (w64_succ (Nat.lt_of_lt_of_le hlt hb7)), trivial⟩, [], rfl, .inl rfl⟩⟩
    · subst hgo
      refine go hΓ 6 rfl ?_
      refine j_condF rfl (decide_eq_false (Int.lt_irrefl _)) ?_
      refine go hΓ 4 rfl ?_
      exact ⟨_, rfl, ⟨⟨rfl, trivial⟩, [], rfl, .inl rfl⟩⟩
  · intro a6 ha
    subst ha
    replace h5 := goI_l h5
    refine go hΓ 8 rfl ?_
    obtain rfl := Option.some.inj h5
    exact fin_pure hΓ (.inr rfl) rfl rfl
set_option maxHeartbeats 8000000 in
theorem c_route_CheckLinks {k : Nat} {l : List T_api_Link} {r : Int} (h : m_route_CheckLinks k l = some r) : Pure Try.prog 60 [.d (Sl e_api_Link l)] (I r) := by
  refine Pure.enter (Fr.of 0 _) Try.func60 rfl (Fr.of_ok _) rfl rfl ?_
  refine go_in ?_
  unfold m_route_CheckLinks at h
  refine go hΓ 13 rfl ?_
  refine j_cond rfl (fun hb => ?_) (fun hb => ?_)
  · have h1 := cT h hb
    refine go hΓ 7 rfl ?_
    obtain rfl := Option.some.inj h1
    exact fin_pure hΓ (.inr rfl) rfl rfl
  · have h2 := cF h hb
    refine go hΓ 10 rfl ?_
    obtain ⟨q6, hq6, h7⟩ := bi_ok h2
    refine j_bound 0 rfl fun hb9 => ?_
    refine j_cutEZ (R := fun a8 => q6 = .go a8) (fun a8 => []) (fun a8 => []) ?_ ?_
    · refine go hΓ 1 rfl ?_
      refine j_range l hq6 (fun i3 s4 => [(0, .d (Sl e_api_Link l)), (8, .d (Sl e_api_Link l)), (9, I (l.length : Int)), (10, I (i3 : Int))]) (fun s4 => []) ⟨⟨rfl, rfl, rfl, rfl, trivial⟩, [], rfl, .inl rfl⟩ (fun i3 x5 s4 y13 hx10 hlt hy11 hout12 => ?_) (fun s4 hgo => ?_)
      · refine go hΓ 6 rfl ?_
        refine j_condT rfl (decide_eq_true (Int.ofNat_lt.2 hlt)) ?_
        refine go hΓ 7 rfl ?_
        refine eo_o rfl (op_elemZ hΓ (enc := e_api_Link) (getZ_nat hx10) rfl rfl rfl rfl rfl (fun _ => rfl)) ?_
        refine go_ops hΓ 1 rfl ?_
        refine eo_alloc hΓ rfl rfl rfl (Nat.le_of_ble_eq_true rfl) ?_
        refine go_ops hΓ 1 rfl ?_
        refine eo_store hΓ rfl rfl rfl rfl rfl rfl rfl rfl (Nat.le_of_ble_eq_true rfl) ?_
        refine eo_hp [.box 71 [S x5.A, S x5.v_B, I x5.Millis]] rfl ?_
        obtain ⟨y14, hy14, h15⟩ := bi_ok hy11
        refine go_ops hΓ 7 rfl ?_
        refine eo_callP (callable Try.func61 rfl rfl) (c_kit_IsKey hy14) rfl (Nat.le_of_ble_eq_true rfl) rfl rfl rfl rfl rfl ?_
        refine go_ops hΓ 2 rfl ?_
        obtain ⟨q16, hq16, h17⟩ := bi_ok h15
        refine o_cut 5 [(0, .d (Sl e_api_Link l)), (3, I (i3 : Int)), (4, .ptr 0 0), (8, .d (Sl e_api_Link l)), (9, I (l.length : Int)), (10, I (i3 : Int)), (25, B q16)] [.box 71 [S x5.A, S x5.v_B, I x5.Millis]] ?_ ?_
        · refine eo_gsplit rfl rfl (fun hb => ?_) (fun hb => ?_)
          · have h18 := cT hq16 hb
            refine go_ops hΓ 6 rfl ?_
            obtain rfl := Option.some.inj h18
            exact ⟨⟨rfl, rfl, rfl, rfl, rfl, rfl, rfl, trivial⟩, [], rfl, .inl rfl⟩
          · have h19 := cF hq16 hb
            obtain ⟨y20, hy20, h21⟩ := bi_ok h19
            refine go_ops hΓ 2 rfl ?_
            refine eo_guard rfl ?_
            refine eo_callP (callable Try.func61 rfl rfl) (c_kit_IsKey hy20) rfl (Nat.le_of_ble_eq_true rfl) rfl rfl rfl rfl rfl ?_
            refine go_ops hΓ 3 rfl ?_
            obtain rfl := Option.some.inj h21
            exact ⟨⟨rfl, rfl, rfl, rfl, rfl, rfl, rfl, trivial⟩, [], rfl, .inl rfl⟩
        · refine go_ops hΓ 3 rfl ?_
          refine j_cond rfl (fun hb => ?_) (fun hb => ?_)
          · have h22 := cT h17 hb
            refine go hΓ 9 rfl ?_
            obtain ⟨v23, hv23, h24⟩ := bi_ok h22
            obtain rfl := Option.some.inj h24
            obtain rfl := hout12 _ rfl
            obtain rfl := Option.some.inj h7
            refine go hΓ 4 rfl ?_
            obtain rfl := Option.some.inj hv23
            exact fin_pure hΓ (.inr rfl) rfl rfl
          · have h25 := cF h17 hb
            refine go hΓ 10 rfl ?_
            refine j_cond rfl (fun hb => ?_) (fun hb => ?_)
            · have h26 := cT h25 hb
              refine go hΓ 9 rfl ?_
              obtain ⟨v27, hv27, h28⟩ := bi_ok h26
              obtain rfl := Option.some.inj h28
              obtain rfl := hout12 _ rfl
              obtain rfl := Option.some.inj h7
              refine go hΓ 4 rfl ?_
              obtain rfl := Option.some.inj hv27
              exact fin_pure hΓ (.inr rfl) rfl rfl
            · have h29 := cF h25 hb
              obtain ⟨y30, hy30, h31⟩ := bi_ok h29
              refine go hΓ 4 rfl ?_
              refine eo_callP (callable Try.func53 rfl rfl) (c_kit_Outside hy30) rfl (Nat.le_of_ble_eq_true rfl) rfl rfl rfl rfl rfl ?_
              refine go_ops hΓ 3 rfl ?_
              refine j_cond rfl (fun hb => ?_) (fun hb => ?_)
              · have h32 := cT h31 hb
                refine go hΓ 9 rfl ?_
                obtain ⟨v33, hv33, h34⟩ := bi_ok h32
                obtain rfl := Option.some.inj h34
                obtain rfl := hout12 _ rfl
                obtain rfl := Option.some.inj h7
                refine go hΓ 4 rfl ?_
                obtain rfl := Option.some.inj hv33
                exact fin_pure hΓ (.inr rfl) rfl rfl
              · have h35 := cF h31 hb
                obtain ⟨q36, hq36, h37⟩ := bi_ok h35
                refine go hΓ 1 rfl ?_
                refine j_cutNZ [(0, .d (Sl e_api_Link l)), (8, .d (Sl e_api_Link l)), (9, I (l.length : Int)), (10, I (i3 : Int)), (36, B q36)] [.box 71 [S x5.A, S x5.v_B, I x5.Millis]] ?_ ?_
                · refine j_drawE [.box 71 [S x5.A, S x5.v_B, I x5.Millis]] [10, 19] [] [] hmix (by kernel_rfl) (by kernel_rfl) ⟨rfl, trivial⟩ (Nat.le_of_ble_eq_true rfl) ?_
                  refine go_E hΓ 3 rfl ?_
                  refine ge_gsplit rfl rfl (fun hb => ?_) (fun hb => ?_)
                  · have h38 := cT hq36 hb
                    obtain ⟨x39, hx39, h40⟩ := bi_ok h38
                    refine go_E hΓ 3 rfl ?_
                    refine ge_q rfl (.inr ⟨_, _, rfl, rfl⟩) (fun _ _ => qte_of_qt (qt_p (op_elemZ hΓ (enc := e_api_Link) hx39 rfl rfl rfl rfl rfl (fun _ => rfl)))) ?_
                    obtain ⟨y41, hy41, h42⟩ := bi_ok h40
                    refine go_E hΓ 4 rfl ?_
                    refine ge_callPg rfl (callable Try.func80 rfl rfl) (c_strings_Compare hy41) rfl rfl rfl rfl rfl rfl ?_
                    obtain ⟨x43, hx43, h44⟩ := bi_ok h42
                    refine go_E hΓ 3 rfl ?_
                    refine ge_q rfl (.inr ⟨_, _, rfl, rfl⟩) (fun _ _ => qte_of_qt (qt_p (op_elemZ hΓ (enc := e_api_Link) hx43 rfl rfl rfl rfl rfl (fun _ => rfl)))) ?_
                    obtain ⟨y45, hy45, h46⟩ := bi_ok h44
                    refine go_E hΓ 4 rfl ?_
                    refine ge_callPg rfl (callable Try.func80 rfl rfl) (c_strings_Compare hy45) rfl rfl rfl rfl rfl rfl ?_
                    refine ge_litTg hΓ (enc := (eN .i64)) [y41, y45] rfl rfl rfl rfl rfl rfl rfl rfl rfl rfl rfl rfl rfl ?_
                    obtain ⟨y47, hy47, h48⟩ := bi_ok h46
                    refine ge_callPg rfl (callable Try.func79 rfl rfl) (c_cmp_Or_int hy47) rfl rfl rfl rfl rfl rfl ?_
                    refine go_E hΓ 3 rfl ?_
                    refine ge_fin ?_
                    obtain rfl := Option.some.inj h48
                    exact ⟨⟨rfl, rfl, rfl, rfl, rfl, trivial⟩, [], rfl, .inl rfl⟩
                  · have h49 := cF hq36 hb
                    refine go_E hΓ 23 rfl ?_
                    refine ge_fin ?_
                    obtain rfl := Option.some.inj h49
                    exact ⟨⟨rfl, rfl, rfl, rfl, rfl, trivial⟩, [], rfl, .inl rfl⟩
                · refine go hΓ 1 rfl ?_
                  refine j_cond rfl (fun hb => ?_) (fun hb => ?_)
                  · have h50 := cT h37 hb
                    refine go hΓ 9 rfl ?_
                    obtain ⟨v51, hv51, h52⟩ := bi_ok h50
                    obtain rfl := Option.some.inj h52
                    obtain rfl := hout12 _ rfl
                    obtain rfl := Option.some.inj h7
                    refine go hΓ 4 rfl ?_
                    obtain rfl := Option.some.inj hv51
                    exact fin_pure hΓ (.inr rfl) rfl rfl
                  · have h53 := cF h37 hb
                    refine go hΓ 8 rfl ?_
                    obtain rfl := Option.some.inj h53
                    exact ⟨_, rfl, ⟨⟨rfl, rfl, rfl, get_eq rfl (w64_succ (Nat.lt_of_lt_of_le hlt hb9)), trivial⟩, [_], rfl, .inr ⟨HB.mk rfl, FB.mk rfl, (Nat.le_of_ble_eq_true rfl)⟩⟩⟩
      · subst hgo
        refine go hΓ 6 rfl ?_
        refine j_condF rfl (decide_eq_false (Int.lt_irrefl _)) ?_
        refine go hΓ 4 rfl ?_
        exact ⟨_, rfl, ⟨trivial, [], rfl, .inl rfl⟩⟩
    · intro a8 ha
      subst ha
      replace h7 := goI_l h7
      refine go hΓ 7 rfl ?_
      obtain rfl := Option.some.inj h7
      exact fin_pure hΓ (.inr rfl) rfl rfl
theorem c_route_stepsOf {l : List T_api_Link} {r : List (Str × (List T_route_step))} (h : m_route_stepsOf l = some r) : EC Try.prog 81 [.d (Sl e_api_Link l)] [] fun g hp' => g = .map 0 ∧ hp' = [mOb kS false (eL e_route_step) r] := by
  refine ec_enterC (Fr.of 0 _) Try.func81 rfl (Fr.of_ok _) (Nat.le_of_ble_eq_true rfl) fun _ => ?_
  refine go_in ?_
  unfold m_route_stepsOf at h
  refine go hΓ 7 rfl ?_
  refine eo_s (Nat.le_of_ble_eq_true rfl) (nblt.1 rfl) (ops_makeMap false) ?_
  refine eo_hp [mOb kS false (eL e_route_step) ([] : List (Str × (List T_route_step)))] rfl ?_
  refine go_ops hΓ 11 rfl ?_
  obtain ⟨q4, hq4, h5⟩ := bi_ok h
  refine j_bound 7 rfl fun hb7 => ?_
  refine j_cutNZ [(3, .map 0)] [mOb kS false (eL e_route_step) q4] ?_ ?_
  · refine go hΓ 1 rfl ?_
    refine j_rangeF l hq4 (fun i1 s2 => [(3, .map 0), (7, .d (Sl e_api_Link l)), (8, I (l.length : Int)), (9, I (i1 : Int))]) (fun s2 => [mOb kS false (eL e_route_step) s2]) ⟨⟨rfl, rfl, rfl, rfl, trivial⟩, [], rfl, .inl rfl⟩ (fun i1 x3 s2 y11 hx8 hlt hy9 => ?_) (?_)
    · refine go hΓ 6 rfl ?_
      refine j_condT rfl (decide_eq_true (Int.ofNat_lt.2 hlt)) ?_
      refine go hΓ 6 rfl ?_
      refine eo_o rfl (op_elemZ hΓ (enc := e_api_Link) (getZ_nat hx8) rfl rfl rfl rfl rfl (fun _ => rfl)) ?_
      refine go_ops hΓ 1 rfl ?_
      refine eo_alloc hΓ rfl rfl rfl (Nat.le_of_ble_eq_true rfl) ?_
      refine eo_store hΓ rfl rfl rfl rfl rfl rfl rfl rfl (Nat.le_of_ble_eq_true rfl) ?_
      refine eo_hp [mOb kS false (eL e_route_step) s2, .box 71 [S x3.A, S x3.v_B, I x3.Millis]] rfl ?_
      refine go_ops hΓ 3 rfl ?_
      refine j_drawE [.dead, .box 71 [S x3.A, S x3.v_B, I x3.Millis]] [2, 5, 8, 10] [6, 13, 14] [] hmix (by kernel_rfl) (by kernel_rfl) ⟨rfl, trivial⟩ (Nat.le_of_ble_eq_true rfl) ?_
      obtain ⟨hg13, h12⟩ := gd_ok hy9
      refine go_E hΓ 6 rfl ?_
      refine ge_h [mOb kS false (eL e_route_step) s2, .box 71 [S x3.A, S x3.v_B, I x3.Millis], .row 133 2 ([] : List T_route_step).length (([] : List T_route_step).flatMap e_route_step)] rfl rfl rfl (st_st ⟨rfl, trivial⟩) (qte_s (ops_nilV 133 2 (op_lookupNil hΓ (kv := kS) (agg := false) (enc := (eL e_route_step)) s2 x3.A rfl rfl rfl rfl key_str rfl rfl rfl rfl hg13))) ?_
      refine go_E hΓ 4 rfl ?_
      refine ge_q rfl (.inl rfl) (fun _ _ => qte_of_qt (qt_p (op_build hΓ (gs := [S x3.v_B, I x3.Millis]) rfl rfl rfl rfl rfl rfl))) ?_
      refine ge_litT hΓ (enc := e_route_step) [(⟨x3.v_B, x3.Millis⟩ : T_route_step)] rfl rfl rfl rfl rfl rfl rfl rfl rfl rfl rfl rfl ?_
      obtain ⟨y14, hy14, h15⟩ := bi_ok h12
      refine ge_h [mOb kS false (eL e_route_step) s2, .box 71 [S x3.A, S x3.v_B, I x3.Millis], .dead, .row 133 2 y14.length (y14.flatMap e_route_step)] rfl rfl rfl (st_st ⟨rfl, trivial⟩) (qte_s (ops_appendT hΓ (enc := e_route_step) (id := 2) (h2 := show Γ 133 = some ⟨_, 2, _, _⟩ from rfl) hy14 rfl rfl rfl rfl rfl rfl rfl rfl (fun _ => rfl) rfl)) ?_
      refine ge_h0 [mOb kS false (eL e_route_step) (mSet s2 x3.A y14), .box 71 [S x3.A, S x3.v_B, I x3.Millis], .dead, .dead] rfl rfl (st_st ⟨rfl, trivial⟩) (qte_u (opu_pre (gh_shr 3 [26] rfl) (opu_mapUpdate hΓ (kv := kS) (agg := false) (enc := (eL e_route_step)) (id := 0) s2 x3.A y14 rfl rfl rfl key_str rfl rfl rfl rfl rfl) (Nat.le_of_ble_eq_true rfl))) ?_
      refine ge_fin ?_
      refine go hΓ 1 rfl ?_
      refine j_drawE [.dead, .box 71 [S x3.A, S x3.v_B, I x3.Millis]] [2, 5, 8, 10] [6, 13, 14] [] hmix (by kernel_rfl) (by kernel_rfl) ⟨rfl, trivial⟩ (Nat.le_of_ble_eq_true rfl) ?_
      obtain ⟨hg17, h16⟩ := gd_ok h15
      refine go_E hΓ 6 rfl ?_
      refine ge_h [mOb kS false (eL e_route_step) (mSet s2 x3.A y14), .box 71 [S x3.A, S x3.v_B, I x3.Millis], .dead, .dead, .row 133 2 ([] : List T_route_step).length (([] : List T_route_step).flatMap e_route_step)] rfl rfl rfl (st_st ⟨rfl, trivial⟩) (qte_s (ops_nilV 133 2 (op_lookupNil hΓ (kv := kS) (agg := false) (enc := (eL e_route_step)) (mSet s2 x3.A y14) x3.v_B rfl rfl rfl rfl key_str rfl rfl rfl rfl hg17))) ?_
      refine go_E hΓ 4 rfl ?_
      refine ge_q rfl (.inl rfl) (fun _ _ => qte_of_qt (qt_p (op_build hΓ (gs := [S x3.A, I x3.Millis]) rfl rfl rfl rfl rfl rfl))) ?_
      refine ge_litT hΓ (enc := e_route_step) [(⟨x3.A, x3.Millis⟩ : T_route_step)] rfl rfl rfl rfl rfl rfl rfl rfl rfl rfl rfl rfl ?_
      obtain ⟨y18, hy18, h19⟩ := bi_ok h16
      refine ge_h [mOb kS false (eL e_route_step) (mSet s2 x3.A y14), .box 71 [S x3.A, S x3.v_B, I x3.Millis], .dead, .dead, .dead, .row 133 2 y18.length (y18.flatMap e_route_step)] rfl rfl rfl (st_st ⟨rfl, trivial⟩) (qte_s (ops_appendT hΓ (enc := e_route_step) (id := 4) (h2 := show Γ 133 = some ⟨_, 2, _, _⟩ from rfl) hy18 rfl rfl rfl rfl rfl rfl rfl rfl (fun _ => rfl) rfl)) ?_
      refine ge_h0 [mOb kS false (eL e_route_step) (mSet (mSet s2 x3.A y14) x3.v_B y18), .box 71 [S x3.A, S x3.v_B, I x3.Millis], .dead, .dead, .dead, .dead] rfl rfl (st_st ⟨rfl, trivial⟩) (qte_u (opu_pre (gh_shr 5 [40] rfl) (opu_mapUpdate hΓ (kv := kS) (agg := false) (enc := (eL e_route_step)) (id := 0) (mSet s2 x3.A y14) x3.v_B y18 rfl rfl rfl key_str rfl rfl rfl rfl rfl) (Nat.le_of_ble_eq_true rfl))) ?_
      refine ge_fin ?_
      refine go hΓ 2 rfl ?_
      refine go hΓ 4 rfl ?_
      obtain rfl := Option.some.inj h19
      exact ⟨⟨rfl, rfl, rfl, get_eq rfl (w64_succ (Nat.lt_of_lt_of_le hlt hb7)), trivial⟩, [_, _, _, _, _], rfl, .inr ⟨HB.mk rfl, FB.mk rfl, (Nat.le_of_ble_eq_true rfl)⟩⟩
    · refine go hΓ 6 rfl ?_
      refine j_condF rfl (decide_eq_false (Int.lt_irrefl _)) ?_
      refine go hΓ 4 rfl ?_
      exact ⟨⟨rfl, trivial⟩, [], rfl, .inl rfl⟩
  · refine go hΓ 8 rfl ?_
    refine cv_here ?_
    obtain rfl := Option.some.inj h5
    exact fin_objs hΓ [] (.inr rfl) rfl rfl rfl rfl (.inl rfl)
theorem c_route_far_less {a : T_route_far} {b : T_route_far} {r : Bool} (h : m_route_far_less a b = some r) : Pure Try.prog 86 [.agg [I a.millis, I a.links], .agg [I b.millis, I b.links]] (B r) := by
  refine Pure.enter (Fr.of 0 _) Try.func86 rfl (Fr.of_ok _) rfl rfl ?_
  refine go_in ?_
  unfold m_route_far_less at h
  refine go hΓ 2 rfl ?_
  refine eo_box rfl rfl rfl rfl (Nat.le_of_ble_eq_true rfl) ?_
  refine eo_box rfl rfl rfl rfl (Nat.le_of_ble_eq_true rfl) ?_
  refine go_ops hΓ 11 rfl ?_
  refine o_cut 13 [(4, B false), (23, B ((decide ((a.millis : Int) < b.millis)) || (((a.millis : Int) == b.millis) && (decide ((a.links : Int) < b.links)))))] [.box 129 [I a.millis, I a.links], .box 129 [I b.millis, I b.links]] ?_ ?_
  · refine eo_gsplit rfl rfl (fun hb => ?_) (fun hb => ?_)
    · refine go_ops hΓ 14 rfl ?_
      exact ⟨⟨rfl, get_b rfl (or_t hb), trivial⟩, [], rfl, .inl rfl⟩
    · refine go_ops hΓ 6 rfl ?_
      refine o_cut 6 [(4, B false), (10, B false), (22, B (((a.millis : Int) == b.millis) && (decide ((a.links : Int) < b.links))))] [.box 129 [I a.millis, I a.links], .box 129 [I b.millis, I b.links]] ?_ ?_
      · refine eo_gsplit rfl rfl (fun hb => ?_) (fun hb => ?_)
        · refine go_ops hΓ 7 rfl ?_
          exact ⟨⟨rfl, rfl, get_b rfl (and_t hb), trivial⟩, [], rfl, .inl rfl⟩
        · refine go_ops hΓ 7 rfl ?_
          exact ⟨⟨rfl, rfl, get_b rfl (and_f hb), trivial⟩, [], rfl, .inl rfl⟩
      · refine go_ops hΓ 2 rfl ?_
        exact ⟨⟨rfl, get_b rfl (or_f hb), trivial⟩, [], rfl, .inl rfl⟩
  · refine go_ops hΓ 4 rfl ?_
    obtain rfl := Option.some.inj h
    exact fin_pure hΓ (.inr rfl) rfl rfl
set_option maxHeartbeats 8000000 in
theorem c_route_distances {k : Nat} {steps : List (Str × (List T_route_step))} {v_from : Str} {r : List (Str × T_route_far)} (h : m_route_distances k steps v_from = some r) : EC Try.prog 82 [.map 0, S v_from] [mOb kS false (eL e_route_step) steps] fun g hp' => g = .map 1 ∧ hp' = [mOb kS false (eL e_route_step) steps, mOb kS true e_route_far r] := by
  refine ec_enterC (Fr.of 0 _) Try.func82 rfl (Fr.of_ok _) (Nat.le_of_ble_eq_true rfl) fun _ => ?_
  refine go_in ?_
  unfold m_route_distances at h
  refine go hΓ 7 rfl ?_
  refine eo_s (Nat.le_of_ble_eq_true rfl) (nblt.1 rfl) (ops_makeMap true) ?_
  refine eo_hp [mOb kS false (eL e_route_step) steps, mOb kS true e_route_far ([] : List (Str × T_route_far))] rfl ?_
  refine go_ops hΓ 1 rfl ?_
  refine eo_build hΓ (gs := [I 0, I 0]) rfl rfl rfl rfl rfl rfl rfl ?_
  refine eo_u (Nat.le_of_ble_eq_true rfl) (opu_insert hΓ (kv := kS) (agg := true) (enc := e_route_far) (id := 1) ([] : List (Str × T_route_far)) v_from (⟨0, 0⟩ : T_route_far) rfl rfl rfl key_str rfl rfl rfl rfl rfl) ?_
  refine eo_hp [mOb kS false (eL e_route_step) steps, mOb kS true e_route_far (mSet ([] : List (Str × T_route_far)) v_from (⟨0, 0⟩ : T_route_far))] rfl ?_
  refine go_ops hΓ 6 rfl ?_
  refine eo_s (Nat.le_of_ble_eq_true rfl) (nblt.1 rfl) (ops_makeMap false) ?_
  refine eo_hp [mOb kS false (eL e_route_step) steps, mOb kS true e_route_far (mSet ([] : List (Str × T_route_far)) v_from (⟨0, 0⟩ : T_route_far)), mOb kS false eB ([] : List (Str × Bool))] rfl ?_
  refine go_ops hΓ 3 rfl ?_
  obtain ⟨q4, hq4, h5⟩ := bi_ok h
  refine go hΓ 1 rfl ?_
  refine j_loop hq4 (fun s2 => [(0, .map 0), (5, .map 1), (6, .map 2)]) (fun s2 => [mOb kS false (eL e_route_step) steps, mOb kS true e_route_far s2.1, mOb kS false eB s2.2]) ⟨⟨rfl, rfl, rfl, trivial⟩, [], rfl, .inl rfl⟩ (fun s2 y10 hy8 hout9 => ?_)
  refine go hΓ 11 rfl ?_
  refine eo_range hΓ (kv := kS) (agg := true) (enc := e_route_far) s2.1 rfl rfl rfl rfl rfl (Nat.le_of_ble_eq_true rfl) (fun mr11 bs12 cl13 hpm14 hbl15 hbn16 => ?_)
  refine eo_hp [mOb kS false (eL e_route_step) steps, mObS kS true e_route_far s2.1 (rawM kS e_route_far mr11 bs12 cl13), mOb kS false eB s2.2, .iter 1 cl13 []] rfl ?_
  refine go_ops hΓ 2 rfl ?_
  obtain ⟨q22, hq22, h23⟩ := bi_ok hy8
  refine go hΓ 1 rfl ?_
  refine j_rangeP hq22 hpm14 hbl15 hbn16 (fun s17 => [(0, .map 0), (5, .map 1), (6, .map 2), (7, S s17.1), (8, B s17.2), (22, .ptr 3 0)]) (fun sn19 s17 => [mOb kS false (eL e_route_step) steps, mObS kS true e_route_far s2.1 (rawM kS e_route_far mr11 bs12 cl13), mOb kS false eB s2.2, .iter 1 cl13 sn19]) ⟨⟨rfl, rfl, rfl, rfl, rfl, rfl, trivial⟩, [], rfl, .inl rfl⟩ (fun sn19 s17 hdone24 hstep25 => ?_)
  refine go hΓ 2 rfl ?_
  refine eo_next (kv := kS) (agg := true) (enc := e_route_far) s2.1 mr11 bs12 cl13 sn19 [mOb kS false (eL e_route_step) steps, mOb kS true e_route_far s2.1, mOb kS false eB s2.2, .dead] rfl rfl rfl rfl rfl (Nat.le_of_ble_eq_true rfl) (fun hdsn19 => ?_) (fun j20 x18 b21 hjsn19 hbsn19 hnsn19 => ?_)
  · have hqsn19 := hdone24 hdsn19
    subst hqsn19
    refine go_ops hΓ 17 rfl ?_
    refine j_cond rfl (fun hb => ?_) (fun hb => ?_)
    · have h26 := cT h23 hb
      refine go hΓ 9 rfl ?_
      obtain ⟨v27, hv27, h28⟩ := bi_ok h26
      obtain rfl := Option.some.inj h28
      obtain rfl := hout9 _ rfl
      obtain rfl := Option.some.inj h5
      refine go hΓ 2 rfl ?_
      refine cv_here ?_
      obtain rfl := Option.some.inj hv27
      exact fin_objs hΓ [_, _] (.inr rfl) rfl rfl rfl rfl (.inr ⟨HB.mk rfl, rfl⟩)
    · have h29 := cF h23 hb
      refine go hΓ 6 rfl ?_
      refine eo_u (Nat.le_of_ble_eq_true rfl) (opu_mapUpdate hΓ (kv := kS) (agg := false) (enc := eB) (id := 2) s2.2 q22.1 true rfl rfl rfl key_str rfl rfl rfl rfl rfl) ?_
      refine eo_hp [mOb kS false (eL e_route_step) steps, mOb kS true e_route_far s2.1, mOb kS false eB (mSet s2.2 q22.1 true), .dead] rfl ?_
      refine go_ops hΓ 6 rfl ?_
      refine eo_o rfl (op_lookup hΓ (kv := kS) (agg := false) (enc := (eL e_route_step)) steps q22.1 ([] : List T_route_step) rfl rfl rfl rfl key_str rfl rfl rfl rfl rfl rfl rfl) ?_
      refine go_ops hΓ 4 rfl ?_
      obtain ⟨q33, hq33, h34⟩ := bi_ok h29
      refine j_bound 51 rfl fun hb36 => ?_
      refine j_cutNZ [(0, .map 0), (5, .map 1), (6, .map 2)] [mOb kS false (eL e_route_step) steps, mOb kS true e_route_far q33, mOb kS false eB (mSet s2.2 q22.1 true), .dead] ?_ ?_
      · refine go hΓ 1 rfl ?_
        refine j_rangeF ((mGet steps q22.1).getD []) hq33 (fun i30 s31 => [(0, .map 0), (5, .map 1), (6, .map 2), (7, S q22.1), (51, .d (Sl e_route_step ((mGet steps q22.1).getD []))), (52, I (((mGet steps q22.1).getD []).length : Int)), (53, I (i30 : Int))]) (fun s31 => [mOb kS false (eL e_route_step) steps, mOb kS true e_route_far s31, mOb kS false eB (mSet s2.2 q22.1 true), .dead]) ⟨⟨rfl, rfl, rfl, rfl, rfl, rfl, rfl, trivial⟩, [], rfl, .inl rfl⟩ (fun i30 x32 s31 y40 hx37 hlt hy38 => ?_) (?_)
        · refine go hΓ 6 rfl ?_
          refine j_condT rfl (decide_eq_true (Int.ofNat_lt.2 hlt)) ?_
          refine go hΓ 6 rfl ?_
          refine eo_o rfl (op_elemZ hΓ (enc := e_route_step) (getZ_nat hx37) rfl rfl rfl rfl rfl (fun _ => rfl)) ?_
          refine go_ops hΓ 1 rfl ?_
          refine eo_alloc hΓ rfl rfl rfl (Nat.le_of_ble_eq_true rfl) ?_
          refine eo_store hΓ rfl rfl rfl rfl rfl rfl rfl rfl (Nat.le_of_ble_eq_true rfl) ?_
          refine eo_hp [mOb kS false (eL e_route_step) steps, mOb kS true e_route_far s31, mOb kS false eB (mSet s2.2 q22.1 true), .dead, .box 133 [S x32.to, I x32.millis]] rfl ?_
          refine go_ops hΓ 6 rfl ?_
          refine eo_o rfl (op_lookup hΓ (kv := kS) (agg := true) (enc := e_route_far) s31 q22.1 ((⟨0, 0⟩ : T_route_far) : T_route_far) rfl rfl rfl rfl key_str rfl rfl rfl rfl rfl rfl rfl) ?_
          refine go_ops hΓ 6 rfl ?_
          refine eo_o rfl (op_lookup hΓ (kv := kS) (agg := true) (enc := e_route_far) s31 q22.1 ((⟨0, 0⟩ : T_route_far) : T_route_far) rfl rfl rfl rfl key_str rfl rfl rfl rfl rfl rfl rfl) ?_
          refine go_ops hΓ 2 rfl ?_
          refine eo_build hΓ (gs := [I (wi ((((mGet s31 q22.1).getD (⟨0, 0⟩ : T_route_far)).millis) + x32.millis)), I (wi ((((mGet s31 q22.1).getD (⟨0, 0⟩ : T_route_far)).links) + 1))]) rfl rfl rfl rfl rfl rfl rfl ?_
          refine eo_alloc hΓ rfl rfl rfl (Nat.le_of_ble_eq_true rfl) ?_
          refine eo_store hΓ rfl rfl rfl rfl rfl rfl rfl rfl (Nat.le_of_ble_eq_true rfl) ?_
          refine eo_hp [mOb kS false (eL e_route_step) steps, mOb kS true e_route_far s31, mOb kS false eB (mSet s2.2 q22.1 true), .dead, .box 133 [S x32.to, I x32.millis], .box 129 [I (wi ((((mGet s31 q22.1).getD (⟨0, 0⟩ : T_route_far)).millis) + x32.millis)), I (wi ((((mGet s31 q22.1).getD (⟨0, 0⟩ : T_route_far)).links) + 1))]] rfl ?_
          refine go_ops hΓ 7 rfl ?_
          refine eo_o rfl (op_lookupOk hΓ (kv := kS) (agg := true) (enc := e_route_far) s31 x32.to ((⟨0, 0⟩ : T_route_far) : T_route_far) rfl rfl rfl rfl key_str rfl rfl rfl rfl rfl rfl rfl) ?_
          refine go_ops hΓ 3 rfl ?_
          refine eo_alloc hΓ rfl rfl rfl (Nat.le_of_ble_eq_true rfl) ?_
          refine eo_store hΓ rfl rfl rfl rfl rfl rfl rfl rfl (Nat.le_of_ble_eq_true rfl) ?_
          refine eo_hp [mOb kS false (eL e_route_step) steps, mOb kS true e_route_far s31, mOb kS false eB (mSet s2.2 q22.1 true), .dead, .box 133 [S x32.to, I x32.millis], .box 129 [I (wi ((((mGet s31 q22.1).getD (⟨0, 0⟩ : T_route_far)).millis) + x32.millis)), I (wi ((((mGet s31 q22.1).getD (⟨0, 0⟩ : T_route_far)).links) + 1))], .box 129 [I (((mGet s31 x32.to).getD (⟨0, 0⟩ : T_route_far)).millis), I (((mGet s31 x32.to).getD (⟨0, 0⟩ : T_route_far)).links)]] rfl ?_
          refine go_ops hΓ 8 rfl ?_
          obtain ⟨q41, hq41, h42⟩ := bi_ok hy38
          refine o_cut 4 [(0, .map 0), (5, .map 1), (6, .map 2), (7, S q22.1), (12, .ptr 4 0), (13, .ptr 5 0), (51, .d (Sl e_route_step ((mGet steps q22.1).getD []))), (52, I (((mGet steps q22.1).getD []).length : Int)), (53, I (i30 : Int)), (83, B q41)] [mOb kS false (eL e_route_step) steps, mOb kS true e_route_far s31, mOb kS false eB (mSet s2.2 q22.1 true), .dead, .box 133 [S x32.to, I x32.millis], .box 129 [I (wi ((((mGet s31 q22.1).getD (⟨0, 0⟩ : T_route_far)).millis) + x32.millis)), I (wi ((((mGet s31 q22.1).getD (⟨0, 0⟩ : T_route_far)).links) + 1))], .box 129 [I (((mGet s31 x32.to).getD (⟨0, 0⟩ : T_route_far)).millis), I (((mGet s31 x32.to).getD (⟨0, 0⟩ : T_route_far)).links)]] ?_ ?_
          · refine eo_gsplit rfl rfl (fun hb => ?_) (fun hb => ?_)
            · have h43 := cT hq41 hb
              refine go_ops hΓ 5 rfl ?_
              obtain rfl := Option.some.inj h43
              exact ⟨⟨rfl, rfl, rfl, rfl, rfl, rfl, rfl, rfl, rfl, rfl, trivial⟩, [], rfl, .inl rfl⟩
            · have h44 := cF hq41 hb
              obtain ⟨y45, hy45, h46⟩ := bi_ok h44
              refine go_ops hΓ 2 rfl ?_
              refine eo_guard rfl ?_
              refine eo_callP (callable Try.func86 rfl rfl) (c_route_far_less hy45) rfl (Nat.le_of_ble_eq_true rfl) rfl rfl rfl rfl rfl ?_
              refine go_ops hΓ 2 rfl ?_
              obtain rfl := Option.some.inj h46
              exact ⟨⟨rfl, rfl, rfl, rfl, rfl, rfl, rfl, rfl, rfl, rfl, trivial⟩, [], rfl, .inl rfl⟩
          · refine go_ops hΓ 2 rfl ?_
            refine j_cond rfl (fun hb => ?_) (fun hb => ?_)
            · have h47 := cT h42 hb
              refine go hΓ 5 rfl ?_
              refine eo_u (Nat.le_of_ble_eq_true rfl) (opu_mapUpdate hΓ (kv := kS) (agg := true) (enc := e_route_far) (id := 1) s31 x32.to (⟨wi ((((mGet s31 q22.1).getD (⟨0, 0⟩ : T_route_far)).millis) + x32.millis), wi ((((mGet s31 q22.1).getD (⟨0, 0⟩ : T_route_far)).links) + 1)⟩ : T_route_far) rfl rfl rfl key_str rfl rfl rfl rfl rfl) ?_
              refine eo_hp [mOb kS false (eL e_route_step) steps, mOb kS true e_route_far (mSet s31 x32.to (⟨wi ((((mGet s31 q22.1).getD (⟨0, 0⟩ : T_route_far)).millis) + x32.millis), wi ((((mGet s31 q22.1).getD (⟨0, 0⟩ : T_route_far)).links) + 1)⟩ : T_route_far)), mOb kS false eB (mSet s2.2 q22.1 true), .dead, .box 133 [S x32.to, I x32.millis], .box 129 [I (wi ((((mGet s31 q22.1).getD (⟨0, 0⟩ : T_route_far)).millis) + x32.millis)), I (wi ((((mGet s31 q22.1).getD (⟨0, 0⟩ : T_route_far)).links) + 1))], .box 129 [I (((mGet s31 x32.to).getD (⟨0, 0⟩ : T_route_far)).millis), I (((mGet s31 x32.to).getD (⟨0, 0⟩ : T_route_far)).links)]] rfl ?_
              refine go_ops hΓ 7 rfl ?_
              obtain rfl := Option.some.inj h47
              exact ⟨⟨rfl, rfl, rfl, rfl, rfl, rfl, get_eq rfl (w64_succ (Nat.lt_of_lt_of_le hlt hb36)), trivial⟩, [_, _, _], rfl, .inr ⟨HB.mk rfl, FB.mk rfl, (Nat.le_of_ble_eq_true rfl)⟩⟩
            · have h48 := cF h42 hb
              refine go hΓ 7 rfl ?_
              obtain rfl := Option.some.inj h48
              exact ⟨⟨rfl, rfl, rfl, rfl, rfl, rfl, get_eq rfl (w64_succ (Nat.lt_of_lt_of_le hlt hb36)), trivial⟩, [_, _, _], rfl, .inr ⟨HB.mk rfl, FB.mk rfl, (Nat.le_of_ble_eq_true rfl)⟩⟩
        · refine go hΓ 6 rfl ?_
          refine j_condF rfl (decide_eq_false (Int.lt_irrefl _)) ?_
          refine go hΓ 4 rfl ?_
          exact ⟨⟨rfl, rfl, rfl, trivial⟩, [], rfl, .inl rfl⟩
      · refine go hΓ 1 rfl ?_
        obtain rfl := Option.some.inj h34
        exact ⟨_, rfl, ⟨⟨rfl, rfl, rfl, trivial⟩, [_], rfl, .inr ⟨HB.mk rfl, FB.mk rfl, (Nat.le_of_ble_eq_true rfl)⟩⟩⟩
  · obtain ⟨s49, h50⟩ := hstep25 j20 x18 b21 hjsn19 hbsn19 hnsn19
    have hssn19 := h50
    refine go_ops hΓ 10 rfl ?_
    refine eo_o rfl (op_entry (kv := kS) (agg := true) (enc := e_route_far) s2.1 mr11 bs12 cl13 sn19 hjsn19 hbsn19 rfl rfl rfl rfl (fun _ => rfl)) ?_
    refine go_ops hΓ 2 rfl ?_
    refine eo_alloc hΓ rfl rfl rfl (Nat.le_of_ble_eq_true rfl) ?_
    refine go_ops hΓ 1 rfl ?_
    refine eo_store hΓ rfl rfl rfl rfl rfl rfl rfl rfl (Nat.le_of_ble_eq_true rfl) ?_
    refine eo_hp [mOb kS false (eL e_route_step) steps, mObS kS true e_route_far s2.1 (rawM kS e_route_far mr11 bs12 cl13), mOb kS false eB s2.2, .iter 1 cl13 (sn19 ++ [b21]), .box 129 [I x18.2.millis, I x18.2.links]] rfl ?_
    refine go_ops hΓ 6 rfl ?_
    refine eo_o rfl (op_lookup hΓ (kv := kS) (agg := false) (enc := eB) s2.2 x18.1 (false : Bool) rfl rfl rfl rfl key_str rfl rfl rfl rfl rfl rfl rfl) ?_
    refine go_ops hΓ 2 rfl ?_
    obtain ⟨q51, hq51, h52⟩ := bi_ok h50
    refine o_cut 10 [(0, .map 0), (5, .map 1), (6, .map 2), (7, S s17.1), (8, B s17.2), (9, S x18.1), (22, .ptr 3 0), (42, B q51)] [mOb kS false (eL e_route_step) steps, mObS kS true e_route_far s2.1 (rawM kS e_route_far mr11 bs12 cl13), mOb kS false eB s2.2, .iter 1 cl13 (sn19 ++ [b21]), .box 129 [I x18.2.millis, I x18.2.links]] ?_ ?_
    · refine eo_gsplit rfl rfl (fun hb => ?_) (fun hb => ?_)
      · have h53 := cT hq51 hb
        refine go_ops hΓ 3 rfl ?_
        obtain ⟨q54, hq54, h55⟩ := bi_ok h53
        refine o_cut 6 [(0, .map 0), (5, .map 1), (6, .map 2), (7, S s17.1), (8, B s17.2), (9, S x18.1), (22, .ptr 3 0), (32, B true), (41, B q54)] [mOb kS false (eL e_route_step) steps, mObS kS true e_route_far s2.1 (rawM kS e_route_far mr11 bs12 cl13), mOb kS false eB s2.2, .iter 1 cl13 (sn19 ++ [b21]), .box 129 [I x18.2.millis, I x18.2.links]] ?_ ?_
        · refine eo_gsplit rfl rfl (fun hb => ?_) (fun hb => ?_)
          · have h56 := cT hq54 hb
            refine go_ops hΓ 7 rfl ?_
            obtain rfl := Option.some.inj h56
            exact ⟨⟨rfl, rfl, rfl, rfl, rfl, rfl, rfl, rfl, rfl, trivial⟩, [], rfl, .inl rfl⟩
          · have h57 := cF hq54 hb
            refine go_ops hΓ 3 rfl ?_
            refine eo_guard rfl ?_
            refine eo_o rfl (op_lookup hΓ (kv := kS) (agg := true) (enc := e_route_far) s2.1 s17.1 ((⟨0, 0⟩ : T_route_far) : T_route_far) rfl rfl rfl rfl key_str rfl rfl rfl rfl rfl rfl rfl) ?_
            obtain ⟨y58, hy58, h59⟩ := bi_ok h57
            refine eo_guard rfl ?_
            refine eo_callP (callable Try.func86 rfl rfl) (c_route_far_less hy58) rfl (Nat.le_of_ble_eq_true rfl) rfl rfl rfl rfl rfl ?_
            refine go_ops hΓ 2 rfl ?_
            obtain rfl := Option.some.inj h59
            exact ⟨⟨rfl, rfl, rfl, rfl, rfl, rfl, rfl, rfl, rfl, trivial⟩, [], rfl, .inl rfl⟩
        · refine go_ops hΓ 2 rfl ?_
          obtain rfl := Option.some.inj h55
          exact ⟨⟨rfl, rfl, rfl, rfl, rfl, rfl, rfl, rfl, trivial⟩, [], rfl, .inl rfl⟩
      · have h60 := cF hq51 hb
        refine go_ops hΓ 11 rfl ?_
        obtain rfl := Option.some.inj h60
        exact ⟨⟨rfl, rfl, rfl, rfl, rfl, rfl, rfl, rfl, trivial⟩, [], rfl, .inl rfl⟩
    · refine go_ops hΓ 2 rfl ?_
      refine j_cond rfl (fun hb => ?_) (fun hb => ?_)
      · have h61 := cT h52 hb
        refine go hΓ 6 rfl ?_
        obtain rfl := Option.some.inj h61
        exact ⟨j20, x18, b21, _, hjsn19, hbsn19, hnsn19, hssn19, ⟨⟨rfl, rfl, rfl, rfl, rfl, rfl, trivial⟩, [_], rfl, .inr ⟨HB.mk rfl, FB.mk rfl, (Nat.le_of_ble_eq_true rfl)⟩⟩⟩
      · have h62 := cF h52 hb
        refine go hΓ 2 rfl ?_
        obtain rfl := Option.some.inj h62
        exact ⟨j20, x18, b21, _, hjsn19, hbsn19, hnsn19, hssn19, ⟨⟨rfl, rfl, rfl, rfl, rfl, rfl, trivial⟩, [_], rfl, .inr ⟨HB.mk rfl, FB.mk rfl, (Nat.le_of_ble_eq_true rfl)⟩⟩⟩
set_option maxHeartbeats 8000000 in
theorem c_route_through {k : Nat} {l : List T_api_Link} {a : Str} {b : Str} {r : (List Str) × Int × Int} (h : m_route_through k l a b = some r) : Pure Try.prog 62 [.d (Sl e_api_Link l), S a, S b] (.tup [.d (Sl eS r.1), I r.2.1, I r.2.2]) := by
  refine Pure.enter (Fr.of 0 _) Try.func62 rfl (Fr.of_ok _) rfl rfl ?_
  refine go_in ?_
  unfold m_route_through at h
  obtain ⟨y1, hy1, h2⟩ := bi_ok h
  refine go hΓ 10 rfl ?_
  refine eo_callF [] (.map 0) [mOb kS false (eL e_route_step) y1] (callable Try.func81 rfl rfl) (c_route_stepsOf hy1) rfl (Nat.le_of_ble_eq_true rfl) rfl rfl rfl rfl rfl rfl rfl rfl rfl rfl ?_
  obtain ⟨y3, hy3, h4⟩ := bi_ok h2
  refine go_ops hΓ 7 rfl ?_
  refine eo_callF [0] (.map 1) [mOb kS false (eL e_route_step) y1, mOb kS true e_route_far y3] (callable Try.func82 rfl rfl) (c_route_distances hy3) rfl (Nat.le_of_ble_eq_true rfl) rfl rfl rfl rfl rfl rfl rfl rfl rfl rfl ?_
  refine go_ops hΓ 8 rfl ?_
  refine eo_o rfl (op_lookupOk hΓ (kv := kS) (agg := true) (enc := e_route_far) y3 a ((⟨0, 0⟩ : T_route_far) : T_route_far) rfl rfl rfl rfl key_str rfl rfl rfl rfl rfl rfl rfl) ?_
  refine go_ops hΓ 3 rfl ?_
  refine eo_alloc hΓ rfl rfl rfl (Nat.le_of_ble_eq_true rfl) ?_
  refine eo_store hΓ rfl rfl rfl rfl rfl rfl rfl rfl (Nat.le_of_ble_eq_true rfl) ?_
  refine eo_hp [mOb kS false (eL e_route_step) y1, mOb kS true e_route_far y3, .box 129 [I (((mGet y3 a).getD (⟨0, 0⟩ : T_route_far)).millis), I (((mGet y3 a).getD (⟨0, 0⟩ : T_route_far)).links)]] rfl ?_
  refine go_ops hΓ 9 rfl ?_
  refine j_cond rfl (fun hb => ?_) (fun hb => ?_)
  · have h5 := cT h4 hb
    refine go hΓ 9 rfl ?_
    obtain rfl := Option.some.inj h5
    exact fin_pure hΓ (.inr rfl) rfl rfl
  · have h6 := cF h4 hb
    refine go hΓ 5 rfl ?_
    refine eo_litRowT hΓ (enc := eS) [a] rfl rfl rfl rfl rfl rfl rfl rfl rfl rfl rfl rfl (Nat.le_of_ble_eq_true rfl) ?_
    refine go_ops hΓ 10 rfl ?_
    obtain ⟨q10, hq10, h11⟩ := bi_ok h6
    refine j_cutNZ [(1, S a), (10, .map 1), (13, .sl 3 q10.length)] [mOb kS false (eL e_route_step) y1, mOb kS true e_route_far y3, .box 129 [I (((mGet y3 a).getD (⟨0, 0⟩ : T_route_far)).millis), I (((mGet y3 a).getD (⟨0, 0⟩ : T_route_far)).links)], .row 9 1 q10.length (q10.flatMap eS)] ?_ ?_
    · refine go hΓ 1 rfl ?_
      refine j_loop hq10 (fun s8 => [(1, S a), (2, S b), (9, .map 0), (10, .map 1), (13, .sl 3 s8.1.length), (14, S s8.2)]) (fun s8 => [mOb kS false (eL e_route_step) y1, mOb kS true e_route_far y3, .box 129 [I (((mGet y3 a).getD (⟨0, 0⟩ : T_route_far)).millis), I (((mGet y3 a).getD (⟨0, 0⟩ : T_route_far)).links)], .row 9 1 s8.1.length (s8.1.flatMap eS)]) ⟨⟨rfl, rfl, rfl, rfl, rfl, rfl, trivial⟩, [], rfl, .inl rfl⟩ (fun s8 y16 hy14 hout15 => ?_)
      refine go hΓ 8 rfl ?_
      refine j_cond rfl (fun hb => ?_) (fun hb => ?_)
      · have h17 := cT hy14 hb
        refine go hΓ 13 rfl ?_
        refine eo_o rfl (op_lookup hΓ (kv := kS) (agg := false) (enc := (eL e_route_step)) y1 s8.2 ([] : List T_route_step) rfl rfl rfl rfl key_str rfl rfl rfl rfl rfl rfl rfl) ?_
        refine go_ops hΓ 4 rfl ?_
        obtain ⟨q21, hq21, h22⟩ := bi_ok h17
        refine j_bound 41 rfl fun hb24 => ?_
        refine j_cutNZ [(1, S a), (2, S b), (9, .map 0), (10, .map 1), (13, .sl 3 s8.1.length), (15, S q21)] [mOb kS false (eL e_route_step) y1, mOb kS true e_route_far y3, .box 129 [I (((mGet y3 a).getD (⟨0, 0⟩ : T_route_far)).millis), I (((mGet y3 a).getD (⟨0, 0⟩ : T_route_far)).links)], .row 9 1 s8.1.length (s8.1.flatMap eS)] ?_ ?_
        · refine go hΓ 1 rfl ?_
          refine j_rangeF ((mGet y1 s8.2).getD []) hq21 (fun i18 s19 => [(1, S a), (2, S b), (9, .map 0), (10, .map 1), (13, .sl 3 s8.1.length), (14, S s8.2), (15, S s19), (41, .d (Sl e_route_step ((mGet y1 s8.2).getD []))), (42, I (((mGet y1 s8.2).getD []).length : Int)), (43, I (i18 : Int))]) (fun s19 => [mOb kS false (eL e_route_step) y1, mOb kS true e_route_far y3, .box 129 [I (((mGet y3 a).getD (⟨0, 0⟩ : T_route_far)).millis), I (((mGet y3 a).getD (⟨0, 0⟩ : T_route_far)).links)], .row 9 1 s8.1.length (s8.1.flatMap eS)]) ⟨⟨rfl, rfl, rfl, rfl, rfl, rfl, rfl, rfl, rfl, rfl, trivial⟩, [], rfl, .inl rfl⟩ (fun i18 x20 s19 y28 hx25 hlt hy26 => ?_) (?_)
          · refine go hΓ 6 rfl ?_
            refine j_condT rfl (decide_eq_true (Int.ofNat_lt.2 hlt)) ?_
            refine go hΓ 6 rfl ?_
            refine eo_o rfl (op_elemZ hΓ (enc := e_route_step) (getZ_nat hx25) rfl rfl rfl rfl rfl (fun _ => rfl)) ?_
            refine go_ops hΓ 1 rfl ?_
            refine eo_alloc hΓ rfl rfl rfl (Nat.le_of_ble_eq_true rfl) ?_
            refine eo_store hΓ rfl rfl rfl rfl rfl rfl rfl rfl (Nat.le_of_ble_eq_true rfl) ?_
            refine eo_hp [mOb kS false (eL e_route_step) y1, mOb kS true e_route_far y3, .box 129 [I (((mGet y3 a).getD (⟨0, 0⟩ : T_route_far)).millis), I (((mGet y3 a).getD (⟨0, 0⟩ : T_route_far)).links)], .row 9 1 s8.1.length (s8.1.flatMap eS), .box 133 [S x20.to, I x20.millis]] rfl ?_
            refine go_ops hΓ 7 rfl ?_
            refine eo_o rfl (op_lookupOk hΓ (kv := kS) (agg := true) (enc := e_route_far) y3 x20.to ((⟨0, 0⟩ : T_route_far) : T_route_far) rfl rfl rfl rfl key_str rfl rfl rfl rfl rfl rfl rfl) ?_
            refine go_ops hΓ 3 rfl ?_
            refine eo_alloc hΓ rfl rfl rfl (Nat.le_of_ble_eq_true rfl) ?_
            refine eo_store hΓ rfl rfl rfl rfl rfl rfl rfl rfl (Nat.le_of_ble_eq_true rfl) ?_
            refine eo_hp [mOb kS false (eL e_route_step) y1, mOb kS true e_route_far y3, .box 129 [I (((mGet y3 a).getD (⟨0, 0⟩ : T_route_far)).millis), I (((mGet y3 a).getD (⟨0, 0⟩ : T_route_far)).links)], .row 9 1 s8.1.length (s8.1.flatMap eS), .box 133 [S x20.to, I x20.millis], .box 129 [I (((mGet y3 x20.to).getD (⟨0, 0⟩ : T_route_far)).millis), I (((mGet y3 x20.to).getD (⟨0, 0⟩ : T_route_far)).links)]] rfl ?_
            refine go_ops hΓ 7 rfl ?_
            refine o_cut 11 [(1, S a), (2, S b), (9, .map 0), (10, .map 1), (13, .sl 3 s8.1.length), (14, S s8.2), (15, S s19), (17, .ptr 4 0), (18, .ptr 5 0), (41, .d (Sl e_route_step ((mGet y1 s8.2).getD []))), (42, I (((mGet y1 s8.2).getD []).length : Int)), (43, I (i18 : Int)), (66, B (((mGet y3 x20.to).isSome) && ((wi ((((mGet y3 x20.to).getD (⟨0, 0⟩ : T_route_far)).millis) + x20.millis) : Int) == (((mGet y3 s8.2).getD (⟨0, 0⟩ : T_route_far)).millis))))] [mOb kS false (eL e_route_step) y1, mOb kS true e_route_far y3, .box 129 [I (((mGet y3 a).getD (⟨0, 0⟩ : T_route_far)).millis), I (((mGet y3 a).getD (⟨0, 0⟩ : T_route_far)).links)], .row 9 1 s8.1.length (s8.1.flatMap eS), .box 133 [S x20.to, I x20.millis], .box 129 [I (((mGet y3 x20.to).getD (⟨0, 0⟩ : T_route_far)).millis), I (((mGet y3 x20.to).getD (⟨0, 0⟩ : T_route_far)).links)]] ?_ ?_
            · refine eo_gsplit rfl rfl (fun hb => ?_) (fun hb => ?_)
              · refine go_ops hΓ 7 rfl ?_
                refine eo_guard rfl ?_
                refine eo_o rfl (op_lookup hΓ (kv := kS) (agg := true) (enc := e_route_far) y3 s8.2 ((⟨0, 0⟩ : T_route_far) : T_route_far) rfl rfl rfl rfl key_str rfl rfl rfl rfl rfl rfl rfl) ?_
                refine go_ops hΓ 4 rfl ?_
                exact ⟨⟨rfl, rfl, rfl, rfl, rfl, rfl, rfl, rfl, rfl, rfl, rfl, rfl, get_b rfl (and_t hb), trivial⟩, [], rfl, .inl rfl⟩
              · refine go_ops hΓ 12 rfl ?_
                exact ⟨⟨rfl, rfl, rfl, rfl, rfl, rfl, rfl, rfl, rfl, rfl, rfl, rfl, get_b rfl (and_f hb), trivial⟩, [], rfl, .inl rfl⟩
            · refine go_ops hΓ 1 rfl ?_
              refine o_cut 9 [(1, S a), (2, S b), (9, .map 0), (10, .map 1), (13, .sl 3 s8.1.length), (14, S s8.2), (15, S s19), (17, .ptr 4 0), (41, .d (Sl e_route_step ((mGet y1 s8.2).getD []))), (42, I (((mGet y1 s8.2).getD []).length : Int)), (43, I (i18 : Int)), (76, B ((((mGet y3 x20.to).isSome) && ((wi ((((mGet y3 x20.to).getD (⟨0, 0⟩ : T_route_far)).millis) + x20.millis) : Int) == (((mGet y3 s8.2).getD (⟨0, 0⟩ : T_route_far)).millis))) && ((wi ((((mGet y3 x20.to).getD (⟨0, 0⟩ : T_route_far)).links) + 1) : Int) == (((mGet y3 s8.2).getD (⟨0, 0⟩ : T_route_far)).links))))] [mOb kS false (eL e_route_step) y1, mOb kS true e_route_far y3, .box 129 [I (((mGet y3 a).getD (⟨0, 0⟩ : T_route_far)).millis), I (((mGet y3 a).getD (⟨0, 0⟩ : T_route_far)).links)], .row 9 1 s8.1.length (s8.1.flatMap eS), .box 133 [S x20.to, I x20.millis], .box 129 [I (((mGet y3 x20.to).getD (⟨0, 0⟩ : T_route_far)).millis), I (((mGet y3 x20.to).getD (⟨0, 0⟩ : T_route_far)).links)]] ?_ ?_
              · refine eo_gsplit rfl rfl (fun hb => ?_) (fun hb => ?_)
                · refine go_ops hΓ 5 rfl ?_
                  refine eo_guard rfl ?_
                  refine eo_o rfl (op_lookup hΓ (kv := kS) (agg := true) (enc := e_route_far) y3 s8.2 ((⟨0, 0⟩ : T_route_far) : T_route_far) rfl rfl rfl rfl key_str rfl rfl rfl rfl rfl rfl rfl) ?_
                  refine go_ops hΓ 4 rfl ?_
                  exact ⟨⟨rfl, rfl, rfl, rfl, rfl, rfl, rfl, rfl, rfl, rfl, rfl, get_b rfl (and_t hb), trivial⟩, [], rfl, .inl rfl⟩
                · refine go_ops hΓ 10 rfl ?_
                  exact ⟨⟨rfl, rfl, rfl, rfl, rfl, rfl, rfl, rfl, rfl, rfl, rfl, get_b rfl (and_f hb), trivial⟩, [], rfl, .inl rfl⟩
              · refine go_ops hΓ 1 rfl ?_
                refine o_cut 9 [(1, S a), (2, S b), (9, .map 0), (10, .map 1), (13, .sl 3 s8.1.length), (14, S s8.2), (15, S s19), (17, .ptr 4 0), (41, .d (Sl e_route_step ((mGet y1 s8.2).getD []))), (42, I (((mGet y1 s8.2).getD []).length : Int)), (43, I (i18 : Int)), (86, B (((((mGet y3 x20.to).isSome) && ((wi ((((mGet y3 x20.to).getD (⟨0, 0⟩ : T_route_far)).millis) + x20.millis) : Int) == (((mGet y3 s8.2).getD (⟨0, 0⟩ : T_route_far)).millis))) && ((wi ((((mGet y3 x20.to).getD (⟨0, 0⟩ : T_route_far)).links) + 1) : Int) == (((mGet y3 s8.2).getD (⟨0, 0⟩ : T_route_far)).links))) && (((s19 : Str) == []) || (Op.bytesLess x20.to s19))))] [mOb kS false (eL e_route_step) y1, mOb kS true e_route_far y3, .box 129 [I (((mGet y3 a).getD (⟨0, 0⟩ : T_route_far)).millis), I (((mGet y3 a).getD (⟨0, 0⟩ : T_route_far)).links)], .row 9 1 s8.1.length (s8.1.flatMap eS), .box 133 [S x20.to, I x20.millis], .box 129 [I (((mGet y3 x20.to).getD (⟨0, 0⟩ : T_route_far)).millis), I (((mGet y3 x20.to).getD (⟨0, 0⟩ : T_route_far)).links)]] ?_ ?_
                · refine eo_gsplit rfl rfl (fun hb => ?_) (fun hb => ?_)
                  · refine go_ops hΓ 3 rfl ?_
                    refine o_cut 5 [(1, S a), (2, S b), (9, .map 0), (10, .map 1), (13, .sl 3 s8.1.length), (14, S s8.2), (15, S s19), (17, .ptr 4 0), (41, .d (Sl e_route_step ((mGet y1 s8.2).getD []))), (42, I (((mGet y1 s8.2).getD []).length : Int)), (43, I (i18 : Int)), (77, B true), (85, B (((s19 : Str) == []) || (Op.bytesLess x20.to s19)))] [mOb kS false (eL e_route_step) y1, mOb kS true e_route_far y3, .box 129 [I (((mGet y3 a).getD (⟨0, 0⟩ : T_route_far)).millis), I (((mGet y3 a).getD (⟨0, 0⟩ : T_route_far)).links)], .row 9 1 s8.1.length (s8.1.flatMap eS), .box 133 [S x20.to, I x20.millis], .box 129 [I (((mGet y3 x20.to).getD (⟨0, 0⟩ : T_route_far)).millis), I (((mGet y3 x20.to).getD (⟨0, 0⟩ : T_route_far)).links)]] ?_ ?_
                    · refine eo_gsplit rfl rfl (fun hb => ?_) (fun hb => ?_)
                      · refine go_ops hΓ 6 rfl ?_
                        exact ⟨⟨rfl, rfl, rfl, rfl, rfl, rfl, rfl, rfl, rfl, rfl, rfl, rfl, get_b rfl (or_t hb), trivial⟩, [], rfl, .inl rfl⟩
                      · refine go_ops hΓ 6 rfl ?_
                        exact ⟨⟨rfl, rfl, rfl, rfl, rfl, rfl, rfl, rfl, rfl, rfl, rfl, rfl, get_b rfl (or_f hb), trivial⟩, [], rfl, .inl rfl⟩
                    · refine go_ops hΓ 2 rfl ?_
                      exact ⟨⟨rfl, rfl, rfl, rfl, rfl, rfl, rfl, rfl, rfl, rfl, rfl, get_b rfl (and_t hb), trivial⟩, [], rfl, .inl rfl⟩
                  · refine go_ops hΓ 10 rfl ?_
                    exact ⟨⟨rfl, rfl, rfl, rfl, rfl, rfl, rfl, rfl, rfl, rfl, rfl, get_b rfl (and_f hb), trivial⟩, [], rfl, .inl rfl⟩
                · refine go_ops hΓ 2 rfl ?_
                  refine j_cond rfl (fun hb => ?_) (fun hb => ?_)
                  · have h29 := cT hy26 hb
                    refine go hΓ 11 rfl ?_
                    obtain rfl := Option.some.inj h29
                    exact ⟨⟨rfl, rfl, rfl, rfl, rfl, rfl, rfl, rfl, rfl, get_eq rfl (w64_succ (Nat.lt_of_lt_of_le hlt hb24)), trivial⟩, [_, _], rfl, .inr ⟨HB.mk rfl, FB.mk rfl, (Nat.le_of_ble_eq_true rfl)⟩⟩
                  · have h30 := cF hy26 hb
                    refine go hΓ 7 rfl ?_
                    obtain rfl := Option.some.inj h30
                    exact ⟨⟨rfl, rfl, rfl, rfl, rfl, rfl, rfl, rfl, rfl, get_eq rfl (w64_succ (Nat.lt_of_lt_of_le hlt hb24)), trivial⟩, [_, _], rfl, .inr ⟨HB.mk rfl, FB.mk rfl, (Nat.le_of_ble_eq_true rfl)⟩⟩
          · refine go hΓ 6 rfl ?_
            refine j_condF rfl (decide_eq_false (Int.lt_irrefl _)) ?_
            refine go hΓ 4 rfl ?_
            exact ⟨⟨rfl, rfl, rfl, rfl, rfl, rfl, trivial⟩, [], rfl, .inl rfl⟩
        · refine go hΓ 10 rfl ?_
          refine eo_litT hΓ (enc := eS) [q21] rfl rfl rfl rfl rfl rfl rfl rfl rfl rfl rfl rfl (Nat.le_of_ble_eq_true rfl) ?_
          obtain ⟨y31, hy31, h32⟩ := bi_ok h22
          refine eo_appendT hΓ (enc := eS) hy31 rfl rfl rfl rfl rfl rfl rfl rfl rfl (fun _ => rfl) rfl rfl rfl rfl ?_
          refine go_ops hΓ 3 rfl ?_
          obtain rfl := Option.some.inj h32
          exact ⟨_, rfl, ⟨⟨rfl, rfl, rfl, rfl, rfl, rfl, trivial⟩, [], rfl, .inl rfl⟩⟩
      · have h33 := cF hy14 hb
        refine go hΓ 4 rfl ?_
        obtain rfl := Option.some.inj h33
        obtain rfl := hout15 _ rfl
        exact ⟨⟨rfl, rfl, rfl, trivial⟩, [], rfl, .inl rfl⟩
    · refine go hΓ 2 rfl ?_
      refine j_draw hmix (by kernel_rfl) ?_
      refine go hΓ 3 rfl ?_
      refine gl_o rfl (op_lookup hΓ (kv := kS) (agg := true) (enc := e_route_far) y3 a ((⟨0, 0⟩ : T_route_far) : T_route_far) rfl rfl rfl rfl key_str rfl rfl rfl rfl rfl rfl rfl) ?_
      refine go_draw hΓ 6 rfl ?_
      refine j_shr 3 [6, 13, 95] _ [mOb kS false (eL e_route_step) y1, mOb kS true e_route_far y3, .box 129 [I (((mGet y3 a).getD (⟨0, 0⟩ : T_route_far)).millis), I (((mGet y3 a).getD (⟨0, 0⟩ : T_route_far)).links)], .dead] rfl rfl rfl (Nat.le_of_ble_eq_true rfl) ?_
      refine go hΓ 1 rfl ?_
      obtain rfl := Option.some.inj h11
      exact fin_pure hΓ (.inr rfl) rfl rfl
theorem c_route_Through {k : Nat} {l : List T_api_Link} {a : Str} {b : Str} {r : (List Str) × Int × Int} (h : m_route_Through k l a b = some r) : Pure Try.prog 30 [.d (Sl e_api_Link l), S a, S b] (.tup [.d (Sl eS r.1), I r.2.1, I r.2.2]) := by
  refine Pure.enter (Fr.of 0 _) Try.func30 rfl (Fr.of_ok _) rfl rfl ?_
  refine go_in ?_
  unfold m_route_Through at h
  obtain ⟨y1, hy1, h2⟩ := bi_ok h
  refine go hΓ 11 rfl ?_
  refine eo_callP (callable Try.func60 rfl rfl) (c_route_CheckLinks hy1) rfl (Nat.le_of_ble_eq_true rfl) rfl rfl rfl rfl rfl ?_
  refine go_ops hΓ 9 rfl ?_
  refine j_cond rfl (fun hb => ?_) (fun hb => ?_)
  · have h3 := cT h2 hb
    refine go hΓ 10 rfl ?_
    obtain rfl := Option.some.inj h3
    exact fin_pure hΓ (.inr rfl) rfl rfl
  · have h4 := cF h2 hb
    obtain ⟨y5, hy5, h6⟩ := bi_ok h4
    refine go hΓ 6 rfl ?_
    refine eo_callP (callable Try.func61 rfl rfl) (c_kit_IsKey hy5) rfl (Nat.le_of_ble_eq_true rfl) rfl rfl rfl rfl rfl ?_
    refine go_ops hΓ 2 rfl ?_
    obtain ⟨q7, hq7, h8⟩ := bi_ok h6
    refine o_cut 4 [(0, .d (Sl e_api_Link l)), (1, S a), (2, S b), (22, B q7)] [] ?_ ?_
    · refine eo_gsplit rfl rfl (fun hb => ?_) (fun hb => ?_)
      · have h9 := cT hq7 hb
        refine go_ops hΓ 5 rfl ?_
        obtain rfl := Option.some.inj h9
        exact ⟨⟨rfl, rfl, rfl, rfl, trivial⟩, [], rfl, .inl rfl⟩
      · have h10 := cF hq7 hb
        obtain ⟨y11, hy11, h12⟩ := bi_ok h10
        refine go_ops hΓ 1 rfl ?_
        refine eo_guard rfl ?_
        refine eo_callP (callable Try.func61 rfl rfl) (c_kit_IsKey hy11) rfl (Nat.le_of_ble_eq_true rfl) rfl rfl rfl rfl rfl ?_
        refine go_ops hΓ 3 rfl ?_
        obtain rfl := Option.some.inj h12
        exact ⟨⟨rfl, rfl, rfl, rfl, trivial⟩, [], rfl, .inl rfl⟩
    · refine go_ops hΓ 2 rfl ?_
      refine j_cond rfl (fun hb => ?_) (fun hb => ?_)
      · have h13 := cT h8 hb
        refine go hΓ 9 rfl ?_
        obtain rfl := Option.some.inj h13
        exact fin_pure hΓ (.inr rfl) rfl rfl
      · have h14 := cF h8 hb
        obtain ⟨y15, hy15, h16⟩ := bi_ok h14
        refine go hΓ 7 rfl ?_
        refine eo_callP (callable Try.func62 rfl rfl) (c_route_through hy15) rfl (Nat.le_of_ble_eq_true rfl) rfl rfl rfl rfl rfl ?_
        refine go_ops hΓ 9 rfl ?_
        obtain rfl := Option.some.inj h16
        exact fin_pure hΓ (.inr rfl) rfl rfl
theorem c_slices_Equal_string_string {s1 : List Str} {s2 : List Str} {r : Bool} (h : m_slices_Equal_string_string s1 s2 = some r) : Pure Try.prog 31 [.d (Sl eS s1), .d (Sl eS s2)] (B r) := by
  refine Pure.enter (Fr.of 0 _) Try.func31 rfl (Fr.of_ok _) rfl rfl ?_
  refine go_in ?_
  unfold m_slices_Equal_string_string at h
  refine go hΓ 15 rfl ?_
  refine j_cond rfl (fun hb => ?_) (fun hb => ?_)
  · have h1 := cT h hb
    refine go hΓ 7 rfl ?_
    obtain rfl := Option.some.inj h1
    exact fin_pure hΓ (.inr rfl) rfl rfl
  · have h2 := cF h hb
    refine go hΓ 10 rfl ?_
    obtain ⟨q6, hq6, h7⟩ := bi_ok h2
    refine j_bound 0 rfl fun hb9 => ?_
    refine j_cutEZ (R := fun a8 => q6 = .go a8) (fun a8 => []) (fun a8 => []) ?_ ?_
    · refine go hΓ 1 rfl ?_
      refine j_range s1 hq6 (fun i3 s4 => [(0, .d (Sl eS s1)), (1, .d (Sl eS s2)), (12, I (s1.length : Int)), (13, I (i3 : Int))]) (fun s4 => []) ⟨⟨rfl, rfl, rfl, rfl, trivial⟩, [], rfl, .inl rfl⟩ (fun i3 x5 s4 y13 hx10 hlt hy11 hout12 => ?_) (fun s4 hgo => ?_)
      · refine go hΓ 6 rfl ?_
        refine j_condT rfl (decide_eq_true (Int.ofNat_lt.2 hlt)) ?_
        refine go hΓ 11 rfl ?_
        refine j_draw hmix (by kernel_rfl) ?_
        refine go hΓ 2 rfl ?_
        refine gl_o rfl (op_elemZ hΓ (enc := eS) (getZ_nat hx10) rfl rfl rfl rfl rfl (fun _ => rfl)) ?_
        obtain ⟨x14, hx14, h15⟩ := bi_ok hy11
        refine go_draw hΓ 3 rfl ?_
        refine gl_o rfl (op_elemZ hΓ (enc := eS) hx14 rfl rfl rfl rfl rfl (fun _ => rfl)) ?_
        refine go_draw hΓ 4 rfl ?_
        refine j_cond rfl (fun hb => ?_) (fun hb => ?_)
        · have h16 := cT h15 hb
          refine go hΓ 8 rfl ?_
          obtain ⟨v17, hv17, h18⟩ := bi_ok h16
          obtain rfl := Option.some.inj h18
          obtain rfl := hout12 _ rfl
          obtain rfl := Option.some.inj h7
          refine go hΓ 4 rfl ?_
          obtain rfl := Option.some.inj hv17
          exact fin_pure hΓ (.inr rfl) rfl rfl
        · have h19 := cF h15 hb
          refine go hΓ 7 rfl ?_
          obtain rfl := Option.some.inj h19
          exact ⟨_, rfl, ⟨⟨rfl, rfl, rfl, get_eq rfl (w64_succ (Nat.lt_of_lt_of_le hlt hb9)), trivial⟩, [], rfl, .inl rfl⟩⟩
      · subst hgo
        refine go hΓ 6 rfl ?_
        refine j_condF rfl (decide_eq_false (Int.lt_irrefl _)) ?_
        refine go hΓ 4 rfl ?_
        exact ⟨_, rfl, ⟨trivial, [], rfl, .inl rfl⟩⟩
    · intro a8 ha
      subst ha
      replace h7 := goI_l h7
      refine go hΓ 7 rfl ?_
      obtain rfl := Option.some.inj h7
      exact fin_pure hΓ (.inr rfl) rfl rfl
theorem c_lanelaw1_routed {k : Nat} {r : Bool} (h : m_lanelaw1_routed k = some r) : Pure Try.prog 8 [] (B r) := by
  refine Pure.enter (Fr.of 0 _) Try.func8 rfl (Fr.of_ok _) rfl rfl ?_
  refine go_in ?_
  unfold m_lanelaw1_routed at h
  refine go hΓ 7 rfl ?_
  refine eo_build hΓ (gs := [S [97], S [98], I 3]) rfl rfl rfl rfl rfl rfl rfl ?_
  refine eo_litT hΓ (enc := e_api_Link) [(⟨[97], [98], 3⟩ : T_api_Link)] rfl rfl rfl rfl rfl rfl rfl rfl rfl rfl rfl rfl (Nat.le_of_ble_eq_true rfl) ?_
  obtain ⟨y1, hy1, h2⟩ := bi_ok h
  refine eo_callP (callable Try.func30 rfl rfl) (c_route_Through hy1) rfl (Nat.le_of_ble_eq_true rfl) rfl rfl rfl rfl rfl ?_
  refine go_ops hΓ 14 rfl ?_
  refine o_cut 3 [(0, B false), (1, .d (Sl eS y1.1)), (16, B (((y1.2.2 : Int) == 0) && ((y1.2.1 : Int) == 3)))] [] ?_ ?_
  · refine eo_gsplit rfl rfl (fun hb => ?_) (fun hb => ?_)
    · refine go_ops hΓ 4 rfl ?_
      exact ⟨⟨rfl, rfl, get_b rfl (and_t hb), trivial⟩, [], rfl, .inl rfl⟩
    · refine go_ops hΓ 4 rfl ?_
      exact ⟨⟨rfl, rfl, get_b rfl (and_f hb), trivial⟩, [], rfl, .inl rfl⟩
  · refine go_ops hΓ 1 rfl ?_
    obtain ⟨q3, hq3, h4⟩ := bi_ok h2
    refine o_cut 4 [(0, B false), (21, B q3)] [] ?_ ?_
    · refine eo_gsplit rfl rfl (fun hb => ?_) (fun hb => ?_)
      · have h5 := cT hq3 hb
        refine go_ops hΓ 1 rfl ?_
        refine eo_guard rfl ?_
        refine eo_litT hΓ (enc := eS) [[98], [97]] rfl rfl rfl rfl rfl rfl rfl rfl rfl rfl rfl rfl (Nat.le_of_ble_eq_true rfl) ?_
        obtain ⟨y6, hy6, h7⟩ := bi_ok h5
        refine eo_guard rfl ?_
        refine eo_callP (callable Try.func31 rfl rfl) (c_slices_Equal_string_string hy6) rfl (Nat.le_of_ble_eq_true rfl) rfl rfl rfl rfl rfl ?_
        refine go_ops hΓ 2 rfl ?_
        obtain rfl := Option.some.inj h7
        exact ⟨⟨rfl, rfl, trivial⟩, [], rfl, .inl rfl⟩
      · have h8 := cF hq3 hb
        refine go_ops hΓ 5 rfl ?_
        obtain rfl := Option.some.inj h8
        exact ⟨⟨rfl, rfl, trivial⟩, [], rfl, .inl rfl⟩
    · refine go_ops hΓ 4 rfl ?_
      obtain rfl := Option.some.inj h4
      exact fin_pure hΓ (.inr rfl) rfl rfl
theorem c_laneref1_NewTranslator {n : T_api_Nat} {r : T_laneref1_Translator} (h : m_laneref1_NewTranslator n = some r) : EC Try.prog 9 [.agg [I n.Maps, I n.Lets, I n.Timeout, I n.First, I n.Ports, B n.Outer.Six, U n.Outer.Hi, U n.Outer.Lo]] [] fun g hp' => g = .ptr 1 0 ∧ hp' = [.row 93 10 r.out.length (r.out.flatMap e_laneref1_sent), .box 76 [I r.n.Maps, I r.n.Lets, I r.n.Timeout, I r.n.First, I r.n.Ports, B r.n.Outer.Six, U r.n.Outer.Hi, U r.n.Outer.Lo, .sl 0 r.out.length, I r.last, I r.now]] := by
  refine ec_enterC (Fr.of 0 _) Try.func9 rfl (Fr.of_ok _) (Nat.le_of_ble_eq_true rfl) fun _ => ?_
  refine go_in ?_
  unfold m_laneref1_NewTranslator at h
  refine go hΓ 2 rfl ?_
  refine eo_box rfl rfl rfl rfl (Nat.le_of_ble_eq_true rfl) ?_
  refine go_ops hΓ 6 rfl ?_
  refine eo_s (Nat.le_of_ble_eq_true rfl) (nblt.1 rfl) (ops_nilAt 93 10 8 (OpP.s (op_buildX hΓ [8] (gs := [I n.Maps, I n.Lets, I n.Timeout, I n.First, I n.Ports, B n.Outer.Six, U n.Outer.Hi, U n.Outer.Lo, .d (.v (.slice none 0 0)), I 0, I 0]) rfl rfl rfl rfl rfl rfl)) rfl) ?_
  refine eo_box rfl rfl rfl rfl (Nat.le_of_ble_eq_true rfl) ?_
  refine go_ops hΓ 4 rfl ?_
  refine cv_kill 0 [.dead, .row 93 10 ([] : List T_laneref1_sent).length (([] : List T_laneref1_sent).flatMap e_laneref1_sent), .box 76 [I n.Maps, I n.Lets, I n.Timeout, I n.First, I n.Ports, B n.Outer.Six, U n.Outer.Hi, U n.Outer.Lo, .sl 1 ([] : List T_laneref1_sent).length, I 0, I 0]] rfl (Nat.le_of_ble_eq_true rfl) ?_
  refine cv_move 1 0 [.row 93 10 ([] : List T_laneref1_sent).length (([] : List T_laneref1_sent).flatMap e_laneref1_sent), .dead, .box 76 [I n.Maps, I n.Lets, I n.Timeout, I n.First, I n.Ports, B n.Outer.Six, U n.Outer.Hi, U n.Outer.Lo, .sl 0 ([] : List T_laneref1_sent).length, I 0, I 0]] rfl rfl rfl rfl rfl rfl ?_
  refine cv_move 2 1 [.row 93 10 ([] : List T_laneref1_sent).length (([] : List T_laneref1_sent).flatMap e_laneref1_sent), .box 76 [I n.Maps, I n.Lets, I n.Timeout, I n.First, I n.Ports, B n.Outer.Six, U n.Outer.Hi, U n.Outer.Lo, .sl 0 ([] : List T_laneref1_sent).length, I 0, I 0], .dead] rfl rfl rfl rfl rfl rfl ?_
  refine cv_here ?_
  obtain rfl := Option.some.inj h
  exact fin_objs hΓ [_] (.inr rfl) rfl rfl rfl rfl (.inr ⟨HB.mk rfl, rfl⟩)
theorem c_laneref2_in {n : Int} {low : Int} {high : Int} {r : Bool} (h : m_laneref2_in n low high = some r) : Pure Try.prog 84 [I n, I low, I high] (B r) := by
  refine Pure.enter (Fr.of 0 _) Try.func84 rfl (Fr.of_ok _) rfl rfl ?_
  refine go_in ?_
  unfold m_laneref2_in at h
  refine go hΓ 11 rfl ?_
  refine o_cut 4 [(6, B false), (14, B ((decide ((low : Int) ≤ n)) && (decide ((n : Int) ≤ high))))] [] ?_ ?_
  · refine eo_gsplit rfl rfl (fun hb => ?_) (fun hb => ?_)
    · refine go_ops hΓ 5 rfl ?_
      exact ⟨⟨rfl, get_b rfl (and_t hb), trivial⟩, [], rfl, .inl rfl⟩
    · refine go_ops hΓ 5 rfl ?_
      exact ⟨⟨rfl, get_b rfl (and_f hb), trivial⟩, [], rfl, .inl rfl⟩
  · refine go_ops hΓ 4 rfl ?_
    obtain rfl := Option.some.inj h
    exact fin_pure hΓ (.inr rfl) rfl rfl
theorem c_laneref2_Moment {v_at : Int} {r : Bool} (h : m_laneref2_Moment v_at = some r) : Pure Try.prog 72 [I v_at] (B r) := by
  refine Pure.enter (Fr.of 0 _) Try.func72 rfl (Fr.of_ok _) rfl rfl ?_
  refine go_in ?_
  unfold m_laneref2_Moment at h
  obtain ⟨y1, hy1, h2⟩ := bi_ok h
  refine go hΓ 8 rfl ?_
  refine eo_callP (callable Try.func84 rfl rfl) (c_laneref2_in hy1) rfl (Nat.le_of_ble_eq_true rfl) rfl rfl rfl rfl rfl ?_
  refine go_ops hΓ 4 rfl ?_
  obtain rfl := Option.some.inj h2
  exact fin_pure hΓ (.inr rfl) rfl rfl
theorem c_laneref1_Translator_timeFault {t : T_laneref1_Translator} {v_at : Int} {r : Int} (h : m_laneref1_Translator_timeFault t v_at = some r) : EC Try.prog 42 [.ptr 1 0, I v_at] [.row 93 10 t.out.length (t.out.flatMap e_laneref1_sent), .box 76 [I t.n.Maps, I t.n.Lets, I t.n.Timeout, I t.n.First, I t.n.Ports, B t.n.Outer.Six, U t.n.Outer.Hi, U t.n.Outer.Lo, .sl 0 t.out.length, I t.last, I t.now]] fun g hp' => g = I r ∧ hp' = [.row 93 10 t.out.length (t.out.flatMap e_laneref1_sent), .box 76 [I t.n.Maps, I t.n.Lets, I t.n.Timeout, I t.n.First, I t.n.Ports, B t.n.Outer.Six, U t.n.Outer.Hi, U t.n.Outer.Lo, .sl 0 t.out.length, I t.last, I t.now]] := by
  refine ec_enter (Fr.of 0 _) Try.func42 rfl (Fr.of_ok _) (Nat.le_of_ble_eq_true rfl) fun _ => ?_
  refine go_in ?_
  unfold m_laneref1_Translator_timeFault at h
  obtain ⟨y1, hy1, h2⟩ := bi_ok h
  refine go hΓ 10 rfl ?_
  refine eo_callP (callable Try.func72 rfl rfl) (c_laneref2_Moment hy1) rfl (Nat.le_of_ble_eq_true rfl) rfl rfl rfl rfl rfl ?_
  refine go_ops hΓ 4 rfl ?_
  refine j_cond rfl (fun hb => ?_) (fun hb => ?_)
  · have h3 := cT h2 hb
    refine go hΓ 8 rfl ?_
    obtain rfl := Option.some.inj h3
    exact fin_objs hΓ [] (.inr rfl) rfl rfl rfl rfl (.inl rfl)
  · have h4 := cF h2 hb
    refine go hΓ 11 rfl ?_
    refine j_cond rfl (fun hb => ?_) (fun hb => ?_)
    · have h5 := cT h4 hb
      refine go hΓ 8 rfl ?_
      obtain rfl := Option.some.inj h5
      exact fin_objs hΓ [] (.inr rfl) rfl rfl rfl rfl (.inl rfl)
    · have h6 := cF h4 hb
      refine go hΓ 9 rfl ?_
      obtain rfl := Option.some.inj h6
      exact fin_objs hΓ [] (.inr rfl) rfl rfl rfl rfl (.inl rfl)
theorem c_laneref1_SpotFault {s : T_api_Spot} {r : Int} (h : m_laneref1_SpotFault s = some r) : Pure Try.prog 43 [.agg [B s.Addr.Six, U s.Addr.Hi, U s.Addr.Lo, I s.Port]] (I r) := by
  refine Pure.enter (Fr.of 0 _) Try.func43 rfl (Fr.of_ok _) rfl rfl ?_
  refine go_in ?_
  unfold m_laneref1_SpotFault at h
  refine go hΓ 2 rfl ?_
  refine eo_box rfl rfl rfl rfl (Nat.le_of_ble_eq_true rfl) ?_
  obtain ⟨y1, hy1, h2⟩ := bi_ok h
  refine go_ops hΓ 8 rfl ?_
  refine eo_callP (callable Try.func29 rfl rfl) (c_laneref2_AddrFault hy1) rfl (Nat.le_of_ble_eq_true rfl) rfl rfl rfl rfl rfl ?_
  refine go_ops hΓ 9 rfl ?_
  refine j_cond rfl (fun hb => ?_) (fun hb => ?_)
  · have h3 := cT h2 hb
    refine go hΓ 8 rfl ?_
    obtain rfl := Option.some.inj h3
    exact fin_pure hΓ (.inr rfl) rfl rfl
  · have h4 := cF h2 hb
    obtain ⟨y5, hy5, h6⟩ := bi_ok h4
    refine go hΓ 7 rfl ?_
    refine eo_callP (callable Try.func28 rfl rfl) (c_laneref1_in hy5) rfl (Nat.le_of_ble_eq_true rfl) rfl rfl rfl rfl rfl ?_
    refine go_ops hΓ 3 rfl ?_
    refine j_cond rfl (fun hb => ?_) (fun hb => ?_)
    · have h7 := cT h6 hb
      refine go hΓ 7 rfl ?_
      obtain rfl := Option.some.inj h7
      exact fin_pure hΓ (.inr rfl) rfl rfl
    · have h8 := cF h6 hb
      refine go hΓ 8 rfl ?_
      obtain rfl := Option.some.inj h8
      exact fin_pure hΓ (.inr rfl) rfl rfl
theorem c_laneref1_Translator_same {t : T_laneref1_Translator} {a : T_api_Spot} {b : T_api_Spot} {r : Bool} (h : m_laneref1_Translator_same t a b = some r) : EC Try.prog 45 [.ptr 1 0, .agg [B a.Addr.Six, U a.Addr.Hi, U a.Addr.Lo, I a.Port], .agg [B b.Addr.Six, U b.Addr.Hi, U b.Addr.Lo, I b.Port]] [.row 93 10 t.out.length (t.out.flatMap e_laneref1_sent), .box 76 [I t.n.Maps, I t.n.Lets, I t.n.Timeout, I t.n.First, I t.n.Ports, B t.n.Outer.Six, U t.n.Outer.Hi, U t.n.Outer.Lo, .sl 0 t.out.length, I t.last, I t.now]] fun g hp' => g = B r ∧ hp' = [.row 93 10 t.out.length (t.out.flatMap e_laneref1_sent), .box 76 [I t.n.Maps, I t.n.Lets, I t.n.Timeout, I t.n.First, I t.n.Ports, B t.n.Outer.Six, U t.n.Outer.Hi, U t.n.Outer.Lo, .sl 0 t.out.length, I t.last, I t.now]] := by
  refine ec_enter (Fr.of 0 _) Try.func45 rfl (Fr.of_ok _) (Nat.le_of_ble_eq_true rfl) fun _ => ?_
  refine go_in ?_
  unfold m_laneref1_Translator_same at h
  refine go hΓ 2 rfl ?_
  refine eo_box rfl rfl rfl rfl (Nat.le_of_ble_eq_true rfl) ?_
  refine eo_box rfl rfl rfl rfl (Nat.le_of_ble_eq_true rfl) ?_
  refine go_ops hΓ 20 rfl ?_
  refine j_cond rfl (fun hb => ?_) (fun hb => ?_)
  · have h1 := cT h hb
    refine go hΓ 8 rfl ?_
    obtain rfl := Option.some.inj h1
    exact fin_objs hΓ [_, _] (.inr rfl) rfl rfl rfl rfl (.inr ⟨HB.mk rfl, rfl⟩)
  · have h2 := cF h hb
    refine go hΓ 6 rfl ?_
    refine j_cond rfl (fun hb => ?_) (fun hb => ?_)
    · have h3 := cT h2 hb
      refine go hΓ 6 rfl ?_
      refine eo_o rfl (op_eqS hΓ [28] (b := (((a.Addr.Six : Bool) == b.Addr.Six) && (((a.Addr.Hi : Int) == b.Addr.Hi) && (((a.Addr.Lo : Int) == b.Addr.Lo) && true)))) (by kernel_rfl) (by kernel_rfl) rfl rfl rfl) ?_
      refine go_ops hΓ 6 rfl ?_
      obtain rfl := Option.some.inj h3
      exact fin_objs hΓ [_, _] (.inr rfl) rfl rfl rfl rfl (.inr ⟨HB.mk rfl, rfl⟩)
    · have h4 := cF h2 hb
      refine go hΓ 7 rfl ?_
      refine eo_o rfl (op_eqS hΓ [45, 28] (b := ((((a.Addr.Six : Bool) == b.Addr.Six) && (((a.Addr.Hi : Int) == b.Addr.Hi) && (((a.Addr.Lo : Int) == b.Addr.Lo) && true))) && (((a.Port : Int) == b.Port) && true))) (by kernel_rfl) (by kernel_rfl) rfl rfl rfl) ?_
      refine go_ops hΓ 4 rfl ?_
      obtain rfl := Option.some.inj h4
      exact fin_objs hΓ [_, _] (.inr rfl) rfl rfl rfl rfl (.inr ⟨HB.mk rfl, rfl⟩)
theorem c_laneref1_Translator_lasting_1 {e : List T_laneref1_sent} {x : T_laneref1_sent} {x2 : T_laneref1_Translator} {r : Bool} (h : m_laneref1_Translator_lasting_1 e x x2 = some r) : EC Try.prog 74 [.d (Sl e_laneref1_sent e), .ptr 0 0, .ptr 3 0] [.box 93 [I x.v_at, B x.v_from.Addr.Six, U x.v_from.Addr.Hi, U x.v_from.Addr.Lo, I x.v_from.Port, B x.to.Addr.Six, U x.to.Addr.Hi, U x.to.Addr.Lo, I x.to.Port, I x.port], .row 93 10 x2.out.length (x2.out.flatMap e_laneref1_sent), .box 76 [I x2.n.Maps, I x2.n.Lets, I x2.n.Timeout, I x2.n.First, I x2.n.Ports, B x2.n.Outer.Six, U x2.n.Outer.Hi, U x2.n.Outer.Lo, .sl 1 x2.out.length, I x2.last, I x2.now], .box 38 [.ptr 2 0]] fun g hp' => g = B r ∧ hp' = [.box 93 [I x.v_at, B x.v_from.Addr.Six, U x.v_from.Addr.Hi, U x.v_from.Addr.Lo, I x.v_from.Port, B x.to.Addr.Six, U x.to.Addr.Hi, U x.to.Addr.Lo, I x.to.Port, I x.port], .row 93 10 x2.out.length (x2.out.flatMap e_laneref1_sent), .box 76 [I x2.n.Maps, I x2.n.Lets, I x2.n.Timeout, I x2.n.First, I x2.n.Ports, B x2.n.Outer.Six, U x2.n.Outer.Hi, U x2.n.Outer.Lo, .sl 1 x2.out.length, I x2.last, I x2.now], .box 38 [.ptr 2 0]] := by
  refine ec_enter (Fr.of 0 _) Try.func74 rfl (Fr.of_ok _) (Nat.le_of_ble_eq_true rfl) fun _ => ?_
  refine go_in ?_
  unfold m_laneref1_Translator_lasting_1 at h
  obtain ⟨q1, hq1, h2⟩ := bi_ok h
  refine go hΓ 6 rfl ?_
  refine j_cutNZ [(4, B q1)] [.box 93 [I x.v_at, B x.v_from.Addr.Six, U x.v_from.Addr.Hi, U x.v_from.Addr.Lo, I x.v_from.Port, B x.to.Addr.Six, U x.to.Addr.Hi, U x.to.Addr.Lo, I x.to.Port, I x.port], .row 93 10 x2.out.length (x2.out.flatMap e_laneref1_sent), .box 76 [I x2.n.Maps, I x2.n.Lets, I x2.n.Timeout, I x2.n.First, I x2.n.Ports, B x2.n.Outer.Six, U x2.n.Outer.Hi, U x2.n.Outer.Lo, .sl 1 x2.out.length, I x2.last, I x2.now], .box 38 [.ptr 2 0]] ?_ ?_
  · refine j_drawE [.box 93 [I x.v_at, B x.v_from.Addr.Six, U x.v_from.Addr.Hi, U x.v_from.Addr.Lo, I x.v_from.Port, B x.to.Addr.Six, U x.to.Addr.Hi, U x.to.Addr.Lo, I x.to.Port, I x.port], .dead, .box 76 [I x2.n.Maps, I x2.n.Lets, I x2.n.Timeout, I x2.n.First, I x2.n.Ports, B x2.n.Outer.Six, U x2.n.Outer.Hi, U x2.n.Outer.Lo, .sl 1 x2.out.length, I x2.last, I x2.now], .box 38 [.ptr 2 0]] [5, 8, 14, 19, 28, 32] [15] [] hmix (by kernel_rfl) (by kernel_rfl) ⟨rfl, rfl, rfl, trivial⟩ (Nat.le_of_ble_eq_true rfl) ?_
    obtain ⟨x3, hx3, h4⟩ := bi_ok hq1
    refine go_E hΓ 1 rfl ?_
    refine ge_q rfl (.inl rfl) (fun _ _ => qte_of_qt (qt_p (op_elemZ hΓ (enc := e_laneref1_sent) hx3 rfl rfl rfl rfl rfl (fun _ => rfl)))) ?_
    refine go_E hΓ 4 rfl ?_
    refine ge_q rfl (.inl rfl) (fun _ _ => qte_of_qt (qt_p (op_eqS hΓ [45, 28] (b := ((((x3.v_from.Addr.Six : Bool) == x.v_from.Addr.Six) && (((x3.v_from.Addr.Hi : Int) == x.v_from.Addr.Hi) && (((x3.v_from.Addr.Lo : Int) == x.v_from.Addr.Lo) && true))) && (((x3.v_from.Port : Int) == x.v_from.Port) && true))) (by kernel_rfl) (by kernel_rfl) rfl rfl rfl))) ?_
    refine go_E hΓ 1 rfl ?_
    refine ge_gsplit rfl rfl (fun hb => ?_) (fun hb => ?_)
    · have h5 := cT h4 hb
      obtain ⟨x6, hx6, h7⟩ := bi_ok h5
      refine go_E hΓ 2 rfl ?_
      refine ge_q rfl (.inr ⟨_, _, rfl, rfl⟩) (fun _ _ => qte_of_qt (qt_p (op_elemZ hΓ (enc := e_laneref1_sent) hx6 rfl rfl rfl rfl rfl (fun _ => rfl)))) ?_
      obtain ⟨y8, hy8, h9⟩ := bi_ok h7
      refine go_E hΓ 4 rfl ?_
      refine ge_hg [.box 93 [I x.v_at, B x.v_from.Addr.Six, U x.v_from.Addr.Hi, U x.v_from.Addr.Lo, I x.v_from.Port, B x.to.Addr.Six, U x.to.Addr.Hi, U x.to.Addr.Lo, I x.to.Port, I x.port], .row 93 10 x2.out.length (x2.out.flatMap e_laneref1_sent), .box 76 [I x2.n.Maps, I x2.n.Lets, I x2.n.Timeout, I x2.n.First, I x2.n.Ports, B x2.n.Outer.Six, U x2.n.Outer.Hi, U x2.n.Outer.Lo, .sl 1 x2.out.length, I x2.last, I x2.now], .box 38 [.ptr 2 0]] rfl rfl rfl rfl (st_st ⟨rfl, rfl, rfl, trivial⟩) (qte_callF [1, 2] (B y8) [.box 93 [I x.v_at, B x.v_from.Addr.Six, U x.v_from.Addr.Hi, U x.v_from.Addr.Lo, I x.v_from.Port, B x.to.Addr.Six, U x.to.Addr.Hi, U x.to.Addr.Lo, I x.to.Port, I x.port], .row 93 10 x2.out.length (x2.out.flatMap e_laneref1_sent), .box 76 [I x2.n.Maps, I x2.n.Lets, I x2.n.Timeout, I x2.n.First, I x2.n.Ports, B x2.n.Outer.Six, U x2.n.Outer.Hi, U x2.n.Outer.Lo, .sl 1 x2.out.length, I x2.last, I x2.now], .box 38 [.ptr 2 0]] (callable Try.func45 rfl rfl) (c_laneref1_Translator_same hy8) rfl rfl rfl rfl rfl rfl rfl rfl rfl rfl) ?_
      refine go_E hΓ 2 rfl ?_
      refine ge_gsplit rfl rfl (fun hb => ?_) (fun hb => ?_)
      · have h10 := cT h9 hb
        obtain ⟨x11, hx11, h12⟩ := bi_ok h10
        refine go_E hΓ 6 rfl ?_
        refine ge_q rfl (.inr ⟨_, _, rfl, rfl⟩) (fun _ _ => qte_of_qt (qt_p (op_elemZ hΓ (enc := e_laneref1_sent) hx11 rfl rfl rfl rfl rfl (fun _ => rfl)))) ?_
        refine go_E hΓ 11 rfl ?_
        refine ge_fin ?_
        obtain rfl := Option.some.inj h12
        exact ⟨⟨rfl, trivial⟩, [], rfl, .inl rfl⟩
      · have h13 := cF h9 hb
        refine go_E hΓ 18 rfl ?_
        refine ge_fin ?_
        obtain rfl := Option.some.inj h13
        exact ⟨⟨rfl, trivial⟩, [], rfl, .inl rfl⟩
    · have h14 := cF h4 hb
      refine go_E hΓ 28 rfl ?_
      refine ge_fin ?_
      obtain rfl := Option.some.inj h14
      exact ⟨⟨rfl, trivial⟩, [], rfl, .inl rfl⟩
  · refine go hΓ 2 rfl ?_
    obtain rfl := Option.some.inj h2
    exact fin_objs hΓ [] (.inr rfl) rfl rfl rfl rfl (.inl rfl)
theorem c_slices_IndexFunc_laneref1_sent_laneref1_sent {s : List (Tl T_laneref1_sent)} {f : T_laneref1_sent} {f2 : T_laneref1_Translator} {r : Int} (h : m_slices_IndexFunc_laneref1_sent_laneref1_sent s f f2 = some r) : EC Try.prog 73 [.sl 0 s.length, .fn (.func 74) [] [.ptr 1 0, .ptr 4 0]] [.row 74 1 s.length (s.flatMap (eT 93 10 e_laneref1_sent)), .box 93 [I f.v_at, B f.v_from.Addr.Six, U f.v_from.Addr.Hi, U f.v_from.Addr.Lo, I f.v_from.Port, B f.to.Addr.Six, U f.to.Addr.Hi, U f.to.Addr.Lo, I f.to.Port, I f.port], .row 93 10 f2.out.length (f2.out.flatMap e_laneref1_sent), .box 76 [I f2.n.Maps, I f2.n.Lets, I f2.n.Timeout, I f2.n.First, I f2.n.Ports, B f2.n.Outer.Six, U f2.n.Outer.Hi, U f2.n.Outer.Lo, .sl 2 f2.out.length, I f2.last, I f2.now], .box 38 [.ptr 3 0]] fun g hp' => g = I r ∧ hp' = [.row 74 1 s.length (s.flatMap (eT 93 10 e_laneref1_sent)), .box 93 [I f.v_at, B f.v_from.Addr.Six, U f.v_from.Addr.Hi, U f.v_from.Addr.Lo, I f.v_from.Port, B f.to.Addr.Six, U f.to.Addr.Hi, U f.to.Addr.Lo, I f.to.Port, I f.port], .row 93 10 f2.out.length (f2.out.flatMap e_laneref1_sent), .box 76 [I f2.n.Maps, I f2.n.Lets, I f2.n.Timeout, I f2.n.First, I f2.n.Ports, B f2.n.Outer.Six, U f2.n.Outer.Hi, U f2.n.Outer.Lo, .sl 2 f2.out.length, I f2.last, I f2.now], .box 38 [.ptr 3 0]] := by
  refine ec_enter (Fr.of 0 _) Try.func73 rfl (Fr.of_ok _) (Nat.le_of_ble_eq_true rfl) fun _ => ?_
  refine go_in ?_
  unfold m_slices_IndexFunc_laneref1_sent_laneref1_sent at h
  refine go hΓ 13 rfl ?_
  obtain ⟨q4, hq4, h5⟩ := bi_ok h
  obtain ⟨hb7, h8⟩ := gd_ok hq4
  replace hb7 := of_decide_eq_true hb7
  refine j_cutEZ (R := fun a6 => q4 = .go a6) (fun a6 => []) (fun a6 => [.row 74 1 s.length (s.flatMap (eT 93 10 e_laneref1_sent)), .box 93 [I f.v_at, B f.v_from.Addr.Six, U f.v_from.Addr.Hi, U f.v_from.Addr.Lo, I f.v_from.Port, B f.to.Addr.Six, U f.to.Addr.Hi, U f.to.Addr.Lo, I f.to.Port, I f.port], .row 93 10 f2.out.length (f2.out.flatMap e_laneref1_sent), .box 76 [I f2.n.Maps, I f2.n.Lets, I f2.n.Timeout, I f2.n.First, I f2.n.Ports, B f2.n.Outer.Six, U f2.n.Outer.Hi, U f2.n.Outer.Lo, .sl 2 f2.out.length, I f2.last, I f2.now], .box 38 [.ptr 3 0]]) ?_ ?_
  · refine go hΓ 1 rfl ?_
    refine j_rangeI h8 (fun i1 s2 => [(0, .sl 0 s.length), (1, .fn (.func 74) [] [.ptr 1 0, .ptr 4 0]), (7, I (s.length : Int)), (8, I (i1 : Int))]) (fun s2 => [.row 74 1 s.length (s.flatMap (eT 93 10 e_laneref1_sent)), .box 93 [I f.v_at, B f.v_from.Addr.Six, U f.v_from.Addr.Hi, U f.v_from.Addr.Lo, I f.v_from.Port, B f.to.Addr.Six, U f.to.Addr.Hi, U f.to.Addr.Lo, I f.to.Port, I f.port], .row 93 10 f2.out.length (f2.out.flatMap e_laneref1_sent), .box 76 [I f2.n.Maps, I f2.n.Lets, I f2.n.Timeout, I f2.n.First, I f2.n.Ports, B f2.n.Outer.Six, U f2.n.Outer.Hi, U f2.n.Outer.Lo, .sl 2 f2.out.length, I f2.last, I f2.now], .box 38 [.ptr 3 0]]) ⟨⟨rfl, rfl, rfl, rfl, trivial⟩, [], rfl, .inl rfl⟩ (fun i1 s2 y12 hlt hy10 hout11 => ?_) (fun s2 hgo hge => ?_)
    · refine go hΓ 6 rfl ?_
      refine j_condT rfl (decide_eq_true hlt) ?_
      obtain ⟨x13, hx13, h14⟩ := bi_ok hy10
      have hj15 := getZ_at hx13
      refine go hΓ 15 rfl ?_
      refine eo_o rfl (op_elemRowZ hΓ hx13 rfl rfl rfl rfl rfl rfl) ?_
      refine eo_o rfl (op_le (op_loadRowZ hΓ (enc := (eT 93 10 e_laneref1_sent)) ((i1 : Int).toNat) 0 hj15 rfl rfl rfl rfl (fun _ => rfl) (g := .d (Slt 93 10 e_laneref1_sent x13)) rfl) G.Le.unt) ?_
      obtain ⟨y16, hy16, h17⟩ := bi_ok h14
      refine eo_callF [1, 2, 3, 4] (B y16) [.row 74 1 s.length (s.flatMap (eT 93 10 e_laneref1_sent)), .box 93 [I f.v_at, B f.v_from.Addr.Six, U f.v_from.Addr.Hi, U f.v_from.Addr.Lo, I f.v_from.Port, B f.to.Addr.Six, U f.to.Addr.Hi, U f.to.Addr.Lo, I f.to.Port, I f.port], .row 93 10 f2.out.length (f2.out.flatMap e_laneref1_sent), .box 76 [I f2.n.Maps, I f2.n.Lets, I f2.n.Timeout, I f2.n.First, I f2.n.Ports, B f2.n.Outer.Six, U f2.n.Outer.Hi, U f2.n.Outer.Lo, .sl 2 f2.out.length, I f2.last, I f2.now], .box 38 [.ptr 3 0]] (callable Try.func74 rfl rfl) (c_laneref1_Translator_lasting_1 hy16) rfl (Nat.le_of_ble_eq_true rfl) rfl rfl rfl rfl rfl rfl rfl rfl rfl rfl ?_
      refine go_ops hΓ 2 rfl ?_
      refine j_cond rfl (fun hb => ?_) (fun hb => ?_)
      · have h18 := cT h17 hb
        refine go hΓ 9 rfl ?_
        obtain ⟨v19, hv19, h20⟩ := bi_ok h18
        obtain rfl := Option.some.inj h20
        obtain rfl := hout11 _ rfl
        obtain rfl := Option.some.inj h5
        refine go hΓ 4 rfl ?_
        obtain rfl := Option.some.inj hv19
        exact fin_objs hΓ [] (.inr rfl) rfl rfl rfl rfl (.inl rfl)
      · have h21 := cF h17 hb
        refine go hΓ 7 rfl ?_
        obtain rfl := Option.some.inj h21
        exact ⟨_, rfl, ⟨⟨rfl, rfl, rfl, get_eq rfl (w64_succ (by omega)), trivial⟩, [], rfl, .inl rfl⟩⟩
    · subst hgo
      refine go hΓ 6 rfl ?_
      refine j_condF rfl (decide_eq_false hge) ?_
      refine go hΓ 4 rfl ?_
      exact ⟨_, rfl, ⟨trivial, [], rfl, .inl rfl⟩⟩
  · intro a6 ha
    subst ha
    replace h5 := goI_l h5
    refine go hΓ 7 rfl ?_
    obtain rfl := Option.some.inj h5
    exact fin_objs hΓ [] (.inr rfl) rfl rfl rfl rfl (.inl rfl)
theorem c_laneref1_Translator_lasting_2 {e : List T_laneref1_sent} {x : Int} {x2 : T_laneref1_Translator} {r : Bool} (h : m_laneref1_Translator_lasting_2 e x x2 = some r) : EC Try.prog 76 [.d (Sl e_laneref1_sent e), .ptr 0 0, .ptr 3 0] [.box 3 [I x], .row 93 10 x2.out.length (x2.out.flatMap e_laneref1_sent), .box 76 [I x2.n.Maps, I x2.n.Lets, I x2.n.Timeout, I x2.n.First, I x2.n.Ports, B x2.n.Outer.Six, U x2.n.Outer.Hi, U x2.n.Outer.Lo, .sl 1 x2.out.length, I x2.last, I x2.now], .box 38 [.ptr 2 0]] fun g hp' => g = B r ∧ hp' = [.box 3 [I x], .row 93 10 x2.out.length (x2.out.flatMap e_laneref1_sent), .box 76 [I x2.n.Maps, I x2.n.Lets, I x2.n.Timeout, I x2.n.First, I x2.n.Ports, B x2.n.Outer.Six, U x2.n.Outer.Hi, U x2.n.Outer.Lo, .sl 1 x2.out.length, I x2.last, I x2.now], .box 38 [.ptr 2 0]] := by
  refine ec_enter (Fr.of 0 _) Try.func76 rfl (Fr.of_ok _) (Nat.le_of_ble_eq_true rfl) fun _ => ?_
  refine go_in ?_
  unfold m_laneref1_Translator_lasting_2 at h
  refine go hΓ 6 rfl ?_
  refine j_draw hmix (by kernel_rfl) ?_
  obtain ⟨x1, hx1, h2⟩ := bi_ok h
  refine go hΓ 5 rfl ?_
  refine gl_o rfl (op_elemZ hΓ (enc := e_laneref1_sent) hx1 rfl rfl rfl rfl rfl (fun _ => rfl)) ?_
  refine go_draw hΓ 13 rfl ?_
  obtain rfl := Option.some.inj h2
  exact fin_objs hΓ [] (.inr rfl) rfl rfl rfl rfl (.inl rfl)
theorem c_slices_IndexFunc_laneref1_sent_laneref1_sent_2 {s : List (Tl T_laneref1_sent)} {f : Int} {f2 : T_laneref1_Translator} {r : Int} (h : m_slices_IndexFunc_laneref1_sent_laneref1_sent_2 s f f2 = some r) : EC Try.prog 73 [.sl 0 s.length, .fn (.func 76) [] [.ptr 1 0, .ptr 4 0]] [.row 74 1 s.length (s.flatMap (eT 93 10 e_laneref1_sent)), .box 3 [I f], .row 93 10 f2.out.length (f2.out.flatMap e_laneref1_sent), .box 76 [I f2.n.Maps, I f2.n.Lets, I f2.n.Timeout, I f2.n.First, I f2.n.Ports, B f2.n.Outer.Six, U f2.n.Outer.Hi, U f2.n.Outer.Lo, .sl 2 f2.out.length, I f2.last, I f2.now], .box 38 [.ptr 3 0]] fun g hp' => g = I r ∧ hp' = [.row 74 1 s.length (s.flatMap (eT 93 10 e_laneref1_sent)), .box 3 [I f], .row 93 10 f2.out.length (f2.out.flatMap e_laneref1_sent), .box 76 [I f2.n.Maps, I f2.n.Lets, I f2.n.Timeout, I f2.n.First, I f2.n.Ports, B f2.n.Outer.Six, U f2.n.Outer.Hi, U f2.n.Outer.Lo, .sl 2 f2.out.length, I f2.last, I f2.now], .box 38 [.ptr 3 0]] := by
  refine ec_enter (Fr.of 0 _) Try.func73 rfl (Fr.of_ok _) (Nat.le_of_ble_eq_true rfl) fun _ => ?_
  refine go_in ?_
  unfold m_slices_IndexFunc_laneref1_sent_laneref1_sent_2 at h
  refine go hΓ 13 rfl ?_
  obtain ⟨q4, hq4, h5⟩ := bi_ok h
  obtain ⟨hb7, h8⟩ := gd_ok hq4
  replace hb7 := of_decide_eq_true hb7
  refine j_cutEZ (R := fun a6 => q4 = .go a6) (fun a6 => []) (fun a6 => [.row 74 1 s.length (s.flatMap (eT 93 10 e_laneref1_sent)), .box 3 [I f], .row 93 10 f2.out.length (f2.out.flatMap e_laneref1_sent), .box 76 [I f2.n.Maps, I f2.n.Lets, I f2.n.Timeout, I f2.n.First, I f2.n.Ports, B f2.n.Outer.Six, U f2.n.Outer.Hi, U f2.n.Outer.Lo, .sl 2 f2.out.length, I f2.last, I f2.now], .box 38 [.ptr 3 0]]) ?_ ?_
  · refine go hΓ 1 rfl ?_
    refine j_rangeI h8 (fun i1 s2 => [(0, .sl 0 s.length), (1, .fn (.func 76) [] [.ptr 1 0, .ptr 4 0]), (7, I (s.length : Int)), (8, I (i1 : Int))]) (fun s2 => [.row 74 1 s.length (s.flatMap (eT 93 10 e_laneref1_sent)), .box 3 [I f], .row 93 10 f2.out.length (f2.out.flatMap e_laneref1_sent), .box 76 [I f2.n.Maps, I f2.n.Lets, I f2.n.Timeout, I f2.n.First, I f2.n.Ports, B f2.n.Outer.Six, U f2.n.Outer.Hi, U f2.n.Outer.Lo, .sl 2 f2.out.length, I f2.last, I f2.now], .box 38 [.ptr 3 0]]) ⟨⟨rfl, rfl, rfl, rfl, trivial⟩, [], rfl, .inl rfl⟩ (fun i1 s2 y12 hlt hy10 hout11 => ?_) (fun s2 hgo hge => ?_)
    · refine go hΓ 6 rfl ?_
      refine j_condT rfl (decide_eq_true hlt) ?_
      obtain ⟨x13, hx13, h14⟩ := bi_ok hy10
      have hj15 := getZ_at hx13
      refine go hΓ 15 rfl ?_
      refine eo_o rfl (op_elemRowZ hΓ hx13 rfl rfl rfl rfl rfl rfl) ?_
      refine eo_o rfl (op_le (op_loadRowZ hΓ (enc := (eT 93 10 e_laneref1_sent)) ((i1 : Int).toNat) 0 hj15 rfl rfl rfl rfl (fun _ => rfl) (g := .d (Slt 93 10 e_laneref1_sent x13)) rfl) G.Le.unt) ?_
      obtain ⟨y16, hy16, h17⟩ := bi_ok h14
      refine eo_callF [1, 2, 3, 4] (B y16) [.row 74 1 s.length (s.flatMap (eT 93 10 e_laneref1_sent)), .box 3 [I f], .row 93 10 f2.out.length (f2.out.flatMap e_laneref1_sent), .box 76 [I f2.n.Maps, I f2.n.Lets, I f2.n.Timeout, I f2.n.First, I f2.n.Ports, B f2.n.Outer.Six, U f2.n.Outer.Hi, U f2.n.Outer.Lo, .sl 2 f2.out.length, I f2.last, I f2.now], .box 38 [.ptr 3 0]] (callable Try.func76 rfl rfl) (c_laneref1_Translator_lasting_2 hy16) rfl (Nat.le_of_ble_eq_true rfl) rfl rfl rfl rfl rfl rfl rfl rfl rfl rfl ?_
      refine go_ops hΓ 2 rfl ?_
      refine j_cond rfl (fun hb => ?_) (fun hb => ?_)
      · have h18 := cT h17 hb
        refine go hΓ 9 rfl ?_
        obtain ⟨v19, hv19, h20⟩ := bi_ok h18
        obtain rfl := Option.some.inj h20
        obtain rfl := hout11 _ rfl
        obtain rfl := Option.some.inj h5
        refine go hΓ 4 rfl ?_
        obtain rfl := Option.some.inj hv19
        exact fin_objs hΓ [] (.inr rfl) rfl rfl rfl rfl (.inl rfl)
      · have h21 := cF h17 hb
        refine go hΓ 7 rfl ?_
        obtain rfl := Option.some.inj h21
        exact ⟨_, rfl, ⟨⟨rfl, rfl, rfl, get_eq rfl (w64_succ (by omega)), trivial⟩, [], rfl, .inl rfl⟩⟩
    · subst hgo
      refine go hΓ 6 rfl ?_
      refine j_condF rfl (decide_eq_false hge) ?_
      refine go hΓ 4 rfl ?_
      exact ⟨_, rfl, ⟨trivial, [], rfl, .inl rfl⟩⟩
  · intro a6 ha
    subst ha
    replace h5 := goI_l h5
    refine go hΓ 7 rfl ?_
    obtain rfl := Option.some.inj h5
    exact fin_objs hΓ [] (.inr rfl) rfl rfl rfl rfl (.inl rfl)
theorem c_slices_DeleteFunc_laneref1_sent_laneref1_sent {k : Nat} {s : List (Tl T_laneref1_sent)} {f : Int} {f2 : T_laneref1_Translator} {r : List (Tl T_laneref1_sent)} (h : m_slices_DeleteFunc_laneref1_sent_laneref1_sent k s f f2 = some r) : EC Try.prog 75 [.sl 0 s.length, .fn (.func 76) [] [.ptr 1 0, .ptr 4 0]] [.row 74 1 s.length (s.flatMap (eT 93 10 e_laneref1_sent)), .box 3 [I f], .row 93 10 f2.out.length (f2.out.flatMap e_laneref1_sent), .box 76 [I f2.n.Maps, I f2.n.Lets, I f2.n.Timeout, I f2.n.First, I f2.n.Ports, B f2.n.Outer.Six, U f2.n.Outer.Hi, U f2.n.Outer.Lo, .sl 2 f2.out.length, I f2.last, I f2.now], .box 38 [.ptr 3 0]] fun g hp' => g = .sl 0 r.length ∧ hp' = [.row 74 1 r.length (r.flatMap (eT 93 10 e_laneref1_sent)), .box 3 [I f], .row 93 10 f2.out.length (f2.out.flatMap e_laneref1_sent), .box 76 [I f2.n.Maps, I f2.n.Lets, I f2.n.Timeout, I f2.n.First, I f2.n.Ports, B f2.n.Outer.Six, U f2.n.Outer.Hi, U f2.n.Outer.Lo, .sl 2 f2.out.length, I f2.last, I f2.now], .box 38 [.ptr 3 0]] := by
  refine ec_enter (Fr.of 0 _) Try.func75 rfl (Fr.of_ok _) (Nat.le_of_ble_eq_true rfl) fun _ => ?_
  refine go_in ?_
  unfold m_slices_DeleteFunc_laneref1_sent_laneref1_sent at h
  obtain ⟨y1, hy1, h2⟩ := bi_ok h
  refine go hΓ 9 rfl ?_
  refine eo_callF [0, 1, 2, 3, 4] (I y1) [.row 74 1 s.length (s.flatMap (eT 93 10 e_laneref1_sent)), .box 3 [I f], .row 93 10 f2.out.length (f2.out.flatMap e_laneref1_sent), .box 76 [I f2.n.Maps, I f2.n.Lets, I f2.n.Timeout, I f2.n.First, I f2.n.Ports, B f2.n.Outer.Six, U f2.n.Outer.Hi, U f2.n.Outer.Lo, .sl 2 f2.out.length, I f2.last, I f2.now], .box 38 [.ptr 3 0]] (callable Try.func73 rfl rfl) (c_slices_IndexFunc_laneref1_sent_laneref1_sent_2 hy1) rfl (Nat.le_of_ble_eq_true rfl) rfl rfl rfl rfl rfl rfl rfl rfl rfl rfl ?_
  refine go_ops hΓ 10 rfl ?_
  refine j_cond rfl (fun hb => ?_) (fun hb => ?_)
  · have h3 := cT h2 hb
    refine go hΓ 8 rfl ?_
    obtain rfl := Option.some.inj h3
    exact fin_objs hΓ [] (.inr rfl) rfl rfl rfl rfl (.inl rfl)
  · have h4 := cF h2 hb
    refine go hΓ 10 rfl ?_
    obtain ⟨q8, hq8, h9⟩ := bi_ok h4
    refine j_cutNZ [(0, .sl 0 q8.1.length), (5, I q8.2)] [.row 74 1 q8.1.length (q8.1.flatMap (eT 93 10 e_laneref1_sent)), .box 3 [I f], .row 93 10 f2.out.length (f2.out.flatMap e_laneref1_sent), .box 76 [I f2.n.Maps, I f2.n.Lets, I f2.n.Timeout, I f2.n.First, I f2.n.Ports, B f2.n.Outer.Six, U f2.n.Outer.Hi, U f2.n.Outer.Lo, .sl 2 f2.out.length, I f2.last, I f2.now], .box 38 [.ptr 3 0]] ?_ ?_
    · refine go hΓ 1 rfl ?_
      refine j_loop hq8 (fun s6 => [(0, .sl 0 s6.1.length), (1, .fn (.func 76) [] [.ptr 1 0, .ptr 4 0]), (5, I s6.2.1), (6, I s6.2.2)]) (fun s6 => [.row 74 1 s6.1.length (s6.1.flatMap (eT 93 10 e_laneref1_sent)), .box 3 [I f], .row 93 10 f2.out.length (f2.out.flatMap e_laneref1_sent), .box 76 [I f2.n.Maps, I f2.n.Lets, I f2.n.Timeout, I f2.n.First, I f2.n.Ports, B f2.n.Outer.Six, U f2.n.Outer.Hi, U f2.n.Outer.Lo, .sl 2 f2.out.length, I f2.last, I f2.now], .box 38 [.ptr 3 0]]) ⟨⟨rfl, rfl, rfl, rfl, trivial⟩, [], rfl, .inl rfl⟩ (fun s6 y14 hy12 hout13 => ?_)
      refine go hΓ 9 rfl ?_
      refine j_cond rfl (fun hb => ?_) (fun hb => ?_)
      · have h15 := cT hy12 hb
        obtain ⟨x16, hx16, h17⟩ := bi_ok h15
        have hj18 := getZ_at hx16
        refine go hΓ 8 rfl ?_
        refine eo_o rfl (op_elemRowZ hΓ hx16 rfl rfl rfl rfl rfl rfl) ?_
        refine eo_o rfl (op_loadRowZ hΓ (enc := (eT 93 10 e_laneref1_sent)) s6.2.2.toNat 0 hj18 rfl rfl rfl rfl (fun _ => rfl) (g := .d (Slt 93 10 e_laneref1_sent x16)) rfl) ?_
        refine go_ops hΓ 6 rfl ?_
        refine eo_o rfl (op_le (pst_ok hΓ (g := .d (Slt 93 10 e_laneref1_sent x16)) rfl) G.Le.unt) ?_
        obtain ⟨y19, hy19, h20⟩ := bi_ok h17
        refine eo_callF [1, 2, 3, 4] (B y19) [.row 74 1 s6.1.length (s6.1.flatMap (eT 93 10 e_laneref1_sent)), .box 3 [I f], .row 93 10 f2.out.length (f2.out.flatMap e_laneref1_sent), .box 76 [I f2.n.Maps, I f2.n.Lets, I f2.n.Timeout, I f2.n.First, I f2.n.Ports, B f2.n.Outer.Six, U f2.n.Outer.Hi, U f2.n.Outer.Lo, .sl 2 f2.out.length, I f2.last, I f2.now], .box 38 [.ptr 3 0]] (callable Try.func76 rfl rfl) (c_laneref1_Translator_lasting_2 hy19) rfl (Nat.le_of_ble_eq_true rfl) rfl rfl rfl rfl rfl rfl rfl rfl rfl rfl ?_
        refine go_ops hΓ 3 rfl ?_
        refine j_cond rfl (fun hb => ?_) (fun hb => ?_)
        · have h21 := cT h20 hb
          obtain ⟨x22, hx22, h23⟩ := bi_ok h21
          have hj24 := getZ_at hx22
          refine go hΓ 5 rfl ?_
          refine eo_o rfl (op_elemRowZ hΓ hx22 rfl rfl rfl rfl rfl rfl) ?_
          refine eo_storeRowZ hΓ (enc := (eT 93 10 e_laneref1_sent)) (z' := x16) s6.2.1.toNat 0 hj24 rfl rfl rfl rfl (fun _ => rfl) rfl rfl rfl rfl rfl rfl (Nat.le_of_ble_eq_true rfl) ?_
          refine eo_hp [.row 74 1 (s6.1.set s6.2.1.toNat x16).length ((s6.1.set s6.2.1.toNat x16).flatMap (eT 93 10 e_laneref1_sent)), .box 3 [I f], .row 93 10 f2.out.length (f2.out.flatMap e_laneref1_sent), .box 76 [I f2.n.Maps, I f2.n.Lets, I f2.n.Timeout, I f2.n.First, I f2.n.Ports, B f2.n.Outer.Six, U f2.n.Outer.Hi, U f2.n.Outer.Lo, .sl 2 f2.out.length, I f2.last, I f2.now], .box 38 [.ptr 3 0]] rfl ?_
          refine eo_relen 0 (n' := (s6.1.set s6.2.1.toNat x16).length) rfl List.length_set.symm ?_
          refine go_ops hΓ 14 rfl ?_
          obtain rfl := Option.some.inj h23
          exact ⟨_, rfl, ⟨⟨rfl, rfl, rfl, rfl, trivial⟩, [], rfl, .inl rfl⟩⟩
        · have h25 := cF h20 hb
          refine go hΓ 8 rfl ?_
          obtain rfl := Option.some.inj h25
          exact ⟨_, rfl, ⟨⟨rfl, rfl, rfl, rfl, trivial⟩, [], rfl, .inl rfl⟩⟩
      · have h26 := cF hy12 hb
        refine go hΓ 4 rfl ?_
        obtain rfl := Option.some.inj h26
        obtain rfl := hout13 _ rfl
        exact ⟨⟨rfl, rfl, trivial⟩, [], rfl, .inl rfl⟩
    · obtain ⟨z27, hz27, h28⟩ := bi_ok h9
      refine go hΓ 5 rfl ?_
      refine eo_o rfl (op_viewI hΓ hz27 rfl rfl rfl rfl rfl rfl) ?_
      refine eo_s0 (Nat.le_of_ble_eq_true rfl) (ops_clearT hΓ (enc := (eT 93 10 e_laneref1_sent)) (a := q8.2) hz27 rfl rfl rfl rfl rfl rfl rfl rfl rfl rfl (fun _ => rfl)) ?_
      refine go_ops hΓ 6 rfl ?_
      refine eo_subCut hΓ hz27 rfl rfl rfl rfl rfl rfl rfl rfl ?_
      refine go_ops hΓ 4 rfl ?_
      obtain rfl := Option.some.inj h28
      exact fin_objs hΓ [] (.inr rfl) rfl rfl rfl rfl (.inl rfl)
set_option maxHeartbeats 8000000 in
theorem c_laneref1_Translator_lasting {k : Nat} {t : T_laneref1_Translator} {v_at : Int} {al : List Bool} {r : (List (Tl T_laneref1_sent)) × (List Bool)} (h : m_laneref1_Translator_lasting k t v_at al = some r) : EC Try.prog 44 [.ptr 1 0, I v_at] [.row 93 10 t.out.length (t.out.flatMap e_laneref1_sent), .box 76 [I t.n.Maps, I t.n.Lets, I t.n.Timeout, I t.n.First, I t.n.Ports, B t.n.Outer.Six, U t.n.Outer.Hi, U t.n.Outer.Lo, .sl 0 t.out.length, I t.last, I t.now], .bag al] fun g hp' => g = .sl 3 r.1.length ∧ hp' = [.row 93 10 t.out.length (t.out.flatMap e_laneref1_sent), .box 76 [I t.n.Maps, I t.n.Lets, I t.n.Timeout, I t.n.First, I t.n.Ports, B t.n.Outer.Six, U t.n.Outer.Hi, U t.n.Outer.Lo, .sl 0 t.out.length, I t.last, I t.now], .bag r.2, .row 74 1 r.1.length (r.1.flatMap (eT 93 10 e_laneref1_sent))] := by
  refine ec_enterC (Fr.of 0 _) Try.func44 rfl (Fr.of_ok _) (Nat.le_of_ble_eq_true rfl) fun _ => ?_
  refine go_in ?_
  unfold m_laneref1_Translator_lasting at h
  refine go hΓ 2 rfl ?_
  refine eo_box rfl rfl rfl rfl (Nat.le_of_ble_eq_true rfl) ?_
  refine eo_box rfl rfl rfl rfl (Nat.le_of_ble_eq_true rfl) ?_
  refine go_ops hΓ 5 rfl ?_
  refine eo_nilOwn (t := 0) 74 1 rfl (Nat.le_of_ble_eq_true rfl) ?_
  refine go_ops hΓ 13 rfl ?_
  obtain ⟨q4, hq4, h5⟩ := bi_ok h
  obtain ⟨hb7, h8⟩ := gd_ok hq4
  replace hb7 := of_decide_eq_true hb7
  refine j_cutNZ [(2, .ptr 3 0), (3, .ptr 4 0), (5, .sl 5 q4.2.length)] [.row 93 10 t.out.length (t.out.flatMap e_laneref1_sent), .box 76 [I t.n.Maps, I t.n.Lets, I t.n.Timeout, I t.n.First, I t.n.Ports, B t.n.Outer.Six, U t.n.Outer.Hi, U t.n.Outer.Lo, .sl 0 t.out.length, I t.last, I t.now], .bag q4.1, .box 38 [.ptr 1 0], .box 3 [I v_at], .row 74 1 q4.2.length (q4.2.flatMap (eT 93 10 e_laneref1_sent))] ?_ ?_
  · refine go hΓ 1 rfl ?_
    refine j_rangeG h8 (fun i1 s2 => [(2, .ptr 3 0), (3, .ptr 4 0), (5, .sl 5 s2.2.length), (12, .sl 0 t.out.length), (13, I (t.out.length : Int)), (14, I (i1 : Int))]) (fun s2 => [.row 93 10 t.out.length (t.out.flatMap e_laneref1_sent), .box 76 [I t.n.Maps, I t.n.Lets, I t.n.Timeout, I t.n.First, I t.n.Ports, B t.n.Outer.Six, U t.n.Outer.Hi, U t.n.Outer.Lo, .sl 0 t.out.length, I t.last, I t.now], .bag s2.1, .box 38 [.ptr 1 0], .box 3 [I v_at], .row 74 1 s2.2.length (s2.2.flatMap (eT 93 10 e_laneref1_sent))]) ⟨⟨rfl, rfl, rfl, rfl, rfl, rfl, trivial⟩, [], rfl, .inl rfl⟩ (fun i1 s2 y12 hlt hy10 => ?_) (fun hge => ?_)
    · refine go hΓ 6 rfl ?_
      refine j_condT rfl (decide_eq_true hlt) ?_
      refine go hΓ 4 rfl ?_
      obtain ⟨x13, hx13, h14⟩ := bi_ok hy10
      have hj15 := getZ_at hx13
      refine go hΓ 2 rfl ?_
      refine eo_o rfl (op_elemRowZ hΓ hx13 rfl rfl rfl rfl rfl rfl) ?_
      refine eo_o rfl (op_loadRowZ hΓ (enc := e_laneref1_sent) ((i1 : Int).toNat) 0 hj15 rfl rfl rfl rfl (fun _ => rfl) (g := .agg [I x13.v_at, B x13.v_from.Addr.Six, U x13.v_from.Addr.Hi, U x13.v_from.Addr.Lo, I x13.v_from.Port, B x13.to.Addr.Six, U x13.to.Addr.Hi, U x13.to.Addr.Lo, I x13.to.Port, I x13.port]) rfl) ?_
      refine eo_alloc hΓ rfl rfl rfl (Nat.le_of_ble_eq_true rfl) ?_
      refine eo_store hΓ rfl rfl rfl rfl rfl rfl rfl rfl (Nat.le_of_ble_eq_true rfl) ?_
      refine eo_hp [.row 93 10 t.out.length (t.out.flatMap e_laneref1_sent), .box 76 [I t.n.Maps, I t.n.Lets, I t.n.Timeout, I t.n.First, I t.n.Ports, B t.n.Outer.Six, U t.n.Outer.Hi, U t.n.Outer.Lo, .sl 0 t.out.length, I t.last, I t.now], .bag s2.1, .box 38 [.ptr 1 0], .box 3 [I v_at], .row 74 1 s2.2.length (s2.2.flatMap (eT 93 10 e_laneref1_sent)), .box 93 [I x13.v_at, B x13.v_from.Addr.Six, U x13.v_from.Addr.Hi, U x13.v_from.Addr.Lo, I x13.v_from.Port, B x13.to.Addr.Six, U x13.to.Addr.Hi, U x13.to.Addr.Lo, I x13.to.Port, I x13.port]] rfl ?_
      obtain ⟨y16, hy16, h17⟩ := bi_ok h14
      refine go_ops hΓ 6 rfl ?_
      refine eo_callF [5, 6, 0, 1, 3] (I y16) [.row 93 10 t.out.length (t.out.flatMap e_laneref1_sent), .box 76 [I t.n.Maps, I t.n.Lets, I t.n.Timeout, I t.n.First, I t.n.Ports, B t.n.Outer.Six, U t.n.Outer.Hi, U t.n.Outer.Lo, .sl 0 t.out.length, I t.last, I t.now], .bag s2.1, .box 38 [.ptr 1 0], .box 3 [I v_at], .row 74 1 s2.2.length (s2.2.flatMap (eT 93 10 e_laneref1_sent)), .box 93 [I x13.v_at, B x13.v_from.Addr.Six, U x13.v_from.Addr.Hi, U x13.v_from.Addr.Lo, I x13.v_from.Port, B x13.to.Addr.Six, U x13.to.Addr.Hi, U x13.to.Addr.Lo, I x13.to.Port, I x13.port]] (callable Try.func73 rfl rfl) (c_slices_IndexFunc_laneref1_sent_laneref1_sent hy16) rfl (Nat.le_of_ble_eq_true rfl) rfl rfl rfl rfl rfl rfl rfl rfl rfl rfl ?_
      refine go_ops hΓ 9 rfl ?_
      refine j_cond rfl (fun hb => ?_) (fun hb => ?_)
      · have h18 := cT h17 hb
        refine go hΓ 3 rfl ?_
        refine eo_s (Nat.le_of_ble_eq_true rfl) (nblt.1 rfl) (ops_litFT hΓ (enc := e_laneref1_sent) [x13] rfl rfl rfl rfl rfl rfl rfl rfl rfl rfl rfl) ?_
        refine eo_weak 25 (g' := .d (Slt 93 10 e_laneref1_sent (1, [x13]))) rfl G.Le.tagF ?_
        refine eo_litT hΓ (enc := (eT 93 10 e_laneref1_sent)) [(1, [x13])] rfl rfl rfl rfl rfl rfl rfl rfl rfl rfl rfl rfl (Nat.le_of_ble_eq_true rfl) ?_
        obtain ⟨y19, hy19, h20⟩ := bi_ok h18
        refine eo_appendT hΓ (enc := (eT 93 10 e_laneref1_sent)) hy19 rfl rfl rfl rfl rfl rfl rfl rfl rfl (fun _ => rfl) rfl rfl rfl rfl ?_
        refine go_ops hΓ 8 rfl ?_
        obtain rfl := Option.some.inj h20
        exact ⟨⟨rfl, rfl, rfl, rfl, rfl, get_eq rfl (w64_succ (by omega)), trivial⟩, [_], rfl, .inr ⟨HB.mk rfl, FB.mk rfl, (Nat.le_of_ble_eq_true rfl)⟩⟩
      · have h21 := cF h17 hb
        refine j_drawE [.dead, .dead, .dead, .dead, .dead, .row 74 1 s2.2.length (s2.2.flatMap (eT 93 10 e_laneref1_sent)), .box 93 [I x13.v_at, B x13.v_from.Addr.Six, U x13.v_from.Addr.Hi, U x13.v_from.Addr.Lo, I x13.v_from.Port, B x13.to.Addr.Six, U x13.to.Addr.Hi, U x13.to.Addr.Lo, I x13.to.Port, I x13.port]] [5, 6] [8, 10] [10] hmix (by kernel_rfl) (by kernel_rfl) ⟨rfl, rfl, trivial⟩ (Nat.le_of_ble_eq_true rfl) ?_
        obtain ⟨x22, hx22, h23⟩ := bi_ok h21
        have hj24 := getZ_at hx22
        refine go_E hΓ 4 rfl ?_
        refine ge_q rfl (.inl rfl) (fun _ _ => qte_of_qt (qt_p (op_elemRowZ hΓ hx22 rfl rfl rfl rfl rfl rfl))) ?_
        refine ge_p rfl (fun hp hs => op_loadRowZ hΓ (enc := (eT 93 10 e_laneref1_sent)) y16.toNat 0 hj24 rfl rfl rfl (hs 5 _ rfl rfl) (fun _ => rfl) (g := .d (Slt 93 10 e_laneref1_sent x22)) rfl) rfl ?_
        refine go_E hΓ 1 rfl ?_
        refine ge_litT hΓ (enc := e_laneref1_sent) [x13] rfl rfl rfl rfl rfl rfl rfl rfl rfl rfl rfl rfl ?_
        obtain ⟨y25, hy25, h26⟩ := bi_ok h23
        refine ge_h [.row 93 10 t.out.length (t.out.flatMap e_laneref1_sent), .box 76 [I t.n.Maps, I t.n.Lets, I t.n.Timeout, I t.n.First, I t.n.Ports, B t.n.Outer.Six, U t.n.Outer.Hi, U t.n.Outer.Lo, .sl 0 t.out.length, I t.last, I t.now], .bag y25.2, .box 38 [.ptr 1 0], .box 3 [I v_at], .row 74 1 s2.2.length (s2.2.flatMap (eT 93 10 e_laneref1_sent)), .box 93 [I x13.v_at, B x13.v_from.Addr.Six, U x13.v_from.Addr.Hi, U x13.v_from.Addr.Lo, I x13.v_from.Port, B x13.to.Addr.Six, U x13.to.Addr.Hi, U x13.to.Addr.Lo, I x13.to.Port, I x13.port]] rfl rfl rfl (st_st ⟨rfl, rfl, trivial⟩) (qte_s (ops_appT hΓ (enc := e_laneref1_sent) (bg := 2) hy25 rfl rfl rfl rfl rfl rfl rfl rfl (fun _ => rfl) rfl rfl)) ?_
        obtain ⟨x27, hx27, h28⟩ := bi_ok h26
        have hj29 := getZ_at hx27
        refine ge_q rfl (.inl rfl) (fun _ _ => qte_of_qt (qt_p (op_elemRowZ hΓ hx27 rfl rfl rfl rfl rfl rfl))) ?_
        refine ge_h0 [.row 93 10 t.out.length (t.out.flatMap e_laneref1_sent), .box 76 [I t.n.Maps, I t.n.Lets, I t.n.Timeout, I t.n.First, I t.n.Ports, B t.n.Outer.Six, U t.n.Outer.Hi, U t.n.Outer.Lo, .sl 0 t.out.length, I t.last, I t.now], .bag y25.2, .box 38 [.ptr 1 0], .box 3 [I v_at], .row 74 1 (s2.2.set y16.toNat y25.1).length ((s2.2.set y16.toNat y25.1).flatMap (eT 93 10 e_laneref1_sent)), .box 93 [I x13.v_at, B x13.v_from.Addr.Six, U x13.v_from.Addr.Hi, U x13.v_from.Addr.Lo, I x13.v_from.Port, B x13.to.Addr.Six, U x13.to.Addr.Hi, U x13.to.Addr.Lo, I x13.to.Port, I x13.port]] rfl rfl (brk_st rfl) (qte_u (opu_setRowZ hΓ (enc := (eT 93 10 e_laneref1_sent)) (z' := y25.1) y16.toNat (by have := (List.getElem?_eq_some_iff.1 hj29).1; simpa using this) rfl rfl rfl rfl (fun _ => rfl) rfl rfl rfl rfl rfl)) ?_
        refine ge_fin ?_
        refine go hΓ 2 rfl ?_
        refine j_relen 5 (n' := (s2.2.set y16.toNat y25.1).length) rfl (by simp) ?_
        refine j_relen 18 (n' := (s2.2.set y16.toNat y25.1).length) rfl (by simp) ?_
        refine j_relen 28 (n' := (s2.2.set y16.toNat y25.1).length) rfl (by simp) ?_
        refine j_relen 30 (n' := (s2.2.set y16.toNat y25.1).length) rfl (by simp) ?_
        refine go hΓ 4 rfl ?_
        obtain rfl := Option.some.inj h28
        exact ⟨⟨rfl, rfl, rfl, rfl, rfl, get_eq rfl (w64_succ (by omega)), trivial⟩, [_], rfl, .inr ⟨HB.mk rfl, FB.mk rfl, (Nat.le_of_ble_eq_true rfl)⟩⟩
    · refine go hΓ 6 rfl ?_
      refine j_condF rfl (decide_eq_false hge) ?_
      refine go hΓ 4 rfl ?_
      exact ⟨⟨rfl, rfl, rfl, trivial⟩, [], rfl, .inl rfl⟩
  · obtain ⟨y30, hy30, h31⟩ := bi_ok h5
    refine go hΓ 5 rfl ?_
    refine eo_callF [5, 4, 0, 1, 3] (.sl 5 y30.length) [.row 93 10 t.out.length (t.out.flatMap e_laneref1_sent), .box 76 [I t.n.Maps, I t.n.Lets, I t.n.Timeout, I t.n.First, I t.n.Ports, B t.n.Outer.Six, U t.n.Outer.Hi, U t.n.Outer.Lo, .sl 0 t.out.length, I t.last, I t.now], .bag q4.1, .box 38 [.ptr 1 0], .box 3 [I v_at], .row 74 1 y30.length (y30.flatMap (eT 93 10 e_laneref1_sent))] (callable Try.func75 rfl rfl) (c_slices_DeleteFunc_laneref1_sent_laneref1_sent hy30) rfl (Nat.le_of_ble_eq_true rfl) rfl rfl rfl rfl rfl rfl rfl rfl rfl rfl ?_
    refine go_ops hΓ 4 rfl ?_
    refine cv_kill 3 [.row 93 10 t.out.length (t.out.flatMap e_laneref1_sent), .box 76 [I t.n.Maps, I t.n.Lets, I t.n.Timeout, I t.n.First, I t.n.Ports, B t.n.Outer.Six, U t.n.Outer.Hi, U t.n.Outer.Lo, .sl 0 t.out.length, I t.last, I t.now], .bag q4.1, .dead, .box 3 [I v_at], .row 74 1 y30.length (y30.flatMap (eT 93 10 e_laneref1_sent))] rfl (Nat.le_of_ble_eq_true rfl) ?_
    refine cv_move 5 3 [.row 93 10 t.out.length (t.out.flatMap e_laneref1_sent), .box 76 [I t.n.Maps, I t.n.Lets, I t.n.Timeout, I t.n.First, I t.n.Ports, B t.n.Outer.Six, U t.n.Outer.Hi, U t.n.Outer.Lo, .sl 0 t.out.length, I t.last, I t.now], .bag q4.1, .row 74 1 y30.length (y30.flatMap (eT 93 10 e_laneref1_sent)), .box 3 [I v_at], .dead] rfl rfl rfl rfl rfl rfl ?_
    refine cv_here ?_
    obtain rfl := Option.some.inj h31
    exact fin_objs hΓ [_, _] (.inr rfl) rfl rfl rfl rfl (.inr ⟨HB.mk rfl, rfl⟩)
theorem c_laneref1_Translator_Out_1 {e : List T_laneref1_sent} {x : Int} {r : Bool} (h : m_laneref1_Translator_Out_1 e x = some r) : EC Try.prog 47 [.d (Sl e_laneref1_sent e), .ptr 0 0] [.box 3 [I x]] fun g hp' => g = B r ∧ hp' = [.box 3 [I x]] := by
  refine ec_enter (Fr.of 0 _) Try.func47 rfl (Fr.of_ok _) (Nat.le_of_ble_eq_true rfl) fun _ => ?_
  refine go_in ?_
  unfold m_laneref1_Translator_Out_1 at h
  refine go hΓ 6 rfl ?_
  refine j_draw hmix (by kernel_rfl) ?_
  obtain ⟨x1, hx1, h2⟩ := bi_ok h
  refine go hΓ 1 rfl ?_
  refine gl_o rfl (op_elemZ hΓ (enc := e_laneref1_sent) hx1 rfl rfl rfl rfl rfl (fun _ => rfl)) ?_
  refine go_draw hΓ 8 rfl ?_
  obtain rfl := Option.some.inj h2
  exact fin_objs hΓ [] (.inr rfl) rfl rfl rfl rfl (.inl rfl)
theorem c_slices_IndexFunc_laneref1_sent_laneref1_sent_3 {s : List (Tl T_laneref1_sent)} {f : Int} {r : Int} (h : m_slices_IndexFunc_laneref1_sent_laneref1_sent_3 s f = some r) : EC Try.prog 73 [.sl 0 s.length, .fn (.func 47) [] [.ptr 1 0]] [.row 74 1 s.length (s.flatMap (eT 93 10 e_laneref1_sent)), .box 3 [I f]] fun g hp' => g = I r ∧ hp' = [.row 74 1 s.length (s.flatMap (eT 93 10 e_laneref1_sent)), .box 3 [I f]] := by
  refine ec_enter (Fr.of 0 _) Try.func73 rfl (Fr.of_ok _) (Nat.le_of_ble_eq_true rfl) fun _ => ?_
  refine go_in ?_
  unfold m_slices_IndexFunc_laneref1_sent_laneref1_sent_3 at h
  refine go hΓ 13 rfl ?_
  obtain ⟨q4, hq4, h5⟩ := bi_ok h
  obtain ⟨hb7, h8⟩ := gd_ok hq4
  replace hb7 := of_decide_eq_true hb7
  refine j_cutEZ (R := fun a6 => q4 = .go a6) (fun a6 => []) (fun a6 => [.row 74 1 s.length (s.flatMap (eT 93 10 e_laneref1_sent)), .box 3 [I f]]) ?_ ?_
  · refine go hΓ 1 rfl ?_
    refine j_rangeI h8 (fun i1 s2 => [(0, .sl 0 s.length), (1, .fn (.func 47) [] [.ptr 1 0]), (7, I (s.length : Int)), (8, I (i1 : Int))]) (fun s2 => [.row 74 1 s.length (s.flatMap (eT 93 10 e_laneref1_sent)), .box 3 [I f]]) ⟨⟨rfl, rfl, rfl, rfl, trivial⟩, [], rfl, .inl rfl⟩ (fun i1 s2 y12 hlt hy10 hout11 => ?_) (fun s2 hgo hge => ?_)
    · refine go hΓ 6 rfl ?_
      refine j_condT rfl (decide_eq_true hlt) ?_
      obtain ⟨x13, hx13, h14⟩ := bi_ok hy10
      have hj15 := getZ_at hx13
      refine go hΓ 15 rfl ?_
      refine eo_o rfl (op_elemRowZ hΓ hx13 rfl rfl rfl rfl rfl rfl) ?_
      refine eo_o rfl (op_le (op_loadRowZ hΓ (enc := (eT 93 10 e_laneref1_sent)) ((i1 : Int).toNat) 0 hj15 rfl rfl rfl rfl (fun _ => rfl) (g := .d (Slt 93 10 e_laneref1_sent x13)) rfl) G.Le.unt) ?_
      obtain ⟨y16, hy16, h17⟩ := bi_ok h14
      refine eo_callF [1] (B y16) [.row 74 1 s.length (s.flatMap (eT 93 10 e_laneref1_sent)), .box 3 [I f]] (callable Try.func47 rfl rfl) (c_laneref1_Translator_Out_1 hy16) rfl (Nat.le_of_ble_eq_true rfl) rfl rfl rfl rfl rfl rfl rfl rfl rfl rfl ?_
      refine go_ops hΓ 2 rfl ?_
      refine j_cond rfl (fun hb => ?_) (fun hb => ?_)
      · have h18 := cT h17 hb
        refine go hΓ 9 rfl ?_
        obtain ⟨v19, hv19, h20⟩ := bi_ok h18
        obtain rfl := Option.some.inj h20
        obtain rfl := hout11 _ rfl
        obtain rfl := Option.some.inj h5
        refine go hΓ 4 rfl ?_
        obtain rfl := Option.some.inj hv19
        exact fin_objs hΓ [] (.inr rfl) rfl rfl rfl rfl (.inl rfl)
      · have h21 := cF h17 hb
        refine go hΓ 7 rfl ?_
        obtain rfl := Option.some.inj h21
        exact ⟨_, rfl, ⟨⟨rfl, rfl, rfl, get_eq rfl (w64_succ (by omega)), trivial⟩, [], rfl, .inl rfl⟩⟩
    · subst hgo
      refine go hΓ 6 rfl ?_
      refine j_condF rfl (decide_eq_false hge) ?_
      refine go hΓ 4 rfl ?_
      exact ⟨_, rfl, ⟨trivial, [], rfl, .inl rfl⟩⟩
  · intro a6 ha
    subst ha
    replace h5 := goI_l h5
    refine go hΓ 7 rfl ?_
    obtain rfl := Option.some.inj h5
    exact fin_objs hΓ [] (.inr rfl) rfl rfl rfl rfl (.inl rfl)
theorem c_slices_ContainsFunc_laneref1_sent_laneref1_sent {s : List (Tl T_laneref1_sent)} {f : Int} {r : Bool} (h : m_slices_ContainsFunc_laneref1_sent_laneref1_sent s f = some r) : EC Try.prog 46 [.sl 0 s.length, .fn (.func 47) [] [.ptr 1 0]] [.row 74 1 s.length (s.flatMap (eT 93 10 e_laneref1_sent)), .box 3 [I f]] fun g hp' => g = B r ∧ hp' = [.row 74 1 s.length (s.flatMap (eT 93 10 e_laneref1_sent)), .box 3 [I f]] := by
  refine ec_enter (Fr.of 0 _) Try.func46 rfl (Fr.of_ok _) (Nat.le_of_ble_eq_true rfl) fun _ => ?_
  refine go_in ?_
  unfold m_slices_ContainsFunc_laneref1_sent_laneref1_sent at h
  obtain ⟨y1, hy1, h2⟩ := bi_ok h
  refine go hΓ 9 rfl ?_
  refine eo_callF [0, 1] (I y1) [.row 74 1 s.length (s.flatMap (eT 93 10 e_laneref1_sent)), .box 3 [I f]] (callable Try.func73 rfl rfl) (c_slices_IndexFunc_laneref1_sent_laneref1_sent_3 hy1) rfl (Nat.le_of_ble_eq_true rfl) rfl rfl rfl rfl rfl rfl rfl rfl rfl rfl ?_
  refine go_ops hΓ 5 rfl ?_
  obtain rfl := Option.some.inj h2
  exact fin_objs hΓ [] (.inr rfl) rfl rfl rfl rfl (.inl rfl)
set_option maxHeartbeats 8000000 in
theorem c_laneref1_Translator_Out {k : Nat} {t : T_laneref1_Translator} {v_at : Int} {v_from : T_api_Spot} {to : T_api_Spot} {al : List Bool} {r : T_api_Spot × Int × T_laneref1_Translator × (List Bool)} (h : m_laneref1_Translator_Out k t v_at v_from to al = some r) : EC Try.prog 16 [.ptr 1 0, I v_at, .agg [B v_from.Addr.Six, U v_from.Addr.Hi, U v_from.Addr.Lo, I v_from.Port], .agg [B to.Addr.Six, U to.Addr.Hi, U to.Addr.Lo, I to.Port]] [.row 93 10 t.out.length (t.out.flatMap e_laneref1_sent), .box 76 [I t.n.Maps, I t.n.Lets, I t.n.Timeout, I t.n.First, I t.n.Ports, B t.n.Outer.Six, U t.n.Outer.Hi, U t.n.Outer.Lo, .sl 0 t.out.length, I t.last, I t.now], .bag al] fun g hp' => g = .tup [.agg [B r.1.Addr.Six, U r.1.Addr.Hi, U r.1.Addr.Lo, I r.1.Port], I r.2.1] ∧ hp' = [.dead, .box 76 [I r.2.2.1.n.Maps, I r.2.2.1.n.Lets, I r.2.2.1.n.Timeout, I r.2.2.1.n.First, I r.2.2.1.n.Ports, B r.2.2.1.n.Outer.Six, U r.2.2.1.n.Outer.Hi, U r.2.2.1.n.Outer.Lo, .sl 3 r.2.2.1.out.length, I r.2.2.1.last, I r.2.2.1.now], .bag r.2.2.2, .row 93 10 r.2.2.1.out.length (r.2.2.1.out.flatMap e_laneref1_sent)] := by
  refine ec_enterC (Fr.of 0 _) Try.func16 rfl (Fr.of_ok _) (Nat.le_of_ble_eq_true rfl) fun _ => ?_
  refine go_in ?_
  unfold m_laneref1_Translator_Out at h
  refine j_name (Nat.le_of_ble_eq_true rfl) ?_
  refine j_move 0 3 [.dead, .box 76 [I t.n.Maps, I t.n.Lets, I t.n.Timeout, I t.n.First, I t.n.Ports, B t.n.Outer.Six, U t.n.Outer.Hi, U t.n.Outer.Lo, .sl 3 t.out.length, I t.last, I t.now], .bag al, .row 93 10 t.out.length (t.out.flatMap e_laneref1_sent)] rfl rfl rfl rfl rfl rfl ?_
  refine go hΓ 2 rfl ?_
  refine eo_box rfl rfl rfl rfl (Nat.le_of_ble_eq_true rfl) ?_
  refine eo_box rfl rfl rfl rfl (Nat.le_of_ble_eq_true rfl) ?_
  refine eo_alloc hΓ rfl rfl rfl (Nat.le_of_ble_eq_true rfl) ?_
  refine go_ops hΓ 5 rfl ?_
  refine j_drawE [.dead, .dead, .dead, .dead, .box 45 [B v_from.Addr.Six, U v_from.Addr.Hi, U v_from.Addr.Lo, I v_from.Port], .box 45 [B to.Addr.Six, U to.Addr.Hi, U to.Addr.Lo, I to.Port]] [3, 5] [2] [] hmix (by kernel_rfl) (by kernel_rfl) ⟨rfl, rfl, trivial⟩ (Nat.le_of_ble_eq_true rfl) ?_
  obtain ⟨y1, hy1, h2⟩ := bi_ok h
  refine go_E hΓ 2 rfl ?_
  refine ge_h [.dead, .box 76 [I t.n.Maps, I t.n.Lets, I t.n.Timeout, I t.n.First, I t.n.Ports, B t.n.Outer.Six, U t.n.Outer.Hi, U t.n.Outer.Lo, .sl 3 t.out.length, I t.last, I t.now], .bag al, .row 93 10 t.out.length (t.out.flatMap e_laneref1_sent), .box 45 [B v_from.Addr.Six, U v_from.Addr.Hi, U v_from.Addr.Lo, I v_from.Port], .box 45 [B to.Addr.Six, U to.Addr.Hi, U to.Addr.Lo, I to.Port], .box 45 [B false, U 0, U 0, I 0]] rfl rfl rfl (st_st ⟨rfl, rfl, trivial⟩) (qte_callF [3, 1] (I y1) [.dead, .box 76 [I t.n.Maps, I t.n.Lets, I t.n.Timeout, I t.n.First, I t.n.Ports, B t.n.Outer.Six, U t.n.Outer.Hi, U t.n.Outer.Lo, .sl 3 t.out.length, I t.last, I t.now], .bag al, .row 93 10 t.out.length (t.out.flatMap e_laneref1_sent), .box 45 [B v_from.Addr.Six, U v_from.Addr.Hi, U v_from.Addr.Lo, I v_from.Port], .box 45 [B to.Addr.Six, U to.Addr.Hi, U to.Addr.Lo, I to.Port], .box 45 [B false, U 0, U 0, I 0]] (callable Try.func42 rfl rfl) (c_laneref1_Translator_timeFault hy1) rfl rfl rfl rfl rfl rfl rfl rfl rfl rfl) ?_
  obtain ⟨y3, hy3, h4⟩ := bi_ok h2
  refine go_E hΓ 1 rfl ?_
  refine ge_callP (callable Try.func43 rfl rfl) (c_laneref1_SpotFault hy3) rfl rfl rfl rfl rfl rfl ?_
  obtain ⟨y5, hy5, h6⟩ := bi_ok h4
  refine go_E hΓ 1 rfl ?_
  refine ge_callP (callable Try.func43 rfl rfl) (c_laneref1_SpotFault hy5) rfl rfl rfl rfl rfl rfl ?_
  refine ge_litT hΓ (enc := (eN .i64)) [y1, y3, y5] rfl rfl rfl rfl rfl rfl rfl rfl rfl rfl rfl rfl ?_
  obtain ⟨y7, hy7, h8⟩ := bi_ok h6
  refine ge_callP (callable Try.func41 rfl rfl) (c_cmp_Or_api_Errno hy7) rfl rfl rfl rfl rfl rfl ?_
  refine go_E hΓ 1 rfl ?_
  refine ge_fin ?_
  refine go hΓ 7 rfl ?_
  refine j_cond rfl (fun hb => ?_) (fun hb => ?_)
  · have h9 := cT h8 hb
    refine go hΓ 2 rfl ?_
    refine eo_build hΓ (gs := [B false, U 0, U 0, I 0]) rfl rfl rfl rfl rfl rfl rfl ?_
    refine go_ops hΓ 1 rfl ?_
    refine eo_store hΓ rfl rfl rfl rfl rfl rfl rfl rfl (Nat.le_of_ble_eq_true rfl) ?_
    refine eo_hp [.dead, .box 76 [I t.n.Maps, I t.n.Lets, I t.n.Timeout, I t.n.First, I t.n.Ports, B t.n.Outer.Six, U t.n.Outer.Hi, U t.n.Outer.Lo, .sl 3 t.out.length, I t.last, I t.now], .bag al, .row 93 10 t.out.length (t.out.flatMap e_laneref1_sent), .box 45 [B v_from.Addr.Six, U v_from.Addr.Hi, U v_from.Addr.Lo, I v_from.Port], .box 45 [B to.Addr.Six, U to.Addr.Hi, U to.Addr.Lo, I to.Port], .box 45 [B false, U 0, U 0, I 0]] rfl ?_
    refine go_ops hΓ 5 rfl ?_
    refine cv_here ?_
    obtain rfl := Option.some.inj h9
    exact fin_objs hΓ [_, _, _] (.inr rfl) rfl rfl rfl rfl (.inr ⟨HB.mk rfl, rfl⟩)
  · have h10 := cF h8 hb
    obtain ⟨y11, hy11, h12⟩ := bi_ok h10
    refine go hΓ 6 rfl ?_
    refine eo_callF [3, 1, 2] (.sl 7 y11.1.length) [.dead, .box 76 [I t.n.Maps, I t.n.Lets, I t.n.Timeout, I t.n.First, I t.n.Ports, B t.n.Outer.Six, U t.n.Outer.Hi, U t.n.Outer.Lo, .sl 3 t.out.length, I t.last, I t.now], .bag y11.2, .row 93 10 t.out.length (t.out.flatMap e_laneref1_sent), .box 45 [B v_from.Addr.Six, U v_from.Addr.Hi, U v_from.Addr.Lo, I v_from.Port], .box 45 [B to.Addr.Six, U to.Addr.Hi, U to.Addr.Lo, I to.Port], .box 45 [B false, U 0, U 0, I 0], .row 74 1 y11.1.length (y11.1.flatMap (eT 93 10 e_laneref1_sent))] (callable Try.func44 rfl rfl) (c_laneref1_Translator_lasting hy11) rfl (Nat.le_of_ble_eq_true rfl) rfl rfl rfl rfl rfl rfl rfl rfl rfl rfl ?_
    refine go_ops hΓ 16 rfl ?_
    obtain ⟨q16, hq16, h17⟩ := bi_ok h12
    obtain ⟨hb19, h20⟩ := gd_ok hq16
    replace hb19 := of_decide_eq_true hb19
    refine j_cutNZ [(0, .ptr 1 0), (1, I v_at), (6, .ptr 4 0), (7, .ptr 5 0), (8, .ptr 6 0), (11, .sl 7 y11.1.length), (12, I q16)] [.dead, .box 76 [I t.n.Maps, I t.n.Lets, I t.n.Timeout, I t.n.First, I t.n.Ports, B t.n.Outer.Six, U t.n.Outer.Hi, U t.n.Outer.Lo, .sl 3 t.out.length, I t.last, I t.now], .bag y11.2, .row 93 10 t.out.length (t.out.flatMap e_laneref1_sent), .box 45 [B v_from.Addr.Six, U v_from.Addr.Hi, U v_from.Addr.Lo, I v_from.Port], .box 45 [B to.Addr.Six, U to.Addr.Hi, U to.Addr.Lo, I to.Port], .box 45 [B false, U 0, U 0, I 0], .row 74 1 y11.1.length (y11.1.flatMap (eT 93 10 e_laneref1_sent))] ?_ ?_
    · refine go hΓ 1 rfl ?_
      refine j_rangeG h20 (fun i13 s14 => [(0, .ptr 1 0), (1, I v_at), (6, .ptr 4 0), (7, .ptr 5 0), (8, .ptr 6 0), (11, .sl 7 y11.1.length), (12, I s14), (34, .sl 7 y11.1.length), (35, I (y11.1.length : Int)), (36, I (i13 : Int))]) (fun s14 => [.dead, .box 76 [I t.n.Maps, I t.n.Lets, I t.n.Timeout, I t.n.First, I t.n.Ports, B t.n.Outer.Six, U t.n.Outer.Hi, U t.n.Outer.Lo, .sl 3 t.out.length, I t.last, I t.now], .bag y11.2, .row 93 10 t.out.length (t.out.flatMap e_laneref1_sent), .box 45 [B v_from.Addr.Six, U v_from.Addr.Hi, U v_from.Addr.Lo, I v_from.Port], .box 45 [B to.Addr.Six, U to.Addr.Hi, U to.Addr.Lo, I to.Port], .box 45 [B false, U 0, U 0, I 0], .row 74 1 y11.1.length (y11.1.flatMap (eT 93 10 e_laneref1_sent))]) ⟨⟨rfl, rfl, rfl, rfl, rfl, rfl, rfl, rfl, rfl, rfl, trivial⟩, [], rfl, .inl rfl⟩ (fun i13 s14 y24 hlt hy22 => ?_) (fun hge => ?_)
      · refine go hΓ 6 rfl ?_
        refine j_condT rfl (decide_eq_true hlt) ?_
        obtain ⟨x25, hx25, h26⟩ := bi_ok hy22
        have hj27 := getZ_at hx25
        refine go hΓ 6 rfl ?_
        refine eo_o rfl (op_elemRowZ hΓ hx25 rfl rfl rfl rfl rfl rfl) ?_
        refine eo_o rfl (op_le (op_loadRowZ hΓ (enc := (eT 93 10 e_laneref1_sent)) ((i13 : Int).toNat) 0 hj27 rfl rfl rfl rfl (fun _ => rfl) (g := .d (Slt 93 10 e_laneref1_sent x25)) rfl) G.Le.unt) ?_
        obtain ⟨q28, hq28, h29⟩ := bi_ok h26
        refine go_ops hΓ 4 rfl ?_
        refine j_cutNZ [(0, .ptr 1 0), (1, I v_at), (6, .ptr 4 0), (7, .ptr 5 0), (8, .ptr 6 0), (11, .sl 7 y11.1.length), (12, I s14), (14, .d (Sl e_laneref1_sent x25.2)), (34, .sl 7 y11.1.length), (35, I (y11.1.length : Int)), (36, I (i13 : Int)), (54, B q28)] [.dead, .box 76 [I t.n.Maps, I t.n.Lets, I t.n.Timeout, I t.n.First, I t.n.Ports, B t.n.Outer.Six, U t.n.Outer.Hi, U t.n.Outer.Lo, .sl 3 t.out.length, I t.last, I t.now], .bag y11.2, .row 93 10 t.out.length (t.out.flatMap e_laneref1_sent), .box 45 [B v_from.Addr.Six, U v_from.Addr.Hi, U v_from.Addr.Lo, I v_from.Port], .box 45 [B to.Addr.Six, U to.Addr.Hi, U to.Addr.Lo, I to.Port], .box 45 [B false, U 0, U 0, I 0], .row 74 1 y11.1.length (y11.1.flatMap (eT 93 10 e_laneref1_sent))] ?_ ?_
        · refine j_drawE [.dead, .dead, .dead, .dead, .box 45 [B v_from.Addr.Six, U v_from.Addr.Hi, U v_from.Addr.Lo, I v_from.Port], .box 45 [B to.Addr.Six, U to.Addr.Hi, U to.Addr.Lo, I to.Port]] [4, 12] [13] [] hmix (by kernel_rfl) (by kernel_rfl) ⟨rfl, rfl, trivial⟩ (Nat.le_of_ble_eq_true rfl) ?_
          obtain ⟨x30, hx30, h31⟩ := bi_ok hq28
          refine go_E hΓ 1 rfl ?_
          refine ge_q rfl (.inl rfl) (fun _ _ => qte_of_qt (qt_p (op_elemZ hΓ (enc := e_laneref1_sent) hx30 rfl rfl rfl rfl rfl (fun _ => rfl)))) ?_
          refine go_E hΓ 3 rfl ?_
          refine ge_q rfl (.inl rfl) (fun _ _ => qte_of_qt (qt_p (op_eqS hΓ [45, 28] (b := ((((x30.v_from.Addr.Six : Bool) == v_from.Addr.Six) && (((x30.v_from.Addr.Hi : Int) == v_from.Addr.Hi) && (((x30.v_from.Addr.Lo : Int) == v_from.Addr.Lo) && true))) && (((x30.v_from.Port : Int) == v_from.Port) && true))) (by kernel_rfl) (by kernel_rfl) rfl rfl rfl))) ?_
          refine go_E hΓ 1 rfl ?_
          refine ge_gsplit rfl rfl (fun hb => ?_) (fun hb => ?_)
          · have h32 := cT h31 hb
            obtain ⟨x33, hx33, h34⟩ := bi_ok h32
            refine go_E hΓ 2 rfl ?_
            refine ge_q rfl (.inr ⟨_, _, rfl, rfl⟩) (fun _ _ => qte_of_qt (qt_p (op_elemZ hΓ (enc := e_laneref1_sent) hx33 rfl rfl rfl rfl rfl (fun _ => rfl)))) ?_
            obtain ⟨y35, hy35, h36⟩ := bi_ok h34
            refine go_E hΓ 3 rfl ?_
            refine ge_hg [.dead, .box 76 [I t.n.Maps, I t.n.Lets, I t.n.Timeout, I t.n.First, I t.n.Ports, B t.n.Outer.Six, U t.n.Outer.Hi, U t.n.Outer.Lo, .sl 3 t.out.length, I t.last, I t.now], .bag y11.2, .row 93 10 t.out.length (t.out.flatMap e_laneref1_sent), .box 45 [B v_from.Addr.Six, U v_from.Addr.Hi, U v_from.Addr.Lo, I v_from.Port], .box 45 [B to.Addr.Six, U to.Addr.Hi, U to.Addr.Lo, I to.Port], .box 45 [B false, U 0, U 0, I 0], .row 74 1 y11.1.length (y11.1.flatMap (eT 93 10 e_laneref1_sent))] rfl rfl rfl rfl (st_st ⟨rfl, rfl, trivial⟩) (qte_callF [3, 1] (B y35) [.dead, .box 76 [I t.n.Maps, I t.n.Lets, I t.n.Timeout, I t.n.First, I t.n.Ports, B t.n.Outer.Six, U t.n.Outer.Hi, U t.n.Outer.Lo, .sl 3 t.out.length, I t.last, I t.now], .bag y11.2, .row 93 10 t.out.length (t.out.flatMap e_laneref1_sent), .box 45 [B v_from.Addr.Six, U v_from.Addr.Hi, U v_from.Addr.Lo, I v_from.Port], .box 45 [B to.Addr.Six, U to.Addr.Hi, U to.Addr.Lo, I to.Port], .box 45 [B false, U 0, U 0, I 0], .row 74 1 y11.1.length (y11.1.flatMap (eT 93 10 e_laneref1_sent))] (callable Try.func45 rfl rfl) (c_laneref1_Translator_same hy35) rfl rfl rfl rfl rfl rfl rfl rfl rfl rfl) ?_
            refine go_E hΓ 1 rfl ?_
            refine ge_fin ?_
            obtain rfl := Option.some.inj h36
            exact ⟨⟨rfl, rfl, rfl, rfl, rfl, rfl, rfl, rfl, rfl, rfl, rfl, rfl, trivial⟩, [], rfl, .inl rfl⟩
          · have h37 := cF h31 hb
            refine go_E hΓ 8 rfl ?_
            refine ge_fin ?_
            obtain rfl := Option.some.inj h37
            exact ⟨⟨rfl, rfl, rfl, rfl, rfl, rfl, rfl, rfl, rfl, rfl, rfl, rfl, trivial⟩, [], rfl, .inl rfl⟩
        · refine go hΓ 1 rfl ?_
          refine j_cond rfl (fun hb => ?_) (fun hb => ?_)
          · have h38 := cT h29 hb
            obtain ⟨x39, hx39, h40⟩ := bi_ok h38
            refine go hΓ 2 rfl ?_
            refine eo_o rfl (op_elemZ hΓ (enc := e_laneref1_sent) hx39 rfl rfl rfl rfl rfl (fun _ => rfl)) ?_
            refine go_ops hΓ 10 rfl ?_
            obtain rfl := Option.some.inj h40
            exact ⟨⟨rfl, rfl, rfl, rfl, rfl, rfl, rfl, rfl, rfl, get_eq rfl (w64_succ (by omega)), trivial⟩, [], rfl, .inl rfl⟩
          · have h41 := cF h29 hb
            refine go hΓ 7 rfl ?_
            obtain rfl := Option.some.inj h41
            exact ⟨⟨rfl, rfl, rfl, rfl, rfl, rfl, rfl, rfl, rfl, get_eq rfl (w64_succ (by omega)), trivial⟩, [], rfl, .inl rfl⟩
      · refine go hΓ 6 rfl ?_
        refine j_condF rfl (decide_eq_false hge) ?_
        refine go hΓ 4 rfl ?_
        exact ⟨⟨rfl, rfl, rfl, rfl, rfl, rfl, rfl, trivial⟩, [], rfl, .inl rfl⟩
    · obtain ⟨q42, hq42, h43⟩ := bi_ok h17
      refine go hΓ 8 rfl ?_
      refine j_cutSZ (q := q42) (fun a44 => [(0, .ptr 1 0), (1, I v_at), (6, .ptr 4 0), (7, .ptr 5 0), (8, .ptr 6 0), (12, I a44.2)]) (fun a44 => [.dead, .box 76 [I t.n.Maps, I t.n.Lets, I t.n.Timeout, I t.n.First, I t.n.Ports, B t.n.Outer.Six, U t.n.Outer.Hi, U t.n.Outer.Lo, .sl 3 t.out.length, I a44.1, I t.now], .bag y11.2, .row 93 10 t.out.length (t.out.flatMap e_laneref1_sent), .box 45 [B v_from.Addr.Six, U v_from.Addr.Hi, U v_from.Addr.Lo, I v_from.Port], .box 45 [B to.Addr.Six, U to.Addr.Hi, U to.Addr.Lo, I to.Port], .box 45 [B false, U 0, U 0, I 0], .row 74 1 y11.1.length (y11.1.flatMap (eT 93 10 e_laneref1_sent))]) ?_ ?_
      · refine j_cond rfl (fun hb => ?_) (fun hb => ?_)
        · have h45 := cT hq42 hb
          refine go hΓ 8 rfl ?_
          refine j_cond rfl (fun hb => ?_) (fun hb => ?_)
          · have h46 := cT h45 hb
            refine go hΓ 2 rfl ?_
            refine eo_build hΓ (gs := [B false, U 0, U 0, I 0]) rfl rfl rfl rfl rfl rfl rfl ?_
            refine eo_store hΓ rfl rfl rfl rfl rfl rfl rfl rfl (Nat.le_of_ble_eq_true rfl) ?_
            refine eo_hp [.dead, .box 76 [I t.n.Maps, I t.n.Lets, I t.n.Timeout, I t.n.First, I t.n.Ports, B t.n.Outer.Six, U t.n.Outer.Hi, U t.n.Outer.Lo, .sl 3 t.out.length, I t.last, I t.now], .bag y11.2, .row 93 10 t.out.length (t.out.flatMap e_laneref1_sent), .box 45 [B v_from.Addr.Six, U v_from.Addr.Hi, U v_from.Addr.Lo, I v_from.Port], .box 45 [B to.Addr.Six, U to.Addr.Hi, U to.Addr.Lo, I to.Port], .box 45 [B false, U 0, U 0, I 0], .row 74 1 y11.1.length (y11.1.flatMap (eT 93 10 e_laneref1_sent))] rfl ?_
            refine go_ops hΓ 5 rfl ?_
            obtain ⟨v47, hv47, h48⟩ := bi_ok h46
            obtain rfl := Option.some.inj h48
            obtain rfl := Option.some.inj h43
            refine go hΓ 2 rfl ?_
            refine cv_here ?_
            obtain rfl := Option.some.inj hv47
            exact fin_objs hΓ [_, _, _, _] (.inr rfl) rfl rfl rfl rfl (.inr ⟨HB.mk rfl, rfl⟩)
          · have h49 := cF h45 hb
            obtain ⟨q50, hq50, h51⟩ := bi_ok h49
            refine go hΓ 22 rfl ?_
            refine j_cutNZ [(0, .ptr 1 0), (1, I v_at), (6, .ptr 4 0), (7, .ptr 5 0), (8, .ptr 6 0), (11, .sl 7 y11.1.length), (12, I q16), (15, I q50)] [.dead, .box 76 [I t.n.Maps, I t.n.Lets, I t.n.Timeout, I t.n.First, I t.n.Ports, B t.n.Outer.Six, U t.n.Outer.Hi, U t.n.Outer.Lo, .sl 3 t.out.length, I t.last, I t.now], .bag y11.2, .row 93 10 t.out.length (t.out.flatMap e_laneref1_sent), .box 45 [B v_from.Addr.Six, U v_from.Addr.Hi, U v_from.Addr.Lo, I v_from.Port], .box 45 [B to.Addr.Six, U to.Addr.Hi, U to.Addr.Lo, I to.Port], .box 45 [B false, U 0, U 0, I 0], .row 74 1 y11.1.length (y11.1.flatMap (eT 93 10 e_laneref1_sent))] ?_ ?_
            · refine j_cond rfl (fun hb => ?_) (fun hb => ?_)
              · have h52 := cT hq50 hb
                refine go hΓ 8 rfl ?_
                obtain rfl := Option.some.inj h52
                exact ⟨⟨rfl, rfl, rfl, rfl, rfl, rfl, rfl, rfl, trivial⟩, [], rfl, .inl rfl⟩
              · have h53 := cF hq50 hb
                refine go hΓ 1 rfl ?_
                obtain rfl := Option.some.inj h53
                exact ⟨⟨rfl, rfl, rfl, rfl, rfl, rfl, rfl, rfl, trivial⟩, [], rfl, .inl rfl⟩
            · refine go hΓ 12 rfl ?_
              obtain ⟨q57, hq57, h58⟩ := bi_ok h51
              obtain ⟨hb60, h61⟩ := gd_ok hq57
              replace hb60 := of_decide_eq_true hb60
              obtain ⟨q62, hq62, h63⟩ := bi_ok h58
              refine j_cutNZ [(0, .ptr 1 0), (1, I v_at), (6, .ptr 4 0), (7, .ptr 5 0), (8, .ptr 6 0), (12, I q62)] [.dead, .box 76 [I t.n.Maps, I t.n.Lets, I t.n.Timeout, I t.n.First, I t.n.Ports, B t.n.Outer.Six, U t.n.Outer.Hi, U t.n.Outer.Lo, .sl 3 t.out.length, I t.last, I t.now], .bag y11.2, .row 93 10 t.out.length (t.out.flatMap e_laneref1_sent), .box 45 [B v_from.Addr.Six, U v_from.Addr.Hi, U v_from.Addr.Lo, I v_from.Port], .box 45 [B to.Addr.Six, U to.Addr.Hi, U to.Addr.Lo, I to.Port], .box 45 [B false, U 0, U 0, I 0], .row 74 1 y11.1.length (y11.1.flatMap (eT 93 10 e_laneref1_sent))] ?_ ?_
              · refine go hΓ 1 rfl ?_
                refine j_rangeI h61 (fun i54 s55 => [(0, .ptr 1 0), (1, I v_at), (6, .ptr 4 0), (7, .ptr 5 0), (8, .ptr 6 0), (11, .sl 7 y11.1.length), (12, I q16), (15, I q50), (85, I t.n.Ports), (86, I (i54 : Int))]) (fun s55 => [.dead, .box 76 [I t.n.Maps, I t.n.Lets, I t.n.Timeout, I t.n.First, I t.n.Ports, B t.n.Outer.Six, U t.n.Outer.Hi, U t.n.Outer.Lo, .sl 3 t.out.length, I t.last, I t.now], .bag y11.2, .row 93 10 t.out.length (t.out.flatMap e_laneref1_sent), .box 45 [B v_from.Addr.Six, U v_from.Addr.Hi, U v_from.Addr.Lo, I v_from.Port], .box 45 [B to.Addr.Six, U to.Addr.Hi, U to.Addr.Lo, I to.Port], .box 45 [B false, U 0, U 0, I 0], .row 74 1 y11.1.length (y11.1.flatMap (eT 93 10 e_laneref1_sent))]) ⟨⟨rfl, rfl, rfl, rfl, rfl, rfl, rfl, rfl, rfl, rfl, trivial⟩, [], rfl, .inl rfl⟩ (fun i54 s55 y67 hlt hy65 hout66 => ?_) (fun s55 hgo hge => ?_)
                · refine go hΓ 6 rfl ?_
                  refine j_condT rfl (decide_eq_true hlt) ?_
                  refine go hΓ 11 rfl ?_
                  refine j_drawE [.dead, .box 76 [I t.n.Maps, I t.n.Lets, I t.n.Timeout, I t.n.First, I t.n.Ports, B t.n.Outer.Six, U t.n.Outer.Hi, U t.n.Outer.Lo, .sl 3 t.out.length, I t.last, I t.now]] [4, 10, 18] [21, 22] [] hmix (by kernel_rfl) (by kernel_rfl) ⟨rfl, trivial⟩ (Nat.le_of_ble_eq_true rfl) ?_
                  obtain ⟨y68, hy68, h69⟩ := bi_ok hy65
                  refine go_E hΓ 19 rfl ?_
                  refine ge_q rfl (.inl rfl) (fun _ _ => qte_of_qt (qt_p (op_remZ hy68 rfl rfl))) ?_
                  refine go_E hΓ 1 rfl ?_
                  refine ge_h [.dead, .box 76 [I t.n.Maps, I t.n.Lets, I t.n.Timeout, I t.n.First, I t.n.Ports, B t.n.Outer.Six, U t.n.Outer.Hi, U t.n.Outer.Lo, .sl 3 t.out.length, I t.last, I t.now], .bag y11.2, .row 93 10 t.out.length (t.out.flatMap e_laneref1_sent), .box 45 [B v_from.Addr.Six, U v_from.Addr.Hi, U v_from.Addr.Lo, I v_from.Port], .box 45 [B to.Addr.Six, U to.Addr.Hi, U to.Addr.Lo, I to.Port], .box 45 [B false, U 0, U 0, I 0], .row 74 1 y11.1.length (y11.1.flatMap (eT 93 10 e_laneref1_sent)), .box 3 [I 0]] rfl rfl rfl (st_st ⟨rfl, trivial⟩) (qte_s (ops_alloc hΓ (hi := show Γ 3 = some ⟨_, _, _, _⟩ from rfl) rfl)) ?_
                  refine ge_h0 [.dead, .box 76 [I t.n.Maps, I t.n.Lets, I t.n.Timeout, I t.n.First, I t.n.Ports, B t.n.Outer.Six, U t.n.Outer.Hi, U t.n.Outer.Lo, .sl 3 t.out.length, I t.last, I t.now], .bag y11.2, .row 93 10 t.out.length (t.out.flatMap e_laneref1_sent), .box 45 [B v_from.Addr.Six, U v_from.Addr.Hi, U v_from.Addr.Lo, I v_from.Port], .box 45 [B to.Addr.Six, U to.Addr.Hi, U to.Addr.Lo, I to.Port], .box 45 [B false, U 0, U 0, I 0], .row 74 1 y11.1.length (y11.1.flatMap (eT 93 10 e_laneref1_sent)), .box 3 [I (wi (t.n.First + y68))]] rfl rfl (st_st ⟨rfl, trivial⟩) (qte_u (opu_store2 hΓ rfl rfl rfl rfl rfl rfl rfl rfl rfl)) ?_
                  refine ge_fin ?_
                  obtain ⟨y70, hy70, h71⟩ := bi_ok h69
                  refine go hΓ 5 rfl ?_
                  refine eo_callF [7, 8] (B y70) [.dead, .box 76 [I t.n.Maps, I t.n.Lets, I t.n.Timeout, I t.n.First, I t.n.Ports, B t.n.Outer.Six, U t.n.Outer.Hi, U t.n.Outer.Lo, .sl 3 t.out.length, I t.last, I t.now], .bag y11.2, .row 93 10 t.out.length (t.out.flatMap e_laneref1_sent), .box 45 [B v_from.Addr.Six, U v_from.Addr.Hi, U v_from.Addr.Lo, I v_from.Port], .box 45 [B to.Addr.Six, U to.Addr.Hi, U to.Addr.Lo, I to.Port], .box 45 [B false, U 0, U 0, I 0], .row 74 1 y11.1.length (y11.1.flatMap (eT 93 10 e_laneref1_sent)), .box 3 [I (wi (t.n.First + y68))]] (callable Try.func46 rfl rfl) (c_slices_ContainsFunc_laneref1_sent_laneref1_sent hy70) rfl (Nat.le_of_ble_eq_true rfl) rfl rfl rfl rfl rfl rfl rfl rfl rfl rfl ?_
                  refine go_ops hΓ 3 rfl ?_
                  refine j_cond rfl (fun hb => ?_) (fun hb => ?_)
                  · have h72 := cT h71 hb
                    refine go hΓ 11 rfl ?_
                    obtain rfl := Option.some.inj h72
                    obtain rfl := hout66 _ rfl
                    obtain rfl := Option.some.inj hq62
                    exact ⟨⟨rfl, rfl, rfl, rfl, rfl, rfl, trivial⟩, [_], rfl, .inr ⟨HB.mk rfl, FB.mk rfl, (Nat.le_of_ble_eq_true rfl)⟩⟩
                  · have h73 := cF h71 hb
                    refine go hΓ 7 rfl ?_
                    obtain rfl := Option.some.inj h73
                    exact ⟨_, rfl, ⟨⟨rfl, rfl, rfl, rfl, rfl, rfl, rfl, rfl, rfl, get_eq rfl (w64_succ (by omega)), trivial⟩, [_], rfl, .inr ⟨HB.mk rfl, FB.mk rfl, (Nat.le_of_ble_eq_true rfl)⟩⟩⟩
                · subst hgo
                  refine go hΓ 6 rfl ?_
                  refine j_condF rfl (decide_eq_false hge) ?_
                  refine go hΓ 4 rfl ?_
                  obtain rfl := Option.some.inj hq62
                  exact ⟨⟨rfl, rfl, rfl, rfl, rfl, rfl, trivial⟩, [], rfl, .inl rfl⟩
              · refine go hΓ 8 rfl ?_
                refine j_cond rfl (fun hb => ?_) (fun hb => ?_)
                · have h74 := cT h63 hb
                  refine go hΓ 2 rfl ?_
                  refine eo_build hΓ (gs := [B false, U 0, U 0, I 0]) rfl rfl rfl rfl rfl rfl rfl ?_
                  refine eo_store hΓ rfl rfl rfl rfl rfl rfl rfl rfl (Nat.le_of_ble_eq_true rfl) ?_
                  refine eo_hp [.dead, .box 76 [I t.n.Maps, I t.n.Lets, I t.n.Timeout, I t.n.First, I t.n.Ports, B t.n.Outer.Six, U t.n.Outer.Hi, U t.n.Outer.Lo, .sl 3 t.out.length, I t.last, I t.now], .bag y11.2, .row 93 10 t.out.length (t.out.flatMap e_laneref1_sent), .box 45 [B v_from.Addr.Six, U v_from.Addr.Hi, U v_from.Addr.Lo, I v_from.Port], .box 45 [B to.Addr.Six, U to.Addr.Hi, U to.Addr.Lo, I to.Port], .box 45 [B false, U 0, U 0, I 0], .row 74 1 y11.1.length (y11.1.flatMap (eT 93 10 e_laneref1_sent))] rfl ?_
                  refine go_ops hΓ 5 rfl ?_
                  obtain ⟨v75, hv75, h76⟩ := bi_ok h74
                  obtain rfl := Option.some.inj h76
                  obtain rfl := Option.some.inj h43
                  refine go hΓ 2 rfl ?_
                  refine cv_here ?_
                  obtain rfl := Option.some.inj hv75
                  exact fin_objs hΓ [_, _, _, _] (.inr rfl) rfl rfl rfl rfl (.inr ⟨HB.mk rfl, rfl⟩)
                · have h77 := cF h63 hb
                  refine go hΓ 7 rfl ?_
                  refine eo_store hΓ rfl rfl rfl rfl rfl rfl rfl rfl (Nat.le_of_ble_eq_true rfl) ?_
                  refine eo_hp [.dead, .box 76 [I t.n.Maps, I t.n.Lets, I t.n.Timeout, I t.n.First, I t.n.Ports, B t.n.Outer.Six, U t.n.Outer.Hi, U t.n.Outer.Lo, .sl 3 t.out.length, I q62, I t.now], .bag y11.2, .row 93 10 t.out.length (t.out.flatMap e_laneref1_sent), .box 45 [B v_from.Addr.Six, U v_from.Addr.Hi, U v_from.Addr.Lo, I v_from.Port], .box 45 [B to.Addr.Six, U to.Addr.Hi, U to.Addr.Lo, I to.Port], .box 45 [B false, U 0, U 0, I 0], .row 74 1 y11.1.length (y11.1.flatMap (eT 93 10 e_laneref1_sent))] rfl ?_
                  refine go_ops hΓ 1 rfl ?_
                  obtain rfl := Option.some.inj h77
                  exact ⟨_, rfl, ⟨⟨rfl, rfl, rfl, rfl, rfl, rfl, trivial⟩, [], rfl, .inl rfl⟩⟩
        · have h78 := cF hq42 hb
          refine go hΓ 1 rfl ?_
          obtain rfl := Option.some.inj h78
          exact ⟨_, rfl, ⟨⟨rfl, rfl, rfl, rfl, rfl, rfl, trivial⟩, [], rfl, .inl rfl⟩⟩
      · intro a44 ha
        subst ha
        replace h43 := orI_l h43
        refine go hΓ 2 rfl ?_
        refine j_drawE [.dead, .box 76 [I t.n.Maps, I t.n.Lets, I t.n.Timeout, I t.n.First, I t.n.Ports, B t.n.Outer.Six, U t.n.Outer.Hi, U t.n.Outer.Lo, .sl 3 t.out.length, I a44.1, I t.now], .dead, .dead, .box 45 [B v_from.Addr.Six, U v_from.Addr.Hi, U v_from.Addr.Lo, I v_from.Port], .box 45 [B to.Addr.Six, U to.Addr.Hi, U to.Addr.Lo, I to.Port]] [5, 7, 8] [12, 16, 19] [12, 16, 19] hmix (by kernel_rfl) (by kernel_rfl) ⟨rfl, rfl, rfl, trivial⟩ (Nat.le_of_ble_eq_true rfl) ?_
        refine go_E hΓ 10 rfl ?_
        refine ge_q rfl (.inl rfl) (fun _ _ => qte_of_qt (qt_p (op_build hΓ (gs := [I v_at, B v_from.Addr.Six, U v_from.Addr.Hi, U v_from.Addr.Lo, I v_from.Port, B to.Addr.Six, U to.Addr.Hi, U to.Addr.Lo, I to.Port, I a44.2]) rfl rfl rfl rfl rfl rfl))) ?_
        refine ge_litT hΓ (enc := e_laneref1_sent) [(⟨v_at, v_from, to, a44.2⟩ : T_laneref1_sent)] rfl rfl rfl rfl rfl rfl rfl rfl rfl rfl rfl rfl ?_
        obtain ⟨y79, hy79, h80⟩ := bi_ok h43
        refine ge_h [.dead, .box 76 [I t.n.Maps, I t.n.Lets, I t.n.Timeout, I t.n.First, I t.n.Ports, B t.n.Outer.Six, U t.n.Outer.Hi, U t.n.Outer.Lo, .junk, I a44.1, I t.now], .bag y11.2, .dead, .box 45 [B v_from.Addr.Six, U v_from.Addr.Hi, U v_from.Addr.Lo, I v_from.Port], .box 45 [B to.Addr.Six, U to.Addr.Hi, U to.Addr.Lo, I to.Port], .box 45 [B false, U 0, U 0, I 0], .row 74 1 y11.1.length (y11.1.flatMap (eT 93 10 e_laneref1_sent)), .row 93 10 y79.length (y79.flatMap e_laneref1_sent)] rfl rfl rfl (brk_st rfl) (qte_s (ops_forg 3 (ops_appendT hΓ (enc := e_laneref1_sent) (id := 3) (h2 := show Γ 93 = some ⟨_, 10, _, _⟩ from rfl) hy79 rfl rfl rfl rfl rfl rfl rfl rfl (fun _ => rfl) rfl))) ?_
        refine go_E hΓ 3 rfl ?_
        refine ge_h0 [.dead, .box 76 [I t.n.Maps, I t.n.Lets, I t.n.Timeout, I t.n.First, I t.n.Ports, B t.n.Outer.Six, U t.n.Outer.Hi, U t.n.Outer.Lo, .sl 8 y79.length, I a44.1, I t.now], .bag y11.2, .dead, .box 45 [B v_from.Addr.Six, U v_from.Addr.Hi, U v_from.Addr.Lo, I v_from.Port], .box 45 [B to.Addr.Six, U to.Addr.Hi, U to.Addr.Lo, I to.Port], .box 45 [B false, U 0, U 0, I 0], .row 74 1 y11.1.length (y11.1.flatMap (eT 93 10 e_laneref1_sent)), .row 93 10 y79.length (y79.flatMap e_laneref1_sent)] rfl rfl (brk_st rfl) (qte_u (opu_store2 hΓ rfl rfl rfl rfl rfl rfl rfl rfl rfl)) ?_
        refine go_E hΓ 2 rfl ?_
        refine ge_h0 [.dead, .box 76 [I t.n.Maps, I t.n.Lets, I t.n.Timeout, I t.n.First, I t.n.Ports, B t.n.Outer.Six, U t.n.Outer.Hi, U t.n.Outer.Lo, .sl 8 y79.length, I a44.1, I v_at], .bag y11.2, .dead, .box 45 [B v_from.Addr.Six, U v_from.Addr.Hi, U v_from.Addr.Lo, I v_from.Port], .box 45 [B to.Addr.Six, U to.Addr.Hi, U to.Addr.Lo, I to.Port], .box 45 [B false, U 0, U 0, I 0], .row 74 1 y11.1.length (y11.1.flatMap (eT 93 10 e_laneref1_sent)), .row 93 10 y79.length (y79.flatMap e_laneref1_sent)] rfl rfl (brk_st rfl) (qte_u (opu_store2 hΓ rfl rfl rfl rfl rfl rfl rfl rfl rfl)) ?_
        refine ge_fin ?_
        refine go hΓ 1 rfl ?_
        refine j_move 8 3 [.dead, .box 76 [I t.n.Maps, I t.n.Lets, I t.n.Timeout, I t.n.First, I t.n.Ports, B t.n.Outer.Six, U t.n.Outer.Hi, U t.n.Outer.Lo, .sl 3 y79.length, I a44.1, I v_at], .bag y11.2, .row 93 10 y79.length (y79.flatMap e_laneref1_sent), .box 45 [B v_from.Addr.Six, U v_from.Addr.Hi, U v_from.Addr.Lo, I v_from.Port], .box 45 [B to.Addr.Six, U to.Addr.Hi, U to.Addr.Lo, I to.Port], .box 45 [B false, U 0, U 0, I 0], .row 74 1 y11.1.length (y11.1.flatMap (eT 93 10 e_laneref1_sent)), .dead] rfl rfl rfl rfl rfl rfl ?_
        refine go hΓ 8 rfl ?_
        refine eo_build hΓ (gs := [B t.n.Outer.Six, U t.n.Outer.Hi, U t.n.Outer.Lo, I a44.2]) rfl rfl rfl rfl rfl rfl rfl ?_
        refine eo_store hΓ rfl rfl rfl rfl rfl rfl rfl rfl (Nat.le_of_ble_eq_true rfl) ?_
        refine eo_hp [.dead, .box 76 [I t.n.Maps, I t.n.Lets, I t.n.Timeout, I t.n.First, I t.n.Ports, B t.n.Outer.Six, U t.n.Outer.Hi, U t.n.Outer.Lo, .sl 3 y79.length, I a44.1, I v_at], .bag y11.2, .row 93 10 y79.length (y79.flatMap e_laneref1_sent), .box 45 [B v_from.Addr.Six, U v_from.Addr.Hi, U v_from.Addr.Lo, I v_from.Port], .box 45 [B to.Addr.Six, U to.Addr.Hi, U to.Addr.Lo, I to.Port], .box 45 [B t.n.Outer.Six, U t.n.Outer.Hi, U t.n.Outer.Lo, I a44.2], .row 74 1 y11.1.length (y11.1.flatMap (eT 93 10 e_laneref1_sent)), .dead] rfl ?_
        refine go_ops hΓ 4 rfl ?_
        refine cv_here ?_
        obtain rfl := Option.some.inj h80
        exact fin_objs hΓ [_, _, _, _, _] (.inr rfl) rfl rfl rfl rfl (.inr ⟨HB.mk rfl, rfl⟩)
theorem c_slices_Clone_api_Spot_api_Spot {s : List T_api_Spot} {r : List T_api_Spot} (h : m_slices_Clone_api_Spot_api_Spot s = some r) : EC Try.prog 57 [.d (Sl e_api_Spot s)] [] fun g hp' => g = .sl 0 r.length ∧ hp' = [.row 45 4 r.length (r.flatMap e_api_Spot)] := by
  refine ec_enterC (Fr.of 0 _) Try.func57 rfl (Fr.of_ok _) (Nat.le_of_ble_eq_true rfl) fun _ => ?_
  refine go_in ?_
  unfold m_slices_Clone_api_Spot_api_Spot at h
  refine go hΓ 2 rfl ?_
  refine eo_nilOwn (t := 0) 45 4 rfl (Nat.le_of_ble_eq_true rfl) ?_
  refine go_ops hΓ 6 rfl ?_
  refine eo_isNil hΓ rfl rfl rfl rfl rfl fun b hbn => ?_
  rcases b with _ | _
  · refine go_ops hΓ 7 rfl ?_
    refine eo_litRowT hΓ (enc := e_api_Spot) ([] : List T_api_Spot) rfl rfl rfl rfl rfl rfl rfl rfl rfl rfl rfl rfl (Nat.le_of_ble_eq_true rfl) ?_
    obtain ⟨y1, hy1, h2⟩ := bi_ok h
    refine go_ops hΓ 1 rfl ?_
    refine eo_appendT hΓ (enc := e_api_Spot) hy1 rfl rfl rfl rfl rfl rfl rfl rfl rfl (fun _ => rfl) rfl rfl rfl rfl ?_
    refine go_ops hΓ 4 rfl ?_
    refine cv_kill 0 [.dead, .row 45 4 y1.length (y1.flatMap e_api_Spot)] rfl (Nat.le_of_ble_eq_true rfl) ?_
    refine cv_move 1 0 [.row 45 4 y1.length (y1.flatMap e_api_Spot), .dead] rfl rfl rfl rfl rfl rfl ?_
    refine cv_here ?_
    obtain rfl := Option.some.inj h2
    exact fin_objs hΓ [_] (.inr rfl) rfl rfl rfl rfl (.inr ⟨HB.mk rfl, rfl⟩)
  · obtain rfl := List.eq_nil_of_length_eq_zero (hbn rfl).1
    replace h : (some ([] : List T_api_Spot) : Option (List T_api_Spot)) = some r := h
    refine go_ops hΓ 5 rfl ?_
    refine eo_nilOwn (t := 0) 45 4 rfl (Nat.le_of_ble_eq_true rfl) ?_
    refine go_ops hΓ 4 rfl ?_
    refine cv_kill 0 [.dead, .row 45 4 ([] : List T_api_Spot).length (([] : List T_api_Spot).flatMap e_api_Spot)] rfl (Nat.le_of_ble_eq_true rfl) ?_
    refine cv_move 1 0 [.row 45 4 ([] : List T_api_Spot).length (([] : List T_api_Spot).flatMap e_api_Spot), .dead] rfl rfl rfl rfl rfl rfl ?_
    refine cv_here ?_
    obtain rfl := Option.some.inj h
    exact fin_objs hΓ [_] (.inr rfl) rfl rfl rfl rfl (.inr ⟨HB.mk rfl, rfl⟩)
theorem c_laneref1_Translator_In_1 {s : T_laneref1_sent} {x : T_laneref1_Translator} {x2 : T_api_Spot} {r : Bool} (h : m_laneref1_Translator_In_1 s x x2 = some r) : EC Try.prog 52 [.agg [I s.v_at, B s.v_from.Addr.Six, U s.v_from.Addr.Hi, U s.v_from.Addr.Lo, I s.v_from.Port, B s.to.Addr.Six, U s.to.Addr.Hi, U s.to.Addr.Lo, I s.to.Port, I s.port], .ptr 2 0, .ptr 3 0] [.row 93 10 x.out.length (x.out.flatMap e_laneref1_sent), .box 76 [I x.n.Maps, I x.n.Lets, I x.n.Timeout, I x.n.First, I x.n.Ports, B x.n.Outer.Six, U x.n.Outer.Hi, U x.n.Outer.Lo, .sl 0 x.out.length, I x.last, I x.now], .box 38 [.ptr 1 0], .box 45 [B x2.Addr.Six, U x2.Addr.Hi, U x2.Addr.Lo, I x2.Port]] fun g hp' => g = B r ∧ hp' = [.row 93 10 x.out.length (x.out.flatMap e_laneref1_sent), .box 76 [I x.n.Maps, I x.n.Lets, I x.n.Timeout, I x.n.First, I x.n.Ports, B x.n.Outer.Six, U x.n.Outer.Hi, U x.n.Outer.Lo, .sl 0 x.out.length, I x.last, I x.now], .box 38 [.ptr 1 0], .box 45 [B x2.Addr.Six, U x2.Addr.Hi, U x2.Addr.Lo, I x2.Port]] := by
  refine ec_enter (Fr.of 0 _) Try.func52 rfl (Fr.of_ok _) (Nat.le_of_ble_eq_true rfl) fun _ => ?_
  refine go_in ?_
  unfold m_laneref1_Translator_In_1 at h
  refine go hΓ 2 rfl ?_
  refine eo_box rfl rfl rfl rfl (Nat.le_of_ble_eq_true rfl) ?_
  refine go_ops hΓ 12 rfl ?_
  refine o_cut 23 [(4, B false), (34, B (((x.n.Lets : Int) == 1) || ((((s.to.Addr.Six : Bool) == x2.Addr.Six) && (((s.to.Addr.Hi : Int) == x2.Addr.Hi) && (((s.to.Addr.Lo : Int) == x2.Addr.Lo) && true))) && (((x.n.Lets : Int) == 2) || ((s.to.Port : Int) == x2.Port)))))] [.row 93 10 x.out.length (x.out.flatMap e_laneref1_sent), .box 76 [I x.n.Maps, I x.n.Lets, I x.n.Timeout, I x.n.First, I x.n.Ports, B x.n.Outer.Six, U x.n.Outer.Hi, U x.n.Outer.Lo, .sl 0 x.out.length, I x.last, I x.now], .box 38 [.ptr 1 0], .box 45 [B x2.Addr.Six, U x2.Addr.Hi, U x2.Addr.Lo, I x2.Port], .box 93 [I s.v_at, B s.v_from.Addr.Six, U s.v_from.Addr.Hi, U s.v_from.Addr.Lo, I s.v_from.Port, B s.to.Addr.Six, U s.to.Addr.Hi, U s.to.Addr.Lo, I s.to.Port, I s.port]] ?_ ?_
  · refine eo_gsplit rfl rfl (fun hb => ?_) (fun hb => ?_)
    · refine go_ops hΓ 24 rfl ?_
      exact ⟨⟨rfl, get_b rfl (or_t hb), trivial⟩, [], rfl, .inl rfl⟩
    · refine go_ops hΓ 5 rfl ?_
      refine eo_guard rfl ?_
      refine eo_o rfl (op_eqS hΓ [28] (b := (((s.to.Addr.Six : Bool) == x2.Addr.Six) && (((s.to.Addr.Hi : Int) == x2.Addr.Hi) && (((s.to.Addr.Lo : Int) == x2.Addr.Lo) && true)))) (by kernel_rfl) (by kernel_rfl) rfl rfl rfl) ?_
      refine go_ops hΓ 1 rfl ?_
      refine o_cut 15 [(4, B false), (11, B false), (33, B ((((s.to.Addr.Six : Bool) == x2.Addr.Six) && (((s.to.Addr.Hi : Int) == x2.Addr.Hi) && (((s.to.Addr.Lo : Int) == x2.Addr.Lo) && true))) && (((x.n.Lets : Int) == 2) || ((s.to.Port : Int) == x2.Port))))] [.row 93 10 x.out.length (x.out.flatMap e_laneref1_sent), .box 76 [I x.n.Maps, I x.n.Lets, I x.n.Timeout, I x.n.First, I x.n.Ports, B x.n.Outer.Six, U x.n.Outer.Hi, U x.n.Outer.Lo, .sl 0 x.out.length, I x.last, I x.now], .box 38 [.ptr 1 0], .box 45 [B x2.Addr.Six, U x2.Addr.Hi, U x2.Addr.Lo, I x2.Port], .box 93 [I s.v_at, B s.v_from.Addr.Six, U s.v_from.Addr.Hi, U s.v_from.Addr.Lo, I s.v_from.Port, B s.to.Addr.Six, U s.to.Addr.Hi, U s.to.Addr.Lo, I s.to.Port, I s.port]] ?_ ?_
      · refine eo_gsplit rfl rfl (fun hb => ?_) (fun hb => ?_)
        · refine go_ops hΓ 7 rfl ?_
          refine o_cut 7 [(4, B false), (11, B false), (18, B true), (32, B (((x.n.Lets : Int) == 2) || ((s.to.Port : Int) == x2.Port)))] [.row 93 10 x.out.length (x.out.flatMap e_laneref1_sent), .box 76 [I x.n.Maps, I x.n.Lets, I x.n.Timeout, I x.n.First, I x.n.Ports, B x.n.Outer.Six, U x.n.Outer.Hi, U x.n.Outer.Lo, .sl 0 x.out.length, I x.last, I x.now], .box 38 [.ptr 1 0], .box 45 [B x2.Addr.Six, U x2.Addr.Hi, U x2.Addr.Lo, I x2.Port], .box 93 [I s.v_at, B s.v_from.Addr.Six, U s.v_from.Addr.Hi, U s.v_from.Addr.Lo, I s.v_from.Port, B s.to.Addr.Six, U s.to.Addr.Hi, U s.to.Addr.Lo, I s.to.Port, I s.port]] ?_ ?_
          · refine eo_gsplit rfl rfl (fun hb => ?_) (fun hb => ?_)
            · refine go_ops hΓ 8 rfl ?_
              exact ⟨⟨rfl, rfl, rfl, get_b rfl (or_t hb), trivial⟩, [], rfl, .inl rfl⟩
            · refine go_ops hΓ 8 rfl ?_
              exact ⟨⟨rfl, rfl, rfl, get_b rfl (or_f hb), trivial⟩, [], rfl, .inl rfl⟩
          · refine go_ops hΓ 2 rfl ?_
            exact ⟨⟨rfl, rfl, get_b rfl (and_t hb), trivial⟩, [], rfl, .inl rfl⟩
        · refine go_ops hΓ 16 rfl ?_
          exact ⟨⟨rfl, rfl, get_b rfl (and_f hb), trivial⟩, [], rfl, .inl rfl⟩
      · refine go_ops hΓ 2 rfl ?_
        exact ⟨⟨rfl, get_b rfl (or_f hb), trivial⟩, [], rfl, .inl rfl⟩
  · refine go_ops hΓ 4 rfl ?_
    obtain rfl := Option.some.inj h
    exact fin_objs hΓ [_] (.inr rfl) rfl rfl rfl rfl (.inr ⟨HB.mk rfl, rfl⟩)
theorem c_slices_IndexFunc_laneref1_sent_laneref1_sent_4 {s : List T_laneref1_sent} {f : T_laneref1_Translator} {f2 : T_api_Spot} {r : Int} (h : m_slices_IndexFunc_laneref1_sent_laneref1_sent_4 s f f2 = some r) : EC Try.prog 78 [.d (Sl e_laneref1_sent s), .fn (.func 52) [] [.ptr 2 0, .ptr 3 0]] [.row 93 10 f.out.length (f.out.flatMap e_laneref1_sent), .box 76 [I f.n.Maps, I f.n.Lets, I f.n.Timeout, I f.n.First, I f.n.Ports, B f.n.Outer.Six, U f.n.Outer.Hi, U f.n.Outer.Lo, .sl 0 f.out.length, I f.last, I f.now], .box 38 [.ptr 1 0], .box 45 [B f2.Addr.Six, U f2.Addr.Hi, U f2.Addr.Lo, I f2.Port]] fun g hp' => g = I r ∧ hp' = [.row 93 10 f.out.length (f.out.flatMap e_laneref1_sent), .box 76 [I f.n.Maps, I f.n.Lets, I f.n.Timeout, I f.n.First, I f.n.Ports, B f.n.Outer.Six, U f.n.Outer.Hi, U f.n.Outer.Lo, .sl 0 f.out.length, I f.last, I f.now], .box 38 [.ptr 1 0], .box 45 [B f2.Addr.Six, U f2.Addr.Hi, U f2.Addr.Lo, I f2.Port]] := by
  refine ec_enter (Fr.of 0 _) Try.func78 rfl (Fr.of_ok _) (Nat.le_of_ble_eq_true rfl) fun _ => ?_
  refine go_in ?_
  unfold m_slices_IndexFunc_laneref1_sent_laneref1_sent_4 at h
  refine go hΓ 13 rfl ?_
  obtain ⟨q4, hq4, h5⟩ := bi_ok h
  refine j_bound 0 rfl fun hb7 => ?_
  refine j_cutEZ (R := fun a6 => q4 = .go a6) (fun a6 => []) (fun a6 => [.row 93 10 f.out.length (f.out.flatMap e_laneref1_sent), .box 76 [I f.n.Maps, I f.n.Lets, I f.n.Timeout, I f.n.First, I f.n.Ports, B f.n.Outer.Six, U f.n.Outer.Hi, U f.n.Outer.Lo, .sl 0 f.out.length, I f.last, I f.now], .box 38 [.ptr 1 0], .box 45 [B f2.Addr.Six, U f2.Addr.Hi, U f2.Addr.Lo, I f2.Port]]) ?_ ?_
  · refine go hΓ 1 rfl ?_
    refine j_range s hq4 (fun i1 s2 => [(0, .d (Sl e_laneref1_sent s)), (1, .fn (.func 52) [] [.ptr 2 0, .ptr 3 0]), (7, I (s.length : Int)), (8, I (i1 : Int))]) (fun s2 => [.row 93 10 f.out.length (f.out.flatMap e_laneref1_sent), .box 76 [I f.n.Maps, I f.n.Lets, I f.n.Timeout, I f.n.First, I f.n.Ports, B f.n.Outer.Six, U f.n.Outer.Hi, U f.n.Outer.Lo, .sl 0 f.out.length, I f.last, I f.now], .box 38 [.ptr 1 0], .box 45 [B f2.Addr.Six, U f2.Addr.Hi, U f2.Addr.Lo, I f2.Port]]) ⟨⟨rfl, rfl, rfl, rfl, trivial⟩, [], rfl, .inl rfl⟩ (fun i1 x3 s2 y11 hx8 hlt hy9 hout10 => ?_) (fun s2 hgo => ?_)
    · refine go hΓ 6 rfl ?_
      refine j_condT rfl (decide_eq_true (Int.ofNat_lt.2 hlt)) ?_
      refine go hΓ 15 rfl ?_
      refine eo_o rfl (op_elemZ hΓ (enc := e_laneref1_sent) (getZ_nat hx8) rfl rfl rfl rfl rfl (fun _ => rfl)) ?_
      obtain ⟨y12, hy12, h13⟩ := bi_ok hy9
      refine go_ops hΓ 1 rfl ?_
      refine eo_callF [0, 1, 2, 3] (B y12) [.row 93 10 f.out.length (f.out.flatMap e_laneref1_sent), .box 76 [I f.n.Maps, I f.n.Lets, I f.n.Timeout, I f.n.First, I f.n.Ports, B f.n.Outer.Six, U f.n.Outer.Hi, U f.n.Outer.Lo, .sl 0 f.out.length, I f.last, I f.now], .box 38 [.ptr 1 0], .box 45 [B f2.Addr.Six, U f2.Addr.Hi, U f2.Addr.Lo, I f2.Port]] (callable Try.func52 rfl rfl) (c_laneref1_Translator_In_1 hy12) rfl (Nat.le_of_ble_eq_true rfl) rfl rfl rfl rfl rfl rfl rfl rfl rfl rfl ?_
      refine go_ops hΓ 2 rfl ?_
      refine j_cond rfl (fun hb => ?_) (fun hb => ?_)
      · have h14 := cT h13 hb
        refine go hΓ 9 rfl ?_
        obtain ⟨v15, hv15, h16⟩ := bi_ok h14
        obtain rfl := Option.some.inj h16
        obtain rfl := hout10 _ rfl
        obtain rfl := Option.some.inj h5
        refine go hΓ 4 rfl ?_
        obtain rfl := Option.some.inj hv15
        exact fin_objs hΓ [] (.inr rfl) rfl rfl rfl rfl (.inl rfl)
      · have h17 := cF h13 hb
        refine go hΓ 7 rfl ?_
        obtain rfl := Option.some.inj h17
        exact ⟨_, rfl, ⟨⟨rfl, rfl, rfl, get_eq rfl (w64_succ (Nat.lt_of_lt_of_le hlt hb7)), trivial⟩, [], rfl, .inl rfl⟩⟩
    · subst hgo
      refine go hΓ 6 rfl ?_
      refine j_condF rfl (decide_eq_false (Int.lt_irrefl _)) ?_
      refine go hΓ 4 rfl ?_
      exact ⟨_, rfl, ⟨trivial, [], rfl, .inl rfl⟩⟩
  · intro a6 ha
    subst ha
    replace h5 := goI_l h5
    refine go hΓ 7 rfl ?_
    obtain rfl := Option.some.inj h5
    exact fin_objs hΓ [] (.inr rfl) rfl rfl rfl rfl (.inl rfl)
end Go.Proofs.Ytnjnmkpgedkffaa
