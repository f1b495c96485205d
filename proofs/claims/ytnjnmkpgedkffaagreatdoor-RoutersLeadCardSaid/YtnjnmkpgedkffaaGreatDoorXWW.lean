/-
  The functions compute their models.
-/
import Derived.Test.YtnjnmkpgedkffaaGreatDoorXWM
import Derived.Test.YtnjnmkpgedkffaaGreatDoorGt
import Derived.Test.YtnjnmkpgedkffaaGreatDoorStrR
import Derived.Test.YtnjnmkpgedkffaaGreatDoorXWW2
set_option linter.unusedVariables false
set_option linter.unusedSimpArgs false
set_option maxRecDepth 100000
namespace Go.Proofs.YtnjnmkpgedkffaaGreatDoor
open Go.Gk
set_option maxHeartbeats 8000000 in
theorem c_lanelaw1_RoutersLead {k : Nat} {l : List Int} {al : List Bool} {r : Bool × (List Bool)} (h : m_lanelaw1_RoutersLead k l al = some r) : EC Tryz.prog 4 [.d (Sl (eN .i64) l)] [.bag al] fun g hp' => g = B r.1 ∧ hp' = [.bag r.2] := by
  refine ec_enter (Fr.of 0 _) Tryz.func4 rfl (Fr.of_ok _) (Nat.le_of_ble_eq_true rfl) fun _ => ?_
  refine go_in ?_
  unfold m_lanelaw1_RoutersLead at h
  refine go hΓ 8 rfl ?_
  refine eo_build hΓ (gs := [.d (Sl (eN .i64) l), I 0]) rfl rfl rfl rfl rfl rfl rfl ?_
  refine eo_box rfl rfl rfl rfl (Nat.le_of_ble_eq_true rfl) ?_
  obtain ⟨y1, hy1, h2⟩ := bi_ok h
  refine go_ops hΓ 6 rfl ?_
  refine eo_callF [1] (.sl 2 y1.1.length) [.bag al, .box 25 [.d (Sl (eN .i64) y1.2.L), I y1.2.v_at], .row 69 6 y1.1.length (y1.1.flatMap e_api_Router)] (callable Tryz.func6 rfl rfl) (c_lanemake_Stream_Routers hy1) rfl (Nat.le_of_ble_eq_true rfl) rfl rfl rfl rfl rfl rfl rfl rfl rfl rfl ?_
  refine eo_shr 2 [31] _ [.bag al, .box 25 [.d (Sl (eN .i64) y1.2.L), I y1.2.v_at], .dead] rfl rfl rfl (Nat.le_of_ble_eq_true rfl) ?_
  obtain ⟨y3, hy3, h4⟩ := bi_ok h2
  refine go_ops hΓ 2 rfl ?_
  refine eo_callF [1] (I y3.1) [.bag al, .box 25 [.d (Sl (eN .i64) y3.2.L), I y3.2.v_at], .dead] (callable Tryz.func8 rfl rfl) (c_lanemake_Stream_Range hy3) rfl (Nat.le_of_ble_eq_true rfl) rfl rfl rfl rfl rfl rfl rfl rfl rfl rfl ?_
  obtain ⟨y5, hy5, h6⟩ := bi_ok h4
  refine eo_callF [1] (.sl 3 y5.1.length) [.bag al, .box 25 [.d (Sl (eN .i64) y5.2.L), I y5.2.v_at], .dead, .row 103 3 y5.1.length (y5.1.flatMap e_api_Health)] (callable Tryz.func7 rfl rfl) (c_lanemake_Stream_HealthLog hy5) rfl (Nat.le_of_ble_eq_true rfl) rfl rfl rfl rfl rfl rfl rfl rfl rfl rfl ?_
  refine eo_shr 3 [35] _ [.bag al, .box 25 [.d (Sl (eN .i64) y5.2.L), I y5.2.v_at], .dead, .dead] rfl rfl rfl (Nat.le_of_ble_eq_true rfl) ?_
  obtain ⟨y7, hy7, h8⟩ := bi_ok h6
  refine go_ops hΓ 1 rfl ?_
  refine eo_callF [1] (I y7.1) [.bag al, .box 25 [.d (Sl (eN .i64) y7.2.L), I y7.2.v_at], .dead, .dead] (callable Tryz.func9 rfl rfl) (c_lanemake_Stream_Time hy7) rfl (Nat.le_of_ble_eq_true rfl) rfl rfl rfl rfl rfl rfl rfl rfl rfl rfl ?_
  obtain ⟨y9, hy9, h10⟩ := bi_ok h8
  refine go_ops hΓ 1 rfl ?_
  refine eo_callF [1] (.agg [I y9.1.From, I y9.1.To]) [.bag al, .box 25 [.d (Sl (eN .i64) y9.2.L), I y9.2.v_at], .dead, .dead] (callable Tryz.func26 rfl rfl) (c_lanemake_Stream_Span hy9) rfl (Nat.le_of_ble_eq_true rfl) rfl rfl rfl rfl rfl rfl rfl rfl rfl rfl ?_
  refine go_ops hΓ 1 rfl ?_
  refine eo_litT hΓ (enc := eS) [[110, 97], [110, 98], [65]] rfl rfl rfl rfl rfl rfl rfl rfl rfl rfl rfl rfl (Nat.le_of_ble_eq_true rfl) ?_
  obtain ⟨y11, hy11, h12⟩ := bi_ok h10
  refine eo_callF [1] (S y11.1) [.bag al, .box 25 [.d (Sl (eN .i64) y11.2.L), I y11.2.v_at], .dead, .dead] (callable Tryz.func27 rfl rfl) (c_lanemake_Stream_Some hy11) rfl (Nat.le_of_ble_eq_true rfl) rfl rfl rfl rfl rfl rfl rfl rfl rfl rfl ?_
  refine eo_alloc hΓ rfl rfl rfl (Nat.le_of_ble_eq_true rfl) ?_
  refine go_ops hΓ 3 rfl ?_
  refine eo_store hΓ rfl rfl rfl rfl rfl rfl rfl rfl (Nat.le_of_ble_eq_true rfl) ?_
  refine eo_hp [.bag al, .box 25 [.d (Sl (eN .i64) y11.2.L), I y11.2.v_at], .dead, .dead, .box 64 [I y9.1.From, I y9.1.To]] rfl ?_
  obtain ⟨y13, hy13, h14⟩ := bi_ok h12
  refine go_ops hΓ 6 rfl ?_
  refine eo_callF [1] (.agg [B y13.1.Addr.Six, .d (.v (.int .u64 y13.1.Addr.Hi)), .d (.v (.int .u64 y13.1.Addr.Lo)), I y13.1.Bits]) [.bag al, .box 25 [.d (Sl (eN .i64) y13.2.L), I y13.2.v_at], .dead, .dead, .box 64 [I y9.1.From, I y9.1.To]] (callable Tryz.func28 rfl rfl) (c_lanemake_Stream_Prefix hy13) rfl (Nat.le_of_ble_eq_true rfl) rfl rfl rfl rfl rfl rfl rfl rfl rfl rfl ?_
  refine eo_alloc hΓ rfl rfl rfl (Nat.le_of_ble_eq_true rfl) ?_
  refine eo_store hΓ rfl rfl rfl rfl rfl rfl rfl rfl (Nat.le_of_ble_eq_true rfl) ?_
  refine eo_hp [.bag al, .box 25 [.d (Sl (eN .i64) y13.2.L), I y13.2.v_at], .dead, .dead, .box 64 [I y9.1.From, I y9.1.To], .box 42 [B y13.1.Addr.Six, .d (.v (.int .u64 y13.1.Addr.Hi)), .d (.v (.int .u64 y13.1.Addr.Lo)), I y13.1.Bits]] rfl ?_
  refine go_ops hΓ 9 rfl ?_
  obtain ⟨q15, hq15, h16⟩ := bi_ok h14
  refine o_cut 4 [(3, .ptr 1 0), (4, .d (Sl e_api_Router y1.1)), (5, .d (Sl e_api_Health y5.1)), (6, I y7.1), (7, .ptr 4 0), (8, S y11.1), (9, .ptr 5 0), (52, B q15.2)] [.bag al, .box 25 [.d (Sl (eN .i64) q15.1.L), I q15.1.v_at], .dead, .dead, .box 64 [I y9.1.From, I y9.1.To], .box 42 [B y13.1.Addr.Six, .d (.v (.int .u64 y13.1.Addr.Hi)), .d (.v (.int .u64 y13.1.Addr.Lo)), I y13.1.Bits]] ?_ ?_
  · refine eo_gsplit rfl rfl (fun hb => ?_) (fun hb => ?_)
    · have h17 := cT hq15 hb
      obtain ⟨y18, hy18, h19⟩ := bi_ok h17
      refine go_ops hΓ 1 rfl ?_
      refine eo_guard rfl ?_
      refine eo_callF [1] (B y18.1) [.bag al, .box 25 [.d (Sl (eN .i64) y18.2.L), I y18.2.v_at], .dead, .dead, .box 64 [I y9.1.From, I y9.1.To], .box 42 [B y13.1.Addr.Six, .d (.v (.int .u64 y13.1.Addr.Hi)), .d (.v (.int .u64 y13.1.Addr.Lo)), I y13.1.Bits]] (callable Tryz.func11 rfl rfl) (c_lanemake_Stream_Flip hy18) rfl (Nat.le_of_ble_eq_true rfl) rfl rfl rfl rfl rfl rfl rfl rfl rfl rfl ?_
      refine go_ops hΓ 3 rfl ?_
      obtain rfl := Option.some.inj h19
      exact ⟨⟨rfl, rfl, rfl, rfl, rfl, rfl, rfl, rfl, trivial⟩, [], rfl, .inl rfl⟩
    · have h20 := cF hq15 hb
      refine go_ops hΓ 5 rfl ?_
      obtain rfl := Option.some.inj h20
      exact ⟨⟨rfl, rfl, rfl, rfl, rfl, rfl, rfl, rfl, trivial⟩, [], rfl, .inl rfl⟩
  · obtain ⟨q21, hq21, h22⟩ := bi_ok h16
    refine go_ops hΓ 2 rfl ?_
    refine j_cutNZ [(4, .d (Sl e_api_Router y1.1)), (5, .d (Sl e_api_Health y5.1)), (6, I y7.1), (7, .ptr 4 0), (8, S y11.1), (9, .ptr 5 0)] [.bag al, .box 25 [.d (Sl (eN .i64) q21.1.L), I q21.1.v_at], .dead, .dead, .box 64 [I y9.1.From, I y9.1.To], .box 42 [B q21.2.Addr.Six, .d (.v (.int .u64 q21.2.Addr.Hi)), .d (.v (.int .u64 q21.2.Addr.Lo)), I q21.2.Bits]] ?_ ?_
    · refine j_cond rfl (fun hb => ?_) (fun hb => ?_)
      · have h23 := cT hq21 hb
        obtain ⟨y24, hy24, h25⟩ := bi_ok h23
        refine go hΓ 5 rfl ?_
        refine eo_callF [1] (I y24.1) [.bag al, .box 25 [.d (Sl (eN .i64) y24.2.L), I y24.2.v_at], .dead, .dead, .box 64 [I y9.1.From, I y9.1.To], .box 42 [B y13.1.Addr.Six, .d (.v (.int .u64 y13.1.Addr.Hi)), .d (.v (.int .u64 y13.1.Addr.Lo)), I y13.1.Bits]] (callable Tryz.func29 rfl rfl) (c_lanemake_Stream_Next hy24) rfl (Nat.le_of_ble_eq_true rfl) rfl rfl rfl rfl rfl rfl rfl rfl rfl rfl ?_
        obtain ⟨x26, hx26, h27⟩ := bi_ok h25
        refine eo_o rfl (op_elemZ hΓ (enc := e_api_Router) hx26 rfl rfl rfl rfl rfl (fun _ => rfl)) ?_
        refine go_ops hΓ 2 rfl ?_
        refine eo_store hΓ rfl rfl rfl rfl rfl rfl rfl rfl (Nat.le_of_ble_eq_true rfl) ?_
        refine eo_hp [.bag al, .box 25 [.d (Sl (eN .i64) y24.2.L), I y24.2.v_at], .dead, .dead, .box 64 [I y9.1.From, I y9.1.To], .box 42 [B x26.Prefix.Addr.Six, .d (.v (.int .u64 x26.Prefix.Addr.Hi)), .d (.v (.int .u64 x26.Prefix.Addr.Lo)), I x26.Prefix.Bits]] rfl ?_
        refine go_ops hΓ 1 rfl ?_
        obtain rfl := Option.some.inj h27
        exact ⟨⟨rfl, rfl, rfl, rfl, rfl, rfl, trivial⟩, [], rfl, .inl rfl⟩
      · have h28 := cF hq21 hb
        refine go hΓ 1 rfl ?_
        obtain rfl := Option.some.inj h28
        exact ⟨⟨rfl, rfl, rfl, rfl, rfl, rfl, trivial⟩, [], rfl, .inl rfl⟩
    · obtain ⟨y29, hy29, h30⟩ := bi_ok h22
      refine go hΓ 4 rfl ?_
      refine eo_callP (callable Tryz.func17 rfl rfl) (c_laneref1_HealthFault hy29) rfl (Nat.le_of_ble_eq_true rfl) rfl rfl rfl rfl rfl ?_
      obtain ⟨y31, hy31, h32⟩ := bi_ok h30
      refine go_ops hΓ 1 rfl ?_
      refine eo_callP (callable Tryz.func16 rfl rfl) (c_laneref1_RoutersFault hy31) rfl (Nat.le_of_ble_eq_true rfl) rfl rfl rfl rfl rfl ?_
      obtain ⟨y33, hy33, h34⟩ := bi_ok h32
      refine go_ops hΓ 1 rfl ?_
      refine eo_callP (callable Tryz.func17 rfl rfl) (c_laneref1_HealthFault hy33) rfl (Nat.le_of_ble_eq_true rfl) rfl rfl rfl rfl rfl ?_
      refine eo_litT hΓ (enc := (eN .i64)) [y31, y33] rfl rfl rfl rfl rfl rfl rfl rfl rfl rfl rfl rfl (Nat.le_of_ble_eq_true rfl) ?_
      obtain ⟨y35, hy35, h36⟩ := bi_ok h34
      refine eo_callP (callable Tryz.func15 rfl rfl) (c_cmp_Or_api_Errno hy35) rfl (Nat.le_of_ble_eq_true rfl) rfl rfl rfl rfl rfl ?_
      obtain ⟨y37, hy37, h38⟩ := bi_ok h36
      refine go_ops hΓ 8 rfl ?_
      refine eo_callP (callable Tryz.func30 rfl rfl) (c_route_CheckRouters hy37) rfl (Nat.le_of_ble_eq_true rfl) rfl rfl rfl rfl rfl ?_
      obtain ⟨y39, hy39, h40⟩ := bi_ok h38
      refine go_ops hΓ 1 rfl ?_
      refine eo_callP (callable Tryz.func16 rfl rfl) (c_laneref1_RoutersFault hy39) rfl (Nat.le_of_ble_eq_true rfl) rfl rfl rfl rfl rfl ?_
      refine go_ops hΓ 2 rfl ?_
      obtain ⟨q41, hq41, h42⟩ := bi_ok h40
      refine o_cut 5 [(4, .d (Sl e_api_Router y1.1)), (5, .d (Sl e_api_Health y5.1)), (6, I y7.1), (7, .ptr 4 0), (8, S y11.1), (9, .ptr 5 0), (10, I y29), (11, I y35), (79, B q41)] [.bag al, .box 25 [.d (Sl (eN .i64) q21.1.L), I q21.1.v_at], .dead, .dead, .box 64 [I y9.1.From, I y9.1.To], .box 42 [B q21.2.Addr.Six, .d (.v (.int .u64 q21.2.Addr.Hi)), .d (.v (.int .u64 q21.2.Addr.Lo)), I q21.2.Bits]] ?_ ?_
      · refine eo_gsplit rfl rfl (fun hb => ?_) (fun hb => ?_)
        · have h43 := cT hq41 hb
          refine go_ops hΓ 6 rfl ?_
          obtain rfl := Option.some.inj h43
          exact ⟨⟨rfl, rfl, rfl, rfl, rfl, rfl, rfl, rfl, rfl, trivial⟩, [], rfl, .inl rfl⟩
        · have h44 := cF hq41 hb
          obtain ⟨y45, hy45, h46⟩ := bi_ok h44
          refine go_ops hΓ 1 rfl ?_
          refine eo_guard rfl ?_
          refine eo_callP (callable Tryz.func31 rfl rfl) (c_route_CheckHealth hy45) rfl (Nat.le_of_ble_eq_true rfl) rfl rfl rfl rfl rfl ?_
          refine go_ops hΓ 4 rfl ?_
          obtain rfl := Option.some.inj h46
          exact ⟨⟨rfl, rfl, rfl, rfl, rfl, rfl, rfl, rfl, rfl, trivial⟩, [], rfl, .inl rfl⟩
      · refine go_ops hΓ 2 rfl ?_
        refine j_cond rfl (fun hb => ?_) (fun hb => ?_)
        · have h47 := cT h42 hb
          refine go hΓ 7 rfl ?_
          obtain rfl := Option.some.inj h47
          exact fin_objs hΓ [_, _, _, _, _] (.inr rfl) rfl rfl rfl rfl (.inr ⟨HB.mk rfl, rfl⟩)
        · have h48 := cF h42 hb
          obtain ⟨y49, hy49, h50⟩ := bi_ok h48
          refine go hΓ 7 rfl ?_
          refine eo_callP (callable Tryz.func32 rfl rfl) (c_route_IsUp hy49) rfl (Nat.le_of_ble_eq_true rfl) rfl rfl rfl rfl rfl ?_
          obtain ⟨y51, hy51, h52⟩ := bi_ok h50
          refine go_ops hΓ 12 rfl ?_
          refine eo_callP (callable Tryz.func33 rfl rfl) (c_route_UpTime hy51) rfl (Nat.le_of_ble_eq_true rfl) rfl rfl rfl rfl rfl ?_
          refine go_ops hΓ 8 rfl ?_
          refine j_draw hmix (by kernel_rfl) ?_
          obtain ⟨y53, hy53, h54⟩ := bi_ok h52
          refine go hΓ 2 rfl ?_
          refine gl_callP (callable Tryz.func34 rfl rfl) (c_laneref1_KeyFault hy53) rfl rfl rfl rfl rfl rfl ?_
          obtain ⟨y55, hy55, h56⟩ := bi_ok h54
          refine go_draw hΓ 1 rfl ?_
          refine gl_callP (callable Tryz.func18 rfl rfl) (c_laneref1_MomentFault hy55) rfl rfl rfl rfl rfl rfl ?_
          refine gl_litT hΓ (enc := (eN .i64)) [y29, y53, y55] rfl rfl rfl rfl rfl rfl rfl rfl rfl rfl rfl rfl ?_
          obtain ⟨y57, hy57, h58⟩ := bi_ok h56
          refine gl_callP (callable Tryz.func15 rfl rfl) (c_cmp_Or_api_Errno hy57) rfl rfl rfl rfl rfl rfl ?_
          obtain ⟨y59, hy59, h60⟩ := bi_ok h58
          refine go_draw hΓ 2 rfl ?_
          refine gl_callP (callable Tryz.func34 rfl rfl) (c_laneref1_KeyFault hy59) rfl rfl rfl rfl rfl rfl ?_
          obtain ⟨y61, hy61, h62⟩ := bi_ok h60
          refine go_draw hΓ 1 rfl ?_
          refine gl_callP (callable Tryz.func35 rfl rfl) (c_laneref1_WindowFault hy61) rfl rfl rfl rfl rfl rfl ?_
          refine gl_litT hΓ (enc := (eN .i64)) [y29, y59, y61] rfl rfl rfl rfl rfl rfl rfl rfl rfl rfl rfl rfl ?_
          obtain ⟨y63, hy63, h64⟩ := bi_ok h62
          refine gl_callP (callable Tryz.func15 rfl rfl) (c_cmp_Or_api_Errno hy63) rfl rfl rfl rfl rfl rfl ?_
          refine go_draw hΓ 11 rfl ?_
          refine o_cut 4 [(4, .d (Sl e_api_Router y1.1)), (5, .d (Sl e_api_Health y5.1)), (6, I y7.1), (7, .ptr 4 0), (8, S y11.1), (9, .ptr 5 0), (11, I y35), (12, B y49.1), (14, I y51.1), (16, I y57), (17, I y63), (115, B (((y49.2 : Int) != y57) || ((y51.2 : Int) != y63)))] [.bag al, .box 25 [.d (Sl (eN .i64) q21.1.L), I q21.1.v_at], .dead, .dead, .box 64 [I y9.1.From, I y9.1.To], .box 42 [B q21.2.Addr.Six, .d (.v (.int .u64 q21.2.Addr.Hi)), .d (.v (.int .u64 q21.2.Addr.Lo)), I q21.2.Bits]] ?_ ?_
          · refine eo_gsplit rfl rfl (fun hb => ?_) (fun hb => ?_)
            · refine go_ops hΓ 5 rfl ?_
              exact ⟨⟨rfl, rfl, rfl, rfl, rfl, rfl, rfl, rfl, rfl, rfl, rfl, get_b rfl (or_t hb), trivial⟩, [], rfl, .inl rfl⟩
            · refine go_ops hΓ 5 rfl ?_
              exact ⟨⟨rfl, rfl, rfl, rfl, rfl, rfl, rfl, rfl, rfl, rfl, rfl, get_b rfl (or_f hb), trivial⟩, [], rfl, .inl rfl⟩
          · refine go_ops hΓ 1 rfl ?_
            obtain ⟨q65, hq65, h66⟩ := bi_ok h64
            refine o_cut 11 [(4, .d (Sl e_api_Router y1.1)), (5, .d (Sl e_api_Health y5.1)), (6, I y7.1), (7, .ptr 4 0), (8, S y11.1), (9, .ptr 5 0), (11, I y35), (14, I y51.1), (17, I y63), (127, B q65)] [.bag al, .box 25 [.d (Sl (eN .i64) q21.1.L), I q21.1.v_at], .dead, .dead, .box 64 [I y9.1.From, I y9.1.To], .box 42 [B q21.2.Addr.Six, .d (.v (.int .u64 q21.2.Addr.Hi)), .d (.v (.int .u64 q21.2.Addr.Lo)), I q21.2.Bits]] ?_ ?_
            · refine eo_gsplit rfl rfl (fun hb => ?_) (fun hb => ?_)
              · have h67 := cT hq65 hb
                refine go_ops hΓ 12 rfl ?_
                obtain rfl := Option.some.inj h67
                exact ⟨⟨rfl, rfl, rfl, rfl, rfl, rfl, rfl, rfl, rfl, rfl, trivial⟩, [], rfl, .inl rfl⟩
              · have h68 := cF hq65 hb
                refine go_ops hΓ 4 rfl ?_
                obtain ⟨q69, hq69, h70⟩ := bi_ok h68
                refine o_cut 5 [(4, .d (Sl e_api_Router y1.1)), (5, .d (Sl e_api_Health y5.1)), (6, I y7.1), (7, .ptr 4 0), (8, S y11.1), (9, .ptr 5 0), (11, I y35), (14, I y51.1), (17, I y63), (116, B false), (117, B y49.1), (125, B q69)] [.bag al, .box 25 [.d (Sl (eN .i64) q21.1.L), I q21.1.v_at], .dead, .dead, .box 64 [I y9.1.From, I y9.1.To], .box 42 [B q21.2.Addr.Six, .d (.v (.int .u64 q21.2.Addr.Hi)), .d (.v (.int .u64 q21.2.Addr.Lo)), I q21.2.Bits]] ?_ ?_
                · refine eo_gsplit rfl rfl (fun hb => ?_) (fun hb => ?_)
                  · have h71 := cT hq69 hb
                    obtain ⟨y72, hy72, h73⟩ := bi_ok h71
                    refine go_ops hΓ 3 rfl ?_
                    refine eo_guard rfl ?_
                    refine eo_callP (callable Tryz.func36 rfl rfl) (c_laneref1_UpAt hy72) rfl (Nat.le_of_ble_eq_true rfl) rfl rfl rfl rfl rfl ?_
                    refine go_ops hΓ 2 rfl ?_
                    obtain rfl := Option.some.inj h73
                    exact ⟨⟨rfl, rfl, rfl, rfl, rfl, rfl, rfl, rfl, rfl, rfl, rfl, rfl, trivial⟩, [], rfl, .inl rfl⟩
                  · have h74 := cF hq69 hb
                    refine go_ops hΓ 6 rfl ?_
                    obtain rfl := Option.some.inj h74
                    exact ⟨⟨rfl, rfl, rfl, rfl, rfl, rfl, rfl, rfl, rfl, rfl, rfl, rfl, trivial⟩, [], rfl, .inl rfl⟩
                · refine go_ops hΓ 3 rfl ?_
                  obtain rfl := Option.some.inj h70
                  exact ⟨⟨rfl, rfl, rfl, rfl, rfl, rfl, rfl, rfl, rfl, rfl, trivial⟩, [], rfl, .inl rfl⟩
            · refine go_ops hΓ 1 rfl ?_
              obtain ⟨q75, hq75, h76⟩ := bi_ok h66
              refine o_cut 11 [(4, .d (Sl e_api_Router y1.1)), (5, .d (Sl e_api_Health y5.1)), (6, I y7.1), (7, .ptr 4 0), (9, .ptr 5 0), (11, I y35), (139, B q75)] [.bag al, .box 25 [.d (Sl (eN .i64) q21.1.L), I q21.1.v_at], .dead, .dead, .box 64 [I y9.1.From, I y9.1.To], .box 42 [B q21.2.Addr.Six, .d (.v (.int .u64 q21.2.Addr.Hi)), .d (.v (.int .u64 q21.2.Addr.Lo)), I q21.2.Bits]] ?_ ?_
              · refine eo_gsplit rfl rfl (fun hb => ?_) (fun hb => ?_)
                · have h77 := cT hq75 hb
                  refine go_ops hΓ 12 rfl ?_
                  obtain rfl := Option.some.inj h77
                  exact ⟨⟨rfl, rfl, rfl, rfl, rfl, rfl, rfl, trivial⟩, [], rfl, .inl rfl⟩
                · have h78 := cF hq75 hb
                  refine go_ops hΓ 3 rfl ?_
                  obtain ⟨q79, hq79, h80⟩ := bi_ok h78
                  refine o_cut 7 [(4, .d (Sl e_api_Router y1.1)), (5, .d (Sl e_api_Health y5.1)), (6, I y7.1), (7, .ptr 4 0), (9, .ptr 5 0), (11, I y35), (128, B false), (138, B q79)] [.bag al, .box 25 [.d (Sl (eN .i64) q21.1.L), I q21.1.v_at], .dead, .dead, .box 64 [I y9.1.From, I y9.1.To], .box 42 [B q21.2.Addr.Six, .d (.v (.int .u64 q21.2.Addr.Hi)), .d (.v (.int .u64 q21.2.Addr.Lo)), I q21.2.Bits]] ?_ ?_
                  · refine eo_gsplit rfl rfl (fun hb => ?_) (fun hb => ?_)
                    · have h81 := cT hq79 hb
                      obtain ⟨y82, hy82, h83⟩ := bi_ok h81
                      refine go_ops hΓ 4 rfl ?_
                      refine eo_guard rfl ?_
                      refine eo_callP (callable Tryz.func37 rfl rfl) (c_laneref1_UpIn hy82) rfl (Nat.le_of_ble_eq_true rfl) rfl rfl rfl rfl rfl ?_
                      refine go_ops hΓ 3 rfl ?_
                      obtain rfl := Option.some.inj h83
                      exact ⟨⟨rfl, rfl, rfl, rfl, rfl, rfl, rfl, rfl, trivial⟩, [], rfl, .inl rfl⟩
                    · have h84 := cF hq79 hb
                      refine go_ops hΓ 8 rfl ?_
                      obtain rfl := Option.some.inj h84
                      exact ⟨⟨rfl, rfl, rfl, rfl, rfl, rfl, rfl, rfl, trivial⟩, [], rfl, .inl rfl⟩
                  · refine go_ops hΓ 2 rfl ?_
                    obtain rfl := Option.some.inj h80
                    exact ⟨⟨rfl, rfl, rfl, rfl, rfl, rfl, rfl, trivial⟩, [], rfl, .inl rfl⟩
              · refine go_ops hΓ 2 rfl ?_
                refine j_cond rfl (fun hb => ?_) (fun hb => ?_)
                · have h85 := cT h76 hb
                  refine go hΓ 7 rfl ?_
                  obtain rfl := Option.some.inj h85
                  exact fin_objs hΓ [_, _, _, _, _] (.inr rfl) rfl rfl rfl rfl (.inr ⟨HB.mk rfl, rfl⟩)
                · have h86 := cF h76 hb
                  obtain ⟨y87, hy87, h88⟩ := bi_ok h86
                  refine go hΓ 8 rfl ?_
                  refine eo_callF [0] (.tup [S y87.1, I y87.2.1]) [.bag y87.2.2, .box 25 [.d (Sl (eN .i64) q21.1.L), I q21.1.v_at], .dead, .dead, .box 64 [I y9.1.From, I y9.1.To], .box 42 [B q21.2.Addr.Six, .d (.v (.int .u64 q21.2.Addr.Hi)), .d (.v (.int .u64 q21.2.Addr.Lo)), I q21.2.Bits]] (callable Tryz.func38 rfl rfl) (c_route_First hy87) rfl (Nat.le_of_ble_eq_true rfl) rfl rfl rfl rfl rfl rfl rfl rfl rfl rfl ?_
                  obtain ⟨y89, hy89, h90⟩ := bi_ok h88
                  refine go_ops hΓ 12 rfl ?_
                  refine eo_callF [0] (.tup [.d (Sl e_api_Turn y89.1), I y89.2.1]) [.bag y89.2.2, .box 25 [.d (Sl (eN .i64) q21.1.L), I q21.1.v_at], .dead, .dead, .box 64 [I y9.1.From, I y9.1.To], .box 42 [B q21.2.Addr.Six, .d (.v (.int .u64 q21.2.Addr.Hi)), .d (.v (.int .u64 q21.2.Addr.Lo)), I q21.2.Bits]] (callable Tryz.func39 rfl rfl) (c_route_Turns hy89) rfl (Nat.le_of_ble_eq_true rfl) rfl rfl rfl rfl rfl rfl rfl rfl rfl rfl ?_
                  obtain ⟨y91, hy91, h92⟩ := bi_ok h90
                  refine go_ops hΓ 13 rfl ?_
                  refine eo_callF [0] (.tup [I y91.1, I y91.2.1]) [.bag y91.2.2, .box 25 [.d (Sl (eN .i64) q21.1.L), I q21.1.v_at], .dead, .dead, .box 64 [I y9.1.From, I y9.1.To], .box 42 [B q21.2.Addr.Six, .d (.v (.int .u64 q21.2.Addr.Hi)), .d (.v (.int .u64 q21.2.Addr.Lo)), I q21.2.Bits]] (callable Tryz.func40 rfl rfl) (c_route_Outage hy91) rfl (Nat.le_of_ble_eq_true rfl) rfl rfl rfl rfl rfl rfl rfl rfl rfl rfl ?_
                  obtain ⟨y93, hy93, h94⟩ := bi_ok h92
                  refine go_ops hΓ 11 rfl ?_
                  refine eo_callP (callable Tryz.func41 rfl rfl) (c_laneref2_PrefixFault hy93) rfl (Nat.le_of_ble_eq_true rfl) rfl rfl rfl rfl rfl ?_
                  refine eo_litT hΓ (enc := (eN .i64)) [y35, y93] rfl rfl rfl rfl rfl rfl rfl rfl rfl rfl rfl rfl (Nat.le_of_ble_eq_true rfl) ?_
                  obtain ⟨y95, hy95, h96⟩ := bi_ok h94
                  refine eo_callP (callable Tryz.func15 rfl rfl) (c_cmp_Or_api_Errno hy95) rfl (Nat.le_of_ble_eq_true rfl) rfl rfl rfl rfl rfl ?_
                  refine go_ops hΓ 9 rfl ?_
                  obtain ⟨q97, hq97, h98⟩ := bi_ok h96
                  refine o_cut 5 [(4, .d (Sl e_api_Router y1.1)), (5, .d (Sl e_api_Health y5.1)), (6, I y7.1), (7, .ptr 4 0), (9, .ptr 5 0), (11, I y95), (18, S y87.1), (19, I y87.2.1), (20, .d (Sl e_api_Turn y89.1)), (21, I y89.2.1), (22, I y91.1), (23, I y91.2.1), (175, B q97)] [.bag y91.2.2, .box 25 [.d (Sl (eN .i64) q21.1.L), I q21.1.v_at], .dead, .dead, .box 64 [I y9.1.From, I y9.1.To], .box 42 [B q21.2.Addr.Six, .d (.v (.int .u64 q21.2.Addr.Hi)), .d (.v (.int .u64 q21.2.Addr.Lo)), I q21.2.Bits]] ?_ ?_
                  · refine eo_gsplit rfl rfl (fun hb => ?_) (fun hb => ?_)
                    · have h99 := cT hq97 hb
                      obtain ⟨y100, hy100, h101⟩ := bi_ok h99
                      refine go_ops hΓ 2 rfl ?_
                      refine eo_guard rfl ?_
                      refine eo_callP (callable Tryz.func42 rfl rfl) (c_laneref1_HasRouters hy100) rfl (Nat.le_of_ble_eq_true rfl) rfl rfl rfl rfl rfl ?_
                      refine go_ops hΓ 3 rfl ?_
                      obtain rfl := Option.some.inj h101
                      exact ⟨⟨rfl, rfl, rfl, rfl, rfl, rfl, rfl, rfl, rfl, rfl, rfl, rfl, rfl, trivial⟩, [], rfl, .inl rfl⟩
                    · have h102 := cF hq97 hb
                      refine go_ops hΓ 6 rfl ?_
                      obtain rfl := Option.some.inj h102
                      exact ⟨⟨rfl, rfl, rfl, rfl, rfl, rfl, rfl, rfl, rfl, rfl, rfl, rfl, rfl, trivial⟩, [], rfl, .inl rfl⟩
                  · obtain ⟨q103, hq103, h104⟩ := bi_ok h98
                    refine go_ops hΓ 2 rfl ?_
                    refine j_cutNZ [(4, .d (Sl e_api_Router y1.1)), (5, .d (Sl e_api_Health y5.1)), (6, I y7.1), (7, .ptr 4 0), (9, .ptr 5 0), (11, I q103), (18, S y87.1), (19, I y87.2.1), (20, .d (Sl e_api_Turn y89.1)), (21, I y89.2.1), (22, I y91.1), (23, I y91.2.1)] [.bag y91.2.2, .box 25 [.d (Sl (eN .i64) q21.1.L), I q21.1.v_at], .dead, .dead, .box 64 [I y9.1.From, I y9.1.To], .box 42 [B q21.2.Addr.Six, .d (.v (.int .u64 q21.2.Addr.Hi)), .d (.v (.int .u64 q21.2.Addr.Lo)), I q21.2.Bits]] ?_ ?_
                    · refine j_cond rfl (fun hb => ?_) (fun hb => ?_)
                      · have h105 := cT hq103 hb
                        refine go hΓ 3 rfl ?_
                        obtain rfl := Option.some.inj h105
                        exact ⟨⟨rfl, rfl, rfl, rfl, rfl, rfl, rfl, rfl, rfl, rfl, rfl, rfl, trivial⟩, [], rfl, .inl rfl⟩
                      · have h106 := cF hq103 hb
                        refine go hΓ 1 rfl ?_
                        obtain rfl := Option.some.inj h106
                        exact ⟨⟨rfl, rfl, rfl, rfl, rfl, rfl, rfl, rfl, rfl, rfl, rfl, rfl, trivial⟩, [], rfl, .inl rfl⟩
                    · obtain ⟨y107, hy107, h108⟩ := bi_ok h104
                      refine go hΓ 10 rfl ?_
                      refine eo_callP (callable Tryz.func18 rfl rfl) (c_laneref1_MomentFault hy107) rfl (Nat.le_of_ble_eq_true rfl) rfl rfl rfl rfl rfl ?_
                      refine eo_litT hΓ (enc := (eN .i64)) [q103, y107] rfl rfl rfl rfl rfl rfl rfl rfl rfl rfl rfl rfl (Nat.le_of_ble_eq_true rfl) ?_
                      obtain ⟨y109, hy109, h110⟩ := bi_ok h108
                      refine eo_callP (callable Tryz.func15 rfl rfl) (c_cmp_Or_api_Errno hy109) rfl (Nat.le_of_ble_eq_true rfl) rfl rfl rfl rfl rfl ?_
                      obtain ⟨q111, hq111, h112⟩ := bi_ok h110
                      refine go_ops hΓ 10 rfl ?_
                      refine j_cutNZ [(4, .d (Sl e_api_Router y1.1)), (5, .d (Sl e_api_Health y5.1)), (7, .ptr 4 0), (9, .ptr 5 0), (11, I q103), (18, S y87.1), (19, I y87.2.1), (20, .d (Sl e_api_Turn y89.1)), (21, I y89.2.1), (22, I y91.1), (23, I y91.2.1), (24, S q111.1), (25, I q111.2)] [.bag y91.2.2, .box 25 [.d (Sl (eN .i64) q21.1.L), I q21.1.v_at], .dead, .dead, .box 64 [I y9.1.From, I y9.1.To], .box 42 [B q21.2.Addr.Six, .d (.v (.int .u64 q21.2.Addr.Hi)), .d (.v (.int .u64 q21.2.Addr.Lo)), I q21.2.Bits]] ?_ ?_
                      · refine j_cond rfl (fun hb => ?_) (fun hb => ?_)
                        · have h113 := cT hq111 hb
                          obtain ⟨y114, hy114, h115⟩ := bi_ok h113
                          refine go hΓ 6 rfl ?_
                          refine eo_callP (callable Tryz.func43 rfl rfl) (c_laneref1_FirstAt hy114) rfl (Nat.le_of_ble_eq_true rfl) rfl rfl rfl rfl rfl ?_
                          obtain ⟨y116, hy116, h117⟩ := bi_ok h115
                          refine go_ops hΓ 6 rfl ?_
                          refine eo_callP (callable Tryz.func44 rfl rfl) (c_lanelaw1_when hy116) rfl (Nat.le_of_ble_eq_true rfl) rfl rfl rfl rfl rfl ?_
                          refine go_ops hΓ 2 rfl ?_
                          obtain rfl := Option.some.inj h117
                          exact ⟨⟨rfl, rfl, rfl, rfl, rfl, rfl, rfl, rfl, rfl, rfl, rfl, rfl, rfl, trivial⟩, [], rfl, .inl rfl⟩
                        · have h118 := cF hq111 hb
                          refine go hΓ 1 rfl ?_
                          obtain rfl := Option.some.inj h118
                          exact ⟨⟨rfl, rfl, rfl, rfl, rfl, rfl, rfl, rfl, rfl, rfl, rfl, rfl, rfl, trivial⟩, [], rfl, .inl rfl⟩
                      · obtain ⟨y119, hy119, h120⟩ := bi_ok h112
                        refine go hΓ 5 rfl ?_
                        refine eo_callP (callable Tryz.func35 rfl rfl) (c_laneref1_WindowFault hy119) rfl (Nat.le_of_ble_eq_true rfl) rfl rfl rfl rfl rfl ?_
                        refine eo_litT hΓ (enc := (eN .i64)) [q103, y119] rfl rfl rfl rfl rfl rfl rfl rfl rfl rfl rfl rfl (Nat.le_of_ble_eq_true rfl) ?_
                        obtain ⟨y121, hy121, h122⟩ := bi_ok h120
                        refine eo_callP (callable Tryz.func15 rfl rfl) (c_cmp_Or_api_Errno hy121) rfl (Nat.le_of_ble_eq_true rfl) rfl rfl rfl rfl rfl ?_
                        refine go_ops hΓ 10 rfl ?_
                        refine o_cut 4 [(4, .d (Sl e_api_Router y1.1)), (5, .d (Sl e_api_Health y5.1)), (7, .ptr 4 0), (9, .ptr 5 0), (11, I q103), (20, .d (Sl e_api_Turn y89.1)), (21, I y89.2.1), (22, I y91.1), (23, I y91.2.1), (26, I y121), (203, B (((y87.2.1 : Int) != q111.2) || (!((y87.1 : Str) == q111.1))))] [.bag y91.2.2, .box 25 [.d (Sl (eN .i64) q21.1.L), I q21.1.v_at], .dead, .dead, .box 64 [I y9.1.From, I y9.1.To], .box 42 [B q21.2.Addr.Six, .d (.v (.int .u64 q21.2.Addr.Hi)), .d (.v (.int .u64 q21.2.Addr.Lo)), I q21.2.Bits]] ?_ ?_
                        · refine eo_gsplit rfl rfl (fun hb => ?_) (fun hb => ?_)
                          · refine go_ops hΓ 5 rfl ?_
                            exact ⟨⟨rfl, rfl, rfl, rfl, rfl, rfl, rfl, rfl, rfl, rfl, get_b rfl (or_t hb), trivial⟩, [], rfl, .inl rfl⟩
                          · refine go_ops hΓ 5 rfl ?_
                            exact ⟨⟨rfl, rfl, rfl, rfl, rfl, rfl, rfl, rfl, rfl, rfl, get_b rfl (or_f hb), trivial⟩, [], rfl, .inl rfl⟩
                        · refine go_ops hΓ 1 rfl ?_
                          refine o_cut 4 [(4, .d (Sl e_api_Router y1.1)), (5, .d (Sl e_api_Health y5.1)), (7, .ptr 4 0), (9, .ptr 5 0), (11, I q103), (20, .d (Sl e_api_Turn y89.1)), (22, I y91.1), (23, I y91.2.1), (26, I y121), (208, B ((((y87.2.1 : Int) != q111.2) || (!((y87.1 : Str) == q111.1))) || ((y89.2.1 : Int) != q103)))] [.bag y91.2.2, .box 25 [.d (Sl (eN .i64) q21.1.L), I q21.1.v_at], .dead, .dead, .box 64 [I y9.1.From, I y9.1.To], .box 42 [B q21.2.Addr.Six, .d (.v (.int .u64 q21.2.Addr.Hi)), .d (.v (.int .u64 q21.2.Addr.Lo)), I q21.2.Bits]] ?_ ?_
                          · refine eo_gsplit rfl rfl (fun hb => ?_) (fun hb => ?_)
                            · refine go_ops hΓ 5 rfl ?_
                              exact ⟨⟨rfl, rfl, rfl, rfl, rfl, rfl, rfl, rfl, rfl, get_b rfl (or_t hb), trivial⟩, [], rfl, .inl rfl⟩
                            · refine go_ops hΓ 5 rfl ?_
                              exact ⟨⟨rfl, rfl, rfl, rfl, rfl, rfl, rfl, rfl, rfl, get_b rfl (or_f hb), trivial⟩, [], rfl, .inl rfl⟩
                          · refine go_ops hΓ 1 rfl ?_
                            refine o_cut 4 [(4, .d (Sl e_api_Router y1.1)), (5, .d (Sl e_api_Health y5.1)), (7, .ptr 4 0), (9, .ptr 5 0), (11, I q103), (20, .d (Sl e_api_Turn y89.1)), (22, I y91.1), (26, I y121), (213, B (((((y87.2.1 : Int) != q111.2) || (!((y87.1 : Str) == q111.1))) || ((y89.2.1 : Int) != q103)) || ((y91.2.1 : Int) != y121)))] [.bag y91.2.2, .box 25 [.d (Sl (eN .i64) q21.1.L), I q21.1.v_at], .dead, .dead, .box 64 [I y9.1.From, I y9.1.To], .box 42 [B q21.2.Addr.Six, .d (.v (.int .u64 q21.2.Addr.Hi)), .d (.v (.int .u64 q21.2.Addr.Lo)), I q21.2.Bits]] ?_ ?_
                            · refine eo_gsplit rfl rfl (fun hb => ?_) (fun hb => ?_)
                              · refine go_ops hΓ 5 rfl ?_
                                exact ⟨⟨rfl, rfl, rfl, rfl, rfl, rfl, rfl, rfl, get_b rfl (or_t hb), trivial⟩, [], rfl, .inl rfl⟩
                              · refine go_ops hΓ 5 rfl ?_
                                exact ⟨⟨rfl, rfl, rfl, rfl, rfl, rfl, rfl, rfl, get_b rfl (or_f hb), trivial⟩, [], rfl, .inl rfl⟩
                            · refine go_ops hΓ 2 rfl ?_
                              refine j_cond rfl (fun hb => ?_) (fun hb => ?_)
                              · have h123 := cT h122 hb
                                refine go hΓ 7 rfl ?_
                                obtain rfl := Option.some.inj h123
                                exact fin_objs hΓ [_, _, _, _, _] (.inr rfl) rfl rfl rfl rfl (.inr ⟨HB.mk rfl, rfl⟩)
                              · have h124 := cF h122 hb
                                refine go hΓ 7 rfl ?_
                                obtain ⟨q125, hq125, h126⟩ := bi_ok h124
                                refine o_cut 7 [(4, .d (Sl e_api_Router y1.1)), (5, .d (Sl e_api_Health y5.1)), (7, .ptr 4 0), (9, .ptr 5 0), (22, I y91.1), (26, I y121), (223, B q125)] [.bag y91.2.2, .box 25 [.d (Sl (eN .i64) q21.1.L), I q21.1.v_at], .dead, .dead, .box 64 [I y9.1.From, I y9.1.To], .box 42 [B q21.2.Addr.Six, .d (.v (.int .u64 q21.2.Addr.Hi)), .d (.v (.int .u64 q21.2.Addr.Lo)), I q21.2.Bits]] ?_ ?_
                                · refine eo_gsplit rfl rfl (fun hb => ?_) (fun hb => ?_)
                                  · have h127 := cT hq125 hb
                                    refine go_ops hΓ 8 rfl ?_
                                    obtain rfl := Option.some.inj h127
                                    exact ⟨⟨rfl, rfl, rfl, rfl, rfl, rfl, rfl, trivial⟩, [], rfl, .inl rfl⟩
                                  · have h128 := cF hq125 hb
                                    obtain ⟨y129, hy129, h130⟩ := bi_ok h128
                                    refine go_ops hΓ 4 rfl ?_
                                    refine eo_guard rfl ?_
                                    refine eo_callP (callable Tryz.func46 rfl rfl) (Pure.rows (c_laneref1_FirstTurns hy129) rfl rfl) rfl (Nat.le_of_ble_eq_true rfl) rfl rfl rfl rfl rfl ?_
                                    obtain ⟨y131, hy131, h132⟩ := bi_ok h130
                                    refine eo_guard rfl ?_
                                    refine eo_callP (callable Tryz.func45 rfl rfl) (c_slices_Equal_api_Turn_api_Turn hy131) rfl (Nat.le_of_ble_eq_true rfl) rfl rfl rfl rfl rfl ?_
                                    refine go_ops hΓ 2 rfl ?_
                                    obtain rfl := Option.some.inj h132
                                    exact ⟨⟨rfl, rfl, rfl, rfl, rfl, rfl, rfl, trivial⟩, [], rfl, .inl rfl⟩
                                · refine go_ops hΓ 1 rfl ?_
                                  obtain ⟨q133, hq133, h134⟩ := bi_ok h126
                                  refine o_cut 12 [(236, B q133)] [.bag y91.2.2, .box 25 [.d (Sl (eN .i64) q21.1.L), I q21.1.v_at], .dead, .dead, .box 64 [I y9.1.From, I y9.1.To], .box 42 [B q21.2.Addr.Six, .d (.v (.int .u64 q21.2.Addr.Hi)), .d (.v (.int .u64 q21.2.Addr.Lo)), I q21.2.Bits]] ?_ ?_
                                  · refine eo_gsplit rfl rfl (fun hb => ?_) (fun hb => ?_)
                                    · have h135 := cT hq133 hb
                                      refine go_ops hΓ 3 rfl ?_
                                      obtain ⟨q136, hq136, h137⟩ := bi_ok h135
                                      refine o_cut 8 [(224, B true), (235, B q136)] [.bag y91.2.2, .box 25 [.d (Sl (eN .i64) q21.1.L), I q21.1.v_at], .dead, .dead, .box 64 [I y9.1.From, I y9.1.To], .box 42 [B q21.2.Addr.Six, .d (.v (.int .u64 q21.2.Addr.Hi)), .d (.v (.int .u64 q21.2.Addr.Lo)), I q21.2.Bits]] ?_ ?_
                                      · refine eo_gsplit rfl rfl (fun hb => ?_) (fun hb => ?_)
                                        · have h138 := cT hq136 hb
                                          refine go_ops hΓ 9 rfl ?_
                                          obtain rfl := Option.some.inj h138
                                          exact ⟨⟨rfl, rfl, trivial⟩, [], rfl, .inl rfl⟩
                                        · have h139 := cF hq136 hb
                                          obtain ⟨y140, hy140, h141⟩ := bi_ok h139
                                          refine go_ops hΓ 5 rfl ?_
                                          refine eo_guard rfl ?_
                                          refine eo_callP (callable Tryz.func47 rfl rfl) (c_laneref1_OutageIn hy140) rfl (Nat.le_of_ble_eq_true rfl) rfl rfl rfl rfl rfl ?_
                                          refine go_ops hΓ 3 rfl ?_
                                          obtain rfl := Option.some.inj h141
                                          exact ⟨⟨rfl, rfl, trivial⟩, [], rfl, .inl rfl⟩
                                      · refine go_ops hΓ 2 rfl ?_
                                        obtain rfl := Option.some.inj h137
                                        exact ⟨⟨rfl, trivial⟩, [], rfl, .inl rfl⟩
                                    · have h142 := cF hq133 hb
                                      refine go_ops hΓ 13 rfl ?_
                                      obtain rfl := Option.some.inj h142
                                      exact ⟨⟨rfl, trivial⟩, [], rfl, .inl rfl⟩
                                  · refine go_ops hΓ 1 rfl ?_
                                    obtain ⟨q143, hq143, h144⟩ := bi_ok h134
                                    refine o_cut 2 [(239, B q143)] [.bag y91.2.2, .box 25 [.d (Sl (eN .i64) q21.1.L), I q21.1.v_at], .dead, .dead, .box 64 [I y9.1.From, I y9.1.To], .box 42 [B q21.2.Addr.Six, .d (.v (.int .u64 q21.2.Addr.Hi)), .d (.v (.int .u64 q21.2.Addr.Lo)), I q21.2.Bits]] ?_ ?_
                                    · refine eo_gsplit rfl rfl (fun hb => ?_) (fun hb => ?_)
                                      · have h145 := cT hq143 hb
                                        obtain ⟨y146, hy146, h147⟩ := bi_ok h145
                                        refine eo_guard rfl ?_
                                        refine eo_callP (callable Tryz.func24 rfl rfl) (c_lanelaw1_routed hy146) rfl (Nat.le_of_ble_eq_true rfl) rfl rfl rfl rfl rfl ?_
                                        refine go_ops hΓ 2 rfl ?_
                                        obtain rfl := Option.some.inj h147
                                        exact ⟨⟨rfl, trivial⟩, [], rfl, .inl rfl⟩
                                      · have h148 := cF hq143 hb
                                        refine go_ops hΓ 3 rfl ?_
                                        obtain rfl := Option.some.inj h148
                                        exact ⟨⟨rfl, trivial⟩, [], rfl, .inl rfl⟩
                                    · refine go_ops hΓ 4 rfl ?_
                                      obtain rfl := Option.some.inj h144
                                      exact fin_objs hΓ [_, _, _, _, _] (.inr rfl) rfl rfl rfl rfl (.inr ⟨HB.mk rfl, rfl⟩)
end Go.Proofs.YtnjnmkpgedkffaaGreatDoor
