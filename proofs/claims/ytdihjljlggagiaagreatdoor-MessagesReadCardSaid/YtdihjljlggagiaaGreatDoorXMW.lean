/-
  The functions compute their models.
-/
import Derived.Test.YtdihjljlggagiaaGreatDoorXMM
import Derived.Test.YtdihjljlggagiaaGreatDoorGt
import Derived.Test.YtdihjljlggagiaaGreatDoorStr
import Derived.Test.YtdihjljlggagiaaGreatDoorStr2
import Derived.Test.YtdihjljlggagiaaGreatDoorStr5
import Derived.Test.YtdihjljlggagiaaGreatDoorXMW1
set_option linter.unusedVariables false
set_option linter.unusedSimpArgs false
set_option maxRecDepth 100000
namespace Go.Proofs.YtdihjljlggagiaaGreatDoor
open Go.Gk
set_option maxHeartbeats 8000000 in
theorem c_name_messageFault {k : Nat} {m : T_api_Message} {r : Int} (h : m_name_messageFault k m = some r) : Pure Tryz.prog 116 [.agg [I m.Id, B m.Reply, I m.Code, .d (Sl e_api_Question m.Asked), .d (Sl e_api_Record m.Got)]] (I r) := by
  refine Pure.enter (Fr.of 0 _) Tryz.func116 rfl (Fr.of_ok _) rfl rfl ?_
  refine go_in ?_
  unfold m_name_messageFault at h
  refine go hΓ 2 rfl ?_
  refine eo_box rfl rfl rfl rfl (Nat.le_of_ble_eq_true rfl) ?_
  obtain ⟨y1, hy1, h2⟩ := bi_ok h
  refine go_ops hΓ 9 rfl ?_
  refine eo_callP (callable Tryz.func54 rfl rfl) (c_kit_Outside hy1) rfl (Nat.le_of_ble_eq_true rfl) rfl rfl rfl rfl rfl ?_
  refine go_ops hΓ 1 rfl ?_
  obtain ⟨q3, hq3, h4⟩ := bi_ok h2
  refine o_cut 4 [(1, .ptr 0 0), (17, B q3)] [.box 31 [I m.Id, B m.Reply, I m.Code, .d (Sl e_api_Question m.Asked), .d (Sl e_api_Record m.Got)]] ?_ ?_
  · refine eo_gsplit rfl rfl (fun hb => ?_) (fun hb => ?_)
    · have h5 := cT hq3 hb
      refine go_ops hΓ 5 rfl ?_
      obtain rfl := Option.some.inj h5
      exact ⟨⟨rfl, rfl, trivial⟩, [], rfl, .inl rfl⟩
    · have h6 := cF hq3 hb
      obtain ⟨y7, hy7, h8⟩ := bi_ok h6
      refine go_ops hΓ 2 rfl ?_
      refine eo_guard rfl ?_
      refine eo_callP (callable Tryz.func54 rfl rfl) (c_kit_Outside hy7) rfl (Nat.le_of_ble_eq_true rfl) rfl rfl rfl rfl rfl ?_
      refine go_ops hΓ 2 rfl ?_
      obtain rfl := Option.some.inj h8
      exact ⟨⟨rfl, rfl, trivial⟩, [], rfl, .inl rfl⟩
  · refine go_ops hΓ 3 rfl ?_
    refine j_cond rfl (fun hb => ?_) (fun hb => ?_)
    · have h9 := cT h4 hb
      refine go hΓ 8 rfl ?_
      obtain rfl := Option.some.inj h9
      exact fin_pure hΓ (.inr rfl) rfl rfl
    · have h10 := cF h4 hb
      refine go hΓ 9 rfl ?_
      refine j_cond rfl (fun hb => ?_) (fun hb => ?_)
      · have h11 := cT h10 hb
        refine go hΓ 8 rfl ?_
        obtain rfl := Option.some.inj h11
        exact fin_pure hΓ (.inr rfl) rfl rfl
      · have h12 := cF h10 hb
        refine go hΓ 12 rfl ?_
        obtain ⟨q16, hq16, h17⟩ := bi_ok h12
        refine j_bound 24 rfl fun hb19 => ?_
        refine j_cutEZ (R := fun a18 => q16 = .go a18) (fun a18 => [(1, .ptr 0 0)]) (fun a18 => [.box 31 [I m.Id, B m.Reply, I m.Code, .d (Sl e_api_Question m.Asked), .d (Sl e_api_Record m.Got)]]) ?_ ?_
        · refine go hΓ 1 rfl ?_
          refine j_range m.Asked hq16 (fun i13 s14 => [(1, .ptr 0 0), (24, .d (Sl e_api_Question m.Asked)), (25, I (m.Asked.length : Int)), (26, I (i13 : Int))]) (fun s14 => [.box 31 [I m.Id, B m.Reply, I m.Code, .d (Sl e_api_Question m.Asked), .d (Sl e_api_Record m.Got)]]) ⟨⟨rfl, rfl, rfl, rfl, trivial⟩, [], rfl, .inl rfl⟩ (fun i13 x15 s14 y23 hx20 hlt hy21 hout22 => ?_) (fun s14 hgo => ?_)
          · refine go hΓ 6 rfl ?_
            refine j_condT rfl (decide_eq_true (Int.ofNat_lt.2 hlt)) ?_
            refine go hΓ 6 rfl ?_
            refine eo_o rfl (op_elemZ hΓ (enc := e_api_Question) (getZ_nat hx20) rfl rfl rfl rfl rfl (fun _ => rfl)) ?_
            refine go_ops hΓ 1 rfl ?_
            refine eo_alloc hΓ rfl rfl rfl (Nat.le_of_ble_eq_true rfl) ?_
            refine eo_store hΓ rfl rfl rfl rfl rfl rfl rfl rfl (Nat.le_of_ble_eq_true rfl) ?_
            refine eo_hp [.box 31 [I m.Id, B m.Reply, I m.Code, .d (Sl e_api_Question m.Asked), .d (Sl e_api_Record m.Got)], .box 82 [S x15.Name, I x15.Kind]] rfl ?_
            obtain ⟨y24, hy24, h25⟩ := bi_ok hy21
            refine go_ops hΓ 7 rfl ?_
            refine eo_callP (callable Tryz.func53 rfl rfl) (c_name_CheckDomain hy24) rfl (Nat.le_of_ble_eq_true rfl) rfl rfl rfl rfl rfl ?_
            refine go_ops hΓ 9 rfl ?_
            refine j_cond rfl (fun hb => ?_) (fun hb => ?_)
            · have h26 := cT h25 hb
              refine go hΓ 10 rfl ?_
              obtain ⟨v27, hv27, h28⟩ := bi_ok h26
              obtain rfl := Option.some.inj h28
              obtain rfl := hout22 _ rfl
              obtain rfl := Option.some.inj h17
              refine go hΓ 4 rfl ?_
              obtain rfl := Option.some.inj hv27
              exact fin_pure hΓ (.inr rfl) rfl rfl
            · have h29 := cF h25 hb
              obtain ⟨y30, hy30, h31⟩ := bi_ok h29
              refine go hΓ 6 rfl ?_
              refine eo_callP (callable Tryz.func128 rfl rfl) (c_name_isKind hy30) rfl (Nat.le_of_ble_eq_true rfl) rfl rfl rfl rfl rfl ?_
              refine go_ops hΓ 3 rfl ?_
              refine j_cond rfl (fun hb => ?_) (fun hb => ?_)
              · have h32 := cT h31 hb
                refine go hΓ 8 rfl ?_
                obtain ⟨v33, hv33, h34⟩ := bi_ok h32
                obtain rfl := Option.some.inj h34
                obtain rfl := hout22 _ rfl
                obtain rfl := Option.some.inj h17
                refine go hΓ 4 rfl ?_
                obtain rfl := Option.some.inj hv33
                exact fin_pure hΓ (.inr rfl) rfl rfl
              · have h35 := cF h31 hb
                refine go hΓ 7 rfl ?_
                obtain rfl := Option.some.inj h35
                exact ⟨_, rfl, ⟨⟨rfl, rfl, rfl, get_eq rfl (w64_succ (Nat.lt_of_lt_of_le hlt hb19)), trivial⟩, [_], rfl, .inr ⟨HB.mk rfl, FB.mk rfl, (Nat.le_of_ble_eq_true rfl)⟩⟩⟩
          · subst hgo
            refine go hΓ 6 rfl ?_
            refine j_condF rfl (decide_eq_false (Int.lt_irrefl _)) ?_
            refine go hΓ 4 rfl ?_
            exact ⟨_, rfl, ⟨⟨rfl, trivial⟩, [], rfl, .inl rfl⟩⟩
        · intro a18 ha
          subst ha
          replace h17 := goI_l h17
          refine go hΓ 10 rfl ?_
          refine j_cond rfl (fun hb => ?_) (fun hb => ?_)
          · have h36 := cT h17 hb
            refine go hΓ 7 rfl ?_
            obtain rfl := Option.some.inj h36
            exact fin_pure hΓ (.inr rfl) rfl rfl
          · have h37 := cF h17 hb
            refine go hΓ 11 rfl ?_
            obtain ⟨q41, hq41, h42⟩ := bi_ok h37
            refine j_bound 46 rfl fun hb44 => ?_
            refine j_cutEZ (R := fun a43 => q41 = .go a43) (fun a43 => []) (fun a43 => [.box 31 [I m.Id, B m.Reply, I m.Code, .d (Sl e_api_Question m.Asked), .d (Sl e_api_Record m.Got)]]) ?_ ?_
            · refine go hΓ 1 rfl ?_
              refine j_range m.Got hq41 (fun i38 s39 => [(46, .d (Sl e_api_Record m.Got)), (47, I (m.Got.length : Int)), (48, I (i38 : Int))]) (fun s39 => [.box 31 [I m.Id, B m.Reply, I m.Code, .d (Sl e_api_Question m.Asked), .d (Sl e_api_Record m.Got)]]) ⟨⟨rfl, rfl, rfl, trivial⟩, [], rfl, .inl rfl⟩ (fun i38 x40 s39 y48 hx45 hlt hy46 hout47 => ?_) (fun s39 hgo => ?_)
              · refine go hΓ 6 rfl ?_
                refine j_condT rfl (decide_eq_true (Int.ofNat_lt.2 hlt)) ?_
                refine go hΓ 6 rfl ?_
                refine eo_o rfl (op_elemZ hΓ (enc := e_api_Record) (getZ_nat hx45) rfl rfl rfl rfl rfl (fun _ => rfl)) ?_
                refine go_ops hΓ 1 rfl ?_
                refine eo_alloc hΓ rfl rfl rfl (Nat.le_of_ble_eq_true rfl) ?_
                refine eo_store hΓ rfl rfl rfl rfl rfl rfl rfl rfl (Nat.le_of_ble_eq_true rfl) ?_
                refine eo_hp [.box 31 [I m.Id, B m.Reply, I m.Code, .d (Sl e_api_Question m.Asked), .d (Sl e_api_Record m.Got)], .box 57 [S x40.Name, I x40.Kind, B x40.Addr.Six, U x40.Addr.Hi, U x40.Addr.Lo, S x40.To, S x40.Words, I x40.Life]] rfl ?_
                obtain ⟨y49, hy49, h50⟩ := bi_ok hy46
                refine go_ops hΓ 6 rfl ?_
                refine eo_callP (callable Tryz.func58 rfl rfl) (c_name_recordFault hy49) rfl (Nat.le_of_ble_eq_true rfl) rfl rfl rfl rfl rfl ?_
                refine go_ops hΓ 9 rfl ?_
                refine j_cond rfl (fun hb => ?_) (fun hb => ?_)
                · have h51 := cT h50 hb
                  refine go hΓ 10 rfl ?_
                  obtain ⟨v52, hv52, h53⟩ := bi_ok h51
                  obtain rfl := Option.some.inj h53
                  obtain rfl := hout47 _ rfl
                  obtain rfl := Option.some.inj h42
                  refine go hΓ 4 rfl ?_
                  obtain rfl := Option.some.inj hv52
                  exact fin_pure hΓ (.inr rfl) rfl rfl
                · have h54 := cF h50 hb
                  obtain ⟨y55, hy55, h56⟩ := bi_ok h54
                  refine go hΓ 6 rfl ?_
                  refine eo_callP (callable Tryz.func170 rfl rfl) (c_strings_HasPrefix hy55) rfl (Nat.le_of_ble_eq_true rfl) rfl rfl rfl rfl rfl ?_
                  refine go_ops hΓ 2 rfl ?_
                  refine j_cond rfl (fun hb => ?_) (fun hb => ?_)
                  · have h57 := cT h56 hb
                    refine go hΓ 8 rfl ?_
                    obtain ⟨v58, hv58, h59⟩ := bi_ok h57
                    obtain rfl := Option.some.inj h59
                    obtain rfl := hout47 _ rfl
                    obtain rfl := Option.some.inj h42
                    refine go hΓ 4 rfl ?_
                    obtain rfl := Option.some.inj hv58
                    exact fin_pure hΓ (.inr rfl) rfl rfl
                  · have h60 := cF h56 hb
                    refine go hΓ 7 rfl ?_
                    obtain rfl := Option.some.inj h60
                    exact ⟨_, rfl, ⟨⟨rfl, rfl, get_eq rfl (w64_succ (Nat.lt_of_lt_of_le hlt hb44)), trivial⟩, [_], rfl, .inr ⟨HB.mk rfl, FB.mk rfl, (Nat.le_of_ble_eq_true rfl)⟩⟩⟩
              · subst hgo
                refine go hΓ 6 rfl ?_
                refine j_condF rfl (decide_eq_false (Int.lt_irrefl _)) ?_
                refine go hΓ 4 rfl ?_
                exact ⟨_, rfl, ⟨trivial, [], rfl, .inl rfl⟩⟩
            · intro a43 ha
              subst ha
              replace h42 := goI_l h42
              refine go hΓ 7 rfl ?_
              obtain rfl := Option.some.inj h42
              exact fin_pure hΓ (.inr rfl) rfl rfl
theorem c_name_encoder_number {k : Nat} {x : T_name_encoder} {n : Int} {many : Int} {r : T_name_encoder} (h : m_name_encoder_number k x n many = some r) : EC Tryz.prog 117 [.ptr 2 0, U n, I many] [.row 5 1 x.b.length (x.b.flatMap (eN .u8)), mOb kS false (eN .i64) x.v_where, .box 164 [.sl 0 x.b.length, .map 1]] fun g hp' => g = .tup [] ∧ hp' = [.dead, mOb kS false (eN .i64) r.v_where, .box 164 [.sl 3 r.b.length, .map 1], .row 5 1 r.b.length (r.b.flatMap (eN .u8))] := by
  refine ec_enterC (Fr.of 0 _) Tryz.func117 rfl (Fr.of_ok _) (Nat.le_of_ble_eq_true rfl) fun _ => ?_
  refine go_in ?_
  unfold m_name_encoder_number at h
  refine j_name (Nat.le_of_ble_eq_true rfl) ?_
  refine j_move 0 3 [.dead, mOb kS false (eN .i64) x.v_where, .box 164 [.sl 3 x.b.length, .map 1], .row 5 1 x.b.length (x.b.flatMap (eN .u8))] rfl rfl rfl rfl rfl rfl ?_
  refine go hΓ 7 rfl ?_
  obtain ⟨q4, hq4, h5⟩ := bi_ok h
  refine j_cutNZ [] [.dead, mOb kS false (eN .i64) x.v_where, .box 164 [.sl 3 q4.length, .map 1], .row 5 1 q4.length (q4.flatMap (eN .u8))] ?_ ?_
  · refine go hΓ 1 rfl ?_
    refine j_loop hq4 (fun s2 => [(0, .ptr 2 0), (1, U n), (6, I s2.2)]) (fun s2 => [.dead, mOb kS false (eN .i64) x.v_where, .box 164 [.sl 3 s2.1.length, .map 1], .row 5 1 s2.1.length (s2.1.flatMap (eN .u8))]) ⟨⟨rfl, rfl, rfl, trivial⟩, [], rfl, .inl rfl⟩ (fun s2 y10 hy8 hout9 => ?_)
    refine go hΓ 7 rfl ?_
    refine j_cond rfl (fun hb => ?_) (fun hb => ?_)
    · have h11 := cT hy8 hb
      refine go hΓ 4 rfl ?_
      refine j_drawE [.dead, .dead, .box 164 [.sl 3 s2.1.length, .map 1]] [4] [11, 14] [11, 14] hmix (by kernel_rfl) (by kernel_rfl) ⟨rfl, trivial⟩ (Nat.le_of_ble_eq_true rfl) ?_
      obtain ⟨y12, hy12, h13⟩ := bi_ok h11
      refine go_E hΓ 8 rfl ?_
      refine ge_q rfl (.inl rfl) (fun _ _ => qte_of_qt (qt_p (op_shrZ hy12 rfl rfl))) ?_
      refine go_E hΓ 1 rfl ?_
      refine ge_litT hΓ (enc := (eN .u8)) [IntKind.u8.wrap (y12)] rfl rfl rfl rfl rfl rfl rfl rfl rfl rfl rfl rfl ?_
      obtain ⟨y14, hy14, h15⟩ := bi_ok h13
      refine ge_h [.dead, mOb kS false (eN .i64) x.v_where, .box 164 [.junk, .map 1], .dead, .row 5 1 y14.length (y14.flatMap (eN .u8))] rfl rfl rfl (brk_st rfl) (qte_s (ops_forg 3 (ops_appendT hΓ (enc := (eN .u8)) (id := 3) (h2 := show Γ 5 = some ⟨_, 1, _, _⟩ from rfl) hy14 rfl rfl rfl rfl rfl rfl rfl rfl (fun _ => rfl) rfl))) ?_
      refine go_E hΓ 2 rfl ?_
      refine ge_h0 [.dead, mOb kS false (eN .i64) x.v_where, .box 164 [.sl 4 y14.length, .map 1], .dead, .row 5 1 y14.length (y14.flatMap (eN .u8))] rfl rfl (brk_st rfl) (qte_u (opu_store2 hΓ rfl rfl rfl rfl rfl rfl rfl rfl rfl)) ?_
      refine ge_fin ?_
      refine go hΓ 2 rfl ?_
      refine j_move 4 3 [.dead, mOb kS false (eN .i64) x.v_where, .box 164 [.sl 3 y14.length, .map 1], .row 5 1 y14.length (y14.flatMap (eN .u8)), .dead] rfl rfl rfl rfl rfl rfl ?_
      refine go hΓ 5 rfl ?_
      obtain rfl := Option.some.inj h15
      exact ⟨_, rfl, ⟨⟨rfl, rfl, rfl, trivial⟩, [_], rfl, .inr ⟨HB.mk rfl, FB.mk rfl, (Nat.le_of_ble_eq_true rfl)⟩⟩⟩
    · have h16 := cF hy8 hb
      refine go hΓ 4 rfl ?_
      obtain rfl := Option.some.inj h16
      obtain rfl := hout9 _ rfl
      exact ⟨trivial, [], rfl, .inl rfl⟩
  · refine cv_here ?_
    obtain rfl := Option.some.inj h5
    exact fin_objs hΓ [] (.inl rfl) rfl rfl rfl rfl (.inl rfl)
set_option maxHeartbeats 8000000 in
theorem c_name_encoder_name {k : Nat} {x : T_name_encoder} {s : Str} {r : T_name_encoder} (h : m_name_encoder_name k x s = some r) : EC Tryz.prog 118 [.ptr 2 0, S s] [.row 5 1 x.b.length (x.b.flatMap (eN .u8)), mOb kS false (eN .i64) x.v_where, .box 164 [.sl 0 x.b.length, .map 1]] fun g hp' => g = .tup [] ∧ hp' = [.dead, mOb kS false (eN .i64) r.v_where, .box 164 [.sl 3 r.b.length, .map 1], .row 5 1 r.b.length (r.b.flatMap (eN .u8))] := by
  refine ec_enterC (Fr.of 0 _) Tryz.func118 rfl (Fr.of_ok _) (Nat.le_of_ble_eq_true rfl) fun _ => ?_
  refine go_in ?_
  unfold m_name_encoder_name at h
  refine j_name (Nat.le_of_ble_eq_true rfl) ?_
  refine j_move 0 3 [.dead, mOb kS false (eN .i64) x.v_where, .box 164 [.sl 3 x.b.length, .map 1], .row 5 1 x.b.length (x.b.flatMap (eN .u8))] rfl rfl rfl rfl rfl rfl ?_
  refine go hΓ 2 rfl ?_
  refine eo_s (Nat.le_of_ble_eq_true rfl) (nblt.1 rfl) (ops_makeMap false) ?_
  refine eo_hp [.dead, mOb kS false (eN .i64) x.v_where, .box 164 [.sl 3 x.b.length, .map 1], .row 5 1 x.b.length (x.b.flatMap (eN .u8)), mOb kS false (eN .i64) ([] : List (Str × Int))] rfl ?_
  refine go_ops hΓ 4 rfl ?_
  obtain ⟨q4, hq4, h5⟩ := bi_ok h
  refine j_cutNZ [(0, .ptr 2 0), (4, .map 4)] [.dead, mOb kS false (eN .i64) q4.1, .box 164 [.sl 3 q4.2.1.length, .map 1], .row 5 1 q4.2.1.length (q4.2.1.flatMap (eN .u8)), mOb kS false (eN .i64) q4.2.2] ?_ ?_
  · refine go hΓ 1 rfl ?_
    refine j_loop hq4 (fun s2 => [(0, .ptr 2 0), (1, S s2.2.2), (4, .map 4)]) (fun s2 => [.dead, mOb kS false (eN .i64) x.v_where, .box 164 [.sl 3 s2.1.length, .map 1], .row 5 1 s2.1.length (s2.1.flatMap (eN .u8)), mOb kS false (eN .i64) s2.2.1]) ⟨⟨rfl, rfl, rfl, trivial⟩, [], rfl, .inl rfl⟩ (fun s2 y10 hy8 hout9 => ?_)
    refine go hΓ 7 rfl ?_
    refine j_cond rfl (fun hb => ?_) (fun hb => ?_)
    · have h11 := cT hy8 hb
      refine go hΓ 11 rfl ?_
      refine eo_o rfl (op_lookupOk hΓ (kv := kS) (agg := false) (enc := (eN .i64)) x.v_where s2.2.2 (0 : Int) rfl rfl rfl rfl key_str rfl rfl rfl rfl rfl rfl rfl) ?_
      refine go_ops hΓ 12 rfl ?_
      refine j_cond rfl (fun hb => ?_) (fun hb => ?_)
      · have h12 := cT h11 hb
        obtain ⟨y13, hy13, h14⟩ := bi_ok h12
        refine go hΓ 6 rfl ?_
        refine eo_callF [3, 1, 2] (.tup []) [.dead, mOb kS false (eN .i64) y13.v_where, .box 164 [.sl 5 y13.b.length, .map 1], .dead, mOb kS false (eN .i64) s2.2.1, .row 5 1 y13.b.length (y13.b.flatMap (eN .u8))] (callable Tryz.func117 rfl rfl) (c_name_encoder_number hy13) rfl (Nat.le_of_ble_eq_true rfl) rfl rfl rfl rfl rfl rfl rfl rfl rfl rfl ?_
        refine eo_move 5 3 [.dead, mOb kS false (eN .i64) y13.v_where, .box 164 [.sl 3 y13.b.length, .map 1], .row 5 1 y13.b.length (y13.b.flatMap (eN .u8)), mOb kS false (eN .i64) s2.2.1, .dead] rfl rfl rfl rfl rfl rfl ?_
        refine go_ops hΓ 7 rfl ?_
        obtain rfl := Option.some.inj h14
        obtain rfl := hout9 _ rfl
        exact ⟨⟨rfl, rfl, trivial⟩, [_], rfl, .inr ⟨HB.mk rfl, FB.mk rfl, (Nat.le_of_ble_eq_true rfl)⟩⟩
      · have h15 := cF h11 hb
        refine go hΓ 11 rfl ?_
        refine eo_u (Nat.le_of_ble_eq_true rfl) (opu_mapUpdate hΓ (kv := kS) (agg := false) (enc := (eN .i64)) (id := 4) s2.2.1 s2.2.2 (s2.1.length : Int) rfl rfl rfl key_str rfl rfl rfl rfl rfl) ?_
        refine eo_hp [.dead, mOb kS false (eN .i64) x.v_where, .box 164 [.sl 3 s2.1.length, .map 1], .row 5 1 s2.1.length (s2.1.flatMap (eN .u8)), mOb kS false (eN .i64) (mSet s2.2.1 s2.2.2 (s2.1.length : Int))] rfl ?_
        obtain ⟨y16, hy16, h17⟩ := bi_ok h15
        refine go_ops hΓ 5 rfl ?_
        refine eo_callP (callable Tryz.func165 rfl rfl) (c_strings_Cut hy16) rfl (Nat.le_of_ble_eq_true rfl) rfl rfl rfl rfl rfl ?_
        refine go_ops hΓ 19 rfl ?_
        refine eo_litT hΓ (enc := (eN .u8)) [IntKind.u8.wrap ((y16.1.length : Int))] rfl rfl rfl rfl rfl rfl rfl rfl rfl rfl rfl rfl (Nat.le_of_ble_eq_true rfl) ?_
        obtain ⟨y18, hy18, h19⟩ := bi_ok h17
        refine eo_forg 3 [.dead, mOb kS false (eN .i64) x.v_where, .box 164 [.junk, .map 1], .row 5 1 s2.1.length (s2.1.flatMap (eN .u8)), mOb kS false (eN .i64) (mSet s2.2.1 s2.2.2 (s2.1.length : Int))] rfl (Nat.le_of_ble_eq_true rfl) ?_
        refine eo_appendT hΓ (enc := (eN .u8)) hy18 rfl rfl rfl rfl rfl rfl rfl rfl rfl (fun _ => rfl) rfl rfl rfl rfl ?_
        obtain ⟨y20, hy20, h21⟩ := bi_ok h19
        refine go_ops hΓ 1 rfl ?_
        refine eo_s (Nat.le_of_ble_eq_true rfl) (nblt.1 rfl) (ops_appendST hΓ (id := 3) (h2 := show Γ 5 = some ⟨_, 1, _, _⟩ from rfl) hy20 rfl rfl rfl rfl rfl rfl rfl rfl rfl rfl rfl) ?_
        refine go_ops hΓ 2 rfl ?_
        refine eo_store hΓ rfl rfl rfl rfl rfl rfl rfl rfl (Nat.le_of_ble_eq_true rfl) ?_
        refine eo_hp [.dead, mOb kS false (eN .i64) x.v_where, .box 164 [.sl 5 y20.length, .map 1], .dead, mOb kS false (eN .i64) (mSet s2.2.1 s2.2.2 (s2.1.length : Int)), .row 5 1 y20.length (y20.flatMap (eN .u8))] rfl ?_
        refine eo_move 5 3 [.dead, mOb kS false (eN .i64) x.v_where, .box 164 [.sl 3 y20.length, .map 1], .row 5 1 y20.length (y20.flatMap (eN .u8)), mOb kS false (eN .i64) (mSet s2.2.1 s2.2.2 (s2.1.length : Int)), .dead] rfl rfl rfl rfl rfl rfl ?_
        refine go_ops hΓ 14 rfl ?_
        refine j_cond rfl (fun hb => ?_) (fun hb => ?_)
        · have h22 := cT h21 hb
          refine go hΓ 6 rfl ?_
          refine eo_litT hΓ (enc := (eN .u8)) [0] rfl rfl rfl rfl rfl rfl rfl rfl rfl rfl rfl rfl (Nat.le_of_ble_eq_true rfl) ?_
          obtain ⟨y23, hy23, h24⟩ := bi_ok h22
          refine eo_forg 3 [.dead, mOb kS false (eN .i64) x.v_where, .box 164 [.junk, .map 1], .row 5 1 y20.length (y20.flatMap (eN .u8)), mOb kS false (eN .i64) (mSet s2.2.1 s2.2.2 (s2.1.length : Int)), .dead] rfl (Nat.le_of_ble_eq_true rfl) ?_
          refine eo_appendT hΓ (enc := (eN .u8)) hy23 rfl rfl rfl rfl rfl rfl rfl rfl rfl (fun _ => rfl) rfl rfl rfl rfl ?_
          refine go_ops hΓ 2 rfl ?_
          refine eo_store hΓ rfl rfl rfl rfl rfl rfl rfl rfl (Nat.le_of_ble_eq_true rfl) ?_
          refine eo_hp [.dead, mOb kS false (eN .i64) x.v_where, .box 164 [.sl 3 y23.length, .map 1], .row 5 1 y23.length (y23.flatMap (eN .u8)), mOb kS false (eN .i64) (mSet s2.2.1 s2.2.2 (s2.1.length : Int)), .dead] rfl ?_
          refine go_ops hΓ 2 rfl ?_
          obtain rfl := Option.some.inj h24
          exact ⟨_, rfl, ⟨⟨rfl, rfl, rfl, trivial⟩, [_], rfl, .inr ⟨HB.mk rfl, FB.mk rfl, (Nat.le_of_ble_eq_true rfl)⟩⟩⟩
        · have h25 := cF h21 hb
          refine go hΓ 2 rfl ?_
          obtain rfl := Option.some.inj h25
          exact ⟨_, rfl, ⟨⟨rfl, rfl, rfl, trivial⟩, [_], rfl, .inr ⟨HB.mk rfl, FB.mk rfl, (Nat.le_of_ble_eq_true rfl)⟩⟩⟩
    · have h26 := cF hy8 hb
      refine go hΓ 4 rfl ?_
      obtain rfl := Option.some.inj h26
      obtain rfl := hout9 _ rfl
      exact ⟨⟨rfl, rfl, trivial⟩, [], rfl, .inl rfl⟩
  · refine go hΓ 4 rfl ?_
    refine eo_range hΓ (kv := kS) (agg := false) (enc := (eN .i64)) q4.2.2 rfl rfl rfl rfl rfl (Nat.le_of_ble_eq_true rfl) (fun mr27 bs28 cl29 hpm30 hbl31 hbn32 => ?_)
    refine eo_hp [.dead, mOb kS false (eN .i64) q4.1, .box 164 [.sl 3 q4.2.1.length, .map 1], .row 5 1 q4.2.1.length (q4.2.1.flatMap (eN .u8)), mObS kS false (eN .i64) q4.2.2 (rawM kS (eN .i64) mr27 bs28 cl29), .iter 4 cl29 []] rfl ?_
    refine go_ops hΓ 2 rfl ?_
    obtain ⟨q38, hq38, h39⟩ := bi_ok h5
    refine go hΓ 1 rfl ?_
    refine j_rangeP hq38 hpm30 hbl31 hbn32 (fun s33 => [(0, .ptr 2 0), (70, .ptr 5 0)]) (fun sn35 s33 => [.dead, mOb kS false (eN .i64) s33, .box 164 [.sl 3 q4.2.1.length, .map 1], .row 5 1 q4.2.1.length (q4.2.1.flatMap (eN .u8)), mObS kS false (eN .i64) q4.2.2 (rawM kS (eN .i64) mr27 bs28 cl29), .iter 4 cl29 sn35]) ⟨⟨rfl, rfl, trivial⟩, [], rfl, .inl rfl⟩ (fun sn35 s33 hdone40 hstep41 => ?_)
    refine go hΓ 2 rfl ?_
    refine eo_next (kv := kS) (agg := false) (enc := (eN .i64)) q4.2.2 mr27 bs28 cl29 sn35 [.dead, mOb kS false (eN .i64) s33, .box 164 [.sl 3 q4.2.1.length, .map 1], .row 5 1 q4.2.1.length (q4.2.1.flatMap (eN .u8)), mOb kS false (eN .i64) q4.2.2, .dead] rfl rfl rfl rfl rfl (Nat.le_of_ble_eq_true rfl) (fun hdsn35 => ?_) (fun j36 x34 b37 hjsn35 hbsn35 hnsn35 => ?_)
    · have hqsn35 := hdone40 hdsn35
      subst hqsn35
      refine go_ops hΓ 9 rfl ?_
      refine cv_here ?_
      obtain rfl := Option.some.inj h39
      exact fin_objs hΓ [_, _] (.inl rfl) rfl rfl rfl rfl (.inr ⟨HB.mk rfl, rfl⟩)
    · obtain ⟨s42, h43⟩ := hstep41 j36 x34 b37 hjsn35 hbsn35 hnsn35
      have hssn35 := h43
      refine go_ops hΓ 10 rfl ?_
      refine eo_o rfl (op_entry (kv := kS) (agg := false) (enc := (eN .i64)) q4.2.2 mr27 bs28 cl29 sn35 hjsn35 hbsn35 rfl rfl rfl rfl (fun _ => rfl)) ?_
      refine go_ops hΓ 13 rfl ?_
      refine eo_u (Nat.le_of_ble_eq_true rfl) (opu_mapUpdate hΓ (kv := kS) (agg := false) (enc := (eN .i64)) (id := 1) s33 x34.1 x34.2 rfl rfl rfl key_str rfl rfl rfl rfl rfl) ?_
      refine eo_hp [.dead, mOb kS false (eN .i64) (mSet s33 x34.1 x34.2), .box 164 [.sl 3 q4.2.1.length, .map 1], .row 5 1 q4.2.1.length (q4.2.1.flatMap (eN .u8)), mObS kS false (eN .i64) q4.2.2 (rawM kS (eN .i64) mr27 bs28 cl29), .iter 4 cl29 (sn35 ++ [b37])] rfl ?_
      refine go_ops hΓ 2 rfl ?_
      obtain rfl := Option.some.inj h43
      exact ⟨j36, x34, b37, _, hjsn35, hbsn35, hnsn35, hssn35, ⟨⟨rfl, rfl, trivial⟩, [], rfl, .inl rfl⟩⟩
set_option maxHeartbeats 8000000 in
theorem c_name_encoder_record {k : Nat} {x : T_name_encoder} {v_r : T_api_Record} {r : T_name_encoder} (h : m_name_encoder_record k x v_r = some r) : EC Tryz.prog 119 [.ptr 2 0, .agg [S v_r.Name, I v_r.Kind, B v_r.Addr.Six, U v_r.Addr.Hi, U v_r.Addr.Lo, S v_r.To, S v_r.Words, I v_r.Life]] [.row 5 1 x.b.length (x.b.flatMap (eN .u8)), mOb kS false (eN .i64) x.v_where, .box 164 [.sl 0 x.b.length, .map 1]] fun g hp' => g = .tup [] ∧ hp' = [.dead, mOb kS false (eN .i64) r.v_where, .box 164 [.sl 3 r.b.length, .map 1], .row 5 1 r.b.length (r.b.flatMap (eN .u8))] := by
  refine ec_enterC (Fr.of 0 _) Tryz.func119 rfl (Fr.of_ok _) (Nat.le_of_ble_eq_true rfl) fun _ => ?_
  refine go_in ?_
  unfold m_name_encoder_record at h
  refine j_name (Nat.le_of_ble_eq_true rfl) ?_
  refine j_move 0 3 [.dead, mOb kS false (eN .i64) x.v_where, .box 164 [.sl 3 x.b.length, .map 1], .row 5 1 x.b.length (x.b.flatMap (eN .u8))] rfl rfl rfl rfl rfl rfl ?_
  refine go hΓ 2 rfl ?_
  refine eo_box rfl rfl rfl rfl (Nat.le_of_ble_eq_true rfl) ?_
  obtain ⟨y1, hy1, h2⟩ := bi_ok h
  refine go_ops hΓ 7 rfl ?_
  refine eo_callF [3, 1, 2] (.tup []) [.dead, mOb kS false (eN .i64) y1.v_where, .box 164 [.sl 5 y1.b.length, .map 1], .dead, .box 57 [S v_r.Name, I v_r.Kind, B v_r.Addr.Six, U v_r.Addr.Hi, U v_r.Addr.Lo, S v_r.To, S v_r.Words, I v_r.Life], .row 5 1 y1.b.length (y1.b.flatMap (eN .u8))] (callable Tryz.func118 rfl rfl) (c_name_encoder_name hy1) rfl (Nat.le_of_ble_eq_true rfl) rfl rfl rfl rfl rfl rfl rfl rfl rfl rfl ?_
  refine eo_move 5 3 [.dead, mOb kS false (eN .i64) y1.v_where, .box 164 [.sl 3 y1.b.length, .map 1], .row 5 1 y1.b.length (y1.b.flatMap (eN .u8)), .box 57 [S v_r.Name, I v_r.Kind, B v_r.Addr.Six, U v_r.Addr.Hi, U v_r.Addr.Lo, S v_r.To, S v_r.Words, I v_r.Life], .dead] rfl rfl rfl rfl rfl rfl ?_
  refine go_ops hΓ 3 rfl ?_
  refine j_drawE [.dead, .dead, .box 164 [.sl 3 y1.b.length, .map 1], .dead, .box 57 [S v_r.Name, I v_r.Kind, B v_r.Addr.Six, U v_r.Addr.Hi, U v_r.Addr.Lo, S v_r.To, S v_r.Words, I v_r.Life]] [4, 6] [9, 12] [9, 12] hmix (by kernel_rfl) (by kernel_rfl) ⟨rfl, rfl, trivial⟩ (Nat.le_of_ble_eq_true rfl) ?_
  refine go_E hΓ 8 rfl ?_
  refine ge_litT hΓ (enc := (eN .u8)) [IntKind.u8.wrap (v_r.Kind)] rfl rfl rfl rfl rfl rfl rfl rfl rfl rfl rfl rfl ?_
  obtain ⟨y3, hy3, h4⟩ := bi_ok h2
  refine ge_h [.dead, mOb kS false (eN .i64) y1.v_where, .box 164 [.junk, .map 1], .dead, .box 57 [S v_r.Name, I v_r.Kind, B v_r.Addr.Six, U v_r.Addr.Hi, U v_r.Addr.Lo, S v_r.To, S v_r.Words, I v_r.Life], .dead, .row 5 1 y3.length (y3.flatMap (eN .u8))] rfl rfl rfl (brk_st rfl) (qte_s (ops_forg 3 (ops_appendT hΓ (enc := (eN .u8)) (id := 3) (h2 := show Γ 5 = some ⟨_, 1, _, _⟩ from rfl) hy3 rfl rfl rfl rfl rfl rfl rfl rfl (fun _ => rfl) rfl))) ?_
  refine go_E hΓ 2 rfl ?_
  refine ge_h0 [.dead, mOb kS false (eN .i64) y1.v_where, .box 164 [.sl 6 y3.length, .map 1], .dead, .box 57 [S v_r.Name, I v_r.Kind, B v_r.Addr.Six, U v_r.Addr.Hi, U v_r.Addr.Lo, S v_r.To, S v_r.Words, I v_r.Life], .dead, .row 5 1 y3.length (y3.flatMap (eN .u8))] rfl rfl (brk_st rfl) (qte_u (opu_store2 hΓ rfl rfl rfl rfl rfl rfl rfl rfl rfl)) ?_
  refine ge_fin ?_
  refine go hΓ 1 rfl ?_
  refine j_move 6 3 [.dead, mOb kS false (eN .i64) y1.v_where, .box 164 [.sl 3 y3.length, .map 1], .row 5 1 y3.length (y3.flatMap (eN .u8)), .box 57 [S v_r.Name, I v_r.Kind, B v_r.Addr.Six, U v_r.Addr.Hi, U v_r.Addr.Lo, S v_r.To, S v_r.Words, I v_r.Life], .dead, .dead] rfl rfl rfl rfl rfl rfl ?_
  obtain ⟨y5, hy5, h6⟩ := bi_ok h4
  refine go hΓ 6 rfl ?_
  refine eo_callF [3, 1, 2] (.tup []) [.dead, mOb kS false (eN .i64) y5.v_where, .box 164 [.sl 7 y5.b.length, .map 1], .dead, .box 57 [S v_r.Name, I v_r.Kind, B v_r.Addr.Six, U v_r.Addr.Hi, U v_r.Addr.Lo, S v_r.To, S v_r.Words, I v_r.Life], .dead, .dead, .row 5 1 y5.b.length (y5.b.flatMap (eN .u8))] (callable Tryz.func117 rfl rfl) (c_name_encoder_number hy5) rfl (Nat.le_of_ble_eq_true rfl) rfl rfl rfl rfl rfl rfl rfl rfl rfl rfl ?_
  refine eo_move 7 3 [.dead, mOb kS false (eN .i64) y5.v_where, .box 164 [.sl 3 y5.b.length, .map 1], .row 5 1 y5.b.length (y5.b.flatMap (eN .u8)), .box 57 [S v_r.Name, I v_r.Kind, B v_r.Addr.Six, U v_r.Addr.Hi, U v_r.Addr.Lo, S v_r.To, S v_r.Words, I v_r.Life], .dead, .dead, .dead] rfl rfl rfl rfl rfl rfl ?_
  refine go_ops hΓ 15 rfl ?_
  refine j_cond rfl (fun hb => ?_) (fun hb => ?_)
  · have h7 := cT h6 hb
    obtain ⟨y8, hy8, h9⟩ := bi_ok h7
    refine go hΓ 5 rfl ?_
    refine eo_callF [3, 1, 2] (.tup []) [.dead, mOb kS false (eN .i64) y8.v_where, .box 164 [.sl 8 y8.b.length, .map 1], .dead, .box 57 [S v_r.Name, I v_r.Kind, B v_r.Addr.Six, U v_r.Addr.Hi, U v_r.Addr.Lo, S v_r.To, S v_r.Words, I v_r.Life], .dead, .dead, .dead, .row 5 1 y8.b.length (y8.b.flatMap (eN .u8))] (callable Tryz.func117 rfl rfl) (c_name_encoder_number hy8) rfl (Nat.le_of_ble_eq_true rfl) rfl rfl rfl rfl rfl rfl rfl rfl rfl rfl ?_
    refine eo_move 8 3 [.dead, mOb kS false (eN .i64) y8.v_where, .box 164 [.sl 3 y8.b.length, .map 1], .row 5 1 y8.b.length (y8.b.flatMap (eN .u8)), .box 57 [S v_r.Name, I v_r.Kind, B v_r.Addr.Six, U v_r.Addr.Hi, U v_r.Addr.Lo, S v_r.To, S v_r.Words, I v_r.Life], .dead, .dead, .dead, .dead] rfl rfl rfl rfl rfl rfl ?_
    refine go_ops hΓ 2 rfl ?_
    refine cv_here ?_
    obtain rfl := Option.some.inj h9
    exact fin_objs hΓ [_, _, _, _, _] (.inl rfl) rfl rfl rfl rfl (.inr ⟨HB.mk rfl, rfl⟩)
  · have h10 := cF h6 hb
    refine go hΓ 6 rfl ?_
    refine j_cond rfl (fun hb => ?_) (fun hb => ?_)
    · have h11 := cT h10 hb
      obtain ⟨y12, hy12, h13⟩ := bi_ok h11
      refine go hΓ 6 rfl ?_
      refine eo_callF [3, 1, 2] (.tup []) [.dead, mOb kS false (eN .i64) y12.v_where, .box 164 [.sl 8 y12.b.length, .map 1], .dead, .box 57 [S v_r.Name, I v_r.Kind, B v_r.Addr.Six, U v_r.Addr.Hi, U v_r.Addr.Lo, S v_r.To, S v_r.Words, I v_r.Life], .dead, .dead, .dead, .row 5 1 y12.b.length (y12.b.flatMap (eN .u8))] (callable Tryz.func117 rfl rfl) (c_name_encoder_number hy12) rfl (Nat.le_of_ble_eq_true rfl) rfl rfl rfl rfl rfl rfl rfl rfl rfl rfl ?_
      refine eo_move 8 3 [.dead, mOb kS false (eN .i64) y12.v_where, .box 164 [.sl 3 y12.b.length, .map 1], .row 5 1 y12.b.length (y12.b.flatMap (eN .u8)), .box 57 [S v_r.Name, I v_r.Kind, B v_r.Addr.Six, U v_r.Addr.Hi, U v_r.Addr.Lo, S v_r.To, S v_r.Words, I v_r.Life], .dead, .dead, .dead, .dead] rfl rfl rfl rfl rfl rfl ?_
      obtain ⟨y14, hy14, h15⟩ := bi_ok h13
      refine go_ops hΓ 7 rfl ?_
      refine eo_callF [3, 1, 2] (.tup []) [.dead, mOb kS false (eN .i64) y14.v_where, .box 164 [.sl 9 y14.b.length, .map 1], .dead, .box 57 [S v_r.Name, I v_r.Kind, B v_r.Addr.Six, U v_r.Addr.Hi, U v_r.Addr.Lo, S v_r.To, S v_r.Words, I v_r.Life], .dead, .dead, .dead, .dead, .row 5 1 y14.b.length (y14.b.flatMap (eN .u8))] (callable Tryz.func117 rfl rfl) (c_name_encoder_number hy14) rfl (Nat.le_of_ble_eq_true rfl) rfl rfl rfl rfl rfl rfl rfl rfl rfl rfl ?_
      refine eo_move 9 3 [.dead, mOb kS false (eN .i64) y14.v_where, .box 164 [.sl 3 y14.b.length, .map 1], .row 5 1 y14.b.length (y14.b.flatMap (eN .u8)), .box 57 [S v_r.Name, I v_r.Kind, B v_r.Addr.Six, U v_r.Addr.Hi, U v_r.Addr.Lo, S v_r.To, S v_r.Words, I v_r.Life], .dead, .dead, .dead, .dead, .dead] rfl rfl rfl rfl rfl rfl ?_
      refine go_ops hΓ 2 rfl ?_
      refine cv_here ?_
      obtain rfl := Option.some.inj h15
      exact fin_objs hΓ [_, _, _, _, _, _] (.inl rfl) rfl rfl rfl rfl (.inr ⟨HB.mk rfl, rfl⟩)
    · have h16 := cF h10 hb
      refine go hΓ 6 rfl ?_
      refine j_cond rfl (fun hb => ?_) (fun hb => ?_)
      · have h17 := cT h16 hb
        refine j_drawE [.dead, .dead, .dead, .dead, .box 57 [S v_r.Name, I v_r.Kind, B v_r.Addr.Six, U v_r.Addr.Hi, U v_r.Addr.Lo, S v_r.To, S v_r.Words, I v_r.Life]] [6, 12] [4, 10, 13, 16] [] hmix (by kernel_rfl) (by kernel_rfl) ⟨rfl, trivial⟩ (Nat.le_of_ble_eq_true rfl) ?_
        refine go_E hΓ 4 rfl ?_
        refine ge_h [.dead, mOb kS false (eN .i64) y5.v_where, .box 164 [.sl 3 y5.b.length, .map 1], .row 5 1 y5.b.length (y5.b.flatMap (eN .u8)), .box 57 [S v_r.Name, I v_r.Kind, B v_r.Addr.Six, U v_r.Addr.Hi, U v_r.Addr.Lo, S v_r.To, S v_r.Words, I v_r.Life], .dead, .dead, .dead] rfl rfl rfl (st_st ⟨rfl, trivial⟩) (qte_of_qt (qt_p (pst_ok hΓ rfl))) ?_
        refine go_E hΓ 4 rfl ?_
        refine ge_litT hΓ (enc := (eN .u8)) [IntKind.u8.wrap ((v_r.Words.length : Int))] rfl rfl rfl rfl rfl rfl rfl rfl rfl rfl rfl rfl ?_
        obtain ⟨y18, hy18, h19⟩ := bi_ok h17
        refine ge_h [.dead, mOb kS false (eN .i64) y5.v_where, .box 164 [.junk, .map 1], .dead, .box 57 [S v_r.Name, I v_r.Kind, B v_r.Addr.Six, U v_r.Addr.Hi, U v_r.Addr.Lo, S v_r.To, S v_r.Words, I v_r.Life], .dead, .dead, .dead, .row 5 1 y18.length (y18.flatMap (eN .u8))] rfl rfl rfl (st_st ⟨rfl, trivial⟩) (qte_s (ops_forg 3 (ops_appendT hΓ (enc := (eN .u8)) (id := 3) (h2 := show Γ 5 = some ⟨_, 1, _, _⟩ from rfl) hy18 rfl rfl rfl rfl rfl rfl rfl rfl (fun _ => rfl) rfl))) ?_
        obtain ⟨y20, hy20, h21⟩ := bi_ok h19
        refine go_E hΓ 2 rfl ?_
        refine ge_h [.dead, mOb kS false (eN .i64) y5.v_where, .box 164 [.junk, .map 1], .dead, .box 57 [S v_r.Name, I v_r.Kind, B v_r.Addr.Six, U v_r.Addr.Hi, U v_r.Addr.Lo, S v_r.To, S v_r.Words, I v_r.Life], .dead, .dead, .dead, .dead, .row 5 1 y20.length (y20.flatMap (eN .u8))] rfl rfl rfl (st_st ⟨rfl, trivial⟩) (qte_s (ops_appendST hΓ (id := 8) (h2 := show Γ 5 = some ⟨_, 1, _, _⟩ from rfl) hy20 rfl rfl rfl rfl rfl rfl rfl rfl rfl rfl rfl)) ?_
        refine go_E hΓ 2 rfl ?_
        refine ge_h0 [.dead, mOb kS false (eN .i64) y5.v_where, .box 164 [.sl 9 y20.length, .map 1], .dead, .box 57 [S v_r.Name, I v_r.Kind, B v_r.Addr.Six, U v_r.Addr.Hi, U v_r.Addr.Lo, S v_r.To, S v_r.Words, I v_r.Life], .dead, .dead, .dead, .dead, .row 5 1 y20.length (y20.flatMap (eN .u8))] rfl rfl (st_st ⟨rfl, trivial⟩) (qte_u (opu_store2 hΓ rfl rfl rfl rfl rfl rfl rfl rfl rfl)) ?_
        refine ge_fin ?_
        refine go hΓ 1 rfl ?_
        refine cv_move 9 3 [.dead, mOb kS false (eN .i64) y5.v_where, .box 164 [.sl 3 y20.length, .map 1], .row 5 1 y20.length (y20.flatMap (eN .u8)), .box 57 [S v_r.Name, I v_r.Kind, B v_r.Addr.Six, U v_r.Addr.Hi, U v_r.Addr.Lo, S v_r.To, S v_r.Words, I v_r.Life], .dead, .dead, .dead, .dead, .dead] rfl rfl rfl rfl rfl rfl ?_
        refine cv_here ?_
        obtain rfl := Option.some.inj h21
        exact fin_objs hΓ [_, _, _, _, _, _] (.inl rfl) rfl rfl rfl rfl (.inr ⟨HB.mk rfl, rfl⟩)
      · have h22 := cF h16 hb
        obtain ⟨y23, hy23, h24⟩ := bi_ok h22
        refine go hΓ 4 rfl ?_
        refine eo_callF [3, 1, 2] (.tup []) [.dead, mOb kS false (eN .i64) y23.v_where, .box 164 [.sl 8 y23.b.length, .map 1], .dead, .box 57 [S v_r.Name, I v_r.Kind, B v_r.Addr.Six, U v_r.Addr.Hi, U v_r.Addr.Lo, S v_r.To, S v_r.Words, I v_r.Life], .dead, .dead, .dead, .row 5 1 y23.b.length (y23.b.flatMap (eN .u8))] (callable Tryz.func118 rfl rfl) (c_name_encoder_name hy23) rfl (Nat.le_of_ble_eq_true rfl) rfl rfl rfl rfl rfl rfl rfl rfl rfl rfl ?_
        refine eo_move 8 3 [.dead, mOb kS false (eN .i64) y23.v_where, .box 164 [.sl 3 y23.b.length, .map 1], .row 5 1 y23.b.length (y23.b.flatMap (eN .u8)), .box 57 [S v_r.Name, I v_r.Kind, B v_r.Addr.Six, U v_r.Addr.Hi, U v_r.Addr.Lo, S v_r.To, S v_r.Words, I v_r.Life], .dead, .dead, .dead, .dead] rfl rfl rfl rfl rfl rfl ?_
        refine go_ops hΓ 2 rfl ?_
        refine cv_here ?_
        obtain rfl := Option.some.inj h24
        exact fin_objs hΓ [_, _, _, _, _] (.inl rfl) rfl rfl rfl rfl (.inr ⟨HB.mk rfl, rfl⟩)
set_option maxHeartbeats 8000000 in
theorem c_name_Encode {k : Nat} {m : T_api_Message} {r : (List Int) × Int} (h : m_name_Encode k m = some r) : Pure Tryz.prog 45 [.agg [I m.Id, B m.Reply, I m.Code, .d (Sl e_api_Question m.Asked), .d (Sl e_api_Record m.Got)]] (.tup [.d (Sl (eN .u8) r.1), I r.2]) := by
  refine Pure.enter (Fr.of 0 _) Tryz.func45 rfl (Fr.of_ok _) rfl rfl ?_
  refine go_in ?_
  unfold m_name_Encode at h
  refine go hΓ 2 rfl ?_
  refine eo_box rfl rfl rfl rfl (Nat.le_of_ble_eq_true rfl) ?_
  obtain ⟨y1, hy1, h2⟩ := bi_ok h
  refine go_ops hΓ 8 rfl ?_
  refine eo_callP (callable Tryz.func116 rfl rfl) (c_name_messageFault hy1) rfl (Nat.le_of_ble_eq_true rfl) rfl rfl rfl rfl rfl ?_
  refine go_ops hΓ 9 rfl ?_
  refine j_cond rfl (fun hb => ?_) (fun hb => ?_)
  · have h3 := cT h2 hb
    refine go hΓ 9 rfl ?_
    obtain rfl := Option.some.inj h3
    exact fin_pure hΓ (.inr rfl) rfl rfl
  · have h4 := cF h2 hb
    refine go hΓ 4 rfl ?_
    refine eo_s (Nat.le_of_ble_eq_true rfl) (nblt.1 rfl) (ops_makeMap false) ?_
    refine eo_hp [.box 31 [I m.Id, B m.Reply, I m.Code, .d (Sl e_api_Question m.Asked), .d (Sl e_api_Record m.Got)], mOb kS false (eN .i64) ([] : List (Str × Int))] rfl ?_
    refine eo_s (Nat.le_of_ble_eq_true rfl) (nblt.1 rfl) (ops_nilAt 5 1 0 (OpP.s (op_buildX hΓ [0] (gs := [.d (.v (.slice none 0 0)), .map 1]) rfl rfl rfl rfl rfl rfl)) rfl) ?_
    refine eo_box rfl rfl rfl rfl (Nat.le_of_ble_eq_true rfl) ?_
    obtain ⟨y5, hy5, h6⟩ := bi_ok h4
    refine go_ops hΓ 9 rfl ?_
    refine eo_callF [2, 1, 3] (.tup []) [.box 31 [I m.Id, B m.Reply, I m.Code, .d (Sl e_api_Question m.Asked), .d (Sl e_api_Record m.Got)], mOb kS false (eN .i64) y5.v_where, .dead, .box 164 [.sl 4 y5.b.length, .map 1], .row 5 1 y5.b.length (y5.b.flatMap (eN .u8))] (callable Tryz.func117 rfl rfl) (c_name_encoder_number hy5) rfl (Nat.le_of_ble_eq_true rfl) rfl rfl rfl rfl rfl rfl rfl rfl rfl rfl ?_
    refine eo_move 4 2 [.box 31 [I m.Id, B m.Reply, I m.Code, .d (Sl e_api_Question m.Asked), .d (Sl e_api_Record m.Got)], mOb kS false (eN .i64) y5.v_where, .row 5 1 y5.b.length (y5.b.flatMap (eN .u8)), .box 164 [.sl 2 y5.b.length, .map 1], .dead] rfl rfl rfl rfl rfl rfl ?_
    obtain ⟨q7, hq7, h8⟩ := bi_ok h6
    refine go_ops hΓ 14 rfl ?_
    refine j_cutNZ [(1, .ptr 0 0), (5, .ptr 3 0), (6, .d (.v (.int .u8 q7)))] [.box 31 [I m.Id, B m.Reply, I m.Code, .d (Sl e_api_Question m.Asked), .d (Sl e_api_Record m.Got)], mOb kS false (eN .i64) y5.v_where, .row 5 1 y5.b.length (y5.b.flatMap (eN .u8)), .box 164 [.sl 2 y5.b.length, .map 1], .dead] ?_ ?_
    · refine j_cond rfl (fun hb => ?_) (fun hb => ?_)
      · have h9 := cT hq7 hb
        refine go hΓ 3 rfl ?_
        obtain rfl := Option.some.inj h9
        exact ⟨⟨rfl, rfl, rfl, trivial⟩, [], rfl, .inl rfl⟩
      · have h10 := cF hq7 hb
        refine go hΓ 1 rfl ?_
        obtain rfl := Option.some.inj h10
        exact ⟨⟨rfl, rfl, rfl, trivial⟩, [], rfl, .inl rfl⟩
    · refine go hΓ 2 rfl ?_
      refine j_drawE [.box 31 [I m.Id, B m.Reply, I m.Code, .d (Sl e_api_Question m.Asked), .d (Sl e_api_Record m.Got)], .dead, .dead, .box 164 [.sl 2 y5.b.length, .map 1]] [4, 7, 10, 14] [18, 21] [18, 21] hmix (by kernel_rfl) (by kernel_rfl) ⟨rfl, rfl, trivial⟩ (Nat.le_of_ble_eq_true rfl) ?_
      refine go_E hΓ 17 rfl ?_
      refine ge_litT hΓ (enc := (eN .u8)) [q7, IntKind.u8.wrap (m.Code), IntKind.u8.wrap ((m.Asked.length : Int)), IntKind.u8.wrap ((m.Got.length : Int))] rfl rfl rfl rfl rfl rfl rfl rfl rfl rfl rfl rfl ?_
      obtain ⟨y11, hy11, h12⟩ := bi_ok h8
      refine ge_h [.box 31 [I m.Id, B m.Reply, I m.Code, .d (Sl e_api_Question m.Asked), .d (Sl e_api_Record m.Got)], mOb kS false (eN .i64) y5.v_where, .dead, .box 164 [.junk, .map 1], .dead, .row 5 1 y11.length (y11.flatMap (eN .u8))] rfl rfl rfl (brk_st rfl) (qte_s (ops_forg 2 (ops_appendT hΓ (enc := (eN .u8)) (id := 2) (h2 := show Γ 5 = some ⟨_, 1, _, _⟩ from rfl) hy11 rfl rfl rfl rfl rfl rfl rfl rfl (fun _ => rfl) rfl))) ?_
      refine go_E hΓ 2 rfl ?_
      refine ge_h0 [.box 31 [I m.Id, B m.Reply, I m.Code, .d (Sl e_api_Question m.Asked), .d (Sl e_api_Record m.Got)], mOb kS false (eN .i64) y5.v_where, .dead, .box 164 [.sl 5 y11.length, .map 1], .dead, .row 5 1 y11.length (y11.flatMap (eN .u8))] rfl rfl (brk_st rfl) (qte_u (opu_store2 hΓ rfl rfl rfl rfl rfl rfl rfl rfl rfl)) ?_
      refine ge_fin ?_
      refine go hΓ 1 rfl ?_
      refine j_move 5 2 [.box 31 [I m.Id, B m.Reply, I m.Code, .d (Sl e_api_Question m.Asked), .d (Sl e_api_Record m.Got)], mOb kS false (eN .i64) y5.v_where, .row 5 1 y11.length (y11.flatMap (eN .u8)), .box 164 [.sl 2 y11.length, .map 1], .dead, .dead] rfl rfl rfl rfl rfl rfl ?_
      refine go hΓ 9 rfl ?_
      obtain ⟨q16, hq16, h17⟩ := bi_ok h12
      refine j_bound 48 rfl fun hb19 => ?_
      refine j_cutNZ [(1, .ptr 0 0), (5, .ptr 3 0)] [.box 31 [I m.Id, B m.Reply, I m.Code, .d (Sl e_api_Question m.Asked), .d (Sl e_api_Record m.Got)], mOb kS false (eN .i64) q16.1, .row 5 1 q16.2.length (q16.2.flatMap (eN .u8)), .box 164 [.sl 2 q16.2.length, .map 1], .dead, .dead] ?_ ?_
      · refine go hΓ 1 rfl ?_
        refine j_rangeF m.Asked hq16 (fun i13 s14 => [(1, .ptr 0 0), (5, .ptr 3 0), (48, .d (Sl e_api_Question m.Asked)), (49, I (m.Asked.length : Int)), (50, I (i13 : Int))]) (fun s14 => [.box 31 [I m.Id, B m.Reply, I m.Code, .d (Sl e_api_Question m.Asked), .d (Sl e_api_Record m.Got)], mOb kS false (eN .i64) s14.1, .row 5 1 s14.2.length (s14.2.flatMap (eN .u8)), .box 164 [.sl 2 s14.2.length, .map 1], .dead, .dead]) ⟨⟨rfl, rfl, rfl, rfl, rfl, trivial⟩, [], rfl, .inl rfl⟩ (fun i13 x15 s14 y23 hx20 hlt hy21 => ?_) (?_)
        · refine go hΓ 6 rfl ?_
          refine j_condT rfl (decide_eq_true (Int.ofNat_lt.2 hlt)) ?_
          refine go hΓ 6 rfl ?_
          refine eo_o rfl (op_elemZ hΓ (enc := e_api_Question) (getZ_nat hx20) rfl rfl rfl rfl rfl (fun _ => rfl)) ?_
          refine go_ops hΓ 1 rfl ?_
          refine eo_alloc hΓ rfl rfl rfl (Nat.le_of_ble_eq_true rfl) ?_
          refine eo_store hΓ rfl rfl rfl rfl rfl rfl rfl rfl (Nat.le_of_ble_eq_true rfl) ?_
          refine eo_hp [.box 31 [I m.Id, B m.Reply, I m.Code, .d (Sl e_api_Question m.Asked), .d (Sl e_api_Record m.Got)], mOb kS false (eN .i64) s14.1, .row 5 1 s14.2.length (s14.2.flatMap (eN .u8)), .box 164 [.sl 2 s14.2.length, .map 1], .dead, .dead, .box 82 [S x15.Name, I x15.Kind]] rfl ?_
          obtain ⟨y24, hy24, h25⟩ := bi_ok hy21
          refine go_ops hΓ 7 rfl ?_
          refine eo_callF [2, 1, 3] (.tup []) [.box 31 [I m.Id, B m.Reply, I m.Code, .d (Sl e_api_Question m.Asked), .d (Sl e_api_Record m.Got)], mOb kS false (eN .i64) y24.v_where, .dead, .box 164 [.sl 7 y24.b.length, .map 1], .dead, .dead, .box 82 [S x15.Name, I x15.Kind], .row 5 1 y24.b.length (y24.b.flatMap (eN .u8))] (callable Tryz.func118 rfl rfl) (c_name_encoder_name hy24) rfl (Nat.le_of_ble_eq_true rfl) rfl rfl rfl rfl rfl rfl rfl rfl rfl rfl ?_
          refine eo_move 7 2 [.box 31 [I m.Id, B m.Reply, I m.Code, .d (Sl e_api_Question m.Asked), .d (Sl e_api_Record m.Got)], mOb kS false (eN .i64) y24.v_where, .row 5 1 y24.b.length (y24.b.flatMap (eN .u8)), .box 164 [.sl 2 y24.b.length, .map 1], .dead, .dead, .box 82 [S x15.Name, I x15.Kind], .dead] rfl rfl rfl rfl rfl rfl ?_
          refine go_ops hΓ 2 rfl ?_
          refine j_drawE [.dead, .dead, .dead, .box 164 [.sl 2 y24.b.length, .map 1], .dead, .dead, .box 82 [S x15.Name, I x15.Kind]] [4, 6] [9, 12] [9, 12] hmix (by kernel_rfl) (by kernel_rfl) ⟨rfl, rfl, trivial⟩ (Nat.le_of_ble_eq_true rfl) ?_
          refine go_E hΓ 8 rfl ?_
          refine ge_litT hΓ (enc := (eN .u8)) [IntKind.u8.wrap (x15.Kind)] rfl rfl rfl rfl rfl rfl rfl rfl rfl rfl rfl rfl ?_
          obtain ⟨y26, hy26, h27⟩ := bi_ok h25
          refine ge_h [.box 31 [I m.Id, B m.Reply, I m.Code, .d (Sl e_api_Question m.Asked), .d (Sl e_api_Record m.Got)], mOb kS false (eN .i64) y24.v_where, .dead, .box 164 [.junk, .map 1], .dead, .dead, .box 82 [S x15.Name, I x15.Kind], .dead, .row 5 1 y26.length (y26.flatMap (eN .u8))] rfl rfl rfl (brk_st rfl) (qte_s (ops_forg 2 (ops_appendT hΓ (enc := (eN .u8)) (id := 2) (h2 := show Γ 5 = some ⟨_, 1, _, _⟩ from rfl) hy26 rfl rfl rfl rfl rfl rfl rfl rfl (fun _ => rfl) rfl))) ?_
          refine go_E hΓ 2 rfl ?_
          refine ge_h0 [.box 31 [I m.Id, B m.Reply, I m.Code, .d (Sl e_api_Question m.Asked), .d (Sl e_api_Record m.Got)], mOb kS false (eN .i64) y24.v_where, .dead, .box 164 [.sl 8 y26.length, .map 1], .dead, .dead, .box 82 [S x15.Name, I x15.Kind], .dead, .row 5 1 y26.length (y26.flatMap (eN .u8))] rfl rfl (brk_st rfl) (qte_u (opu_store2 hΓ rfl rfl rfl rfl rfl rfl rfl rfl rfl)) ?_
          refine ge_fin ?_
          refine go hΓ 2 rfl ?_
          refine j_move 8 2 [.box 31 [I m.Id, B m.Reply, I m.Code, .d (Sl e_api_Question m.Asked), .d (Sl e_api_Record m.Got)], mOb kS false (eN .i64) y24.v_where, .row 5 1 y26.length (y26.flatMap (eN .u8)), .box 164 [.sl 2 y26.length, .map 1], .dead, .dead, .box 82 [S x15.Name, I x15.Kind], .dead, .dead] rfl rfl rfl rfl rfl rfl ?_
          refine go hΓ 4 rfl ?_
          obtain rfl := Option.some.inj h27
          exact ⟨⟨rfl, rfl, rfl, rfl, get_eq rfl (w64_succ (Nat.lt_of_lt_of_le hlt hb19)), trivial⟩, [_, _, _], rfl, .inr ⟨HB.mk rfl, FB.mk rfl, (Nat.le_of_ble_eq_true rfl)⟩⟩
        · refine go hΓ 6 rfl ?_
          refine j_condF rfl (decide_eq_false (Int.lt_irrefl _)) ?_
          refine go hΓ 4 rfl ?_
          exact ⟨⟨rfl, rfl, trivial⟩, [], rfl, .inl rfl⟩
      · refine go hΓ 10 rfl ?_
        obtain ⟨q31, hq31, h32⟩ := bi_ok h17
        refine j_bound 72 rfl fun hb34 => ?_
        refine j_cutNZ [(5, .ptr 3 0)] [.box 31 [I m.Id, B m.Reply, I m.Code, .d (Sl e_api_Question m.Asked), .d (Sl e_api_Record m.Got)], mOb kS false (eN .i64) q31.1, .row 5 1 q31.2.length (q31.2.flatMap (eN .u8)), .box 164 [.sl 2 q31.2.length, .map 1], .dead, .dead] ?_ ?_
        · refine go hΓ 1 rfl ?_
          refine j_rangeF m.Got hq31 (fun i28 s29 => [(5, .ptr 3 0), (72, .d (Sl e_api_Record m.Got)), (73, I (m.Got.length : Int)), (74, I (i28 : Int))]) (fun s29 => [.box 31 [I m.Id, B m.Reply, I m.Code, .d (Sl e_api_Question m.Asked), .d (Sl e_api_Record m.Got)], mOb kS false (eN .i64) s29.1, .row 5 1 s29.2.length (s29.2.flatMap (eN .u8)), .box 164 [.sl 2 s29.2.length, .map 1], .dead, .dead]) ⟨⟨rfl, rfl, rfl, rfl, trivial⟩, [], rfl, .inl rfl⟩ (fun i28 x30 s29 y38 hx35 hlt hy36 => ?_) (?_)
          · refine go hΓ 6 rfl ?_
            refine j_condT rfl (decide_eq_true (Int.ofNat_lt.2 hlt)) ?_
            refine go hΓ 6 rfl ?_
            refine eo_o rfl (op_elemZ hΓ (enc := e_api_Record) (getZ_nat hx35) rfl rfl rfl rfl rfl (fun _ => rfl)) ?_
            refine go_ops hΓ 1 rfl ?_
            refine eo_alloc hΓ rfl rfl rfl (Nat.le_of_ble_eq_true rfl) ?_
            refine eo_store hΓ rfl rfl rfl rfl rfl rfl rfl rfl (Nat.le_of_ble_eq_true rfl) ?_
            refine eo_hp [.box 31 [I m.Id, B m.Reply, I m.Code, .d (Sl e_api_Question m.Asked), .d (Sl e_api_Record m.Got)], mOb kS false (eN .i64) s29.1, .row 5 1 s29.2.length (s29.2.flatMap (eN .u8)), .box 164 [.sl 2 s29.2.length, .map 1], .dead, .dead, .box 57 [S x30.Name, I x30.Kind, B x30.Addr.Six, U x30.Addr.Hi, U x30.Addr.Lo, S x30.To, S x30.Words, I x30.Life]] rfl ?_
            obtain ⟨y39, hy39, h40⟩ := bi_ok hy36
            refine go_ops hΓ 5 rfl ?_
            refine eo_callF [2, 1, 3] (.tup []) [.box 31 [I m.Id, B m.Reply, I m.Code, .d (Sl e_api_Question m.Asked), .d (Sl e_api_Record m.Got)], mOb kS false (eN .i64) y39.v_where, .dead, .box 164 [.sl 7 y39.b.length, .map 1], .dead, .dead, .box 57 [S x30.Name, I x30.Kind, B x30.Addr.Six, U x30.Addr.Hi, U x30.Addr.Lo, S x30.To, S x30.Words, I x30.Life], .row 5 1 y39.b.length (y39.b.flatMap (eN .u8))] (callable Tryz.func119 rfl rfl) (c_name_encoder_record hy39) rfl (Nat.le_of_ble_eq_true rfl) rfl rfl rfl rfl rfl rfl rfl rfl rfl rfl ?_
            refine eo_move 7 2 [.box 31 [I m.Id, B m.Reply, I m.Code, .d (Sl e_api_Question m.Asked), .d (Sl e_api_Record m.Got)], mOb kS false (eN .i64) y39.v_where, .row 5 1 y39.b.length (y39.b.flatMap (eN .u8)), .box 164 [.sl 2 y39.b.length, .map 1], .dead, .dead, .box 57 [S x30.Name, I x30.Kind, B x30.Addr.Six, U x30.Addr.Hi, U x30.Addr.Lo, S x30.To, S x30.Words, I x30.Life], .dead] rfl rfl rfl rfl rfl rfl ?_
            refine go_ops hΓ 7 rfl ?_
            obtain rfl := Option.some.inj h40
            exact ⟨⟨rfl, rfl, rfl, get_eq rfl (w64_succ (Nat.lt_of_lt_of_le hlt hb34)), trivial⟩, [_, _], rfl, .inr ⟨HB.mk rfl, FB.mk rfl, (Nat.le_of_ble_eq_true rfl)⟩⟩
          · refine go hΓ 6 rfl ?_
            refine j_condF rfl (decide_eq_false (Int.lt_irrefl _)) ?_
            refine go hΓ 4 rfl ?_
            exact ⟨⟨rfl, trivial⟩, [], rfl, .inl rfl⟩
        · refine go hΓ 12 rfl ?_
          refine j_cond rfl (fun hb => ?_) (fun hb => ?_)
          · have h41 := cT h32 hb
            refine go hΓ 8 rfl ?_
            obtain rfl := Option.some.inj h41
            exact fin_pure hΓ (.inr rfl) rfl rfl
          · have h42 := cF h32 hb
            refine go hΓ 9 rfl ?_
            refine eo_shr 2 [2, 85, 91] _ [.box 31 [I m.Id, B m.Reply, I m.Code, .d (Sl e_api_Question m.Asked), .d (Sl e_api_Record m.Got)], mOb kS false (eN .i64) q31.1, .dead, .box 164 [.d (Sl (eN .u8) q31.2), .map 1], .dead, .dead] rfl rfl rfl (Nat.le_of_ble_eq_true rfl) ?_
            refine go_ops hΓ 4 rfl ?_
            obtain rfl := Option.some.inj h42
            exact fin_pure hΓ (.inr rfl) rfl rfl
theorem c_slices_Equal_byte_byte {s1 : List Int} {s2 : List Int} {r : Bool} (h : m_slices_Equal_byte_byte s1 s2 = some r) : Pure Tryz.prog 46 [.d (Sl (eN .u8) s1), .d (Sl (eN .u8) s2)] (B r) := by
  refine Pure.enter (Fr.of 0 _) Tryz.func46 rfl (Fr.of_ok _) rfl rfl ?_
  refine go_in ?_
  unfold m_slices_Equal_byte_byte at h
  refine go hΓ 15 rfl ?_
  refine j_cond rfl (fun hb => ?_) (fun hb => ?_)
  · have h1 := cT h hb
    refine go hΓ 7 rfl ?_
    obtain rfl := Option.some.inj h1
    exact fin_pure hΓ (.inr rfl) rfl rfl
  · have h2 := cF h hb
    refine go hΓ 10 rfl ?_
    obtain ⟨q6, hq6, h7⟩ := bi_ok h2
    refine j_bound 0 rfl fun hb9 => ?_
    refine j_cutEZ (R := fun a8 => q6 = .go a8) (fun a8 => []) (fun a8 => []) ?_ ?_
    · refine go hΓ 1 rfl ?_
      refine j_range s1 hq6 (fun i3 s4 => [(0, .d (Sl (eN .u8) s1)), (1, .d (Sl (eN .u8) s2)), (12, I (s1.length : Int)), (13, I (i3 : Int))]) (fun s4 => []) ⟨⟨rfl, rfl, rfl, rfl, trivial⟩, [], rfl, .inl rfl⟩ (fun i3 x5 s4 y13 hx10 hlt hy11 hout12 => ?_) (fun s4 hgo => ?_)
      · refine go hΓ 6 rfl ?_
        refine j_condT rfl (decide_eq_true (Int.ofNat_lt.2 hlt)) ?_
        refine go hΓ 11 rfl ?_
        refine j_draw hmix (by kernel_rfl) ?_
        refine go hΓ 2 rfl ?_
        refine gl_o rfl (op_elemZ hΓ (enc := (eN .u8)) (getZ_nat hx10) rfl rfl rfl rfl rfl (fun _ => rfl)) ?_
        obtain ⟨x14, hx14, h15⟩ := bi_ok hy11
        refine go_draw hΓ 3 rfl ?_
        refine gl_o rfl (op_elemZ hΓ (enc := (eN .u8)) hx14 rfl rfl rfl rfl rfl (fun _ => rfl)) ?_
        refine go_draw hΓ 4 rfl ?_
        refine j_cond rfl (fun hb => ?_) (fun hb => ?_)
        · have h16 := cT h15 hb
          refine go hΓ 8 rfl ?_
          obtain ⟨v17, hv17, h18⟩ := bi_ok h16
          obtain rfl := Option.some.inj h18
          obtain rfl := hout12 _ rfl
          obtain rfl := Option.some.inj h7
          refine go hΓ 4 rfl ?_
          obtain rfl := Option.some.inj hv17
          exact fin_pure hΓ (.inr rfl) rfl rfl
        · have h19 := cF h15 hb
          refine go hΓ 7 rfl ?_
          obtain rfl := Option.some.inj h19
          exact ⟨_, rfl, ⟨⟨rfl, rfl, rfl, get_eq rfl (w64_succ (Nat.lt_of_lt_of_le hlt hb9)), trivial⟩, [], rfl, .inl rfl⟩⟩
      · subst hgo
        refine go hΓ 6 rfl ?_
        refine j_condF rfl (decide_eq_false (Int.lt_irrefl _)) ?_
        refine go hΓ 4 rfl ?_
        exact ⟨_, rfl, ⟨trivial, [], rfl, .inl rfl⟩⟩
    · intro a8 ha
      subst ha
      replace h7 := goI_l h7
      refine go hΓ 7 rfl ?_
      obtain rfl := Option.some.inj h7
      exact fin_pure hΓ (.inr rfl) rfl rfl
set_option maxHeartbeats 8000000 in
theorem c_name_Decode {k : Nat} {b : List Int} {r : T_api_Message × Int} (h : m_name_Decode k b = some r) : Pure Tryz.prog 7 [.d (Sl (eN .u8) b)] (.tup [.agg [I r.1.Id, B r.1.Reply, I r.1.Code, .d (Sl e_api_Question r.1.Asked), .d (Sl e_api_Record r.1.Got)], I r.2]) := by
  refine Pure.enter (Fr.of 0 _) Tryz.func7 rfl (Fr.of_ok _) rfl rfl ?_
  refine go_in ?_
  unfold m_name_Decode at h
  refine go hΓ 2 rfl ?_
  refine eo_alloc hΓ rfl rfl rfl (Nat.le_of_ble_eq_true rfl) ?_
  refine go_ops hΓ 11 rfl ?_
  refine j_cond rfl (fun hb => ?_) (fun hb => ?_)
  · have h1 := cT h hb
    refine go hΓ 2 rfl ?_
    refine eo_s (Nat.le_of_ble_eq_true rfl) (nblt.1 rfl) (ops_nilAt 57 8 4 (ops_nilAt 82 2 3 (OpP.s (op_buildX hΓ [3, 4] (gs := [I 0, B false, I 0, .d (.v (.slice none 0 0)), .d (.v (.slice none 0 0))]) rfl rfl rfl rfl rfl rfl)) rfl) rfl) ?_
    refine eo_shr 1 [17] _ [.box 31 [I 0, B false, I 0, .d (Sl e_api_Question []), .d (Sl e_api_Record [])], .dead, .row 57 8 ([] : List T_api_Record).length (([] : List T_api_Record).flatMap e_api_Record)] rfl rfl rfl (Nat.le_of_ble_eq_true rfl) ?_
    refine eo_shr 2 [17] _ [.box 31 [I 0, B false, I 0, .d (Sl e_api_Question []), .d (Sl e_api_Record [])], .dead, .dead] rfl rfl rfl (Nat.le_of_ble_eq_true rfl) ?_
    refine eo_store hΓ rfl rfl rfl rfl rfl rfl rfl rfl (Nat.le_of_ble_eq_true rfl) ?_
    refine eo_hp [.box 31 [I 0, B false, I 0, .d (Sl e_api_Question ([] : List T_api_Question)), .d (Sl e_api_Record ([] : List T_api_Record))], .dead, .dead] rfl ?_
    refine go_ops hΓ 5 rfl ?_
    obtain rfl := Option.some.inj h1
    exact fin_pure hΓ (.inr rfl) rfl rfl
  · have h2 := cF h hb
    refine go hΓ 5 rfl ?_
    refine eo_build hΓ (gs := [.d (Sl (eN .u8) b), I 0, B false]) rfl rfl rfl rfl rfl rfl rfl ?_
    refine eo_box rfl rfl rfl rfl (Nat.le_of_ble_eq_true rfl) ?_
    obtain ⟨y3, hy3, h4⟩ := bi_ok h2
    refine go_ops hΓ 6 rfl ?_
    refine eo_callF [1] (U y3.1) [.box 31 [I 0, B false, I 0, .d (Sl e_api_Question []), .d (Sl e_api_Record [])], .box 79 [.d (Sl (eN .u8) y3.2.b), I y3.2.v_at, B y3.2.bad]] (callable Tryz.func42 rfl rfl) (c_name_decoder_number hy3) rfl (Nat.le_of_ble_eq_true rfl) rfl rfl rfl rfl rfl rfl rfl rfl rfl rfl ?_
    refine go_ops hΓ 1 rfl ?_
    refine eo_s (Nat.le_of_ble_eq_true rfl) (nblt.1 rfl) (ops_nilAt 57 8 4 (ops_nilAt 82 2 3 (OpP.s (op_buildX hΓ [3, 4] (gs := [I (wi (y3.1)), B false, I 0, .d (.v (.slice none 0 0)), .d (.v (.slice none 0 0))]) rfl rfl rfl rfl rfl rfl)) rfl) rfl) ?_
    refine eo_alloc hΓ rfl rfl rfl (Nat.le_of_ble_eq_true rfl) ?_
    refine eo_store hΓ rfl rfl rfl rfl rfl rfl rfl rfl (Nat.le_of_ble_eq_true rfl) ?_
    refine eo_hp [.box 31 [I 0, B false, I 0, .d (Sl e_api_Question []), .d (Sl e_api_Record [])], .box 79 [.d (Sl (eN .u8) y3.2.b), I y3.2.v_at, B y3.2.bad], .row 82 2 ([] : List T_api_Question).length (([] : List T_api_Question).flatMap e_api_Question), .row 57 8 ([] : List T_api_Record).length (([] : List T_api_Record).flatMap e_api_Record), .box 31 [I (wi (y3.1)), B false, I 0, .sl 2 ([] : List T_api_Question).length, .sl 3 ([] : List T_api_Record).length]] rfl ?_
    obtain ⟨y5, hy5, h6⟩ := bi_ok h4
    refine go_ops hΓ 5 rfl ?_
    refine eo_callF [1] (U y5.1) [.box 31 [I 0, B false, I 0, .d (Sl e_api_Question []), .d (Sl e_api_Record [])], .box 79 [.d (Sl (eN .u8) y5.2.b), I y5.2.v_at, B y5.2.bad], .row 82 2 ([] : List T_api_Question).length (([] : List T_api_Question).flatMap e_api_Question), .row 57 8 ([] : List T_api_Record).length (([] : List T_api_Record).flatMap e_api_Record), .box 31 [I (wi (y3.1)), B false, I 0, .sl 2 ([] : List T_api_Question).length, .sl 3 ([] : List T_api_Record).length]] (callable Tryz.func42 rfl rfl) (c_name_decoder_number hy5) rfl (Nat.le_of_ble_eq_true rfl) rfl rfl rfl rfl rfl rfl rfl rfl rfl rfl ?_
    refine go_ops hΓ 8 rfl ?_
    refine eo_store hΓ rfl rfl rfl rfl rfl rfl rfl rfl (Nat.le_of_ble_eq_true rfl) ?_
    refine eo_hp [.box 31 [I 0, B false, I 0, .d (Sl e_api_Question []), .d (Sl e_api_Record [])], .box 79 [.d (Sl (eN .u8) y5.2.b), I y5.2.v_at, B y5.2.bad], .row 82 2 ([] : List T_api_Question).length (([] : List T_api_Question).flatMap e_api_Question), .row 57 8 ([] : List T_api_Record).length (([] : List T_api_Record).flatMap e_api_Record), .box 31 [I (wi (y3.1)), B ((y5.1 : Int) == 128), I 0, .sl 2 ([] : List T_api_Question).length, .sl 3 ([] : List T_api_Record).length]] rfl ?_
    obtain ⟨y7, hy7, h8⟩ := bi_ok h6
    refine go_ops hΓ 5 rfl ?_
    refine eo_callF [1] (U y7.1) [.box 31 [I 0, B false, I 0, .d (Sl e_api_Question []), .d (Sl e_api_Record [])], .box 79 [.d (Sl (eN .u8) y7.2.b), I y7.2.v_at, B y7.2.bad], .row 82 2 ([] : List T_api_Question).length (([] : List T_api_Question).flatMap e_api_Question), .row 57 8 ([] : List T_api_Record).length (([] : List T_api_Record).flatMap e_api_Record), .box 31 [I (wi (y3.1)), B ((y5.1 : Int) == 128), I 0, .sl 2 ([] : List T_api_Question).length, .sl 3 ([] : List T_api_Record).length]] (callable Tryz.func42 rfl rfl) (c_name_decoder_number hy7) rfl (Nat.le_of_ble_eq_true rfl) rfl rfl rfl rfl rfl rfl rfl rfl rfl rfl ?_
    refine go_ops hΓ 2 rfl ?_
    refine eo_store hΓ rfl rfl rfl rfl rfl rfl rfl rfl (Nat.le_of_ble_eq_true rfl) ?_
    refine eo_hp [.box 31 [I 0, B false, I 0, .d (Sl e_api_Question []), .d (Sl e_api_Record [])], .box 79 [.d (Sl (eN .u8) y7.2.b), I y7.2.v_at, B y7.2.bad], .row 82 2 ([] : List T_api_Question).length (([] : List T_api_Question).flatMap e_api_Question), .row 57 8 ([] : List T_api_Record).length (([] : List T_api_Record).flatMap e_api_Record), .box 31 [I (wi (y3.1)), B ((y5.1 : Int) == 128), I (wi (y7.1)), .sl 2 ([] : List T_api_Question).length, .sl 3 ([] : List T_api_Record).length]] rfl ?_
    obtain ⟨y9, hy9, h10⟩ := bi_ok h8
    refine go_ops hΓ 5 rfl ?_
    refine eo_callF [1] (U y9.1) [.box 31 [I 0, B false, I 0, .d (Sl e_api_Question []), .d (Sl e_api_Record [])], .box 79 [.d (Sl (eN .u8) y9.2.b), I y9.2.v_at, B y9.2.bad], .row 82 2 ([] : List T_api_Question).length (([] : List T_api_Question).flatMap e_api_Question), .row 57 8 ([] : List T_api_Record).length (([] : List T_api_Record).flatMap e_api_Record), .box 31 [I (wi (y3.1)), B ((y5.1 : Int) == 128), I (wi (y7.1)), .sl 2 ([] : List T_api_Question).length, .sl 3 ([] : List T_api_Record).length]] (callable Tryz.func42 rfl rfl) (c_name_decoder_number hy9) rfl (Nat.le_of_ble_eq_true rfl) rfl rfl rfl rfl rfl rfl rfl rfl rfl rfl ?_
    obtain ⟨y11, hy11, h12⟩ := bi_ok h10
    refine go_ops hΓ 2 rfl ?_
    refine eo_callF [1] (U y11.1) [.box 31 [I 0, B false, I 0, .d (Sl e_api_Question []), .d (Sl e_api_Record [])], .box 79 [.d (Sl (eN .u8) y11.2.b), I y11.2.v_at, B y11.2.bad], .row 82 2 ([] : List T_api_Question).length (([] : List T_api_Question).flatMap e_api_Question), .row 57 8 ([] : List T_api_Record).length (([] : List T_api_Record).flatMap e_api_Record), .box 31 [I (wi (y3.1)), B ((y5.1 : Int) == 128), I (wi (y7.1)), .sl 2 ([] : List T_api_Question).length, .sl 3 ([] : List T_api_Record).length]] (callable Tryz.func42 rfl rfl) (c_name_decoder_number hy11) rfl (Nat.le_of_ble_eq_true rfl) rfl rfl rfl rfl rfl rfl rfl rfl rfl rfl ?_
    refine go_ops hΓ 11 rfl ?_
    refine o_cut 4 [(0, .d (Sl (eN .u8) b)), (2, .ptr 0 0), (4, .ptr 1 0), (5, .ptr 4 0), (7, I (wi (y9.1))), (8, I (wi (y11.1))), (46, B (((y5.1 : Int) != 0) && (!((y5.1 : Int) == 128))))] [.box 31 [I 0, B false, I 0, .d (Sl e_api_Question []), .d (Sl e_api_Record [])], .box 79 [.d (Sl (eN .u8) y11.2.b), I y11.2.v_at, B y11.2.bad], .row 82 2 ([] : List T_api_Question).length (([] : List T_api_Question).flatMap e_api_Question), .row 57 8 ([] : List T_api_Record).length (([] : List T_api_Record).flatMap e_api_Record), .box 31 [I (wi (y3.1)), B ((y5.1 : Int) == 128), I (wi (y7.1)), .sl 2 ([] : List T_api_Question).length, .sl 3 ([] : List T_api_Record).length]] ?_ ?_
    · refine eo_gsplit rfl rfl (fun hb => ?_) (fun hb => ?_)
      · refine go_ops hΓ 5 rfl ?_
        exact ⟨⟨rfl, rfl, rfl, rfl, rfl, rfl, get_b rfl (and_t hb), trivial⟩, [], rfl, .inl rfl⟩
      · refine go_ops hΓ 5 rfl ?_
        exact ⟨⟨rfl, rfl, rfl, rfl, rfl, rfl, get_b rfl (and_f hb), trivial⟩, [], rfl, .inl rfl⟩
    · obtain ⟨q13, hq13, h14⟩ := bi_ok h12
      refine go_ops hΓ 2 rfl ?_
      refine j_cutNZ [(0, .d (Sl (eN .u8) b)), (2, .ptr 0 0), (4, .ptr 1 0), (5, .ptr 4 0), (7, I (wi (y9.1))), (8, I (wi (y11.1)))] [.box 31 [I 0, B false, I 0, .d (Sl e_api_Question []), .d (Sl e_api_Record [])], .box 79 [.d (Sl (eN .u8) y11.2.b), I y11.2.v_at, B q13], .row 82 2 ([] : List T_api_Question).length (([] : List T_api_Question).flatMap e_api_Question), .row 57 8 ([] : List T_api_Record).length (([] : List T_api_Record).flatMap e_api_Record), .box 31 [I (wi (y3.1)), B ((y5.1 : Int) == 128), I (wi (y7.1)), .sl 2 ([] : List T_api_Question).length, .sl 3 ([] : List T_api_Record).length]] ?_ ?_
      · refine j_cond rfl (fun hb => ?_) (fun hb => ?_)
        · have h15 := cT hq13 hb
          refine go hΓ 4 rfl ?_
          refine eo_store hΓ rfl rfl rfl rfl rfl rfl rfl rfl (Nat.le_of_ble_eq_true rfl) ?_
          refine eo_hp [.box 31 [I 0, B false, I 0, .d (Sl e_api_Question []), .d (Sl e_api_Record [])], .box 79 [.d (Sl (eN .u8) y11.2.b), I y11.2.v_at, B true], .row 82 2 ([] : List T_api_Question).length (([] : List T_api_Question).flatMap e_api_Question), .row 57 8 ([] : List T_api_Record).length (([] : List T_api_Record).flatMap e_api_Record), .box 31 [I (wi (y3.1)), B ((y5.1 : Int) == 128), I (wi (y7.1)), .sl 2 ([] : List T_api_Question).length, .sl 3 ([] : List T_api_Record).length]] rfl ?_
          refine go_ops hΓ 1 rfl ?_
          obtain rfl := Option.some.inj h15
          exact ⟨⟨rfl, rfl, rfl, rfl, rfl, rfl, trivial⟩, [], rfl, .inl rfl⟩
        · have h16 := cF hq13 hb
          refine go hΓ 1 rfl ?_
          obtain rfl := Option.some.inj h16
          exact ⟨⟨rfl, rfl, rfl, rfl, rfl, rfl, trivial⟩, [], rfl, .inl rfl⟩
      · refine go hΓ 7 rfl ?_
        obtain ⟨q20, hq20, h21⟩ := bi_ok h14
        refine j_cutNZ [(0, .d (Sl (eN .u8) b)), (2, .ptr 0 0), (4, .ptr 1 0), (5, .ptr 4 0), (8, I (wi (y11.1)))] [.box 31 [I 0, B false, I 0, .d (Sl e_api_Question []), .d (Sl e_api_Record [])], .box 79 [.d (Sl (eN .u8) q20.1.b), I q20.1.v_at, B q20.1.bad], .row 82 2 q20.2.length (q20.2.flatMap e_api_Question), .row 57 8 ([] : List T_api_Record).length (([] : List T_api_Record).flatMap e_api_Record), .box 31 [I (wi (y3.1)), B ((y5.1 : Int) == 128), I (wi (y7.1)), .sl 2 q20.2.length, .sl 3 ([] : List T_api_Record).length]] ?_ ?_
        · refine go hΓ 1 rfl ?_
          refine j_loop hq20 (fun s18 => [(0, .d (Sl (eN .u8) b)), (2, .ptr 0 0), (4, .ptr 1 0), (5, .ptr 4 0), (7, I (wi (y9.1))), (8, I (wi (y11.1))), (9, I s18.2.2)]) (fun s18 => [.box 31 [I 0, B false, I 0, .d (Sl e_api_Question []), .d (Sl e_api_Record [])], .box 79 [.d (Sl (eN .u8) s18.1.b), I s18.1.v_at, B s18.1.bad], .row 82 2 s18.2.1.length (s18.2.1.flatMap e_api_Question), .row 57 8 ([] : List T_api_Record).length (([] : List T_api_Record).flatMap e_api_Record), .box 31 [I (wi (y3.1)), B ((y5.1 : Int) == 128), I (wi (y7.1)), .sl 2 s18.2.1.length, .sl 3 ([] : List T_api_Record).length]]) ⟨⟨rfl, rfl, rfl, rfl, rfl, rfl, rfl, trivial⟩, [], rfl, .inl rfl⟩ (fun s18 y26 hy24 hout25 => ?_)
          refine go hΓ 7 rfl ?_
          refine o_cut 6 [(0, .d (Sl (eN .u8) b)), (2, .ptr 0 0), (4, .ptr 1 0), (5, .ptr 4 0), (7, I (wi (y9.1))), (8, I (wi (y11.1))), (9, I s18.2.2), (59, B ((decide ((s18.2.2 : Int) < (wi (y9.1)))) && (!s18.1.bad)))] [.box 31 [I 0, B false, I 0, .d (Sl e_api_Question []), .d (Sl e_api_Record [])], .box 79 [.d (Sl (eN .u8) s18.1.b), I s18.1.v_at, B s18.1.bad], .row 82 2 s18.2.1.length (s18.2.1.flatMap e_api_Question), .row 57 8 ([] : List T_api_Record).length (([] : List T_api_Record).flatMap e_api_Record), .box 31 [I (wi (y3.1)), B ((y5.1 : Int) == 128), I (wi (y7.1)), .sl 2 s18.2.1.length, .sl 3 ([] : List T_api_Record).length]] ?_ ?_
          · refine eo_gsplit rfl rfl (fun hb => ?_) (fun hb => ?_)
            · refine go_ops hΓ 7 rfl ?_
              exact ⟨⟨rfl, rfl, rfl, rfl, rfl, rfl, rfl, get_b rfl (and_t hb), trivial⟩, [], rfl, .inl rfl⟩
            · refine go_ops hΓ 7 rfl ?_
              exact ⟨⟨rfl, rfl, rfl, rfl, rfl, rfl, rfl, get_b rfl (and_f hb), trivial⟩, [], rfl, .inl rfl⟩
          · refine go_ops hΓ 2 rfl ?_
            refine j_cond rfl (fun hb => ?_) (fun hb => ?_)
            · have h27 := cT hy24 hb
              obtain ⟨y28, hy28, h29⟩ := bi_ok h27
              refine go hΓ 7 rfl ?_
              refine eo_callF [1] (S y28.1) [.box 31 [I 0, B false, I 0, .d (Sl e_api_Question []), .d (Sl e_api_Record [])], .box 79 [.d (Sl (eN .u8) y28.2.b), I y28.2.v_at, B y28.2.bad], .row 82 2 s18.2.1.length (s18.2.1.flatMap e_api_Question), .row 57 8 ([] : List T_api_Record).length (([] : List T_api_Record).flatMap e_api_Record), .box 31 [I (wi (y3.1)), B ((y5.1 : Int) == 128), I (wi (y7.1)), .sl 2 s18.2.1.length, .sl 3 ([] : List T_api_Record).length]] (callable Tryz.func43 rfl rfl) (c_name_decoder_name hy28) rfl (Nat.le_of_ble_eq_true rfl) rfl rfl rfl rfl rfl rfl rfl rfl rfl rfl ?_
              refine eo_build hΓ (gs := [S y28.1, I 0]) rfl rfl rfl rfl rfl rfl rfl ?_
              refine eo_alloc hΓ rfl rfl rfl (Nat.le_of_ble_eq_true rfl) ?_
              refine eo_store hΓ rfl rfl rfl rfl rfl rfl rfl rfl (Nat.le_of_ble_eq_true rfl) ?_
              refine eo_hp [.box 31 [I 0, B false, I 0, .d (Sl e_api_Question []), .d (Sl e_api_Record [])], .box 79 [.d (Sl (eN .u8) y28.2.b), I y28.2.v_at, B y28.2.bad], .row 82 2 s18.2.1.length (s18.2.1.flatMap e_api_Question), .row 57 8 ([] : List T_api_Record).length (([] : List T_api_Record).flatMap e_api_Record), .box 31 [I (wi (y3.1)), B ((y5.1 : Int) == 128), I (wi (y7.1)), .sl 2 s18.2.1.length, .sl 3 ([] : List T_api_Record).length], .box 82 [S y28.1, I 0]] rfl ?_
              obtain ⟨y30, hy30, h31⟩ := bi_ok h29
              refine go_ops hΓ 5 rfl ?_
              refine eo_callF [1] (U y30.1) [.box 31 [I 0, B false, I 0, .d (Sl e_api_Question []), .d (Sl e_api_Record [])], .box 79 [.d (Sl (eN .u8) y30.2.b), I y30.2.v_at, B y30.2.bad], .row 82 2 s18.2.1.length (s18.2.1.flatMap e_api_Question), .row 57 8 ([] : List T_api_Record).length (([] : List T_api_Record).flatMap e_api_Record), .box 31 [I (wi (y3.1)), B ((y5.1 : Int) == 128), I (wi (y7.1)), .sl 2 s18.2.1.length, .sl 3 ([] : List T_api_Record).length], .box 82 [S y28.1, I 0]] (callable Tryz.func42 rfl rfl) (c_name_decoder_number hy30) rfl (Nat.le_of_ble_eq_true rfl) rfl rfl rfl rfl rfl rfl rfl rfl rfl rfl ?_
              refine go_ops hΓ 2 rfl ?_
              refine eo_store hΓ rfl rfl rfl rfl rfl rfl rfl rfl (Nat.le_of_ble_eq_true rfl) ?_
              refine eo_hp [.box 31 [I 0, B false, I 0, .d (Sl e_api_Question []), .d (Sl e_api_Record [])], .box 79 [.d (Sl (eN .u8) y30.2.b), I y30.2.v_at, B y30.2.bad], .row 82 2 s18.2.1.length (s18.2.1.flatMap e_api_Question), .row 57 8 ([] : List T_api_Record).length (([] : List T_api_Record).flatMap e_api_Record), .box 31 [I (wi (y3.1)), B ((y5.1 : Int) == 128), I (wi (y7.1)), .sl 2 s18.2.1.length, .sl 3 ([] : List T_api_Record).length], .box 82 [S y28.1, I (wi (y30.1))]] rfl ?_
              refine go_ops hΓ 6 rfl ?_
              refine eo_litT hΓ (enc := e_api_Question) [(⟨y28.1, wi (y30.1)⟩ : T_api_Question)] rfl rfl rfl rfl rfl rfl rfl rfl rfl rfl rfl rfl (Nat.le_of_ble_eq_true rfl) ?_
              obtain ⟨y32, hy32, h33⟩ := bi_ok h31
              refine eo_forg 2 [.box 31 [I 0, B false, I 0, .d (Sl e_api_Question []), .d (Sl e_api_Record [])], .box 79 [.d (Sl (eN .u8) y30.2.b), I y30.2.v_at, B y30.2.bad], .row 82 2 s18.2.1.length (s18.2.1.flatMap e_api_Question), .row 57 8 ([] : List T_api_Record).length (([] : List T_api_Record).flatMap e_api_Record), .box 31 [I (wi (y3.1)), B ((y5.1 : Int) == 128), I (wi (y7.1)), .junk, .sl 3 ([] : List T_api_Record).length], .box 82 [S y28.1, I (wi (y30.1))]] rfl (Nat.le_of_ble_eq_true rfl) ?_
              refine eo_appendT hΓ (enc := e_api_Question) hy32 rfl rfl rfl rfl rfl rfl rfl rfl rfl (fun _ => rfl) rfl rfl rfl rfl ?_
              refine go_ops hΓ 1 rfl ?_
              refine eo_store hΓ rfl rfl rfl rfl rfl rfl rfl rfl (Nat.le_of_ble_eq_true rfl) ?_
              refine eo_hp [.box 31 [I 0, B false, I 0, .d (Sl e_api_Question []), .d (Sl e_api_Record [])], .box 79 [.d (Sl (eN .u8) y30.2.b), I y30.2.v_at, B y30.2.bad], .row 82 2 y32.length (y32.flatMap e_api_Question), .row 57 8 ([] : List T_api_Record).length (([] : List T_api_Record).flatMap e_api_Record), .box 31 [I (wi (y3.1)), B ((y5.1 : Int) == 128), I (wi (y7.1)), .sl 2 y32.length, .sl 3 ([] : List T_api_Record).length], .box 82 [S y28.1, I (wi (y30.1))]] rfl ?_
              refine go_ops hΓ 8 rfl ?_
              obtain rfl := Option.some.inj h33
              exact ⟨_, rfl, ⟨⟨rfl, rfl, rfl, rfl, rfl, rfl, rfl, trivial⟩, [_], rfl, .inr ⟨HB.mk rfl, FB.mk rfl, (Nat.le_of_ble_eq_true rfl)⟩⟩⟩
            · have h34 := cF hy24 hb
              refine go hΓ 4 rfl ?_
              obtain rfl := Option.some.inj h34
              obtain rfl := hout25 _ rfl
              exact ⟨⟨rfl, rfl, rfl, rfl, rfl, trivial⟩, [], rfl, .inl rfl⟩
        · refine go hΓ 7 rfl ?_
          obtain ⟨q38, hq38, h39⟩ := bi_ok h21
          refine j_cutNZ [(0, .d (Sl (eN .u8) b)), (2, .ptr 0 0), (4, .ptr 1 0), (5, .ptr 4 0)] [.box 31 [I 0, B false, I 0, .d (Sl e_api_Question []), .d (Sl e_api_Record [])], .box 79 [.d (Sl (eN .u8) q38.1.b), I q38.1.v_at, B q38.1.bad], .row 82 2 q20.2.length (q20.2.flatMap e_api_Question), .row 57 8 q38.2.length (q38.2.flatMap e_api_Record), .box 31 [I (wi (y3.1)), B ((y5.1 : Int) == 128), I (wi (y7.1)), .sl 2 q20.2.length, .sl 3 q38.2.length]] ?_ ?_
          · refine go hΓ 1 rfl ?_
            refine j_loop hq38 (fun s36 => [(0, .d (Sl (eN .u8) b)), (2, .ptr 0 0), (4, .ptr 1 0), (5, .ptr 4 0), (8, I (wi (y11.1))), (11, I s36.2.2)]) (fun s36 => [.box 31 [I 0, B false, I 0, .d (Sl e_api_Question []), .d (Sl e_api_Record [])], .box 79 [.d (Sl (eN .u8) s36.1.b), I s36.1.v_at, B s36.1.bad], .row 82 2 q20.2.length (q20.2.flatMap e_api_Question), .row 57 8 s36.2.1.length (s36.2.1.flatMap e_api_Record), .box 31 [I (wi (y3.1)), B ((y5.1 : Int) == 128), I (wi (y7.1)), .sl 2 q20.2.length, .sl 3 s36.2.1.length]]) ⟨⟨rfl, rfl, rfl, rfl, rfl, rfl, trivial⟩, [], rfl, .inl rfl⟩ (fun s36 y44 hy42 hout43 => ?_)
            refine go hΓ 7 rfl ?_
            refine o_cut 6 [(0, .d (Sl (eN .u8) b)), (2, .ptr 0 0), (4, .ptr 1 0), (5, .ptr 4 0), (8, I (wi (y11.1))), (11, I s36.2.2), (84, B ((decide ((s36.2.2 : Int) < (wi (y11.1)))) && (!s36.1.bad)))] [.box 31 [I 0, B false, I 0, .d (Sl e_api_Question []), .d (Sl e_api_Record [])], .box 79 [.d (Sl (eN .u8) s36.1.b), I s36.1.v_at, B s36.1.bad], .row 82 2 q20.2.length (q20.2.flatMap e_api_Question), .row 57 8 s36.2.1.length (s36.2.1.flatMap e_api_Record), .box 31 [I (wi (y3.1)), B ((y5.1 : Int) == 128), I (wi (y7.1)), .sl 2 q20.2.length, .sl 3 s36.2.1.length]] ?_ ?_
            · refine eo_gsplit rfl rfl (fun hb => ?_) (fun hb => ?_)
              · refine go_ops hΓ 7 rfl ?_
                exact ⟨⟨rfl, rfl, rfl, rfl, rfl, rfl, get_b rfl (and_t hb), trivial⟩, [], rfl, .inl rfl⟩
              · refine go_ops hΓ 7 rfl ?_
                exact ⟨⟨rfl, rfl, rfl, rfl, rfl, rfl, get_b rfl (and_f hb), trivial⟩, [], rfl, .inl rfl⟩
            · refine go_ops hΓ 2 rfl ?_
              refine j_cond rfl (fun hb => ?_) (fun hb => ?_)
              · have h45 := cT hy42 hb
                refine go hΓ 4 rfl ?_
                refine j_drawE [.dead, .dead, .dead, .dead, .box 31 [I (wi (y3.1)), B ((y5.1 : Int) == 128), I (wi (y7.1)), .sl 2 q20.2.length, .sl 3 s36.2.1.length]] [1] [3, 5, 7] [5, 7] hmix (by kernel_rfl) (by kernel_rfl) ⟨rfl, trivial⟩ (Nat.le_of_ble_eq_true rfl) ?_
                obtain ⟨y46, hy46, h47⟩ := bi_ok h45
                refine go_E hΓ 3 rfl ?_
                refine ge_h [.box 31 [I 0, B false, I 0, .d (Sl e_api_Question []), .d (Sl e_api_Record [])], .box 79 [.d (Sl (eN .u8) y46.2.b), I y46.2.v_at, B y46.2.bad], .row 82 2 q20.2.length (q20.2.flatMap e_api_Question), .row 57 8 s36.2.1.length (s36.2.1.flatMap e_api_Record), .box 31 [I (wi (y3.1)), B ((y5.1 : Int) == 128), I (wi (y7.1)), .sl 2 q20.2.length, .sl 3 s36.2.1.length]] rfl rfl rfl (st_st ⟨rfl, trivial⟩) (qte_callF [1] (.agg [S y46.1.Name, I y46.1.Kind, B y46.1.Addr.Six, U y46.1.Addr.Hi, U y46.1.Addr.Lo, S y46.1.To, S y46.1.Words, I y46.1.Life]) [.box 31 [I 0, B false, I 0, .d (Sl e_api_Question []), .d (Sl e_api_Record [])], .box 79 [.d (Sl (eN .u8) y46.2.b), I y46.2.v_at, B y46.2.bad], .row 82 2 q20.2.length (q20.2.flatMap e_api_Question), .row 57 8 s36.2.1.length (s36.2.1.flatMap e_api_Record), .box 31 [I (wi (y3.1)), B ((y5.1 : Int) == 128), I (wi (y7.1)), .sl 2 q20.2.length, .sl 3 s36.2.1.length]] (callable Tryz.func44 rfl rfl) (c_name_decoder_record hy46) rfl rfl rfl rfl rfl rfl rfl rfl rfl rfl) ?_
                refine ge_litT hΓ (enc := e_api_Record) [y46.1] rfl rfl rfl rfl rfl rfl rfl rfl rfl rfl rfl rfl ?_
                obtain ⟨y48, hy48, h49⟩ := bi_ok h47
                refine ge_h [.box 31 [I 0, B false, I 0, .d (Sl e_api_Question []), .d (Sl e_api_Record [])], .box 79 [.d (Sl (eN .u8) y46.2.b), I y46.2.v_at, B y46.2.bad], .row 82 2 q20.2.length (q20.2.flatMap e_api_Question), .dead, .box 31 [I (wi (y3.1)), B ((y5.1 : Int) == 128), I (wi (y7.1)), .sl 2 q20.2.length, .junk], .row 57 8 y48.length (y48.flatMap e_api_Record)] rfl rfl rfl (brk_st rfl) (qte_s (ops_forg 3 (ops_appendT hΓ (enc := e_api_Record) (id := 3) (h2 := show Γ 57 = some ⟨_, 8, _, _⟩ from rfl) hy48 rfl rfl rfl rfl rfl rfl rfl rfl (fun _ => rfl) rfl))) ?_
                refine go_E hΓ 1 rfl ?_
                refine ge_h0 [.box 31 [I 0, B false, I 0, .d (Sl e_api_Question []), .d (Sl e_api_Record [])], .box 79 [.d (Sl (eN .u8) y46.2.b), I y46.2.v_at, B y46.2.bad], .row 82 2 q20.2.length (q20.2.flatMap e_api_Question), .dead, .box 31 [I (wi (y3.1)), B ((y5.1 : Int) == 128), I (wi (y7.1)), .sl 2 q20.2.length, .sl 5 y48.length], .row 57 8 y48.length (y48.flatMap e_api_Record)] rfl rfl (brk_st rfl) (qte_u (opu_store2 hΓ rfl rfl rfl rfl rfl rfl rfl rfl rfl)) ?_
                refine ge_fin ?_
                refine go hΓ 2 rfl ?_
                refine j_move 5 3 [.box 31 [I 0, B false, I 0, .d (Sl e_api_Question []), .d (Sl e_api_Record [])], .box 79 [.d (Sl (eN .u8) y46.2.b), I y46.2.v_at, B y46.2.bad], .row 82 2 q20.2.length (q20.2.flatMap e_api_Question), .row 57 8 y48.length (y48.flatMap e_api_Record), .box 31 [I (wi (y3.1)), B ((y5.1 : Int) == 128), I (wi (y7.1)), .sl 2 q20.2.length, .sl 3 y48.length], .dead] rfl rfl rfl rfl rfl rfl ?_
                refine go hΓ 5 rfl ?_
                obtain rfl := Option.some.inj h49
                exact ⟨_, rfl, ⟨⟨rfl, rfl, rfl, rfl, rfl, rfl, trivial⟩, [_], rfl, .inr ⟨HB.mk rfl, FB.mk rfl, (Nat.le_of_ble_eq_true rfl)⟩⟩⟩
              · have h50 := cF hy42 hb
                refine go hΓ 4 rfl ?_
                obtain rfl := Option.some.inj h50
                obtain rfl := hout43 _ rfl
                exact ⟨⟨rfl, rfl, rfl, rfl, trivial⟩, [], rfl, .inl rfl⟩
          · refine go hΓ 9 rfl ?_
            refine o_cut 8 [(0, .d (Sl (eN .u8) b)), (2, .ptr 0 0), (5, .ptr 4 0), (106, B (q38.1.bad || (decide ((q38.1.v_at : Int) < (b.length : Int)))))] [.box 31 [I 0, B false, I 0, .d (Sl e_api_Question []), .d (Sl e_api_Record [])], .box 79 [.d (Sl (eN .u8) q38.1.b), I q38.1.v_at, B q38.1.bad], .row 82 2 q20.2.length (q20.2.flatMap e_api_Question), .row 57 8 q38.2.length (q38.2.flatMap e_api_Record), .box 31 [I (wi (y3.1)), B ((y5.1 : Int) == 128), I (wi (y7.1)), .sl 2 q20.2.length, .sl 3 q38.2.length]] ?_ ?_
            · refine eo_gsplit rfl rfl (fun hb => ?_) (fun hb => ?_)
              · refine go_ops hΓ 9 rfl ?_
                exact ⟨⟨rfl, rfl, rfl, get_b rfl (or_t hb), trivial⟩, [], rfl, .inl rfl⟩
              · refine go_ops hΓ 9 rfl ?_
                exact ⟨⟨rfl, rfl, rfl, get_b rfl (or_f hb), trivial⟩, [], rfl, .inl rfl⟩
            · refine go_ops hΓ 2 rfl ?_
              refine j_cond rfl (fun hb => ?_) (fun hb => ?_)
              · have h51 := cT h39 hb
                refine go hΓ 2 rfl ?_
                refine eo_s (Nat.le_of_ble_eq_true rfl) (nblt.1 rfl) (ops_nilAt 57 8 4 (ops_nilAt 82 2 3 (OpP.s (op_buildX hΓ [3, 4] (gs := [I 0, B false, I 0, .d (.v (.slice none 0 0)), .d (.v (.slice none 0 0))]) rfl rfl rfl rfl rfl rfl)) rfl) rfl) ?_
                refine eo_shr 5 [107] _ [.box 31 [I 0, B false, I 0, .d (Sl e_api_Question []), .d (Sl e_api_Record [])], .box 79 [.d (Sl (eN .u8) q38.1.b), I q38.1.v_at, B q38.1.bad], .row 82 2 q20.2.length (q20.2.flatMap e_api_Question), .row 57 8 q38.2.length (q38.2.flatMap e_api_Record), .box 31 [I (wi (y3.1)), B ((y5.1 : Int) == 128), I (wi (y7.1)), .sl 2 q20.2.length, .sl 3 q38.2.length], .dead, .row 57 8 ([] : List T_api_Record).length (([] : List T_api_Record).flatMap e_api_Record)] rfl rfl rfl (Nat.le_of_ble_eq_true rfl) ?_
                refine eo_shr 6 [107] _ [.box 31 [I 0, B false, I 0, .d (Sl e_api_Question []), .d (Sl e_api_Record [])], .box 79 [.d (Sl (eN .u8) q38.1.b), I q38.1.v_at, B q38.1.bad], .row 82 2 q20.2.length (q20.2.flatMap e_api_Question), .row 57 8 q38.2.length (q38.2.flatMap e_api_Record), .box 31 [I (wi (y3.1)), B ((y5.1 : Int) == 128), I (wi (y7.1)), .sl 2 q20.2.length, .sl 3 q38.2.length], .dead, .dead] rfl rfl rfl (Nat.le_of_ble_eq_true rfl) ?_
                refine eo_store hΓ rfl rfl rfl rfl rfl rfl rfl rfl (Nat.le_of_ble_eq_true rfl) ?_
                refine eo_hp [.box 31 [I 0, B false, I 0, .d (Sl e_api_Question ([] : List T_api_Question)), .d (Sl e_api_Record ([] : List T_api_Record))], .box 79 [.d (Sl (eN .u8) q38.1.b), I q38.1.v_at, B q38.1.bad], .row 82 2 q20.2.length (q20.2.flatMap e_api_Question), .row 57 8 q38.2.length (q38.2.flatMap e_api_Record), .box 31 [I (wi (y3.1)), B ((y5.1 : Int) == 128), I (wi (y7.1)), .sl 2 q20.2.length, .sl 3 q38.2.length], .dead, .dead] rfl ?_
                refine go_ops hΓ 5 rfl ?_
                obtain rfl := Option.some.inj h51
                exact fin_pure hΓ (.inr rfl) rfl rfl
              · have h52 := cF h39 hb
                refine go hΓ 5 rfl ?_
                refine eo_shr 2 [109] _ [.box 31 [I 0, B false, I 0, .d (Sl e_api_Question []), .d (Sl e_api_Record [])], .box 79 [.d (Sl (eN .u8) q38.1.b), I q38.1.v_at, B q38.1.bad], .dead, .row 57 8 q38.2.length (q38.2.flatMap e_api_Record), .box 31 [I (wi (y3.1)), B ((y5.1 : Int) == 128), I (wi (y7.1)), .d (Sl e_api_Question q20.2), .sl 3 q38.2.length]] rfl rfl rfl (Nat.le_of_ble_eq_true rfl) ?_
                refine eo_shr 3 [109] _ [.box 31 [I 0, B false, I 0, .d (Sl e_api_Question []), .d (Sl e_api_Record [])], .box 79 [.d (Sl (eN .u8) q38.1.b), I q38.1.v_at, B q38.1.bad], .dead, .dead, .box 31 [I (wi (y3.1)), B ((y5.1 : Int) == 128), I (wi (y7.1)), .d (Sl e_api_Question q20.2), .d (Sl e_api_Record q38.2)]] rfl rfl rfl (Nat.le_of_ble_eq_true rfl) ?_
                obtain ⟨y53, hy53, h54⟩ := bi_ok h52
                refine eo_callP (callable Tryz.func45 rfl rfl) (c_name_Encode hy53) rfl (Nat.le_of_ble_eq_true rfl) rfl rfl rfl rfl rfl ?_
                refine go_ops hΓ 13 rfl ?_
                obtain ⟨q55, hq55, h56⟩ := bi_ok h54
                refine o_cut 5 [(2, .ptr 0 0), (5, .ptr 4 0), (120, B q55)] [.box 31 [I 0, B false, I 0, .d (Sl e_api_Question []), .d (Sl e_api_Record [])], .box 79 [.d (Sl (eN .u8) q38.1.b), I q38.1.v_at, B q38.1.bad], .dead, .dead, .box 31 [I (wi (y3.1)), B ((y5.1 : Int) == 128), I (wi (y7.1)), .d (Sl e_api_Question q20.2), .d (Sl e_api_Record q38.2)]] ?_ ?_
                · refine eo_gsplit rfl rfl (fun hb => ?_) (fun hb => ?_)
                  · have h57 := cT hq55 hb
                    refine go_ops hΓ 6 rfl ?_
                    obtain rfl := Option.some.inj h57
                    exact ⟨⟨rfl, rfl, rfl, trivial⟩, [], rfl, .inl rfl⟩
                  · have h58 := cF hq55 hb
                    obtain ⟨y59, hy59, h60⟩ := bi_ok h58
                    refine go_ops hΓ 2 rfl ?_
                    refine eo_guard rfl ?_
                    refine eo_callP (callable Tryz.func46 rfl rfl) (c_slices_Equal_byte_byte hy59) rfl (Nat.le_of_ble_eq_true rfl) rfl rfl rfl rfl rfl ?_
                    refine go_ops hΓ 3 rfl ?_
                    obtain rfl := Option.some.inj h60
                    exact ⟨⟨rfl, rfl, rfl, trivial⟩, [], rfl, .inl rfl⟩
                · refine go_ops hΓ 2 rfl ?_
                  refine j_cond rfl (fun hb => ?_) (fun hb => ?_)
                  · have h61 := cT h56 hb
                    refine go hΓ 2 rfl ?_
                    refine eo_s (Nat.le_of_ble_eq_true rfl) (nblt.1 rfl) (ops_nilAt 57 8 4 (ops_nilAt 82 2 3 (OpP.s (op_buildX hΓ [3, 4] (gs := [I 0, B false, I 0, .d (.v (.slice none 0 0)), .d (.v (.slice none 0 0))]) rfl rfl rfl rfl rfl rfl)) rfl) rfl) ?_
                    refine eo_shr 5 [121] _ [.box 31 [I 0, B false, I 0, .d (Sl e_api_Question []), .d (Sl e_api_Record [])], .box 79 [.d (Sl (eN .u8) q38.1.b), I q38.1.v_at, B q38.1.bad], .dead, .dead, .box 31 [I (wi (y3.1)), B ((y5.1 : Int) == 128), I (wi (y7.1)), .d (Sl e_api_Question q20.2), .d (Sl e_api_Record q38.2)], .dead, .row 57 8 ([] : List T_api_Record).length (([] : List T_api_Record).flatMap e_api_Record)] rfl rfl rfl (Nat.le_of_ble_eq_true rfl) ?_
                    refine eo_shr 6 [121] _ [.box 31 [I 0, B false, I 0, .d (Sl e_api_Question []), .d (Sl e_api_Record [])], .box 79 [.d (Sl (eN .u8) q38.1.b), I q38.1.v_at, B q38.1.bad], .dead, .dead, .box 31 [I (wi (y3.1)), B ((y5.1 : Int) == 128), I (wi (y7.1)), .d (Sl e_api_Question q20.2), .d (Sl e_api_Record q38.2)], .dead, .dead] rfl rfl rfl (Nat.le_of_ble_eq_true rfl) ?_
                    refine eo_store hΓ rfl rfl rfl rfl rfl rfl rfl rfl (Nat.le_of_ble_eq_true rfl) ?_
                    refine eo_hp [.box 31 [I 0, B false, I 0, .d (Sl e_api_Question ([] : List T_api_Question)), .d (Sl e_api_Record ([] : List T_api_Record))], .box 79 [.d (Sl (eN .u8) q38.1.b), I q38.1.v_at, B q38.1.bad], .dead, .dead, .box 31 [I (wi (y3.1)), B ((y5.1 : Int) == 128), I (wi (y7.1)), .d (Sl e_api_Question q20.2), .d (Sl e_api_Record q38.2)], .dead, .dead] rfl ?_
                    refine go_ops hΓ 5 rfl ?_
                    obtain rfl := Option.some.inj h61
                    exact fin_pure hΓ (.inr rfl) rfl rfl
                  · have h62 := cF h56 hb
                    refine go hΓ 5 rfl ?_
                    refine eo_store hΓ rfl rfl rfl rfl rfl rfl rfl rfl (Nat.le_of_ble_eq_true rfl) ?_
                    refine eo_hp [.box 31 [I (wi (y3.1)), B ((y5.1 : Int) == 128), I (wi (y7.1)), .d (Sl e_api_Question q20.2), .d (Sl e_api_Record q38.2)], .box 79 [.d (Sl (eN .u8) q38.1.b), I q38.1.v_at, B q38.1.bad], .dead, .dead, .box 31 [I (wi (y3.1)), B ((y5.1 : Int) == 128), I (wi (y7.1)), .d (Sl e_api_Question q20.2), .d (Sl e_api_Record q38.2)]] rfl ?_
                    refine go_ops hΓ 4 rfl ?_
                    obtain rfl := Option.some.inj h62
                    exact fin_pure hΓ (.inr rfl) rfl rfl
set_option maxHeartbeats 8000000 in
theorem c_laneref1_bytesReader_take {v_r : T_laneref1_bytesReader} {bytes : Int} {r : Int × T_laneref1_bytesReader} (h : m_laneref1_bytesReader_take v_r bytes = some r) : EC Tryz.prog 47 [.ptr 0 0, I bytes] [.box 89 [.d (Sl (eN .u8) v_r.b), I v_r.v_at, B v_r.bad]] fun g hp' => g = U r.1 ∧ hp' = [.box 89 [.d (Sl (eN .u8) r.2.b), I r.2.v_at, B r.2.bad]] := by
  refine ec_enter (Fr.of 0 _) Tryz.func47 rfl (Fr.of_ok _) (Nat.le_of_ble_eq_true rfl) fun _ => ?_
  refine go_in ?_
  unfold m_laneref1_bytesReader_take at h
  refine go hΓ 17 rfl ?_
  obtain ⟨q4, hq4, h5⟩ := bi_ok h
  obtain ⟨hb7, h8⟩ := gd_ok hq4
  replace hb7 := of_decide_eq_true hb7
  refine j_cutEZ (R := fun a6 => q4 = .go a6) (fun a6 => [(5, U a6.2)]) (fun a6 => [.box 89 [.d (Sl (eN .u8) a6.1.b), I a6.1.v_at, B a6.1.bad]]) ?_ ?_
  · refine go hΓ 1 rfl ?_
    refine j_rangeI h8 (fun i1 s2 => [(0, .ptr 0 0), (5, U s2.2), (6, I bytes), (7, I (i1 : Int))]) (fun s2 => [.box 89 [.d (Sl (eN .u8) s2.1.b), I s2.1.v_at, B s2.1.bad]]) ⟨⟨rfl, rfl, rfl, rfl, trivial⟩, [], rfl, .inl rfl⟩ (fun i1 s2 y12 hlt hy10 hout11 => ?_) (fun s2 hgo hge => ?_)
    · refine go hΓ 6 rfl ?_
      refine j_condT rfl (decide_eq_true hlt) ?_
      obtain ⟨q13, hq13, h14⟩ := bi_ok hy10
      refine go hΓ 6 rfl ?_
      refine j_cutNZ [(0, .ptr 0 0), (5, U s2.2), (6, I bytes), (7, I (i1 : Int))] [.box 89 [.d (Sl (eN .u8) s2.1.b), I s2.1.v_at, B q13]] ?_ ?_
      · refine j_drawE [.box 89 [.d (Sl (eN .u8) s2.1.b), I s2.1.v_at, B s2.1.bad]] [4, 9, 13] [19] [19] hmix (by kernel_rfl) (by kernel_rfl) ⟨rfl, trivial⟩ (Nat.le_of_ble_eq_true rfl) ?_
        refine go_E hΓ 6 rfl ?_
        refine ge_gsplit rfl rfl (fun hb => ?_) (fun hb => ?_)
        · have h15 := cT hq13 hb
          refine go_E hΓ 13 rfl ?_
          refine ge_h0 [.box 89 [.d (Sl (eN .u8) s2.1.b), I s2.1.v_at, B true]] rfl rfl (brk_st rfl) (qte_u (opu_store2 hΓ rfl rfl rfl rfl rfl rfl rfl rfl rfl)) ?_
          refine ge_fin ?_
          obtain rfl := Option.some.inj h15
          exact ⟨⟨rfl, rfl, rfl, rfl, trivial⟩, [], rfl, .inl rfl⟩
        · have h16 := cF hq13 hb
          refine go_E hΓ 13 rfl ?_
          refine ge_h0 [.box 89 [.d (Sl (eN .u8) s2.1.b), I s2.1.v_at, B (decide ((s2.1.v_at : Int) ≥ (s2.1.b.length : Int)))]] rfl rfl (brk_st rfl) (qte_u (opu_store2 hΓ rfl rfl rfl rfl rfl rfl rfl rfl rfl)) ?_
          refine ge_fin ?_
          obtain rfl := Option.some.inj h16
          exact ⟨⟨rfl, rfl, rfl, rfl, trivial⟩, [], rfl, .inl rfl⟩
      · refine go hΓ 9 rfl ?_
        refine j_cond rfl (fun hb => ?_) (fun hb => ?_)
        · have h17 := cT h14 hb
          refine go hΓ 9 rfl ?_
          obtain ⟨v18, hv18, h19⟩ := bi_ok h17
          obtain rfl := Option.some.inj h19
          obtain rfl := hout11 _ rfl
          obtain rfl := Option.some.inj h5
          refine go hΓ 4 rfl ?_
          obtain rfl := Option.some.inj hv18
          exact fin_objs hΓ [] (.inr rfl) rfl rfl rfl rfl (.inl rfl)
        · have h20 := cF h14 hb
          refine go hΓ 3 rfl ?_
          refine j_draw hmix (by kernel_rfl) ?_
          obtain ⟨x21, hx21, h22⟩ := bi_ok h20
          refine go hΓ 10 rfl ?_
          refine gl_o rfl (op_elemZ hΓ (enc := (eN .u8)) hx21 rfl rfl rfl rfl rfl (fun _ => rfl)) ?_
          refine go_draw hΓ 14 rfl ?_
          refine eo_store hΓ rfl rfl rfl rfl rfl rfl rfl rfl (Nat.le_of_ble_eq_true rfl) ?_
          refine eo_hp [.box 89 [.d (Sl (eN .u8) s2.1.b), I (wi (s2.1.v_at + 1)), B q13]] rfl ?_
          refine go_ops hΓ 7 rfl ?_
          obtain rfl := Option.some.inj h22
          exact ⟨_, rfl, ⟨⟨rfl, rfl, rfl, get_eq rfl (w64_succ (by omega)), trivial⟩, [], rfl, .inl rfl⟩⟩
    · subst hgo
      refine go hΓ 6 rfl ?_
      refine j_condF rfl (decide_eq_false hge) ?_
      refine go hΓ 4 rfl ?_
      exact ⟨_, rfl, ⟨⟨rfl, trivial⟩, [], rfl, .inl rfl⟩⟩
  · intro a6 ha
    subst ha
    replace h5 := goI_l h5
    refine go hΓ 8 rfl ?_
    obtain rfl := Option.some.inj h5
    exact fin_objs hΓ [] (.inr rfl) rfl rfl rfl rfl (.inl rfl)
theorem c_laneref1_bytesReader_text {v_r : T_laneref1_bytesReader} {n : Int} {r : Str × T_laneref1_bytesReader} (h : m_laneref1_bytesReader_text v_r n = some r) : EC Tryz.prog 120 [.ptr 0 0, I n] [.box 89 [.d (Sl (eN .u8) v_r.b), I v_r.v_at, B v_r.bad]] fun g hp' => g = S r.1 ∧ hp' = [.box 89 [.d (Sl (eN .u8) r.2.b), I r.2.v_at, B r.2.bad]] := by
  refine ec_enter (Fr.of 0 _) Tryz.func120 rfl (Fr.of_ok _) (Nat.le_of_ble_eq_true rfl) fun _ => ?_
  refine go_in ?_
  unfold m_laneref1_bytesReader_text at h
  obtain ⟨q1, hq1, h2⟩ := bi_ok h
  refine go hΓ 7 rfl ?_
  refine j_cutNZ [(0, .ptr 0 0), (1, I n)] [.box 89 [.d (Sl (eN .u8) v_r.b), I v_r.v_at, B q1]] ?_ ?_
  · refine j_drawE [.box 89 [.d (Sl (eN .u8) v_r.b), I v_r.v_at, B v_r.bad]] [4, 9, 15] [21] [21] hmix (by kernel_rfl) (by kernel_rfl) ⟨rfl, trivial⟩ (Nat.le_of_ble_eq_true rfl) ?_
    refine go_E hΓ 6 rfl ?_
    refine ge_gsplit rfl rfl (fun hb => ?_) (fun hb => ?_)
    · have h3 := cT hq1 hb
      refine go_E hΓ 15 rfl ?_
      refine ge_h0 [.box 89 [.d (Sl (eN .u8) v_r.b), I v_r.v_at, B true]] rfl rfl (brk_st rfl) (qte_u (opu_store2 hΓ rfl rfl rfl rfl rfl rfl rfl rfl rfl)) ?_
      refine ge_fin ?_
      obtain rfl := Option.some.inj h3
      exact ⟨⟨rfl, rfl, trivial⟩, [], rfl, .inl rfl⟩
    · have h4 := cF hq1 hb
      refine go_E hΓ 15 rfl ?_
      refine ge_h0 [.box 89 [.d (Sl (eN .u8) v_r.b), I v_r.v_at, B (decide ((wi (v_r.v_at + n) : Int) > (v_r.b.length : Int)))]] rfl rfl (brk_st rfl) (qte_u (opu_store2 hΓ rfl rfl rfl rfl rfl rfl rfl rfl rfl)) ?_
      refine ge_fin ?_
      obtain rfl := Option.some.inj h4
      exact ⟨⟨rfl, rfl, trivial⟩, [], rfl, .inl rfl⟩
  · refine go hΓ 9 rfl ?_
    refine j_cond rfl (fun hb => ?_) (fun hb => ?_)
    · have h5 := cT h2 hb
      refine go hΓ 7 rfl ?_
      obtain rfl := Option.some.inj h5
      exact fin_objs hΓ [] (.inr rfl) rfl rfl rfl rfl (.inl rfl)
    · have h6 := cF h2 hb
      refine go hΓ 3 rfl ?_
      refine j_draw hmix (by kernel_rfl) ?_
      obtain ⟨z7, hz7, h8⟩ := bi_ok h6
      refine go hΓ 14 rfl ?_
      refine gl_o rfl (op_subRoZ hΓ (enc := (eN .u8)) hz7 rfl rfl rfl rfl rfl rfl (fun _ => rfl)) ?_
      obtain ⟨y9, hy9, h10⟩ := bi_ok h8
      refine gl_o rfl (op_strD hΓ hy9 rfl rfl rfl rfl rfl rfl rfl) ?_
      refine go_draw hΓ 13 rfl ?_
      refine eo_store hΓ rfl rfl rfl rfl rfl rfl rfl rfl (Nat.le_of_ble_eq_true rfl) ?_
      refine eo_hp [.box 89 [.d (Sl (eN .u8) v_r.b), I (wi (v_r.v_at + n)), B q1]] rfl ?_
      refine go_ops hΓ 9 rfl ?_
      obtain rfl := Option.some.inj h10
      exact fin_objs hΓ [] (.inr rfl) rfl rfl rfl rfl (.inl rfl)
theorem c_laneref1_bytesReader_name {k : Nat} {v_r : T_laneref1_bytesReader} {r : Str × T_laneref1_bytesReader} (h : m_laneref1_bytesReader_name k v_r = some r) : EC Tryz.prog 48 [.ptr 0 0] [.box 89 [.d (Sl (eN .u8) v_r.b), I v_r.v_at, B v_r.bad]] fun g hp' => g = S r.1 ∧ hp' = [.box 89 [.d (Sl (eN .u8) r.2.b), I r.2.v_at, B r.2.bad]] := by
  induction k generalizing v_r r with
  | zero => unfold m_laneref1_bytesReader_name at h; cases h
  | succ k ih0 =>
    have ih : ∀ {v_r : T_laneref1_bytesReader} {r : Str × T_laneref1_bytesReader}, m_laneref1_bytesReader_name k v_r = some r → EC Tryz.prog 48 [.ptr 0 0] [.box 89 [.d (Sl (eN .u8) v_r.b), I v_r.v_at, B v_r.bad]] fun g hp' => g = S r.1 ∧ hp' = [.box 89 [.d (Sl (eN .u8) r.2.b), I r.2.v_at, B r.2.bad]] := by intro v_r r h; first | exact ih0 h | exact ih0 _ _ h
    refine ec_enter (Fr.of 0 _) Tryz.func48 rfl (Fr.of_ok _) (Nat.le_of_ble_eq_true rfl) fun _ => ?_
    refine go_in ?_
    unfold m_laneref1_bytesReader_name at h
    refine go hΓ 7 rfl ?_
    refine eo_nilOwn (t := 0) 9 1 rfl (Nat.le_of_ble_eq_true rfl) ?_
    refine go_ops hΓ 12 rfl ?_
    obtain ⟨q4, hq4, h5⟩ := bi_ok h
    refine j_cutEZ (R := fun a6 => q4 = .inl a6) (fun a6 => []) (fun a6 => [.box 89 [.d (Sl (eN .u8) a6.1.b), I a6.1.v_at, B a6.1.bad], .row 9 1 a6.2.length (a6.2.flatMap eS)]) ?_ ?_
    · refine go hΓ 1 rfl ?_
      refine j_loop hq4 (fun s2 => [(0, .ptr 0 0), (3, .sl 1 s2.2.length), (4, I v_r.v_at)]) (fun s2 => [.box 89 [.d (Sl (eN .u8) s2.1.b), I s2.1.v_at, B s2.1.bad], .row 9 1 s2.2.length (s2.2.flatMap eS)]) ⟨⟨rfl, rfl, rfl, trivial⟩, [], rfl, .inl rfl⟩ (fun s2 y10 hy8 hout9 => ?_)
      refine go hΓ 10 rfl ?_
      refine j_cond rfl (fun hb => ?_) (fun hb => ?_)
      · have h11 := cT hy8 hb
        obtain ⟨y12, hy12, h13⟩ := bi_ok h11
        refine go hΓ 6 rfl ?_
        refine eo_callF [0] (U y12.1) [.box 89 [.d (Sl (eN .u8) y12.2.b), I y12.2.v_at, B y12.2.bad], .row 9 1 s2.2.length (s2.2.flatMap eS)] (callable Tryz.func47 rfl rfl) (c_laneref1_bytesReader_take hy12) rfl (Nat.le_of_ble_eq_true rfl) rfl rfl rfl rfl rfl rfl rfl rfl rfl rfl ?_
        refine go_ops hΓ 14 rfl ?_
        refine j_cond rfl (fun hb => ?_) (fun hb => ?_)
        · have h14 := cT h13 hb
          refine go hΓ 3 rfl ?_
          obtain rfl := Option.some.inj h14
          exact ⟨_, rfl, ⟨⟨rfl, rfl, rfl, trivial⟩, [], rfl, .inl rfl⟩⟩
        · have h15 := cF h13 hb
          refine go hΓ 7 rfl ?_
          refine j_cond rfl (fun hb => ?_) (fun hb => ?_)
          · have h16 := cT h15 hb
            obtain ⟨y17, hy17, h18⟩ := bi_ok h16
            refine go hΓ 3 rfl ?_
            refine eo_callL (callable Tryz.func115 rfl rfl) (c_strings_Join hy17) rfl (Nat.le_of_ble_eq_true rfl) rfl rfl rfl rfl rfl ?_
            refine go_ops hΓ 6 rfl ?_
            obtain ⟨v19, hv19, h20⟩ := bi_ok h18
            obtain rfl := Option.some.inj h20
            obtain rfl := hout9 _ rfl
            obtain rfl := Option.some.inj h5
            refine go hΓ 4 rfl ?_
            obtain rfl := Option.some.inj hv19
            exact fin_objs hΓ [_] (.inr rfl) rfl rfl rfl rfl (.inr ⟨HB.mk rfl, rfl⟩)
          · have h21 := cF h15 hb
            refine go hΓ 7 rfl ?_
            refine j_cond rfl (fun hb => ?_) (fun hb => ?_)
            · have h22 := cT h21 hb
              obtain ⟨y23, hy23, h24⟩ := bi_ok h22
              refine go hΓ 4 rfl ?_
              refine eo_callF [0] (S y23.1) [.box 89 [.d (Sl (eN .u8) y23.2.b), I y23.2.v_at, B y23.2.bad], .row 9 1 s2.2.length (s2.2.flatMap eS)] (callable Tryz.func120 rfl rfl) (c_laneref1_bytesReader_text hy23) rfl (Nat.le_of_ble_eq_true rfl) rfl rfl rfl rfl rfl rfl rfl rfl rfl rfl ?_
              refine eo_litT hΓ (enc := eS) [y23.1] rfl rfl rfl rfl rfl rfl rfl rfl rfl rfl rfl rfl (Nat.le_of_ble_eq_true rfl) ?_
              obtain ⟨y25, hy25, h26⟩ := bi_ok h24
              refine eo_appendT hΓ (enc := eS) hy25 rfl rfl rfl rfl rfl rfl rfl rfl rfl (fun _ => rfl) rfl rfl rfl rfl ?_
              refine go_ops hΓ 4 rfl ?_
              obtain rfl := Option.some.inj h26
              exact ⟨_, rfl, ⟨⟨rfl, rfl, rfl, trivial⟩, [], rfl, .inl rfl⟩⟩
            · have h27 := cF h21 hb
              refine go hΓ 7 rfl ?_
              refine j_cond rfl (fun hb => ?_) (fun hb => ?_)
              · have h28 := cT h27 hb
                refine go hΓ 4 rfl ?_
                refine eo_store hΓ rfl rfl rfl rfl rfl rfl rfl rfl (Nat.le_of_ble_eq_true rfl) ?_
                refine eo_hp [.box 89 [.d (Sl (eN .u8) y12.2.b), I y12.2.v_at, B true], .row 9 1 s2.2.length (s2.2.flatMap eS)] rfl ?_
                refine go_ops hΓ 3 rfl ?_
                obtain rfl := Option.some.inj h28
                exact ⟨_, rfl, ⟨⟨rfl, rfl, rfl, trivial⟩, [], rfl, .inl rfl⟩⟩
              · have h29 := cF h27 hb
                obtain ⟨y30, hy30, h31⟩ := bi_ok h29
                refine go hΓ 6 rfl ?_
                refine eo_callF [0] (U y30.1) [.box 89 [.d (Sl (eN .u8) y30.2.b), I y30.2.v_at, B y30.2.bad], .row 9 1 s2.2.length (s2.2.flatMap eS)] (callable Tryz.func47 rfl rfl) (c_laneref1_bytesReader_take hy30) rfl (Nat.le_of_ble_eq_true rfl) rfl rfl rfl rfl rfl rfl rfl rfl rfl rfl ?_
                refine go_ops hΓ 14 rfl ?_
                refine o_cut 4 [(0, .ptr 0 0), (3, .sl 1 s2.2.length), (6, I (wi ((wi ((wi ((wi (y12.1)) - 192)) * 256)) + (wi (y30.1))))), (28, .ptr 0 0), (37, B (y30.2.bad || (decide ((wi ((wi ((wi ((wi (y12.1)) - 192)) * 256)) + (wi (y30.1))) : Int) ≥ v_r.v_at))))] [.box 89 [.d (Sl (eN .u8) y30.2.b), I y30.2.v_at, B y30.2.bad], .row 9 1 s2.2.length (s2.2.flatMap eS)] ?_ ?_
                · refine eo_gsplit rfl rfl (fun hb => ?_) (fun hb => ?_)
                  · refine go_ops hΓ 5 rfl ?_
                    exact ⟨⟨rfl, rfl, rfl, rfl, get_b rfl (or_t hb), trivial⟩, [], rfl, .inl rfl⟩
                  · refine go_ops hΓ 5 rfl ?_
                    exact ⟨⟨rfl, rfl, rfl, rfl, get_b rfl (or_f hb), trivial⟩, [], rfl, .inl rfl⟩
                · refine go_ops hΓ 2 rfl ?_
                  refine eo_store hΓ rfl rfl rfl rfl rfl rfl rfl rfl (Nat.le_of_ble_eq_true rfl) ?_
                  refine eo_hp [.box 89 [.d (Sl (eN .u8) y30.2.b), I y30.2.v_at, B (y30.2.bad || (decide ((wi ((wi ((wi ((wi (y12.1)) - 192)) * 256)) + (wi (y30.1))) : Int) ≥ v_r.v_at)))], .row 9 1 s2.2.length (s2.2.flatMap eS)] rfl ?_
                  refine go_ops hΓ 10 rfl ?_
                  refine j_cond rfl (fun hb => ?_) (fun hb => ?_)
                  · have h32 := cT h31 hb
                    refine go hΓ 9 rfl ?_
                    obtain ⟨v33, hv33, h34⟩ := bi_ok h32
                    obtain rfl := Option.some.inj h34
                    obtain rfl := hout9 _ rfl
                    obtain rfl := Option.some.inj h5
                    refine go hΓ 4 rfl ?_
                    obtain rfl := Option.some.inj hv33
                    exact fin_objs hΓ [_] (.inr rfl) rfl rfl rfl rfl (.inr ⟨HB.mk rfl, rfl⟩)
                  · have h35 := cF h31 hb
                    refine go hΓ 9 rfl ?_
                    refine eo_build hΓ (gs := [.d (Sl (eN .u8) y30.2.b), I (wi ((wi ((wi ((wi (y12.1)) - 192)) * 256)) + (wi (y30.1)))), B false]) rfl rfl rfl rfl rfl rfl rfl ?_
                    refine eo_box rfl rfl rfl rfl (Nat.le_of_ble_eq_true rfl) ?_
                    obtain ⟨y36, hy36, h37⟩ := bi_ok h35
                    refine go_ops hΓ 6 rfl ?_
                    refine eo_callF [2] (S y36.1) [.box 89 [.d (Sl (eN .u8) y30.2.b), I y30.2.v_at, B (y30.2.bad || (decide ((wi ((wi ((wi ((wi (y12.1)) - 192)) * 256)) + (wi (y30.1))) : Int) ≥ v_r.v_at)))], .row 9 1 s2.2.length (s2.2.flatMap eS), .box 89 [.d (Sl (eN .u8) y36.2.b), I y36.2.v_at, B y36.2.bad]] (callable Tryz.func48 rfl rfl) (ih hy36) rfl (Nat.le_of_ble_eq_true rfl) rfl rfl rfl rfl rfl rfl rfl rfl rfl rfl ?_
                    refine go_ops hΓ 12 rfl ?_
                    refine eo_store hΓ rfl rfl rfl rfl rfl rfl rfl rfl (Nat.le_of_ble_eq_true rfl) ?_
                    refine eo_hp [.box 89 [.d (Sl (eN .u8) y30.2.b), I y30.2.v_at, B y36.2.bad], .row 9 1 s2.2.length (s2.2.flatMap eS), .box 89 [.d (Sl (eN .u8) y36.2.b), I y36.2.v_at, B y36.2.bad]] rfl ?_
                    obtain ⟨q38, hq38, h39⟩ := bi_ok h37
                    refine go_ops hΓ 9 rfl ?_
                    refine j_cutNZ [(3, .sl 1 q38.length)] [.box 89 [.d (Sl (eN .u8) y30.2.b), I y30.2.v_at, B y36.2.bad], .row 9 1 q38.length (q38.flatMap eS), .box 89 [.d (Sl (eN .u8) y36.2.b), I y36.2.v_at, B y36.2.bad]] ?_ ?_
                    · refine j_cond rfl (fun hb => ?_) (fun hb => ?_)
                      · have h40 := cT hq38 hb
                        refine go hΓ 3 rfl ?_
                        refine eo_litT hΓ (enc := eS) [y36.1] rfl rfl rfl rfl rfl rfl rfl rfl rfl rfl rfl rfl (Nat.le_of_ble_eq_true rfl) ?_
                        obtain ⟨y41, hy41, h42⟩ := bi_ok h40
                        refine eo_appendT hΓ (enc := eS) hy41 rfl rfl rfl rfl rfl rfl rfl rfl rfl (fun _ => rfl) rfl rfl rfl rfl ?_
                        refine go_ops hΓ 2 rfl ?_
                        obtain rfl := Option.some.inj h42
                        exact ⟨⟨rfl, trivial⟩, [], rfl, .inl rfl⟩
                      · have h43 := cF hq38 hb
                        refine go hΓ 1 rfl ?_
                        obtain rfl := Option.some.inj h43
                        exact ⟨⟨rfl, trivial⟩, [], rfl, .inl rfl⟩
                    · obtain ⟨y44, hy44, h45⟩ := bi_ok h39
                      refine go hΓ 4 rfl ?_
                      refine eo_callL (callable Tryz.func115 rfl rfl) (c_strings_Join hy44) rfl (Nat.le_of_ble_eq_true rfl) rfl rfl rfl rfl rfl ?_
                      refine go_ops hΓ 6 rfl ?_
                      obtain ⟨v46, hv46, h47⟩ := bi_ok h45
                      obtain rfl := Option.some.inj h47
                      obtain rfl := hout9 _ rfl
                      obtain rfl := Option.some.inj h5
                      refine go hΓ 4 rfl ?_
                      obtain rfl := Option.some.inj hv46
                      exact fin_objs hΓ [_, _] (.inr rfl) rfl rfl rfl rfl (.inr ⟨HB.mk rfl, rfl⟩)
      · have h48 := cF hy8 hb
        refine go hΓ 4 rfl ?_
        obtain rfl := Option.some.inj h48
        obtain rfl := hout9 _ rfl
        exact ⟨_, rfl, ⟨trivial, [], rfl, .inl rfl⟩⟩
    · intro a6 ha
      subst ha
      replace h5 := orI_l h5
      refine go hΓ 7 rfl ?_
      obtain rfl := Option.some.inj h5
      exact fin_objs hΓ [_] (.inr rfl) rfl rfl rfl rfl (.inr ⟨HB.mk rfl, rfl⟩)
set_option maxHeartbeats 8000000 in
theorem c_laneref1_bytesReader_record {k : Nat} {v_r : T_laneref1_bytesReader} {r : T_api_Record × T_laneref1_bytesReader} (h : m_laneref1_bytesReader_record k v_r = some r) : EC Tryz.prog 49 [.ptr 0 0] [.box 89 [.d (Sl (eN .u8) v_r.b), I v_r.v_at, B v_r.bad]] fun g hp' => g = .agg [S r.1.Name, I r.1.Kind, B r.1.Addr.Six, U r.1.Addr.Hi, U r.1.Addr.Lo, S r.1.To, S r.1.Words, I r.1.Life] ∧ hp' = [.box 89 [.d (Sl (eN .u8) r.2.b), I r.2.v_at, B r.2.bad]] := by
  refine ec_enter (Fr.of 0 _) Tryz.func49 rfl (Fr.of_ok _) (Nat.le_of_ble_eq_true rfl) fun _ => ?_
  refine go_in ?_
  unfold m_laneref1_bytesReader_record at h
  refine go hΓ 2 rfl ?_
  refine eo_alloc hΓ rfl rfl rfl (Nat.le_of_ble_eq_true rfl) ?_
  obtain ⟨y1, hy1, h2⟩ := bi_ok h
  refine go_ops hΓ 5 rfl ?_
  refine eo_callF [0] (S y1.1) [.box 89 [.d (Sl (eN .u8) y1.2.b), I y1.2.v_at, B y1.2.bad], .box 57 [S [], I 0, B false, U 0, U 0, S [], S [], I 0]] (callable Tryz.func48 rfl rfl) (c_laneref1_bytesReader_name hy1) rfl (Nat.le_of_ble_eq_true rfl) rfl rfl rfl rfl rfl rfl rfl rfl rfl rfl ?_
  obtain ⟨y3, hy3, h4⟩ := bi_ok h2
  refine go_ops hΓ 1 rfl ?_
  refine eo_callF [0] (U y3.1) [.box 89 [.d (Sl (eN .u8) y3.2.b), I y3.2.v_at, B y3.2.bad], .box 57 [S [], I 0, B false, U 0, U 0, S [], S [], I 0]] (callable Tryz.func47 rfl rfl) (c_laneref1_bytesReader_take hy3) rfl (Nat.le_of_ble_eq_true rfl) rfl rfl rfl rfl rfl rfl rfl rfl rfl rfl ?_
  obtain ⟨y5, hy5, h6⟩ := bi_ok h4
  refine go_ops hΓ 2 rfl ?_
  refine eo_callF [0] (U y5.1) [.box 89 [.d (Sl (eN .u8) y5.2.b), I y5.2.v_at, B y5.2.bad], .box 57 [S [], I 0, B false, U 0, U 0, S [], S [], I 0]] (callable Tryz.func47 rfl rfl) (c_laneref1_bytesReader_take hy5) rfl (Nat.le_of_ble_eq_true rfl) rfl rfl rfl rfl rfl rfl rfl rfl rfl rfl ?_
  refine go_ops hΓ 1 rfl ?_
  refine eo_build hΓ (gs := [S y1.1, I (wi (y3.1)), B false, U 0, U 0, S [], S [], I (wi (y5.1))]) rfl rfl rfl rfl rfl rfl rfl ?_
  refine eo_alloc hΓ rfl rfl rfl (Nat.le_of_ble_eq_true rfl) ?_
  refine eo_store hΓ rfl rfl rfl rfl rfl rfl rfl rfl (Nat.le_of_ble_eq_true rfl) ?_
  refine eo_hp [.box 89 [.d (Sl (eN .u8) y5.2.b), I y5.2.v_at, B y5.2.bad], .box 57 [S [], I 0, B false, U 0, U 0, S [], S [], I 0], .box 57 [S y1.1, I (wi (y3.1)), B false, U 0, U 0, S [], S [], I (wi (y5.1))]] rfl ?_
  obtain ⟨q7, hq7, h8⟩ := bi_ok h6
  refine go_ops hΓ 9 rfl ?_
  refine j_cutNZ [(2, .ptr 1 0), (3, .ptr 2 0)] [.box 89 [.d (Sl (eN .u8) q7.1.b), I q7.1.v_at, B q7.1.bad], .box 57 [S [], I 0, B false, U 0, U 0, S [], S [], I 0], .box 57 [S q7.2.Name, I q7.2.Kind, B q7.2.Addr.Six, U q7.2.Addr.Hi, U q7.2.Addr.Lo, S q7.2.To, S q7.2.Words, I q7.2.Life]] ?_ ?_
  · refine go hΓ 7 rfl ?_
    refine j_cond rfl (fun hb => ?_) (fun hb => ?_)
    · have h9 := cT hq7 hb
      obtain ⟨y10, hy10, h11⟩ := bi_ok h9
      refine go hΓ 2 rfl ?_
      refine eo_callF [0] (U y10.1) [.box 89 [.d (Sl (eN .u8) y10.2.b), I y10.2.v_at, B y10.2.bad], .box 57 [S [], I 0, B false, U 0, U 0, S [], S [], I 0], .box 57 [S y1.1, I (wi (y3.1)), B false, U 0, U 0, S [], S [], I (wi (y5.1))]] (callable Tryz.func47 rfl rfl) (c_laneref1_bytesReader_take hy10) rfl (Nat.le_of_ble_eq_true rfl) rfl rfl rfl rfl rfl rfl rfl rfl rfl rfl ?_
      refine go_ops hΓ 2 rfl ?_
      refine eo_store hΓ rfl rfl rfl rfl rfl rfl rfl rfl (Nat.le_of_ble_eq_true rfl) ?_
      refine eo_hp [.box 89 [.d (Sl (eN .u8) y10.2.b), I y10.2.v_at, B y10.2.bad], .box 57 [S [], I 0, B false, U 0, U 0, S [], S [], I 0], .box 57 [S y1.1, I (wi (y3.1)), B false, U 0, U y10.1, S [], S [], I (wi (y5.1))]] rfl ?_
      refine go_ops hΓ 2 rfl ?_
      obtain rfl := Option.some.inj h11
      exact ⟨⟨rfl, rfl, trivial⟩, [], rfl, .inl rfl⟩
    · have h12 := cF hq7 hb
      refine go hΓ 6 rfl ?_
      refine j_cond rfl (fun hb => ?_) (fun hb => ?_)
      · have h13 := cT h12 hb
        refine go hΓ 4 rfl ?_
        refine eo_store hΓ rfl rfl rfl rfl rfl rfl rfl rfl (Nat.le_of_ble_eq_true rfl) ?_
        refine eo_hp [.box 89 [.d (Sl (eN .u8) y5.2.b), I y5.2.v_at, B y5.2.bad], .box 57 [S [], I 0, B false, U 0, U 0, S [], S [], I 0], .box 57 [S y1.1, I (wi (y3.1)), B true, U 0, U 0, S [], S [], I (wi (y5.1))]] rfl ?_
        obtain ⟨y14, hy14, h15⟩ := bi_ok h13
        refine go_ops hΓ 5 rfl ?_
        refine eo_callF [0] (U y14.1) [.box 89 [.d (Sl (eN .u8) y14.2.b), I y14.2.v_at, B y14.2.bad], .box 57 [S [], I 0, B false, U 0, U 0, S [], S [], I 0], .box 57 [S y1.1, I (wi (y3.1)), B true, U 0, U 0, S [], S [], I (wi (y5.1))]] (callable Tryz.func47 rfl rfl) (c_laneref1_bytesReader_take hy14) rfl (Nat.le_of_ble_eq_true rfl) rfl rfl rfl rfl rfl rfl rfl rfl rfl rfl ?_
        refine go_ops hΓ 2 rfl ?_
        refine eo_store hΓ rfl rfl rfl rfl rfl rfl rfl rfl (Nat.le_of_ble_eq_true rfl) ?_
        refine eo_hp [.box 89 [.d (Sl (eN .u8) y14.2.b), I y14.2.v_at, B y14.2.bad], .box 57 [S [], I 0, B false, U 0, U 0, S [], S [], I 0], .box 57 [S y1.1, I (wi (y3.1)), B true, U y14.1, U 0, S [], S [], I (wi (y5.1))]] rfl ?_
        obtain ⟨y16, hy16, h17⟩ := bi_ok h15
        refine go_ops hΓ 4 rfl ?_
        refine eo_callF [0] (U y16.1) [.box 89 [.d (Sl (eN .u8) y16.2.b), I y16.2.v_at, B y16.2.bad], .box 57 [S [], I 0, B false, U 0, U 0, S [], S [], I 0], .box 57 [S y1.1, I (wi (y3.1)), B true, U y14.1, U 0, S [], S [], I (wi (y5.1))]] (callable Tryz.func47 rfl rfl) (c_laneref1_bytesReader_take hy16) rfl (Nat.le_of_ble_eq_true rfl) rfl rfl rfl rfl rfl rfl rfl rfl rfl rfl ?_
        refine go_ops hΓ 2 rfl ?_
        refine eo_store hΓ rfl rfl rfl rfl rfl rfl rfl rfl (Nat.le_of_ble_eq_true rfl) ?_
        refine eo_hp [.box 89 [.d (Sl (eN .u8) y16.2.b), I y16.2.v_at, B y16.2.bad], .box 57 [S [], I 0, B false, U 0, U 0, S [], S [], I 0], .box 57 [S y1.1, I (wi (y3.1)), B true, U y14.1, U y16.1, S [], S [], I (wi (y5.1))]] rfl ?_
        refine go_ops hΓ 2 rfl ?_
        obtain rfl := Option.some.inj h17
        exact ⟨⟨rfl, rfl, trivial⟩, [], rfl, .inl rfl⟩
      · have h18 := cF h12 hb
        refine go hΓ 6 rfl ?_
        refine j_cond rfl (fun hb => ?_) (fun hb => ?_)
        · have h19 := cT h18 hb
          obtain ⟨y20, hy20, h21⟩ := bi_ok h19
          refine go hΓ 3 rfl ?_
          refine eo_callF [0] (U y20.1) [.box 89 [.d (Sl (eN .u8) y20.2.b), I y20.2.v_at, B y20.2.bad], .box 57 [S [], I 0, B false, U 0, U 0, S [], S [], I 0], .box 57 [S y1.1, I (wi (y3.1)), B false, U 0, U 0, S [], S [], I (wi (y5.1))]] (callable Tryz.func47 rfl rfl) (c_laneref1_bytesReader_take hy20) rfl (Nat.le_of_ble_eq_true rfl) rfl rfl rfl rfl rfl rfl rfl rfl rfl rfl ?_
          obtain ⟨y22, hy22, h23⟩ := bi_ok h21
          refine go_ops hΓ 1 rfl ?_
          refine eo_callF [0] (S y22.1) [.box 89 [.d (Sl (eN .u8) y22.2.b), I y22.2.v_at, B y22.2.bad], .box 57 [S [], I 0, B false, U 0, U 0, S [], S [], I 0], .box 57 [S y1.1, I (wi (y3.1)), B false, U 0, U 0, S [], S [], I (wi (y5.1))]] (callable Tryz.func120 rfl rfl) (c_laneref1_bytesReader_text hy22) rfl (Nat.le_of_ble_eq_true rfl) rfl rfl rfl rfl rfl rfl rfl rfl rfl rfl ?_
          refine go_ops hΓ 1 rfl ?_
          refine eo_store hΓ rfl rfl rfl rfl rfl rfl rfl rfl (Nat.le_of_ble_eq_true rfl) ?_
          refine eo_hp [.box 89 [.d (Sl (eN .u8) y22.2.b), I y22.2.v_at, B y22.2.bad], .box 57 [S [], I 0, B false, U 0, U 0, S [], S [], I 0], .box 57 [S y1.1, I (wi (y3.1)), B false, U 0, U 0, S [], S y22.1, I (wi (y5.1))]] rfl ?_
          refine go_ops hΓ 2 rfl ?_
          obtain rfl := Option.some.inj h23
          exact ⟨⟨rfl, rfl, trivial⟩, [], rfl, .inl rfl⟩
        · have h24 := cF h18 hb
          obtain ⟨q25, hq25, h26⟩ := bi_ok h24
          refine go hΓ 7 rfl ?_
          refine j_cutNZ [(0, .ptr 0 0), (2, .ptr 1 0), (3, .ptr 2 0), (44, B q25)] [.box 89 [.d (Sl (eN .u8) y5.2.b), I y5.2.v_at, B y5.2.bad], .box 57 [S [], I 0, B false, U 0, U 0, S [], S [], I 0], .box 57 [S y1.1, I (wi (y3.1)), B false, U 0, U 0, S [], S [], I (wi (y5.1))]] ?_ ?_
          · refine j_cond rfl (fun hb => ?_) (fun hb => ?_)
            · have h27 := cT hq25 hb
              refine go hΓ 1 rfl ?_
              obtain rfl := Option.some.inj h27
              exact ⟨⟨rfl, rfl, rfl, rfl, trivial⟩, [], rfl, .inl rfl⟩
            · have h28 := cF hq25 hb
              refine go hΓ 4 rfl ?_
              obtain rfl := Option.some.inj h28
              exact ⟨⟨rfl, rfl, rfl, rfl, trivial⟩, [], rfl, .inl rfl⟩
          · refine go hΓ 1 rfl ?_
            refine j_cond rfl (fun hb => ?_) (fun hb => ?_)
            · have h29 := cT h26 hb
              obtain ⟨y30, hy30, h31⟩ := bi_ok h29
              refine go hΓ 2 rfl ?_
              refine eo_callF [0] (S y30.1) [.box 89 [.d (Sl (eN .u8) y30.2.b), I y30.2.v_at, B y30.2.bad], .box 57 [S [], I 0, B false, U 0, U 0, S [], S [], I 0], .box 57 [S y1.1, I (wi (y3.1)), B false, U 0, U 0, S [], S [], I (wi (y5.1))]] (callable Tryz.func48 rfl rfl) (c_laneref1_bytesReader_name hy30) rfl (Nat.le_of_ble_eq_true rfl) rfl rfl rfl rfl rfl rfl rfl rfl rfl rfl ?_
              refine go_ops hΓ 1 rfl ?_
              refine eo_store hΓ rfl rfl rfl rfl rfl rfl rfl rfl (Nat.le_of_ble_eq_true rfl) ?_
              refine eo_hp [.box 89 [.d (Sl (eN .u8) y30.2.b), I y30.2.v_at, B y30.2.bad], .box 57 [S [], I 0, B false, U 0, U 0, S [], S [], I 0], .box 57 [S y1.1, I (wi (y3.1)), B false, U 0, U 0, S y30.1, S [], I (wi (y5.1))]] rfl ?_
              refine go_ops hΓ 2 rfl ?_
              obtain rfl := Option.some.inj h31
              exact ⟨⟨rfl, rfl, trivial⟩, [], rfl, .inl rfl⟩
            · have h32 := cF h26 hb
              refine go hΓ 4 rfl ?_
              refine eo_store hΓ rfl rfl rfl rfl rfl rfl rfl rfl (Nat.le_of_ble_eq_true rfl) ?_
              refine eo_hp [.box 89 [.d (Sl (eN .u8) y5.2.b), I y5.2.v_at, B true], .box 57 [S [], I 0, B false, U 0, U 0, S [], S [], I 0], .box 57 [S y1.1, I (wi (y3.1)), B false, U 0, U 0, S [], S [], I (wi (y5.1))]] rfl ?_
              refine go_ops hΓ 2 rfl ?_
              obtain rfl := Option.some.inj h32
              exact ⟨⟨rfl, rfl, trivial⟩, [], rfl, .inl rfl⟩
  · refine go hΓ 4 rfl ?_
    refine eo_store hΓ rfl rfl rfl rfl rfl rfl rfl rfl (Nat.le_of_ble_eq_true rfl) ?_
    refine eo_hp [.box 89 [.d (Sl (eN .u8) q7.1.b), I q7.1.v_at, B q7.1.bad], .box 57 [S q7.2.Name, I q7.2.Kind, B q7.2.Addr.Six, U q7.2.Addr.Hi, U q7.2.Addr.Lo, S q7.2.To, S q7.2.Words, I q7.2.Life], .box 57 [S q7.2.Name, I q7.2.Kind, B q7.2.Addr.Six, U q7.2.Addr.Hi, U q7.2.Addr.Lo, S q7.2.To, S q7.2.Words, I q7.2.Life]] rfl ?_
    refine go_ops hΓ 3 rfl ?_
    obtain rfl := Option.some.inj h8
    exact fin_objs hΓ [_, _] (.inr rfl) rfl rfl rfl rfl (.inr ⟨HB.mk rfl, rfl⟩)
theorem c_laneref1_EncodeOf {k : Nat} {m : T_api_Message} {r : (List Int) × Int} (h : m_laneref1_EncodeOf k m = some r) : Pure Tryz.prog 50 [.agg [I m.Id, B m.Reply, I m.Code, .d (Sl e_api_Question m.Asked), .d (Sl e_api_Record m.Got)]] (.tup [.d (Sl (eN .u8) r.1), I r.2]) := by
  refine Pure.enter (Fr.of 0 _) Tryz.func50 rfl (Fr.of_ok _) rfl rfl ?_
  refine go_in ?_
  unfold m_laneref1_EncodeOf at h
  refine go hΓ 2 rfl ?_
  refine eo_box rfl rfl rfl rfl (Nat.le_of_ble_eq_true rfl) ?_
  obtain ⟨y1, hy1, h2⟩ := bi_ok h
  refine go_ops hΓ 8 rfl ?_
  refine eo_callP (callable Tryz.func37 rfl rfl) (c_laneref1_MessageFault hy1) rfl (Nat.le_of_ble_eq_true rfl) rfl rfl rfl rfl rfl ?_
  refine go_ops hΓ 9 rfl ?_
  refine j_cond rfl (fun hb => ?_) (fun hb => ?_)
  · have h3 := cT h2 hb
    refine go hΓ 9 rfl ?_
    obtain rfl := Option.some.inj h3
    exact fin_pure hΓ (.inr rfl) rfl rfl
  · have h4 := cF h2 hb
    obtain ⟨y5, hy5, h6⟩ := bi_ok h4
    refine go hΓ 5 rfl ?_
    refine eo_callP (callable Tryz.func38 rfl rfl) (Pure.rows (c_laneref1_MessageBytes hy5) rfl rfl) rfl (Nat.le_of_ble_eq_true rfl) rfl rfl rfl rfl rfl ?_
    refine go_ops hΓ 11 rfl ?_
    refine j_cond rfl (fun hb => ?_) (fun hb => ?_)
    · have h7 := cT h6 hb
      refine go hΓ 8 rfl ?_
      obtain rfl := Option.some.inj h7
      exact fin_pure hΓ (.inr rfl) rfl rfl
    · have h8 := cF h6 hb
      refine go hΓ 10 rfl ?_
      obtain rfl := Option.some.inj h8
      exact fin_pure hΓ (.inr rfl) rfl rfl
set_option maxHeartbeats 8000000 in
theorem c_laneref1_DecodeOf {k : Nat} {b : List Int} {r : T_api_Message × Int} (h : m_laneref1_DecodeOf k b = some r) : Pure Tryz.prog 8 [.d (Sl (eN .u8) b)] (.tup [.agg [I r.1.Id, B r.1.Reply, I r.1.Code, .d (Sl e_api_Question r.1.Asked), .d (Sl e_api_Record r.1.Got)], I r.2]) := by
  refine Pure.enter (Fr.of 0 _) Tryz.func8 rfl (Fr.of_ok _) rfl rfl ?_
  refine go_in ?_
  unfold m_laneref1_DecodeOf at h
  refine go hΓ 2 rfl ?_
  refine eo_alloc hΓ rfl rfl rfl (Nat.le_of_ble_eq_true rfl) ?_
  refine go_ops hΓ 11 rfl ?_
  refine j_cond rfl (fun hb => ?_) (fun hb => ?_)
  · have h1 := cT h hb
    refine go hΓ 2 rfl ?_
    refine eo_s (Nat.le_of_ble_eq_true rfl) (nblt.1 rfl) (ops_nilAt 57 8 4 (ops_nilAt 82 2 3 (OpP.s (op_buildX hΓ [3, 4] (gs := [I 0, B false, I 0, .d (.v (.slice none 0 0)), .d (.v (.slice none 0 0))]) rfl rfl rfl rfl rfl rfl)) rfl) rfl) ?_
    refine eo_shr 1 [15] _ [.box 31 [I 0, B false, I 0, .d (Sl e_api_Question []), .d (Sl e_api_Record [])], .dead, .row 57 8 ([] : List T_api_Record).length (([] : List T_api_Record).flatMap e_api_Record)] rfl rfl rfl (Nat.le_of_ble_eq_true rfl) ?_
    refine eo_shr 2 [15] _ [.box 31 [I 0, B false, I 0, .d (Sl e_api_Question []), .d (Sl e_api_Record [])], .dead, .dead] rfl rfl rfl (Nat.le_of_ble_eq_true rfl) ?_
    refine eo_store hΓ rfl rfl rfl rfl rfl rfl rfl rfl (Nat.le_of_ble_eq_true rfl) ?_
    refine eo_hp [.box 31 [I 0, B false, I 0, .d (Sl e_api_Question ([] : List T_api_Question)), .d (Sl e_api_Record ([] : List T_api_Record))], .dead, .dead] rfl ?_
    refine go_ops hΓ 5 rfl ?_
    obtain rfl := Option.some.inj h1
    exact fin_pure hΓ (.inr rfl) rfl rfl
  · have h2 := cF h hb
    refine go hΓ 5 rfl ?_
    refine eo_build hΓ (gs := [.d (Sl (eN .u8) b), I 0, B false]) rfl rfl rfl rfl rfl rfl rfl ?_
    refine eo_box rfl rfl rfl rfl (Nat.le_of_ble_eq_true rfl) ?_
    obtain ⟨y3, hy3, h4⟩ := bi_ok h2
    refine go_ops hΓ 6 rfl ?_
    refine eo_callF [1] (U y3.1) [.box 31 [I 0, B false, I 0, .d (Sl e_api_Question []), .d (Sl e_api_Record [])], .box 89 [.d (Sl (eN .u8) y3.2.b), I y3.2.v_at, B y3.2.bad]] (callable Tryz.func47 rfl rfl) (c_laneref1_bytesReader_take hy3) rfl (Nat.le_of_ble_eq_true rfl) rfl rfl rfl rfl rfl rfl rfl rfl rfl rfl ?_
    refine go_ops hΓ 1 rfl ?_
    refine eo_s (Nat.le_of_ble_eq_true rfl) (nblt.1 rfl) (ops_nilAt 57 8 4 (ops_nilAt 82 2 3 (OpP.s (op_buildX hΓ [3, 4] (gs := [I (wi (y3.1)), B false, I 0, .d (.v (.slice none 0 0)), .d (.v (.slice none 0 0))]) rfl rfl rfl rfl rfl rfl)) rfl) rfl) ?_
    refine eo_alloc hΓ rfl rfl rfl (Nat.le_of_ble_eq_true rfl) ?_
    refine eo_store hΓ rfl rfl rfl rfl rfl rfl rfl rfl (Nat.le_of_ble_eq_true rfl) ?_
    refine eo_hp [.box 31 [I 0, B false, I 0, .d (Sl e_api_Question []), .d (Sl e_api_Record [])], .box 89 [.d (Sl (eN .u8) y3.2.b), I y3.2.v_at, B y3.2.bad], .row 82 2 ([] : List T_api_Question).length (([] : List T_api_Question).flatMap e_api_Question), .row 57 8 ([] : List T_api_Record).length (([] : List T_api_Record).flatMap e_api_Record), .box 31 [I (wi (y3.1)), B false, I 0, .sl 2 ([] : List T_api_Question).length, .sl 3 ([] : List T_api_Record).length]] rfl ?_
    obtain ⟨y5, hy5, h6⟩ := bi_ok h4
    refine go_ops hΓ 5 rfl ?_
    refine eo_callF [1] (U y5.1) [.box 31 [I 0, B false, I 0, .d (Sl e_api_Question []), .d (Sl e_api_Record [])], .box 89 [.d (Sl (eN .u8) y5.2.b), I y5.2.v_at, B y5.2.bad], .row 82 2 ([] : List T_api_Question).length (([] : List T_api_Question).flatMap e_api_Question), .row 57 8 ([] : List T_api_Record).length (([] : List T_api_Record).flatMap e_api_Record), .box 31 [I (wi (y3.1)), B false, I 0, .sl 2 ([] : List T_api_Question).length, .sl 3 ([] : List T_api_Record).length]] (callable Tryz.func47 rfl rfl) (c_laneref1_bytesReader_take hy5) rfl (Nat.le_of_ble_eq_true rfl) rfl rfl rfl rfl rfl rfl rfl rfl rfl rfl ?_
    refine go_ops hΓ 8 rfl ?_
    refine eo_store hΓ rfl rfl rfl rfl rfl rfl rfl rfl (Nat.le_of_ble_eq_true rfl) ?_
    refine eo_hp [.box 31 [I 0, B false, I 0, .d (Sl e_api_Question []), .d (Sl e_api_Record [])], .box 89 [.d (Sl (eN .u8) y5.2.b), I y5.2.v_at, B y5.2.bad], .row 82 2 ([] : List T_api_Question).length (([] : List T_api_Question).flatMap e_api_Question), .row 57 8 ([] : List T_api_Record).length (([] : List T_api_Record).flatMap e_api_Record), .box 31 [I (wi (y3.1)), B ((y5.1 : Int) == 128), I 0, .sl 2 ([] : List T_api_Question).length, .sl 3 ([] : List T_api_Record).length]] rfl ?_
    obtain ⟨y7, hy7, h8⟩ := bi_ok h6
    refine go_ops hΓ 5 rfl ?_
    refine eo_callF [1] (U y7.1) [.box 31 [I 0, B false, I 0, .d (Sl e_api_Question []), .d (Sl e_api_Record [])], .box 89 [.d (Sl (eN .u8) y7.2.b), I y7.2.v_at, B y7.2.bad], .row 82 2 ([] : List T_api_Question).length (([] : List T_api_Question).flatMap e_api_Question), .row 57 8 ([] : List T_api_Record).length (([] : List T_api_Record).flatMap e_api_Record), .box 31 [I (wi (y3.1)), B ((y5.1 : Int) == 128), I 0, .sl 2 ([] : List T_api_Question).length, .sl 3 ([] : List T_api_Record).length]] (callable Tryz.func47 rfl rfl) (c_laneref1_bytesReader_take hy7) rfl (Nat.le_of_ble_eq_true rfl) rfl rfl rfl rfl rfl rfl rfl rfl rfl rfl ?_
    refine go_ops hΓ 2 rfl ?_
    refine eo_store hΓ rfl rfl rfl rfl rfl rfl rfl rfl (Nat.le_of_ble_eq_true rfl) ?_
    refine eo_hp [.box 31 [I 0, B false, I 0, .d (Sl e_api_Question []), .d (Sl e_api_Record [])], .box 89 [.d (Sl (eN .u8) y7.2.b), I y7.2.v_at, B y7.2.bad], .row 82 2 ([] : List T_api_Question).length (([] : List T_api_Question).flatMap e_api_Question), .row 57 8 ([] : List T_api_Record).length (([] : List T_api_Record).flatMap e_api_Record), .box 31 [I (wi (y3.1)), B ((y5.1 : Int) == 128), I (wi (y7.1)), .sl 2 ([] : List T_api_Question).length, .sl 3 ([] : List T_api_Record).length]] rfl ?_
    obtain ⟨y9, hy9, h10⟩ := bi_ok h8
    refine go_ops hΓ 5 rfl ?_
    refine eo_callF [1] (U y9.1) [.box 31 [I 0, B false, I 0, .d (Sl e_api_Question []), .d (Sl e_api_Record [])], .box 89 [.d (Sl (eN .u8) y9.2.b), I y9.2.v_at, B y9.2.bad], .row 82 2 ([] : List T_api_Question).length (([] : List T_api_Question).flatMap e_api_Question), .row 57 8 ([] : List T_api_Record).length (([] : List T_api_Record).flatMap e_api_Record), .box 31 [I (wi (y3.1)), B ((y5.1 : Int) == 128), I (wi (y7.1)), .sl 2 ([] : List T_api_Question).length, .sl 3 ([] : List T_api_Record).length]] (callable Tryz.func47 rfl rfl) (c_laneref1_bytesReader_take hy9) rfl (Nat.le_of_ble_eq_true rfl) rfl rfl rfl rfl rfl rfl rfl rfl rfl rfl ?_
    obtain ⟨y11, hy11, h12⟩ := bi_ok h10
    refine go_ops hΓ 7 rfl ?_
    refine eo_callF [1] (U y11.1) [.box 31 [I 0, B false, I 0, .d (Sl e_api_Question []), .d (Sl e_api_Record [])], .box 89 [.d (Sl (eN .u8) y11.2.b), I y11.2.v_at, B y11.2.bad], .row 82 2 ([] : List T_api_Question).length (([] : List T_api_Question).flatMap e_api_Question), .row 57 8 ([] : List T_api_Record).length (([] : List T_api_Record).flatMap e_api_Record), .box 31 [I (wi (y3.1)), B ((y5.1 : Int) == 128), I (wi (y7.1)), .sl 2 ([] : List T_api_Question).length, .sl 3 ([] : List T_api_Record).length]] (callable Tryz.func47 rfl rfl) (c_laneref1_bytesReader_take hy11) rfl (Nat.le_of_ble_eq_true rfl) rfl rfl rfl rfl rfl rfl rfl rfl rfl rfl ?_
    refine go_ops hΓ 12 rfl ?_
    refine o_cut 7 [(0, .d (Sl (eN .u8) b)), (2, .ptr 0 0), (4, .ptr 1 0), (5, .ptr 4 0), (7, I (wi (y9.1))), (8, I (wi (y11.1))), (49, B (y11.2.bad || (((y5.1 : Int) != 0) && ((y5.1 : Int) != 128))))] [.box 31 [I 0, B false, I 0, .d (Sl e_api_Question []), .d (Sl e_api_Record [])], .box 89 [.d (Sl (eN .u8) y11.2.b), I y11.2.v_at, B y11.2.bad], .row 82 2 ([] : List T_api_Question).length (([] : List T_api_Question).flatMap e_api_Question), .row 57 8 ([] : List T_api_Record).length (([] : List T_api_Record).flatMap e_api_Record), .box 31 [I (wi (y3.1)), B ((y5.1 : Int) == 128), I (wi (y7.1)), .sl 2 ([] : List T_api_Question).length, .sl 3 ([] : List T_api_Record).length]] ?_ ?_
    · refine eo_gsplit rfl rfl (fun hb => ?_) (fun hb => ?_)
      · refine go_ops hΓ 8 rfl ?_
        exact ⟨⟨rfl, rfl, rfl, rfl, rfl, rfl, get_b rfl (or_t hb), trivial⟩, [], rfl, .inl rfl⟩
      · refine go_ops hΓ 3 rfl ?_
        refine o_cut 3 [(0, .d (Sl (eN .u8) b)), (2, .ptr 0 0), (4, .ptr 1 0), (5, .ptr 4 0), (7, I (wi (y9.1))), (8, I (wi (y11.1))), (42, B false), (48, B (((y5.1 : Int) != 0) && ((y5.1 : Int) != 128)))] [.box 31 [I 0, B false, I 0, .d (Sl e_api_Question []), .d (Sl e_api_Record [])], .box 89 [.d (Sl (eN .u8) y11.2.b), I y11.2.v_at, B y11.2.bad], .row 82 2 ([] : List T_api_Question).length (([] : List T_api_Question).flatMap e_api_Question), .row 57 8 ([] : List T_api_Record).length (([] : List T_api_Record).flatMap e_api_Record), .box 31 [I (wi (y3.1)), B ((y5.1 : Int) == 128), I (wi (y7.1)), .sl 2 ([] : List T_api_Question).length, .sl 3 ([] : List T_api_Record).length]] ?_ ?_
        · refine eo_gsplit rfl rfl (fun hb => ?_) (fun hb => ?_)
          · refine go_ops hΓ 4 rfl ?_
            exact ⟨⟨rfl, rfl, rfl, rfl, rfl, rfl, rfl, get_b rfl (and_t hb), trivial⟩, [], rfl, .inl rfl⟩
          · refine go_ops hΓ 4 rfl ?_
            exact ⟨⟨rfl, rfl, rfl, rfl, rfl, rfl, rfl, get_b rfl (and_f hb), trivial⟩, [], rfl, .inl rfl⟩
        · refine go_ops hΓ 2 rfl ?_
          exact ⟨⟨rfl, rfl, rfl, rfl, rfl, rfl, get_b rfl (or_f hb), trivial⟩, [], rfl, .inl rfl⟩
    · refine go_ops hΓ 2 rfl ?_
      refine j_cond rfl (fun hb => ?_) (fun hb => ?_)
      · have h13 := cT h12 hb
        refine go hΓ 2 rfl ?_
        refine eo_s (Nat.le_of_ble_eq_true rfl) (nblt.1 rfl) (ops_nilAt 57 8 4 (ops_nilAt 82 2 3 (OpP.s (op_buildX hΓ [3, 4] (gs := [I 0, B false, I 0, .d (.v (.slice none 0 0)), .d (.v (.slice none 0 0))]) rfl rfl rfl rfl rfl rfl)) rfl) rfl) ?_
        refine eo_shr 5 [50] _ [.box 31 [I 0, B false, I 0, .d (Sl e_api_Question []), .d (Sl e_api_Record [])], .box 89 [.d (Sl (eN .u8) y11.2.b), I y11.2.v_at, B y11.2.bad], .row 82 2 ([] : List T_api_Question).length (([] : List T_api_Question).flatMap e_api_Question), .row 57 8 ([] : List T_api_Record).length (([] : List T_api_Record).flatMap e_api_Record), .box 31 [I (wi (y3.1)), B ((y5.1 : Int) == 128), I (wi (y7.1)), .sl 2 ([] : List T_api_Question).length, .sl 3 ([] : List T_api_Record).length], .dead, .row 57 8 ([] : List T_api_Record).length (([] : List T_api_Record).flatMap e_api_Record)] rfl rfl rfl (Nat.le_of_ble_eq_true rfl) ?_
        refine eo_shr 6 [50] _ [.box 31 [I 0, B false, I 0, .d (Sl e_api_Question []), .d (Sl e_api_Record [])], .box 89 [.d (Sl (eN .u8) y11.2.b), I y11.2.v_at, B y11.2.bad], .row 82 2 ([] : List T_api_Question).length (([] : List T_api_Question).flatMap e_api_Question), .row 57 8 ([] : List T_api_Record).length (([] : List T_api_Record).flatMap e_api_Record), .box 31 [I (wi (y3.1)), B ((y5.1 : Int) == 128), I (wi (y7.1)), .sl 2 ([] : List T_api_Question).length, .sl 3 ([] : List T_api_Record).length], .dead, .dead] rfl rfl rfl (Nat.le_of_ble_eq_true rfl) ?_
        refine eo_store hΓ rfl rfl rfl rfl rfl rfl rfl rfl (Nat.le_of_ble_eq_true rfl) ?_
        refine eo_hp [.box 31 [I 0, B false, I 0, .d (Sl e_api_Question ([] : List T_api_Question)), .d (Sl e_api_Record ([] : List T_api_Record))], .box 89 [.d (Sl (eN .u8) y11.2.b), I y11.2.v_at, B y11.2.bad], .row 82 2 ([] : List T_api_Question).length (([] : List T_api_Question).flatMap e_api_Question), .row 57 8 ([] : List T_api_Record).length (([] : List T_api_Record).flatMap e_api_Record), .box 31 [I (wi (y3.1)), B ((y5.1 : Int) == 128), I (wi (y7.1)), .sl 2 ([] : List T_api_Question).length, .sl 3 ([] : List T_api_Record).length], .dead, .dead] rfl ?_
        refine go_ops hΓ 5 rfl ?_
        obtain rfl := Option.some.inj h13
        exact fin_pure hΓ (.inr rfl) rfl rfl
      · have h14 := cF h12 hb
        refine go hΓ 9 rfl ?_
        obtain ⟨q18, hq18, h19⟩ := bi_ok h14
        obtain ⟨hb21, h22⟩ := gd_ok hq18
        replace hb21 := of_decide_eq_true hb21
        refine j_cutNZ [(0, .d (Sl (eN .u8) b)), (2, .ptr 0 0), (4, .ptr 1 0), (5, .ptr 4 0), (8, I (wi (y11.1)))] [.box 31 [I 0, B false, I 0, .d (Sl e_api_Question []), .d (Sl e_api_Record [])], .box 89 [.d (Sl (eN .u8) q18.1.b), I q18.1.v_at, B q18.1.bad], .row 82 2 q18.2.length (q18.2.flatMap e_api_Question), .row 57 8 ([] : List T_api_Record).length (([] : List T_api_Record).flatMap e_api_Record), .box 31 [I (wi (y3.1)), B ((y5.1 : Int) == 128), I (wi (y7.1)), .sl 2 q18.2.length, .sl 3 ([] : List T_api_Record).length]] ?_ ?_
        · refine go hΓ 1 rfl ?_
          refine j_rangeG h22 (fun i15 s16 => [(0, .d (Sl (eN .u8) b)), (2, .ptr 0 0), (4, .ptr 1 0), (5, .ptr 4 0), (8, I (wi (y11.1))), (51, I (wi (y9.1))), (52, I (i15 : Int))]) (fun s16 => [.box 31 [I 0, B false, I 0, .d (Sl e_api_Question []), .d (Sl e_api_Record [])], .box 89 [.d (Sl (eN .u8) s16.1.b), I s16.1.v_at, B s16.1.bad], .row 82 2 s16.2.length (s16.2.flatMap e_api_Question), .row 57 8 ([] : List T_api_Record).length (([] : List T_api_Record).flatMap e_api_Record), .box 31 [I (wi (y3.1)), B ((y5.1 : Int) == 128), I (wi (y7.1)), .sl 2 s16.2.length, .sl 3 ([] : List T_api_Record).length]]) ⟨⟨rfl, rfl, rfl, rfl, rfl, rfl, rfl, trivial⟩, [], rfl, .inl rfl⟩ (fun i15 s16 y26 hlt hy24 => ?_) (fun hge => ?_)
          · refine go hΓ 6 rfl ?_
            refine j_condT rfl (decide_eq_true hlt) ?_
            obtain ⟨y27, hy27, h28⟩ := bi_ok hy24
            refine go hΓ 7 rfl ?_
            refine eo_callF [1] (S y27.1) [.box 31 [I 0, B false, I 0, .d (Sl e_api_Question []), .d (Sl e_api_Record [])], .box 89 [.d (Sl (eN .u8) y27.2.b), I y27.2.v_at, B y27.2.bad], .row 82 2 s16.2.length (s16.2.flatMap e_api_Question), .row 57 8 ([] : List T_api_Record).length (([] : List T_api_Record).flatMap e_api_Record), .box 31 [I (wi (y3.1)), B ((y5.1 : Int) == 128), I (wi (y7.1)), .sl 2 s16.2.length, .sl 3 ([] : List T_api_Record).length]] (callable Tryz.func48 rfl rfl) (c_laneref1_bytesReader_name hy27) rfl (Nat.le_of_ble_eq_true rfl) rfl rfl rfl rfl rfl rfl rfl rfl rfl rfl ?_
            refine eo_build hΓ (gs := [S y27.1, I 0]) rfl rfl rfl rfl rfl rfl rfl ?_
            refine eo_alloc hΓ rfl rfl rfl (Nat.le_of_ble_eq_true rfl) ?_
            refine eo_store hΓ rfl rfl rfl rfl rfl rfl rfl rfl (Nat.le_of_ble_eq_true rfl) ?_
            refine eo_hp [.box 31 [I 0, B false, I 0, .d (Sl e_api_Question []), .d (Sl e_api_Record [])], .box 89 [.d (Sl (eN .u8) y27.2.b), I y27.2.v_at, B y27.2.bad], .row 82 2 s16.2.length (s16.2.flatMap e_api_Question), .row 57 8 ([] : List T_api_Record).length (([] : List T_api_Record).flatMap e_api_Record), .box 31 [I (wi (y3.1)), B ((y5.1 : Int) == 128), I (wi (y7.1)), .sl 2 s16.2.length, .sl 3 ([] : List T_api_Record).length], .box 82 [S y27.1, I 0]] rfl ?_
            obtain ⟨y29, hy29, h30⟩ := bi_ok h28
            refine go_ops hΓ 5 rfl ?_
            refine eo_callF [1] (U y29.1) [.box 31 [I 0, B false, I 0, .d (Sl e_api_Question []), .d (Sl e_api_Record [])], .box 89 [.d (Sl (eN .u8) y29.2.b), I y29.2.v_at, B y29.2.bad], .row 82 2 s16.2.length (s16.2.flatMap e_api_Question), .row 57 8 ([] : List T_api_Record).length (([] : List T_api_Record).flatMap e_api_Record), .box 31 [I (wi (y3.1)), B ((y5.1 : Int) == 128), I (wi (y7.1)), .sl 2 s16.2.length, .sl 3 ([] : List T_api_Record).length], .box 82 [S y27.1, I 0]] (callable Tryz.func47 rfl rfl) (c_laneref1_bytesReader_take hy29) rfl (Nat.le_of_ble_eq_true rfl) rfl rfl rfl rfl rfl rfl rfl rfl rfl rfl ?_
            refine go_ops hΓ 2 rfl ?_
            refine eo_store hΓ rfl rfl rfl rfl rfl rfl rfl rfl (Nat.le_of_ble_eq_true rfl) ?_
            refine eo_hp [.box 31 [I 0, B false, I 0, .d (Sl e_api_Question []), .d (Sl e_api_Record [])], .box 89 [.d (Sl (eN .u8) y29.2.b), I y29.2.v_at, B y29.2.bad], .row 82 2 s16.2.length (s16.2.flatMap e_api_Question), .row 57 8 ([] : List T_api_Record).length (([] : List T_api_Record).flatMap e_api_Record), .box 31 [I (wi (y3.1)), B ((y5.1 : Int) == 128), I (wi (y7.1)), .sl 2 s16.2.length, .sl 3 ([] : List T_api_Record).length], .box 82 [S y27.1, I (wi (y29.1))]] rfl ?_
            refine go_ops hΓ 6 rfl ?_
            refine eo_litT hΓ (enc := e_api_Question) [(⟨y27.1, wi (y29.1)⟩ : T_api_Question)] rfl rfl rfl rfl rfl rfl rfl rfl rfl rfl rfl rfl (Nat.le_of_ble_eq_true rfl) ?_
            obtain ⟨y31, hy31, h32⟩ := bi_ok h30
            refine eo_forg 2 [.box 31 [I 0, B false, I 0, .d (Sl e_api_Question []), .d (Sl e_api_Record [])], .box 89 [.d (Sl (eN .u8) y29.2.b), I y29.2.v_at, B y29.2.bad], .row 82 2 s16.2.length (s16.2.flatMap e_api_Question), .row 57 8 ([] : List T_api_Record).length (([] : List T_api_Record).flatMap e_api_Record), .box 31 [I (wi (y3.1)), B ((y5.1 : Int) == 128), I (wi (y7.1)), .junk, .sl 3 ([] : List T_api_Record).length], .box 82 [S y27.1, I (wi (y29.1))]] rfl (Nat.le_of_ble_eq_true rfl) ?_
            refine eo_appendT hΓ (enc := e_api_Question) hy31 rfl rfl rfl rfl rfl rfl rfl rfl rfl (fun _ => rfl) rfl rfl rfl rfl ?_
            refine go_ops hΓ 1 rfl ?_
            refine eo_store hΓ rfl rfl rfl rfl rfl rfl rfl rfl (Nat.le_of_ble_eq_true rfl) ?_
            refine eo_hp [.box 31 [I 0, B false, I 0, .d (Sl e_api_Question []), .d (Sl e_api_Record [])], .box 89 [.d (Sl (eN .u8) y29.2.b), I y29.2.v_at, B y29.2.bad], .row 82 2 y31.length (y31.flatMap e_api_Question), .row 57 8 ([] : List T_api_Record).length (([] : List T_api_Record).flatMap e_api_Record), .box 31 [I (wi (y3.1)), B ((y5.1 : Int) == 128), I (wi (y7.1)), .sl 2 y31.length, .sl 3 ([] : List T_api_Record).length], .box 82 [S y27.1, I (wi (y29.1))]] rfl ?_
            refine go_ops hΓ 7 rfl ?_
            obtain rfl := Option.some.inj h32
            exact ⟨⟨rfl, rfl, rfl, rfl, rfl, rfl, get_eq rfl (w64_succ (by omega)), trivial⟩, [_], rfl, .inr ⟨HB.mk rfl, FB.mk rfl, (Nat.le_of_ble_eq_true rfl)⟩⟩
          · refine go hΓ 6 rfl ?_
            refine j_condF rfl (decide_eq_false hge) ?_
            refine go hΓ 4 rfl ?_
            exact ⟨⟨rfl, rfl, rfl, rfl, rfl, trivial⟩, [], rfl, .inl rfl⟩
        · refine go hΓ 8 rfl ?_
          obtain ⟨q36, hq36, h37⟩ := bi_ok h19
          obtain ⟨hb39, h40⟩ := gd_ok hq36
          replace hb39 := of_decide_eq_true hb39
          refine j_cutNZ [(0, .d (Sl (eN .u8) b)), (2, .ptr 0 0), (4, .ptr 1 0), (5, .ptr 4 0)] [.box 31 [I 0, B false, I 0, .d (Sl e_api_Question []), .d (Sl e_api_Record [])], .box 89 [.d (Sl (eN .u8) q36.1.b), I q36.1.v_at, B q36.1.bad], .row 82 2 q18.2.length (q18.2.flatMap e_api_Question), .row 57 8 q36.2.length (q36.2.flatMap e_api_Record), .box 31 [I (wi (y3.1)), B ((y5.1 : Int) == 128), I (wi (y7.1)), .sl 2 q18.2.length, .sl 3 q36.2.length]] ?_ ?_
          · refine go hΓ 1 rfl ?_
            refine j_rangeG h40 (fun i33 s34 => [(0, .d (Sl (eN .u8) b)), (2, .ptr 0 0), (4, .ptr 1 0), (5, .ptr 4 0), (68, I (wi (y11.1))), (69, I (i33 : Int))]) (fun s34 => [.box 31 [I 0, B false, I 0, .d (Sl e_api_Question []), .d (Sl e_api_Record [])], .box 89 [.d (Sl (eN .u8) s34.1.b), I s34.1.v_at, B s34.1.bad], .row 82 2 q18.2.length (q18.2.flatMap e_api_Question), .row 57 8 s34.2.length (s34.2.flatMap e_api_Record), .box 31 [I (wi (y3.1)), B ((y5.1 : Int) == 128), I (wi (y7.1)), .sl 2 q18.2.length, .sl 3 s34.2.length]]) ⟨⟨rfl, rfl, rfl, rfl, rfl, rfl, trivial⟩, [], rfl, .inl rfl⟩ (fun i33 s34 y44 hlt hy42 => ?_) (fun hge => ?_)
            · refine go hΓ 6 rfl ?_
              refine j_condT rfl (decide_eq_true hlt) ?_
              refine go hΓ 4 rfl ?_
              refine j_drawE [.dead, .dead, .dead, .dead, .box 31 [I (wi (y3.1)), B ((y5.1 : Int) == 128), I (wi (y7.1)), .sl 2 q18.2.length, .sl 3 s34.2.length]] [1] [3, 5, 7] [5, 7] hmix (by kernel_rfl) (by kernel_rfl) ⟨rfl, trivial⟩ (Nat.le_of_ble_eq_true rfl) ?_
              obtain ⟨y45, hy45, h46⟩ := bi_ok hy42
              refine go_E hΓ 3 rfl ?_
              refine ge_h [.box 31 [I 0, B false, I 0, .d (Sl e_api_Question []), .d (Sl e_api_Record [])], .box 89 [.d (Sl (eN .u8) y45.2.b), I y45.2.v_at, B y45.2.bad], .row 82 2 q18.2.length (q18.2.flatMap e_api_Question), .row 57 8 s34.2.length (s34.2.flatMap e_api_Record), .box 31 [I (wi (y3.1)), B ((y5.1 : Int) == 128), I (wi (y7.1)), .sl 2 q18.2.length, .sl 3 s34.2.length]] rfl rfl rfl (st_st ⟨rfl, trivial⟩) (qte_callF [1] (.agg [S y45.1.Name, I y45.1.Kind, B y45.1.Addr.Six, U y45.1.Addr.Hi, U y45.1.Addr.Lo, S y45.1.To, S y45.1.Words, I y45.1.Life]) [.box 31 [I 0, B false, I 0, .d (Sl e_api_Question []), .d (Sl e_api_Record [])], .box 89 [.d (Sl (eN .u8) y45.2.b), I y45.2.v_at, B y45.2.bad], .row 82 2 q18.2.length (q18.2.flatMap e_api_Question), .row 57 8 s34.2.length (s34.2.flatMap e_api_Record), .box 31 [I (wi (y3.1)), B ((y5.1 : Int) == 128), I (wi (y7.1)), .sl 2 q18.2.length, .sl 3 s34.2.length]] (callable Tryz.func49 rfl rfl) (c_laneref1_bytesReader_record hy45) rfl rfl rfl rfl rfl rfl rfl rfl rfl rfl) ?_
              refine ge_litT hΓ (enc := e_api_Record) [y45.1] rfl rfl rfl rfl rfl rfl rfl rfl rfl rfl rfl rfl ?_
              obtain ⟨y47, hy47, h48⟩ := bi_ok h46
              refine ge_h [.box 31 [I 0, B false, I 0, .d (Sl e_api_Question []), .d (Sl e_api_Record [])], .box 89 [.d (Sl (eN .u8) y45.2.b), I y45.2.v_at, B y45.2.bad], .row 82 2 q18.2.length (q18.2.flatMap e_api_Question), .dead, .box 31 [I (wi (y3.1)), B ((y5.1 : Int) == 128), I (wi (y7.1)), .sl 2 q18.2.length, .junk], .row 57 8 y47.length (y47.flatMap e_api_Record)] rfl rfl rfl (brk_st rfl) (qte_s (ops_forg 3 (ops_appendT hΓ (enc := e_api_Record) (id := 3) (h2 := show Γ 57 = some ⟨_, 8, _, _⟩ from rfl) hy47 rfl rfl rfl rfl rfl rfl rfl rfl (fun _ => rfl) rfl))) ?_
              refine go_E hΓ 1 rfl ?_
              refine ge_h0 [.box 31 [I 0, B false, I 0, .d (Sl e_api_Question []), .d (Sl e_api_Record [])], .box 89 [.d (Sl (eN .u8) y45.2.b), I y45.2.v_at, B y45.2.bad], .row 82 2 q18.2.length (q18.2.flatMap e_api_Question), .dead, .box 31 [I (wi (y3.1)), B ((y5.1 : Int) == 128), I (wi (y7.1)), .sl 2 q18.2.length, .sl 5 y47.length], .row 57 8 y47.length (y47.flatMap e_api_Record)] rfl rfl (brk_st rfl) (qte_u (opu_store2 hΓ rfl rfl rfl rfl rfl rfl rfl rfl rfl)) ?_
              refine ge_fin ?_
              refine go hΓ 2 rfl ?_
              refine j_move 5 3 [.box 31 [I 0, B false, I 0, .d (Sl e_api_Question []), .d (Sl e_api_Record [])], .box 89 [.d (Sl (eN .u8) y45.2.b), I y45.2.v_at, B y45.2.bad], .row 82 2 q18.2.length (q18.2.flatMap e_api_Question), .row 57 8 y47.length (y47.flatMap e_api_Record), .box 31 [I (wi (y3.1)), B ((y5.1 : Int) == 128), I (wi (y7.1)), .sl 2 q18.2.length, .sl 3 y47.length], .dead] rfl rfl rfl rfl rfl rfl ?_
              refine go hΓ 4 rfl ?_
              obtain rfl := Option.some.inj h48
              exact ⟨⟨rfl, rfl, rfl, rfl, rfl, get_eq rfl (w64_succ (by omega)), trivial⟩, [_], rfl, .inr ⟨HB.mk rfl, FB.mk rfl, (Nat.le_of_ble_eq_true rfl)⟩⟩
            · refine go hΓ 6 rfl ?_
              refine j_condF rfl (decide_eq_false hge) ?_
              refine go hΓ 4 rfl ?_
              exact ⟨⟨rfl, rfl, rfl, rfl, trivial⟩, [], rfl, .inl rfl⟩
          · refine go hΓ 9 rfl ?_
            refine o_cut 8 [(0, .d (Sl (eN .u8) b)), (2, .ptr 0 0), (5, .ptr 4 0), (91, B (q36.1.bad || ((q36.1.v_at : Int) != (b.length : Int))))] [.box 31 [I 0, B false, I 0, .d (Sl e_api_Question []), .d (Sl e_api_Record [])], .box 89 [.d (Sl (eN .u8) q36.1.b), I q36.1.v_at, B q36.1.bad], .row 82 2 q18.2.length (q18.2.flatMap e_api_Question), .row 57 8 q36.2.length (q36.2.flatMap e_api_Record), .box 31 [I (wi (y3.1)), B ((y5.1 : Int) == 128), I (wi (y7.1)), .sl 2 q18.2.length, .sl 3 q36.2.length]] ?_ ?_
            · refine eo_gsplit rfl rfl (fun hb => ?_) (fun hb => ?_)
              · refine go_ops hΓ 9 rfl ?_
                exact ⟨⟨rfl, rfl, rfl, get_b rfl (or_t hb), trivial⟩, [], rfl, .inl rfl⟩
              · refine go_ops hΓ 9 rfl ?_
                exact ⟨⟨rfl, rfl, rfl, get_b rfl (or_f hb), trivial⟩, [], rfl, .inl rfl⟩
            · refine go_ops hΓ 2 rfl ?_
              refine j_cond rfl (fun hb => ?_) (fun hb => ?_)
              · have h49 := cT h37 hb
                refine go hΓ 2 rfl ?_
                refine eo_s (Nat.le_of_ble_eq_true rfl) (nblt.1 rfl) (ops_nilAt 57 8 4 (ops_nilAt 82 2 3 (OpP.s (op_buildX hΓ [3, 4] (gs := [I 0, B false, I 0, .d (.v (.slice none 0 0)), .d (.v (.slice none 0 0))]) rfl rfl rfl rfl rfl rfl)) rfl) rfl) ?_
                refine eo_shr 5 [92] _ [.box 31 [I 0, B false, I 0, .d (Sl e_api_Question []), .d (Sl e_api_Record [])], .box 89 [.d (Sl (eN .u8) q36.1.b), I q36.1.v_at, B q36.1.bad], .row 82 2 q18.2.length (q18.2.flatMap e_api_Question), .row 57 8 q36.2.length (q36.2.flatMap e_api_Record), .box 31 [I (wi (y3.1)), B ((y5.1 : Int) == 128), I (wi (y7.1)), .sl 2 q18.2.length, .sl 3 q36.2.length], .dead, .row 57 8 ([] : List T_api_Record).length (([] : List T_api_Record).flatMap e_api_Record)] rfl rfl rfl (Nat.le_of_ble_eq_true rfl) ?_
                refine eo_shr 6 [92] _ [.box 31 [I 0, B false, I 0, .d (Sl e_api_Question []), .d (Sl e_api_Record [])], .box 89 [.d (Sl (eN .u8) q36.1.b), I q36.1.v_at, B q36.1.bad], .row 82 2 q18.2.length (q18.2.flatMap e_api_Question), .row 57 8 q36.2.length (q36.2.flatMap e_api_Record), .box 31 [I (wi (y3.1)), B ((y5.1 : Int) == 128), I (wi (y7.1)), .sl 2 q18.2.length, .sl 3 q36.2.length], .dead, .dead] rfl rfl rfl (Nat.le_of_ble_eq_true rfl) ?_
                refine eo_store hΓ rfl rfl rfl rfl rfl rfl rfl rfl (Nat.le_of_ble_eq_true rfl) ?_
                refine eo_hp [.box 31 [I 0, B false, I 0, .d (Sl e_api_Question ([] : List T_api_Question)), .d (Sl e_api_Record ([] : List T_api_Record))], .box 89 [.d (Sl (eN .u8) q36.1.b), I q36.1.v_at, B q36.1.bad], .row 82 2 q18.2.length (q18.2.flatMap e_api_Question), .row 57 8 q36.2.length (q36.2.flatMap e_api_Record), .box 31 [I (wi (y3.1)), B ((y5.1 : Int) == 128), I (wi (y7.1)), .sl 2 q18.2.length, .sl 3 q36.2.length], .dead, .dead] rfl ?_
                refine go_ops hΓ 5 rfl ?_
                obtain rfl := Option.some.inj h49
                exact fin_pure hΓ (.inr rfl) rfl rfl
              · have h50 := cF h37 hb
                refine go hΓ 6 rfl ?_
                refine eo_shr 2 [94] _ [.box 31 [I 0, B false, I 0, .d (Sl e_api_Question []), .d (Sl e_api_Record [])], .box 89 [.d (Sl (eN .u8) q36.1.b), I q36.1.v_at, B q36.1.bad], .dead, .row 57 8 q36.2.length (q36.2.flatMap e_api_Record), .box 31 [I (wi (y3.1)), B ((y5.1 : Int) == 128), I (wi (y7.1)), .d (Sl e_api_Question q18.2), .sl 3 q36.2.length]] rfl rfl rfl (Nat.le_of_ble_eq_true rfl) ?_
                refine eo_shr 3 [94] _ [.box 31 [I 0, B false, I 0, .d (Sl e_api_Question []), .d (Sl e_api_Record [])], .box 89 [.d (Sl (eN .u8) q36.1.b), I q36.1.v_at, B q36.1.bad], .dead, .dead, .box 31 [I (wi (y3.1)), B ((y5.1 : Int) == 128), I (wi (y7.1)), .d (Sl e_api_Question q18.2), .d (Sl e_api_Record q36.2)]] rfl rfl rfl (Nat.le_of_ble_eq_true rfl) ?_
                obtain ⟨y51, hy51, h52⟩ := bi_ok h50
                refine eo_callP (callable Tryz.func50 rfl rfl) (c_laneref1_EncodeOf hy51) rfl (Nat.le_of_ble_eq_true rfl) rfl rfl rfl rfl rfl ?_
                refine go_ops hΓ 12 rfl ?_
                obtain ⟨q53, hq53, h54⟩ := bi_ok h52
                refine o_cut 5 [(2, .ptr 0 0), (5, .ptr 4 0), (105, B q53)] [.box 31 [I 0, B false, I 0, .d (Sl e_api_Question []), .d (Sl e_api_Record [])], .box 89 [.d (Sl (eN .u8) q36.1.b), I q36.1.v_at, B q36.1.bad], .dead, .dead, .box 31 [I (wi (y3.1)), B ((y5.1 : Int) == 128), I (wi (y7.1)), .d (Sl e_api_Question q18.2), .d (Sl e_api_Record q36.2)]] ?_ ?_
                · refine eo_gsplit rfl rfl (fun hb => ?_) (fun hb => ?_)
                  · have h55 := cT hq53 hb
                    refine go_ops hΓ 6 rfl ?_
                    obtain rfl := Option.some.inj h55
                    exact ⟨⟨rfl, rfl, rfl, trivial⟩, [], rfl, .inl rfl⟩
                  · have h56 := cF hq53 hb
                    obtain ⟨y57, hy57, h58⟩ := bi_ok h56
                    refine go_ops hΓ 2 rfl ?_
                    refine eo_guard rfl ?_
                    refine eo_callP (callable Tryz.func46 rfl rfl) (c_slices_Equal_byte_byte hy57) rfl (Nat.le_of_ble_eq_true rfl) rfl rfl rfl rfl rfl ?_
                    refine go_ops hΓ 3 rfl ?_
                    obtain rfl := Option.some.inj h58
                    exact ⟨⟨rfl, rfl, rfl, trivial⟩, [], rfl, .inl rfl⟩
                · refine go_ops hΓ 2 rfl ?_
                  refine j_cond rfl (fun hb => ?_) (fun hb => ?_)
                  · have h59 := cT h54 hb
                    refine go hΓ 2 rfl ?_
                    refine eo_s (Nat.le_of_ble_eq_true rfl) (nblt.1 rfl) (ops_nilAt 57 8 4 (ops_nilAt 82 2 3 (OpP.s (op_buildX hΓ [3, 4] (gs := [I 0, B false, I 0, .d (.v (.slice none 0 0)), .d (.v (.slice none 0 0))]) rfl rfl rfl rfl rfl rfl)) rfl) rfl) ?_
                    refine eo_shr 5 [106] _ [.box 31 [I 0, B false, I 0, .d (Sl e_api_Question []), .d (Sl e_api_Record [])], .box 89 [.d (Sl (eN .u8) q36.1.b), I q36.1.v_at, B q36.1.bad], .dead, .dead, .box 31 [I (wi (y3.1)), B ((y5.1 : Int) == 128), I (wi (y7.1)), .d (Sl e_api_Question q18.2), .d (Sl e_api_Record q36.2)], .dead, .row 57 8 ([] : List T_api_Record).length (([] : List T_api_Record).flatMap e_api_Record)] rfl rfl rfl (Nat.le_of_ble_eq_true rfl) ?_
                    refine eo_shr 6 [106] _ [.box 31 [I 0, B false, I 0, .d (Sl e_api_Question []), .d (Sl e_api_Record [])], .box 89 [.d (Sl (eN .u8) q36.1.b), I q36.1.v_at, B q36.1.bad], .dead, .dead, .box 31 [I (wi (y3.1)), B ((y5.1 : Int) == 128), I (wi (y7.1)), .d (Sl e_api_Question q18.2), .d (Sl e_api_Record q36.2)], .dead, .dead] rfl rfl rfl (Nat.le_of_ble_eq_true rfl) ?_
                    refine eo_store hΓ rfl rfl rfl rfl rfl rfl rfl rfl (Nat.le_of_ble_eq_true rfl) ?_
                    refine eo_hp [.box 31 [I 0, B false, I 0, .d (Sl e_api_Question ([] : List T_api_Question)), .d (Sl e_api_Record ([] : List T_api_Record))], .box 89 [.d (Sl (eN .u8) q36.1.b), I q36.1.v_at, B q36.1.bad], .dead, .dead, .box 31 [I (wi (y3.1)), B ((y5.1 : Int) == 128), I (wi (y7.1)), .d (Sl e_api_Question q18.2), .d (Sl e_api_Record q36.2)], .dead, .dead] rfl ?_
                    refine go_ops hΓ 5 rfl ?_
                    obtain rfl := Option.some.inj h59
                    exact fin_pure hΓ (.inr rfl) rfl rfl
                  · have h60 := cF h54 hb
                    refine go hΓ 5 rfl ?_
                    refine eo_store hΓ rfl rfl rfl rfl rfl rfl rfl rfl (Nat.le_of_ble_eq_true rfl) ?_
                    refine eo_hp [.box 31 [I (wi (y3.1)), B ((y5.1 : Int) == 128), I (wi (y7.1)), .d (Sl e_api_Question q18.2), .d (Sl e_api_Record q36.2)], .box 89 [.d (Sl (eN .u8) q36.1.b), I q36.1.v_at, B q36.1.bad], .dead, .dead, .box 31 [I (wi (y3.1)), B ((y5.1 : Int) == 128), I (wi (y7.1)), .d (Sl e_api_Question q18.2), .d (Sl e_api_Record q36.2)]] rfl ?_
                    refine go_ops hΓ 4 rfl ?_
                    obtain rfl := Option.some.inj h60
                    exact fin_pure hΓ (.inr rfl) rfl rfl
theorem c_slices_Equal_api_Question_api_Question {s1 : List T_api_Question} {s2 : List T_api_Question} {r : Bool} (h : m_slices_Equal_api_Question_api_Question s1 s2 = some r) : Pure Tryz.prog 51 [.d (Sl e_api_Question s1), .d (Sl e_api_Question s2)] (B r) := by
  refine Pure.enter (Fr.of 0 _) Tryz.func51 rfl (Fr.of_ok _) rfl rfl ?_
  refine go_in ?_
  unfold m_slices_Equal_api_Question_api_Question at h
  refine go hΓ 15 rfl ?_
  refine j_cond rfl (fun hb => ?_) (fun hb => ?_)
  · have h1 := cT h hb
    refine go hΓ 7 rfl ?_
    obtain rfl := Option.some.inj h1
    exact fin_pure hΓ (.inr rfl) rfl rfl
  · have h2 := cF h hb
    refine go hΓ 10 rfl ?_
    obtain ⟨q6, hq6, h7⟩ := bi_ok h2
    refine j_bound 0 rfl fun hb9 => ?_
    refine j_cutEZ (R := fun a8 => q6 = .go a8) (fun a8 => []) (fun a8 => []) ?_ ?_
    · refine go hΓ 1 rfl ?_
      refine j_range s1 hq6 (fun i3 s4 => [(0, .d (Sl e_api_Question s1)), (1, .d (Sl e_api_Question s2)), (12, I (s1.length : Int)), (13, I (i3 : Int))]) (fun s4 => []) ⟨⟨rfl, rfl, rfl, rfl, trivial⟩, [], rfl, .inl rfl⟩ (fun i3 x5 s4 y13 hx10 hlt hy11 hout12 => ?_) (fun s4 hgo => ?_)
      · refine go hΓ 6 rfl ?_
        refine j_condT rfl (decide_eq_true (Int.ofNat_lt.2 hlt)) ?_
        refine go hΓ 11 rfl ?_
        refine j_draw hmix (by kernel_rfl) ?_
        refine go hΓ 2 rfl ?_
        refine gl_o rfl (op_elemZ hΓ (enc := e_api_Question) (getZ_nat hx10) rfl rfl rfl rfl rfl (fun _ => rfl)) ?_
        obtain ⟨x14, hx14, h15⟩ := bi_ok hy11
        refine go_draw hΓ 3 rfl ?_
        refine gl_o rfl (op_elemZ hΓ (enc := e_api_Question) hx14 rfl rfl rfl rfl rfl (fun _ => rfl)) ?_
        refine go_draw hΓ 1 rfl ?_
        refine gl_o rfl (op_neS hΓ [82] (b := (((x5.Name : Str) == x14.Name) && (((x5.Kind : Int) == x14.Kind) && true))) (by kernel_rfl) (by kernel_rfl) rfl rfl rfl) ?_
        refine go_draw hΓ 2 rfl ?_
        refine j_cond rfl (fun hb => ?_) (fun hb => ?_)
        · have h16 := cT h15 hb
          refine go hΓ 8 rfl ?_
          obtain ⟨v17, hv17, h18⟩ := bi_ok h16
          obtain rfl := Option.some.inj h18
          obtain rfl := hout12 _ rfl
          obtain rfl := Option.some.inj h7
          refine go hΓ 4 rfl ?_
          obtain rfl := Option.some.inj hv17
          exact fin_pure hΓ (.inr rfl) rfl rfl
        · have h19 := cF h15 hb
          refine go hΓ 7 rfl ?_
          obtain rfl := Option.some.inj h19
          exact ⟨_, rfl, ⟨⟨rfl, rfl, rfl, get_eq rfl (w64_succ (Nat.lt_of_lt_of_le hlt hb9)), trivial⟩, [], rfl, .inl rfl⟩⟩
      · subst hgo
        refine go hΓ 6 rfl ?_
        refine j_condF rfl (decide_eq_false (Int.lt_irrefl _)) ?_
        refine go hΓ 4 rfl ?_
        exact ⟨_, rfl, ⟨trivial, [], rfl, .inl rfl⟩⟩
    · intro a8 ha
      subst ha
      replace h7 := goI_l h7
      refine go hΓ 7 rfl ?_
      obtain rfl := Option.some.inj h7
      exact fin_pure hΓ (.inr rfl) rfl rfl
theorem c_slices_Equal_api_Record_api_Record {s1 : List T_api_Record} {s2 : List T_api_Record} {r : Bool} (h : m_slices_Equal_api_Record_api_Record s1 s2 = some r) : Pure Tryz.prog 23 [.d (Sl e_api_Record s1), .d (Sl e_api_Record s2)] (B r) := by
  refine Pure.enter (Fr.of 0 _) Tryz.func23 rfl (Fr.of_ok _) rfl rfl ?_
  refine go_in ?_
  unfold m_slices_Equal_api_Record_api_Record at h
  refine go hΓ 15 rfl ?_
  refine j_cond rfl (fun hb => ?_) (fun hb => ?_)
  · have h1 := cT h hb
    refine go hΓ 7 rfl ?_
    obtain rfl := Option.some.inj h1
    exact fin_pure hΓ (.inr rfl) rfl rfl
  · have h2 := cF h hb
    refine go hΓ 10 rfl ?_
    obtain ⟨q6, hq6, h7⟩ := bi_ok h2
    refine j_bound 0 rfl fun hb9 => ?_
    refine j_cutEZ (R := fun a8 => q6 = .go a8) (fun a8 => []) (fun a8 => []) ?_ ?_
    · refine go hΓ 1 rfl ?_
      refine j_range s1 hq6 (fun i3 s4 => [(0, .d (Sl e_api_Record s1)), (1, .d (Sl e_api_Record s2)), (12, I (s1.length : Int)), (13, I (i3 : Int))]) (fun s4 => []) ⟨⟨rfl, rfl, rfl, rfl, trivial⟩, [], rfl, .inl rfl⟩ (fun i3 x5 s4 y13 hx10 hlt hy11 hout12 => ?_) (fun s4 hgo => ?_)
      · refine go hΓ 6 rfl ?_
        refine j_condT rfl (decide_eq_true (Int.ofNat_lt.2 hlt)) ?_
        refine go hΓ 11 rfl ?_
        refine j_draw hmix (by kernel_rfl) ?_
        refine go hΓ 2 rfl ?_
        refine gl_o rfl (op_elemZ hΓ (enc := e_api_Record) (getZ_nat hx10) rfl rfl rfl rfl rfl (fun _ => rfl)) ?_
        obtain ⟨x14, hx14, h15⟩ := bi_ok hy11
        refine go_draw hΓ 3 rfl ?_
        refine gl_o rfl (op_elemZ hΓ (enc := e_api_Record) hx14 rfl rfl rfl rfl rfl (fun _ => rfl)) ?_
        refine go_draw hΓ 1 rfl ?_
        refine gl_o rfl (op_neS hΓ [57, 55] (b := (((x5.Name : Str) == x14.Name) && (((x5.Kind : Int) == x14.Kind) && ((((x5.Addr.Six : Bool) == x14.Addr.Six) && (((x5.Addr.Hi : Int) == x14.Addr.Hi) && (((x5.Addr.Lo : Int) == x14.Addr.Lo) && true))) && (((x5.To : Str) == x14.To) && (((x5.Words : Str) == x14.Words) && (((x5.Life : Int) == x14.Life) && true))))))) (by kernel_rfl) (by kernel_rfl) rfl rfl rfl) ?_
        refine go_draw hΓ 2 rfl ?_
        refine j_cond rfl (fun hb => ?_) (fun hb => ?_)
        · have h16 := cT h15 hb
          refine go hΓ 8 rfl ?_
          obtain ⟨v17, hv17, h18⟩ := bi_ok h16
          obtain rfl := Option.some.inj h18
          obtain rfl := hout12 _ rfl
          obtain rfl := Option.some.inj h7
          refine go hΓ 4 rfl ?_
          obtain rfl := Option.some.inj hv17
          exact fin_pure hΓ (.inr rfl) rfl rfl
        · have h19 := cF h15 hb
          refine go hΓ 7 rfl ?_
          obtain rfl := Option.some.inj h19
          exact ⟨_, rfl, ⟨⟨rfl, rfl, rfl, get_eq rfl (w64_succ (Nat.lt_of_lt_of_le hlt hb9)), trivial⟩, [], rfl, .inl rfl⟩⟩
      · subst hgo
        refine go hΓ 6 rfl ?_
        refine j_condF rfl (decide_eq_false (Int.lt_irrefl _)) ?_
        refine go hΓ 4 rfl ?_
        exact ⟨_, rfl, ⟨trivial, [], rfl, .inl rfl⟩⟩
    · intro a8 ha
      subst ha
      replace h7 := goI_l h7
      refine go hΓ 7 rfl ?_
      obtain rfl := Option.some.inj h7
      exact fin_pure hΓ (.inr rfl) rfl rfl
theorem c_laneref1_SameMessage {a : T_api_Message} {b : T_api_Message} {r : Bool} (h : m_laneref1_SameMessage a b = some r) : Pure Tryz.prog 9 [.agg [I a.Id, B a.Reply, I a.Code, .d (Sl e_api_Question a.Asked), .d (Sl e_api_Record a.Got)], .agg [I b.Id, B b.Reply, I b.Code, .d (Sl e_api_Question b.Asked), .d (Sl e_api_Record b.Got)]] (B r) := by
  refine Pure.enter (Fr.of 0 _) Tryz.func9 rfl (Fr.of_ok _) rfl rfl ?_
  refine go_in ?_
  unfold m_laneref1_SameMessage at h
  refine go hΓ 2 rfl ?_
  refine eo_box rfl rfl rfl rfl (Nat.le_of_ble_eq_true rfl) ?_
  refine eo_box rfl rfl rfl rfl (Nat.le_of_ble_eq_true rfl) ?_
  refine go_ops hΓ 11 rfl ?_
  refine o_cut 6 [(2, .ptr 0 0), (3, .ptr 1 0), (4, B false), (16, B (((a.Id : Int) == b.Id) && ((a.Reply : Bool) == b.Reply)))] [.box 31 [I a.Id, B a.Reply, I a.Code, .d (Sl e_api_Question a.Asked), .d (Sl e_api_Record a.Got)], .box 31 [I b.Id, B b.Reply, I b.Code, .d (Sl e_api_Question b.Asked), .d (Sl e_api_Record b.Got)]] ?_ ?_
  · refine eo_gsplit rfl rfl (fun hb => ?_) (fun hb => ?_)
    · refine go_ops hΓ 7 rfl ?_
      exact ⟨⟨rfl, rfl, rfl, get_b rfl (and_t hb), trivial⟩, [], rfl, .inl rfl⟩
    · refine go_ops hΓ 7 rfl ?_
      exact ⟨⟨rfl, rfl, rfl, get_b rfl (and_f hb), trivial⟩, [], rfl, .inl rfl⟩
  · refine go_ops hΓ 1 rfl ?_
    refine o_cut 6 [(2, .ptr 0 0), (3, .ptr 1 0), (4, B false), (23, B ((((a.Id : Int) == b.Id) && ((a.Reply : Bool) == b.Reply)) && ((a.Code : Int) == b.Code)))] [.box 31 [I a.Id, B a.Reply, I a.Code, .d (Sl e_api_Question a.Asked), .d (Sl e_api_Record a.Got)], .box 31 [I b.Id, B b.Reply, I b.Code, .d (Sl e_api_Question b.Asked), .d (Sl e_api_Record b.Got)]] ?_ ?_
    · refine eo_gsplit rfl rfl (fun hb => ?_) (fun hb => ?_)
      · refine go_ops hΓ 7 rfl ?_
        exact ⟨⟨rfl, rfl, rfl, get_b rfl (and_t hb), trivial⟩, [], rfl, .inl rfl⟩
      · refine go_ops hΓ 7 rfl ?_
        exact ⟨⟨rfl, rfl, rfl, get_b rfl (and_f hb), trivial⟩, [], rfl, .inl rfl⟩
    · refine go_ops hΓ 1 rfl ?_
      obtain ⟨q1, hq1, h2⟩ := bi_ok h
      refine o_cut 6 [(2, .ptr 0 0), (3, .ptr 1 0), (4, B false), (30, B q1)] [.box 31 [I a.Id, B a.Reply, I a.Code, .d (Sl e_api_Question a.Asked), .d (Sl e_api_Record a.Got)], .box 31 [I b.Id, B b.Reply, I b.Code, .d (Sl e_api_Question b.Asked), .d (Sl e_api_Record b.Got)]] ?_ ?_
      · refine eo_gsplit rfl rfl (fun hb => ?_) (fun hb => ?_)
        · have h3 := cT hq1 hb
          obtain ⟨y4, hy4, h5⟩ := bi_ok h3
          refine go_ops hΓ 4 rfl ?_
          refine eo_guard rfl ?_
          refine eo_callP (callable Tryz.func51 rfl rfl) (c_slices_Equal_api_Question_api_Question hy4) rfl (Nat.le_of_ble_eq_true rfl) rfl rfl rfl rfl rfl ?_
          refine go_ops hΓ 2 rfl ?_
          obtain rfl := Option.some.inj h5
          exact ⟨⟨rfl, rfl, rfl, rfl, trivial⟩, [], rfl, .inl rfl⟩
        · have h6 := cF hq1 hb
          refine go_ops hΓ 7 rfl ?_
          obtain rfl := Option.some.inj h6
          exact ⟨⟨rfl, rfl, rfl, rfl, trivial⟩, [], rfl, .inl rfl⟩
      · refine go_ops hΓ 1 rfl ?_
        obtain ⟨q7, hq7, h8⟩ := bi_ok h2
        refine o_cut 6 [(4, B false), (37, B q7)] [.box 31 [I a.Id, B a.Reply, I a.Code, .d (Sl e_api_Question a.Asked), .d (Sl e_api_Record a.Got)], .box 31 [I b.Id, B b.Reply, I b.Code, .d (Sl e_api_Question b.Asked), .d (Sl e_api_Record b.Got)]] ?_ ?_
        · refine eo_gsplit rfl rfl (fun hb => ?_) (fun hb => ?_)
          · have h9 := cT hq7 hb
            obtain ⟨y10, hy10, h11⟩ := bi_ok h9
            refine go_ops hΓ 4 rfl ?_
            refine eo_guard rfl ?_
            refine eo_callP (callable Tryz.func23 rfl rfl) (c_slices_Equal_api_Record_api_Record hy10) rfl (Nat.le_of_ble_eq_true rfl) rfl rfl rfl rfl rfl ?_
            refine go_ops hΓ 2 rfl ?_
            obtain rfl := Option.some.inj h11
            exact ⟨⟨rfl, rfl, trivial⟩, [], rfl, .inl rfl⟩
          · have h12 := cF hq7 hb
            refine go_ops hΓ 7 rfl ?_
            obtain rfl := Option.some.inj h12
            exact ⟨⟨rfl, rfl, trivial⟩, [], rfl, .inl rfl⟩
        · refine go_ops hΓ 4 rfl ?_
          obtain rfl := Option.some.inj h8
          exact fin_pure hΓ (.inr rfl) rfl rfl
set_option maxHeartbeats 8000000 in
theorem c_name_Label {s : Str} {r : Str} (h : m_name_Label s = some r) : Pure Tryz.prog 52 [S s] (S r) := by
  refine Pure.enter (Fr.of 0 _) Tryz.func52 rfl (Fr.of_ok _) rfl rfl ?_
  refine go_in ?_
  unfold m_name_Label at h
  refine go hΓ 7 rfl ?_
  refine eo_nilOwn (t := 0) 5 1 rfl (Nat.le_of_ble_eq_true rfl) ?_
  refine go_ops hΓ 10 rfl ?_
  obtain ⟨q4, hq4, h5⟩ := bi_ok h
  obtain ⟨hb7, h8⟩ := gd_ok hq4
  replace hb7 := of_decide_eq_true hb7
  refine j_cutNZ [(3, .sl 0 q4.length)] [.row 5 1 q4.length (q4.flatMap (eN .u8))] ?_ ?_
  · refine go hΓ 1 rfl ?_
    refine j_rangeG h8 (fun i1 s2 => [(0, S s), (3, .sl 0 s2.length), (8, I (s.length : Int)), (9, I (i1 : Int))]) (fun s2 => [.row 5 1 s2.length (s2.flatMap (eN .u8))]) ⟨⟨rfl, rfl, rfl, rfl, trivial⟩, [], rfl, .inl rfl⟩ (fun i1 s2 y12 hlt hy10 => ?_) (fun hge => ?_)
    · refine go hΓ 6 rfl ?_
      refine j_condT rfl (decide_eq_true hlt) ?_
      obtain ⟨c13, hc13, h14⟩ := bi_ok hy10
      refine go hΓ 14 rfl ?_
      refine eo_o rfl (op_byteZ hΓ hc13 rfl rfl rfl rfl) ?_
      refine go_ops hΓ 9 rfl ?_
      refine o_cut 3 [(0, S s), (3, .sl 0 s2.length), (5, .d (.v (.int .u8 (c13.toNat : Int)))), (8, I (s.length : Int)), (9, I (i1 : Int)), (20, B ((decide (((c13.toNat : Int) : Int) ≥ 65)) && (decide (((c13.toNat : Int) : Int) ≤ 90))))] [.row 5 1 s2.length (s2.flatMap (eN .u8))] ?_ ?_
      · refine eo_gsplit rfl rfl (fun hb => ?_) (fun hb => ?_)
        · refine go_ops hΓ 4 rfl ?_
          exact ⟨⟨rfl, rfl, rfl, rfl, rfl, get_b rfl (and_t hb), trivial⟩, [], rfl, .inl rfl⟩
        · refine go_ops hΓ 4 rfl ?_
          exact ⟨⟨rfl, rfl, rfl, rfl, rfl, get_b rfl (and_f hb), trivial⟩, [], rfl, .inl rfl⟩
      · obtain ⟨q15, hq15, h16⟩ := bi_ok h14
        refine go_ops hΓ 2 rfl ?_
        refine j_cutNZ [(0, S s), (3, .sl 0 s2.length), (5, .d (.v (.int .u8 q15))), (8, I (s.length : Int)), (9, I (i1 : Int))] [.row 5 1 s2.length (s2.flatMap (eN .u8))] ?_ ?_
        · refine j_cond rfl (fun hb => ?_) (fun hb => ?_)
          · have h17 := cT hq15 hb
            refine go hΓ 5 rfl ?_
            obtain rfl := Option.some.inj h17
            exact ⟨⟨rfl, rfl, rfl, rfl, rfl, trivial⟩, [], rfl, .inl rfl⟩
          · have h18 := cF hq15 hb
            refine go hΓ 1 rfl ?_
            obtain rfl := Option.some.inj h18
            exact ⟨⟨rfl, rfl, rfl, rfl, rfl, trivial⟩, [], rfl, .inl rfl⟩
        · obtain ⟨y19, hy19, h20⟩ := bi_ok h16
          refine go hΓ 5 rfl ?_
          refine eo_callP (callable Tryz.func121 rfl rfl) (c_name_isLetter hy19) rfl (Nat.le_of_ble_eq_true rfl) rfl rfl rfl rfl rfl ?_
          refine go_ops hΓ 3 rfl ?_
          refine j_cond rfl (fun hb => ?_) (fun hb => ?_)
          · have h21 := cT h20 hb
            refine go hΓ 3 rfl ?_
            refine eo_litT hΓ (enc := (eN .u8)) [q15] rfl rfl rfl rfl rfl rfl rfl rfl rfl rfl rfl rfl (Nat.le_of_ble_eq_true rfl) ?_
            obtain ⟨y22, hy22, h23⟩ := bi_ok h21
            refine eo_appendT hΓ (enc := (eN .u8)) hy22 rfl rfl rfl rfl rfl rfl rfl rfl rfl (fun _ => rfl) rfl rfl rfl rfl ?_
            refine go_ops hΓ 9 rfl ?_
            obtain rfl := Option.some.inj h23
            exact ⟨⟨rfl, rfl, rfl, get_eq rfl (w64_succ (by omega)), trivial⟩, [], rfl, .inl rfl⟩
          · have h24 := cF h20 hb
            refine go hΓ 6 rfl ?_
            obtain ⟨q25, hq25, h26⟩ := bi_ok h24
            refine o_cut 8 [(0, S s), (3, .sl 0 s2.length), (8, I (s.length : Int)), (9, I (i1 : Int)), (42, B q25)] [.row 5 1 s2.length (s2.flatMap (eN .u8))] ?_ ?_
            · refine eo_gsplit rfl rfl (fun hb => ?_) (fun hb => ?_)
              · have h27 := cT hq25 hb
                refine go_ops hΓ 9 rfl ?_
                obtain rfl := Option.some.inj h27
                exact ⟨⟨rfl, rfl, rfl, rfl, rfl, trivial⟩, [], rfl, .inl rfl⟩
              · have h28 := cF hq25 hb
                obtain ⟨x29, hx29, h30⟩ := bi_ok h28
                have hj31 := getZ_at hx29
                refine go_ops hΓ 4 rfl ?_
                refine eo_guard rfl ?_
                refine eo_o rfl (op_elemRowZ hΓ hx29 rfl rfl rfl rfl rfl rfl) ?_
                refine eo_guard rfl ?_
                refine eo_o rfl (op_loadRowZ hΓ (enc := (eN .u8)) ((wi ((s2.length : Int) - 1)).toNat) 0 hj31 rfl rfl rfl rfl (fun _ => rfl) (g := .d (.v (.int .u8 x29))) rfl) ?_
                refine go_ops hΓ 3 rfl ?_
                obtain rfl := Option.some.inj h30
                exact ⟨⟨rfl, rfl, rfl, rfl, rfl, trivial⟩, [], rfl, .inl rfl⟩
            · refine go_ops hΓ 3 rfl ?_
              refine j_cond rfl (fun hb => ?_) (fun hb => ?_)
              · have h32 := cT h26 hb
                refine go hΓ 2 rfl ?_
                refine eo_litT hΓ (enc := (eN .u8)) [45] rfl rfl rfl rfl rfl rfl rfl rfl rfl rfl rfl rfl (Nat.le_of_ble_eq_true rfl) ?_
                obtain ⟨y33, hy33, h34⟩ := bi_ok h32
                refine eo_appendT hΓ (enc := (eN .u8)) hy33 rfl rfl rfl rfl rfl rfl rfl rfl rfl (fun _ => rfl) rfl rfl rfl rfl ?_
                refine go_ops hΓ 9 rfl ?_
                obtain rfl := Option.some.inj h34
                exact ⟨⟨rfl, rfl, rfl, get_eq rfl (w64_succ (by omega)), trivial⟩, [], rfl, .inl rfl⟩
              · have h35 := cF h26 hb
                refine go hΓ 8 rfl ?_
                obtain rfl := Option.some.inj h35
                exact ⟨⟨rfl, rfl, rfl, get_eq rfl (w64_succ (by omega)), trivial⟩, [], rfl, .inl rfl⟩
    · refine go hΓ 6 rfl ?_
      refine j_condF rfl (decide_eq_false hge) ?_
      refine go hΓ 4 rfl ?_
      exact ⟨⟨rfl, trivial⟩, [], rfl, .inl rfl⟩
  · obtain ⟨z36, hz36, h37⟩ := bi_ok h5
    refine go hΓ 7 rfl ?_
    refine eo_subRowZ hΓ (enc := (eN .u8)) hz36 rfl rfl rfl rfl rfl rfl rfl rfl (fun _ => rfl) rfl (Nat.le_of_ble_eq_true rfl) ?_
    obtain ⟨y38, hy38, h39⟩ := bi_ok h37
    refine eo_o rfl (op_strRowZ hΓ hy38 rfl rfl rfl rfl rfl rfl rfl rfl rfl) ?_
    obtain ⟨y40, hy40, h41⟩ := bi_ok h39
    refine eo_callP (callable Tryz.func122 rfl rfl) (c_strings_Trim hy40) rfl (Nat.le_of_ble_eq_true rfl) rfl rfl rfl rfl rfl ?_
    refine go_ops hΓ 10 rfl ?_
    refine j_cond rfl (fun hb => ?_) (fun hb => ?_)
    · have h42 := cT h41 hb
      refine go hΓ 7 rfl ?_
      obtain rfl := Option.some.inj h42
      exact fin_pure hΓ (.inr rfl) rfl rfl
    · have h43 := cF h41 hb
      refine go hΓ 9 rfl ?_
      obtain rfl := Option.some.inj h43
      exact fin_pure hΓ (.inr rfl) rfl rfl
theorem c_lanelaw1_named {k : Nat} {r : Bool} (h : m_lanelaw1_named k = some r) : Pure Tryz.prog 10 [] (B r) := by
  refine Pure.enter (Fr.of 0 _) Tryz.func10 rfl (Fr.of_ok _) rfl rfl ?_
  refine go_in ?_
  unfold m_lanelaw1_named at h
  obtain ⟨y1, hy1, h2⟩ := bi_ok h
  refine go hΓ 7 rfl ?_
  refine eo_callP (callable Tryz.func52 rfl rfl) (c_name_Label hy1) rfl (Nat.le_of_ble_eq_true rfl) rfl rfl rfl rfl rfl ?_
  refine go_ops hΓ 2 rfl ?_
  obtain ⟨q3, hq3, h4⟩ := bi_ok h2
  refine o_cut 3 [(0, B false), (6, B q3)] [] ?_ ?_
  · refine eo_gsplit rfl rfl (fun hb => ?_) (fun hb => ?_)
    · have h5 := cT hq3 hb
      obtain ⟨y6, hy6, h7⟩ := bi_ok h5
      refine eo_guard rfl ?_
      refine eo_callP (callable Tryz.func53 rfl rfl) (c_name_CheckDomain hy6) rfl (Nat.le_of_ble_eq_true rfl) rfl rfl rfl rfl rfl ?_
      refine go_ops hΓ 3 rfl ?_
      obtain rfl := Option.some.inj h7
      exact ⟨⟨rfl, rfl, trivial⟩, [], rfl, .inl rfl⟩
    · have h8 := cF hq3 hb
      refine go_ops hΓ 4 rfl ?_
      obtain rfl := Option.some.inj h8
      exact ⟨⟨rfl, rfl, trivial⟩, [], rfl, .inl rfl⟩
  · refine go_ops hΓ 4 rfl ?_
    obtain rfl := Option.some.inj h4
    exact fin_pure hΓ (.inr rfl) rfl rfl
theorem c_lanelaw1_MessagesRead {k : Nat} {l : List Int} {r : Bool} (h : m_lanelaw1_MessagesRead k l = some r) : Pure Tryz.prog 3 [.d (Sl (eN .i64) l)] (B r) := by
  refine Pure.enter (Fr.of 0 _) Tryz.func3 rfl (Fr.of_ok _) rfl rfl ?_
  refine go_in ?_
  unfold m_lanelaw1_MessagesRead at h
  refine go hΓ 8 rfl ?_
  refine eo_build hΓ (gs := [.d (Sl (eN .i64) l), I 0]) rfl rfl rfl rfl rfl rfl rfl ?_
  refine eo_box rfl rfl rfl rfl (Nat.le_of_ble_eq_true rfl) ?_
  obtain ⟨y1, hy1, h2⟩ := bi_ok h
  refine go_ops hΓ 6 rfl ?_
  refine eo_callF [0] (.sl 1 y1.1.length) [.box 25 [.d (Sl (eN .i64) y1.2.L), I y1.2.v_at], .row 5 1 y1.1.length (y1.1.flatMap (eN .u8))] (callable Tryz.func6 rfl rfl) (c_lanemake_Stream_MessageRow hy1) rfl (Nat.le_of_ble_eq_true rfl) rfl rfl rfl rfl rfl rfl rfl rfl rfl rfl ?_
  refine eo_shr 1 [13] _ [.box 25 [.d (Sl (eN .i64) y1.2.L), I y1.2.v_at], .dead] rfl rfl rfl (Nat.le_of_ble_eq_true rfl) ?_
  obtain ⟨y3, hy3, h4⟩ := bi_ok h2
  refine go_ops hΓ 6 rfl ?_
  refine eo_callP (callable Tryz.func7 rfl rfl) (c_name_Decode hy3) rfl (Nat.le_of_ble_eq_true rfl) rfl rfl rfl rfl rfl ?_
  refine go_ops hΓ 3 rfl ?_
  refine eo_alloc hΓ rfl rfl rfl (Nat.le_of_ble_eq_true rfl) ?_
  refine eo_store hΓ rfl rfl rfl rfl rfl rfl rfl rfl (Nat.le_of_ble_eq_true rfl) ?_
  refine eo_hp [.box 25 [.d (Sl (eN .i64) y1.2.L), I y1.2.v_at], .dead, .box 31 [I y3.1.Id, B y3.1.Reply, I y3.1.Code, .d (Sl e_api_Question y3.1.Asked), .d (Sl e_api_Record y3.1.Got)]] rfl ?_
  obtain ⟨y5, hy5, h6⟩ := bi_ok h4
  refine go_ops hΓ 6 rfl ?_
  refine eo_callP (callable Tryz.func8 rfl rfl) (c_laneref1_DecodeOf hy5) rfl (Nat.le_of_ble_eq_true rfl) rfl rfl rfl rfl rfl ?_
  refine go_ops hΓ 3 rfl ?_
  refine eo_alloc hΓ rfl rfl rfl (Nat.le_of_ble_eq_true rfl) ?_
  refine eo_store hΓ rfl rfl rfl rfl rfl rfl rfl rfl (Nat.le_of_ble_eq_true rfl) ?_
  refine eo_hp [.box 25 [.d (Sl (eN .i64) y1.2.L), I y1.2.v_at], .dead, .box 31 [I y3.1.Id, B y3.1.Reply, I y3.1.Code, .d (Sl e_api_Question y3.1.Asked), .d (Sl e_api_Record y3.1.Got)], .box 31 [I y5.1.Id, B y5.1.Reply, I y5.1.Code, .d (Sl e_api_Question y5.1.Asked), .d (Sl e_api_Record y5.1.Got)]] rfl ?_
  refine go_ops hΓ 9 rfl ?_
  obtain ⟨q7, hq7, h8⟩ := bi_ok h6
  refine o_cut 4 [(2, B false), (31, B q7)] [.box 25 [.d (Sl (eN .i64) y1.2.L), I y1.2.v_at], .dead, .box 31 [I y3.1.Id, B y3.1.Reply, I y3.1.Code, .d (Sl e_api_Question y3.1.Asked), .d (Sl e_api_Record y3.1.Got)], .box 31 [I y5.1.Id, B y5.1.Reply, I y5.1.Code, .d (Sl e_api_Question y5.1.Asked), .d (Sl e_api_Record y5.1.Got)]] ?_ ?_
  · refine eo_gsplit rfl rfl (fun hb => ?_) (fun hb => ?_)
    · have h9 := cT hq7 hb
      obtain ⟨y10, hy10, h11⟩ := bi_ok h9
      refine go_ops hΓ 2 rfl ?_
      refine eo_guard rfl ?_
      refine eo_callP (callable Tryz.func9 rfl rfl) (c_laneref1_SameMessage hy10) rfl (Nat.le_of_ble_eq_true rfl) rfl rfl rfl rfl rfl ?_
      refine go_ops hΓ 2 rfl ?_
      obtain rfl := Option.some.inj h11
      exact ⟨⟨rfl, rfl, trivial⟩, [], rfl, .inl rfl⟩
    · have h12 := cF hq7 hb
      refine go_ops hΓ 5 rfl ?_
      obtain rfl := Option.some.inj h12
      exact ⟨⟨rfl, rfl, trivial⟩, [], rfl, .inl rfl⟩
  · refine go_ops hΓ 1 rfl ?_
    obtain ⟨q13, hq13, h14⟩ := bi_ok h8
    refine o_cut 2 [(2, B false), (34, B q13)] [.box 25 [.d (Sl (eN .i64) y1.2.L), I y1.2.v_at], .dead, .box 31 [I y3.1.Id, B y3.1.Reply, I y3.1.Code, .d (Sl e_api_Question y3.1.Asked), .d (Sl e_api_Record y3.1.Got)], .box 31 [I y5.1.Id, B y5.1.Reply, I y5.1.Code, .d (Sl e_api_Question y5.1.Asked), .d (Sl e_api_Record y5.1.Got)]] ?_ ?_
    · refine eo_gsplit rfl rfl (fun hb => ?_) (fun hb => ?_)
      · have h15 := cT hq13 hb
        obtain ⟨y16, hy16, h17⟩ := bi_ok h15
        refine eo_guard rfl ?_
        refine eo_callP (callable Tryz.func10 rfl rfl) (c_lanelaw1_named hy16) rfl (Nat.le_of_ble_eq_true rfl) rfl rfl rfl rfl rfl ?_
        refine go_ops hΓ 2 rfl ?_
        obtain rfl := Option.some.inj h17
        exact ⟨⟨rfl, rfl, trivial⟩, [], rfl, .inl rfl⟩
      · have h18 := cF hq13 hb
        refine go_ops hΓ 3 rfl ?_
        obtain rfl := Option.some.inj h18
        exact ⟨⟨rfl, rfl, trivial⟩, [], rfl, .inl rfl⟩
    · refine go_ops hΓ 4 rfl ?_
      obtain rfl := Option.some.inj h14
      exact fin_pure hΓ (.inr rfl) rfl rfl
end Go.Proofs.YtdihjljlggagiaaGreatDoor
