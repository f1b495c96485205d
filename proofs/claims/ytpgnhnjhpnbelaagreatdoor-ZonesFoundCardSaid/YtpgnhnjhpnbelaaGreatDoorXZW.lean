/-
  The functions compute their models.
-/
import Derived.Test.YtpgnhnjhpnbelaaGreatDoorXZM
import Derived.Test.YtpgnhnjhpnbelaaGreatDoorGt
import Derived.Test.YtpgnhnjhpnbelaaGreatDoorStr
import Derived.Test.YtpgnhnjhpnbelaaGreatDoorStr2
import Derived.Test.YtpgnhnjhpnbelaaGreatDoorXZW1
set_option linter.unusedVariables false
set_option linter.unusedSimpArgs false
set_option maxRecDepth 100000
namespace Go.Proofs.YtpgnhnjhpnbelaaGreatDoor
open Go.Gk

theorem c_laneref1_recordOrder {a : T_api_Record} {b : T_api_Record} {r : Int} (h : m_laneref1_recordOrder a b = some r) : Pure Tryz.prog 112 [.agg [S a.Name, I a.Kind, B a.Addr.Six, .d (.v (.int .u64 a.Addr.Hi)), .d (.v (.int .u64 a.Addr.Lo)), S a.To, S a.Words, I a.Life], .agg [S b.Name, I b.Kind, B b.Addr.Six, .d (.v (.int .u64 b.Addr.Hi)), .d (.v (.int .u64 b.Addr.Lo)), S b.To, S b.Words, I b.Life]] (I r) := by
  refine Pure.enter (Fr.of 0 _) Tryz.func112 rfl (Fr.of_ok _) rfl rfl ?_
  refine go_in ?_
  unfold m_laneref1_recordOrder at h
  refine go hΓ 2 rfl ?_
  refine eo_box rfl rfl rfl rfl (Nat.le_of_ble_eq_true rfl) ?_
  refine eo_box rfl rfl rfl rfl (Nat.le_of_ble_eq_true rfl) ?_
  refine go_ops hΓ 4 rfl ?_
  refine j_draw hmix (by kernel_rfl) ?_
  obtain ⟨y1, hy1, h2⟩ := bi_ok h
  refine go hΓ 4 rfl ?_
  refine gl_callP (callable Tryz.func174 rfl rfl) (c_strings_Compare hy1) rfl rfl rfl rfl rfl rfl ?_
  obtain ⟨y3, hy3, h4⟩ := bi_ok h2
  refine go_draw hΓ 4 rfl ?_
  refine gl_callP (callable Tryz.func146 rfl rfl) (c_cmp_Compare_int hy3) rfl rfl rfl rfl rfl rfl ?_
  obtain ⟨y5, hy5, h6⟩ := bi_ok h4
  refine go_draw hΓ 6 rfl ?_
  refine gl_callP (callable Tryz.func223 rfl rfl) (c_cmp_Compare_uint64 hy5) rfl rfl rfl rfl rfl rfl ?_
  obtain ⟨y7, hy7, h8⟩ := bi_ok h6
  refine go_draw hΓ 6 rfl ?_
  refine gl_callP (callable Tryz.func223 rfl rfl) (c_cmp_Compare_uint64 hy7) rfl rfl rfl rfl rfl rfl ?_
  obtain ⟨y9, hy9, h10⟩ := bi_ok h8
  refine go_draw hΓ 4 rfl ?_
  refine gl_callP (callable Tryz.func174 rfl rfl) (c_strings_Compare hy9) rfl rfl rfl rfl rfl rfl ?_
  obtain ⟨y11, hy11, h12⟩ := bi_ok h10
  refine go_draw hΓ 4 rfl ?_
  refine gl_callP (callable Tryz.func174 rfl rfl) (c_strings_Compare hy11) rfl rfl rfl rfl rfl rfl ?_
  refine gl_litT hΓ (enc := (eN .i64)) [y1, y3, y5, y7, y9, y11] rfl rfl rfl rfl rfl rfl rfl rfl rfl rfl rfl rfl ?_
  obtain ⟨y13, hy13, h14⟩ := bi_ok h12
  refine gl_callP (callable Tryz.func222 rfl rfl) (c_cmp_Or_int hy13) rfl rfl rfl rfl rfl rfl ?_
  refine go_draw hΓ 4 rfl ?_
  obtain rfl := Option.some.inj h14
  exact fin_pure hΓ (.inr rfl) rfl rfl

theorem c_laneref1_ZoneFault {z : T_api_Zone} {r : Int} (h : m_laneref1_ZoneFault z = some r) : Pure Tryz.prog 28 [.agg [S z.Root, .d (Sl e_api_Record z.Records)]] (I r) := by
  refine Pure.enter (Fr.of 0 _) Tryz.func28 rfl (Fr.of_ok _) rfl rfl ?_
  refine go_in ?_
  unfold m_laneref1_ZoneFault at h
  refine go hΓ 2 rfl ?_
  refine eo_box rfl rfl rfl rfl (Nat.le_of_ble_eq_true rfl) ?_
  obtain ⟨y1, hy1, h2⟩ := bi_ok h
  refine go_ops hΓ 8 rfl ?_
  refine eo_callP (callable Tryz.func31 rfl rfl) (c_laneref1_DomainFault hy1) rfl (Nat.le_of_ble_eq_true rfl) rfl rfl rfl rfl rfl ?_
  refine go_ops hΓ 9 rfl ?_
  refine j_cond rfl (fun hb => ?_) (fun hb => ?_)
  · have h3 := cT h2 hb
    refine go hΓ 8 rfl ?_
    obtain rfl := Option.some.inj h3
    exact fin_pure hΓ (.inr rfl) rfl rfl
  · have h4 := cF h2 hb
    refine go hΓ 11 rfl ?_
    refine j_cond rfl (fun hb => ?_) (fun hb => ?_)
    · have h5 := cT h4 hb
      refine go hΓ 7 rfl ?_
      obtain rfl := Option.some.inj h5
      exact fin_pure hΓ (.inr rfl) rfl rfl
    · have h6 := cF h4 hb
      refine go hΓ 11 rfl ?_
      obtain ⟨q10, hq10, h11⟩ := bi_ok h6
      refine j_bound 21 rfl fun hb13 => ?_
      refine j_cutEZ (R := fun a12 => q10 = .go a12) (fun a12 => []) (fun a12 => [.box 51 [S z.Root, .d (Sl e_api_Record z.Records)]]) ?_ ?_
      · refine go hΓ 1 rfl ?_
        refine j_range z.Records hq10 (fun i7 s8 => [(1, .ptr 0 0), (21, .d (Sl e_api_Record z.Records)), (22, I (z.Records.length : Int)), (23, I (i7 : Int))]) (fun s8 => [.box 51 [S z.Root, .d (Sl e_api_Record z.Records)]]) ⟨⟨rfl, rfl, rfl, rfl, trivial⟩, [], rfl, .inl rfl⟩ (fun i7 x9 s8 y17 hx14 hlt hy15 hout16 => ?_) (fun s8 hgo => ?_)
        · refine go hΓ 6 rfl ?_
          refine j_condT rfl (decide_eq_true (Int.ofNat_lt.2 hlt)) ?_
          refine go hΓ 7 rfl ?_
          refine eo_o rfl (op_elemZ hΓ (enc := e_api_Record) (getZ_nat hx14) rfl rfl rfl rfl rfl (fun _ => rfl)) ?_
          refine go_ops hΓ 1 rfl ?_
          refine eo_alloc hΓ rfl rfl rfl (Nat.le_of_ble_eq_true rfl) ?_
          refine go_ops hΓ 1 rfl ?_
          refine eo_store hΓ rfl rfl rfl rfl rfl rfl rfl rfl (Nat.le_of_ble_eq_true rfl) ?_
          refine eo_hp [.box 51 [S z.Root, .d (Sl e_api_Record z.Records)], .box 38 [S x9.Name, I x9.Kind, B x9.Addr.Six, .d (.v (.int .u64 x9.Addr.Hi)), .d (.v (.int .u64 x9.Addr.Lo)), S x9.To, S x9.Words, I x9.Life]] rfl ?_
          obtain ⟨y18, hy18, h19⟩ := bi_ok hy15
          refine go_ops hΓ 6 rfl ?_
          refine eo_callP (callable Tryz.func109 rfl rfl) (c_laneref1_RecordFault hy18) rfl (Nat.le_of_ble_eq_true rfl) rfl rfl rfl rfl rfl ?_
          refine go_ops hΓ 9 rfl ?_
          refine j_cond rfl (fun hb => ?_) (fun hb => ?_)
          · have h20 := cT h19 hb
            refine go hΓ 10 rfl ?_
            obtain ⟨v21, hv21, h22⟩ := bi_ok h20
            obtain rfl := Option.some.inj h22
            obtain rfl := hout16 _ rfl
            obtain rfl := Option.some.inj h11
            refine go hΓ 4 rfl ?_
            obtain rfl := Option.some.inj hv21
            exact fin_pure hΓ (.inr rfl) rfl rfl
          · have h23 := cF h19 hb
            refine go hΓ 4 rfl ?_
            refine j_draw hmix (by kernel_rfl) ?_
            obtain ⟨y24, hy24, h25⟩ := bi_ok h23
            refine go hΓ 2 rfl ?_
            refine gl_callP (callable Tryz.func111 rfl rfl) (c_laneref1_bare hy24) rfl rfl rfl rfl rfl rfl ?_
            obtain ⟨y26, hy26, h27⟩ := bi_ok h25
            refine go_draw hΓ 2 rfl ?_
            refine gl_callP (callable Tryz.func110 rfl rfl) (c_laneref1_IsUnder hy26) rfl rfl rfl rfl rfl rfl ?_
            refine go_draw hΓ 3 rfl ?_
            refine j_cond rfl (fun hb => ?_) (fun hb => ?_)
            · have h28 := cT h27 hb
              refine go hΓ 9 rfl ?_
              obtain ⟨v29, hv29, h30⟩ := bi_ok h28
              obtain rfl := Option.some.inj h30
              obtain rfl := hout16 _ rfl
              obtain rfl := Option.some.inj h11
              refine go hΓ 4 rfl ?_
              obtain rfl := Option.some.inj hv29
              exact fin_pure hΓ (.inr rfl) rfl rfl
            · have h31 := cF h27 hb
              refine go hΓ 9 rfl ?_
              refine j_cond rfl (fun hb => ?_) (fun hb => ?_)
              · have h32 := cT h31 hb
                refine go hΓ 8 rfl ?_
                obtain rfl := Option.some.inj h32
                exact ⟨_, rfl, ⟨⟨rfl, rfl, rfl, get_eq rfl (w64_succ (Nat.lt_of_lt_of_le hlt hb13)), trivial⟩, [_], rfl, .inr ⟨HB.mk rfl, FB.mk rfl, (Nat.le_of_ble_eq_true rfl)⟩⟩⟩
              · have h33 := cF h31 hb
                obtain ⟨x34, hx34, h35⟩ := bi_ok h33
                refine go hΓ 8 rfl ?_
                refine eo_o rfl (op_elemZ hΓ (enc := e_api_Record) hx34 rfl rfl rfl rfl rfl (fun _ => rfl)) ?_
                refine go_ops hΓ 1 rfl ?_
                refine eo_alloc hΓ rfl rfl rfl (Nat.le_of_ble_eq_true rfl) ?_
                refine eo_store hΓ rfl rfl rfl rfl rfl rfl rfl rfl (Nat.le_of_ble_eq_true rfl) ?_
                refine eo_hp [.box 51 [S z.Root, .d (Sl e_api_Record z.Records)], .box 38 [S x9.Name, I x9.Kind, B x9.Addr.Six, .d (.v (.int .u64 x9.Addr.Hi)), .d (.v (.int .u64 x9.Addr.Lo)), S x9.To, S x9.Words, I x9.Life], .box 38 [S x34.Name, I x34.Kind, B x34.Addr.Six, .d (.v (.int .u64 x34.Addr.Hi)), .d (.v (.int .u64 x34.Addr.Lo)), S x34.To, S x34.Words, I x34.Life]] rfl ?_
                refine go_ops hΓ 8 rfl ?_
                refine o_cut 4 [(1, .ptr 0 0), (5, .ptr 1 0), (7, .ptr 2 0), (21, .d (Sl e_api_Record z.Records)), (22, I (z.Records.length : Int)), (23, I (i7 : Int)), (55, B (((x9.Kind : Int) == 5) || ((x34.Kind : Int) == 5)))] [.box 51 [S z.Root, .d (Sl e_api_Record z.Records)], .box 38 [S x9.Name, I x9.Kind, B x9.Addr.Six, .d (.v (.int .u64 x9.Addr.Hi)), .d (.v (.int .u64 x9.Addr.Lo)), S x9.To, S x9.Words, I x9.Life], .box 38 [S x34.Name, I x34.Kind, B x34.Addr.Six, .d (.v (.int .u64 x34.Addr.Hi)), .d (.v (.int .u64 x34.Addr.Lo)), S x34.To, S x34.Words, I x34.Life]] ?_ ?_
                · refine eo_gsplit rfl rfl (fun hb => ?_) (fun hb => ?_)
                  · refine go_ops hΓ 5 rfl ?_
                    exact ⟨⟨rfl, rfl, rfl, rfl, rfl, rfl, get_b rfl (or_t hb), trivial⟩, [], rfl, .inl rfl⟩
                  · refine go_ops hΓ 5 rfl ?_
                    exact ⟨⟨rfl, rfl, rfl, rfl, rfl, rfl, get_b rfl (or_f hb), trivial⟩, [], rfl, .inl rfl⟩
                · obtain ⟨y36, hy36, h37⟩ := bi_ok h35
                  refine go_ops hΓ 7 rfl ?_
                  refine eo_callP (callable Tryz.func112 rfl rfl) (c_laneref1_recordOrder hy36) rfl (Nat.le_of_ble_eq_true rfl) rfl rfl rfl rfl rfl ?_
                  refine go_ops hΓ 11 rfl ?_
                  refine j_cond rfl (fun hb => ?_) (fun hb => ?_)
                  · have h38 := cT h37 hb
                    refine go hΓ 9 rfl ?_
                    obtain ⟨v39, hv39, h40⟩ := bi_ok h38
                    obtain rfl := Option.some.inj h40
                    obtain rfl := hout16 _ rfl
                    obtain rfl := Option.some.inj h11
                    refine go hΓ 4 rfl ?_
                    obtain rfl := Option.some.inj hv39
                    exact fin_pure hΓ (.inr rfl) rfl rfl
                  · have h41 := cF h37 hb
                    refine go hΓ 7 rfl ?_
                    refine j_cond rfl (fun hb => ?_) (fun hb => ?_)
                    · have h42 := cT h41 hb
                      refine go hΓ 9 rfl ?_
                      obtain ⟨v43, hv43, h44⟩ := bi_ok h42
                      obtain rfl := Option.some.inj h44
                      obtain rfl := hout16 _ rfl
                      obtain rfl := Option.some.inj h11
                      refine go hΓ 4 rfl ?_
                      obtain rfl := Option.some.inj hv43
                      exact fin_pure hΓ (.inr rfl) rfl rfl
                    · have h45 := cF h41 hb
                      refine go hΓ 8 rfl ?_
                      refine o_cut 2 [(1, .ptr 0 0), (21, .d (Sl e_api_Record z.Records)), (22, I (z.Records.length : Int)), (23, I (i7 : Int)), (73, B (((x34.Name : Str) == x9.Name) && (((x9.Kind : Int) == 5) || ((x34.Kind : Int) == 5))))] [.box 51 [S z.Root, .d (Sl e_api_Record z.Records)], .box 38 [S x9.Name, I x9.Kind, B x9.Addr.Six, .d (.v (.int .u64 x9.Addr.Hi)), .d (.v (.int .u64 x9.Addr.Lo)), S x9.To, S x9.Words, I x9.Life], .box 38 [S x34.Name, I x34.Kind, B x34.Addr.Six, .d (.v (.int .u64 x34.Addr.Hi)), .d (.v (.int .u64 x34.Addr.Lo)), S x34.To, S x34.Words, I x34.Life]] ?_ ?_
                      · refine eo_gsplit rfl rfl (fun hb => ?_) (fun hb => ?_)
                        · refine go_ops hΓ 3 rfl ?_
                          exact ⟨⟨rfl, rfl, rfl, rfl, get_b rfl (and_t hb), trivial⟩, [], rfl, .inl rfl⟩
                        · refine go_ops hΓ 3 rfl ?_
                          exact ⟨⟨rfl, rfl, rfl, rfl, get_b rfl (and_f hb), trivial⟩, [], rfl, .inl rfl⟩
                      · refine go_ops hΓ 3 rfl ?_
                        refine j_cond rfl (fun hb => ?_) (fun hb => ?_)
                        · have h46 := cT h45 hb
                          refine go hΓ 9 rfl ?_
                          obtain ⟨v47, hv47, h48⟩ := bi_ok h46
                          obtain rfl := Option.some.inj h48
                          obtain rfl := hout16 _ rfl
                          obtain rfl := Option.some.inj h11
                          refine go hΓ 4 rfl ?_
                          obtain rfl := Option.some.inj hv47
                          exact fin_pure hΓ (.inr rfl) rfl rfl
                        · have h49 := cF h45 hb
                          refine go hΓ 8 rfl ?_
                          obtain rfl := Option.some.inj h49
                          exact ⟨_, rfl, ⟨⟨rfl, rfl, rfl, get_eq rfl (w64_succ (Nat.lt_of_lt_of_le hlt hb13)), trivial⟩, [_, _], rfl, .inr ⟨HB.mk rfl, FB.mk rfl, (Nat.le_of_ble_eq_true rfl)⟩⟩⟩
        · subst hgo
          refine go hΓ 6 rfl ?_
          refine j_condF rfl (decide_eq_false (Int.lt_irrefl _)) ?_
          refine go hΓ 4 rfl ?_
          exact ⟨_, rfl, ⟨trivial, [], rfl, .inl rfl⟩⟩
      · intro a12 ha
        subst ha
        replace h11 := goI_l h11
        refine go hΓ 7 rfl ?_
        obtain rfl := Option.some.inj h11
        exact fin_pure hΓ (.inr rfl) rfl rfl

theorem c_lanelaw1_when {is : Bool} {e : Int} {r : Int} (h : m_lanelaw1_when is e = some r) : Pure Tryz.prog 32 [B is, I e] (I r) := by
  refine Pure.enter (Fr.of 0 _) Tryz.func32 rfl (Fr.of_ok _) rfl rfl ?_
  refine go_in ?_
  unfold m_lanelaw1_when at h
  refine go hΓ 11 rfl ?_
  refine j_cond rfl (fun hb => ?_) (fun hb => ?_)
  · have h1 := cT h hb
    refine go hΓ 8 rfl ?_
    obtain rfl := Option.some.inj h1
    exact fin_pure hΓ (.inr rfl) rfl rfl
  · have h2 := cF h hb
    refine go hΓ 8 rfl ?_
    obtain rfl := Option.some.inj h2
    exact fin_pure hΓ (.inr rfl) rfl rfl

theorem c_cmp_Or_api_Errno {vals : List Int} {r : Int} (h : m_cmp_Or_api_Errno vals = some r) : Pure Tryz.prog 30 [.d (Sl (eN .i64) vals)] (I r) := by
  refine Pure.enter (Fr.of 0 _) Tryz.func30 rfl (Fr.of_ok _) rfl rfl ?_
  refine go_in ?_
  unfold m_cmp_Or_api_Errno at h
  refine go hΓ 18 rfl ?_
  obtain ⟨q4, hq4, h5⟩ := bi_ok h
  refine j_bound 6 rfl fun hb7 => ?_
  refine j_cutEZ (R := fun a6 => q4 = .go a6) (fun a6 => [(3, I 0)]) (fun a6 => []) ?_ ?_
  · refine go hΓ 1 rfl ?_
    refine j_range vals hq4 (fun i1 s2 => [(3, I 0), (6, .d (Sl (eN .i64) vals)), (7, I (vals.length : Int)), (8, I (i1 : Int))]) (fun s2 => []) ⟨⟨rfl, rfl, rfl, rfl, trivial⟩, [], rfl, .inl rfl⟩ (fun i1 x3 s2 y11 hx8 hlt hy9 hout10 => ?_) (fun s2 hgo => ?_)
    · refine go hΓ 6 rfl ?_
      refine j_condT rfl (decide_eq_true (Int.ofNat_lt.2 hlt)) ?_
      refine go hΓ 6 rfl ?_
      refine eo_o rfl (op_elemZ hΓ (enc := (eN .i64)) (getZ_nat hx8) rfl rfl rfl rfl rfl (fun _ => rfl)) ?_
      refine go_ops hΓ 11 rfl ?_
      refine j_cond rfl (fun hb => ?_) (fun hb => ?_)
      · have h12 := cT hy9 hb
        refine go hΓ 9 rfl ?_
        obtain ⟨v13, hv13, h14⟩ := bi_ok h12
        obtain rfl := Option.some.inj h14
        obtain rfl := hout10 _ rfl
        obtain rfl := Option.some.inj h5
        refine go hΓ 4 rfl ?_
        obtain rfl := Option.some.inj hv13
        exact fin_pure hΓ (.inr rfl) rfl rfl
      · have h15 := cF hy9 hb
        refine go hΓ 7 rfl ?_
        obtain rfl := Option.some.inj h15
        exact ⟨_, rfl, ⟨⟨rfl, rfl, rfl, get_eq rfl (w64_succ (Nat.lt_of_lt_of_le hlt hb7)), trivial⟩, [], rfl, .inl rfl⟩⟩
    · subst hgo
      refine go hΓ 6 rfl ?_
      refine j_condF rfl (decide_eq_false (Int.lt_irrefl _)) ?_
      refine go hΓ 4 rfl ?_
      exact ⟨_, rfl, ⟨⟨rfl, trivial⟩, [], rfl, .inl rfl⟩⟩
  · intro a6 ha
    subst ha
    replace h5 := goI_l h5
    refine go hΓ 8 rfl ?_
    obtain rfl := Option.some.inj h5
    exact fin_pure hΓ (.inr rfl) rfl rfl

theorem c_name_Label {s : Str} {r : Str} (h : m_name_Label s = some r) : Pure Tryz.prog 65 [S s] (S r) := by
  refine Pure.enter (Fr.of 0 _) Tryz.func65 rfl (Fr.of_ok _) rfl rfl ?_
  refine go_in ?_
  unfold m_name_Label at h
  refine go hΓ 7 rfl ?_
  refine eo_nilOwn (t := 0) 5 1 rfl (Nat.le_of_ble_eq_true rfl) ?_
  refine go_ops hΓ 10 rfl ?_
  obtain ⟨q4, hq4, h5⟩ := bi_ok h
  obtain ⟨hb7, h8⟩ := gd_ok hq4
  replace hb7 := of_decide_eq_true hb7
  refine j_cutNZ [(3, .sl 0 q4.length)] [.row 5 1 q4.length (q4.flatMap (eN .u8))] ?_ ?_
  · refine go hΓ 1 rfl ?_
    refine j_rangeG h8 (fun i1 s2 => [(0, S s), (3, .sl 0 s2.length), (8, I (s.length : Int)), (9, I (i1 : Int))]) (fun s2 => [.row 5 1 s2.length (s2.flatMap (eN .u8))]) ⟨⟨rfl, rfl, rfl, rfl, trivial⟩, [], rfl, .inl rfl⟩ (fun i1 s2 y12 hlt hy10 => ?_) (fun hge => ?_)
    · refine go hΓ 6 rfl ?_
      refine j_condT rfl (decide_eq_true hlt) ?_
      obtain ⟨c13, hc13, h14⟩ := bi_ok hy10
      refine go hΓ 14 rfl ?_
      refine eo_o rfl (op_byteZ hΓ hc13 rfl rfl rfl rfl) ?_
      refine go_ops hΓ 9 rfl ?_
      refine o_cut 3 [(0, S s), (3, .sl 0 s2.length), (5, .d (.v (.int .u8 (c13.toNat : Int)))), (8, I (s.length : Int)), (9, I (i1 : Int)), (20, B ((decide (((c13.toNat : Int) : Int) ≥ 65)) && (decide (((c13.toNat : Int) : Int) ≤ 90))))] [.row 5 1 s2.length (s2.flatMap (eN .u8))] ?_ ?_
      · refine eo_gsplit rfl rfl (fun hb => ?_) (fun hb => ?_)
        · refine go_ops hΓ 4 rfl ?_
          exact ⟨⟨rfl, rfl, rfl, rfl, rfl, get_b rfl (and_t hb), trivial⟩, [], rfl, .inl rfl⟩
        · refine go_ops hΓ 4 rfl ?_
          exact ⟨⟨rfl, rfl, rfl, rfl, rfl, get_b rfl (and_f hb), trivial⟩, [], rfl, .inl rfl⟩
      · obtain ⟨q15, hq15, h16⟩ := bi_ok h14
        refine go_ops hΓ 2 rfl ?_
        refine j_cutNZ [(0, S s), (3, .sl 0 s2.length), (5, .d (.v (.int .u8 q15))), (8, I (s.length : Int)), (9, I (i1 : Int))] [.row 5 1 s2.length (s2.flatMap (eN .u8))] ?_ ?_
        · refine j_cond rfl (fun hb => ?_) (fun hb => ?_)
          · have h17 := cT hq15 hb
            refine go hΓ 5 rfl ?_
            obtain rfl := Option.some.inj h17
            exact ⟨⟨rfl, rfl, rfl, rfl, rfl, trivial⟩, [], rfl, .inl rfl⟩
          · have h18 := cF hq15 hb
            refine go hΓ 1 rfl ?_
            obtain rfl := Option.some.inj h18
            exact ⟨⟨rfl, rfl, rfl, rfl, rfl, trivial⟩, [], rfl, .inl rfl⟩
        · obtain ⟨y19, hy19, h20⟩ := bi_ok h16
          refine go hΓ 5 rfl ?_
          refine eo_callP (callable Tryz.func175 rfl rfl) (c_name_isLetter hy19) rfl (Nat.le_of_ble_eq_true rfl) rfl rfl rfl rfl rfl ?_
          refine go_ops hΓ 3 rfl ?_
          refine j_cond rfl (fun hb => ?_) (fun hb => ?_)
          · have h21 := cT h20 hb
            refine go hΓ 3 rfl ?_
            refine eo_litT hΓ (enc := (eN .u8)) [q15] rfl rfl rfl rfl rfl rfl rfl rfl rfl rfl rfl rfl (Nat.le_of_ble_eq_true rfl) ?_
            obtain ⟨y22, hy22, h23⟩ := bi_ok h21
            refine eo_appendT hΓ (enc := (eN .u8)) hy22 rfl rfl rfl rfl rfl rfl rfl rfl rfl (fun _ => rfl) rfl rfl rfl rfl ?_
            refine go_ops hΓ 9 rfl ?_
            obtain rfl := Option.some.inj h23
            exact ⟨⟨rfl, rfl, rfl, get_eq rfl (w64_succ (by omega)), trivial⟩, [], rfl, .inl rfl⟩
          · have h24 := cF h20 hb
            refine go hΓ 6 rfl ?_
            obtain ⟨q25, hq25, h26⟩ := bi_ok h24
            refine o_cut 8 [(0, S s), (3, .sl 0 s2.length), (8, I (s.length : Int)), (9, I (i1 : Int)), (42, B q25)] [.row 5 1 s2.length (s2.flatMap (eN .u8))] ?_ ?_
            · refine eo_gsplit rfl rfl (fun hb => ?_) (fun hb => ?_)
              · have h27 := cT hq25 hb
                refine go_ops hΓ 9 rfl ?_
                obtain rfl := Option.some.inj h27
                exact ⟨⟨rfl, rfl, rfl, rfl, rfl, trivial⟩, [], rfl, .inl rfl⟩
              · have h28 := cF hq25 hb
                obtain ⟨x29, hx29, h30⟩ := bi_ok h28
                have hj31 := getZ_at hx29
                refine go_ops hΓ 4 rfl ?_
                refine eo_guard rfl ?_
                refine eo_o rfl (op_elemRowZ hΓ hx29 rfl rfl rfl rfl rfl rfl) ?_
                refine eo_guard rfl ?_
                refine eo_o rfl (op_loadRowZ hΓ (enc := (eN .u8)) ((wi ((s2.length : Int) - 1)).toNat) 0 hj31 rfl rfl rfl rfl (fun _ => rfl) (g := .d (.v (.int .u8 x29))) rfl) ?_
                refine go_ops hΓ 3 rfl ?_
                obtain rfl := Option.some.inj h30
                exact ⟨⟨rfl, rfl, rfl, rfl, rfl, trivial⟩, [], rfl, .inl rfl⟩
            · refine go_ops hΓ 3 rfl ?_
              refine j_cond rfl (fun hb => ?_) (fun hb => ?_)
              · have h32 := cT h26 hb
                refine go hΓ 2 rfl ?_
                refine eo_litT hΓ (enc := (eN .u8)) [45] rfl rfl rfl rfl rfl rfl rfl rfl rfl rfl rfl rfl (Nat.le_of_ble_eq_true rfl) ?_
                obtain ⟨y33, hy33, h34⟩ := bi_ok h32
                refine eo_appendT hΓ (enc := (eN .u8)) hy33 rfl rfl rfl rfl rfl rfl rfl rfl rfl (fun _ => rfl) rfl rfl rfl rfl ?_
                refine go_ops hΓ 9 rfl ?_
                obtain rfl := Option.some.inj h34
                exact ⟨⟨rfl, rfl, rfl, get_eq rfl (w64_succ (by omega)), trivial⟩, [], rfl, .inl rfl⟩
              · have h35 := cF h26 hb
                refine go hΓ 8 rfl ?_
                obtain rfl := Option.some.inj h35
                exact ⟨⟨rfl, rfl, rfl, get_eq rfl (w64_succ (by omega)), trivial⟩, [], rfl, .inl rfl⟩
    · refine go hΓ 6 rfl ?_
      refine j_condF rfl (decide_eq_false hge) ?_
      refine go hΓ 4 rfl ?_
      exact ⟨⟨rfl, trivial⟩, [], rfl, .inl rfl⟩
  · obtain ⟨z36, hz36, h37⟩ := bi_ok h5
    refine go hΓ 7 rfl ?_
    refine eo_subRowZ hΓ (enc := (eN .u8)) hz36 rfl rfl rfl rfl rfl rfl rfl rfl (fun _ => rfl) rfl (Nat.le_of_ble_eq_true rfl) ?_
    obtain ⟨y38, hy38, h39⟩ := bi_ok h37
    refine eo_o rfl (op_strRowZ hΓ hy38 rfl rfl rfl rfl rfl rfl rfl rfl rfl) ?_
    obtain ⟨y40, hy40, h41⟩ := bi_ok h39
    refine eo_callP (callable Tryz.func176 rfl rfl) (c_strings_Trim hy40) rfl (Nat.le_of_ble_eq_true rfl) rfl rfl rfl rfl rfl ?_
    refine go_ops hΓ 10 rfl ?_
    refine j_cond rfl (fun hb => ?_) (fun hb => ?_)
    · have h42 := cT h41 hb
      refine go hΓ 7 rfl ?_
      obtain rfl := Option.some.inj h42
      exact fin_pure hΓ (.inr rfl) rfl rfl
    · have h43 := cF h41 hb
      refine go hΓ 9 rfl ?_
      obtain rfl := Option.some.inj h43
      exact fin_pure hΓ (.inr rfl) rfl rfl

theorem c_lanelaw1_named {k : Nat} {r : Bool} (h : m_lanelaw1_named k = some r) : Pure Tryz.prog 19 [] (B r) := by
  refine Pure.enter (Fr.of 0 _) Tryz.func19 rfl (Fr.of_ok _) rfl rfl ?_
  refine go_in ?_
  unfold m_lanelaw1_named at h
  obtain ⟨y1, hy1, h2⟩ := bi_ok h
  refine go hΓ 7 rfl ?_
  refine eo_callP (callable Tryz.func65 rfl rfl) (c_name_Label hy1) rfl (Nat.le_of_ble_eq_true rfl) rfl rfl rfl rfl rfl ?_
  refine go_ops hΓ 2 rfl ?_
  obtain ⟨q3, hq3, h4⟩ := bi_ok h2
  refine o_cut 3 [(0, B false), (6, B q3)] [] ?_ ?_
  · refine eo_gsplit rfl rfl (fun hb => ?_) (fun hb => ?_)
    · have h5 := cT hq3 hb
      obtain ⟨y6, hy6, h7⟩ := bi_ok h5
      refine eo_guard rfl ?_
      refine eo_callP (callable Tryz.func90 rfl rfl) (c_name_CheckDomain hy6) rfl (Nat.le_of_ble_eq_true rfl) rfl rfl rfl rfl rfl ?_
      refine go_ops hΓ 3 rfl ?_
      obtain rfl := Option.some.inj h7
      exact ⟨⟨rfl, rfl, trivial⟩, [], rfl, .inl rfl⟩
    · have h8 := cF hq3 hb
      refine go_ops hΓ 4 rfl ?_
      obtain rfl := Option.some.inj h8
      exact ⟨⟨rfl, rfl, trivial⟩, [], rfl, .inl rfl⟩
  · refine go_ops hΓ 4 rfl ?_
    obtain rfl := Option.some.inj h4
    exact fin_pure hΓ (.inr rfl) rfl rfl

theorem c_laneref1_there_1 {v_r : T_api_Record} {x : Str} {r : Bool} (h : m_laneref1_there_1 v_r x = some r) : EC Tryz.prog 228 [.agg [S v_r.Name, I v_r.Kind, B v_r.Addr.Six, .d (.v (.int .u64 v_r.Addr.Hi)), .d (.v (.int .u64 v_r.Addr.Lo)), S v_r.To, S v_r.Words, I v_r.Life], .ptr 0 0] [.box 9 [S x]] fun g hp' => g = B r ∧ hp' = [.box 9 [S x]] := by
  refine ec_enter (Fr.of 0 _) Tryz.func228 rfl (Fr.of_ok _) (Nat.le_of_ble_eq_true rfl) fun _ => ?_
  refine go_in ?_
  unfold m_laneref1_there_1 at h
  refine go hΓ 2 rfl ?_
  refine eo_box rfl rfl rfl rfl (Nat.le_of_ble_eq_true rfl) ?_
  refine go_ops hΓ 4 rfl ?_
  refine j_draw hmix (by kernel_rfl) ?_
  obtain ⟨y1, hy1, h2⟩ := bi_ok h
  refine go hΓ 2 rfl ?_
  refine gl_callP (callable Tryz.func111 rfl rfl) (c_laneref1_bare hy1) rfl rfl rfl rfl rfl rfl ?_
  obtain ⟨y3, hy3, h4⟩ := bi_ok h2
  refine go_draw hΓ 1 rfl ?_
  refine gl_callP (callable Tryz.func110 rfl rfl) (c_laneref1_IsUnder hy3) rfl rfl rfl rfl rfl rfl ?_
  refine go_draw hΓ 4 rfl ?_
  obtain rfl := Option.some.inj h4
  exact fin_objs hΓ [_] (.inr rfl) rfl rfl rfl rfl (.inr ⟨HB.mk rfl, rfl⟩)

theorem c_slices_IndexFunc_api_Record_api_Record_4 {s : List T_api_Record} {f : Str} {r : Int} (h : m_slices_IndexFunc_api_Record_api_Record_4 s f = some r) : EC Tryz.prog 218 [.d (Sl e_api_Record s), .fn (.func 228) [] [.ptr 0 0]] [.box 9 [S f]] fun g hp' => g = I r ∧ hp' = [.box 9 [S f]] := by
  refine ec_enter (Fr.of 0 _) Tryz.func218 rfl (Fr.of_ok _) (Nat.le_of_ble_eq_true rfl) fun _ => ?_
  refine go_in ?_
  unfold m_slices_IndexFunc_api_Record_api_Record_4 at h
  refine go hΓ 13 rfl ?_
  obtain ⟨q4, hq4, h5⟩ := bi_ok h
  refine j_bound 0 rfl fun hb7 => ?_
  refine j_cutEZ (R := fun a6 => q4 = .go a6) (fun a6 => []) (fun a6 => [.box 9 [S f]]) ?_ ?_
  · refine go hΓ 1 rfl ?_
    refine j_range s hq4 (fun i1 s2 => [(0, .d (Sl e_api_Record s)), (1, .fn (.func 228) [] [.ptr 0 0]), (7, I (s.length : Int)), (8, I (i1 : Int))]) (fun s2 => [.box 9 [S f]]) ⟨⟨rfl, rfl, rfl, rfl, trivial⟩, [], rfl, .inl rfl⟩ (fun i1 x3 s2 y11 hx8 hlt hy9 hout10 => ?_) (fun s2 hgo => ?_)
    · refine go hΓ 6 rfl ?_
      refine j_condT rfl (decide_eq_true (Int.ofNat_lt.2 hlt)) ?_
      refine go hΓ 15 rfl ?_
      refine eo_o rfl (op_elemZ hΓ (enc := e_api_Record) (getZ_nat hx8) rfl rfl rfl rfl rfl (fun _ => rfl)) ?_
      obtain ⟨y12, hy12, h13⟩ := bi_ok hy9
      refine go_ops hΓ 1 rfl ?_
      refine eo_callF [0] (B y12) [.box 9 [S f]] (callable Tryz.func228 rfl rfl) (c_laneref1_there_1 hy12) rfl (Nat.le_of_ble_eq_true rfl) rfl rfl rfl rfl rfl rfl rfl rfl rfl rfl ?_
      refine go_ops hΓ 2 rfl ?_
      refine j_cond rfl (fun hb => ?_) (fun hb => ?_)
      · have h14 := cT h13 hb
        refine go hΓ 9 rfl ?_
        obtain ⟨v15, hv15, h16⟩ := bi_ok h14
        obtain rfl := Option.some.inj h16
        obtain rfl := hout10 _ rfl
        obtain rfl := Option.some.inj h5
        refine go hΓ 4 rfl ?_
        obtain rfl := Option.some.inj hv15
        exact fin_objs hΓ [] (.inr rfl) rfl rfl rfl rfl (.inl rfl)
      · have h17 := cF h13 hb
        refine go hΓ 7 rfl ?_
        obtain rfl := Option.some.inj h17
        exact ⟨_, rfl, ⟨⟨rfl, rfl, rfl, get_eq rfl (w64_succ (Nat.lt_of_lt_of_le hlt hb7)), trivial⟩, [], rfl, .inl rfl⟩⟩
    · subst hgo
      refine go hΓ 6 rfl ?_
      refine j_condF rfl (decide_eq_false (Int.lt_irrefl _)) ?_
      refine go hΓ 4 rfl ?_
      exact ⟨_, rfl, ⟨trivial, [], rfl, .inl rfl⟩⟩
  · intro a6 ha
    subst ha
    replace h5 := goI_l h5
    refine go hΓ 7 rfl ?_
    obtain rfl := Option.some.inj h5
    exact fin_objs hΓ [] (.inr rfl) rfl rfl rfl rfl (.inl rfl)

theorem c_slices_ContainsFunc_api_Record_api_Record_2 {s : List T_api_Record} {f : Str} {r : Bool} (h : m_slices_ContainsFunc_api_Record_api_Record_2 s f = some r) : EC Tryz.prog 227 [.d (Sl e_api_Record s), .fn (.func 228) [] [.ptr 0 0]] [.box 9 [S f]] fun g hp' => g = B r ∧ hp' = [.box 9 [S f]] := by
  refine ec_enter (Fr.of 0 _) Tryz.func227 rfl (Fr.of_ok _) (Nat.le_of_ble_eq_true rfl) fun _ => ?_
  refine go_in ?_
  unfold m_slices_ContainsFunc_api_Record_api_Record_2 at h
  obtain ⟨y1, hy1, h2⟩ := bi_ok h
  refine go hΓ 9 rfl ?_
  refine eo_callF [0] (I y1) [.box 9 [S f]] (callable Tryz.func218 rfl rfl) (c_slices_IndexFunc_api_Record_api_Record_4 hy1) rfl (Nat.le_of_ble_eq_true rfl) rfl rfl rfl rfl rfl rfl rfl rfl rfl rfl ?_
  refine go_ops hΓ 5 rfl ?_
  obtain rfl := Option.some.inj h2
  exact fin_objs hΓ [] (.inr rfl) rfl rfl rfl rfl (.inl rfl)

theorem c_laneref1_there {z : T_api_Zone} {name : Str} {r : Bool} (h : m_laneref1_there z name = some r) : Pure Tryz.prog 119 [.agg [S z.Root, .d (Sl e_api_Record z.Records)], S name] (B r) := by
  refine Pure.enter (Fr.of 0 _) Tryz.func119 rfl (Fr.of_ok _) rfl rfl ?_
  refine go_in ?_
  unfold m_laneref1_there at h
  refine go hΓ 2 rfl ?_
  refine eo_box rfl rfl rfl rfl (Nat.le_of_ble_eq_true rfl) ?_
  refine eo_box rfl rfl rfl rfl (Nat.le_of_ble_eq_true rfl) ?_
  obtain ⟨y1, hy1, h2⟩ := bi_ok h
  refine go_ops hΓ 8 rfl ?_
  refine eo_callF [1] (B y1) [.box 51 [S z.Root, .d (Sl e_api_Record z.Records)], .box 9 [S name]] (callable Tryz.func227 rfl rfl) (c_slices_ContainsFunc_api_Record_api_Record_2 hy1) rfl (Nat.le_of_ble_eq_true rfl) rfl rfl rfl rfl rfl rfl rfl rfl rfl rfl ?_
  refine go_ops hΓ 4 rfl ?_
  obtain rfl := Option.some.inj h2
  exact fin_pure hΓ (.inr rfl) rfl rfl

theorem c_laneref1_recordsAt {k : Nat} {z : T_api_Zone} {name : Str} {r : List T_api_Record} (h : m_laneref1_recordsAt k z name = some r) : Pure Tryz.prog 120 [.agg [S z.Root, .d (Sl e_api_Record z.Records)], S name] (.d (Sl e_api_Record r)) := by
  refine Pure.enter (Fr.of 0 _) Tryz.func120 rfl (Fr.of_ok _) rfl rfl ?_
  refine go_in ?_
  unfold m_laneref1_recordsAt at h
  refine go hΓ 2 rfl ?_
  refine eo_box rfl rfl rfl rfl (Nat.le_of_ble_eq_true rfl) ?_
  obtain ⟨y1, hy1, h2⟩ := bi_ok h
  refine go_ops hΓ 14 rfl ?_
  refine eo_callP (callable Tryz.func119 rfl rfl) (c_laneref1_there hy1) rfl (Nat.le_of_ble_eq_true rfl) rfl rfl rfl rfl rfl ?_
  obtain ⟨q3, hq3, h4⟩ := bi_ok h2
  refine go_ops hΓ 3 rfl ?_
  refine j_cutSZ (q := q3) (fun a5 => [(1, S name), (2, .ptr 0 0), (5, S a5)]) (fun a5 => [.box 51 [S z.Root, .d (Sl e_api_Record z.Records)]]) ?_ ?_
  · refine j_cond rfl (fun hb => ?_) (fun hb => ?_)
    · have h6 := cT hq3 hb
      refine go hΓ 7 rfl ?_
      obtain ⟨q10, hq10, h11⟩ := bi_ok h6
      refine j_cutNZ [(1, S name), (2, .ptr 0 0), (6, S q10)] [.box 51 [S z.Root, .d (Sl e_api_Record z.Records)]] ?_ ?_
      · refine go hΓ 1 rfl ?_
        refine j_loop hq10 (fun s8 => [(1, S name), (2, .ptr 0 0), (6, S s8)]) (fun s8 => [.box 51 [S z.Root, .d (Sl e_api_Record z.Records)]]) ⟨⟨rfl, rfl, rfl, trivial⟩, [], rfl, .inl rfl⟩ (fun s8 y16 hy14 hout15 => ?_)
        refine go hΓ 9 rfl ?_
        refine j_cond rfl (fun hb => ?_) (fun hb => ?_)
        · have h17 := cT hy14 hb
          obtain ⟨y18, hy18, h19⟩ := bi_ok h17
          refine go hΓ 6 rfl ?_
          refine eo_callP (callable Tryz.func208 rfl rfl) (c_strings_Cut hy18) rfl (Nat.le_of_ble_eq_true rfl) rfl rfl rfl rfl rfl ?_
          obtain ⟨y20, hy20, h21⟩ := bi_ok h19
          refine go_ops hΓ 11 rfl ?_
          refine eo_callP (callable Tryz.func119 rfl rfl) (c_laneref1_there hy20) rfl (Nat.le_of_ble_eq_true rfl) rfl rfl rfl rfl rfl ?_
          refine go_ops hΓ 2 rfl ?_
          refine j_cond rfl (fun hb => ?_) (fun hb => ?_)
          · have h22 := cT h21 hb
            refine go hΓ 4 rfl ?_
            obtain rfl := Option.some.inj h22
            obtain rfl := hout15 _ rfl
            exact ⟨⟨rfl, rfl, rfl, trivial⟩, [], rfl, .inl rfl⟩
          · have h23 := cF h21 hb
            refine go hΓ 2 rfl ?_
            obtain rfl := Option.some.inj h23
            exact ⟨_, rfl, ⟨⟨rfl, rfl, rfl, trivial⟩, [], rfl, .inl rfl⟩⟩
        · have h24 := cF hy14 hb
          refine go hΓ 4 rfl ?_
          obtain rfl := Option.some.inj h24
          obtain rfl := hout15 _ rfl
          exact ⟨⟨rfl, rfl, rfl, trivial⟩, [], rfl, .inl rfl⟩
      · refine go hΓ 10 rfl ?_
        refine j_cond rfl (fun hb => ?_) (fun hb => ?_)
        · have h25 := cT h11 hb
          refine go hΓ 7 rfl ?_
          obtain ⟨v26, hv26, h27⟩ := bi_ok h25
          obtain rfl := Option.some.inj h27
          obtain rfl := Option.some.inj h4
          refine go hΓ 2 rfl ?_
          obtain rfl := Option.some.inj hv26
          exact fin_pure hΓ (.inr rfl) rfl rfl
        · have h28 := cF h11 hb
          obtain ⟨y29, hy29, h30⟩ := bi_ok h28
          refine go hΓ 4 rfl ?_
          refine eo_o rfl (op_catZ hy29 rfl rfl) ?_
          refine go_ops hΓ 2 rfl ?_
          obtain rfl := Option.some.inj h30
          exact ⟨_, rfl, ⟨⟨rfl, rfl, rfl, trivial⟩, [], rfl, .inl rfl⟩⟩
    · have h31 := cF hq3 hb
      refine go hΓ 1 rfl ?_
      obtain rfl := Option.some.inj h31
      exact ⟨_, rfl, ⟨⟨rfl, rfl, rfl, trivial⟩, [], rfl, .inl rfl⟩⟩
  · intro a5 ha
    subst ha
    replace h4 := orI_l h4
    refine go hΓ 3 rfl ?_
    refine eo_nilOwn (t := 0) 38 8 rfl (Nat.le_of_ble_eq_true rfl) ?_
    refine go_ops hΓ 11 rfl ?_
    obtain ⟨q35, hq35, h36⟩ := bi_ok h4
    refine j_bound 36 rfl fun hb38 => ?_
    refine j_cutNZ [(7, .sl 1 q35.length)] [.box 51 [S z.Root, .d (Sl e_api_Record z.Records)], .row 38 8 q35.length (q35.flatMap e_api_Record)] ?_ ?_
    · refine go hΓ 1 rfl ?_
      refine j_rangeF z.Records hq35 (fun i32 s33 => [(1, S name), (5, S a5), (7, .sl 1 s33.length), (36, .d (Sl e_api_Record z.Records)), (37, I (z.Records.length : Int)), (38, I (i32 : Int))]) (fun s33 => [.box 51 [S z.Root, .d (Sl e_api_Record z.Records)], .row 38 8 s33.length (s33.flatMap e_api_Record)]) ⟨⟨rfl, rfl, rfl, rfl, rfl, rfl, trivial⟩, [], rfl, .inl rfl⟩ (fun i32 x34 s33 y42 hx39 hlt hy40 => ?_) (?_)
      · refine go hΓ 6 rfl ?_
        refine j_condT rfl (decide_eq_true (Int.ofNat_lt.2 hlt)) ?_
        refine go hΓ 6 rfl ?_
        refine eo_o rfl (op_elemZ hΓ (enc := e_api_Record) (getZ_nat hx39) rfl rfl rfl rfl rfl (fun _ => rfl)) ?_
        refine go_ops hΓ 1 rfl ?_
        refine eo_alloc hΓ rfl rfl rfl (Nat.le_of_ble_eq_true rfl) ?_
        refine eo_store hΓ rfl rfl rfl rfl rfl rfl rfl rfl (Nat.le_of_ble_eq_true rfl) ?_
        refine eo_hp [.box 51 [S z.Root, .d (Sl e_api_Record z.Records)], .row 38 8 s33.length (s33.flatMap e_api_Record), .box 38 [S x34.Name, I x34.Kind, B x34.Addr.Six, .d (.v (.int .u64 x34.Addr.Hi)), .d (.v (.int .u64 x34.Addr.Lo)), S x34.To, S x34.Words, I x34.Life]] rfl ?_
        refine go_ops hΓ 10 rfl ?_
        refine j_cond rfl (fun hb => ?_) (fun hb => ?_)
        · have h43 := cT hy40 hb
          refine go hΓ 4 rfl ?_
          refine eo_store hΓ rfl rfl rfl rfl rfl rfl rfl rfl (Nat.le_of_ble_eq_true rfl) ?_
          refine eo_hp [.box 51 [S z.Root, .d (Sl e_api_Record z.Records)], .row 38 8 s33.length (s33.flatMap e_api_Record), .box 38 [S name, I x34.Kind, B x34.Addr.Six, .d (.v (.int .u64 x34.Addr.Hi)), .d (.v (.int .u64 x34.Addr.Lo)), S x34.To, S x34.Words, I x34.Life]] rfl ?_
          refine go_ops hΓ 5 rfl ?_
          refine eo_litT hΓ (enc := e_api_Record) [(⟨name, x34.Kind, x34.Addr, x34.To, x34.Words, x34.Life⟩ : T_api_Record)] rfl rfl rfl rfl rfl rfl rfl rfl rfl rfl rfl rfl (Nat.le_of_ble_eq_true rfl) ?_
          obtain ⟨y44, hy44, h45⟩ := bi_ok h43
          refine eo_appendT hΓ (enc := e_api_Record) hy44 rfl rfl rfl rfl rfl rfl rfl rfl rfl (fun _ => rfl) rfl rfl rfl rfl ?_
          refine go_ops hΓ 8 rfl ?_
          obtain rfl := Option.some.inj h45
          exact ⟨⟨rfl, rfl, rfl, rfl, rfl, get_eq rfl (w64_succ (Nat.lt_of_lt_of_le hlt hb38)), trivial⟩, [_], rfl, .inr ⟨HB.mk rfl, FB.mk rfl, (Nat.le_of_ble_eq_true rfl)⟩⟩
        · have h46 := cF hy40 hb
          refine go hΓ 7 rfl ?_
          obtain rfl := Option.some.inj h46
          exact ⟨⟨rfl, rfl, rfl, rfl, rfl, get_eq rfl (w64_succ (Nat.lt_of_lt_of_le hlt hb38)), trivial⟩, [_], rfl, .inr ⟨HB.mk rfl, FB.mk rfl, (Nat.le_of_ble_eq_true rfl)⟩⟩
      · refine go hΓ 6 rfl ?_
        refine j_condF rfl (decide_eq_false (Int.lt_irrefl _)) ?_
        refine go hΓ 4 rfl ?_
        exact ⟨⟨rfl, trivial⟩, [], rfl, .inl rfl⟩
    · refine go hΓ 5 rfl ?_
      refine eo_shr 1 [4] _ [.box 51 [S z.Root, .d (Sl e_api_Record z.Records)], .dead] rfl rfl rfl (Nat.le_of_ble_eq_true rfl) ?_
      refine go_ops hΓ 3 rfl ?_
      obtain rfl := Option.some.inj h36
      exact fin_pure hΓ (.inr rfl) rfl rfl

theorem c_laneref1_FindIn_1 {v_r : T_api_Record} {x : Int} {r : Bool} (h : m_laneref1_FindIn_1 v_r x = some r) : EC Tryz.prog 123 [.agg [S v_r.Name, I v_r.Kind, B v_r.Addr.Six, .d (.v (.int .u64 v_r.Addr.Hi)), .d (.v (.int .u64 v_r.Addr.Lo)), S v_r.To, S v_r.Words, I v_r.Life], .ptr 0 0] [.box 3 [I x]] fun g hp' => g = B r ∧ hp' = [.box 3 [I x]] := by
  refine ec_enter (Fr.of 0 _) Tryz.func123 rfl (Fr.of_ok _) (Nat.le_of_ble_eq_true rfl) fun _ => ?_
  refine go_in ?_
  unfold m_laneref1_FindIn_1 at h
  refine go hΓ 2 rfl ?_
  refine eo_box rfl rfl rfl rfl (Nat.le_of_ble_eq_true rfl) ?_
  refine go_ops hΓ 13 rfl ?_
  obtain rfl := Option.some.inj h
  exact fin_objs hΓ [_] (.inr rfl) rfl rfl rfl rfl (.inr ⟨HB.mk rfl, rfl⟩)

theorem c_slices_IndexFunc_api_Record_api_Record_5 {s : List T_api_Record} {f : Int} {r : Int} (h : m_slices_IndexFunc_api_Record_api_Record_5 s f = some r) : EC Tryz.prog 218 [.sl 0 s.length, .fn (.func 123) [] [.ptr 1 0]] [.row 38 8 s.length (s.flatMap e_api_Record), .box 3 [I f]] fun g hp' => g = I r ∧ hp' = [.row 38 8 s.length (s.flatMap e_api_Record), .box 3 [I f]] := by
  refine ec_enter (Fr.of 0 _) Tryz.func218 rfl (Fr.of_ok _) (Nat.le_of_ble_eq_true rfl) fun _ => ?_
  refine go_in ?_
  unfold m_slices_IndexFunc_api_Record_api_Record_5 at h
  refine go hΓ 13 rfl ?_
  obtain ⟨q4, hq4, h5⟩ := bi_ok h
  obtain ⟨hb7, h8⟩ := gd_ok hq4
  replace hb7 := of_decide_eq_true hb7
  refine j_cutEZ (R := fun a6 => q4 = .go a6) (fun a6 => []) (fun a6 => [.row 38 8 s.length (s.flatMap e_api_Record), .box 3 [I f]]) ?_ ?_
  · refine go hΓ 1 rfl ?_
    refine j_rangeI h8 (fun i1 s2 => [(0, .sl 0 s.length), (1, .fn (.func 123) [] [.ptr 1 0]), (7, I (s.length : Int)), (8, I (i1 : Int))]) (fun s2 => [.row 38 8 s.length (s.flatMap e_api_Record), .box 3 [I f]]) ⟨⟨rfl, rfl, rfl, rfl, trivial⟩, [], rfl, .inl rfl⟩ (fun i1 s2 y12 hlt hy10 hout11 => ?_) (fun s2 hgo hge => ?_)
    · refine go hΓ 6 rfl ?_
      refine j_condT rfl (decide_eq_true hlt) ?_
      obtain ⟨x13, hx13, h14⟩ := bi_ok hy10
      have hj15 := getZ_at hx13
      refine go hΓ 15 rfl ?_
      refine eo_o rfl (op_elemRowZ hΓ hx13 rfl rfl rfl rfl rfl rfl) ?_
      refine eo_o rfl (op_loadRowZ hΓ (enc := e_api_Record) ((i1 : Int).toNat) 0 hj15 rfl rfl rfl rfl (fun _ => rfl) (g := .agg [S x13.Name, I x13.Kind, B x13.Addr.Six, .d (.v (.int .u64 x13.Addr.Hi)), .d (.v (.int .u64 x13.Addr.Lo)), S x13.To, S x13.Words, I x13.Life]) rfl) ?_
      obtain ⟨y16, hy16, h17⟩ := bi_ok h14
      refine eo_callF [1] (B y16) [.row 38 8 s.length (s.flatMap e_api_Record), .box 3 [I f]] (callable Tryz.func123 rfl rfl) (c_laneref1_FindIn_1 hy16) rfl (Nat.le_of_ble_eq_true rfl) rfl rfl rfl rfl rfl rfl rfl rfl rfl rfl ?_
      refine go_ops hΓ 2 rfl ?_
      refine j_cond rfl (fun hb => ?_) (fun hb => ?_)
      · have h18 := cT h17 hb
        refine go hΓ 9 rfl ?_
        obtain ⟨v19, hv19, h20⟩ := bi_ok h18
        obtain rfl := Option.some.inj h20
        obtain rfl := hout11 _ rfl
        obtain rfl := Option.some.inj h5
        refine go hΓ 4 rfl ?_
        obtain rfl := Option.some.inj hv19
        exact fin_objs hΓ [] (.inr rfl) rfl rfl rfl rfl (.inl rfl)
      · have h21 := cF h17 hb
        refine go hΓ 7 rfl ?_
        obtain rfl := Option.some.inj h21
        exact ⟨_, rfl, ⟨⟨rfl, rfl, rfl, get_eq rfl (w64_succ (by omega)), trivial⟩, [], rfl, .inl rfl⟩⟩
    · subst hgo
      refine go hΓ 6 rfl ?_
      refine j_condF rfl (decide_eq_false hge) ?_
      refine go hΓ 4 rfl ?_
      exact ⟨_, rfl, ⟨trivial, [], rfl, .inl rfl⟩⟩
  · intro a6 ha
    subst ha
    replace h5 := goI_l h5
    refine go hΓ 7 rfl ?_
    obtain rfl := Option.some.inj h5
    exact fin_objs hΓ [] (.inr rfl) rfl rfl rfl rfl (.inl rfl)

theorem c_slices_DeleteFunc_api_Record_api_Record_2 {k : Nat} {s : List T_api_Record} {f : Int} {r : List T_api_Record} (h : m_slices_DeleteFunc_api_Record_api_Record_2 k s f = some r) : EC Tryz.prog 121 [.sl 0 s.length, .fn (.func 123) [] [.ptr 1 0]] [.row 38 8 s.length (s.flatMap e_api_Record), .box 3 [I f]] fun g hp' => g = .sl 0 r.length ∧ hp' = [.row 38 8 r.length (r.flatMap e_api_Record), .box 3 [I f]] := by
  refine ec_enter (Fr.of 0 _) Tryz.func121 rfl (Fr.of_ok _) (Nat.le_of_ble_eq_true rfl) fun _ => ?_
  refine go_in ?_
  unfold m_slices_DeleteFunc_api_Record_api_Record_2 at h
  obtain ⟨y1, hy1, h2⟩ := bi_ok h
  refine go hΓ 9 rfl ?_
  refine eo_callF [0, 1] (I y1) [.row 38 8 s.length (s.flatMap e_api_Record), .box 3 [I f]] (callable Tryz.func218 rfl rfl) (c_slices_IndexFunc_api_Record_api_Record_5 hy1) rfl (Nat.le_of_ble_eq_true rfl) rfl rfl rfl rfl rfl rfl rfl rfl rfl rfl ?_
  refine go_ops hΓ 10 rfl ?_
  refine j_cond rfl (fun hb => ?_) (fun hb => ?_)
  · have h3 := cT h2 hb
    refine go hΓ 8 rfl ?_
    obtain rfl := Option.some.inj h3
    exact fin_objs hΓ [] (.inr rfl) rfl rfl rfl rfl (.inl rfl)
  · have h4 := cF h2 hb
    refine go hΓ 10 rfl ?_
    obtain ⟨q8, hq8, h9⟩ := bi_ok h4
    refine j_cutNZ [(0, .sl 0 q8.1.length), (5, I q8.2)] [.row 38 8 q8.1.length (q8.1.flatMap e_api_Record), .box 3 [I f]] ?_ ?_
    · refine go hΓ 1 rfl ?_
      refine j_loop hq8 (fun s6 => [(0, .sl 0 s6.1.length), (1, .fn (.func 123) [] [.ptr 1 0]), (5, I s6.2.1), (6, I s6.2.2)]) (fun s6 => [.row 38 8 s6.1.length (s6.1.flatMap e_api_Record), .box 3 [I f]]) ⟨⟨rfl, rfl, rfl, rfl, trivial⟩, [], rfl, .inl rfl⟩ (fun s6 y14 hy12 hout13 => ?_)
      refine go hΓ 9 rfl ?_
      refine j_cond rfl (fun hb => ?_) (fun hb => ?_)
      · have h15 := cT hy12 hb
        obtain ⟨x16, hx16, h17⟩ := bi_ok h15
        have hj18 := getZ_at hx16
        refine go hΓ 8 rfl ?_
        refine eo_o rfl (op_elemRowZ hΓ hx16 rfl rfl rfl rfl rfl rfl) ?_
        refine eo_o rfl (op_loadRowZ hΓ (enc := e_api_Record) s6.2.2.toNat 0 hj18 rfl rfl rfl rfl (fun _ => rfl) (g := .agg [S x16.Name, I x16.Kind, B x16.Addr.Six, .d (.v (.int .u64 x16.Addr.Hi)), .d (.v (.int .u64 x16.Addr.Lo)), S x16.To, S x16.Words, I x16.Life]) rfl) ?_
        refine eo_alloc hΓ rfl rfl rfl (Nat.le_of_ble_eq_true rfl) ?_
        refine eo_store hΓ rfl rfl rfl rfl rfl rfl rfl rfl (Nat.le_of_ble_eq_true rfl) ?_
        refine eo_hp [.row 38 8 s6.1.length (s6.1.flatMap e_api_Record), .box 3 [I f], .box 38 [S x16.Name, I x16.Kind, B x16.Addr.Six, .d (.v (.int .u64 x16.Addr.Hi)), .d (.v (.int .u64 x16.Addr.Lo)), S x16.To, S x16.Words, I x16.Life]] rfl ?_
        obtain ⟨y19, hy19, h20⟩ := bi_ok h17
        refine go_ops hΓ 6 rfl ?_
        refine eo_callF [1] (B y19) [.row 38 8 s6.1.length (s6.1.flatMap e_api_Record), .box 3 [I f], .box 38 [S x16.Name, I x16.Kind, B x16.Addr.Six, .d (.v (.int .u64 x16.Addr.Hi)), .d (.v (.int .u64 x16.Addr.Lo)), S x16.To, S x16.Words, I x16.Life]] (callable Tryz.func123 rfl rfl) (c_laneref1_FindIn_1 hy19) rfl (Nat.le_of_ble_eq_true rfl) rfl rfl rfl rfl rfl rfl rfl rfl rfl rfl ?_
        refine go_ops hΓ 3 rfl ?_
        refine j_cond rfl (fun hb => ?_) (fun hb => ?_)
        · have h21 := cT h20 hb
          obtain ⟨x22, hx22, h23⟩ := bi_ok h21
          have hj24 := getZ_at hx22
          refine go hΓ 5 rfl ?_
          refine eo_o rfl (op_elemRowZ hΓ hx22 rfl rfl rfl rfl rfl rfl) ?_
          refine eo_storeRowZ hΓ (enc := e_api_Record) (z' := x16) s6.2.1.toNat 0 hj24 rfl rfl rfl rfl (fun _ => rfl) rfl rfl rfl rfl rfl rfl (Nat.le_of_ble_eq_true rfl) ?_
          refine eo_hp [.row 38 8 (s6.1.set s6.2.1.toNat x16).length ((s6.1.set s6.2.1.toNat x16).flatMap e_api_Record), .box 3 [I f], .box 38 [S x16.Name, I x16.Kind, B x16.Addr.Six, .d (.v (.int .u64 x16.Addr.Hi)), .d (.v (.int .u64 x16.Addr.Lo)), S x16.To, S x16.Words, I x16.Life]] rfl ?_
          refine eo_relen 0 (n' := (s6.1.set s6.2.1.toNat x16).length) rfl List.length_set.symm ?_
          refine go_ops hΓ 14 rfl ?_
          obtain rfl := Option.some.inj h23
          exact ⟨_, rfl, ⟨⟨rfl, rfl, rfl, rfl, trivial⟩, [_], rfl, .inr ⟨HB.mk rfl, FB.mk rfl, (Nat.le_of_ble_eq_true rfl)⟩⟩⟩
        · have h25 := cF h20 hb
          refine go hΓ 8 rfl ?_
          obtain rfl := Option.some.inj h25
          exact ⟨_, rfl, ⟨⟨rfl, rfl, rfl, rfl, trivial⟩, [_], rfl, .inr ⟨HB.mk rfl, FB.mk rfl, (Nat.le_of_ble_eq_true rfl)⟩⟩⟩
      · have h26 := cF hy12 hb
        refine go hΓ 4 rfl ?_
        obtain rfl := Option.some.inj h26
        obtain rfl := hout13 _ rfl
        exact ⟨⟨rfl, rfl, trivial⟩, [], rfl, .inl rfl⟩
    · obtain ⟨z27, hz27, h28⟩ := bi_ok h9
      refine go hΓ 5 rfl ?_
      refine eo_o rfl (op_viewI hΓ hz27 rfl rfl rfl rfl rfl rfl) ?_
      refine eo_s0 (Nat.le_of_ble_eq_true rfl) (ops_clearT hΓ (enc := e_api_Record) (a := q8.2) hz27 rfl rfl rfl rfl rfl rfl rfl rfl rfl rfl (fun _ => rfl)) ?_
      refine go_ops hΓ 6 rfl ?_
      refine eo_subCut hΓ hz27 rfl rfl rfl rfl rfl rfl rfl rfl ?_
      refine go_ops hΓ 4 rfl ?_
      obtain rfl := Option.some.inj h28
      exact fin_objs hΓ [] (.inr rfl) rfl rfl rfl rfl (.inl rfl)

theorem c_laneref1_FindIn {k : Nat} {z : T_api_Zone} {name : Str} {kind : Int} {r : (List T_api_Record) × Int} (h : m_laneref1_FindIn k z name kind = some r) : Pure Tryz.prog 35 [.agg [S z.Root, .d (Sl e_api_Record z.Records)], S name, I kind] (.tup [.d (Sl e_api_Record r.1), I r.2]) := by
  refine Pure.enter (Fr.of 0 _) Tryz.func35 rfl (Fr.of_ok _) rfl rfl ?_
  refine go_in ?_
  unfold m_laneref1_FindIn at h
  refine go hΓ 2 rfl ?_
  refine eo_box rfl rfl rfl rfl (Nat.le_of_ble_eq_true rfl) ?_
  refine eo_box rfl rfl rfl rfl (Nat.le_of_ble_eq_true rfl) ?_
  obtain ⟨y1, hy1, h2⟩ := bi_ok h
  refine go_ops hΓ 10 rfl ?_
  refine eo_callP (callable Tryz.func110 rfl rfl) (c_laneref1_IsUnder hy1) rfl (Nat.le_of_ble_eq_true rfl) rfl rfl rfl rfl rfl ?_
  refine go_ops hΓ 3 rfl ?_
  refine j_cond rfl (fun hb => ?_) (fun hb => ?_)
  · have h3 := cT h2 hb
    refine go hΓ 8 rfl ?_
    obtain rfl := Option.some.inj h3
    exact fin_pure hΓ (.inr rfl) rfl rfl
  · have h4 := cF h2 hb
    obtain ⟨y5, hy5, h6⟩ := bi_ok h4
    refine go hΓ 7 rfl ?_
    refine eo_callP (callable Tryz.func119 rfl rfl) (c_laneref1_there hy5) rfl (Nat.le_of_ble_eq_true rfl) rfl rfl rfl rfl rfl ?_
    refine go_ops hΓ 2 rfl ?_
    obtain ⟨q7, hq7, h8⟩ := bi_ok h6
    refine o_cut 6 [(1, S name), (3, .ptr 0 0), (5, .ptr 1 0), (27, B q7)] [.box 51 [S z.Root, .d (Sl e_api_Record z.Records)], .box 3 [I kind]] ?_ ?_
    · refine eo_gsplit rfl rfl (fun hb => ?_) (fun hb => ?_)
      · have h9 := cT hq7 hb
        obtain ⟨y10, hy10, h11⟩ := bi_ok h9
        refine go_ops hΓ 2 rfl ?_
        refine eo_guard rfl ?_
        refine eo_callP (callable Tryz.func120 rfl rfl) (c_laneref1_recordsAt hy10) rfl (Nat.le_of_ble_eq_true rfl) rfl rfl rfl rfl rfl ?_
        refine go_ops hΓ 4 rfl ?_
        obtain rfl := Option.some.inj h11
        exact ⟨⟨rfl, rfl, rfl, rfl, trivial⟩, [], rfl, .inl rfl⟩
      · have h12 := cF hq7 hb
        refine go_ops hΓ 7 rfl ?_
        obtain rfl := Option.some.inj h12
        exact ⟨⟨rfl, rfl, rfl, rfl, trivial⟩, [], rfl, .inl rfl⟩
    · refine go_ops hΓ 2 rfl ?_
      refine j_cond rfl (fun hb => ?_) (fun hb => ?_)
      · have h13 := cT h8 hb
        refine go hΓ 8 rfl ?_
        obtain rfl := Option.some.inj h13
        exact fin_pure hΓ (.inr rfl) rfl rfl
      · have h14 := cF h8 hb
        refine go hΓ 4 rfl ?_
        refine eo_nilOwn (t := 0) 38 8 rfl (Nat.le_of_ble_eq_true rfl) ?_
        refine go_ops hΓ 7 rfl ?_
        obtain ⟨q18, hq18, h19⟩ := bi_ok h14
        refine go hΓ 1 rfl ?_
        refine j_loop hq18 (fun s16 => [(1, S s16.2.1), (3, .ptr 0 0), (5, .ptr 1 0), (8, .sl 2 s16.1.length), (9, I s16.2.2)]) (fun s16 => [.box 51 [S z.Root, .d (Sl e_api_Record z.Records)], .box 3 [I kind], .row 38 8 s16.1.length (s16.1.flatMap e_api_Record)]) ⟨⟨rfl, rfl, rfl, rfl, rfl, trivial⟩, [], rfl, .inl rfl⟩ (fun s16 y24 hy22 hout23 => ?_)
        obtain ⟨y25, hy25, h26⟩ := bi_ok hy22
        refine go hΓ 6 rfl ?_
        refine eo_callP (callable Tryz.func120 rfl rfl) (c_laneref1_recordsAt hy25) rfl (Nat.le_of_ble_eq_true rfl) rfl rfl rfl rfl rfl ?_
        obtain ⟨y27, hy27, h28⟩ := bi_ok h26
        refine go_ops hΓ 6 rfl ?_
        refine eo_callF [] (.sl 3 y27.length) [.box 51 [S z.Root, .d (Sl e_api_Record z.Records)], .box 3 [I kind], .row 38 8 s16.1.length (s16.1.flatMap e_api_Record), .row 38 8 y27.length (y27.flatMap e_api_Record)] (callable Tryz.func122 rfl rfl) (c_slices_Clone_api_Record_api_Record hy27) rfl (Nat.le_of_ble_eq_true rfl) rfl rfl rfl rfl rfl rfl rfl rfl rfl rfl ?_
        obtain ⟨y29, hy29, h30⟩ := bi_ok h28
        refine go_ops hΓ 1 rfl ?_
        refine eo_callF [3, 1] (.sl 3 y29.length) [.box 51 [S z.Root, .d (Sl e_api_Record z.Records)], .box 3 [I kind], .row 38 8 s16.1.length (s16.1.flatMap e_api_Record), .row 38 8 y29.length (y29.flatMap e_api_Record)] (callable Tryz.func121 rfl rfl) (c_slices_DeleteFunc_api_Record_api_Record_2 hy29) rfl (Nat.le_of_ble_eq_true rfl) rfl rfl rfl rfl rfl rfl rfl rfl rfl rfl ?_
        refine go_ops hΓ 10 rfl ?_
        refine o_cut 4 [(3, .ptr 0 0), (5, .ptr 1 0), (8, .sl 2 s16.1.length), (9, I s16.2.2), (10, .d (Sl e_api_Record y25)), (11, .sl 3 y29.length), (44, B ((decide (((y29.length : Int) : Int) > 0)) || (((y25.length : Int) : Int) == 0)))] [.box 51 [S z.Root, .d (Sl e_api_Record z.Records)], .box 3 [I kind], .row 38 8 s16.1.length (s16.1.flatMap e_api_Record), .row 38 8 y29.length (y29.flatMap e_api_Record)] ?_ ?_
        · refine eo_gsplit rfl rfl (fun hb => ?_) (fun hb => ?_)
          · refine go_ops hΓ 5 rfl ?_
            exact ⟨⟨rfl, rfl, rfl, rfl, rfl, rfl, get_b rfl (or_t hb), trivial⟩, [], rfl, .inl rfl⟩
          · refine go_ops hΓ 5 rfl ?_
            exact ⟨⟨rfl, rfl, rfl, rfl, rfl, rfl, get_b rfl (or_f hb), trivial⟩, [], rfl, .inl rfl⟩
        · refine go_ops hΓ 1 rfl ?_
          obtain ⟨q31, hq31, h32⟩ := bi_ok h30
          refine o_cut 6 [(3, .ptr 0 0), (5, .ptr 1 0), (8, .sl 2 s16.1.length), (9, I s16.2.2), (10, .d (Sl e_api_Record y25)), (11, .sl 3 y29.length), (51, B q31)] [.box 51 [S z.Root, .d (Sl e_api_Record z.Records)], .box 3 [I kind], .row 38 8 s16.1.length (s16.1.flatMap e_api_Record), .row 38 8 y29.length (y29.flatMap e_api_Record)] ?_ ?_
          · refine eo_gsplit rfl rfl (fun hb => ?_) (fun hb => ?_)
            · have h33 := cT hq31 hb
              refine go_ops hΓ 7 rfl ?_
              obtain rfl := Option.some.inj h33
              exact ⟨⟨rfl, rfl, rfl, rfl, rfl, rfl, rfl, trivial⟩, [], rfl, .inl rfl⟩
            · have h34 := cF hq31 hb
              obtain ⟨x35, hx35, h36⟩ := bi_ok h34
              refine go_ops hΓ 1 rfl ?_
              refine eo_guard rfl ?_
              refine eo_o rfl (op_elemZ hΓ (enc := e_api_Record) hx35 rfl rfl rfl rfl rfl (fun _ => rfl)) ?_
              refine go_ops hΓ 5 rfl ?_
              obtain rfl := Option.some.inj h36
              exact ⟨⟨rfl, rfl, rfl, rfl, rfl, rfl, rfl, trivial⟩, [], rfl, .inl rfl⟩
          · refine go_ops hΓ 2 rfl ?_
            refine j_cond rfl (fun hb => ?_) (fun hb => ?_)
            · have h37 := cT h32 hb
              refine go hΓ 4 rfl ?_
              refine eo_shr 3 [11, 53] _ [.box 51 [S z.Root, .d (Sl e_api_Record z.Records)], .box 3 [I kind], .row 38 8 s16.1.length (s16.1.flatMap e_api_Record), .dead] rfl rfl rfl (Nat.le_of_ble_eq_true rfl) ?_
              obtain ⟨y38, hy38, h39⟩ := bi_ok h37
              refine eo_appendT hΓ (enc := e_api_Record) hy38 rfl rfl rfl rfl rfl rfl rfl rfl rfl (fun _ => rfl) rfl rfl rfl rfl ?_
              refine go_ops hΓ 1 rfl ?_
              refine eo_shr 2 [6] _ [.box 51 [S z.Root, .d (Sl e_api_Record z.Records)], .box 3 [I kind], .dead, .dead] rfl rfl rfl (Nat.le_of_ble_eq_true rfl) ?_
              refine go_ops hΓ 7 rfl ?_
              obtain ⟨v40, hv40, h41⟩ := bi_ok h39
              obtain rfl := Option.some.inj h41
              obtain rfl := hout23 _ rfl
              obtain rfl := Option.some.inj h19
              refine go hΓ 2 rfl ?_
              obtain rfl := Option.some.inj hv40
              exact fin_pure hΓ (.inr rfl) rfl rfl
            · have h42 := cF h32 hb
              refine go hΓ 9 rfl ?_
              refine j_cond rfl (fun hb => ?_) (fun hb => ?_)
              · have h43 := cT h42 hb
                refine go hΓ 10 rfl ?_
                obtain ⟨v44, hv44, h45⟩ := bi_ok h43
                obtain rfl := Option.some.inj h45
                obtain rfl := hout23 _ rfl
                obtain rfl := Option.some.inj h19
                refine go hΓ 2 rfl ?_
                obtain rfl := Option.some.inj hv44
                exact fin_pure hΓ (.inr rfl) rfl rfl
              · have h46 := cF h42 hb
                obtain ⟨x47, hx47, h48⟩ := bi_ok h46
                refine go hΓ 6 rfl ?_
                refine eo_o rfl (op_elemZ hΓ (enc := e_api_Record) hx47 rfl rfl rfl rfl rfl (fun _ => rfl)) ?_
                refine go_ops hΓ 1 rfl ?_
                refine eo_litT hΓ (enc := e_api_Record) [x47] rfl rfl rfl rfl rfl rfl rfl rfl rfl rfl rfl rfl (Nat.le_of_ble_eq_true rfl) ?_
                obtain ⟨y49, hy49, h50⟩ := bi_ok h48
                refine eo_appendT hΓ (enc := e_api_Record) hy49 rfl rfl rfl rfl rfl rfl rfl rfl rfl (fun _ => rfl) rfl rfl rfl rfl ?_
                obtain ⟨x51, hx51, h52⟩ := bi_ok h50
                refine go_ops hΓ 6 rfl ?_
                refine eo_o rfl (op_elemZ hΓ (enc := e_api_Record) hx51 rfl rfl rfl rfl rfl (fun _ => rfl)) ?_
                obtain ⟨y53, hy53, h54⟩ := bi_ok h52
                refine go_ops hΓ 10 rfl ?_
                refine eo_callP (callable Tryz.func110 rfl rfl) (c_laneref1_IsUnder hy53) rfl (Nat.le_of_ble_eq_true rfl) rfl rfl rfl rfl rfl ?_
                refine go_ops hΓ 3 rfl ?_
                refine j_cond rfl (fun hb => ?_) (fun hb => ?_)
                · have h55 := cT h54 hb
                  refine go hΓ 4 rfl ?_
                  refine eo_shr 2 [6] _ [.box 51 [S z.Root, .d (Sl e_api_Record z.Records)], .box 3 [I kind], .dead, .row 38 8 y29.length (y29.flatMap e_api_Record)] rfl rfl rfl (Nat.le_of_ble_eq_true rfl) ?_
                  refine go_ops hΓ 6 rfl ?_
                  obtain ⟨v56, hv56, h57⟩ := bi_ok h55
                  obtain rfl := Option.some.inj h57
                  obtain rfl := hout23 _ rfl
                  obtain rfl := Option.some.inj h19
                  refine go hΓ 2 rfl ?_
                  obtain rfl := Option.some.inj hv56
                  exact fin_pure hΓ (.inr rfl) rfl rfl
                · have h58 := cF h54 hb
                  refine go hΓ 8 rfl ?_
                  obtain rfl := Option.some.inj h58
                  exact ⟨_, rfl, ⟨⟨rfl, rfl, rfl, rfl, rfl, trivial⟩, [_], rfl, .inr ⟨HB.mk rfl, FB.mk rfl, (Nat.le_of_ble_eq_true rfl)⟩⟩⟩

theorem c_slices_Equal_api_Record_api_Record {s1 : List T_api_Record} {s2 : List T_api_Record} {r : Bool} (h : m_slices_Equal_api_Record_api_Record s1 s2 = some r) : Pure Tryz.prog 36 [.d (Sl e_api_Record s1), .d (Sl e_api_Record s2)] (B r) := by
  refine Pure.enter (Fr.of 0 _) Tryz.func36 rfl (Fr.of_ok _) rfl rfl ?_
  refine go_in ?_
  unfold m_slices_Equal_api_Record_api_Record at h
  refine go hΓ 15 rfl ?_
  refine j_cond rfl (fun hb => ?_) (fun hb => ?_)
  · have h1 := cT h hb
    refine go hΓ 7 rfl ?_
    obtain rfl := Option.some.inj h1
    exact fin_pure hΓ (.inr rfl) rfl rfl
  · have h2 := cF h hb
    refine go hΓ 10 rfl ?_
    obtain ⟨q6, hq6, h7⟩ := bi_ok h2
    refine j_bound 0 rfl fun hb9 => ?_
    refine j_cutEZ (R := fun a8 => q6 = .go a8) (fun a8 => []) (fun a8 => []) ?_ ?_
    · refine go hΓ 1 rfl ?_
      refine j_range s1 hq6 (fun i3 s4 => [(0, .d (Sl e_api_Record s1)), (1, .d (Sl e_api_Record s2)), (12, I (s1.length : Int)), (13, I (i3 : Int))]) (fun s4 => []) ⟨⟨rfl, rfl, rfl, rfl, trivial⟩, [], rfl, .inl rfl⟩ (fun i3 x5 s4 y13 hx10 hlt hy11 hout12 => ?_) (fun s4 hgo => ?_)
      · refine go hΓ 6 rfl ?_
        refine j_condT rfl (decide_eq_true (Int.ofNat_lt.2 hlt)) ?_
        refine go hΓ 11 rfl ?_
        refine j_draw hmix (by kernel_rfl) ?_
        refine go hΓ 2 rfl ?_
        refine gl_o rfl (op_elemZ hΓ (enc := e_api_Record) (getZ_nat hx10) rfl rfl rfl rfl rfl (fun _ => rfl)) ?_
        obtain ⟨x14, hx14, h15⟩ := bi_ok hy11
        refine go_draw hΓ 3 rfl ?_
        refine gl_o rfl (op_elemZ hΓ (enc := e_api_Record) hx14 rfl rfl rfl rfl rfl (fun _ => rfl)) ?_
        refine go_draw hΓ 1 rfl ?_
        refine gl_o rfl (op_neS hΓ [38, 36] (b := (((x5.Name : Str) == x14.Name) && (((x5.Kind : Int) == x14.Kind) && ((((x5.Addr.Six : Bool) == x14.Addr.Six) && (((x5.Addr.Hi : Int) == x14.Addr.Hi) && (((x5.Addr.Lo : Int) == x14.Addr.Lo) && true))) && (((x5.To : Str) == x14.To) && (((x5.Words : Str) == x14.Words) && (((x5.Life : Int) == x14.Life) && true))))))) (by kernel_rfl) (by kernel_rfl) rfl rfl rfl) ?_
        refine go_draw hΓ 2 rfl ?_
        refine j_cond rfl (fun hb => ?_) (fun hb => ?_)
        · have h16 := cT h15 hb
          refine go hΓ 8 rfl ?_
          obtain ⟨v17, hv17, h18⟩ := bi_ok h16
          obtain rfl := Option.some.inj h18
          obtain rfl := hout12 _ rfl
          obtain rfl := Option.some.inj h7
          refine go hΓ 4 rfl ?_
          obtain rfl := Option.some.inj hv17
          exact fin_pure hΓ (.inr rfl) rfl rfl
        · have h19 := cF h15 hb
          refine go hΓ 7 rfl ?_
          obtain rfl := Option.some.inj h19
          exact ⟨_, rfl, ⟨⟨rfl, rfl, rfl, get_eq rfl (w64_succ (Nat.lt_of_lt_of_le hlt hb9)), trivial⟩, [], rfl, .inl rfl⟩⟩
      · subst hgo
        refine go hΓ 6 rfl ?_
        refine j_condF rfl (decide_eq_false (Int.lt_irrefl _)) ?_
        refine go hΓ 4 rfl ?_
        exact ⟨_, rfl, ⟨trivial, [], rfl, .inl rfl⟩⟩
    · intro a8 ha
      subst ha
      replace h7 := goI_l h7
      refine go hΓ 7 rfl ?_
      obtain rfl := Option.some.inj h7
      exact fin_pure hΓ (.inr rfl) rfl rfl

theorem c_lanelaw1_ZonesFound {k : Nat} {l : List Int} {r : Bool} (h : m_lanelaw1_ZonesFound k l = some r) : Pure Tryz.prog 5 [.d (Sl (eN .i64) l)] (B r) := by
  refine Pure.enter (Fr.of 0 _) Tryz.func5 rfl (Fr.of_ok _) rfl rfl ?_
  refine go_in ?_
  unfold m_lanelaw1_ZonesFound at h
  refine go hΓ 8 rfl ?_
  refine eo_build hΓ (gs := [.d (Sl (eN .i64) l), I 0]) rfl rfl rfl rfl rfl rfl rfl ?_
  refine eo_box rfl rfl rfl rfl (Nat.le_of_ble_eq_true rfl) ?_
  obtain ⟨y1, hy1, h2⟩ := bi_ok h
  refine go_ops hΓ 6 rfl ?_
  refine eo_callF [0] (.agg [S y1.1.Root, .d (Sl e_api_Record y1.1.Records)]) [.box 25 [.d (Sl (eN .i64) y1.2.L), I y1.2.v_at]] (callable Tryz.func24 rfl rfl) (c_lanemake_Stream_Zone hy1) rfl (Nat.le_of_ble_eq_true rfl) rfl rfl rfl rfl rfl rfl rfl rfl rfl rfl ?_
  obtain ⟨y3, hy3, h4⟩ := bi_ok h2
  refine go_ops hΓ 1 rfl ?_
  refine eo_callF [0] (S y3.1) [.box 25 [.d (Sl (eN .i64) y3.2.L), I y3.2.v_at]] (callable Tryz.func15 rfl rfl) (c_lanemake_Stream_Domain hy3) rfl (Nat.le_of_ble_eq_true rfl) rfl rfl rfl rfl rfl rfl rfl rfl rfl rfl ?_
  obtain ⟨y5, hy5, h6⟩ := bi_ok h4
  refine go_ops hΓ 1 rfl ?_
  refine eo_callF [0] (I y5.1) [.box 25 [.d (Sl (eN .i64) y5.2.L), I y5.2.v_at]] (callable Tryz.func25 rfl rfl) (c_lanemake_Stream_RecordKind hy5) rfl (Nat.le_of_ble_eq_true rfl) rfl rfl rfl rfl rfl rfl rfl rfl rfl rfl ?_
  refine eo_alloc hΓ rfl rfl rfl (Nat.le_of_ble_eq_true rfl) ?_
  refine eo_store hΓ rfl rfl rfl rfl rfl rfl rfl rfl (Nat.le_of_ble_eq_true rfl) ?_
  refine eo_hp [.box 25 [.d (Sl (eN .i64) y5.2.L), I y5.2.v_at], .box 51 [S y1.1.Root, .d (Sl e_api_Record y1.1.Records)]] rfl ?_
  obtain ⟨y7, hy7, h8⟩ := bi_ok h6
  refine go_ops hΓ 8 rfl ?_
  refine eo_callF [0] (B y7.1) [.box 25 [.d (Sl (eN .i64) y7.2.L), I y7.2.v_at], .box 51 [S y1.1.Root, .d (Sl e_api_Record y1.1.Records)]] (callable Tryz.func13 rfl rfl) (c_lanemake_Stream_Flip hy7) rfl (Nat.le_of_ble_eq_true rfl) rfl rfl rfl rfl rfl rfl rfl rfl rfl rfl ?_
  obtain ⟨q9, hq9, h10⟩ := bi_ok h8
  refine go_ops hΓ 3 rfl ?_
  refine j_cutNZ [(4, .ptr 1 0), (5, S q9.2), (6, I y5.1)] [.box 25 [.d (Sl (eN .i64) q9.1.L), I q9.1.v_at], .box 51 [S y1.1.Root, .d (Sl e_api_Record y1.1.Records)]] ?_ ?_
  · refine j_cond rfl (fun hb => ?_) (fun hb => ?_)
    · have h11 := cT hq9 hb
      refine go hΓ 2 rfl ?_
      refine eo_litT hΓ (enc := eS) [[97, 46, 110, 101, 116, 46, 120], [98, 46, 110, 101, 116, 46, 120], [99, 46, 110, 101, 116, 46, 120], [115, 46, 116, 46, 110, 101, 116, 46, 120], [116, 46, 110, 101, 116, 46, 120], [120, 46, 108, 97, 98, 46, 110, 101, 116, 46, 120], [120, 46, 121, 46, 108, 97, 98, 46, 110, 101, 116, 46, 120], [108, 97, 98, 46, 110, 101, 116, 46, 120], [110, 101, 119, 46, 110, 101, 116, 46, 120], [110, 101, 116, 46, 120], [120, 46, 97, 46, 110, 101, 116, 46, 120]] rfl rfl rfl rfl rfl rfl rfl rfl rfl rfl rfl rfl (Nat.le_of_ble_eq_true rfl) ?_
      obtain ⟨y12, hy12, h13⟩ := bi_ok h11
      refine eo_callF [0] (S y12.1) [.box 25 [.d (Sl (eN .i64) y12.2.L), I y12.2.v_at], .box 51 [S y1.1.Root, .d (Sl e_api_Record y1.1.Records)]] (callable Tryz.func26 rfl rfl) (c_lanemake_Stream_Some hy12) rfl (Nat.le_of_ble_eq_true rfl) rfl rfl rfl rfl rfl rfl rfl rfl rfl rfl ?_
      refine go_ops hΓ 2 rfl ?_
      obtain rfl := Option.some.inj h13
      exact ⟨⟨rfl, rfl, rfl, trivial⟩, [], rfl, .inl rfl⟩
    · have h14 := cF hq9 hb
      refine go hΓ 1 rfl ?_
      obtain rfl := Option.some.inj h14
      exact ⟨⟨rfl, rfl, rfl, trivial⟩, [], rfl, .inl rfl⟩
  · obtain ⟨y15, hy15, h16⟩ := bi_ok h10
    refine go hΓ 6 rfl ?_
    refine eo_callP (callable Tryz.func27 rfl rfl) (c_name_Find hy15) rfl (Nat.le_of_ble_eq_true rfl) rfl rfl rfl rfl rfl ?_
    obtain ⟨y17, hy17, h18⟩ := bi_ok h16
    refine go_ops hΓ 10 rfl ?_
    refine eo_callP (callable Tryz.func28 rfl rfl) (c_laneref1_ZoneFault hy17) rfl (Nat.le_of_ble_eq_true rfl) rfl rfl rfl rfl rfl ?_
    obtain ⟨y19, hy19, h20⟩ := bi_ok h18
    refine go_ops hΓ 7 rfl ?_
    refine eo_callP (callable Tryz.func29 rfl rfl) (c_name_CheckZone hy19) rfl (Nat.le_of_ble_eq_true rfl) rfl rfl rfl rfl rfl ?_
    refine go_ops hΓ 4 rfl ?_
    refine j_cond rfl (fun hb => ?_) (fun hb => ?_)
    · have h21 := cT h20 hb
      refine go hΓ 7 rfl ?_
      obtain rfl := Option.some.inj h21
      exact fin_pure hΓ (.inr rfl) rfl rfl
    · have h22 := cF h20 hb
      obtain ⟨y23, hy23, h24⟩ := bi_ok h22
      refine go hΓ 6 rfl ?_
      refine eo_callP (callable Tryz.func31 rfl rfl) (c_laneref1_DomainFault hy23) rfl (Nat.le_of_ble_eq_true rfl) rfl rfl rfl rfl rfl ?_
      obtain ⟨y25, hy25, h26⟩ := bi_ok h24
      refine eo_callP (callable Tryz.func34 rfl rfl) (c_laneref1_Kinds hy25) rfl (Nat.le_of_ble_eq_true rfl) rfl rfl rfl rfl rfl ?_
      obtain ⟨y27, hy27, h28⟩ := bi_ok h26
      refine go_ops hΓ 1 rfl ?_
      refine eo_callP (callable Tryz.func33 rfl rfl) (c_slices_Contains_int_int hy27) rfl (Nat.le_of_ble_eq_true rfl) rfl rfl rfl rfl rfl ?_
      obtain ⟨y29, hy29, h30⟩ := bi_ok h28
      refine go_ops hΓ 1 rfl ?_
      refine eo_callP (callable Tryz.func32 rfl rfl) (c_lanelaw1_when hy29) rfl (Nat.le_of_ble_eq_true rfl) rfl rfl rfl rfl rfl ?_
      refine eo_litT hΓ (enc := (eN .i64)) [y17, y23, y29] rfl rfl rfl rfl rfl rfl rfl rfl rfl rfl rfl rfl (Nat.le_of_ble_eq_true rfl) ?_
      obtain ⟨y31, hy31, h32⟩ := bi_ok h30
      refine eo_callP (callable Tryz.func30 rfl rfl) (c_cmp_Or_api_Errno hy31) rfl (Nat.le_of_ble_eq_true rfl) rfl rfl rfl rfl rfl ?_
      refine go_ops hΓ 10 rfl ?_
      refine j_cond rfl (fun hb => ?_) (fun hb => ?_)
      · have h33 := cT h32 hb
        refine go hΓ 6 rfl ?_
        refine o_cut 4 [(59, B (((y15.2 : Int) == y31) && (((y15.1.length : Int) : Int) == 0)))] [.box 25 [.d (Sl (eN .i64) q9.1.L), I q9.1.v_at], .box 51 [S y1.1.Root, .d (Sl e_api_Record y1.1.Records)]] ?_ ?_
        · refine eo_gsplit rfl rfl (fun hb => ?_) (fun hb => ?_)
          · refine go_ops hΓ 5 rfl ?_
            exact ⟨⟨get_b rfl (and_t hb), trivial⟩, [], rfl, .inl rfl⟩
          · refine go_ops hΓ 5 rfl ?_
            exact ⟨⟨get_b rfl (and_f hb), trivial⟩, [], rfl, .inl rfl⟩
        · refine go_ops hΓ 1 rfl ?_
          obtain ⟨q34, hq34, h35⟩ := bi_ok h33
          refine o_cut 2 [(62, B q34)] [.box 25 [.d (Sl (eN .i64) q9.1.L), I q9.1.v_at], .box 51 [S y1.1.Root, .d (Sl e_api_Record y1.1.Records)]] ?_ ?_
          · refine eo_gsplit rfl rfl (fun hb => ?_) (fun hb => ?_)
            · have h36 := cT hq34 hb
              obtain ⟨y37, hy37, h38⟩ := bi_ok h36
              refine eo_guard rfl ?_
              refine eo_callP (callable Tryz.func19 rfl rfl) (c_lanelaw1_named hy37) rfl (Nat.le_of_ble_eq_true rfl) rfl rfl rfl rfl rfl ?_
              refine go_ops hΓ 2 rfl ?_
              obtain rfl := Option.some.inj h38
              exact ⟨⟨rfl, trivial⟩, [], rfl, .inl rfl⟩
            · have h39 := cF hq34 hb
              refine go_ops hΓ 3 rfl ?_
              obtain rfl := Option.some.inj h39
              exact ⟨⟨rfl, trivial⟩, [], rfl, .inl rfl⟩
          · refine go_ops hΓ 5 rfl ?_
            obtain rfl := Option.some.inj h35
            exact fin_pure hΓ (.inr rfl) rfl rfl
      · have h40 := cF h32 hb
        obtain ⟨y41, hy41, h42⟩ := bi_ok h40
        refine go hΓ 7 rfl ?_
        refine eo_callP (callable Tryz.func35 rfl rfl) (c_laneref1_FindIn hy41) rfl (Nat.le_of_ble_eq_true rfl) rfl rfl rfl rfl rfl ?_
        refine go_ops hΓ 13 rfl ?_
        obtain ⟨q43, hq43, h44⟩ := bi_ok h42
        refine o_cut 4 [(77, B q43)] [.box 25 [.d (Sl (eN .i64) q9.1.L), I q9.1.v_at], .box 51 [S y1.1.Root, .d (Sl e_api_Record y1.1.Records)]] ?_ ?_
        · refine eo_gsplit rfl rfl (fun hb => ?_) (fun hb => ?_)
          · have h45 := cT hq43 hb
            obtain ⟨y46, hy46, h47⟩ := bi_ok h45
            refine go_ops hΓ 2 rfl ?_
            refine eo_guard rfl ?_
            refine eo_callP (callable Tryz.func36 rfl rfl) (c_slices_Equal_api_Record_api_Record hy46) rfl (Nat.le_of_ble_eq_true rfl) rfl rfl rfl rfl rfl ?_
            refine go_ops hΓ 2 rfl ?_
            obtain rfl := Option.some.inj h47
            exact ⟨⟨rfl, trivial⟩, [], rfl, .inl rfl⟩
          · have h48 := cF hq43 hb
            refine go_ops hΓ 5 rfl ?_
            obtain rfl := Option.some.inj h48
            exact ⟨⟨rfl, trivial⟩, [], rfl, .inl rfl⟩
        · refine go_ops hΓ 1 rfl ?_
          obtain ⟨q49, hq49, h50⟩ := bi_ok h44
          refine o_cut 2 [(80, B q49)] [.box 25 [.d (Sl (eN .i64) q9.1.L), I q9.1.v_at], .box 51 [S y1.1.Root, .d (Sl e_api_Record y1.1.Records)]] ?_ ?_
          · refine eo_gsplit rfl rfl (fun hb => ?_) (fun hb => ?_)
            · have h51 := cT hq49 hb
              obtain ⟨y52, hy52, h53⟩ := bi_ok h51
              refine eo_guard rfl ?_
              refine eo_callP (callable Tryz.func19 rfl rfl) (c_lanelaw1_named hy52) rfl (Nat.le_of_ble_eq_true rfl) rfl rfl rfl rfl rfl ?_
              refine go_ops hΓ 2 rfl ?_
              obtain rfl := Option.some.inj h53
              exact ⟨⟨rfl, trivial⟩, [], rfl, .inl rfl⟩
            · have h54 := cF hq49 hb
              refine go_ops hΓ 3 rfl ?_
              obtain rfl := Option.some.inj h54
              exact ⟨⟨rfl, trivial⟩, [], rfl, .inl rfl⟩
          · refine go_ops hΓ 4 rfl ?_
            obtain rfl := Option.some.inj h50
            exact fin_pure hΓ (.inr rfl) rfl rfl

end Go.Proofs.YtpgnhnjhpnbelaaGreatDoor
