/-
  The functions compute their models.
-/
import Derived.Test.YtpgnhnjhpnbelaaGreatDoorXAM
import Derived.Test.YtpgnhnjhpnbelaaGreatDoorGt
import Derived.Test.YtpgnhnjhpnbelaaGreatDoorStr
import Derived.Test.YtpgnhnjhpnbelaaGreatDoorStr2
import Derived.Test.YtpgnhnjhpnbelaaGreatDoorStr3
import Derived.Test.YtpgnhnjhpnbelaaGreatDoorXAW2
set_option linter.unusedVariables false
set_option linter.unusedSimpArgs false
set_option maxRecDepth 100000
namespace Go.Proofs.YtpgnhnjhpnbelaaGreatDoor
open Go.Gk

theorem c_laneref1_AskOf {k : Nat} {n : T_api_Net} {name : Str} {kind : Int} {r : T_api_Answer × Bool} (h : m_laneref1_AskOf k n name kind = some r) : Pure Tryz.prog 62 [.agg [.d (Sl eS n.Search), I n.Dots, .d (Sl e_api_Split n.Splits), .d (Sl e_api_Source n.Sources)], S name, I kind] (.tup [.agg [S r.1.Name, S r.1.Server, .d (Sl e_api_Record r.1.Records)], B r.2]) := by
  refine Pure.enter (Fr.of 0 _) Tryz.func62 rfl (Fr.of_ok _) rfl rfl ?_
  refine go_in ?_
  unfold m_laneref1_AskOf at h
  refine go hΓ 2 rfl ?_
  refine eo_box rfl rfl rfl rfl (Nat.le_of_ble_eq_true rfl) ?_
  refine eo_alloc hΓ rfl rfl rfl (Nat.le_of_ble_eq_true rfl) ?_
  obtain ⟨y1, hy1, h2⟩ := bi_ok h
  refine go_ops hΓ 11 rfl ?_
  refine eo_callP (callable Tryz.func164 rfl rfl) (Pure.rows (c_laneref1_NamesTried hy1) rfl rfl) rfl (Nat.le_of_ble_eq_true rfl) rfl rfl rfl rfl rfl ?_
  refine go_ops hΓ 4 rfl ?_
  obtain ⟨q6, hq6, h7⟩ := bi_ok h2
  refine j_bound 25 rfl fun hb9 => ?_
  refine j_cutEZ (R := fun a8 => q6 = .go a8) (fun a8 => [(6, .ptr 1 0)]) (fun a8 => [.box 92 [.d (Sl eS n.Search), I n.Dots, .d (Sl e_api_Split n.Splits), .d (Sl e_api_Source n.Sources)], .box 95 [S [], S [], .d (Sl e_api_Record [])]]) ?_ ?_
  · refine go hΓ 1 rfl ?_
    refine j_range y1 hq6 (fun i3 s4 => [(2, I kind), (3, .ptr 0 0), (6, .ptr 1 0), (25, .d (Sl eS y1)), (26, I (y1.length : Int)), (27, I (i3 : Int))]) (fun s4 => [.box 92 [.d (Sl eS n.Search), I n.Dots, .d (Sl e_api_Split n.Splits), .d (Sl e_api_Source n.Sources)], .box 95 [S [], S [], .d (Sl e_api_Record [])]]) ⟨⟨rfl, rfl, rfl, rfl, rfl, rfl, trivial⟩, [], rfl, .inl rfl⟩ (fun i3 x5 s4 y13 hx10 hlt hy11 hout12 => ?_) (fun s4 hgo => ?_)
    · refine go hΓ 6 rfl ?_
      refine j_condT rfl (decide_eq_true (Int.ofNat_lt.2 hlt)) ?_
      refine go hΓ 6 rfl ?_
      refine eo_o rfl (op_elemZ hΓ (enc := eS) (getZ_nat hx10) rfl rfl rfl rfl rfl (fun _ => rfl)) ?_
      obtain ⟨y14, hy14, h15⟩ := bi_ok hy11
      refine go_ops hΓ 9 rfl ?_
      refine eo_callP (callable Tryz.func165 rfl rfl) (c_laneref1_ServersOf hy14) rfl (Nat.le_of_ble_eq_true rfl) rfl rfl rfl rfl rfl ?_
      refine go_ops hΓ 14 rfl ?_
      obtain ⟨q19, hq19, h20⟩ := bi_ok h15
      refine j_bound 38 rfl fun hb22 => ?_
      obtain ⟨q23, hq23, h24⟩ := bi_ok h20
      refine j_cutEZ (R := fun a21 => q23 = .inl a21) (fun a21 => [(2, I kind), (3, .ptr 0 0), (6, .ptr 1 0), (25, .d (Sl eS y1)), (26, I (y1.length : Int)), (27, I (i3 : Int))]) (fun a21 => [.box 92 [.d (Sl eS n.Search), I n.Dots, .d (Sl e_api_Split n.Splits), .d (Sl e_api_Source n.Sources)], .box 95 [S [], S [], .d (Sl e_api_Record [])]]) ?_ ?_
      · refine go hΓ 1 rfl ?_
        refine j_range y14.1 hq19 (fun i16 s17 => [(2, I kind), (3, .ptr 0 0), (6, .ptr 1 0), (9, S x5), (25, .d (Sl eS y1)), (26, I (y1.length : Int)), (27, I (i3 : Int)), (38, .d (Sl eS y14.1)), (39, I (y14.1.length : Int)), (40, I (i16 : Int))]) (fun s17 => [.box 92 [.d (Sl eS n.Search), I n.Dots, .d (Sl e_api_Split n.Splits), .d (Sl e_api_Source n.Sources)], .box 95 [S [], S [], .d (Sl e_api_Record [])]]) ⟨⟨rfl, rfl, rfl, rfl, rfl, rfl, rfl, rfl, rfl, rfl, trivial⟩, [], rfl, .inl rfl⟩ (fun i16 x18 s17 y28 hx25 hlt hy26 hout27 => ?_) (fun s17 hgo => ?_)
        · refine go hΓ 6 rfl ?_
          refine j_condT rfl (decide_eq_true (Int.ofNat_lt.2 hlt)) ?_
          refine go hΓ 6 rfl ?_
          refine eo_o rfl (op_elemZ hΓ (enc := eS) (getZ_nat hx25) rfl rfl rfl rfl rfl (fun _ => rfl)) ?_
          refine go_ops hΓ 1 rfl ?_
          refine eo_alloc hΓ rfl rfl rfl (Nat.le_of_ble_eq_true rfl) ?_
          refine eo_store hΓ rfl rfl rfl rfl rfl rfl rfl rfl (Nat.le_of_ble_eq_true rfl) ?_
          refine eo_hp [.box 92 [.d (Sl eS n.Search), I n.Dots, .d (Sl e_api_Split n.Splits), .d (Sl e_api_Source n.Sources)], .box 95 [S [], S [], .d (Sl e_api_Record [])], .box 9 [S x18]] rfl ?_
          obtain ⟨y29, hy29, h30⟩ := bi_ok hy26
          refine go_ops hΓ 7 rfl ?_
          refine eo_callF [2] (I y29) [.box 92 [.d (Sl eS n.Search), I n.Dots, .d (Sl e_api_Split n.Splits), .d (Sl e_api_Source n.Sources)], .box 95 [S [], S [], .d (Sl e_api_Record [])], .box 9 [S x18]] (callable Tryz.func166 rfl rfl) (c_slices_IndexFunc_api_Source_api_Source hy29) rfl (Nat.le_of_ble_eq_true rfl) rfl rfl rfl rfl rfl rfl rfl rfl rfl rfl ?_
          refine go_ops hΓ 10 rfl ?_
          refine j_cond rfl (fun hb => ?_) (fun hb => ?_)
          · have h31 := cT h30 hb
            refine go hΓ 8 rfl ?_
            obtain rfl := Option.some.inj h31
            exact ⟨_, rfl, ⟨⟨rfl, rfl, rfl, rfl, rfl, rfl, rfl, rfl, rfl, get_eq rfl (w64_succ (Nat.lt_of_lt_of_le hlt hb22)), trivial⟩, [_], rfl, .inr ⟨HB.mk rfl, FB.mk rfl, (Nat.le_of_ble_eq_true rfl)⟩⟩⟩
          · have h32 := cF h30 hb
            refine go hΓ 4 rfl ?_
            refine eo_build hΓ (gs := [S [], .d (Sl e_api_Record [])]) rfl rfl rfl rfl rfl rfl rfl ?_
            refine eo_alloc hΓ rfl rfl rfl (Nat.le_of_ble_eq_true rfl) ?_
            refine eo_store hΓ rfl rfl rfl rfl rfl rfl rfl rfl (Nat.le_of_ble_eq_true rfl) ?_
            refine eo_hp [.box 92 [.d (Sl eS n.Search), I n.Dots, .d (Sl e_api_Split n.Splits), .d (Sl e_api_Source n.Sources)], .box 95 [S [], S [], .d (Sl e_api_Record [])], .box 9 [S x18], .box 51 [S [], .d (Sl e_api_Record [])]] rfl ?_
            obtain ⟨x33, hx33, h34⟩ := bi_ok h32
            refine go_ops hΓ 8 rfl ?_
            refine eo_o rfl (op_elemZ hΓ (enc := e_api_Source) hx33 rfl rfl rfl rfl rfl (fun _ => rfl)) ?_
            refine go_ops hΓ 6 rfl ?_
            obtain ⟨q38, hq38, h39⟩ := bi_ok h34
            refine j_bound 56 rfl fun hb41 => ?_
            refine j_cutNZ [(2, I kind), (3, .ptr 0 0), (6, .ptr 1 0), (9, S x5), (13, .ptr 2 0), (15, .ptr 3 0), (25, .d (Sl eS y1)), (26, I (y1.length : Int)), (27, I (i3 : Int)), (38, .d (Sl eS y14.1)), (39, I (y14.1.length : Int)), (40, I (i16 : Int))] [.box 92 [.d (Sl eS n.Search), I n.Dots, .d (Sl e_api_Split n.Splits), .d (Sl e_api_Source n.Sources)], .box 95 [S [], S [], .d (Sl e_api_Record [])], .box 9 [S x18], .box 51 [S q38.Root, .d (Sl e_api_Record q38.Records)]] ?_ ?_
            · refine go hΓ 1 rfl ?_
              refine j_rangeF x33.Zones hq38 (fun i35 s36 => [(2, I kind), (3, .ptr 0 0), (6, .ptr 1 0), (9, S x5), (13, .ptr 2 0), (15, .ptr 3 0), (25, .d (Sl eS y1)), (26, I (y1.length : Int)), (27, I (i3 : Int)), (38, .d (Sl eS y14.1)), (39, I (y14.1.length : Int)), (40, I (i16 : Int)), (56, .d (Sl e_api_Zone x33.Zones)), (57, I (x33.Zones.length : Int)), (58, I (i35 : Int))]) (fun s36 => [.box 92 [.d (Sl eS n.Search), I n.Dots, .d (Sl e_api_Split n.Splits), .d (Sl e_api_Source n.Sources)], .box 95 [S [], S [], .d (Sl e_api_Record [])], .box 9 [S x18], .box 51 [S s36.Root, .d (Sl e_api_Record s36.Records)]]) ⟨⟨rfl, rfl, rfl, rfl, rfl, rfl, rfl, rfl, rfl, rfl, rfl, rfl, rfl, rfl, rfl, trivial⟩, [], rfl, .inl rfl⟩ (fun i35 x37 s36 y45 hx42 hlt hy43 => ?_) (?_)
              · refine go hΓ 6 rfl ?_
                refine j_condT rfl (decide_eq_true (Int.ofNat_lt.2 hlt)) ?_
                refine go hΓ 6 rfl ?_
                refine eo_o rfl (op_elemZ hΓ (enc := e_api_Zone) (getZ_nat hx42) rfl rfl rfl rfl rfl (fun _ => rfl)) ?_
                refine go_ops hΓ 1 rfl ?_
                refine eo_alloc hΓ rfl rfl rfl (Nat.le_of_ble_eq_true rfl) ?_
                refine eo_store hΓ rfl rfl rfl rfl rfl rfl rfl rfl (Nat.le_of_ble_eq_true rfl) ?_
                refine eo_hp [.box 92 [.d (Sl eS n.Search), I n.Dots, .d (Sl e_api_Split n.Splits), .d (Sl e_api_Source n.Sources)], .box 95 [S [], S [], .d (Sl e_api_Record [])], .box 9 [S x18], .box 51 [S s36.Root, .d (Sl e_api_Record s36.Records)], .box 51 [S x37.Root, .d (Sl e_api_Record x37.Records)]] rfl ?_
                obtain ⟨y46, hy46, h47⟩ := bi_ok hy43
                refine go_ops hΓ 7 rfl ?_
                refine eo_callP (callable Tryz.func110 rfl rfl) (c_laneref1_IsUnder hy46) rfl (Nat.le_of_ble_eq_true rfl) rfl rfl rfl rfl rfl ?_
                refine go_ops hΓ 1 rfl ?_
                refine o_cut 8 [(2, I kind), (3, .ptr 0 0), (6, .ptr 1 0), (9, S x5), (13, .ptr 2 0), (15, .ptr 3 0), (17, .ptr 4 0), (25, .d (Sl eS y1)), (26, I (y1.length : Int)), (27, I (i3 : Int)), (38, .d (Sl eS y14.1)), (39, I (y14.1.length : Int)), (40, I (i16 : Int)), (56, .d (Sl e_api_Zone x33.Zones)), (57, I (x33.Zones.length : Int)), (58, I (i35 : Int)), (74, B (y46 && (decide (((x37.Root.length : Int) : Int) > (s36.Root.length : Int)))))] [.box 92 [.d (Sl eS n.Search), I n.Dots, .d (Sl e_api_Split n.Splits), .d (Sl e_api_Source n.Sources)], .box 95 [S [], S [], .d (Sl e_api_Record [])], .box 9 [S x18], .box 51 [S s36.Root, .d (Sl e_api_Record s36.Records)], .box 51 [S x37.Root, .d (Sl e_api_Record x37.Records)]] ?_ ?_
                · refine eo_gsplit rfl rfl (fun hb => ?_) (fun hb => ?_)
                  · refine go_ops hΓ 9 rfl ?_
                    exact ⟨⟨rfl, rfl, rfl, rfl, rfl, rfl, rfl, rfl, rfl, rfl, rfl, rfl, rfl, rfl, rfl, rfl, get_b rfl (and_t hb), trivial⟩, [], rfl, .inl rfl⟩
                  · refine go_ops hΓ 9 rfl ?_
                    exact ⟨⟨rfl, rfl, rfl, rfl, rfl, rfl, rfl, rfl, rfl, rfl, rfl, rfl, rfl, rfl, rfl, rfl, get_b rfl (and_f hb), trivial⟩, [], rfl, .inl rfl⟩
                · refine go_ops hΓ 2 rfl ?_
                  refine j_cond rfl (fun hb => ?_) (fun hb => ?_)
                  · have h48 := cT h47 hb
                    refine go hΓ 2 rfl ?_
                    refine eo_store hΓ rfl rfl rfl rfl rfl rfl rfl rfl (Nat.le_of_ble_eq_true rfl) ?_
                    refine eo_hp [.box 92 [.d (Sl eS n.Search), I n.Dots, .d (Sl e_api_Split n.Splits), .d (Sl e_api_Source n.Sources)], .box 95 [S [], S [], .d (Sl e_api_Record [])], .box 9 [S x18], .box 51 [S x37.Root, .d (Sl e_api_Record x37.Records)], .box 51 [S x37.Root, .d (Sl e_api_Record x37.Records)]] rfl ?_
                    refine go_ops hΓ 7 rfl ?_
                    obtain rfl := Option.some.inj h48
                    exact ⟨⟨rfl, rfl, rfl, rfl, rfl, rfl, rfl, rfl, rfl, rfl, rfl, rfl, rfl, rfl, get_eq rfl (w64_succ (Nat.lt_of_lt_of_le hlt hb41)), trivial⟩, [_], rfl, .inr ⟨HB.mk rfl, FB.mk rfl, (Nat.le_of_ble_eq_true rfl)⟩⟩
                  · have h49 := cF h47 hb
                    refine go hΓ 7 rfl ?_
                    obtain rfl := Option.some.inj h49
                    exact ⟨⟨rfl, rfl, rfl, rfl, rfl, rfl, rfl, rfl, rfl, rfl, rfl, rfl, rfl, rfl, get_eq rfl (w64_succ (Nat.lt_of_lt_of_le hlt hb41)), trivial⟩, [_], rfl, .inr ⟨HB.mk rfl, FB.mk rfl, (Nat.le_of_ble_eq_true rfl)⟩⟩
              · refine go hΓ 6 rfl ?_
                refine j_condF rfl (decide_eq_false (Int.lt_irrefl _)) ?_
                refine go hΓ 4 rfl ?_
                exact ⟨⟨rfl, rfl, rfl, rfl, rfl, rfl, rfl, rfl, rfl, rfl, rfl, rfl, trivial⟩, [], rfl, .inl rfl⟩
            · refine go hΓ 9 rfl ?_
              refine j_cond rfl (fun hb => ?_) (fun hb => ?_)
              · have h50 := cT h39 hb
                refine go hΓ 8 rfl ?_
                obtain rfl := Option.some.inj h50
                exact ⟨_, rfl, ⟨⟨rfl, rfl, rfl, rfl, rfl, rfl, rfl, rfl, rfl, get_eq rfl (w64_succ (Nat.lt_of_lt_of_le hlt hb22)), trivial⟩, [_, _], rfl, .inr ⟨HB.mk rfl, FB.mk rfl, (Nat.le_of_ble_eq_true rfl)⟩⟩⟩
              · have h51 := cF h39 hb
                obtain ⟨y52, hy52, h53⟩ := bi_ok h51
                refine go hΓ 8 rfl ?_
                refine eo_callP (callable Tryz.func35 rfl rfl) (c_laneref1_FindIn hy52) rfl (Nat.le_of_ble_eq_true rfl) rfl rfl rfl rfl rfl ?_
                refine go_ops hΓ 12 rfl ?_
                refine o_cut 4 [(2, I kind), (3, .ptr 0 0), (6, .ptr 1 0), (9, S x5), (13, .ptr 2 0), (18, .d (Sl e_api_Record y52.1)), (25, .d (Sl eS y1)), (26, I (y1.length : Int)), (27, I (i3 : Int)), (93, B (((y52.2 : Int) == 0) && (decide (((y52.1.length : Int) : Int) > 0))))] [.box 92 [.d (Sl eS n.Search), I n.Dots, .d (Sl e_api_Split n.Splits), .d (Sl e_api_Source n.Sources)], .box 95 [S [], S [], .d (Sl e_api_Record [])], .box 9 [S x18], .box 51 [S q38.Root, .d (Sl e_api_Record q38.Records)]] ?_ ?_
                · refine eo_gsplit rfl rfl (fun hb => ?_) (fun hb => ?_)
                  · refine go_ops hΓ 5 rfl ?_
                    exact ⟨⟨rfl, rfl, rfl, rfl, rfl, rfl, rfl, rfl, rfl, get_b rfl (and_t hb), trivial⟩, [], rfl, .inl rfl⟩
                  · refine go_ops hΓ 5 rfl ?_
                    exact ⟨⟨rfl, rfl, rfl, rfl, rfl, rfl, rfl, rfl, rfl, get_b rfl (and_f hb), trivial⟩, [], rfl, .inl rfl⟩
                · refine go_ops hΓ 2 rfl ?_
                  refine j_cond rfl (fun hb => ?_) (fun hb => ?_)
                  · have h54 := cT h53 hb
                    refine go hΓ 5 rfl ?_
                    refine eo_build hΓ (gs := [S x5, S x18, .d (Sl e_api_Record y52.1)]) rfl rfl rfl rfl rfl rfl rfl ?_
                    refine eo_store hΓ rfl rfl rfl rfl rfl rfl rfl rfl (Nat.le_of_ble_eq_true rfl) ?_
                    refine eo_hp [.box 92 [.d (Sl eS n.Search), I n.Dots, .d (Sl e_api_Split n.Splits), .d (Sl e_api_Source n.Sources)], .box 95 [S x5, S x18, .d (Sl e_api_Record y52.1)], .box 9 [S x18], .box 51 [S q38.Root, .d (Sl e_api_Record q38.Records)]] rfl ?_
                    refine go_ops hΓ 7 rfl ?_
                    obtain ⟨v55, hv55, h56⟩ := bi_ok h54
                    obtain rfl := Option.some.inj h56
                    obtain rfl := hout27 _ rfl
                    obtain rfl := Option.some.inj hq23
                    obtain rfl := Option.some.inj h24
                    refine go hΓ 5 rfl ?_
                    obtain ⟨v57, hv57, h58⟩ := bi_ok hv55
                    obtain rfl := Option.some.inj h58
                    obtain rfl := hout12 _ rfl
                    obtain rfl := Option.some.inj h7
                    refine go hΓ 4 rfl ?_
                    obtain rfl := Option.some.inj hv57
                    exact fin_pure hΓ (.inr rfl) rfl rfl
                  · have h59 := cF h53 hb
                    refine go hΓ 7 rfl ?_
                    obtain rfl := Option.some.inj h59
                    obtain rfl := hout27 _ rfl
                    obtain rfl := Option.some.inj hq23
                    exact ⟨_, rfl, ⟨⟨rfl, rfl, rfl, rfl, rfl, rfl, trivial⟩, [_, _], rfl, .inr ⟨HB.mk rfl, FB.mk rfl, (Nat.le_of_ble_eq_true rfl)⟩⟩⟩
        · subst hgo
          refine go hΓ 6 rfl ?_
          refine j_condF rfl (decide_eq_false (Int.lt_irrefl _)) ?_
          refine go hΓ 4 rfl ?_
          obtain rfl := Option.some.inj hq23
          exact ⟨_, rfl, ⟨⟨rfl, rfl, rfl, rfl, rfl, rfl, trivial⟩, [], rfl, .inl rfl⟩⟩
      · intro a21 ha
        subst ha
        replace h24 := orI_l h24
        refine go hΓ 6 rfl ?_
        obtain rfl := Option.some.inj h24
        exact ⟨_, rfl, ⟨⟨rfl, rfl, rfl, rfl, rfl, get_eq rfl (w64_succ (Nat.lt_of_lt_of_le hlt hb9)), trivial⟩, [], rfl, .inl rfl⟩⟩
    · subst hgo
      refine go hΓ 6 rfl ?_
      refine j_condF rfl (decide_eq_false (Int.lt_irrefl _)) ?_
      refine go hΓ 4 rfl ?_
      exact ⟨_, rfl, ⟨⟨rfl, trivial⟩, [], rfl, .inl rfl⟩⟩
  · intro a8 ha
    subst ha
    replace h7 := goI_l h7
    refine go hΓ 3 rfl ?_
    refine eo_build hΓ (gs := [S [], S [], .d (Sl e_api_Record [])]) rfl rfl rfl rfl rfl rfl rfl ?_
    refine eo_store hΓ rfl rfl rfl rfl rfl rfl rfl rfl (Nat.le_of_ble_eq_true rfl) ?_
    refine eo_hp [.box 92 [.d (Sl eS n.Search), I n.Dots, .d (Sl e_api_Split n.Splits), .d (Sl e_api_Source n.Sources)], .box 95 [S [], S [], .d (Sl e_api_Record [])]] rfl ?_
    refine go_ops hΓ 4 rfl ?_
    obtain rfl := Option.some.inj h7
    exact fin_pure hΓ (.inr rfl) rfl rfl

theorem c_slices_Equal_api_Record_api_Record {s1 : List T_api_Record} {s2 : List T_api_Record} {r : Bool} (h : m_slices_Equal_api_Record_api_Record s1 s2 = some r) : Pure Tryz.prog 36 [.d (Sl e_api_Record s1), .d (Sl e_api_Record s2)] (B r) := by
  refine Pure.enter (Fr.of 0 _) Tryz.func36 rfl (Fr.of_ok _) rfl rfl ?_
  refine go_in ?_
  unfold m_slices_Equal_api_Record_api_Record at h
  refine go hΓ 15 rfl ?_
  refine j_cond rfl (fun hb => ?_) (fun hb => ?_)
  · have h1 := cT h hb
    refine go hΓ 7 rfl ?_
    obtain rfl := Option.some.inj h1
    exact fin_pure hΓ (.inr rfl) rfl rfl
  · have h2 := cF h hb
    refine go hΓ 10 rfl ?_
    obtain ⟨q6, hq6, h7⟩ := bi_ok h2
    refine j_bound 0 rfl fun hb9 => ?_
    refine j_cutEZ (R := fun a8 => q6 = .go a8) (fun a8 => []) (fun a8 => []) ?_ ?_
    · refine go hΓ 1 rfl ?_
      refine j_range s1 hq6 (fun i3 s4 => [(0, .d (Sl e_api_Record s1)), (1, .d (Sl e_api_Record s2)), (12, I (s1.length : Int)), (13, I (i3 : Int))]) (fun s4 => []) ⟨⟨rfl, rfl, rfl, rfl, trivial⟩, [], rfl, .inl rfl⟩ (fun i3 x5 s4 y13 hx10 hlt hy11 hout12 => ?_) (fun s4 hgo => ?_)
      · refine go hΓ 6 rfl ?_
        refine j_condT rfl (decide_eq_true (Int.ofNat_lt.2 hlt)) ?_
        refine go hΓ 11 rfl ?_
        refine j_draw hmix (by kernel_rfl) ?_
        refine go hΓ 2 rfl ?_
        refine gl_o rfl (op_elemZ hΓ (enc := e_api_Record) (getZ_nat hx10) rfl rfl rfl rfl rfl (fun _ => rfl)) ?_
        obtain ⟨x14, hx14, h15⟩ := bi_ok hy11
        refine go_draw hΓ 3 rfl ?_
        refine gl_o rfl (op_elemZ hΓ (enc := e_api_Record) hx14 rfl rfl rfl rfl rfl (fun _ => rfl)) ?_
        refine go_draw hΓ 1 rfl ?_
        refine gl_o rfl (op_neS hΓ [38, 36] (b := (((x5.Name : Str) == x14.Name) && (((x5.Kind : Int) == x14.Kind) && ((((x5.Addr.Six : Bool) == x14.Addr.Six) && (((x5.Addr.Hi : Int) == x14.Addr.Hi) && (((x5.Addr.Lo : Int) == x14.Addr.Lo) && true))) && (((x5.To : Str) == x14.To) && (((x5.Words : Str) == x14.Words) && (((x5.Life : Int) == x14.Life) && true))))))) (by kernel_rfl) (by kernel_rfl) rfl rfl rfl) ?_
        refine go_draw hΓ 2 rfl ?_
        refine j_cond rfl (fun hb => ?_) (fun hb => ?_)
        · have h16 := cT h15 hb
          refine go hΓ 8 rfl ?_
          obtain ⟨v17, hv17, h18⟩ := bi_ok h16
          obtain rfl := Option.some.inj h18
          obtain rfl := hout12 _ rfl
          obtain rfl := Option.some.inj h7
          refine go hΓ 4 rfl ?_
          obtain rfl := Option.some.inj hv17
          exact fin_pure hΓ (.inr rfl) rfl rfl
        · have h19 := cF h15 hb
          refine go hΓ 7 rfl ?_
          obtain rfl := Option.some.inj h19
          exact ⟨_, rfl, ⟨⟨rfl, rfl, rfl, get_eq rfl (w64_succ (Nat.lt_of_lt_of_le hlt hb9)), trivial⟩, [], rfl, .inl rfl⟩⟩
      · subst hgo
        refine go hΓ 6 rfl ?_
        refine j_condF rfl (decide_eq_false (Int.lt_irrefl _)) ?_
        refine go hΓ 4 rfl ?_
        exact ⟨_, rfl, ⟨trivial, [], rfl, .inl rfl⟩⟩
    · intro a8 ha
      subst ha
      replace h7 := goI_l h7
      refine go hΓ 7 rfl ?_
      obtain rfl := Option.some.inj h7
      exact fin_pure hΓ (.inr rfl) rfl rfl

theorem c_name_Label {s : Str} {r : Str} (h : m_name_Label s = some r) : Pure Tryz.prog 65 [S s] (S r) := by
  refine Pure.enter (Fr.of 0 _) Tryz.func65 rfl (Fr.of_ok _) rfl rfl ?_
  refine go_in ?_
  unfold m_name_Label at h
  refine go hΓ 7 rfl ?_
  refine eo_nilOwn (t := 0) 5 1 rfl (Nat.le_of_ble_eq_true rfl) ?_
  refine go_ops hΓ 10 rfl ?_
  obtain ⟨q4, hq4, h5⟩ := bi_ok h
  obtain ⟨hb7, h8⟩ := gd_ok hq4
  replace hb7 := of_decide_eq_true hb7
  refine j_cutNZ [(3, .sl 0 q4.length)] [.row 5 1 q4.length (q4.flatMap (eN .u8))] ?_ ?_
  · refine go hΓ 1 rfl ?_
    refine j_rangeG h8 (fun i1 s2 => [(0, S s), (3, .sl 0 s2.length), (8, I (s.length : Int)), (9, I (i1 : Int))]) (fun s2 => [.row 5 1 s2.length (s2.flatMap (eN .u8))]) ⟨⟨rfl, rfl, rfl, rfl, trivial⟩, [], rfl, .inl rfl⟩ (fun i1 s2 y12 hlt hy10 => ?_) (fun hge => ?_)
    · refine go hΓ 6 rfl ?_
      refine j_condT rfl (decide_eq_true hlt) ?_
      obtain ⟨c13, hc13, h14⟩ := bi_ok hy10
      refine go hΓ 14 rfl ?_
      refine eo_o rfl (op_byteZ hΓ hc13 rfl rfl rfl rfl) ?_
      refine go_ops hΓ 9 rfl ?_
      refine o_cut 3 [(0, S s), (3, .sl 0 s2.length), (5, .d (.v (.int .u8 (c13.toNat : Int)))), (8, I (s.length : Int)), (9, I (i1 : Int)), (20, B ((decide (((c13.toNat : Int) : Int) ≥ 65)) && (decide (((c13.toNat : Int) : Int) ≤ 90))))] [.row 5 1 s2.length (s2.flatMap (eN .u8))] ?_ ?_
      · refine eo_gsplit rfl rfl (fun hb => ?_) (fun hb => ?_)
        · refine go_ops hΓ 4 rfl ?_
          exact ⟨⟨rfl, rfl, rfl, rfl, rfl, get_b rfl (and_t hb), trivial⟩, [], rfl, .inl rfl⟩
        · refine go_ops hΓ 4 rfl ?_
          exact ⟨⟨rfl, rfl, rfl, rfl, rfl, get_b rfl (and_f hb), trivial⟩, [], rfl, .inl rfl⟩
      · obtain ⟨q15, hq15, h16⟩ := bi_ok h14
        refine go_ops hΓ 2 rfl ?_
        refine j_cutNZ [(0, S s), (3, .sl 0 s2.length), (5, .d (.v (.int .u8 q15))), (8, I (s.length : Int)), (9, I (i1 : Int))] [.row 5 1 s2.length (s2.flatMap (eN .u8))] ?_ ?_
        · refine j_cond rfl (fun hb => ?_) (fun hb => ?_)
          · have h17 := cT hq15 hb
            refine go hΓ 5 rfl ?_
            obtain rfl := Option.some.inj h17
            exact ⟨⟨rfl, rfl, rfl, rfl, rfl, trivial⟩, [], rfl, .inl rfl⟩
          · have h18 := cF hq15 hb
            refine go hΓ 1 rfl ?_
            obtain rfl := Option.some.inj h18
            exact ⟨⟨rfl, rfl, rfl, rfl, rfl, trivial⟩, [], rfl, .inl rfl⟩
        · obtain ⟨y19, hy19, h20⟩ := bi_ok h16
          refine go hΓ 5 rfl ?_
          refine eo_callP (callable Tryz.func175 rfl rfl) (c_name_isLetter hy19) rfl (Nat.le_of_ble_eq_true rfl) rfl rfl rfl rfl rfl ?_
          refine go_ops hΓ 3 rfl ?_
          refine j_cond rfl (fun hb => ?_) (fun hb => ?_)
          · have h21 := cT h20 hb
            refine go hΓ 3 rfl ?_
            refine eo_litT hΓ (enc := (eN .u8)) [q15] rfl rfl rfl rfl rfl rfl rfl rfl rfl rfl rfl rfl (Nat.le_of_ble_eq_true rfl) ?_
            obtain ⟨y22, hy22, h23⟩ := bi_ok h21
            refine eo_appendT hΓ (enc := (eN .u8)) hy22 rfl rfl rfl rfl rfl rfl rfl rfl rfl (fun _ => rfl) rfl rfl rfl rfl ?_
            refine go_ops hΓ 9 rfl ?_
            obtain rfl := Option.some.inj h23
            exact ⟨⟨rfl, rfl, rfl, get_eq rfl (w64_succ (by omega)), trivial⟩, [], rfl, .inl rfl⟩
          · have h24 := cF h20 hb
            refine go hΓ 6 rfl ?_
            obtain ⟨q25, hq25, h26⟩ := bi_ok h24
            refine o_cut 8 [(0, S s), (3, .sl 0 s2.length), (8, I (s.length : Int)), (9, I (i1 : Int)), (42, B q25)] [.row 5 1 s2.length (s2.flatMap (eN .u8))] ?_ ?_
            · refine eo_gsplit rfl rfl (fun hb => ?_) (fun hb => ?_)
              · have h27 := cT hq25 hb
                refine go_ops hΓ 9 rfl ?_
                obtain rfl := Option.some.inj h27
                exact ⟨⟨rfl, rfl, rfl, rfl, rfl, trivial⟩, [], rfl, .inl rfl⟩
              · have h28 := cF hq25 hb
                obtain ⟨x29, hx29, h30⟩ := bi_ok h28
                have hj31 := getZ_at hx29
                refine go_ops hΓ 4 rfl ?_
                refine eo_guard rfl ?_
                refine eo_o rfl (op_elemRowZ hΓ hx29 rfl rfl rfl rfl rfl rfl) ?_
                refine eo_guard rfl ?_
                refine eo_o rfl (op_loadRowZ hΓ (enc := (eN .u8)) ((wi ((s2.length : Int) - 1)).toNat) 0 hj31 rfl rfl rfl rfl (fun _ => rfl) (g := .d (.v (.int .u8 x29))) rfl) ?_
                refine go_ops hΓ 3 rfl ?_
                obtain rfl := Option.some.inj h30
                exact ⟨⟨rfl, rfl, rfl, rfl, rfl, trivial⟩, [], rfl, .inl rfl⟩
            · refine go_ops hΓ 3 rfl ?_
              refine j_cond rfl (fun hb => ?_) (fun hb => ?_)
              · have h32 := cT h26 hb
                refine go hΓ 2 rfl ?_
                refine eo_litT hΓ (enc := (eN .u8)) [45] rfl rfl rfl rfl rfl rfl rfl rfl rfl rfl rfl rfl (Nat.le_of_ble_eq_true rfl) ?_
                obtain ⟨y33, hy33, h34⟩ := bi_ok h32
                refine eo_appendT hΓ (enc := (eN .u8)) hy33 rfl rfl rfl rfl rfl rfl rfl rfl rfl (fun _ => rfl) rfl rfl rfl rfl ?_
                refine go_ops hΓ 9 rfl ?_
                obtain rfl := Option.some.inj h34
                exact ⟨⟨rfl, rfl, rfl, get_eq rfl (w64_succ (by omega)), trivial⟩, [], rfl, .inl rfl⟩
              · have h35 := cF h26 hb
                refine go hΓ 8 rfl ?_
                obtain rfl := Option.some.inj h35
                exact ⟨⟨rfl, rfl, rfl, get_eq rfl (w64_succ (by omega)), trivial⟩, [], rfl, .inl rfl⟩
    · refine go hΓ 6 rfl ?_
      refine j_condF rfl (decide_eq_false hge) ?_
      refine go hΓ 4 rfl ?_
      exact ⟨⟨rfl, trivial⟩, [], rfl, .inl rfl⟩
  · obtain ⟨z36, hz36, h37⟩ := bi_ok h5
    refine go hΓ 7 rfl ?_
    refine eo_subRowZ hΓ (enc := (eN .u8)) hz36 rfl rfl rfl rfl rfl rfl rfl rfl (fun _ => rfl) rfl (Nat.le_of_ble_eq_true rfl) ?_
    obtain ⟨y38, hy38, h39⟩ := bi_ok h37
    refine eo_o rfl (op_strRowZ hΓ hy38 rfl rfl rfl rfl rfl rfl rfl rfl rfl) ?_
    obtain ⟨y40, hy40, h41⟩ := bi_ok h39
    refine eo_callP (callable Tryz.func176 rfl rfl) (c_strings_Trim hy40) rfl (Nat.le_of_ble_eq_true rfl) rfl rfl rfl rfl rfl ?_
    refine go_ops hΓ 10 rfl ?_
    refine j_cond rfl (fun hb => ?_) (fun hb => ?_)
    · have h42 := cT h41 hb
      refine go hΓ 7 rfl ?_
      obtain rfl := Option.some.inj h42
      exact fin_pure hΓ (.inr rfl) rfl rfl
    · have h43 := cF h41 hb
      refine go hΓ 9 rfl ?_
      obtain rfl := Option.some.inj h43
      exact fin_pure hΓ (.inr rfl) rfl rfl

theorem c_lanelaw1_named {k : Nat} {r : Bool} (h : m_lanelaw1_named k = some r) : Pure Tryz.prog 19 [] (B r) := by
  refine Pure.enter (Fr.of 0 _) Tryz.func19 rfl (Fr.of_ok _) rfl rfl ?_
  refine go_in ?_
  unfold m_lanelaw1_named at h
  obtain ⟨y1, hy1, h2⟩ := bi_ok h
  refine go hΓ 7 rfl ?_
  refine eo_callP (callable Tryz.func65 rfl rfl) (c_name_Label hy1) rfl (Nat.le_of_ble_eq_true rfl) rfl rfl rfl rfl rfl ?_
  refine go_ops hΓ 2 rfl ?_
  obtain ⟨q3, hq3, h4⟩ := bi_ok h2
  refine o_cut 3 [(0, B false), (6, B q3)] [] ?_ ?_
  · refine eo_gsplit rfl rfl (fun hb => ?_) (fun hb => ?_)
    · have h5 := cT hq3 hb
      obtain ⟨y6, hy6, h7⟩ := bi_ok h5
      refine eo_guard rfl ?_
      refine eo_callP (callable Tryz.func90 rfl rfl) (c_name_CheckDomain hy6) rfl (Nat.le_of_ble_eq_true rfl) rfl rfl rfl rfl rfl ?_
      refine go_ops hΓ 3 rfl ?_
      obtain rfl := Option.some.inj h7
      exact ⟨⟨rfl, rfl, trivial⟩, [], rfl, .inl rfl⟩
    · have h8 := cF hq3 hb
      refine go_ops hΓ 4 rfl ?_
      obtain rfl := Option.some.inj h8
      exact ⟨⟨rfl, rfl, trivial⟩, [], rfl, .inl rfl⟩
  · refine go_ops hΓ 4 rfl ?_
    obtain rfl := Option.some.inj h4
    exact fin_pure hΓ (.inr rfl) rfl rfl

theorem c_lanelaw1_NamesAsked {k : Nat} {l : List Int} {r : Bool} (h : m_lanelaw1_NamesAsked k l = some r) : Pure Tryz.prog 8 [.d (Sl (eN .i64) l)] (B r) := by
  refine Pure.enter (Fr.of 0 _) Tryz.func8 rfl (Fr.of_ok _) rfl rfl ?_
  refine go_in ?_
  unfold m_lanelaw1_NamesAsked at h
  refine go hΓ 8 rfl ?_
  refine eo_build hΓ (gs := [.d (Sl (eN .i64) l), I 0]) rfl rfl rfl rfl rfl rfl rfl ?_
  refine eo_box rfl rfl rfl rfl (Nat.le_of_ble_eq_true rfl) ?_
  obtain ⟨y1, hy1, h2⟩ := bi_ok h
  refine go_ops hΓ 6 rfl ?_
  refine eo_callF [0] (.agg [.d (Sl eS y1.1.Search), I y1.1.Dots, .d (Sl e_api_Split y1.1.Splits), .d (Sl e_api_Source y1.1.Sources)]) [.box 25 [.d (Sl (eN .i64) y1.2.L), I y1.2.v_at]] (callable Tryz.func58 rfl rfl) (c_lanemake_Stream_Net hy1) rfl (Nat.le_of_ble_eq_true rfl) rfl rfl rfl rfl rfl rfl rfl rfl rfl rfl ?_
  obtain ⟨y3, hy3, h4⟩ := bi_ok h2
  refine go_ops hΓ 1 rfl ?_
  refine eo_callF [0] (S y3.1) [.box 25 [.d (Sl (eN .i64) y3.2.L), I y3.2.v_at]] (callable Tryz.func15 rfl rfl) (c_lanemake_Stream_Domain hy3) rfl (Nat.le_of_ble_eq_true rfl) rfl rfl rfl rfl rfl rfl rfl rfl rfl rfl ?_
  obtain ⟨y5, hy5, h6⟩ := bi_ok h4
  refine go_ops hΓ 1 rfl ?_
  refine eo_callF [0] (I y5.1) [.box 25 [.d (Sl (eN .i64) y5.2.L), I y5.2.v_at]] (callable Tryz.func25 rfl rfl) (c_lanemake_Stream_RecordKind hy5) rfl (Nat.le_of_ble_eq_true rfl) rfl rfl rfl rfl rfl rfl rfl rfl rfl rfl ?_
  refine eo_alloc hΓ rfl rfl rfl (Nat.le_of_ble_eq_true rfl) ?_
  refine eo_store hΓ rfl rfl rfl rfl rfl rfl rfl rfl (Nat.le_of_ble_eq_true rfl) ?_
  refine eo_hp [.box 25 [.d (Sl (eN .i64) y5.2.L), I y5.2.v_at], .box 92 [.d (Sl eS y1.1.Search), I y1.1.Dots, .d (Sl e_api_Split y1.1.Splits), .d (Sl e_api_Source y1.1.Sources)]] rfl ?_
  obtain ⟨y7, hy7, h8⟩ := bi_ok h6
  refine go_ops hΓ 9 rfl ?_
  refine eo_callP (callable Tryz.func59 rfl rfl) (c_name_Ask hy7) rfl (Nat.le_of_ble_eq_true rfl) rfl rfl rfl rfl rfl ?_
  refine go_ops hΓ 3 rfl ?_
  refine eo_alloc hΓ rfl rfl rfl (Nat.le_of_ble_eq_true rfl) ?_
  refine eo_store hΓ rfl rfl rfl rfl rfl rfl rfl rfl (Nat.le_of_ble_eq_true rfl) ?_
  refine eo_hp [.box 25 [.d (Sl (eN .i64) y5.2.L), I y5.2.v_at], .box 92 [.d (Sl eS y1.1.Search), I y1.1.Dots, .d (Sl e_api_Split y1.1.Splits), .d (Sl e_api_Source y1.1.Sources)], .box 95 [S y7.1.Name, S y7.1.Server, .d (Sl e_api_Record y7.1.Records)]] rfl ?_
  obtain ⟨y9, hy9, h10⟩ := bi_ok h8
  refine go_ops hΓ 6 rfl ?_
  refine eo_callP (callable Tryz.func60 rfl rfl) (c_laneref1_NetFault hy9) rfl (Nat.le_of_ble_eq_true rfl) rfl rfl rfl rfl rfl ?_
  obtain ⟨y11, hy11, h12⟩ := bi_ok h10
  refine go_ops hΓ 7 rfl ?_
  refine eo_callP (callable Tryz.func61 rfl rfl) (c_name_CheckNet hy11) rfl (Nat.le_of_ble_eq_true rfl) rfl rfl rfl rfl rfl ?_
  refine go_ops hΓ 4 rfl ?_
  refine j_cond rfl (fun hb => ?_) (fun hb => ?_)
  · have h13 := cT h12 hb
    refine go hΓ 7 rfl ?_
    obtain rfl := Option.some.inj h13
    exact fin_pure hΓ (.inr rfl) rfl rfl
  · have h14 := cF h12 hb
    obtain ⟨y15, hy15, h16⟩ := bi_ok h14
    refine go hΓ 6 rfl ?_
    refine eo_callP (callable Tryz.func31 rfl rfl) (c_laneref1_DomainFault hy15) rfl (Nat.le_of_ble_eq_true rfl) rfl rfl rfl rfl rfl ?_
    obtain ⟨y17, hy17, h18⟩ := bi_ok h16
    refine eo_callP (callable Tryz.func34 rfl rfl) (c_laneref1_Kinds hy17) rfl (Nat.le_of_ble_eq_true rfl) rfl rfl rfl rfl rfl ?_
    obtain ⟨y19, hy19, h20⟩ := bi_ok h18
    refine go_ops hΓ 1 rfl ?_
    refine eo_callP (callable Tryz.func33 rfl rfl) (c_slices_Contains_int_int hy19) rfl (Nat.le_of_ble_eq_true rfl) rfl rfl rfl rfl rfl ?_
    obtain ⟨y21, hy21, h22⟩ := bi_ok h20
    refine go_ops hΓ 1 rfl ?_
    refine eo_callP (callable Tryz.func32 rfl rfl) (c_lanelaw1_when hy21) rfl (Nat.le_of_ble_eq_true rfl) rfl rfl rfl rfl rfl ?_
    refine eo_litT hΓ (enc := (eN .i64)) [y9, y15, y21] rfl rfl rfl rfl rfl rfl rfl rfl rfl rfl rfl rfl (Nat.le_of_ble_eq_true rfl) ?_
    obtain ⟨y23, hy23, h24⟩ := bi_ok h22
    refine eo_callP (callable Tryz.func30 rfl rfl) (c_cmp_Or_api_Errno hy23) rfl (Nat.le_of_ble_eq_true rfl) rfl rfl rfl rfl rfl ?_
    refine go_ops hΓ 5 rfl ?_
    refine eo_alloc hΓ rfl rfl rfl (Nat.le_of_ble_eq_true rfl) ?_
    obtain ⟨q25, hq25, h26⟩ := bi_ok h24
    refine go_ops hΓ 9 rfl ?_
    refine j_cutNZ [(7, .ptr 2 0), (8, I y7.2), (9, I q25.2), (10, .ptr 3 0)] [.box 25 [.d (Sl (eN .i64) y5.2.L), I y5.2.v_at], .box 92 [.d (Sl eS y1.1.Search), I y1.1.Dots, .d (Sl e_api_Split y1.1.Splits), .d (Sl e_api_Source y1.1.Sources)], .box 95 [S y7.1.Name, S y7.1.Server, .d (Sl e_api_Record y7.1.Records)], .box 95 [S q25.1.Name, S q25.1.Server, .d (Sl e_api_Record q25.1.Records)]] ?_ ?_
    · refine j_cond rfl (fun hb => ?_) (fun hb => ?_)
      · have h27 := cT hq25 hb
        obtain ⟨y28, hy28, h29⟩ := bi_ok h27
        refine go hΓ 5 rfl ?_
        refine eo_callP (callable Tryz.func62 rfl rfl) (c_laneref1_AskOf hy28) rfl (Nat.le_of_ble_eq_true rfl) rfl rfl rfl rfl rfl ?_
        refine go_ops hΓ 3 rfl ?_
        refine eo_alloc hΓ rfl rfl rfl (Nat.le_of_ble_eq_true rfl) ?_
        refine eo_store hΓ rfl rfl rfl rfl rfl rfl rfl rfl (Nat.le_of_ble_eq_true rfl) ?_
        refine eo_hp [.box 25 [.d (Sl (eN .i64) y5.2.L), I y5.2.v_at], .box 92 [.d (Sl eS y1.1.Search), I y1.1.Dots, .d (Sl e_api_Split y1.1.Splits), .d (Sl e_api_Source y1.1.Sources)], .box 95 [S y7.1.Name, S y7.1.Server, .d (Sl e_api_Record y7.1.Records)], .box 95 [S [], S [], .d (Sl e_api_Record [])], .box 95 [S y28.1.Name, S y28.1.Server, .d (Sl e_api_Record y28.1.Records)]] rfl ?_
        refine go_ops hΓ 3 rfl ?_
        refine j_drawE [.dead, .dead, .dead, .dead, .box 95 [S y28.1.Name, S y28.1.Server, .d (Sl e_api_Record y28.1.Records)]] [0] [4] [] hmix (by kernel_rfl) (by kernel_rfl) ⟨rfl, trivial⟩ (Nat.le_of_ble_eq_true rfl) ?_
        obtain ⟨y30, hy30, h31⟩ := bi_ok h29
        refine go_E hΓ 3 rfl ?_
        refine ge_callP (callable Tryz.func32 rfl rfl) (c_lanelaw1_when hy30) rfl rfl rfl rfl rfl rfl ?_
        refine ge_h0 [.box 25 [.d (Sl (eN .i64) y5.2.L), I y5.2.v_at], .box 92 [.d (Sl eS y1.1.Search), I y1.1.Dots, .d (Sl e_api_Split y1.1.Splits), .d (Sl e_api_Source y1.1.Sources)], .box 95 [S y7.1.Name, S y7.1.Server, .d (Sl e_api_Record y7.1.Records)], .box 95 [S y28.1.Name, S y28.1.Server, .d (Sl e_api_Record y28.1.Records)], .box 95 [S y28.1.Name, S y28.1.Server, .d (Sl e_api_Record y28.1.Records)]] rfl rfl (st_st ⟨rfl, trivial⟩) (qte_u (opu_store2 hΓ rfl rfl rfl rfl rfl rfl rfl rfl rfl)) ?_
        refine go_E hΓ 1 rfl ?_
        refine ge_fin ?_
        obtain rfl := Option.some.inj h31
        exact ⟨⟨rfl, rfl, rfl, rfl, trivial⟩, [_], rfl, .inr ⟨HB.mk rfl, FB.mk rfl, (Nat.le_of_ble_eq_true rfl)⟩⟩
      · have h32 := cF hq25 hb
        refine go hΓ 1 rfl ?_
        obtain rfl := Option.some.inj h32
        exact ⟨⟨rfl, rfl, rfl, rfl, trivial⟩, [], rfl, .inl rfl⟩
    · refine go hΓ 7 rfl ?_
      refine o_cut 6 [(7, .ptr 2 0), (10, .ptr 3 0), (67, B (((y7.2 : Int) == q25.2) && ((y7.1.Name : Str) == q25.1.Name)))] [.box 25 [.d (Sl (eN .i64) y5.2.L), I y5.2.v_at], .box 92 [.d (Sl eS y1.1.Search), I y1.1.Dots, .d (Sl e_api_Split y1.1.Splits), .d (Sl e_api_Source y1.1.Sources)], .box 95 [S y7.1.Name, S y7.1.Server, .d (Sl e_api_Record y7.1.Records)], .box 95 [S q25.1.Name, S q25.1.Server, .d (Sl e_api_Record q25.1.Records)]] ?_ ?_
      · refine eo_gsplit rfl rfl (fun hb => ?_) (fun hb => ?_)
        · refine go_ops hΓ 7 rfl ?_
          exact ⟨⟨rfl, rfl, get_b rfl (and_t hb), trivial⟩, [], rfl, .inl rfl⟩
        · refine go_ops hΓ 7 rfl ?_
          exact ⟨⟨rfl, rfl, get_b rfl (and_f hb), trivial⟩, [], rfl, .inl rfl⟩
      · refine go_ops hΓ 1 rfl ?_
        refine o_cut 6 [(7, .ptr 2 0), (10, .ptr 3 0), (74, B ((((y7.2 : Int) == q25.2) && ((y7.1.Name : Str) == q25.1.Name)) && ((y7.1.Server : Str) == q25.1.Server)))] [.box 25 [.d (Sl (eN .i64) y5.2.L), I y5.2.v_at], .box 92 [.d (Sl eS y1.1.Search), I y1.1.Dots, .d (Sl e_api_Split y1.1.Splits), .d (Sl e_api_Source y1.1.Sources)], .box 95 [S y7.1.Name, S y7.1.Server, .d (Sl e_api_Record y7.1.Records)], .box 95 [S q25.1.Name, S q25.1.Server, .d (Sl e_api_Record q25.1.Records)]] ?_ ?_
        · refine eo_gsplit rfl rfl (fun hb => ?_) (fun hb => ?_)
          · refine go_ops hΓ 7 rfl ?_
            exact ⟨⟨rfl, rfl, get_b rfl (and_t hb), trivial⟩, [], rfl, .inl rfl⟩
          · refine go_ops hΓ 7 rfl ?_
            exact ⟨⟨rfl, rfl, get_b rfl (and_f hb), trivial⟩, [], rfl, .inl rfl⟩
        · refine go_ops hΓ 1 rfl ?_
          obtain ⟨q33, hq33, h34⟩ := bi_ok h26
          refine o_cut 6 [(81, B q33)] [.box 25 [.d (Sl (eN .i64) y5.2.L), I y5.2.v_at], .box 92 [.d (Sl eS y1.1.Search), I y1.1.Dots, .d (Sl e_api_Split y1.1.Splits), .d (Sl e_api_Source y1.1.Sources)], .box 95 [S y7.1.Name, S y7.1.Server, .d (Sl e_api_Record y7.1.Records)], .box 95 [S q25.1.Name, S q25.1.Server, .d (Sl e_api_Record q25.1.Records)]] ?_ ?_
          · refine eo_gsplit rfl rfl (fun hb => ?_) (fun hb => ?_)
            · have h35 := cT hq33 hb
              obtain ⟨y36, hy36, h37⟩ := bi_ok h35
              refine go_ops hΓ 4 rfl ?_
              refine eo_guard rfl ?_
              refine eo_callP (callable Tryz.func36 rfl rfl) (c_slices_Equal_api_Record_api_Record hy36) rfl (Nat.le_of_ble_eq_true rfl) rfl rfl rfl rfl rfl ?_
              refine go_ops hΓ 2 rfl ?_
              obtain rfl := Option.some.inj h37
              exact ⟨⟨rfl, trivial⟩, [], rfl, .inl rfl⟩
            · have h38 := cF hq33 hb
              refine go_ops hΓ 7 rfl ?_
              obtain rfl := Option.some.inj h38
              exact ⟨⟨rfl, trivial⟩, [], rfl, .inl rfl⟩
          · refine go_ops hΓ 1 rfl ?_
            obtain ⟨q39, hq39, h40⟩ := bi_ok h34
            refine o_cut 2 [(84, B q39)] [.box 25 [.d (Sl (eN .i64) y5.2.L), I y5.2.v_at], .box 92 [.d (Sl eS y1.1.Search), I y1.1.Dots, .d (Sl e_api_Split y1.1.Splits), .d (Sl e_api_Source y1.1.Sources)], .box 95 [S y7.1.Name, S y7.1.Server, .d (Sl e_api_Record y7.1.Records)], .box 95 [S q25.1.Name, S q25.1.Server, .d (Sl e_api_Record q25.1.Records)]] ?_ ?_
            · refine eo_gsplit rfl rfl (fun hb => ?_) (fun hb => ?_)
              · have h41 := cT hq39 hb
                obtain ⟨y42, hy42, h43⟩ := bi_ok h41
                refine eo_guard rfl ?_
                refine eo_callP (callable Tryz.func19 rfl rfl) (c_lanelaw1_named hy42) rfl (Nat.le_of_ble_eq_true rfl) rfl rfl rfl rfl rfl ?_
                refine go_ops hΓ 2 rfl ?_
                obtain rfl := Option.some.inj h43
                exact ⟨⟨rfl, trivial⟩, [], rfl, .inl rfl⟩
              · have h44 := cF hq39 hb
                refine go_ops hΓ 3 rfl ?_
                obtain rfl := Option.some.inj h44
                exact ⟨⟨rfl, trivial⟩, [], rfl, .inl rfl⟩
            · refine go_ops hΓ 4 rfl ?_
              obtain rfl := Option.some.inj h40
              exact fin_pure hΓ (.inr rfl) rfl rfl

end Go.Proofs.YtpgnhnjhpnbelaaGreatDoor
