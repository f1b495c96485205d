/-
  The functions compute their models.
-/
import Derived.Test.YtjmlnnanfkiakaaGreatDoorXCM
import Derived.Test.YtjmlnnanfkiakaaGreatDoorGt
import Derived.Test.YtjmlnnanfkiakaaGreatDoorStrS
import Derived.Test.YtjmlnnanfkiakaaGreatDoorXCW1
set_option linter.unusedVariables false
set_option linter.unusedSimpArgs false
set_option maxRecDepth 100000
namespace Go.Proofs.YtjmlnnanfkiakaaGreatDoor
open Go.Gk
theorem c_node_owns {d : T_api_Directory} {user : Str} {tag : Str} {r : Bool × Bool} (h : m_node_owns d user tag = some r) : Pure Tryz.prog 102 [.agg [.d (Sl eS d.Users), .d (Sl e_api_Owner d.Owners), I d.Life, B d.Approve], S user, S tag] (.tup [B r.1, B r.2]) := by
  refine Pure.enter (Fr.of 0 _) Tryz.func102 rfl (Fr.of_ok _) rfl rfl ?_
  refine go_in ?_
  unfold m_node_owns at h
  refine go hΓ 2 rfl ?_
  refine eo_box rfl rfl rfl rfl (Nat.le_of_ble_eq_true rfl) ?_
  refine eo_box rfl rfl rfl rfl (Nat.le_of_ble_eq_true rfl) ?_
  obtain ⟨y1, hy1, h2⟩ := bi_ok h
  refine go_ops hΓ 9 rfl ?_
  refine eo_callF [1] (I y1) [.box 29 [.d (Sl eS d.Users), .d (Sl e_api_Owner d.Owners), I d.Life, B d.Approve], .box 9 [S tag]] (callable Tryz.func209 rfl rfl) (c_slices_IndexFunc_api_Owner_api_Owner hy1) rfl (Nat.le_of_ble_eq_true rfl) rfl rfl rfl rfl rfl rfl rfl rfl rfl rfl ?_
  refine go_ops hΓ 8 rfl ?_
  obtain ⟨q3, hq3, h4⟩ := bi_ok h2
  refine o_cut 9 [(6, B false), (7, B false), (8, I y1), (24, B q3)] [.box 29 [.d (Sl eS d.Users), .d (Sl e_api_Owner d.Owners), I d.Life, B d.Approve], .box 9 [S tag]] ?_ ?_
  · refine eo_gsplit rfl rfl (fun hb => ?_) (fun hb => ?_)
    · have h5 := cT hq3 hb
      obtain ⟨x6, hx6, h7⟩ := bi_ok h5
      refine go_ops hΓ 3 rfl ?_
      refine eo_guard rfl ?_
      refine eo_o rfl (op_elemZ hΓ (enc := e_api_Owner) hx6 rfl rfl rfl rfl rfl (fun _ => rfl)) ?_
      obtain ⟨y8, hy8, h9⟩ := bi_ok h7
      refine go_ops hΓ 3 rfl ?_
      refine eo_guard rfl ?_
      refine eo_callP (callable Tryz.func61 rfl rfl) (c_slices_Contains_string_string hy8) rfl (Nat.le_of_ble_eq_true rfl) rfl rfl rfl rfl rfl ?_
      refine go_ops hΓ 2 rfl ?_
      obtain rfl := Option.some.inj h9
      exact ⟨⟨rfl, rfl, rfl, rfl, trivial⟩, [], rfl, .inl rfl⟩
    · have h10 := cF hq3 hb
      refine go_ops hΓ 10 rfl ?_
      obtain rfl := Option.some.inj h10
      exact ⟨⟨rfl, rfl, rfl, rfl, trivial⟩, [], rfl, .inl rfl⟩
  · refine go_ops hΓ 7 rfl ?_
    obtain rfl := Option.some.inj h4
    exact fin_pure hΓ (.inr rfl) rfl rfl
theorem c_node_Owns {k : Nat} {d : T_api_Directory} {user : Str} {tag : Str} {r : Bool × Int} (h : m_node_Owns k d user tag = some r) : Pure Tryz.prog 27 [.agg [.d (Sl eS d.Users), .d (Sl e_api_Owner d.Owners), I d.Life, B d.Approve], S user, S tag] (.tup [B r.1, I r.2]) := by
  refine Pure.enter (Fr.of 0 _) Tryz.func27 rfl (Fr.of_ok _) rfl rfl ?_
  refine go_in ?_
  unfold m_node_Owns at h
  refine go hΓ 2 rfl ?_
  refine eo_box rfl rfl rfl rfl (Nat.le_of_ble_eq_true rfl) ?_
  obtain ⟨y1, hy1, h2⟩ := bi_ok h
  refine go_ops hΓ 8 rfl ?_
  refine eo_callP (callable Tryz.func29 rfl rfl) (c_node_CheckDirectory hy1) rfl (Nat.le_of_ble_eq_true rfl) rfl rfl rfl rfl rfl ?_
  refine go_ops hΓ 9 rfl ?_
  refine j_cond rfl (fun hb => ?_) (fun hb => ?_)
  · have h3 := cT h2 hb
    refine go hΓ 9 rfl ?_
    obtain rfl := Option.some.inj h3
    exact fin_pure hΓ (.inr rfl) rfl rfl
  · have h4 := cF h2 hb
    obtain ⟨y5, hy5, h6⟩ := bi_ok h4
    refine go hΓ 7 rfl ?_
    refine eo_callP (callable Tryz.func102 rfl rfl) (c_node_owns hy5) rfl (Nat.le_of_ble_eq_true rfl) rfl rfl rfl rfl rfl ?_
    obtain ⟨y7, hy7, h8⟩ := bi_ok h6
    refine go_ops hΓ 13 rfl ?_
    refine eo_callP (callable Tryz.func61 rfl rfl) (c_slices_Contains_string_string hy7) rfl (Nat.le_of_ble_eq_true rfl) rfl rfl rfl rfl rfl ?_
    refine go_ops hΓ 2 rfl ?_
    refine o_cut 3 [(9, B y5.1), (31, B ((!y7) || (!y5.2)))] [.box 29 [.d (Sl eS d.Users), .d (Sl e_api_Owner d.Owners), I d.Life, B d.Approve]] ?_ ?_
    · refine eo_gsplit rfl rfl (fun hb => ?_) (fun hb => ?_)
      · refine go_ops hΓ 4 rfl ?_
        exact ⟨⟨rfl, get_b rfl (or_t hb), trivial⟩, [], rfl, .inl rfl⟩
      · refine go_ops hΓ 4 rfl ?_
        exact ⟨⟨rfl, get_b rfl (or_f hb), trivial⟩, [], rfl, .inl rfl⟩
    · refine go_ops hΓ 2 rfl ?_
      refine j_cond rfl (fun hb => ?_) (fun hb => ?_)
      · have h9 := cT h8 hb
        refine go hΓ 8 rfl ?_
        obtain rfl := Option.some.inj h9
        exact fin_pure hΓ (.inr rfl) rfl rfl
      · have h10 := cF h8 hb
        refine go hΓ 10 rfl ?_
        obtain rfl := Option.some.inj h10
        exact fin_pure hΓ (.inr rfl) rfl rfl
theorem c_laneref1_ownersOf {d : T_api_Directory} {tag : Str} {r : (List Str) × Bool} (h : m_laneref1_ownersOf d tag = some r) : Pure Tryz.prog 109 [.agg [.d (Sl eS d.Users), .d (Sl e_api_Owner d.Owners), I d.Life, B d.Approve], S tag] (.tup [.d (Sl eS r.1), B r.2]) := by
  refine Pure.enter (Fr.of 0 _) Tryz.func109 rfl (Fr.of_ok _) rfl rfl ?_
  refine go_in ?_
  unfold m_laneref1_ownersOf at h
  refine go hΓ 2 rfl ?_
  refine eo_box rfl rfl rfl rfl (Nat.le_of_ble_eq_true rfl) ?_
  refine go_ops hΓ 13 rfl ?_
  obtain ⟨q4, hq4, h5⟩ := bi_ok h
  refine j_bound 9 rfl fun hb7 => ?_
  refine j_cutEZ (R := fun a6 => q4 = .go a6) (fun a6 => []) (fun a6 => [.box 29 [.d (Sl eS d.Users), .d (Sl e_api_Owner d.Owners), I d.Life, B d.Approve]]) ?_ ?_
  · refine go hΓ 1 rfl ?_
    refine j_range d.Owners hq4 (fun i1 s2 => [(1, S tag), (9, .d (Sl e_api_Owner d.Owners)), (10, I (d.Owners.length : Int)), (11, I (i1 : Int))]) (fun s2 => [.box 29 [.d (Sl eS d.Users), .d (Sl e_api_Owner d.Owners), I d.Life, B d.Approve]]) ⟨⟨rfl, rfl, rfl, rfl, trivial⟩, [], rfl, .inl rfl⟩ (fun i1 x3 s2 y11 hx8 hlt hy9 hout10 => ?_) (fun s2 hgo => ?_)
    · refine go hΓ 6 rfl ?_
      refine j_condT rfl (decide_eq_true (Int.ofNat_lt.2 hlt)) ?_
      refine go hΓ 6 rfl ?_
      refine eo_o rfl (op_elemZ hΓ (enc := e_api_Owner) (getZ_nat hx8) rfl rfl rfl rfl rfl (fun _ => rfl)) ?_
      refine go_ops hΓ 1 rfl ?_
      refine eo_alloc hΓ rfl rfl rfl (Nat.le_of_ble_eq_true rfl) ?_
      refine eo_store hΓ rfl rfl rfl rfl rfl rfl rfl rfl (Nat.le_of_ble_eq_true rfl) ?_
      refine eo_hp [.box 29 [.d (Sl eS d.Users), .d (Sl e_api_Owner d.Owners), I d.Life, B d.Approve], .box 155 [S x3.Tag, .d (Sl eS x3.Users)]] rfl ?_
      refine go_ops hΓ 10 rfl ?_
      refine j_cond rfl (fun hb => ?_) (fun hb => ?_)
      · have h12 := cT hy9 hb
        refine go hΓ 11 rfl ?_
        obtain ⟨v13, hv13, h14⟩ := bi_ok h12
        obtain rfl := Option.some.inj h14
        obtain rfl := hout10 _ rfl
        obtain rfl := Option.some.inj h5
        refine go hΓ 4 rfl ?_
        obtain rfl := Option.some.inj hv13
        exact fin_pure hΓ (.inr rfl) rfl rfl
      · have h15 := cF hy9 hb
        refine go hΓ 7 rfl ?_
        obtain rfl := Option.some.inj h15
        exact ⟨_, rfl, ⟨⟨rfl, rfl, rfl, get_eq rfl (w64_succ (Nat.lt_of_lt_of_le hlt hb7)), trivial⟩, [_], rfl, .inr ⟨HB.mk rfl, FB.mk rfl, (Nat.le_of_ble_eq_true rfl)⟩⟩⟩
    · subst hgo
      refine go hΓ 6 rfl ?_
      refine j_condF rfl (decide_eq_false (Int.lt_irrefl _)) ?_
      refine go hΓ 4 rfl ?_
      exact ⟨_, rfl, ⟨trivial, [], rfl, .inl rfl⟩⟩
  · intro a6 ha
    subst ha
    replace h5 := goI_l h5
    refine go hΓ 8 rfl ?_
    obtain rfl := Option.some.inj h5
    exact fin_pure hΓ (.inr rfl) rfl rfl
theorem c_laneref1_OwnsOf {d : T_api_Directory} {user : Str} {tag : Str} {r : Bool × Int} (h : m_laneref1_OwnsOf d user tag = some r) : Pure Tryz.prog 30 [.agg [.d (Sl eS d.Users), .d (Sl e_api_Owner d.Owners), I d.Life, B d.Approve], S user, S tag] (.tup [B r.1, I r.2]) := by
  refine Pure.enter (Fr.of 0 _) Tryz.func30 rfl (Fr.of_ok _) rfl rfl ?_
  refine go_in ?_
  unfold m_laneref1_OwnsOf at h
  refine go hΓ 2 rfl ?_
  refine eo_box rfl rfl rfl rfl (Nat.le_of_ble_eq_true rfl) ?_
  obtain ⟨y1, hy1, h2⟩ := bi_ok h
  refine go_ops hΓ 10 rfl ?_
  refine eo_callP (callable Tryz.func61 rfl rfl) (c_slices_Contains_string_string hy1) rfl (Nat.le_of_ble_eq_true rfl) rfl rfl rfl rfl rfl ?_
  refine go_ops hΓ 3 rfl ?_
  refine j_cond rfl (fun hb => ?_) (fun hb => ?_)
  · have h3 := cT h2 hb
    refine go hΓ 8 rfl ?_
    obtain rfl := Option.some.inj h3
    exact fin_pure hΓ (.inr rfl) rfl rfl
  · have h4 := cF h2 hb
    obtain ⟨y5, hy5, h6⟩ := bi_ok h4
    refine go hΓ 6 rfl ?_
    refine eo_callP (callable Tryz.func109 rfl rfl) (c_laneref1_ownersOf hy5) rfl (Nat.le_of_ble_eq_true rfl) rfl rfl rfl rfl rfl ?_
    refine go_ops hΓ 14 rfl ?_
    refine j_cond rfl (fun hb => ?_) (fun hb => ?_)
    · have h7 := cT h6 hb
      refine go hΓ 8 rfl ?_
      obtain rfl := Option.some.inj h7
      exact fin_pure hΓ (.inr rfl) rfl rfl
    · have h8 := cF h6 hb
      obtain ⟨y9, hy9, h10⟩ := bi_ok h8
      refine go hΓ 6 rfl ?_
      refine eo_callP (callable Tryz.func61 rfl rfl) (c_slices_Contains_string_string hy9) rfl (Nat.le_of_ble_eq_true rfl) rfl rfl rfl rfl rfl ?_
      refine go_ops hΓ 5 rfl ?_
      obtain rfl := Option.some.inj h10
      exact fin_pure hΓ (.inr rfl) rfl rfl
theorem c_kit_IsMoment {n : Int} {r : Bool} (h : m_kit_IsMoment n = some r) : Pure Tryz.prog 138 [I n] (B r) := by
  refine Pure.enter (Fr.of 0 _) Tryz.func138 rfl (Fr.of_ok _) rfl rfl ?_
  refine go_in ?_
  unfold m_kit_IsMoment at h
  refine go hΓ 10 rfl ?_
  refine o_cut 3 [(2, B false), (8, B ((decide ((n : Int) ≥ 0)) && (decide ((n : Int) < 345686400))))] [] ?_ ?_
  · refine eo_gsplit rfl rfl (fun hb => ?_) (fun hb => ?_)
    · refine go_ops hΓ 4 rfl ?_
      exact ⟨⟨rfl, get_b rfl (and_t hb), trivial⟩, [], rfl, .inl rfl⟩
    · refine go_ops hΓ 4 rfl ?_
      exact ⟨⟨rfl, get_b rfl (and_f hb), trivial⟩, [], rfl, .inl rfl⟩
  · refine go_ops hΓ 4 rfl ?_
    obtain rfl := Option.some.inj h
    exact fin_pure hΓ (.inr rfl) rfl rfl
theorem c_node_fieldsOf {kind : Int} {r : List Int} (h : m_node_fieldsOf kind = some r) : Pure Tryz.prog 120 [I kind] (.d (Sl (eN .i64) r)) := by
  refine Pure.enter (Fr.of 0 _) Tryz.func120 rfl (Fr.of_ok _) rfl rfl ?_
  refine go_in ?_
  unfold m_node_fieldsOf at h
  refine go hΓ 18 rfl ?_
  refine j_cond rfl (fun hb => ?_) (fun hb => ?_)
  · have h1 := cT h hb
    refine go hΓ 2 rfl ?_
    refine eo_litT hΓ (enc := (eN .i64)) [0, 2, 5, 6, 7, 8] rfl rfl rfl rfl rfl rfl rfl rfl rfl rfl rfl rfl (Nat.le_of_ble_eq_true rfl) ?_
    refine go_ops hΓ 6 rfl ?_
    obtain rfl := Option.some.inj h1
    exact fin_pure hΓ (.inr rfl) rfl rfl
  · have h2 := cF h hb
    refine go hΓ 6 rfl ?_
    refine j_cond rfl (fun hb => ?_) (fun hb => ?_)
    · have h3 := cT h2 hb
      refine go hΓ 2 rfl ?_
      refine eo_litT hΓ (enc := (eN .i64)) [0, 2] rfl rfl rfl rfl rfl rfl rfl rfl rfl rfl rfl rfl (Nat.le_of_ble_eq_true rfl) ?_
      refine go_ops hΓ 6 rfl ?_
      obtain rfl := Option.some.inj h3
      exact fin_pure hΓ (.inr rfl) rfl rfl
    · have h4 := cF h2 hb
      refine go hΓ 6 rfl ?_
      refine j_cond rfl (fun hb => ?_) (fun hb => ?_)
      · have h5 := cT h4 hb
        refine go hΓ 2 rfl ?_
        refine eo_litT hΓ (enc := (eN .i64)) [0, 1, 2, 3, 4] rfl rfl rfl rfl rfl rfl rfl rfl rfl rfl rfl rfl (Nat.le_of_ble_eq_true rfl) ?_
        refine go_ops hΓ 6 rfl ?_
        obtain rfl := Option.some.inj h5
        exact fin_pure hΓ (.inr rfl) rfl rfl
      · have h6 := cF h4 hb
        refine go hΓ 6 rfl ?_
        refine j_cond rfl (fun hb => ?_) (fun hb => ?_)
        · have h7 := cT h6 hb
          refine go hΓ 2 rfl ?_
          refine eo_litT hΓ (enc := (eN .i64)) [0, 1, 3] rfl rfl rfl rfl rfl rfl rfl rfl rfl rfl rfl rfl (Nat.le_of_ble_eq_true rfl) ?_
          refine go_ops hΓ 6 rfl ?_
          obtain rfl := Option.some.inj h7
          exact fin_pure hΓ (.inr rfl) rfl rfl
        · have h8 := cF h6 hb
          refine go hΓ 6 rfl ?_
          refine j_cond rfl (fun hb => ?_) (fun hb => ?_)
          · have h9 := cT h8 hb
            refine go hΓ 2 rfl ?_
            refine eo_litT hΓ (enc := (eN .i64)) [0, 1, 4] rfl rfl rfl rfl rfl rfl rfl rfl rfl rfl rfl rfl (Nat.le_of_ble_eq_true rfl) ?_
            refine go_ops hΓ 6 rfl ?_
            obtain rfl := Option.some.inj h9
            exact fin_pure hΓ (.inr rfl) rfl rfl
          · have h10 := cF h8 hb
            refine go hΓ 6 rfl ?_
            refine j_cond rfl (fun hb => ?_) (fun hb => ?_)
            · have h11 := cT h10 hb
              refine go hΓ 2 rfl ?_
              refine eo_litT hΓ (enc := (eN .i64)) [0, 1, 5] rfl rfl rfl rfl rfl rfl rfl rfl rfl rfl rfl rfl (Nat.le_of_ble_eq_true rfl) ?_
              refine go_ops hΓ 6 rfl ?_
              obtain rfl := Option.some.inj h11
              exact fin_pure hΓ (.inr rfl) rfl rfl
            · have h12 := cF h10 hb
              refine go hΓ 5 rfl ?_
              refine eo_litT hΓ (enc := (eN .i64)) [0, 1] rfl rfl rfl rfl rfl rfl rfl rfl rfl rfl rfl rfl (Nat.le_of_ble_eq_true rfl) ?_
              refine go_ops hΓ 4 rfl ?_
              obtain rfl := Option.some.inj h12
              exact fin_pure hΓ (.inr rfl) rfl rfl
theorem c_node_keyFault {k : Nat} {s : Str} {empty : Bool} {r : Int} (h : m_node_keyFault k s empty = some r) : Pure Tryz.prog 270 [S s, B empty] (I r) := by
  refine Pure.enter (Fr.of 0 _) Tryz.func270 rfl (Fr.of_ok _) rfl rfl ?_
  refine go_in ?_
  unfold m_node_keyFault at h
  obtain ⟨y1, hy1, h2⟩ := bi_ok h
  refine go hΓ 9 rfl ?_
  refine eo_callP (callable Tryz.func107 rfl rfl) (c_kit_IsKey hy1) rfl (Nat.le_of_ble_eq_true rfl) rfl rfl rfl rfl rfl ?_
  refine go_ops hΓ 2 rfl ?_
  refine o_cut 7 [(15, B ((!y1) && (!(empty && ((s : Str) == [])))))] [] ?_ ?_
  · refine eo_gsplit rfl rfl (fun hb => ?_) (fun hb => ?_)
    · refine go_ops hΓ 2 rfl ?_
      refine o_cut 3 [(8, B true), (13, B (empty && ((s : Str) == [])))] [] ?_ ?_
      · refine eo_gsplit rfl rfl (fun hb => ?_) (fun hb => ?_)
        · refine go_ops hΓ 4 rfl ?_
          exact ⟨⟨rfl, get_b rfl (and_t hb), trivial⟩, [], rfl, .inl rfl⟩
        · refine go_ops hΓ 4 rfl ?_
          exact ⟨⟨rfl, get_b rfl (and_f hb), trivial⟩, [], rfl, .inl rfl⟩
      · refine go_ops hΓ 3 rfl ?_
        exact ⟨⟨get_b rfl (and_t hb), trivial⟩, [], rfl, .inl rfl⟩
    · refine go_ops hΓ 8 rfl ?_
      exact ⟨⟨get_b rfl (and_f hb), trivial⟩, [], rfl, .inl rfl⟩
  · refine go_ops hΓ 2 rfl ?_
    refine j_cond rfl (fun hb => ?_) (fun hb => ?_)
    · have h3 := cT h2 hb
      refine go hΓ 7 rfl ?_
      obtain rfl := Option.some.inj h3
      exact fin_pure hΓ (.inr rfl) rfl rfl
    · have h4 := cF h2 hb
      refine go hΓ 8 rfl ?_
      obtain rfl := Option.some.inj h4
      exact fin_pure hΓ (.inr rfl) rfl rfl
theorem c_node_isPublic {s : Str} {r : Bool} (h : m_node_isPublic s = some r) : Pure Tryz.prog 151 [S s] (B r) := by
  refine Pure.enter (Fr.of 0 _) Tryz.func151 rfl (Fr.of_ok _) rfl rfl ?_
  refine go_in ?_
  unfold m_node_isPublic at h
  refine go hΓ 10 rfl ?_
  refine o_cut 4 [(0, S s), (2, B false), (9, B ((!((s : Str) == [])) && (decide (((s.length : Int) : Int) ≤ 20))))] [] ?_ ?_
  · refine eo_gsplit rfl rfl (fun hb => ?_) (fun hb => ?_)
    · refine go_ops hΓ 5 rfl ?_
      exact ⟨⟨rfl, rfl, get_b rfl (and_t hb), trivial⟩, [], rfl, .inl rfl⟩
    · refine go_ops hΓ 5 rfl ?_
      exact ⟨⟨rfl, rfl, get_b rfl (and_f hb), trivial⟩, [], rfl, .inl rfl⟩
  · refine go_ops hΓ 1 rfl ?_
    obtain ⟨q1, hq1, h2⟩ := bi_ok h
    refine o_cut 4 [(2, B false), (14, B q1)] [] ?_ ?_
    · refine eo_gsplit rfl rfl (fun hb => ?_) (fun hb => ?_)
      · have h3 := cT hq1 hb
        obtain ⟨y4, hy4, h5⟩ := bi_ok h3
        refine go_ops hΓ 1 rfl ?_
        refine eo_guard rfl ?_
        refine eo_callP (callable Tryz.func153 rfl rfl) (c_strings_Trim hy4) rfl (Nat.le_of_ble_eq_true rfl) rfl rfl rfl rfl rfl ?_
        refine go_ops hΓ 3 rfl ?_
        obtain rfl := Option.some.inj h5
        exact ⟨⟨rfl, rfl, trivial⟩, [], rfl, .inl rfl⟩
      · have h6 := cF hq1 hb
        refine go_ops hΓ 5 rfl ?_
        obtain rfl := Option.some.inj h6
        exact ⟨⟨rfl, rfl, trivial⟩, [], rfl, .inl rfl⟩
    · refine go_ops hΓ 4 rfl ?_
      obtain rfl := Option.some.inj h2
      exact fin_pure hΓ (.inr rfl) rfl rfl
theorem c_node_tagsFault {k : Nat} {l : List Str} {r : Int} (h : m_node_tagsFault k l = some r) : Pure Tryz.prog 271 [.d (Sl eS l)] (I r) := by
  refine Pure.enter (Fr.of 0 _) Tryz.func271 rfl (Fr.of_ok _) rfl rfl ?_
  refine go_in ?_
  unfold m_node_tagsFault at h
  refine go hΓ 13 rfl ?_
  refine j_cond rfl (fun hb => ?_) (fun hb => ?_)
  · have h1 := cT h hb
    refine go hΓ 7 rfl ?_
    obtain rfl := Option.some.inj h1
    exact fin_pure hΓ (.inr rfl) rfl rfl
  · have h2 := cF h hb
    obtain ⟨y3, hy3, h4⟩ := bi_ok h2
    refine go hΓ 5 rfl ?_
    refine eo_callP (callable Tryz.func106 rfl rfl) (c_kit_RisingFault hy3) rfl (Nat.le_of_ble_eq_true rfl) rfl rfl rfl rfl rfl ?_
    refine go_ops hΓ 4 rfl ?_
    obtain rfl := Option.some.inj h4
    exact fin_pure hΓ (.inr rfl) rfl rfl
theorem c_node_numberFault {n : Int} {r : Int} (h : m_node_numberFault n = some r) : Pure Tryz.prog 272 [I n] (I r) := by
  refine Pure.enter (Fr.of 0 _) Tryz.func272 rfl (Fr.of_ok _) rfl rfl ?_
  refine go_in ?_
  unfold m_node_numberFault at h
  obtain ⟨y1, hy1, h2⟩ := bi_ok h
  refine go hΓ 9 rfl ?_
  refine eo_callP (callable Tryz.func108 rfl rfl) (c_kit_Outside hy1) rfl (Nat.le_of_ble_eq_true rfl) rfl rfl rfl rfl rfl ?_
  refine go_ops hΓ 2 rfl ?_
  refine j_cond rfl (fun hb => ?_) (fun hb => ?_)
  · have h3 := cT h2 hb
    refine go hΓ 7 rfl ?_
    obtain rfl := Option.some.inj h3
    exact fin_pure hΓ (.inr rfl) rfl rfl
  · have h4 := cF h2 hb
    refine go hΓ 8 rfl ?_
    obtain rfl := Option.some.inj h4
    exact fin_pure hΓ (.inr rfl) rfl rfl
set_option maxHeartbeats 8000000 in
theorem c_node_fieldFault {k : Nat} {s : T_api_Step} {field : Int} {r : Int} (h : m_node_fieldFault k s field = some r) : Pure Tryz.prog 193 [.agg [I s.At, S s.Server, I s.No, I s.Kind, S s.By, S s.Node, S s.Join, S s.Public, S s.Name, .d (Sl eS s.Tags), I s.Until, I s.Uses, B s.Ready], I field] (I r) := by
  refine Pure.enter (Fr.of 0 _) Tryz.func193 rfl (Fr.of_ok _) rfl rfl ?_
  refine go_in ?_
  unfold m_node_fieldFault at h
  refine go hΓ 2 rfl ?_
  refine eo_box rfl rfl rfl rfl (Nat.le_of_ble_eq_true rfl) ?_
  obtain ⟨q1, hq1, h2⟩ := bi_ok h
  refine go_ops hΓ 17 rfl ?_
  refine j_cutSZ (q := q1) (fun a3 => []) (fun a3 => [.box 37 [I s.At, S s.Server, I s.No, I s.Kind, S s.By, S s.Node, S s.Join, S s.Public, S s.Name, .d (Sl eS s.Tags), I s.Until, I s.Uses, B s.Ready]]) ?_ ?_
  · refine go hΓ 7 rfl ?_
    refine j_cond rfl (fun hb => ?_) (fun hb => ?_)
    · have h4 := cT hq1 hb
      obtain ⟨y5, hy5, h6⟩ := bi_ok h4
      refine go hΓ 5 rfl ?_
      refine eo_callP (callable Tryz.func270 rfl rfl) (c_node_keyFault hy5) rfl (Nat.le_of_ble_eq_true rfl) rfl rfl rfl rfl rfl ?_
      refine go_ops hΓ 5 rfl ?_
      obtain ⟨v7, hv7, h8⟩ := bi_ok h6
      obtain rfl := Option.some.inj h8
      obtain rfl := Option.some.inj h2
      refine go hΓ 2 rfl ?_
      obtain rfl := Option.some.inj hv7
      exact fin_pure hΓ (.inr rfl) rfl rfl
    · have h9 := cF hq1 hb
      refine go hΓ 6 rfl ?_
      refine j_cond rfl (fun hb => ?_) (fun hb => ?_)
      · have h10 := cT h9 hb
        obtain ⟨y11, hy11, h12⟩ := bi_ok h10
        refine go hΓ 4 rfl ?_
        refine eo_callP (callable Tryz.func270 rfl rfl) (c_node_keyFault hy11) rfl (Nat.le_of_ble_eq_true rfl) rfl rfl rfl rfl rfl ?_
        refine go_ops hΓ 5 rfl ?_
        obtain ⟨v13, hv13, h14⟩ := bi_ok h12
        obtain rfl := Option.some.inj h14
        obtain rfl := Option.some.inj h2
        refine go hΓ 2 rfl ?_
        obtain rfl := Option.some.inj hv13
        exact fin_pure hΓ (.inr rfl) rfl rfl
      · have h15 := cF h9 hb
        refine go hΓ 6 rfl ?_
        refine j_cond rfl (fun hb => ?_) (fun hb => ?_)
        · have h16 := cT h15 hb
          obtain ⟨y17, hy17, h18⟩ := bi_ok h16
          refine go hΓ 5 rfl ?_
          refine eo_callP (callable Tryz.func270 rfl rfl) (c_node_keyFault hy17) rfl (Nat.le_of_ble_eq_true rfl) rfl rfl rfl rfl rfl ?_
          refine go_ops hΓ 5 rfl ?_
          obtain ⟨v19, hv19, h20⟩ := bi_ok h18
          obtain rfl := Option.some.inj h20
          obtain rfl := Option.some.inj h2
          refine go hΓ 2 rfl ?_
          obtain rfl := Option.some.inj hv19
          exact fin_pure hΓ (.inr rfl) rfl rfl
        · have h21 := cF h15 hb
          refine go hΓ 6 rfl ?_
          refine j_cond rfl (fun hb => ?_) (fun hb => ?_)
          · have h22 := cT h21 hb
            obtain ⟨y23, hy23, h24⟩ := bi_ok h22
            refine go hΓ 4 rfl ?_
            refine eo_callP (callable Tryz.func151 rfl rfl) (c_node_isPublic hy23) rfl (Nat.le_of_ble_eq_true rfl) rfl rfl rfl rfl rfl ?_
            refine go_ops hΓ 3 rfl ?_
            refine j_cond rfl (fun hb => ?_) (fun hb => ?_)
            · have h25 := cT h24 hb
              refine go hΓ 7 rfl ?_
              obtain ⟨v26, hv26, h27⟩ := bi_ok h25
              obtain rfl := Option.some.inj h27
              obtain rfl := Option.some.inj h2
              refine go hΓ 2 rfl ?_
              obtain rfl := Option.some.inj hv26
              exact fin_pure hΓ (.inr rfl) rfl rfl
            · have h28 := cF h24 hb
              refine go hΓ 2 rfl ?_
              obtain rfl := Option.some.inj h28
              exact ⟨_, rfl, ⟨trivial, [], rfl, .inl rfl⟩⟩
          · have h29 := cF h21 hb
            refine go hΓ 6 rfl ?_
            refine j_cond rfl (fun hb => ?_) (fun hb => ?_)
            · have h30 := cT h29 hb
              obtain ⟨y31, hy31, h32⟩ := bi_ok h30
              refine go hΓ 4 rfl ?_
              refine eo_callP (callable Tryz.func270 rfl rfl) (c_node_keyFault hy31) rfl (Nat.le_of_ble_eq_true rfl) rfl rfl rfl rfl rfl ?_
              refine go_ops hΓ 5 rfl ?_
              obtain ⟨v33, hv33, h34⟩ := bi_ok h32
              obtain rfl := Option.some.inj h34
              obtain rfl := Option.some.inj h2
              refine go hΓ 2 rfl ?_
              obtain rfl := Option.some.inj hv33
              exact fin_pure hΓ (.inr rfl) rfl rfl
            · have h35 := cF h29 hb
              refine go hΓ 6 rfl ?_
              refine j_cond rfl (fun hb => ?_) (fun hb => ?_)
              · have h36 := cT h35 hb
                obtain ⟨y37, hy37, h38⟩ := bi_ok h36
                refine go hΓ 4 rfl ?_
                refine eo_callP (callable Tryz.func271 rfl rfl) (c_node_tagsFault hy37) rfl (Nat.le_of_ble_eq_true rfl) rfl rfl rfl rfl rfl ?_
                refine go_ops hΓ 5 rfl ?_
                obtain ⟨v39, hv39, h40⟩ := bi_ok h38
                obtain rfl := Option.some.inj h40
                obtain rfl := Option.some.inj h2
                refine go hΓ 2 rfl ?_
                obtain rfl := Option.some.inj hv39
                exact fin_pure hΓ (.inr rfl) rfl rfl
              · have h41 := cF h35 hb
                refine go hΓ 6 rfl ?_
                refine j_cond rfl (fun hb => ?_) (fun hb => ?_)
                · have h42 := cT h41 hb
                  obtain ⟨y43, hy43, h44⟩ := bi_ok h42
                  refine go hΓ 4 rfl ?_
                  refine eo_callP (callable Tryz.func272 rfl rfl) (c_node_numberFault hy43) rfl (Nat.le_of_ble_eq_true rfl) rfl rfl rfl rfl rfl ?_
                  refine go_ops hΓ 5 rfl ?_
                  obtain ⟨v45, hv45, h46⟩ := bi_ok h44
                  obtain rfl := Option.some.inj h46
                  obtain rfl := Option.some.inj h2
                  refine go hΓ 2 rfl ?_
                  obtain rfl := Option.some.inj hv45
                  exact fin_pure hΓ (.inr rfl) rfl rfl
                · have h47 := cF h41 hb
                  refine go hΓ 6 rfl ?_
                  refine j_cond rfl (fun hb => ?_) (fun hb => ?_)
                  · have h48 := cT h47 hb
                    obtain ⟨y49, hy49, h50⟩ := bi_ok h48
                    refine go hΓ 4 rfl ?_
                    refine eo_callP (callable Tryz.func272 rfl rfl) (c_node_numberFault hy49) rfl (Nat.le_of_ble_eq_true rfl) rfl rfl rfl rfl rfl ?_
                    refine go_ops hΓ 5 rfl ?_
                    obtain ⟨v51, hv51, h52⟩ := bi_ok h50
                    obtain rfl := Option.some.inj h52
                    obtain rfl := Option.some.inj h2
                    refine go hΓ 2 rfl ?_
                    obtain rfl := Option.some.inj hv51
                    exact fin_pure hΓ (.inr rfl) rfl rfl
                  · have h53 := cF h47 hb
                    refine go hΓ 2 rfl ?_
                    obtain rfl := Option.some.inj h53
                    exact ⟨_, rfl, ⟨trivial, [], rfl, .inl rfl⟩⟩
  · intro a3 ha
    subst ha
    replace h2 := orI_l h2
    refine go hΓ 7 rfl ?_
    obtain rfl := Option.some.inj h2
    exact fin_pure hΓ (.inr rfl) rfl rfl
theorem c_slices_Index_int_int {s : List Int} {v : Int} {r : Int} (h : m_slices_Index_int_int s v = some r) : Pure Tryz.prog 273 [.d (Sl (eN .i64) s), I v] (I r) := by
  refine Pure.enter (Fr.of 0 _) Tryz.func273 rfl (Fr.of_ok _) rfl rfl ?_
  refine go_in ?_
  unfold m_slices_Index_int_int at h
  refine go hΓ 13 rfl ?_
  obtain ⟨q4, hq4, h5⟩ := bi_ok h
  refine j_bound 0 rfl fun hb7 => ?_
  refine j_cutEZ (R := fun a6 => q4 = .go a6) (fun a6 => []) (fun a6 => []) ?_ ?_
  · refine go hΓ 1 rfl ?_
    refine j_range s hq4 (fun i1 s2 => [(0, .d (Sl (eN .i64) s)), (1, I v), (7, I (s.length : Int)), (8, I (i1 : Int))]) (fun s2 => []) ⟨⟨rfl, rfl, rfl, rfl, trivial⟩, [], rfl, .inl rfl⟩ (fun i1 x3 s2 y11 hx8 hlt hy9 hout10 => ?_) (fun s2 hgo => ?_)
    · refine go hΓ 6 rfl ?_
      refine j_condT rfl (decide_eq_true (Int.ofNat_lt.2 hlt)) ?_
      refine go hΓ 15 rfl ?_
      refine eo_o rfl (op_elemZ hΓ (enc := (eN .i64)) (getZ_nat hx8) rfl rfl rfl rfl rfl (fun _ => rfl)) ?_
      refine go_ops hΓ 4 rfl ?_
      refine j_cond rfl (fun hb => ?_) (fun hb => ?_)
      · have h12 := cT hy9 hb
        refine go hΓ 9 rfl ?_
        obtain ⟨v13, hv13, h14⟩ := bi_ok h12
        obtain rfl := Option.some.inj h14
        obtain rfl := hout10 _ rfl
        obtain rfl := Option.some.inj h5
        refine go hΓ 4 rfl ?_
        obtain rfl := Option.some.inj hv13
        exact fin_pure hΓ (.inr rfl) rfl rfl
      · have h15 := cF hy9 hb
        refine go hΓ 7 rfl ?_
        obtain rfl := Option.some.inj h15
        exact ⟨_, rfl, ⟨⟨rfl, rfl, rfl, get_eq rfl (w64_succ (Nat.lt_of_lt_of_le hlt hb7)), trivial⟩, [], rfl, .inl rfl⟩⟩
    · subst hgo
      refine go hΓ 6 rfl ?_
      refine j_condF rfl (decide_eq_false (Int.lt_irrefl _)) ?_
      refine go hΓ 4 rfl ?_
      exact ⟨_, rfl, ⟨trivial, [], rfl, .inl rfl⟩⟩
  · intro a6 ha
    subst ha
    replace h5 := goI_l h5
    refine go hΓ 7 rfl ?_
    obtain rfl := Option.some.inj h5
    exact fin_pure hΓ (.inr rfl) rfl rfl
theorem c_slices_Contains_int_int {s : List Int} {v : Int} {r : Bool} (h : m_slices_Contains_int_int s v = some r) : Pure Tryz.prog 194 [.d (Sl (eN .i64) s), I v] (B r) := by
  refine Pure.enter (Fr.of 0 _) Tryz.func194 rfl (Fr.of_ok _) rfl rfl ?_
  refine go_in ?_
  unfold m_slices_Contains_int_int at h
  obtain ⟨y1, hy1, h2⟩ := bi_ok h
  refine go hΓ 9 rfl ?_
  refine eo_callP (callable Tryz.func273 rfl rfl) (c_slices_Index_int_int hy1) rfl (Nat.le_of_ble_eq_true rfl) rfl rfl rfl rfl rfl ?_
  refine go_ops hΓ 5 rfl ?_
  obtain rfl := Option.some.inj h2
  exact fin_pure hΓ (.inr rfl) rfl rfl
set_option maxHeartbeats 8000000 in
theorem c_node_idle {s : T_api_Step} {field : Int} {r : Bool} (h : m_node_idle s field = some r) : Pure Tryz.prog 195 [.agg [I s.At, S s.Server, I s.No, I s.Kind, S s.By, S s.Node, S s.Join, S s.Public, S s.Name, .d (Sl eS s.Tags), I s.Until, I s.Uses, B s.Ready], I field] (B r) := by
  refine Pure.enter (Fr.of 0 _) Tryz.func195 rfl (Fr.of_ok _) rfl rfl ?_
  refine go_in ?_
  unfold m_node_idle at h
  refine go hΓ 2 rfl ?_
  refine eo_box rfl rfl rfl rfl (Nat.le_of_ble_eq_true rfl) ?_
  refine go_ops hΓ 16 rfl ?_
  refine j_cond rfl (fun hb => ?_) (fun hb => ?_)
  · have h1 := cT h hb
    refine go hΓ 11 rfl ?_
    obtain rfl := Option.some.inj h1
    exact fin_pure hΓ (.inr rfl) rfl rfl
  · have h2 := cF h hb
    refine go hΓ 6 rfl ?_
    refine j_cond rfl (fun hb => ?_) (fun hb => ?_)
    · have h3 := cT h2 hb
      refine go hΓ 11 rfl ?_
      obtain rfl := Option.some.inj h3
      exact fin_pure hΓ (.inr rfl) rfl rfl
    · have h4 := cF h2 hb
      refine go hΓ 6 rfl ?_
      refine j_cond rfl (fun hb => ?_) (fun hb => ?_)
      · have h5 := cT h4 hb
        refine go hΓ 11 rfl ?_
        obtain rfl := Option.some.inj h5
        exact fin_pure hΓ (.inr rfl) rfl rfl
      · have h6 := cF h4 hb
        refine go hΓ 6 rfl ?_
        refine j_cond rfl (fun hb => ?_) (fun hb => ?_)
        · have h7 := cT h6 hb
          refine go hΓ 11 rfl ?_
          obtain rfl := Option.some.inj h7
          exact fin_pure hΓ (.inr rfl) rfl rfl
        · have h8 := cF h6 hb
          refine go hΓ 6 rfl ?_
          refine j_cond rfl (fun hb => ?_) (fun hb => ?_)
          · have h9 := cT h8 hb
            refine go hΓ 11 rfl ?_
            obtain rfl := Option.some.inj h9
            exact fin_pure hΓ (.inr rfl) rfl rfl
          · have h10 := cF h8 hb
            refine go hΓ 6 rfl ?_
            refine j_cond rfl (fun hb => ?_) (fun hb => ?_)
            · have h11 := cT h10 hb
              refine go hΓ 12 rfl ?_
              obtain rfl := Option.some.inj h11
              exact fin_pure hΓ (.inr rfl) rfl rfl
            · have h12 := cF h10 hb
              refine go hΓ 6 rfl ?_
              refine j_cond rfl (fun hb => ?_) (fun hb => ?_)
              · have h13 := cT h12 hb
                refine go hΓ 11 rfl ?_
                obtain rfl := Option.some.inj h13
                exact fin_pure hΓ (.inr rfl) rfl rfl
              · have h14 := cF h12 hb
                refine go hΓ 6 rfl ?_
                refine j_cond rfl (fun hb => ?_) (fun hb => ?_)
                · have h15 := cT h14 hb
                  refine go hΓ 11 rfl ?_
                  obtain rfl := Option.some.inj h15
                  exact fin_pure hΓ (.inr rfl) rfl rfl
                · have h16 := cF h14 hb
                  refine go hΓ 12 rfl ?_
                  obtain rfl := Option.some.inj h16
                  exact fin_pure hΓ (.inr rfl) rfl rfl
set_option maxHeartbeats 8000000 in
theorem c_node_formFault {k : Nat} {s : T_api_Step} {r : Int} (h : m_node_formFault k s = some r) : Pure Tryz.prog 88 [.agg [I s.At, S s.Server, I s.No, I s.Kind, S s.By, S s.Node, S s.Join, S s.Public, S s.Name, .d (Sl eS s.Tags), I s.Until, I s.Uses, B s.Ready]] (I r) := by
  refine Pure.enter (Fr.of 0 _) Tryz.func88 rfl (Fr.of_ok _) rfl rfl ?_
  refine go_in ?_
  unfold m_node_formFault at h
  refine go hΓ 2 rfl ?_
  refine eo_box rfl rfl rfl rfl (Nat.le_of_ble_eq_true rfl) ?_
  obtain ⟨y1, hy1, h2⟩ := bi_ok h
  refine go_ops hΓ 9 rfl ?_
  refine eo_callP (callable Tryz.func138 rfl rfl) (c_kit_IsMoment hy1) rfl (Nat.le_of_ble_eq_true rfl) rfl rfl rfl rfl rfl ?_
  refine go_ops hΓ 4 rfl ?_
  refine j_cond rfl (fun hb => ?_) (fun hb => ?_)
  · have h3 := cT h2 hb
    refine go hΓ 8 rfl ?_
    obtain rfl := Option.some.inj h3
    exact fin_pure hΓ (.inr rfl) rfl rfl
  · have h4 := cF h2 hb
    obtain ⟨y5, hy5, h6⟩ := bi_ok h4
    refine go hΓ 4 rfl ?_
    refine eo_callP (callable Tryz.func107 rfl rfl) (c_kit_IsKey hy5) rfl (Nat.le_of_ble_eq_true rfl) rfl rfl rfl rfl rfl ?_
    refine go_ops hΓ 4 rfl ?_
    refine j_cond rfl (fun hb => ?_) (fun hb => ?_)
    · have h7 := cT h6 hb
      refine go hΓ 8 rfl ?_
      obtain rfl := Option.some.inj h7
      exact fin_pure hΓ (.inr rfl) rfl rfl
    · have h8 := cF h6 hb
      obtain ⟨y9, hy9, h10⟩ := bi_ok h8
      refine go hΓ 4 rfl ?_
      refine eo_callP (callable Tryz.func108 rfl rfl) (c_kit_Outside hy9) rfl (Nat.le_of_ble_eq_true rfl) rfl rfl rfl rfl rfl ?_
      refine go_ops hΓ 3 rfl ?_
      refine j_cond rfl (fun hb => ?_) (fun hb => ?_)
      · have h11 := cT h10 hb
        refine go hΓ 8 rfl ?_
        obtain rfl := Option.some.inj h11
        exact fin_pure hΓ (.inr rfl) rfl rfl
      · have h12 := cF h10 hb
        obtain ⟨y13, hy13, h14⟩ := bi_ok h12
        refine go hΓ 4 rfl ?_
        refine eo_callP (callable Tryz.func108 rfl rfl) (c_kit_Outside hy13) rfl (Nat.le_of_ble_eq_true rfl) rfl rfl rfl rfl rfl ?_
        refine go_ops hΓ 3 rfl ?_
        refine j_cond rfl (fun hb => ?_) (fun hb => ?_)
        · have h15 := cT h14 hb
          refine go hΓ 8 rfl ?_
          obtain rfl := Option.some.inj h15
          exact fin_pure hΓ (.inr rfl) rfl rfl
        · have h16 := cF h14 hb
          obtain ⟨y17, hy17, h18⟩ := bi_ok h16
          refine go hΓ 7 rfl ?_
          refine eo_callP (callable Tryz.func120 rfl rfl) (c_node_fieldsOf hy17) rfl (Nat.le_of_ble_eq_true rfl) rfl rfl rfl rfl rfl ?_
          refine go_ops hΓ 11 rfl ?_
          obtain ⟨q22, hq22, h23⟩ := bi_ok h18
          refine j_bound 3 rfl fun hb25 => ?_
          refine j_cutEZ (R := fun a24 => q22 = .go a24) (fun a24 => [(1, .ptr 0 0), (3, .d (Sl (eN .i64) y17))]) (fun a24 => [.box 37 [I s.At, S s.Server, I s.No, I s.Kind, S s.By, S s.Node, S s.Join, S s.Public, S s.Name, .d (Sl eS s.Tags), I s.Until, I s.Uses, B s.Ready]]) ?_ ?_
          · refine go hΓ 1 rfl ?_
            refine j_range y17 hq22 (fun i19 s20 => [(1, .ptr 0 0), (3, .d (Sl (eN .i64) y17)), (29, .d (Sl (eN .i64) y17)), (30, I (y17.length : Int)), (31, I (i19 : Int))]) (fun s20 => [.box 37 [I s.At, S s.Server, I s.No, I s.Kind, S s.By, S s.Node, S s.Join, S s.Public, S s.Name, .d (Sl eS s.Tags), I s.Until, I s.Uses, B s.Ready]]) ⟨⟨rfl, rfl, rfl, rfl, rfl, trivial⟩, [], rfl, .inl rfl⟩ (fun i19 x21 s20 y29 hx26 hlt hy27 hout28 => ?_) (fun s20 hgo => ?_)
            · refine go hΓ 6 rfl ?_
              refine j_condT rfl (decide_eq_true (Int.ofNat_lt.2 hlt)) ?_
              refine go hΓ 6 rfl ?_
              refine eo_o rfl (op_elemZ hΓ (enc := (eN .i64)) (getZ_nat hx26) rfl rfl rfl rfl rfl (fun _ => rfl)) ?_
              obtain ⟨y30, hy30, h31⟩ := bi_ok hy27
              refine go_ops hΓ 8 rfl ?_
              refine eo_callP (callable Tryz.func193 rfl rfl) (c_node_fieldFault hy30) rfl (Nat.le_of_ble_eq_true rfl) rfl rfl rfl rfl rfl ?_
              refine go_ops hΓ 9 rfl ?_
              refine j_cond rfl (fun hb => ?_) (fun hb => ?_)
              · have h32 := cT h31 hb
                refine go hΓ 9 rfl ?_
                obtain ⟨v33, hv33, h34⟩ := bi_ok h32
                obtain rfl := Option.some.inj h34
                obtain rfl := hout28 _ rfl
                obtain rfl := Option.some.inj h23
                refine go hΓ 4 rfl ?_
                obtain rfl := Option.some.inj hv33
                exact fin_pure hΓ (.inr rfl) rfl rfl
              · have h35 := cF h31 hb
                refine go hΓ 7 rfl ?_
                obtain rfl := Option.some.inj h35
                exact ⟨_, rfl, ⟨⟨rfl, rfl, rfl, rfl, get_eq rfl (w64_succ (Nat.lt_of_lt_of_le hlt hb25)), trivial⟩, [], rfl, .inl rfl⟩⟩
            · subst hgo
              refine go hΓ 6 rfl ?_
              refine j_condF rfl (decide_eq_false (Int.lt_irrefl _)) ?_
              refine go hΓ 4 rfl ?_
              exact ⟨_, rfl, ⟨⟨rfl, rfl, trivial⟩, [], rfl, .inl rfl⟩⟩
          · intro a24 ha
            subst ha
            replace h23 := goI_l h23
            refine go hΓ 7 rfl ?_
            obtain ⟨q39, hq39, h40⟩ := bi_ok h23
            refine j_cutEZ (R := fun a41 => q39 = .inl a41) (fun a41 => []) (fun a41 => [.box 37 [I s.At, S s.Server, I s.No, I s.Kind, S s.By, S s.Node, S s.Join, S s.Public, S s.Name, .d (Sl eS s.Tags), I s.Until, I s.Uses, B s.Ready]]) ?_ ?_
            · refine go hΓ 1 rfl ?_
              refine j_loop hq39 (fun s37 => [(1, .ptr 0 0), (3, .d (Sl (eN .i64) y17)), (42, I s37)]) (fun s37 => [.box 37 [I s.At, S s.Server, I s.No, I s.Kind, S s.By, S s.Node, S s.Join, S s.Public, S s.Name, .d (Sl eS s.Tags), I s.Until, I s.Uses, B s.Ready]]) ⟨⟨rfl, rfl, rfl, trivial⟩, [], rfl, .inl rfl⟩ (fun s37 y45 hy43 hout44 => ?_)
              refine go hΓ 6 rfl ?_
              refine j_cond rfl (fun hb => ?_) (fun hb => ?_)
              · have h46 := cT hy43 hb
                obtain ⟨y47, hy47, h48⟩ := bi_ok h46
                refine go hΓ 14 rfl ?_
                refine eo_callP (callable Tryz.func194 rfl rfl) (c_slices_Contains_int_int hy47) rfl (Nat.le_of_ble_eq_true rfl) rfl rfl rfl rfl rfl ?_
                refine go_ops hΓ 2 rfl ?_
                obtain ⟨q49, hq49, h50⟩ := bi_ok h48
                refine o_cut 5 [(1, .ptr 0 0), (3, .d (Sl (eN .i64) y17)), (42, I s37), (54, B q49)] [.box 37 [I s.At, S s.Server, I s.No, I s.Kind, S s.By, S s.Node, S s.Join, S s.Public, S s.Name, .d (Sl eS s.Tags), I s.Until, I s.Uses, B s.Ready]] ?_ ?_
                · refine eo_gsplit rfl rfl (fun hb => ?_) (fun hb => ?_)
                  · have h51 := cT hq49 hb
                    obtain ⟨y52, hy52, h53⟩ := bi_ok h51
                    refine go_ops hΓ 2 rfl ?_
                    refine eo_guard rfl ?_
                    refine eo_callP (callable Tryz.func195 rfl rfl) (c_node_idle hy52) rfl (Nat.le_of_ble_eq_true rfl) rfl rfl rfl rfl rfl ?_
                    refine go_ops hΓ 3 rfl ?_
                    obtain rfl := Option.some.inj h53
                    exact ⟨⟨rfl, rfl, rfl, rfl, trivial⟩, [], rfl, .inl rfl⟩
                  · have h54 := cF hq49 hb
                    refine go_ops hΓ 6 rfl ?_
                    obtain rfl := Option.some.inj h54
                    exact ⟨⟨rfl, rfl, rfl, rfl, trivial⟩, [], rfl, .inl rfl⟩
                · refine go_ops hΓ 2 rfl ?_
                  refine j_cond rfl (fun hb => ?_) (fun hb => ?_)
                  · have h55 := cT h50 hb
                    refine go hΓ 8 rfl ?_
                    obtain ⟨v56, hv56, h57⟩ := bi_ok h55
                    obtain rfl := Option.some.inj h57
                    obtain rfl := hout44 _ rfl
                    obtain rfl := Option.some.inj h40
                    refine go hΓ 4 rfl ?_
                    obtain rfl := Option.some.inj hv56
                    exact fin_pure hΓ (.inr rfl) rfl rfl
                  · have h58 := cF h50 hb
                    refine go hΓ 7 rfl ?_
                    obtain rfl := Option.some.inj h58
                    exact ⟨_, rfl, ⟨⟨rfl, rfl, rfl, trivial⟩, [], rfl, .inl rfl⟩⟩
              · have h59 := cF hy43 hb
                refine go hΓ 4 rfl ?_
                obtain rfl := Option.some.inj h59
                obtain rfl := hout44 _ rfl
                exact ⟨_, rfl, ⟨trivial, [], rfl, .inl rfl⟩⟩
            · intro a41 ha
              subst ha
              replace h40 := orI_l h40
              refine go hΓ 7 rfl ?_
              obtain rfl := Option.some.inj h40
              exact fin_pure hΓ (.inr rfl) rfl rfl
theorem c_node_compareSteps {a : T_api_Step} {b : T_api_Step} {r : Int} (h : m_node_compareSteps a b = some r) : Pure Tryz.prog 89 [.agg [I a.At, S a.Server, I a.No, I a.Kind, S a.By, S a.Node, S a.Join, S a.Public, S a.Name, .d (Sl eS a.Tags), I a.Until, I a.Uses, B a.Ready], .agg [I b.At, S b.Server, I b.No, I b.Kind, S b.By, S b.Node, S b.Join, S b.Public, S b.Name, .d (Sl eS b.Tags), I b.Until, I b.Uses, B b.Ready]] (I r) := by
  refine Pure.enter (Fr.of 0 _) Tryz.func89 rfl (Fr.of_ok _) rfl rfl ?_
  refine go_in ?_
  unfold m_node_compareSteps at h
  refine go hΓ 2 rfl ?_
  refine eo_box rfl rfl rfl rfl (Nat.le_of_ble_eq_true rfl) ?_
  refine eo_box rfl rfl rfl rfl (Nat.le_of_ble_eq_true rfl) ?_
  refine go_ops hΓ 4 rfl ?_
  refine j_draw hmix (by kernel_rfl) ?_
  obtain ⟨y1, hy1, h2⟩ := bi_ok h
  refine go hΓ 4 rfl ?_
  refine gl_callP (callable Tryz.func167 rfl rfl) (c_cmp_Compare_int hy1) rfl rfl rfl rfl rfl rfl ?_
  obtain ⟨y3, hy3, h4⟩ := bi_ok h2
  refine go_draw hΓ 4 rfl ?_
  refine gl_callP (callable Tryz.func147 rfl rfl) (c_strings_Compare hy3) rfl rfl rfl rfl rfl rfl ?_
  obtain ⟨y5, hy5, h6⟩ := bi_ok h4
  refine go_draw hΓ 4 rfl ?_
  refine gl_callP (callable Tryz.func167 rfl rfl) (c_cmp_Compare_int hy5) rfl rfl rfl rfl rfl rfl ?_
  refine gl_litT hΓ (enc := (eN .i64)) [y1, y3, y5] rfl rfl rfl rfl rfl rfl rfl rfl rfl rfl rfl rfl ?_
  obtain ⟨y7, hy7, h8⟩ := bi_ok h6
  refine gl_callP (callable Tryz.func196 rfl rfl) (c_cmp_Or_int hy7) rfl rfl rfl rfl rfl rfl ?_
  refine go_draw hΓ 4 rfl ?_
  obtain rfl := Option.some.inj h8
  exact fin_pure hΓ (.inr rfl) rfl rfl
theorem c_node_originOf {s : T_api_Step} {r : T_node_origin} (h : m_node_originOf s = some r) : Pure Tryz.prog 92 [.agg [I s.At, S s.Server, I s.No, I s.Kind, S s.By, S s.Node, S s.Join, S s.Public, S s.Name, .d (Sl eS s.Tags), I s.Until, I s.Uses, B s.Ready]] (.agg [S r.server, I r.no]) := by
  refine Pure.enter (Fr.of 0 _) Tryz.func92 rfl (Fr.of_ok _) rfl rfl ?_
  refine go_in ?_
  unfold m_node_originOf at h
  refine go hΓ 2 rfl ?_
  refine eo_box rfl rfl rfl rfl (Nat.le_of_ble_eq_true rfl) ?_
  refine eo_alloc hΓ rfl rfl rfl (Nat.le_of_ble_eq_true rfl) ?_
  refine go_ops hΓ 8 rfl ?_
  refine eo_build hΓ (gs := [S s.Server, I s.No]) rfl rfl rfl rfl rfl rfl rfl ?_
  refine eo_store hΓ rfl rfl rfl rfl rfl rfl rfl rfl (Nat.le_of_ble_eq_true rfl) ?_
  refine eo_hp [.box 37 [I s.At, S s.Server, I s.No, I s.Kind, S s.By, S s.Node, S s.Join, S s.Public, S s.Name, .d (Sl eS s.Tags), I s.Until, I s.Uses, B s.Ready], .box 150 [S s.Server, I s.No]] rfl ?_
  refine go_ops hΓ 3 rfl ?_
  obtain rfl := Option.some.inj h
  exact fin_pure hΓ (.inr rfl) rfl rfl
set_option maxHeartbeats 8000000 in
theorem c_node_Check {k : Nat} {l : List T_api_Step} {r : Int} (h : m_node_Check k l = some r) : Pure Tryz.prog 33 [.d (Sl e_api_Step l)] (I r) := by
  refine Pure.enter (Fr.of 0 _) Tryz.func33 rfl (Fr.of_ok _) rfl rfl ?_
  refine go_in ?_
  unfold m_node_Check at h
  refine go hΓ 13 rfl ?_
  refine j_cond rfl (fun hb => ?_) (fun hb => ?_)
  · have h1 := cT h hb
    refine go hΓ 7 rfl ?_
    obtain rfl := Option.some.inj h1
    exact fin_pure hΓ (.inr rfl) rfl rfl
  · have h2 := cF h hb
    refine go hΓ 4 rfl ?_
    refine eo_s (Nat.le_of_ble_eq_true rfl) (nblt.1 rfl) (ops_makeMap false) ?_
    refine eo_hp [mOb (kD e_node_origin) false eB ([] : List (T_node_origin × Bool))] rfl ?_
    refine go_ops hΓ 11 rfl ?_
    obtain ⟨q6, hq6, h7⟩ := bi_ok h2
    refine j_bound 0 rfl fun hb9 => ?_
    refine j_cutEZ (R := fun a8 => q6 = .go a8) (fun a8 => []) (fun a8 => [mOb (kD e_node_origin) false eB a8]) ?_ ?_
    · refine go hΓ 1 rfl ?_
      refine j_range l hq6 (fun i3 s4 => [(0, .d (Sl e_api_Step l)), (3, .map 0), (11, .d (Sl e_api_Step l)), (12, I (l.length : Int)), (13, I (i3 : Int))]) (fun s4 => [mOb (kD e_node_origin) false eB s4]) ⟨⟨rfl, rfl, rfl, rfl, rfl, trivial⟩, [], rfl, .inl rfl⟩ (fun i3 x5 s4 y13 hx10 hlt hy11 hout12 => ?_) (fun s4 hgo => ?_)
      · refine go hΓ 6 rfl ?_
        refine j_condT rfl (decide_eq_true (Int.ofNat_lt.2 hlt)) ?_
        refine go hΓ 7 rfl ?_
        refine eo_o rfl (op_elemZ hΓ (enc := e_api_Step) (getZ_nat hx10) rfl rfl rfl rfl rfl (fun _ => rfl)) ?_
        refine go_ops hΓ 1 rfl ?_
        refine eo_alloc hΓ rfl rfl rfl (Nat.le_of_ble_eq_true rfl) ?_
        refine go_ops hΓ 1 rfl ?_
        refine eo_store hΓ rfl rfl rfl rfl rfl rfl rfl rfl (Nat.le_of_ble_eq_true rfl) ?_
        refine eo_hp [mOb (kD e_node_origin) false eB s4, .box 37 [I x5.At, S x5.Server, I x5.No, I x5.Kind, S x5.By, S x5.Node, S x5.Join, S x5.Public, S x5.Name, .d (Sl eS x5.Tags), I x5.Until, I x5.Uses, B x5.Ready]] rfl ?_
        obtain ⟨y14, hy14, h15⟩ := bi_ok hy11
        refine go_ops hΓ 6 rfl ?_
        refine eo_callP (callable Tryz.func88 rfl rfl) (c_node_formFault hy14) rfl (Nat.le_of_ble_eq_true rfl) rfl rfl rfl rfl rfl ?_
        refine go_ops hΓ 9 rfl ?_
        refine j_cond rfl (fun hb => ?_) (fun hb => ?_)
        · have h16 := cT h15 hb
          refine go hΓ 10 rfl ?_
          obtain ⟨v17, hv17, h18⟩ := bi_ok h16
          obtain rfl := Option.some.inj h18
          obtain rfl := hout12 _ rfl
          obtain rfl := Option.some.inj h7
          refine go hΓ 4 rfl ?_
          obtain rfl := Option.some.inj hv17
          exact fin_pure hΓ (.inr rfl) rfl rfl
        · have h19 := cF h15 hb
          obtain ⟨q20, hq20, h21⟩ := bi_ok h19
          refine go hΓ 4 rfl ?_
          refine j_cutNZ [(0, .d (Sl e_api_Step l)), (3, .map 0), (5, .ptr 1 0), (11, .d (Sl e_api_Step l)), (12, I (l.length : Int)), (13, I (i3 : Int)), (34, B q20)] [mOb (kD e_node_origin) false eB s4, .box 37 [I x5.At, S x5.Server, I x5.No, I x5.Kind, S x5.By, S x5.Node, S x5.Join, S x5.Public, S x5.Name, .d (Sl eS x5.Tags), I x5.Until, I x5.Uses, B x5.Ready]] ?_ ?_
          · refine j_draw hmix (by kernel_rfl) ?_
            refine go hΓ 3 rfl ?_
            refine gl_gsplit rfl rfl (fun hb => ?_) (fun hb => ?_)
            · have h22 := cT hq20 hb
              obtain ⟨x23, hx23, h24⟩ := bi_ok h22
              refine go_draw hΓ 3 rfl ?_
              refine gl_og rfl rfl (op_elemZ hΓ (enc := e_api_Step) hx23 rfl rfl rfl rfl rfl (fun _ => rfl)) ?_
              obtain ⟨y25, hy25, h26⟩ := bi_ok h24
              refine go_draw hΓ 2 rfl ?_
              refine gl_callPg (callable Tryz.func89 rfl rfl) (c_node_compareSteps hy25) rfl rfl rfl rfl rfl rfl rfl ?_
              refine go_draw hΓ 3 rfl ?_
              obtain rfl := Option.some.inj h26
              exact ⟨⟨rfl, rfl, rfl, rfl, rfl, rfl, rfl, trivial⟩, [], rfl, .inl rfl⟩
            · have h27 := cF hq20 hb
              refine go_draw hΓ 10 rfl ?_
              obtain rfl := Option.some.inj h27
              exact ⟨⟨rfl, rfl, rfl, rfl, rfl, rfl, rfl, trivial⟩, [], rfl, .inl rfl⟩
          · refine go hΓ 1 rfl ?_
            refine j_cond rfl (fun hb => ?_) (fun hb => ?_)
            · have h28 := cT h21 hb
              refine go hΓ 9 rfl ?_
              obtain ⟨v29, hv29, h30⟩ := bi_ok h28
              obtain rfl := Option.some.inj h30
              obtain rfl := hout12 _ rfl
              obtain rfl := Option.some.inj h7
              refine go hΓ 4 rfl ?_
              obtain rfl := Option.some.inj hv29
              exact fin_pure hΓ (.inr rfl) rfl rfl
            · have h31 := cF h21 hb
              obtain ⟨y32, hy32, h33⟩ := bi_ok h31
              refine go hΓ 7 rfl ?_
              refine eo_callP (callable Tryz.func92 rfl rfl) (c_node_originOf hy32) rfl (Nat.le_of_ble_eq_true rfl) rfl rfl rfl rfl rfl ?_
              refine eo_o rfl (op_lookupS hΓ (kenc := e_node_origin) (agg := false) (enc := eB) s4 y32 (false : Bool) rfl rfl rfl ks_node_origin (fun _ => rfl) rfl rfl rfl rfl rfl rfl rfl) ?_
              refine go_ops hΓ 2 rfl ?_
              refine j_cond rfl (fun hb => ?_) (fun hb => ?_)
              · have h34 := cT h33 hb
                refine go hΓ 9 rfl ?_
                obtain ⟨v35, hv35, h36⟩ := bi_ok h34
                obtain rfl := Option.some.inj h36
                obtain rfl := hout12 _ rfl
                obtain rfl := Option.some.inj h7
                refine go hΓ 4 rfl ?_
                obtain rfl := Option.some.inj hv35
                exact fin_pure hΓ (.inr rfl) rfl rfl
              · have h37 := cF h33 hb
                obtain ⟨y38, hy38, h39⟩ := bi_ok h37
                refine go hΓ 5 rfl ?_
                refine eo_callP (callable Tryz.func92 rfl rfl) (c_node_originOf hy38) rfl (Nat.le_of_ble_eq_true rfl) rfl rfl rfl rfl rfl ?_
                refine eo_u (Nat.le_of_ble_eq_true rfl) (opu_mapUpdateS hΓ (kenc := e_node_origin) (agg := false) (enc := eB) (id := 0) s4 y38 true rfl rfl ks_node_origin (fun _ => rfl) rfl rfl rfl rfl rfl) ?_
                refine eo_hp [mOb (kD e_node_origin) false eB (mSet s4 y38 true), .box 37 [I x5.At, S x5.Server, I x5.No, I x5.Kind, S x5.By, S x5.Node, S x5.Join, S x5.Public, S x5.Name, .d (Sl eS x5.Tags), I x5.Until, I x5.Uses, B x5.Ready]] rfl ?_
                refine go_ops hΓ 7 rfl ?_
                obtain rfl := Option.some.inj h39
                exact ⟨_, rfl, ⟨⟨rfl, rfl, rfl, rfl, get_eq rfl (w64_succ (Nat.lt_of_lt_of_le hlt hb9)), trivial⟩, [_], rfl, .inr ⟨HB.mk rfl, FB.mk rfl, (Nat.le_of_ble_eq_true rfl)⟩⟩⟩
      · subst hgo
        refine go hΓ 6 rfl ?_
        refine j_condF rfl (decide_eq_false (Int.lt_irrefl _)) ?_
        refine go hΓ 4 rfl ?_
        exact ⟨_, rfl, ⟨trivial, [], rfl, .inl rfl⟩⟩
    · intro a8 ha
      subst ha
      replace h7 := goI_l h7
      refine go hΓ 7 rfl ?_
      obtain rfl := Option.some.inj h7
      exact fin_pure hΓ (.inr rfl) rfl rfl
theorem c_slices_Equal_string_string {s1 : List Str} {s2 : List Str} {r : Bool} (h : m_slices_Equal_string_string s1 s2 = some r) : Pure Tryz.prog 65 [.d (Sl eS s1), .d (Sl eS s2)] (B r) := by
  refine Pure.enter (Fr.of 0 _) Tryz.func65 rfl (Fr.of_ok _) rfl rfl ?_
  refine go_in ?_
  unfold m_slices_Equal_string_string at h
  refine go hΓ 15 rfl ?_
  refine j_cond rfl (fun hb => ?_) (fun hb => ?_)
  · have h1 := cT h hb
    refine go hΓ 7 rfl ?_
    obtain rfl := Option.some.inj h1
    exact fin_pure hΓ (.inr rfl) rfl rfl
  · have h2 := cF h hb
    refine go hΓ 10 rfl ?_
    obtain ⟨q6, hq6, h7⟩ := bi_ok h2
    refine j_bound 0 rfl fun hb9 => ?_
    refine j_cutEZ (R := fun a8 => q6 = .go a8) (fun a8 => []) (fun a8 => []) ?_ ?_
    · refine go hΓ 1 rfl ?_
      refine j_range s1 hq6 (fun i3 s4 => [(0, .d (Sl eS s1)), (1, .d (Sl eS s2)), (12, I (s1.length : Int)), (13, I (i3 : Int))]) (fun s4 => []) ⟨⟨rfl, rfl, rfl, rfl, trivial⟩, [], rfl, .inl rfl⟩ (fun i3 x5 s4 y13 hx10 hlt hy11 hout12 => ?_) (fun s4 hgo => ?_)
      · refine go hΓ 6 rfl ?_
        refine j_condT rfl (decide_eq_true (Int.ofNat_lt.2 hlt)) ?_
        refine go hΓ 11 rfl ?_
        refine j_draw hmix (by kernel_rfl) ?_
        refine go hΓ 2 rfl ?_
        refine gl_o rfl (op_elemZ hΓ (enc := eS) (getZ_nat hx10) rfl rfl rfl rfl rfl (fun _ => rfl)) ?_
        obtain ⟨x14, hx14, h15⟩ := bi_ok hy11
        refine go_draw hΓ 3 rfl ?_
        refine gl_o rfl (op_elemZ hΓ (enc := eS) hx14 rfl rfl rfl rfl rfl (fun _ => rfl)) ?_
        refine go_draw hΓ 4 rfl ?_
        refine j_cond rfl (fun hb => ?_) (fun hb => ?_)
        · have h16 := cT h15 hb
          refine go hΓ 8 rfl ?_
          obtain ⟨v17, hv17, h18⟩ := bi_ok h16
          obtain rfl := Option.some.inj h18
          obtain rfl := hout12 _ rfl
          obtain rfl := Option.some.inj h7
          refine go hΓ 4 rfl ?_
          obtain rfl := Option.some.inj hv17
          exact fin_pure hΓ (.inr rfl) rfl rfl
        · have h19 := cF h15 hb
          refine go hΓ 7 rfl ?_
          obtain rfl := Option.some.inj h19
          exact ⟨_, rfl, ⟨⟨rfl, rfl, rfl, get_eq rfl (w64_succ (Nat.lt_of_lt_of_le hlt hb9)), trivial⟩, [], rfl, .inl rfl⟩⟩
      · subst hgo
        refine go hΓ 6 rfl ?_
        refine j_condF rfl (decide_eq_false (Int.lt_irrefl _)) ?_
        refine go hΓ 4 rfl ?_
        exact ⟨_, rfl, ⟨trivial, [], rfl, .inl rfl⟩⟩
    · intro a8 ha
      subst ha
      replace h7 := goI_l h7
      refine go hΓ 7 rfl ?_
      obtain rfl := Option.some.inj h7
      exact fin_pure hΓ (.inr rfl) rfl rfl
set_option maxHeartbeats 8000000 in
theorem c_node_same {a : T_api_Step} {b : T_api_Step} {r : Bool} (h : m_node_same a b = some r) : Pure Tryz.prog 110 [.agg [I a.At, S a.Server, I a.No, I a.Kind, S a.By, S a.Node, S a.Join, S a.Public, S a.Name, .d (Sl eS a.Tags), I a.Until, I a.Uses, B a.Ready], .agg [I b.At, S b.Server, I b.No, I b.Kind, S b.By, S b.Node, S b.Join, S b.Public, S b.Name, .d (Sl eS b.Tags), I b.Until, I b.Uses, B b.Ready]] (B r) := by
  refine Pure.enter (Fr.of 0 _) Tryz.func110 rfl (Fr.of_ok _) rfl rfl ?_
  refine go_in ?_
  unfold m_node_same at h
  refine go hΓ 2 rfl ?_
  refine eo_box rfl rfl rfl rfl (Nat.le_of_ble_eq_true rfl) ?_
  refine eo_box rfl rfl rfl rfl (Nat.le_of_ble_eq_true rfl) ?_
  obtain ⟨q1, hq1, h2⟩ := bi_ok h
  refine go_ops hΓ 4 rfl ?_
  refine j_cutNZ [(4, B q1)] [.box 37 [I a.At, S a.Server, I a.No, I a.Kind, S a.By, S a.Node, S a.Join, S a.Public, S a.Name, .d (Sl eS a.Tags), I a.Until, I a.Uses, B a.Ready], .box 37 [I b.At, S b.Server, I b.No, I b.Kind, S b.By, S b.Node, S b.Join, S b.Public, S b.Name, .d (Sl eS b.Tags), I b.Until, I b.Uses, B b.Ready]] ?_ ?_
  · refine j_draw hmix (by kernel_rfl) ?_
    refine go hΓ 6 rfl ?_
    refine gl_gsplit rfl rfl (fun hb => ?_) (fun hb => ?_)
    · have h3 := cT hq1 hb
      obtain ⟨y4, hy4, h5⟩ := bi_ok h3
      refine go_draw hΓ 1 rfl ?_
      refine gl_callPg (callable Tryz.func92 rfl rfl) (c_node_originOf hy4) rfl rfl rfl rfl rfl rfl rfl ?_
      obtain ⟨y6, hy6, h7⟩ := bi_ok h5
      refine go_draw hΓ 1 rfl ?_
      refine gl_callPg (callable Tryz.func92 rfl rfl) (c_node_originOf hy6) rfl rfl rfl rfl rfl rfl rfl ?_
      refine gl_og rfl rfl (op_eqS hΓ [150] (b := (((y4.server : Str) == y6.server) && (((y4.no : Int) == y6.no) && true))) (by kernel_rfl) (by kernel_rfl) rfl rfl rfl) ?_
      refine go_draw hΓ 2 rfl ?_
      refine gl_gsplit rfl rfl (fun hb => ?_) (fun hb => ?_)
      · have h8 := cT h7 hb
        refine go_draw hΓ 7 rfl ?_
        refine gl_gsplit rfl rfl (fun hb => ?_) (fun hb => ?_)
        · have h9 := cT h8 hb
          refine go_draw hΓ 7 rfl ?_
          refine gl_gsplit rfl rfl (fun hb => ?_) (fun hb => ?_)
          · have h10 := cT h9 hb
            refine go_draw hΓ 7 rfl ?_
            refine gl_gsplit rfl rfl (fun hb => ?_) (fun hb => ?_)
            · have h11 := cT h10 hb
              refine go_draw hΓ 7 rfl ?_
              refine gl_gsplit rfl rfl (fun hb => ?_) (fun hb => ?_)
              · have h12 := cT h11 hb
                refine go_draw hΓ 7 rfl ?_
                refine gl_gsplit rfl rfl (fun hb => ?_) (fun hb => ?_)
                · have h13 := cT h12 hb
                  refine go_draw hΓ 7 rfl ?_
                  refine gl_gsplit rfl rfl (fun hb => ?_) (fun hb => ?_)
                  · have h14 := cT h13 hb
                    obtain ⟨y15, hy15, h16⟩ := bi_ok h14
                    refine go_draw hΓ 4 rfl ?_
                    refine gl_callPg (callable Tryz.func65 rfl rfl) (c_slices_Equal_string_string hy15) rfl rfl rfl rfl rfl rfl rfl ?_
                    refine go_draw hΓ 2 rfl ?_
                    refine gl_gsplit rfl rfl (fun hb => ?_) (fun hb => ?_)
                    · have h17 := cT h16 hb
                      refine go_draw hΓ 7 rfl ?_
                      refine gl_gsplit rfl rfl (fun hb => ?_) (fun hb => ?_)
                      · have h18 := cT h17 hb
                        refine go_draw hΓ 7 rfl ?_
                        refine gl_gsplit rfl rfl (fun hb => ?_) (fun hb => ?_)
                        · have h19 := cT h18 hb
                          refine go_draw hΓ 8 rfl ?_
                          obtain rfl := Option.some.inj h19
                          exact ⟨⟨rfl, trivial⟩, [], rfl, .inl rfl⟩
                        · have h20 := cF h18 hb
                          refine go_draw hΓ 8 rfl ?_
                          obtain rfl := Option.some.inj h20
                          exact ⟨⟨rfl, trivial⟩, [], rfl, .inl rfl⟩
                      · have h21 := cF h17 hb
                        refine go_draw hΓ 15 rfl ?_
                        obtain rfl := Option.some.inj h21
                        exact ⟨⟨rfl, trivial⟩, [], rfl, .inl rfl⟩
                    · have h22 := cF h16 hb
                      refine go_draw hΓ 22 rfl ?_
                      obtain rfl := Option.some.inj h22
                      exact ⟨⟨rfl, trivial⟩, [], rfl, .inl rfl⟩
                  · have h23 := cF h13 hb
                    refine go_draw hΓ 29 rfl ?_
                    obtain rfl := Option.some.inj h23
                    exact ⟨⟨rfl, trivial⟩, [], rfl, .inl rfl⟩
                · have h24 := cF h12 hb
                  refine go_draw hΓ 36 rfl ?_
                  obtain rfl := Option.some.inj h24
                  exact ⟨⟨rfl, trivial⟩, [], rfl, .inl rfl⟩
              · have h25 := cF h11 hb
                refine go_draw hΓ 43 rfl ?_
                obtain rfl := Option.some.inj h25
                exact ⟨⟨rfl, trivial⟩, [], rfl, .inl rfl⟩
            · have h26 := cF h10 hb
              refine go_draw hΓ 50 rfl ?_
              obtain rfl := Option.some.inj h26
              exact ⟨⟨rfl, trivial⟩, [], rfl, .inl rfl⟩
          · have h27 := cF h9 hb
            refine go_draw hΓ 57 rfl ?_
            obtain rfl := Option.some.inj h27
            exact ⟨⟨rfl, trivial⟩, [], rfl, .inl rfl⟩
        · have h28 := cF h8 hb
          refine go_draw hΓ 64 rfl ?_
          obtain rfl := Option.some.inj h28
          exact ⟨⟨rfl, trivial⟩, [], rfl, .inl rfl⟩
      · have h29 := cF h7 hb
        refine go_draw hΓ 71 rfl ?_
        obtain rfl := Option.some.inj h29
        exact ⟨⟨rfl, trivial⟩, [], rfl, .inl rfl⟩
    · have h30 := cF hq1 hb
      refine go_draw hΓ 78 rfl ?_
      obtain rfl := Option.some.inj h30
      exact ⟨⟨rfl, trivial⟩, [], rfl, .inl rfl⟩
  · refine go hΓ 2 rfl ?_
    obtain rfl := Option.some.inj h2
    exact fin_pure hΓ (.inr rfl) rfl rfl
theorem c_slices_Clone_string_string {s : List Str} {r : List Str} (h : m_slices_Clone_string_string s = some r) : EC Tryz.prog 213 [.d (Sl eS s)] [] fun g hp' => g = .sl 0 r.length ∧ hp' = [.row 9 1 r.length (r.flatMap eS)] := by
  refine ec_enterC (Fr.of 0 _) Tryz.func213 rfl (Fr.of_ok _) (Nat.le_of_ble_eq_true rfl) fun _ => ?_
  refine go_in ?_
  unfold m_slices_Clone_string_string at h
  refine go hΓ 2 rfl ?_
  refine eo_nilOwn (t := 0) 9 1 rfl (Nat.le_of_ble_eq_true rfl) ?_
  refine go_ops hΓ 6 rfl ?_
  refine eo_isNil hΓ rfl rfl rfl rfl rfl fun b hbn => ?_
  rcases b with _ | _
  · refine go_ops hΓ 7 rfl ?_
    refine eo_litRowT hΓ (enc := eS) ([] : List Str) rfl rfl rfl rfl rfl rfl rfl rfl rfl rfl rfl rfl (Nat.le_of_ble_eq_true rfl) ?_
    obtain ⟨y1, hy1, h2⟩ := bi_ok h
    refine go_ops hΓ 1 rfl ?_
    refine eo_appendT hΓ (enc := eS) hy1 rfl rfl rfl rfl rfl rfl rfl rfl rfl (fun _ => rfl) rfl rfl rfl rfl ?_
    refine go_ops hΓ 3 rfl ?_
    refine j_kill 0 [.dead, .row 9 1 y1.length (y1.flatMap eS)] rfl (Nat.le_of_ble_eq_true rfl) ?_
    refine j_move 1 0 [.row 9 1 y1.length (y1.flatMap eS), .dead] rfl rfl rfl rfl rfl rfl ?_
    refine go hΓ 1 rfl ?_
    refine cv_here ?_
    obtain rfl := Option.some.inj h2
    exact fin_objs hΓ [_] (.inr rfl) rfl rfl rfl rfl (.inr ⟨HB.mk rfl, rfl⟩)
  · obtain rfl := List.eq_nil_of_length_eq_zero (hbn rfl).1
    replace h : (some ([] : List Str) : Option (List Str)) = some r := h
    refine go_ops hΓ 5 rfl ?_
    refine eo_nilOwn (t := 0) 9 1 rfl (Nat.le_of_ble_eq_true rfl) ?_
    refine go_ops hΓ 4 rfl ?_
    refine cv_kill 0 [.dead, .row 9 1 ([] : List Str).length (([] : List Str).flatMap eS)] rfl (Nat.le_of_ble_eq_true rfl) ?_
    refine cv_move 1 0 [.row 9 1 ([] : List Str).length (([] : List Str).flatMap eS), .dead] rfl rfl rfl rfl rfl rfl ?_
    refine cv_here ?_
    obtain rfl := Option.some.inj h
    exact fin_objs hΓ [_] (.inr rfl) rfl rfl rfl rfl (.inr ⟨HB.mk rfl, rfl⟩)
theorem c_node_cloneStep {s : T_api_Step} {r : T_api_Step} (h : m_node_cloneStep s = some r) : Pure Tryz.prog 111 [.agg [I s.At, S s.Server, I s.No, I s.Kind, S s.By, S s.Node, S s.Join, S s.Public, S s.Name, .d (Sl eS s.Tags), I s.Until, I s.Uses, B s.Ready]] (.agg [I r.At, S r.Server, I r.No, I r.Kind, S r.By, S r.Node, S r.Join, S r.Public, S r.Name, .d (Sl eS r.Tags), I r.Until, I r.Uses, B r.Ready]) := by
  refine Pure.enter (Fr.of 0 _) Tryz.func111 rfl (Fr.of_ok _) rfl rfl ?_
  refine go_in ?_
  unfold m_node_cloneStep at h
  refine go hΓ 2 rfl ?_
  refine eo_box rfl rfl rfl rfl (Nat.le_of_ble_eq_true rfl) ?_
  refine eo_alloc hΓ rfl rfl rfl (Nat.le_of_ble_eq_true rfl) ?_
  obtain ⟨y1, hy1, h2⟩ := bi_ok h
  refine go_ops hΓ 6 rfl ?_
  refine eo_callP (callable Tryz.func213 rfl rfl) (Pure.rows (c_slices_Clone_string_string hy1) rfl rfl) rfl (Nat.le_of_ble_eq_true rfl) rfl rfl rfl rfl rfl ?_
  refine go_ops hΓ 1 rfl ?_
  refine eo_store hΓ rfl rfl rfl rfl rfl rfl rfl rfl (Nat.le_of_ble_eq_true rfl) ?_
  refine eo_hp [.box 37 [I s.At, S s.Server, I s.No, I s.Kind, S s.By, S s.Node, S s.Join, S s.Public, S s.Name, .d (Sl eS y1), I s.Until, I s.Uses, B s.Ready], .box 37 [I 0, S [], I 0, I 0, S [], S [], S [], S [], S [], .d (Sl eS []), I 0, I 0, B false]] rfl ?_
  refine go_ops hΓ 5 rfl ?_
  refine eo_store hΓ rfl rfl rfl rfl rfl rfl rfl rfl (Nat.le_of_ble_eq_true rfl) ?_
  refine eo_hp [.box 37 [I s.At, S s.Server, I s.No, I s.Kind, S s.By, S s.Node, S s.Join, S s.Public, S s.Name, .d (Sl eS y1), I s.Until, I s.Uses, B s.Ready], .box 37 [I s.At, S s.Server, I s.No, I s.Kind, S s.By, S s.Node, S s.Join, S s.Public, S s.Name, .d (Sl eS y1), I s.Until, I s.Uses, B s.Ready]] rfl ?_
  refine go_ops hΓ 3 rfl ?_
  obtain rfl := Option.some.inj h2
  exact fin_pure hΓ (.inr rfl) rfl rfl
theorem c_math_bits_Len64 {x : Int} {r : Int} (h : m_math_bits_Len64 x = some r) : Pure Tryz.prog 294 [U x] (I r) := by
  refine Pure.enter (Fr.of 0 _) Tryz.func294 rfl (Fr.of_ok _) rfl rfl ?_
  refine go_in ?_
  unfold m_math_bits_Len64 at h
  obtain ⟨q1, hq1, h2⟩ := bi_ok h
  refine go hΓ 12 rfl ?_
  refine j_cutNZ [(0, U q1.1), (2, I q1.2)] [] ?_ ?_
  · refine j_cond rfl (fun hb => ?_) (fun hb => ?_)
    · have h3 := cT hq1 hb
      refine go hΓ 10 rfl ?_
      obtain rfl := Option.some.inj h3
      exact ⟨⟨rfl, rfl, trivial⟩, [], rfl, .inl rfl⟩
    · have h4 := cF hq1 hb
      refine go hΓ 1 rfl ?_
      obtain rfl := Option.some.inj h4
      exact ⟨⟨rfl, rfl, trivial⟩, [], rfl, .inl rfl⟩
  · obtain ⟨q5, hq5, h6⟩ := bi_ok h2
    refine go hΓ 8 rfl ?_
    refine j_cutNZ [(0, U q5.1), (2, I q5.2)] [] ?_ ?_
    · refine j_cond rfl (fun hb => ?_) (fun hb => ?_)
      · have h7 := cT hq5 hb
        refine go hΓ 12 rfl ?_
        obtain rfl := Option.some.inj h7
        exact ⟨⟨rfl, rfl, trivial⟩, [], rfl, .inl rfl⟩
      · have h8 := cF hq5 hb
        refine go hΓ 1 rfl ?_
        obtain rfl := Option.some.inj h8
        exact ⟨⟨rfl, rfl, trivial⟩, [], rfl, .inl rfl⟩
    · obtain ⟨q9, hq9, h10⟩ := bi_ok h6
      refine go hΓ 8 rfl ?_
      refine j_cutNZ [(0, U q9.1), (2, I q9.2)] [] ?_ ?_
      · refine j_cond rfl (fun hb => ?_) (fun hb => ?_)
        · have h11 := cT hq9 hb
          refine go hΓ 12 rfl ?_
          obtain rfl := Option.some.inj h11
          exact ⟨⟨rfl, rfl, trivial⟩, [], rfl, .inl rfl⟩
        · have h12 := cF hq9 hb
          refine go hΓ 1 rfl ?_
          obtain rfl := Option.some.inj h12
          exact ⟨⟨rfl, rfl, trivial⟩, [], rfl, .inl rfl⟩
      · obtain ⟨c13, hc13, h14⟩ := bi_ok h10
        refine go hΓ 6 rfl ?_
        refine eo_o rfl (op_byteZ hΓ hc13 rfl rfl rfl rfl) ?_
        refine go_ops hΓ 6 rfl ?_
        obtain rfl := Option.some.inj h14
        exact fin_pure hΓ (.inr rfl) rfl rfl
theorem c_math_bits_Len {x : Int} {r : Int} (h : m_math_bits_Len x = some r) : Pure Tryz.prog 215 [U x] (I r) := by
  refine Pure.enter (Fr.of 0 _) Tryz.func215 rfl (Fr.of_ok _) rfl rfl ?_
  refine go_in ?_
  unfold m_math_bits_Len at h
  refine go hΓ 6 rfl ?_
  refine j_condK ?_
  obtain ⟨y1, hy1, h2⟩ := bi_ok h
  refine go hΓ 5 rfl ?_
  refine eo_callP (callable Tryz.func294 rfl rfl) (c_math_bits_Len64 hy1) rfl (Nat.le_of_ble_eq_true rfl) rfl rfl rfl rfl rfl ?_
  refine go_ops hΓ 4 rfl ?_
  obtain rfl := Option.some.inj h2
  exact fin_pure hΓ (.inr rfl) rfl rfl
set_option maxHeartbeats 8000000 in
theorem c_slices_insertionSortCmpFunc_api_Step_2 {k : Nat} {data : List T_api_Step} {a : Int} {b : Int} {r : List T_api_Step} (h : m_slices_insertionSortCmpFunc_api_Step_2 k data a b = some r) : EC Tryz.prog 280 [.sl 0 data.length, I a, I b, .fn (.func 89) [] []] [.row 37 13 data.length (data.flatMap e_api_Step)] fun g hp' => g = .tup [] ∧ hp' = [.row 37 13 r.length (r.flatMap e_api_Step)] := by
  refine ec_enter (Fr.of 0 _) Tryz.func280 rfl (Fr.of_ok _) (Nat.le_of_ble_eq_true rfl) fun _ => ?_
  refine go_in ?_
  unfold m_slices_insertionSortCmpFunc_api_Step_2 at h
  refine go hΓ 7 rfl ?_
  obtain ⟨q4, hq4, h5⟩ := bi_ok h
  refine j_cutNZ [] [.row 37 13 q4.length (q4.flatMap e_api_Step)] ?_ ?_
  · refine go hΓ 1 rfl ?_
    refine j_loop hq4 (fun s2 => [(0, .sl 0 s2.1.length), (1, I a), (2, I b), (3, .fn (.func 89) [] []), (8, I s2.2)]) (fun s2 => [.row 37 13 s2.1.length (s2.1.flatMap e_api_Step)]) ⟨⟨rfl, rfl, rfl, rfl, rfl, trivial⟩, [], rfl, .inl rfl⟩ (fun s2 y10 hy8 hout9 => ?_)
    refine go hΓ 8 rfl ?_
    refine j_cond rfl (fun hb => ?_) (fun hb => ?_)
    · have h11 := cT hy8 hb
      refine go hΓ 10 rfl ?_
      obtain ⟨q15, hq15, h16⟩ := bi_ok h11
      refine j_cutNZ [(0, .sl 0 q15.length), (1, I a), (2, I b), (3, .fn (.func 89) [] []), (8, I s2.2)] [.row 37 13 q15.length (q15.flatMap e_api_Step)] ?_ ?_
      · refine go hΓ 1 rfl ?_
        refine j_loop hq15 (fun s13 => [(0, .sl 0 s13.1.length), (1, I a), (2, I b), (3, .fn (.func 89) [] []), (8, I s2.2), (9, I s13.2)]) (fun s13 => [.row 37 13 s13.1.length (s13.1.flatMap e_api_Step)]) ⟨⟨rfl, rfl, rfl, rfl, rfl, rfl, trivial⟩, [], rfl, .inl rfl⟩ (fun s13 y21 hy19 hout20 => ?_)
        obtain ⟨q22, hq22, h23⟩ := bi_ok hy19
        refine go hΓ 2 rfl ?_
        refine j_cutNZ [(0, .sl 0 s13.1.length), (1, I a), (2, I b), (3, .fn (.func 89) [] []), (8, I s2.2), (9, I s13.2), (34, B q22)] [.row 37 13 s13.1.length (s13.1.flatMap e_api_Step)] ?_ ?_
        · refine j_draw hmix (by kernel_rfl) ?_
          refine go hΓ 4 rfl ?_
          refine gl_gsplit rfl rfl (fun hb => ?_) (fun hb => ?_)
          · have h24 := cT hq22 hb
            obtain ⟨x25, hx25, h26⟩ := bi_ok h24
            have hj27 := getZ_at hx25
            refine go_draw hΓ 3 rfl ?_
            refine gl_og rfl rfl (op_elemRowZ hΓ hx25 rfl rfl rfl rfl rfl rfl) ?_
            refine gl_og rfl rfl (op_loadRowZ hΓ (enc := e_api_Step) s13.2.toNat 0 hj27 rfl rfl rfl rfl (fun _ => rfl) (g := .agg [I x25.At, S x25.Server, I x25.No, I x25.Kind, S x25.By, S x25.Node, S x25.Join, S x25.Public, S x25.Name, .d (Sl eS x25.Tags), I x25.Until, I x25.Uses, B x25.Ready]) rfl) ?_
            obtain ⟨x28, hx28, h29⟩ := bi_ok h26
            have hj30 := getZ_at hx28
            refine go_draw hΓ 3 rfl ?_
            refine gl_og rfl rfl (op_elemRowZ hΓ hx28 rfl rfl rfl rfl rfl rfl) ?_
            refine gl_og rfl rfl (op_loadRowZ hΓ (enc := e_api_Step) ((wi (s13.2 - 1)).toNat) 0 hj30 rfl rfl rfl rfl (fun _ => rfl) (g := .agg [I x28.At, S x28.Server, I x28.No, I x28.Kind, S x28.By, S x28.Node, S x28.Join, S x28.Public, S x28.Name, .d (Sl eS x28.Tags), I x28.Until, I x28.Uses, B x28.Ready]) rfl) ?_
            obtain ⟨y31, hy31, h32⟩ := bi_ok h29
            refine gl_callPg (callable Tryz.func89 rfl rfl) (c_node_compareSteps hy31) rfl rfl rfl rfl rfl rfl rfl ?_
            refine go_draw hΓ 3 rfl ?_
            obtain rfl := Option.some.inj h32
            exact ⟨⟨rfl, rfl, rfl, rfl, rfl, rfl, rfl, trivial⟩, [], rfl, .inl rfl⟩
          · have h33 := cF hq22 hb
            refine go_draw hΓ 14 rfl ?_
            obtain rfl := Option.some.inj h33
            exact ⟨⟨rfl, rfl, rfl, rfl, rfl, rfl, rfl, trivial⟩, [], rfl, .inl rfl⟩
        · refine go hΓ 1 rfl ?_
          refine j_cond rfl (fun hb => ?_) (fun hb => ?_)
          · have h34 := cT h23 hb
            refine go hΓ 4 rfl ?_
            refine j_drawE [.row 37 13 s13.1.length (s13.1.flatMap e_api_Step)] [9, 13] [15, 17] [15, 17] hmix (by kernel_rfl) (by kernel_rfl) ⟨rfl, trivial⟩ (Nat.le_of_ble_eq_true rfl) ?_
            obtain ⟨x35, hx35, h36⟩ := bi_ok h34
            have hj37 := getZ_at hx35
            refine go_E hΓ 8 rfl ?_
            refine ge_q rfl (.inl rfl) (fun _ _ => qte_of_qt (qt_p (op_elemRowZ hΓ hx35 rfl rfl rfl rfl rfl rfl))) ?_
            refine ge_p rfl (fun hp hs => op_loadRowZ hΓ (enc := e_api_Step) ((wi (s13.2 - 1)).toNat) 0 hj37 rfl rfl rfl (hs 0 _ rfl rfl) (fun _ => rfl) (g := .agg [I x35.At, S x35.Server, I x35.No, I x35.Kind, S x35.By, S x35.Node, S x35.Join, S x35.Public, S x35.Name, .d (Sl eS x35.Tags), I x35.Until, I x35.Uses, B x35.Ready]) rfl) rfl ?_
            obtain ⟨x38, hx38, h39⟩ := bi_ok h36
            have hj40 := getZ_at hx38
            refine go_E hΓ 2 rfl ?_
            refine ge_q rfl (.inl rfl) (fun _ _ => qte_of_qt (qt_p (op_elemRowZ hΓ hx38 rfl rfl rfl rfl rfl rfl))) ?_
            refine ge_p rfl (fun hp hs => op_loadRowZ hΓ (enc := e_api_Step) s13.2.toNat 0 hj40 rfl rfl rfl (hs 0 _ rfl rfl) (fun _ => rfl) (g := .agg [I x38.At, S x38.Server, I x38.No, I x38.Kind, S x38.By, S x38.Node, S x38.Join, S x38.Public, S x38.Name, .d (Sl eS x38.Tags), I x38.Until, I x38.Uses, B x38.Ready]) rfl) rfl ?_
            obtain ⟨x41, hx41, h42⟩ := bi_ok h39
            have hj43 := getZ_at hx41
            refine ge_q rfl (.inl rfl) (fun _ _ => qte_of_qt (qt_p (op_elemRowZ hΓ hx41 rfl rfl rfl rfl rfl rfl))) ?_
            refine ge_h0 [.row 37 13 (s13.1.set s13.2.toNat x35).length ((s13.1.set s13.2.toNat x35).flatMap e_api_Step)] rfl rfl (brk_st rfl) (qte_u (opu_setRowZ hΓ (enc := e_api_Step) (z' := x35) s13.2.toNat (by have := (List.getElem?_eq_some_iff.1 hj43).1; simpa using this) rfl rfl rfl rfl (fun _ => rfl) rfl rfl rfl rfl rfl)) ?_
            obtain ⟨x44, hx44, h45⟩ := bi_ok h42
            have hj46 := getZ_at hx44
            refine ge_q rfl (.inl rfl) (fun _ _ => qte_of_qt (qt_p (op_elemRowZ hΓ hx44 rfl rfl rfl rfl rfl rfl))) ?_
            obtain ⟨x47, hx47, h48⟩ := bi_ok h45
            have hj49 : (s13.1.set s13.2.toNat x35)[(wi (s13.2 - 1)).toNat]? = some x47 := hx47
            refine ge_h0 [.row 37 13 ((s13.1.set s13.2.toNat x35).set ((wi (s13.2 - 1)).toNat) x38).length (((s13.1.set s13.2.toNat x35).set ((wi (s13.2 - 1)).toNat) x38).flatMap e_api_Step)] rfl rfl (brk_st rfl) (qte_u (opu_setRowZ hΓ (enc := e_api_Step) (z' := x38) ((wi (s13.2 - 1)).toNat) (by have := (List.getElem?_eq_some_iff.1 hj49).1; simpa using this) rfl rfl rfl rfl (fun _ => rfl) rfl rfl rfl rfl rfl)) ?_
            refine ge_fin ?_
            refine go hΓ 2 rfl ?_
            refine j_relen 0 (n' := ((s13.1.set s13.2.toNat x35).set ((wi (s13.2 - 1)).toNat) x38).length) rfl (by simp) ?_
            refine j_relen 37 (n' := ((s13.1.set s13.2.toNat x35).set ((wi (s13.2 - 1)).toNat) x38).length) rfl (by simp) ?_
            refine j_relen 39 (n' := ((s13.1.set s13.2.toNat x35).set ((wi (s13.2 - 1)).toNat) x38).length) rfl (by simp) ?_
            refine j_relen 42 (n' := ((s13.1.set s13.2.toNat x35).set ((wi (s13.2 - 1)).toNat) x38).length) rfl (by simp) ?_
            refine j_relen 47 (n' := ((s13.1.set s13.2.toNat x35).set ((wi (s13.2 - 1)).toNat) x38).length) rfl (by simp) ?_
            refine go hΓ 5 rfl ?_
            obtain rfl := Option.some.inj h48
            exact ⟨_, rfl, ⟨⟨rfl, rfl, rfl, rfl, rfl, rfl, trivial⟩, [], rfl, .inl rfl⟩⟩
          · have h50 := cF h23 hb
            refine go hΓ 4 rfl ?_
            obtain rfl := Option.some.inj h50
            obtain rfl := hout20 _ rfl
            exact ⟨⟨rfl, rfl, rfl, rfl, rfl, trivial⟩, [], rfl, .inl rfl⟩
      · refine go hΓ 7 rfl ?_
        obtain rfl := Option.some.inj h16
        exact ⟨_, rfl, ⟨⟨rfl, rfl, rfl, rfl, rfl, trivial⟩, [], rfl, .inl rfl⟩⟩
    · have h51 := cF hy8 hb
      refine go hΓ 4 rfl ?_
      obtain rfl := Option.some.inj h51
      obtain rfl := hout9 _ rfl
      exact ⟨trivial, [], rfl, .inl rfl⟩
  · obtain rfl := Option.some.inj h5
    exact fin_objs hΓ [] (.inl rfl) rfl rfl rfl rfl (.inl rfl)
theorem c_slices_pdqsortCmpFunc_api_Step {k : Nat} {data : List T_api_Step} {a : Int} {b : Int} {limit : Int} {r : List T_api_Step} (h : m_slices_pdqsortCmpFunc_api_Step k data a b limit = some r) : EC Tryz.prog 214 [.sl 0 data.length, I a, I b, I limit, .fn (.func 89) [] []] [.row 37 13 data.length (data.flatMap e_api_Step)] fun g hp' => g = .tup [] ∧ hp' = [.row 37 13 r.length (r.flatMap e_api_Step)] := by
  refine ec_enter (Fr.of 0 _) Tryz.func214 rfl (Fr.of_ok _) (Nat.le_of_ble_eq_true rfl) fun _ => ?_
  refine go_in ?_
  unfold m_slices_pdqsortCmpFunc_api_Step at h
  refine go hΓ 10 rfl ?_
  obtain ⟨q4, hq4, h5⟩ := bi_ok h
  refine go hΓ 1 rfl ?_
  refine j_loop hq4 (fun s2 => [(0, .sl 0 data.length), (1, I a), (2, I b), (3, I limit), (4, .fn (.func 89) [] []), (10, B true), (11, B true)]) (fun s2 => [.row 37 13 data.length (data.flatMap e_api_Step)]) ⟨⟨rfl, rfl, rfl, rfl, rfl, rfl, rfl, trivial⟩, [], rfl, .inl rfl⟩ (fun s2 y10 hy8 hout9 => ?_)
  refine go hΓ 16 rfl ?_
  refine j_cond rfl (fun hb => ?_) (fun hb => ?_)
  · have h11 := cT hy8 hb
    obtain ⟨y12, hy12, h13⟩ := bi_ok h11
    refine go hΓ 6 rfl ?_
    refine eo_callF [0] (.tup []) [.row 37 13 y12.length (y12.flatMap e_api_Step)] (callable Tryz.func280 rfl rfl) (c_slices_insertionSortCmpFunc_api_Step_2 hy12) rfl (Nat.le_of_ble_eq_true rfl) rfl rfl rfl rfl rfl rfl rfl rfl rfl rfl ?_
    refine go_ops hΓ 5 rfl ?_
    obtain ⟨v14, hv14, h15⟩ := bi_ok h13
    obtain rfl := Option.some.inj h15
    obtain rfl := hout9 _ rfl
    obtain rfl := Option.some.inj h5
    refine go hΓ 2 rfl ?_
    obtain rfl := Option.some.inj hv14
    exact fin_objs hΓ [] (.inr rfl) rfl rfl rfl rfl (.inl rfl)
  · have h16 := cF hy8 hb
    refine go hΓ 9 rfl ?_
    refine j_cond rfl (fun hb => ?_) (fun hb => ?_)
    · have h17 := cT h16 hb
      refine go hΓ 6 rfl ?_
      cases h17
    · have h18 := cF h16 hb
      refine go hΓ 18 rfl ?_
      cases h18
theorem c_slices_SortFunc_api_Step_api_Step {k : Nat} {x : List T_api_Step} {r : List T_api_Step} (h : m_slices_SortFunc_api_Step_api_Step k x = some r) : EC Tryz.prog 112 [.sl 0 x.length, .fn (.func 89) [] []] [.row 37 13 x.length (x.flatMap e_api_Step)] fun g hp' => g = .tup [] ∧ hp' = [.row 37 13 r.length (r.flatMap e_api_Step)] := by
  refine ec_enter (Fr.of 0 _) Tryz.func112 rfl (Fr.of_ok _) (Nat.le_of_ble_eq_true rfl) fun _ => ?_
  refine go_in ?_
  unfold m_slices_SortFunc_api_Step_api_Step at h
  obtain ⟨y1, hy1, h2⟩ := bi_ok h
  refine go hΓ 12 rfl ?_
  refine eo_callP (callable Tryz.func215 rfl rfl) (c_math_bits_Len hy1) rfl (Nat.le_of_ble_eq_true rfl) rfl rfl rfl rfl rfl ?_
  obtain ⟨y3, hy3, h4⟩ := bi_ok h2
  refine go_ops hΓ 1 rfl ?_
  refine eo_callF [0] (.tup []) [.row 37 13 y3.length (y3.flatMap e_api_Step)] (callable Tryz.func214 rfl rfl) (c_slices_pdqsortCmpFunc_api_Step hy3) rfl (Nat.le_of_ble_eq_true rfl) rfl rfl rfl rfl rfl rfl rfl rfl rfl rfl ?_
  refine go_ops hΓ 1 rfl ?_
  obtain rfl := Option.some.inj h4
  exact fin_objs hΓ [] (.inl rfl) rfl rfl rfl rfl (.inl rfl)
set_option maxHeartbeats 8000000 in
theorem c_node_Merge {k : Nat} {a : List T_api_Step} {b : List T_api_Step} {r : (List T_api_Step) × Int} (h : m_node_Merge k a b = some r) : Pure Tryz.prog 31 [.d (Sl e_api_Step a), .d (Sl e_api_Step b)] (.tup [.d (Sl e_api_Step r.1), I r.2]) := by
  refine Pure.enter (Fr.of 0 _) Tryz.func31 rfl (Fr.of_ok _) rfl rfl ?_
  refine go_in ?_
  unfold m_node_Merge at h
  refine go hΓ 11 rfl ?_
  refine eo_o rfl (op_buildA hΓ (gs := [.d (Sl e_api_Step a), .d (Sl e_api_Step b)]) rfl rfl rfl rfl rfl rfl) ?_
  refine go_ops hΓ 3 rfl ?_
  obtain ⟨q4, hq4, h5⟩ := bi_ok h
  refine j_cutEZ (R := fun a6 => q4 = .inl a6) (fun a6 => [(0, .d (Sl e_api_Step a)), (1, .d (Sl e_api_Step b))]) (fun a6 => []) ?_ ?_
  · refine go hΓ 1 rfl ?_
    refine j_loop hq4 (fun s2 => [(0, .d (Sl e_api_Step a)), (1, .d (Sl e_api_Step b)), (19, .agg [.d (Sl e_api_Step a), .d (Sl e_api_Step b)]), (20, I s2)]) (fun s2 => []) ⟨⟨rfl, rfl, rfl, rfl, trivial⟩, [], rfl, .inl rfl⟩ (fun s2 y10 hy8 hout9 => ?_)
    refine go hΓ 6 rfl ?_
    refine j_cond rfl (fun hb => ?_) (fun hb => ?_)
    · have h11 := cT hy8 hb
      obtain ⟨x12, hx12, h13⟩ := bi_ok h11
      refine go hΓ 6 rfl ?_
      refine eo_o rfl (op_indexArrZ hΓ (enc := (eL e_api_Step)) [a, b] hx12 rfl rfl rfl rfl rfl rfl rfl (fun _ => rfl) rfl) ?_
      obtain ⟨y14, hy14, h15⟩ := bi_ok h13
      refine go_ops hΓ 6 rfl ?_
      refine eo_callP (callable Tryz.func33 rfl rfl) (c_node_Check hy14) rfl (Nat.le_of_ble_eq_true rfl) rfl rfl rfl rfl rfl ?_
      refine go_ops hΓ 9 rfl ?_
      refine j_cond rfl (fun hb => ?_) (fun hb => ?_)
      · have h16 := cT h15 hb
        refine go hΓ 10 rfl ?_
        obtain ⟨v17, hv17, h18⟩ := bi_ok h16
        obtain rfl := Option.some.inj h18
        obtain rfl := hout9 _ rfl
        obtain rfl := Option.some.inj h5
        refine go hΓ 4 rfl ?_
        obtain rfl := Option.some.inj hv17
        exact fin_pure hΓ (.inr rfl) rfl rfl
      · have h19 := cF h15 hb
        refine go hΓ 7 rfl ?_
        obtain rfl := Option.some.inj h19
        exact ⟨_, rfl, ⟨⟨rfl, rfl, rfl, rfl, trivial⟩, [], rfl, .inl rfl⟩⟩
    · have h20 := cF hy8 hb
      refine go hΓ 4 rfl ?_
      obtain rfl := Option.some.inj h20
      obtain rfl := hout9 _ rfl
      exact ⟨_, rfl, ⟨⟨rfl, rfl, trivial⟩, [], rfl, .inl rfl⟩⟩
  · intro a6 ha
    subst ha
    replace h5 := orI_l h5
    refine go hΓ 3 rfl ?_
    refine eo_s (Nat.le_of_ble_eq_true rfl) (nblt.1 rfl) (ops_makeMap true) ?_
    refine eo_hp [mOb (kD e_node_origin) true e_api_Step ([] : List (T_node_origin × T_api_Step))] rfl ?_
    refine go_ops hΓ 5 rfl ?_
    refine eo_nilOwn (t := 0) 37 13 rfl (Nat.le_of_ble_eq_true rfl) ?_
    refine go_ops hΓ 7 rfl ?_
    refine eo_o rfl (op_buildA hΓ (gs := [.d (Sl e_api_Step a), .d (Sl e_api_Step b)]) rfl rfl rfl rfl rfl rfl) ?_
    refine go_ops hΓ 3 rfl ?_
    obtain ⟨q24, hq24, h25⟩ := bi_ok h5
    refine j_cutEZ (R := fun a26 => q24 = .inl a26) (fun a26 => [(10, .sl 1 a26.2.length)]) (fun a26 => [mOb (kD e_node_origin) true e_api_Step a26.1, .row 37 13 a26.2.length (a26.2.flatMap e_api_Step)]) ?_ ?_
    · refine go hΓ 1 rfl ?_
      refine j_loop hq24 (fun s22 => [(9, .map 0), (10, .sl 1 s22.2.1.length), (32, .agg [.d (Sl e_api_Step a), .d (Sl e_api_Step b)]), (33, I s22.2.2)]) (fun s22 => [mOb (kD e_node_origin) true e_api_Step s22.1, .row 37 13 s22.2.1.length (s22.2.1.flatMap e_api_Step)]) ⟨⟨rfl, rfl, rfl, rfl, trivial⟩, [], rfl, .inl rfl⟩ (fun s22 y30 hy28 hout29 => ?_)
      refine go hΓ 6 rfl ?_
      refine j_cond rfl (fun hb => ?_) (fun hb => ?_)
      · have h31 := cT hy28 hb
        obtain ⟨x32, hx32, h33⟩ := bi_ok h31
        refine go hΓ 6 rfl ?_
        refine eo_o rfl (op_indexArrZ hΓ (enc := (eL e_api_Step)) [a, b] hx32 rfl rfl rfl rfl rfl rfl rfl (fun _ => rfl) rfl) ?_
        refine go_ops hΓ 10 rfl ?_
        obtain ⟨q37, hq37, h38⟩ := bi_ok h33
        refine j_bound 36 rfl fun hb40 => ?_
        refine j_cutEZ (R := fun a39 => q37 = .go a39) (fun a39 => [(9, .map 0), (10, .sl 1 a39.2.length), (32, .agg [.d (Sl e_api_Step a), .d (Sl e_api_Step b)]), (33, I s22.2.2)]) (fun a39 => [mOb (kD e_node_origin) true e_api_Step a39.1, .row 37 13 a39.2.length (a39.2.flatMap e_api_Step)]) ?_ ?_
        · refine go hΓ 1 rfl ?_
          refine j_range x32 hq37 (fun i34 s35 => [(9, .map 0), (10, .sl 1 s35.2.length), (32, .agg [.d (Sl e_api_Step a), .d (Sl e_api_Step b)]), (33, I s22.2.2), (36, .d (Sl e_api_Step x32)), (37, I (x32.length : Int)), (38, I (i34 : Int))]) (fun s35 => [mOb (kD e_node_origin) true e_api_Step s35.1, .row 37 13 s35.2.length (s35.2.flatMap e_api_Step)]) ⟨⟨rfl, rfl, rfl, rfl, rfl, rfl, rfl, trivial⟩, [], rfl, .inl rfl⟩ (fun i34 x36 s35 y44 hx41 hlt hy42 hout43 => ?_) (fun s35 hgo => ?_)
          · refine go hΓ 6 rfl ?_
            refine j_condT rfl (decide_eq_true (Int.ofNat_lt.2 hlt)) ?_
            refine go hΓ 6 rfl ?_
            refine eo_o rfl (op_elemZ hΓ (enc := e_api_Step) (getZ_nat hx41) rfl rfl rfl rfl rfl (fun _ => rfl)) ?_
            refine go_ops hΓ 1 rfl ?_
            refine eo_alloc hΓ rfl rfl rfl (Nat.le_of_ble_eq_true rfl) ?_
            refine eo_store hΓ rfl rfl rfl rfl rfl rfl rfl rfl (Nat.le_of_ble_eq_true rfl) ?_
            refine eo_hp [mOb (kD e_node_origin) true e_api_Step s35.1, .row 37 13 s35.2.length (s35.2.flatMap e_api_Step), .box 37 [I x36.At, S x36.Server, I x36.No, I x36.Kind, S x36.By, S x36.Node, S x36.Join, S x36.Public, S x36.Name, .d (Sl eS x36.Tags), I x36.Until, I x36.Uses, B x36.Ready]] rfl ?_
            obtain ⟨y45, hy45, h46⟩ := bi_ok hy42
            refine go_ops hΓ 6 rfl ?_
            refine eo_callP (callable Tryz.func92 rfl rfl) (c_node_originOf hy45) rfl (Nat.le_of_ble_eq_true rfl) rfl rfl rfl rfl rfl ?_
            refine eo_o rfl (op_lookupOkS hΓ (kenc := e_node_origin) (agg := true) (enc := e_api_Step) s35.1 y45 ((⟨0, [], 0, 0, [], [], [], [], [], [], 0, 0, false⟩ : T_api_Step) : T_api_Step) rfl rfl rfl ks_node_origin (fun _ => rfl) rfl rfl rfl rfl rfl rfl rfl) ?_
            refine go_ops hΓ 3 rfl ?_
            refine eo_alloc hΓ rfl rfl rfl (Nat.le_of_ble_eq_true rfl) ?_
            refine eo_store hΓ rfl rfl rfl rfl rfl rfl rfl rfl (Nat.le_of_ble_eq_true rfl) ?_
            refine eo_hp [mOb (kD e_node_origin) true e_api_Step s35.1, .row 37 13 s35.2.length (s35.2.flatMap e_api_Step), .box 37 [I x36.At, S x36.Server, I x36.No, I x36.Kind, S x36.By, S x36.Node, S x36.Join, S x36.Public, S x36.Name, .d (Sl eS x36.Tags), I x36.Until, I x36.Uses, B x36.Ready], .box 37 [I (((mGet s35.1 y45).getD (⟨0, [], 0, 0, [], [], [], [], [], [], 0, 0, false⟩ : T_api_Step)).At), S (((mGet s35.1 y45).getD (⟨0, [], 0, 0, [], [], [], [], [], [], 0, 0, false⟩ : T_api_Step)).Server), I (((mGet s35.1 y45).getD (⟨0, [], 0, 0, [], [], [], [], [], [], 0, 0, false⟩ : T_api_Step)).No), I (((mGet s35.1 y45).getD (⟨0, [], 0, 0, [], [], [], [], [], [], 0, 0, false⟩ : T_api_Step)).Kind), S (((mGet s35.1 y45).getD (⟨0, [], 0, 0, [], [], [], [], [], [], 0, 0, false⟩ : T_api_Step)).By), S (((mGet s35.1 y45).getD (⟨0, [], 0, 0, [], [], [], [], [], [], 0, 0, false⟩ : T_api_Step)).Node), S (((mGet s35.1 y45).getD (⟨0, [], 0, 0, [], [], [], [], [], [], 0, 0, false⟩ : T_api_Step)).Join), S (((mGet s35.1 y45).getD (⟨0, [], 0, 0, [], [], [], [], [], [], 0, 0, false⟩ : T_api_Step)).Public), S (((mGet s35.1 y45).getD (⟨0, [], 0, 0, [], [], [], [], [], [], 0, 0, false⟩ : T_api_Step)).Name), .d (Sl eS (((mGet s35.1 y45).getD (⟨0, [], 0, 0, [], [], [], [], [], [], 0, 0, false⟩ : T_api_Step)).Tags)), I (((mGet s35.1 y45).getD (⟨0, [], 0, 0, [], [], [], [], [], [], 0, 0, false⟩ : T_api_Step)).Until), I (((mGet s35.1 y45).getD (⟨0, [], 0, 0, [], [], [], [], [], [], 0, 0, false⟩ : T_api_Step)).Uses), B (((mGet s35.1 y45).getD (⟨0, [], 0, 0, [], [], [], [], [], [], 0, 0, false⟩ : T_api_Step)).Ready)]] rfl ?_
            refine go_ops hΓ 8 rfl ?_
            obtain ⟨q47, hq47, h48⟩ := bi_ok h46
            refine o_cut 5 [(9, .map 0), (10, .sl 1 s35.2.length), (14, .ptr 2 0), (16, B ((mGet s35.1 y45).isSome)), (32, .agg [.d (Sl e_api_Step a), .d (Sl e_api_Step b)]), (33, I s22.2.2), (36, .d (Sl e_api_Step x32)), (37, I (x32.length : Int)), (38, I (i34 : Int)), (55, B q47)] [mOb (kD e_node_origin) true e_api_Step s35.1, .row 37 13 s35.2.length (s35.2.flatMap e_api_Step), .box 37 [I x36.At, S x36.Server, I x36.No, I x36.Kind, S x36.By, S x36.Node, S x36.Join, S x36.Public, S x36.Name, .d (Sl eS x36.Tags), I x36.Until, I x36.Uses, B x36.Ready], .box 37 [I (((mGet s35.1 y45).getD (⟨0, [], 0, 0, [], [], [], [], [], [], 0, 0, false⟩ : T_api_Step)).At), S (((mGet s35.1 y45).getD (⟨0, [], 0, 0, [], [], [], [], [], [], 0, 0, false⟩ : T_api_Step)).Server), I (((mGet s35.1 y45).getD (⟨0, [], 0, 0, [], [], [], [], [], [], 0, 0, false⟩ : T_api_Step)).No), I (((mGet s35.1 y45).getD (⟨0, [], 0, 0, [], [], [], [], [], [], 0, 0, false⟩ : T_api_Step)).Kind), S (((mGet s35.1 y45).getD (⟨0, [], 0, 0, [], [], [], [], [], [], 0, 0, false⟩ : T_api_Step)).By), S (((mGet s35.1 y45).getD (⟨0, [], 0, 0, [], [], [], [], [], [], 0, 0, false⟩ : T_api_Step)).Node), S (((mGet s35.1 y45).getD (⟨0, [], 0, 0, [], [], [], [], [], [], 0, 0, false⟩ : T_api_Step)).Join), S (((mGet s35.1 y45).getD (⟨0, [], 0, 0, [], [], [], [], [], [], 0, 0, false⟩ : T_api_Step)).Public), S (((mGet s35.1 y45).getD (⟨0, [], 0, 0, [], [], [], [], [], [], 0, 0, false⟩ : T_api_Step)).Name), .d (Sl eS (((mGet s35.1 y45).getD (⟨0, [], 0, 0, [], [], [], [], [], [], 0, 0, false⟩ : T_api_Step)).Tags)), I (((mGet s35.1 y45).getD (⟨0, [], 0, 0, [], [], [], [], [], [], 0, 0, false⟩ : T_api_Step)).Until), I (((mGet s35.1 y45).getD (⟨0, [], 0, 0, [], [], [], [], [], [], 0, 0, false⟩ : T_api_Step)).Uses), B (((mGet s35.1 y45).getD (⟨0, [], 0, 0, [], [], [], [], [], [], 0, 0, false⟩ : T_api_Step)).Ready)]] ?_ ?_
            · refine eo_gsplit rfl rfl (fun hb => ?_) (fun hb => ?_)
              · have h49 := cT hq47 hb
                obtain ⟨y50, hy50, h51⟩ := bi_ok h49
                refine go_ops hΓ 2 rfl ?_
                refine eo_guard rfl ?_
                refine eo_callP (callable Tryz.func110 rfl rfl) (c_node_same hy50) rfl (Nat.le_of_ble_eq_true rfl) rfl rfl rfl rfl rfl ?_
                refine go_ops hΓ 3 rfl ?_
                obtain rfl := Option.some.inj h51
                exact ⟨⟨rfl, rfl, rfl, rfl, rfl, rfl, rfl, rfl, rfl, rfl, trivial⟩, [], rfl, .inl rfl⟩
              · have h52 := cF hq47 hb
                refine go_ops hΓ 6 rfl ?_
                obtain rfl := Option.some.inj h52
                exact ⟨⟨rfl, rfl, rfl, rfl, rfl, rfl, rfl, rfl, rfl, rfl, trivial⟩, [], rfl, .inl rfl⟩
            · refine go_ops hΓ 2 rfl ?_
              refine j_cond rfl (fun hb => ?_) (fun hb => ?_)
              · have h53 := cT h48 hb
                refine go hΓ 10 rfl ?_
                obtain ⟨v54, hv54, h55⟩ := bi_ok h53
                obtain rfl := Option.some.inj h55
                obtain rfl := hout43 _ rfl
                obtain rfl := Option.some.inj h38
                refine go hΓ 5 rfl ?_
                obtain ⟨v56, hv56, h57⟩ := bi_ok hv54
                obtain rfl := Option.some.inj h57
                obtain rfl := hout29 _ rfl
                obtain rfl := Option.some.inj h25
                refine go hΓ 4 rfl ?_
                obtain rfl := Option.some.inj hv56
                exact fin_pure hΓ (.inr rfl) rfl rfl
              · have h58 := cF h48 hb
                refine go hΓ 8 rfl ?_
                refine j_cond rfl (fun hb => ?_) (fun hb => ?_)
                · have h59 := cT h58 hb
                  refine go hΓ 1 rfl ?_
                  refine j_drawE [.dead, .dead, .box 37 [I x36.At, S x36.Server, I x36.No, I x36.Kind, S x36.By, S x36.Node, S x36.Join, S x36.Public, S x36.Name, .d (Sl eS x36.Tags), I x36.Until, I x36.Uses, B x36.Ready]] [1, 3] [4] [] hmix (by kernel_rfl) (by kernel_rfl) ⟨rfl, trivial⟩ (Nat.le_of_ble_eq_true rfl) ?_
                  obtain ⟨y60, hy60, h61⟩ := bi_ok h59
                  refine go_E hΓ 2 rfl ?_
                  refine ge_callP (callable Tryz.func92 rfl rfl) (c_node_originOf hy60) rfl rfl rfl rfl rfl rfl ?_
                  refine go_E hΓ 1 rfl ?_
                  refine ge_h0 [mOb (kD e_node_origin) true e_api_Step (mSet s35.1 y60 x36), .row 37 13 s35.2.length (s35.2.flatMap e_api_Step), .box 37 [I x36.At, S x36.Server, I x36.No, I x36.Kind, S x36.By, S x36.Node, S x36.Join, S x36.Public, S x36.Name, .d (Sl eS x36.Tags), I x36.Until, I x36.Uses, B x36.Ready], .box 37 [I (((mGet s35.1 y45).getD (⟨0, [], 0, 0, [], [], [], [], [], [], 0, 0, false⟩ : T_api_Step)).At), S (((mGet s35.1 y45).getD (⟨0, [], 0, 0, [], [], [], [], [], [], 0, 0, false⟩ : T_api_Step)).Server), I (((mGet s35.1 y45).getD (⟨0, [], 0, 0, [], [], [], [], [], [], 0, 0, false⟩ : T_api_Step)).No), I (((mGet s35.1 y45).getD (⟨0, [], 0, 0, [], [], [], [], [], [], 0, 0, false⟩ : T_api_Step)).Kind), S (((mGet s35.1 y45).getD (⟨0, [], 0, 0, [], [], [], [], [], [], 0, 0, false⟩ : T_api_Step)).By), S (((mGet s35.1 y45).getD (⟨0, [], 0, 0, [], [], [], [], [], [], 0, 0, false⟩ : T_api_Step)).Node), S (((mGet s35.1 y45).getD (⟨0, [], 0, 0, [], [], [], [], [], [], 0, 0, false⟩ : T_api_Step)).Join), S (((mGet s35.1 y45).getD (⟨0, [], 0, 0, [], [], [], [], [], [], 0, 0, false⟩ : T_api_Step)).Public), S (((mGet s35.1 y45).getD (⟨0, [], 0, 0, [], [], [], [], [], [], 0, 0, false⟩ : T_api_Step)).Name), .d (Sl eS (((mGet s35.1 y45).getD (⟨0, [], 0, 0, [], [], [], [], [], [], 0, 0, false⟩ : T_api_Step)).Tags)), I (((mGet s35.1 y45).getD (⟨0, [], 0, 0, [], [], [], [], [], [], 0, 0, false⟩ : T_api_Step)).Until), I (((mGet s35.1 y45).getD (⟨0, [], 0, 0, [], [], [], [], [], [], 0, 0, false⟩ : T_api_Step)).Uses), B (((mGet s35.1 y45).getD (⟨0, [], 0, 0, [], [], [], [], [], [], 0, 0, false⟩ : T_api_Step)).Ready)]] rfl rfl (st_st ⟨rfl, trivial⟩) (qte_u (opu_mapUpdateS hΓ (kenc := e_node_origin) (agg := true) (enc := e_api_Step) (id := 0) s35.1 y60 x36 rfl rfl ks_node_origin (fun _ => rfl) rfl rfl rfl rfl rfl)) ?_
                  refine ge_fin ?_
                  obtain ⟨y62, hy62, h63⟩ := bi_ok h61
                  refine go hΓ 4 rfl ?_
                  refine eo_callP (callable Tryz.func111 rfl rfl) (c_node_cloneStep hy62) rfl (Nat.le_of_ble_eq_true rfl) rfl rfl rfl rfl rfl ?_
                  refine eo_litT hΓ (enc := e_api_Step) [y62] rfl rfl rfl rfl rfl rfl rfl rfl rfl rfl rfl rfl (Nat.le_of_ble_eq_true rfl) ?_
                  obtain ⟨y64, hy64, h65⟩ := bi_ok h63
                  refine eo_appendT hΓ (enc := e_api_Step) hy64 rfl rfl rfl rfl rfl rfl rfl rfl rfl (fun _ => rfl) rfl rfl rfl rfl ?_
                  refine go_ops hΓ 8 rfl ?_
                  obtain rfl := Option.some.inj h65
                  exact ⟨_, rfl, ⟨⟨rfl, rfl, rfl, rfl, rfl, rfl, get_eq rfl (w64_succ (Nat.lt_of_lt_of_le hlt hb40)), trivial⟩, [_, _], rfl, .inr ⟨HB.mk rfl, FB.mk rfl, (Nat.le_of_ble_eq_true rfl)⟩⟩⟩
                · have h66 := cF h58 hb
                  refine go hΓ 7 rfl ?_
                  obtain rfl := Option.some.inj h66
                  exact ⟨_, rfl, ⟨⟨rfl, rfl, rfl, rfl, rfl, rfl, get_eq rfl (w64_succ (Nat.lt_of_lt_of_le hlt hb40)), trivial⟩, [_, _], rfl, .inr ⟨HB.mk rfl, FB.mk rfl, (Nat.le_of_ble_eq_true rfl)⟩⟩⟩
          · subst hgo
            refine go hΓ 6 rfl ?_
            refine j_condF rfl (decide_eq_false (Int.lt_irrefl _)) ?_
            refine go hΓ 4 rfl ?_
            exact ⟨_, rfl, ⟨⟨rfl, rfl, rfl, rfl, trivial⟩, [], rfl, .inl rfl⟩⟩
        · intro a39 ha
          subst ha
          replace h38 := goI_l h38
          refine go hΓ 6 rfl ?_
          obtain rfl := Option.some.inj h38
          exact ⟨_, rfl, ⟨⟨rfl, rfl, rfl, rfl, trivial⟩, [], rfl, .inl rfl⟩⟩
      · have h67 := cF hy28 hb
        refine go hΓ 4 rfl ?_
        obtain rfl := Option.some.inj h67
        obtain rfl := hout29 _ rfl
        exact ⟨_, rfl, ⟨⟨rfl, trivial⟩, [], rfl, .inl rfl⟩⟩
    · intro a26 ha
      subst ha
      replace h25 := orI_l h25
      refine go hΓ 9 rfl ?_
      refine j_cond rfl (fun hb => ?_) (fun hb => ?_)
      · have h68 := cT h25 hb
        refine go hΓ 8 rfl ?_
        obtain rfl := Option.some.inj h68
        exact fin_pure hΓ (.inr rfl) rfl rfl
      · have h69 := cF h25 hb
        obtain ⟨y70, hy70, h71⟩ := bi_ok h69
        refine go hΓ 5 rfl ?_
        refine eo_callF [1] (.tup []) [mOb (kD e_node_origin) true e_api_Step a26.1, .row 37 13 y70.length (y70.flatMap e_api_Step)] (callable Tryz.func112 rfl rfl) (c_slices_SortFunc_api_Step_api_Step hy70) rfl (Nat.le_of_ble_eq_true rfl) rfl rfl rfl rfl rfl rfl rfl rfl rfl rfl ?_
        obtain ⟨hg73, h72⟩ := gd_ok h71
        refine eo_relen 10 rfl (of_decide_eq_true hg73).symm ?_
        refine go_ops hΓ 6 rfl ?_
        refine eo_shr 1 [4, 10, 74] _ [mOb (kD e_node_origin) true e_api_Step a26.1, .dead] rfl rfl rfl (Nat.le_of_ble_eq_true rfl) ?_
        refine go_ops hΓ 4 rfl ?_
        obtain rfl := Option.some.inj h72
        exact fin_pure hΓ (.inr rfl) rfl rfl
theorem c_lanelaw1_noded {k : Nat} {r : Bool} (h : m_lanelaw1_noded k = some r) : Pure Tryz.prog 16 [] (B r) := by
  refine Pure.enter (Fr.of 0 _) Tryz.func16 rfl (Fr.of_ok _) rfl rfl ?_
  refine go_in ?_
  unfold m_lanelaw1_noded at h
  refine go hΓ 7 rfl ?_
  refine eo_litT hΓ (enc := eS) [[97]] rfl rfl rfl rfl rfl rfl rfl rfl rfl rfl rfl rfl (Nat.le_of_ble_eq_true rfl) ?_
  refine eo_litT hΓ (enc := eS) [[97]] rfl rfl rfl rfl rfl rfl rfl rfl rfl rfl rfl rfl (Nat.le_of_ble_eq_true rfl) ?_
  refine eo_build hΓ (gs := [S [116], .d (Sl eS [[97]])]) rfl rfl rfl rfl rfl rfl rfl ?_
  refine eo_litT hΓ (enc := e_api_Owner) [(⟨[116], [[97]]⟩ : T_api_Owner)] rfl rfl rfl rfl rfl rfl rfl rfl rfl rfl rfl rfl (Nat.le_of_ble_eq_true rfl) ?_
  refine eo_build hΓ (gs := [.d (Sl eS [[97]]), .d (Sl e_api_Owner [(⟨[116], [[97]]⟩ : T_api_Owner)]), I 1, B false]) rfl rfl rfl rfl rfl rfl rfl ?_
  obtain ⟨y1, hy1, h2⟩ := bi_ok h
  refine eo_callP (callable Tryz.func27 rfl rfl) (c_node_Owns hy1) rfl (Nat.le_of_ble_eq_true rfl) rfl rfl rfl rfl rfl ?_
  refine go_ops hΓ 12 rfl ?_
  refine o_cut 2 [(0, B false), (16, B (((y1.2 : Int) == 0) && y1.1))] [] ?_ ?_
  · refine eo_gsplit rfl rfl (fun hb => ?_) (fun hb => ?_)
    · refine go_ops hΓ 3 rfl ?_
      exact ⟨⟨rfl, get_b rfl (and_t hb), trivial⟩, [], rfl, .inl rfl⟩
    · refine go_ops hΓ 3 rfl ?_
      exact ⟨⟨rfl, get_b rfl (and_f hb), trivial⟩, [], rfl, .inl rfl⟩
  · refine go_ops hΓ 4 rfl ?_
    obtain rfl := Option.some.inj h2
    exact fin_pure hΓ (.inr rfl) rfl rfl
theorem c_laneref1_StepsMerged_1 {x : T_api_Step} {x2 : T_api_Step} {r : Bool} (h : m_laneref1_StepsMerged_1 x x2 = some r) : EC Tryz.prog 115 [.agg [I x.At, S x.Server, I x.No, I x.Kind, S x.By, S x.Node, S x.Join, S x.Public, S x.Name, .d (Sl eS x.Tags), I x.Until, I x.Uses, B x.Ready], .ptr 0 0] [.box 37 [I x2.At, S x2.Server, I x2.No, I x2.Kind, S x2.By, S x2.Node, S x2.Join, S x2.Public, S x2.Name, .d (Sl eS x2.Tags), I x2.Until, I x2.Uses, B x2.Ready]] fun g hp' => g = B r ∧ hp' = [.box 37 [I x2.At, S x2.Server, I x2.No, I x2.Kind, S x2.By, S x2.Node, S x2.Join, S x2.Public, S x2.Name, .d (Sl eS x2.Tags), I x2.Until, I x2.Uses, B x2.Ready]] := by
  refine ec_enter (Fr.of 0 _) Tryz.func115 rfl (Fr.of_ok _) (Nat.le_of_ble_eq_true rfl) fun _ => ?_
  refine go_in ?_
  unfold m_laneref1_StepsMerged_1 at h
  refine go hΓ 2 rfl ?_
  refine eo_box rfl rfl rfl rfl (Nat.le_of_ble_eq_true rfl) ?_
  refine go_ops hΓ 11 rfl ?_
  refine o_cut 6 [(3, B false), (15, B (((x.Server : Str) == x2.Server) && ((x.No : Int) == x2.No)))] [.box 37 [I x2.At, S x2.Server, I x2.No, I x2.Kind, S x2.By, S x2.Node, S x2.Join, S x2.Public, S x2.Name, .d (Sl eS x2.Tags), I x2.Until, I x2.Uses, B x2.Ready], .box 37 [I x.At, S x.Server, I x.No, I x.Kind, S x.By, S x.Node, S x.Join, S x.Public, S x.Name, .d (Sl eS x.Tags), I x.Until, I x.Uses, B x.Ready]] ?_ ?_
  · refine eo_gsplit rfl rfl (fun hb => ?_) (fun hb => ?_)
    · refine go_ops hΓ 7 rfl ?_
      exact ⟨⟨rfl, get_b rfl (and_t hb), trivial⟩, [], rfl, .inl rfl⟩
    · refine go_ops hΓ 7 rfl ?_
      exact ⟨⟨rfl, get_b rfl (and_f hb), trivial⟩, [], rfl, .inl rfl⟩
  · refine go_ops hΓ 4 rfl ?_
    obtain rfl := Option.some.inj h
    exact fin_objs hΓ [_] (.inr rfl) rfl rfl rfl rfl (.inr ⟨HB.mk rfl, rfl⟩)
theorem c_slices_IndexFunc_api_Step_api_Step_2 {s : List T_api_Step} {f : T_api_Step} {r : Int} (h : m_slices_IndexFunc_api_Step_api_Step_2 s f = some r) : EC Tryz.prog 114 [.sl 0 s.length, .fn (.func 115) [] [.ptr 1 0]] [.row 37 13 s.length (s.flatMap e_api_Step), .box 37 [I f.At, S f.Server, I f.No, I f.Kind, S f.By, S f.Node, S f.Join, S f.Public, S f.Name, .d (Sl eS f.Tags), I f.Until, I f.Uses, B f.Ready]] fun g hp' => g = I r ∧ hp' = [.row 37 13 s.length (s.flatMap e_api_Step), .box 37 [I f.At, S f.Server, I f.No, I f.Kind, S f.By, S f.Node, S f.Join, S f.Public, S f.Name, .d (Sl eS f.Tags), I f.Until, I f.Uses, B f.Ready]] := by
  refine ec_enter (Fr.of 0 _) Tryz.func114 rfl (Fr.of_ok _) (Nat.le_of_ble_eq_true rfl) fun _ => ?_
  refine go_in ?_
  unfold m_slices_IndexFunc_api_Step_api_Step_2 at h
  refine go hΓ 13 rfl ?_
  obtain ⟨q4, hq4, h5⟩ := bi_ok h
  obtain ⟨hb7, h8⟩ := gd_ok hq4
  replace hb7 := of_decide_eq_true hb7
  refine j_cutEZ (R := fun a6 => q4 = .go a6) (fun a6 => []) (fun a6 => [.row 37 13 s.length (s.flatMap e_api_Step), .box 37 [I f.At, S f.Server, I f.No, I f.Kind, S f.By, S f.Node, S f.Join, S f.Public, S f.Name, .d (Sl eS f.Tags), I f.Until, I f.Uses, B f.Ready]]) ?_ ?_
  · refine go hΓ 1 rfl ?_
    refine j_rangeI h8 (fun i1 s2 => [(0, .sl 0 s.length), (1, .fn (.func 115) [] [.ptr 1 0]), (7, I (s.length : Int)), (8, I (i1 : Int))]) (fun s2 => [.row 37 13 s.length (s.flatMap e_api_Step), .box 37 [I f.At, S f.Server, I f.No, I f.Kind, S f.By, S f.Node, S f.Join, S f.Public, S f.Name, .d (Sl eS f.Tags), I f.Until, I f.Uses, B f.Ready]]) ⟨⟨rfl, rfl, rfl, rfl, trivial⟩, [], rfl, .inl rfl⟩ (fun i1 s2 y12 hlt hy10 hout11 => ?_) (fun s2 hgo hge => ?_)
    · refine go hΓ 6 rfl ?_
      refine j_condT rfl (decide_eq_true hlt) ?_
      obtain ⟨x13, hx13, h14⟩ := bi_ok hy10
      have hj15 := getZ_at hx13
      refine go hΓ 15 rfl ?_
      refine eo_o rfl (op_elemRowZ hΓ hx13 rfl rfl rfl rfl rfl rfl) ?_
      refine eo_o rfl (op_loadRowZ hΓ (enc := e_api_Step) ((i1 : Int).toNat) 0 hj15 rfl rfl rfl rfl (fun _ => rfl) (g := .agg [I x13.At, S x13.Server, I x13.No, I x13.Kind, S x13.By, S x13.Node, S x13.Join, S x13.Public, S x13.Name, .d (Sl eS x13.Tags), I x13.Until, I x13.Uses, B x13.Ready]) rfl) ?_
      obtain ⟨y16, hy16, h17⟩ := bi_ok h14
      refine eo_callF [1] (B y16) [.row 37 13 s.length (s.flatMap e_api_Step), .box 37 [I f.At, S f.Server, I f.No, I f.Kind, S f.By, S f.Node, S f.Join, S f.Public, S f.Name, .d (Sl eS f.Tags), I f.Until, I f.Uses, B f.Ready]] (callable Tryz.func115 rfl rfl) (c_laneref1_StepsMerged_1 hy16) rfl (Nat.le_of_ble_eq_true rfl) rfl rfl rfl rfl rfl rfl rfl rfl rfl rfl ?_
      refine go_ops hΓ 2 rfl ?_
      refine j_cond rfl (fun hb => ?_) (fun hb => ?_)
      · have h18 := cT h17 hb
        refine go hΓ 9 rfl ?_
        obtain ⟨v19, hv19, h20⟩ := bi_ok h18
        obtain rfl := Option.some.inj h20
        obtain rfl := hout11 _ rfl
        obtain rfl := Option.some.inj h5
        refine go hΓ 4 rfl ?_
        obtain rfl := Option.some.inj hv19
        exact fin_objs hΓ [] (.inr rfl) rfl rfl rfl rfl (.inl rfl)
      · have h21 := cF h17 hb
        refine go hΓ 7 rfl ?_
        obtain rfl := Option.some.inj h21
        exact ⟨_, rfl, ⟨⟨rfl, rfl, rfl, get_eq rfl (w64_succ (by omega)), trivial⟩, [], rfl, .inl rfl⟩⟩
    · subst hgo
      refine go hΓ 6 rfl ?_
      refine j_condF rfl (decide_eq_false hge) ?_
      refine go hΓ 4 rfl ?_
      exact ⟨_, rfl, ⟨trivial, [], rfl, .inl rfl⟩⟩
  · intro a6 ha
    subst ha
    replace h5 := goI_l h5
    refine go hΓ 7 rfl ?_
    obtain rfl := Option.some.inj h5
    exact fin_objs hΓ [] (.inr rfl) rfl rfl rfl rfl (.inl rfl)
set_option maxHeartbeats 8000000 in
theorem c_laneref1_SameStep {a : T_api_Step} {b : T_api_Step} {r : Bool} (h : m_laneref1_SameStep a b = some r) : Pure Tryz.prog 116 [.agg [I a.At, S a.Server, I a.No, I a.Kind, S a.By, S a.Node, S a.Join, S a.Public, S a.Name, .d (Sl eS a.Tags), I a.Until, I a.Uses, B a.Ready], .agg [I b.At, S b.Server, I b.No, I b.Kind, S b.By, S b.Node, S b.Join, S b.Public, S b.Name, .d (Sl eS b.Tags), I b.Until, I b.Uses, B b.Ready]] (B r) := by
  refine Pure.enter (Fr.of 0 _) Tryz.func116 rfl (Fr.of_ok _) rfl rfl ?_
  refine go_in ?_
  unfold m_laneref1_SameStep at h
  refine go hΓ 2 rfl ?_
  refine eo_box rfl rfl rfl rfl (Nat.le_of_ble_eq_true rfl) ?_
  refine eo_box rfl rfl rfl rfl (Nat.le_of_ble_eq_true rfl) ?_
  obtain ⟨y1, hy1, h2⟩ := bi_ok h
  refine go_ops hΓ 10 rfl ?_
  refine eo_callP (callable Tryz.func65 rfl rfl) (c_slices_Equal_string_string hy1) rfl (Nat.le_of_ble_eq_true rfl) rfl rfl rfl rfl rfl ?_
  refine go_ops hΓ 3 rfl ?_
  refine j_cond rfl (fun hb => ?_) (fun hb => ?_)
  · have h3 := cT h2 hb
    refine go hΓ 7 rfl ?_
    obtain rfl := Option.some.inj h3
    exact fin_pure hΓ (.inr rfl) rfl rfl
  · have h4 := cF h2 hb
    refine go hΓ 10 rfl ?_
    refine o_cut 6 [(2, .ptr 0 0), (3, .ptr 1 0), (4, B false), (22, B (((a.At : Int) == b.At) && ((a.Server : Str) == b.Server)))] [.box 37 [I a.At, S a.Server, I a.No, I a.Kind, S a.By, S a.Node, S a.Join, S a.Public, S a.Name, .d (Sl eS a.Tags), I a.Until, I a.Uses, B a.Ready], .box 37 [I b.At, S b.Server, I b.No, I b.Kind, S b.By, S b.Node, S b.Join, S b.Public, S b.Name, .d (Sl eS b.Tags), I b.Until, I b.Uses, B b.Ready]] ?_ ?_
    · refine eo_gsplit rfl rfl (fun hb => ?_) (fun hb => ?_)
      · refine go_ops hΓ 7 rfl ?_
        exact ⟨⟨rfl, rfl, rfl, get_b rfl (and_t hb), trivial⟩, [], rfl, .inl rfl⟩
      · refine go_ops hΓ 7 rfl ?_
        exact ⟨⟨rfl, rfl, rfl, get_b rfl (and_f hb), trivial⟩, [], rfl, .inl rfl⟩
    · refine go_ops hΓ 1 rfl ?_
      refine o_cut 6 [(2, .ptr 0 0), (3, .ptr 1 0), (4, B false), (29, B ((((a.At : Int) == b.At) && ((a.Server : Str) == b.Server)) && ((a.No : Int) == b.No)))] [.box 37 [I a.At, S a.Server, I a.No, I a.Kind, S a.By, S a.Node, S a.Join, S a.Public, S a.Name, .d (Sl eS a.Tags), I a.Until, I a.Uses, B a.Ready], .box 37 [I b.At, S b.Server, I b.No, I b.Kind, S b.By, S b.Node, S b.Join, S b.Public, S b.Name, .d (Sl eS b.Tags), I b.Until, I b.Uses, B b.Ready]] ?_ ?_
      · refine eo_gsplit rfl rfl (fun hb => ?_) (fun hb => ?_)
        · refine go_ops hΓ 7 rfl ?_
          exact ⟨⟨rfl, rfl, rfl, get_b rfl (and_t hb), trivial⟩, [], rfl, .inl rfl⟩
        · refine go_ops hΓ 7 rfl ?_
          exact ⟨⟨rfl, rfl, rfl, get_b rfl (and_f hb), trivial⟩, [], rfl, .inl rfl⟩
      · refine go_ops hΓ 1 rfl ?_
        refine o_cut 6 [(2, .ptr 0 0), (3, .ptr 1 0), (4, B false), (36, B (((((a.At : Int) == b.At) && ((a.Server : Str) == b.Server)) && ((a.No : Int) == b.No)) && ((a.Kind : Int) == b.Kind)))] [.box 37 [I a.At, S a.Server, I a.No, I a.Kind, S a.By, S a.Node, S a.Join, S a.Public, S a.Name, .d (Sl eS a.Tags), I a.Until, I a.Uses, B a.Ready], .box 37 [I b.At, S b.Server, I b.No, I b.Kind, S b.By, S b.Node, S b.Join, S b.Public, S b.Name, .d (Sl eS b.Tags), I b.Until, I b.Uses, B b.Ready]] ?_ ?_
        · refine eo_gsplit rfl rfl (fun hb => ?_) (fun hb => ?_)
          · refine go_ops hΓ 7 rfl ?_
            exact ⟨⟨rfl, rfl, rfl, get_b rfl (and_t hb), trivial⟩, [], rfl, .inl rfl⟩
          · refine go_ops hΓ 7 rfl ?_
            exact ⟨⟨rfl, rfl, rfl, get_b rfl (and_f hb), trivial⟩, [], rfl, .inl rfl⟩
        · refine go_ops hΓ 1 rfl ?_
          refine o_cut 6 [(2, .ptr 0 0), (3, .ptr 1 0), (4, B false), (43, B ((((((a.At : Int) == b.At) && ((a.Server : Str) == b.Server)) && ((a.No : Int) == b.No)) && ((a.Kind : Int) == b.Kind)) && ((a.By : Str) == b.By)))] [.box 37 [I a.At, S a.Server, I a.No, I a.Kind, S a.By, S a.Node, S a.Join, S a.Public, S a.Name, .d (Sl eS a.Tags), I a.Until, I a.Uses, B a.Ready], .box 37 [I b.At, S b.Server, I b.No, I b.Kind, S b.By, S b.Node, S b.Join, S b.Public, S b.Name, .d (Sl eS b.Tags), I b.Until, I b.Uses, B b.Ready]] ?_ ?_
          · refine eo_gsplit rfl rfl (fun hb => ?_) (fun hb => ?_)
            · refine go_ops hΓ 7 rfl ?_
              exact ⟨⟨rfl, rfl, rfl, get_b rfl (and_t hb), trivial⟩, [], rfl, .inl rfl⟩
            · refine go_ops hΓ 7 rfl ?_
              exact ⟨⟨rfl, rfl, rfl, get_b rfl (and_f hb), trivial⟩, [], rfl, .inl rfl⟩
          · refine go_ops hΓ 1 rfl ?_
            refine o_cut 6 [(2, .ptr 0 0), (3, .ptr 1 0), (4, B false), (50, B (((((((a.At : Int) == b.At) && ((a.Server : Str) == b.Server)) && ((a.No : Int) == b.No)) && ((a.Kind : Int) == b.Kind)) && ((a.By : Str) == b.By)) && ((a.Node : Str) == b.Node)))] [.box 37 [I a.At, S a.Server, I a.No, I a.Kind, S a.By, S a.Node, S a.Join, S a.Public, S a.Name, .d (Sl eS a.Tags), I a.Until, I a.Uses, B a.Ready], .box 37 [I b.At, S b.Server, I b.No, I b.Kind, S b.By, S b.Node, S b.Join, S b.Public, S b.Name, .d (Sl eS b.Tags), I b.Until, I b.Uses, B b.Ready]] ?_ ?_
            · refine eo_gsplit rfl rfl (fun hb => ?_) (fun hb => ?_)
              · refine go_ops hΓ 7 rfl ?_
                exact ⟨⟨rfl, rfl, rfl, get_b rfl (and_t hb), trivial⟩, [], rfl, .inl rfl⟩
              · refine go_ops hΓ 7 rfl ?_
                exact ⟨⟨rfl, rfl, rfl, get_b rfl (and_f hb), trivial⟩, [], rfl, .inl rfl⟩
            · refine go_ops hΓ 1 rfl ?_
              refine o_cut 6 [(2, .ptr 0 0), (3, .ptr 1 0), (4, B false), (57, B ((((((((a.At : Int) == b.At) && ((a.Server : Str) == b.Server)) && ((a.No : Int) == b.No)) && ((a.Kind : Int) == b.Kind)) && ((a.By : Str) == b.By)) && ((a.Node : Str) == b.Node)) && ((a.Join : Str) == b.Join)))] [.box 37 [I a.At, S a.Server, I a.No, I a.Kind, S a.By, S a.Node, S a.Join, S a.Public, S a.Name, .d (Sl eS a.Tags), I a.Until, I a.Uses, B a.Ready], .box 37 [I b.At, S b.Server, I b.No, I b.Kind, S b.By, S b.Node, S b.Join, S b.Public, S b.Name, .d (Sl eS b.Tags), I b.Until, I b.Uses, B b.Ready]] ?_ ?_
              · refine eo_gsplit rfl rfl (fun hb => ?_) (fun hb => ?_)
                · refine go_ops hΓ 7 rfl ?_
                  exact ⟨⟨rfl, rfl, rfl, get_b rfl (and_t hb), trivial⟩, [], rfl, .inl rfl⟩
                · refine go_ops hΓ 7 rfl ?_
                  exact ⟨⟨rfl, rfl, rfl, get_b rfl (and_f hb), trivial⟩, [], rfl, .inl rfl⟩
              · refine go_ops hΓ 1 rfl ?_
                refine o_cut 6 [(2, .ptr 0 0), (3, .ptr 1 0), (4, B false), (64, B (((((((((a.At : Int) == b.At) && ((a.Server : Str) == b.Server)) && ((a.No : Int) == b.No)) && ((a.Kind : Int) == b.Kind)) && ((a.By : Str) == b.By)) && ((a.Node : Str) == b.Node)) && ((a.Join : Str) == b.Join)) && ((a.Public : Str) == b.Public)))] [.box 37 [I a.At, S a.Server, I a.No, I a.Kind, S a.By, S a.Node, S a.Join, S a.Public, S a.Name, .d (Sl eS a.Tags), I a.Until, I a.Uses, B a.Ready], .box 37 [I b.At, S b.Server, I b.No, I b.Kind, S b.By, S b.Node, S b.Join, S b.Public, S b.Name, .d (Sl eS b.Tags), I b.Until, I b.Uses, B b.Ready]] ?_ ?_
                · refine eo_gsplit rfl rfl (fun hb => ?_) (fun hb => ?_)
                  · refine go_ops hΓ 7 rfl ?_
                    exact ⟨⟨rfl, rfl, rfl, get_b rfl (and_t hb), trivial⟩, [], rfl, .inl rfl⟩
                  · refine go_ops hΓ 7 rfl ?_
                    exact ⟨⟨rfl, rfl, rfl, get_b rfl (and_f hb), trivial⟩, [], rfl, .inl rfl⟩
                · refine go_ops hΓ 1 rfl ?_
                  refine o_cut 6 [(2, .ptr 0 0), (3, .ptr 1 0), (4, B false), (71, B ((((((((((a.At : Int) == b.At) && ((a.Server : Str) == b.Server)) && ((a.No : Int) == b.No)) && ((a.Kind : Int) == b.Kind)) && ((a.By : Str) == b.By)) && ((a.Node : Str) == b.Node)) && ((a.Join : Str) == b.Join)) && ((a.Public : Str) == b.Public)) && ((a.Name : Str) == b.Name)))] [.box 37 [I a.At, S a.Server, I a.No, I a.Kind, S a.By, S a.Node, S a.Join, S a.Public, S a.Name, .d (Sl eS a.Tags), I a.Until, I a.Uses, B a.Ready], .box 37 [I b.At, S b.Server, I b.No, I b.Kind, S b.By, S b.Node, S b.Join, S b.Public, S b.Name, .d (Sl eS b.Tags), I b.Until, I b.Uses, B b.Ready]] ?_ ?_
                  · refine eo_gsplit rfl rfl (fun hb => ?_) (fun hb => ?_)
                    · refine go_ops hΓ 7 rfl ?_
                      exact ⟨⟨rfl, rfl, rfl, get_b rfl (and_t hb), trivial⟩, [], rfl, .inl rfl⟩
                    · refine go_ops hΓ 7 rfl ?_
                      exact ⟨⟨rfl, rfl, rfl, get_b rfl (and_f hb), trivial⟩, [], rfl, .inl rfl⟩
                  · refine go_ops hΓ 1 rfl ?_
                    refine o_cut 6 [(2, .ptr 0 0), (3, .ptr 1 0), (4, B false), (78, B (((((((((((a.At : Int) == b.At) && ((a.Server : Str) == b.Server)) && ((a.No : Int) == b.No)) && ((a.Kind : Int) == b.Kind)) && ((a.By : Str) == b.By)) && ((a.Node : Str) == b.Node)) && ((a.Join : Str) == b.Join)) && ((a.Public : Str) == b.Public)) && ((a.Name : Str) == b.Name)) && ((a.Until : Int) == b.Until)))] [.box 37 [I a.At, S a.Server, I a.No, I a.Kind, S a.By, S a.Node, S a.Join, S a.Public, S a.Name, .d (Sl eS a.Tags), I a.Until, I a.Uses, B a.Ready], .box 37 [I b.At, S b.Server, I b.No, I b.Kind, S b.By, S b.Node, S b.Join, S b.Public, S b.Name, .d (Sl eS b.Tags), I b.Until, I b.Uses, B b.Ready]] ?_ ?_
                    · refine eo_gsplit rfl rfl (fun hb => ?_) (fun hb => ?_)
                      · refine go_ops hΓ 7 rfl ?_
                        exact ⟨⟨rfl, rfl, rfl, get_b rfl (and_t hb), trivial⟩, [], rfl, .inl rfl⟩
                      · refine go_ops hΓ 7 rfl ?_
                        exact ⟨⟨rfl, rfl, rfl, get_b rfl (and_f hb), trivial⟩, [], rfl, .inl rfl⟩
                    · refine go_ops hΓ 1 rfl ?_
                      refine o_cut 6 [(2, .ptr 0 0), (3, .ptr 1 0), (4, B false), (85, B ((((((((((((a.At : Int) == b.At) && ((a.Server : Str) == b.Server)) && ((a.No : Int) == b.No)) && ((a.Kind : Int) == b.Kind)) && ((a.By : Str) == b.By)) && ((a.Node : Str) == b.Node)) && ((a.Join : Str) == b.Join)) && ((a.Public : Str) == b.Public)) && ((a.Name : Str) == b.Name)) && ((a.Until : Int) == b.Until)) && ((a.Uses : Int) == b.Uses)))] [.box 37 [I a.At, S a.Server, I a.No, I a.Kind, S a.By, S a.Node, S a.Join, S a.Public, S a.Name, .d (Sl eS a.Tags), I a.Until, I a.Uses, B a.Ready], .box 37 [I b.At, S b.Server, I b.No, I b.Kind, S b.By, S b.Node, S b.Join, S b.Public, S b.Name, .d (Sl eS b.Tags), I b.Until, I b.Uses, B b.Ready]] ?_ ?_
                      · refine eo_gsplit rfl rfl (fun hb => ?_) (fun hb => ?_)
                        · refine go_ops hΓ 7 rfl ?_
                          exact ⟨⟨rfl, rfl, rfl, get_b rfl (and_t hb), trivial⟩, [], rfl, .inl rfl⟩
                        · refine go_ops hΓ 7 rfl ?_
                          exact ⟨⟨rfl, rfl, rfl, get_b rfl (and_f hb), trivial⟩, [], rfl, .inl rfl⟩
                      · refine go_ops hΓ 1 rfl ?_
                        refine o_cut 6 [(4, B false), (92, B (((((((((((((a.At : Int) == b.At) && ((a.Server : Str) == b.Server)) && ((a.No : Int) == b.No)) && ((a.Kind : Int) == b.Kind)) && ((a.By : Str) == b.By)) && ((a.Node : Str) == b.Node)) && ((a.Join : Str) == b.Join)) && ((a.Public : Str) == b.Public)) && ((a.Name : Str) == b.Name)) && ((a.Until : Int) == b.Until)) && ((a.Uses : Int) == b.Uses)) && ((a.Ready : Bool) == b.Ready)))] [.box 37 [I a.At, S a.Server, I a.No, I a.Kind, S a.By, S a.Node, S a.Join, S a.Public, S a.Name, .d (Sl eS a.Tags), I a.Until, I a.Uses, B a.Ready], .box 37 [I b.At, S b.Server, I b.No, I b.Kind, S b.By, S b.Node, S b.Join, S b.Public, S b.Name, .d (Sl eS b.Tags), I b.Until, I b.Uses, B b.Ready]] ?_ ?_
                        · refine eo_gsplit rfl rfl (fun hb => ?_) (fun hb => ?_)
                          · refine go_ops hΓ 7 rfl ?_
                            exact ⟨⟨rfl, get_b rfl (and_t hb), trivial⟩, [], rfl, .inl rfl⟩
                          · refine go_ops hΓ 7 rfl ?_
                            exact ⟨⟨rfl, get_b rfl (and_f hb), trivial⟩, [], rfl, .inl rfl⟩
                        · refine go_ops hΓ 4 rfl ?_
                          obtain rfl := Option.some.inj h4
                          exact fin_pure hΓ (.inr rfl) rfl rfl
theorem c_slices_pdqsortCmpFunc_api_Step_2 {k : Nat} {data : List T_api_Step} {a : Int} {b : Int} {limit : Int} {r : List T_api_Step} (h : m_slices_pdqsortCmpFunc_api_Step_2 k data a b limit = some r) : EC Tryz.prog 214 [.sl 0 data.length, I a, I b, I limit, .fn (.func 96) [] []] [.row 37 13 data.length (data.flatMap e_api_Step)] fun g hp' => g = .tup [] ∧ hp' = [.row 37 13 r.length (r.flatMap e_api_Step)] := by
  refine ec_enter (Fr.of 0 _) Tryz.func214 rfl (Fr.of_ok _) (Nat.le_of_ble_eq_true rfl) fun _ => ?_
  refine go_in ?_
  unfold m_slices_pdqsortCmpFunc_api_Step_2 at h
  refine go hΓ 10 rfl ?_
  obtain ⟨q4, hq4, h5⟩ := bi_ok h
  refine go hΓ 1 rfl ?_
  refine j_loop hq4 (fun s2 => [(0, .sl 0 data.length), (1, I a), (2, I b), (3, I limit), (4, .fn (.func 96) [] []), (10, B true), (11, B true)]) (fun s2 => [.row 37 13 data.length (data.flatMap e_api_Step)]) ⟨⟨rfl, rfl, rfl, rfl, rfl, rfl, rfl, trivial⟩, [], rfl, .inl rfl⟩ (fun s2 y10 hy8 hout9 => ?_)
  refine go hΓ 16 rfl ?_
  refine j_cond rfl (fun hb => ?_) (fun hb => ?_)
  · have h11 := cT hy8 hb
    obtain ⟨y12, hy12, h13⟩ := bi_ok h11
    refine go hΓ 6 rfl ?_
    refine eo_callF [0] (.tup []) [.row 37 13 y12.length (y12.flatMap e_api_Step)] (callable Tryz.func280 rfl rfl) (c_slices_insertionSortCmpFunc_api_Step hy12) rfl (Nat.le_of_ble_eq_true rfl) rfl rfl rfl rfl rfl rfl rfl rfl rfl rfl ?_
    refine go_ops hΓ 5 rfl ?_
    obtain ⟨v14, hv14, h15⟩ := bi_ok h13
    obtain rfl := Option.some.inj h15
    obtain rfl := hout9 _ rfl
    obtain rfl := Option.some.inj h5
    refine go hΓ 2 rfl ?_
    obtain rfl := Option.some.inj hv14
    exact fin_objs hΓ [] (.inr rfl) rfl rfl rfl rfl (.inl rfl)
  · have h16 := cF hy8 hb
    refine go hΓ 9 rfl ?_
    refine j_cond rfl (fun hb => ?_) (fun hb => ?_)
    · have h17 := cT h16 hb
      refine go hΓ 6 rfl ?_
      cases h17
    · have h18 := cF h16 hb
      refine go hΓ 18 rfl ?_
      cases h18
theorem c_slices_SortFunc_api_Step_api_Step_2 {k : Nat} {x : List T_api_Step} {r : List T_api_Step} (h : m_slices_SortFunc_api_Step_api_Step_2 k x = some r) : EC Tryz.prog 112 [.sl 0 x.length, .fn (.func 96) [] []] [.row 37 13 x.length (x.flatMap e_api_Step)] fun g hp' => g = .tup [] ∧ hp' = [.row 37 13 r.length (r.flatMap e_api_Step)] := by
  refine ec_enter (Fr.of 0 _) Tryz.func112 rfl (Fr.of_ok _) (Nat.le_of_ble_eq_true rfl) fun _ => ?_
  refine go_in ?_
  unfold m_slices_SortFunc_api_Step_api_Step_2 at h
  obtain ⟨y1, hy1, h2⟩ := bi_ok h
  refine go hΓ 12 rfl ?_
  refine eo_callP (callable Tryz.func215 rfl rfl) (c_math_bits_Len hy1) rfl (Nat.le_of_ble_eq_true rfl) rfl rfl rfl rfl rfl ?_
  obtain ⟨y3, hy3, h4⟩ := bi_ok h2
  refine go_ops hΓ 1 rfl ?_
  refine eo_callF [0] (.tup []) [.row 37 13 y3.length (y3.flatMap e_api_Step)] (callable Tryz.func214 rfl rfl) (c_slices_pdqsortCmpFunc_api_Step_2 hy3) rfl (Nat.le_of_ble_eq_true rfl) rfl rfl rfl rfl rfl rfl rfl rfl rfl rfl ?_
  refine go_ops hΓ 1 rfl ?_
  obtain rfl := Option.some.inj h4
  exact fin_objs hΓ [] (.inl rfl) rfl rfl rfl rfl (.inl rfl)
set_option maxHeartbeats 8000000 in
theorem c_laneref1_StepsMerged {k : Nat} {a : List T_api_Step} {b : List T_api_Step} {r : (List T_api_Step) × Int} (h : m_laneref1_StepsMerged k a b = some r) : Pure Tryz.prog 35 [.d (Sl e_api_Step a), .d (Sl e_api_Step b)] (.tup [.d (Sl e_api_Step r.1), I r.2]) := by
  refine Pure.enter (Fr.of 0 _) Tryz.func35 rfl (Fr.of_ok _) rfl rfl ?_
  refine go_in ?_
  unfold m_laneref1_StepsMerged at h
  obtain ⟨y1, hy1, h2⟩ := bi_ok h
  refine go hΓ 9 rfl ?_
  refine eo_callF [] (.sl 0 y1.length) [.row 37 13 y1.length (y1.flatMap e_api_Step)] (callable Tryz.func25 rfl rfl) (c_slices_Clone_api_Step_api_Step hy1) rfl (Nat.le_of_ble_eq_true rfl) rfl rfl rfl rfl rfl rfl rfl rfl rfl rfl ?_
  refine go_ops hΓ 11 rfl ?_
  obtain ⟨q6, hq6, h7⟩ := bi_ok h2
  refine j_bound 12 rfl fun hb9 => ?_
  refine j_cutEZ (R := fun a8 => q6 = .go a8) (fun a8 => [(6, .sl 0 a8.length)]) (fun a8 => [.row 37 13 a8.length (a8.flatMap e_api_Step)]) ?_ ?_
  · refine go hΓ 1 rfl ?_
    refine j_range b hq6 (fun i3 s4 => [(6, .sl 0 s4.length), (12, .d (Sl e_api_Step b)), (13, I (b.length : Int)), (14, I (i3 : Int))]) (fun s4 => [.row 37 13 s4.length (s4.flatMap e_api_Step)]) ⟨⟨rfl, rfl, rfl, rfl, trivial⟩, [], rfl, .inl rfl⟩ (fun i3 x5 s4 y13 hx10 hlt hy11 hout12 => ?_) (fun s4 hgo => ?_)
    · refine go hΓ 6 rfl ?_
      refine j_condT rfl (decide_eq_true (Int.ofNat_lt.2 hlt)) ?_
      refine go hΓ 6 rfl ?_
      refine eo_o rfl (op_elemZ hΓ (enc := e_api_Step) (getZ_nat hx10) rfl rfl rfl rfl rfl (fun _ => rfl)) ?_
      refine go_ops hΓ 1 rfl ?_
      refine eo_alloc hΓ rfl rfl rfl (Nat.le_of_ble_eq_true rfl) ?_
      refine eo_store hΓ rfl rfl rfl rfl rfl rfl rfl rfl (Nat.le_of_ble_eq_true rfl) ?_
      refine eo_hp [.row 37 13 s4.length (s4.flatMap e_api_Step), .box 37 [I x5.At, S x5.Server, I x5.No, I x5.Kind, S x5.By, S x5.Node, S x5.Join, S x5.Public, S x5.Name, .d (Sl eS x5.Tags), I x5.Until, I x5.Uses, B x5.Ready]] rfl ?_
      obtain ⟨y14, hy14, h15⟩ := bi_ok hy11
      refine go_ops hΓ 6 rfl ?_
      refine eo_callF [0, 1] (I y14) [.row 37 13 s4.length (s4.flatMap e_api_Step), .box 37 [I x5.At, S x5.Server, I x5.No, I x5.Kind, S x5.By, S x5.Node, S x5.Join, S x5.Public, S x5.Name, .d (Sl eS x5.Tags), I x5.Until, I x5.Uses, B x5.Ready]] (callable Tryz.func114 rfl rfl) (c_slices_IndexFunc_api_Step_api_Step_2 hy14) rfl (Nat.le_of_ble_eq_true rfl) rfl rfl rfl rfl rfl rfl rfl rfl rfl rfl ?_
      refine go_ops hΓ 11 rfl ?_
      refine j_cond rfl (fun hb => ?_) (fun hb => ?_)
      · have h16 := cT h15 hb
        refine go hΓ 3 rfl ?_
        refine eo_litT hΓ (enc := e_api_Step) [x5] rfl rfl rfl rfl rfl rfl rfl rfl rfl rfl rfl rfl (Nat.le_of_ble_eq_true rfl) ?_
        obtain ⟨y17, hy17, h18⟩ := bi_ok h16
        refine eo_appendT hΓ (enc := e_api_Step) hy17 rfl rfl rfl rfl rfl rfl rfl rfl rfl (fun _ => rfl) rfl rfl rfl rfl ?_
        refine go_ops hΓ 9 rfl ?_
        obtain rfl := Option.some.inj h18
        exact ⟨_, rfl, ⟨⟨rfl, rfl, rfl, get_eq rfl (w64_succ (Nat.lt_of_lt_of_le hlt hb9)), trivial⟩, [_], rfl, .inr ⟨HB.mk rfl, FB.mk rfl, (Nat.le_of_ble_eq_true rfl)⟩⟩⟩
      · have h19 := cF h15 hb
        refine go hΓ 1 rfl ?_
        refine j_draw hmix (by kernel_rfl) ?_
        obtain ⟨x20, hx20, h21⟩ := bi_ok h19
        have hj22 := getZ_at hx20
        refine go hΓ 2 rfl ?_
        refine gl_o rfl (op_elemRowZ hΓ hx20 rfl rfl rfl rfl rfl rfl) ?_
        refine gl_o rfl (op_loadRowZ hΓ (enc := e_api_Step) y14.toNat 0 hj22 rfl rfl rfl rfl (fun _ => rfl) (g := .agg [I x20.At, S x20.Server, I x20.No, I x20.Kind, S x20.By, S x20.Node, S x20.Join, S x20.Public, S x20.Name, .d (Sl eS x20.Tags), I x20.Until, I x20.Uses, B x20.Ready]) rfl) ?_
        obtain ⟨y23, hy23, h24⟩ := bi_ok h21
        refine go_draw hΓ 1 rfl ?_
        refine gl_callP (callable Tryz.func116 rfl rfl) (c_laneref1_SameStep hy23) rfl rfl rfl rfl rfl rfl ?_
        refine go_draw hΓ 4 rfl ?_
        refine j_cond rfl (fun hb => ?_) (fun hb => ?_)
        · have h25 := cT h24 hb
          refine go hΓ 10 rfl ?_
          obtain ⟨v26, hv26, h27⟩ := bi_ok h25
          obtain rfl := Option.some.inj h27
          obtain rfl := hout12 _ rfl
          obtain rfl := Option.some.inj h7
          refine go hΓ 4 rfl ?_
          obtain rfl := Option.some.inj hv26
          exact fin_pure hΓ (.inr rfl) rfl rfl
        · have h28 := cF h24 hb
          refine go hΓ 8 rfl ?_
          obtain rfl := Option.some.inj h28
          exact ⟨_, rfl, ⟨⟨rfl, rfl, rfl, get_eq rfl (w64_succ (Nat.lt_of_lt_of_le hlt hb9)), trivial⟩, [_], rfl, .inr ⟨HB.mk rfl, FB.mk rfl, (Nat.le_of_ble_eq_true rfl)⟩⟩⟩
    · subst hgo
      refine go hΓ 6 rfl ?_
      refine j_condF rfl (decide_eq_false (Int.lt_irrefl _)) ?_
      refine go hΓ 4 rfl ?_
      exact ⟨_, rfl, ⟨⟨rfl, trivial⟩, [], rfl, .inl rfl⟩⟩
  · intro a8 ha
    subst ha
    replace h7 := goI_l h7
    refine go hΓ 9 rfl ?_
    refine j_cond rfl (fun hb => ?_) (fun hb => ?_)
    · have h29 := cT h7 hb
      refine go hΓ 8 rfl ?_
      obtain rfl := Option.some.inj h29
      exact fin_pure hΓ (.inr rfl) rfl rfl
    · have h30 := cF h7 hb
      obtain ⟨y31, hy31, h32⟩ := bi_ok h30
      refine go hΓ 5 rfl ?_
      refine eo_callF [0] (.tup []) [.row 37 13 y31.length (y31.flatMap e_api_Step)] (callable Tryz.func112 rfl rfl) (c_slices_SortFunc_api_Step_api_Step_2 hy31) rfl (Nat.le_of_ble_eq_true rfl) rfl rfl rfl rfl rfl rfl rfl rfl rfl rfl ?_
      obtain ⟨hg34, h33⟩ := gd_ok h32
      refine eo_relen 6 rfl (of_decide_eq_true hg34).symm ?_
      refine go_ops hΓ 6 rfl ?_
      refine eo_shr 0 [4, 6, 42] _ [.dead] rfl rfl rfl (Nat.le_of_ble_eq_true rfl) ?_
      refine go_ops hΓ 4 rfl ?_
      obtain rfl := Option.some.inj h33
      exact fin_pure hΓ (.inr rfl) rfl rfl
theorem c_slices_EqualFunc_api_Step_api_Step_api_Step_api_Step {s1 : List T_api_Step} {s2 : List T_api_Step} {r : Bool} (h : m_slices_EqualFunc_api_Step_api_Step_api_Step_api_Step s1 s2 = some r) : Pure Tryz.prog 117 [.d (Sl e_api_Step s1), .d (Sl e_api_Step s2), .fn (.func 116) [] []] (B r) := by
  refine Pure.enter (Fr.of 0 _) Tryz.func117 rfl (Fr.of_ok _) rfl rfl ?_
  refine go_in ?_
  unfold m_slices_EqualFunc_api_Step_api_Step_api_Step_api_Step at h
  refine go hΓ 15 rfl ?_
  refine j_cond rfl (fun hb => ?_) (fun hb => ?_)
  · have h1 := cT h hb
    refine go hΓ 7 rfl ?_
    obtain rfl := Option.some.inj h1
    exact fin_pure hΓ (.inr rfl) rfl rfl
  · have h2 := cF h hb
    refine go hΓ 10 rfl ?_
    obtain ⟨q6, hq6, h7⟩ := bi_ok h2
    refine j_bound 15 rfl fun hb9 => ?_
    refine j_cutEZ (R := fun a8 => q6 = .go a8) (fun a8 => []) (fun a8 => []) ?_ ?_
    · refine go hΓ 1 rfl ?_
      refine j_range s1 hq6 (fun i3 s4 => [(1, .d (Sl e_api_Step s2)), (2, .fn (.func 116) [] []), (15, .d (Sl e_api_Step s1)), (16, I (s1.length : Int)), (17, I (i3 : Int))]) (fun s4 => []) ⟨⟨rfl, rfl, rfl, rfl, rfl, trivial⟩, [], rfl, .inl rfl⟩ (fun i3 x5 s4 y13 hx10 hlt hy11 hout12 => ?_) (fun s4 hgo => ?_)
      · refine go hΓ 6 rfl ?_
        refine j_condT rfl (decide_eq_true (Int.ofNat_lt.2 hlt)) ?_
        refine go hΓ 7 rfl ?_
        refine eo_o rfl (op_elemZ hΓ (enc := e_api_Step) (getZ_nat hx10) rfl rfl rfl rfl rfl (fun _ => rfl)) ?_
        refine go_ops hΓ 1 rfl ?_
        refine eo_alloc hΓ rfl rfl rfl (Nat.le_of_ble_eq_true rfl) ?_
        refine go_ops hΓ 1 rfl ?_
        refine eo_store hΓ rfl rfl rfl rfl rfl rfl rfl rfl (Nat.le_of_ble_eq_true rfl) ?_
        refine eo_hp [.box 37 [I x5.At, S x5.Server, I x5.No, I x5.Kind, S x5.By, S x5.Node, S x5.Join, S x5.Public, S x5.Name, .d (Sl eS x5.Tags), I x5.Until, I x5.Uses, B x5.Ready]] rfl ?_
        obtain ⟨x14, hx14, h15⟩ := bi_ok hy11
        refine go_ops hΓ 6 rfl ?_
        refine eo_o rfl (op_elemZ hΓ (enc := e_api_Step) hx14 rfl rfl rfl rfl rfl (fun _ => rfl)) ?_
        refine go_ops hΓ 1 rfl ?_
        refine eo_alloc hΓ rfl rfl rfl (Nat.le_of_ble_eq_true rfl) ?_
        refine eo_store hΓ rfl rfl rfl rfl rfl rfl rfl rfl (Nat.le_of_ble_eq_true rfl) ?_
        refine eo_hp [.box 37 [I x5.At, S x5.Server, I x5.No, I x5.Kind, S x5.By, S x5.Node, S x5.Join, S x5.Public, S x5.Name, .d (Sl eS x5.Tags), I x5.Until, I x5.Uses, B x5.Ready], .box 37 [I x14.At, S x14.Server, I x14.No, I x14.Kind, S x14.By, S x14.Node, S x14.Join, S x14.Public, S x14.Name, .d (Sl eS x14.Tags), I x14.Until, I x14.Uses, B x14.Ready]] rfl ?_
        obtain ⟨y16, hy16, h17⟩ := bi_ok h15
        refine go_ops hΓ 7 rfl ?_
        refine eo_callP (callable Tryz.func116 rfl rfl) (c_laneref1_SameStep hy16) rfl (Nat.le_of_ble_eq_true rfl) rfl rfl rfl rfl rfl ?_
        refine go_ops hΓ 3 rfl ?_
        refine j_cond rfl (fun hb => ?_) (fun hb => ?_)
        · have h18 := cT h17 hb
          refine go hΓ 8 rfl ?_
          obtain ⟨v19, hv19, h20⟩ := bi_ok h18
          obtain rfl := Option.some.inj h20
          obtain rfl := hout12 _ rfl
          obtain rfl := Option.some.inj h7
          refine go hΓ 4 rfl ?_
          obtain rfl := Option.some.inj hv19
          exact fin_pure hΓ (.inr rfl) rfl rfl
        · have h21 := cF h17 hb
          refine go hΓ 7 rfl ?_
          obtain rfl := Option.some.inj h21
          exact ⟨_, rfl, ⟨⟨rfl, rfl, rfl, rfl, get_eq rfl (w64_succ (Nat.lt_of_lt_of_le hlt hb9)), trivial⟩, [_, _], rfl, .inr ⟨HB.mk rfl, FB.mk rfl, (Nat.le_of_ble_eq_true rfl)⟩⟩⟩
      · subst hgo
        refine go hΓ 6 rfl ?_
        refine j_condF rfl (decide_eq_false (Int.lt_irrefl _)) ?_
        refine go hΓ 4 rfl ?_
        exact ⟨_, rfl, ⟨trivial, [], rfl, .inl rfl⟩⟩
    · intro a8 ha
      subst ha
      replace h7 := goI_l h7
      refine go hΓ 7 rfl ?_
      obtain rfl := Option.some.inj h7
      exact fin_pure hΓ (.inr rfl) rfl rfl
theorem c_laneref1_SameSteps {a : List T_api_Step} {b : List T_api_Step} {r : Bool} (h : m_laneref1_SameSteps a b = some r) : Pure Tryz.prog 36 [.d (Sl e_api_Step a), .d (Sl e_api_Step b)] (B r) := by
  refine Pure.enter (Fr.of 0 _) Tryz.func36 rfl (Fr.of_ok _) rfl rfl ?_
  refine go_in ?_
  unfold m_laneref1_SameSteps at h
  obtain ⟨y1, hy1, h2⟩ := bi_ok h
  refine go hΓ 9 rfl ?_
  refine eo_callP (callable Tryz.func117 rfl rfl) (c_slices_EqualFunc_api_Step_api_Step_api_Step_api_Step hy1) rfl (Nat.le_of_ble_eq_true rfl) rfl rfl rfl rfl rfl ?_
  refine go_ops hΓ 4 rfl ?_
  obtain rfl := Option.some.inj h2
  exact fin_pure hΓ (.inr rfl) rfl rfl
set_option maxHeartbeats 8000000 in
theorem c_lanelaw1_StepsCheck {k : Nat} {l : List Int} {r : Bool} (h : m_lanelaw1_StepsCheck k l = some r) : Pure Tryz.prog 4 [.d (Sl (eN .i64) l)] (B r) := by
  refine Pure.enter (Fr.of 0 _) Tryz.func4 rfl (Fr.of_ok _) rfl rfl ?_
  refine go_in ?_
  unfold m_lanelaw1_StepsCheck at h
  refine go hΓ 8 rfl ?_
  refine eo_build hΓ (gs := [.d (Sl (eN .i64) l), I 0]) rfl rfl rfl rfl rfl rfl rfl ?_
  refine eo_box rfl rfl rfl rfl (Nat.le_of_ble_eq_true rfl) ?_
  obtain ⟨y1, hy1, h2⟩ := bi_ok h
  refine go_ops hΓ 7 rfl ?_
  refine eo_callF [0] (I y1.1) [.box 25 [.d (Sl (eN .i64) y1.2.L), I y1.2.v_at]] (callable Tryz.func11 rfl rfl) (c_lanemake_Stream_Range hy1) rfl (Nat.le_of_ble_eq_true rfl) rfl rfl rfl rfl rfl rfl rfl rfl rfl rfl ?_
  obtain ⟨y3, hy3, h4⟩ := bi_ok h2
  refine eo_callF [0] (.agg [.d (Sl eS y3.1.d.Users), .d (Sl e_api_Owner y3.1.d.Owners), I y3.1.d.Life, B y3.1.d.Approve, .d (Sl e_api_Step y3.1.l), I y3.1.fault]) [.box 25 [.d (Sl (eN .i64) y3.2.L), I y3.2.v_at]] (callable Tryz.func10 rfl rfl) (c_lanelaw1_yardOf hy3) rfl (Nat.le_of_ble_eq_true rfl) rfl rfl rfl rfl rfl rfl rfl rfl rfl rfl ?_
  obtain ⟨y5, hy5, h6⟩ := bi_ok h4
  refine go_ops hΓ 1 rfl ?_
  refine eo_callF [0] (S y5.1) [.box 25 [.d (Sl (eN .i64) y5.2.L), I y5.2.v_at]] (callable Tryz.func21 rfl rfl) (c_lanemake_Stream_User hy5) rfl (Nat.le_of_ble_eq_true rfl) rfl rfl rfl rfl rfl rfl rfl rfl rfl rfl ?_
  refine go_ops hΓ 1 rfl ?_
  refine eo_litT hΓ (enc := eS) [[119, 101, 98], [100, 98], [110, 111, 110, 101]] rfl rfl rfl rfl rfl rfl rfl rfl rfl rfl rfl rfl (Nat.le_of_ble_eq_true rfl) ?_
  obtain ⟨y7, hy7, h8⟩ := bi_ok h6
  refine eo_callF [0] (S y7.1) [.box 25 [.d (Sl (eN .i64) y7.2.L), I y7.2.v_at]] (callable Tryz.func22 rfl rfl) (c_lanemake_Stream_Some hy7) rfl (Nat.le_of_ble_eq_true rfl) rfl rfl rfl rfl rfl rfl rfl rfl rfl rfl ?_
  refine eo_alloc hΓ rfl rfl rfl (Nat.le_of_ble_eq_true rfl) ?_
  refine eo_store hΓ rfl rfl rfl rfl rfl rfl rfl rfl (Nat.le_of_ble_eq_true rfl) ?_
  refine eo_hp [.box 25 [.d (Sl (eN .i64) y7.2.L), I y7.2.v_at], .box 33 [.d (Sl eS y3.1.d.Users), .d (Sl e_api_Owner y3.1.d.Owners), I y3.1.d.Life, B y3.1.d.Approve, .d (Sl e_api_Step y3.1.l), I y3.1.fault]] rfl ?_
  obtain ⟨y9, hy9, h10⟩ := bi_ok h8
  refine go_ops hΓ 8 rfl ?_
  refine eo_callF [0] (I y9.1) [.box 25 [.d (Sl (eN .i64) y9.2.L), I y9.2.v_at], .box 33 [.d (Sl eS y3.1.d.Users), .d (Sl e_api_Owner y3.1.d.Owners), I y3.1.d.Life, B y3.1.d.Approve, .d (Sl e_api_Step y3.1.l), I y3.1.fault]] (callable Tryz.func11 rfl rfl) (c_lanemake_Stream_Range hy9) rfl (Nat.le_of_ble_eq_true rfl) rfl rfl rfl rfl rfl rfl rfl rfl rfl rfl ?_
  obtain ⟨y11, hy11, h12⟩ := bi_ok h10
  refine eo_callF [0] (.sl 2 y11.1.length) [.box 25 [.d (Sl (eN .i64) y11.2.L), I y11.2.v_at], .box 33 [.d (Sl eS y3.1.d.Users), .d (Sl e_api_Owner y3.1.d.Owners), I y3.1.d.Life, B y3.1.d.Approve, .d (Sl e_api_Step y3.1.l), I y3.1.fault], .row 37 13 y11.1.length (y11.1.flatMap e_api_Step)] (callable Tryz.func23 rfl rfl) (c_lanemake_Stream_Steps hy11) rfl (Nat.le_of_ble_eq_true rfl) rfl rfl rfl rfl rfl rfl rfl rfl rfl rfl ?_
  refine go_ops hΓ 11 rfl ?_
  obtain ⟨q13, hq13, h14⟩ := bi_ok h12
  refine o_cut 3 [(3, .ptr 0 0), (4, .ptr 1 0), (5, S y5.1), (6, S y7.1), (7, .sl 2 y11.1.length), (40, B q13.2)] [.box 25 [.d (Sl (eN .i64) q13.1.L), I q13.1.v_at], .box 33 [.d (Sl eS y3.1.d.Users), .d (Sl e_api_Owner y3.1.d.Owners), I y3.1.d.Life, B y3.1.d.Approve, .d (Sl e_api_Step y3.1.l), I y3.1.fault], .row 37 13 y11.1.length (y11.1.flatMap e_api_Step)] ?_ ?_
  · refine eo_gsplit rfl rfl (fun hb => ?_) (fun hb => ?_)
    · have h15 := cT hq13 hb
      obtain ⟨y16, hy16, h17⟩ := bi_ok h15
      refine go_ops hΓ 1 rfl ?_
      refine eo_guard rfl ?_
      refine eo_callF [0] (B y16.1) [.box 25 [.d (Sl (eN .i64) y16.2.L), I y16.2.v_at], .box 33 [.d (Sl eS y3.1.d.Users), .d (Sl e_api_Owner y3.1.d.Owners), I y3.1.d.Life, B y3.1.d.Approve, .d (Sl e_api_Step y3.1.l), I y3.1.fault], .row 37 13 y11.1.length (y11.1.flatMap e_api_Step)] (callable Tryz.func24 rfl rfl) (c_lanemake_Stream_Flip hy16) rfl (Nat.le_of_ble_eq_true rfl) rfl rfl rfl rfl rfl rfl rfl rfl rfl rfl ?_
      refine go_ops hΓ 2 rfl ?_
      obtain rfl := Option.some.inj h17
      exact ⟨⟨rfl, rfl, rfl, rfl, rfl, rfl, trivial⟩, [], rfl, .inl rfl⟩
    · have h18 := cF hq13 hb
      refine go_ops hΓ 4 rfl ?_
      obtain rfl := Option.some.inj h18
      exact ⟨⟨rfl, rfl, rfl, rfl, rfl, rfl, trivial⟩, [], rfl, .inl rfl⟩
  · obtain ⟨q19, hq19, h20⟩ := bi_ok h14
    refine go_ops hΓ 2 rfl ?_
    refine j_cutNZ [(4, .ptr 1 0), (5, S y5.1), (6, S y7.1), (7, .sl 2 q19.2.length)] [.box 25 [.d (Sl (eN .i64) q19.1.L), I q19.1.v_at], .box 33 [.d (Sl eS y3.1.d.Users), .d (Sl e_api_Owner y3.1.d.Owners), I y3.1.d.Life, B y3.1.d.Approve, .d (Sl e_api_Step y3.1.l), I y3.1.fault], .row 37 13 q19.2.length (q19.2.flatMap e_api_Step)] ?_ ?_
    · refine j_cond rfl (fun hb => ?_) (fun hb => ?_)
      · have h21 := cT hq19 hb
        refine go hΓ 1 rfl ?_
        refine j_drawE [.dead, .box 33 [.d (Sl eS y3.1.d.Users), .d (Sl e_api_Owner y3.1.d.Owners), I y3.1.d.Life, B y3.1.d.Approve, .d (Sl e_api_Step y3.1.l), I y3.1.fault]] [1, 4] [6, 8] [] hmix (by kernel_rfl) (by kernel_rfl) ⟨rfl, trivial⟩ (Nat.le_of_ble_eq_true rfl) ?_
        obtain ⟨y22, hy22, h23⟩ := bi_ok h21
        refine go_E hΓ 6 rfl ?_
        refine ge_h [.box 25 [.d (Sl (eN .i64) y22.2.L), I y22.2.v_at], .box 33 [.d (Sl eS y3.1.d.Users), .d (Sl e_api_Owner y3.1.d.Owners), I y3.1.d.Life, B y3.1.d.Approve, .d (Sl e_api_Step y3.1.l), I y3.1.fault], .row 37 13 y11.1.length (y11.1.flatMap e_api_Step)] rfl rfl rfl (st_st ⟨rfl, trivial⟩) (qte_callF [0] (I y22.1) [.box 25 [.d (Sl (eN .i64) y22.2.L), I y22.2.v_at], .box 33 [.d (Sl eS y3.1.d.Users), .d (Sl e_api_Owner y3.1.d.Owners), I y3.1.d.Life, B y3.1.d.Approve, .d (Sl e_api_Step y3.1.l), I y3.1.fault], .row 37 13 y11.1.length (y11.1.flatMap e_api_Step)] (callable Tryz.func26 rfl rfl) (c_lanemake_Stream_Next hy22) rfl rfl rfl rfl rfl rfl rfl rfl rfl rfl) ?_
        obtain ⟨z24, hz24, h25⟩ := bi_ok h23
        refine ge_q rfl (.inl rfl) (fun _ _ => qte_of_qt (qt_p (op_subRoZ hΓ (enc := e_api_Step) hz24 rfl rfl rfl rfl rfl rfl (fun _ => rfl)))) ?_
        obtain ⟨y26, hy26, h27⟩ := bi_ok h25
        refine ge_h [.box 25 [.d (Sl (eN .i64) y22.2.L), I y22.2.v_at], .box 33 [.d (Sl eS y3.1.d.Users), .d (Sl e_api_Owner y3.1.d.Owners), I y3.1.d.Life, B y3.1.d.Approve, .d (Sl e_api_Step y3.1.l), I y3.1.fault], .row 37 13 y11.1.length (y11.1.flatMap e_api_Step), .row 37 13 y26.length (y26.flatMap e_api_Step)] rfl rfl rfl (st_st ⟨rfl, trivial⟩) (qte_callF [] (.sl 3 y26.length) [.box 25 [.d (Sl (eN .i64) y22.2.L), I y22.2.v_at], .box 33 [.d (Sl eS y3.1.d.Users), .d (Sl e_api_Owner y3.1.d.Owners), I y3.1.d.Life, B y3.1.d.Approve, .d (Sl e_api_Step y3.1.l), I y3.1.fault], .row 37 13 y11.1.length (y11.1.flatMap e_api_Step), .row 37 13 y26.length (y26.flatMap e_api_Step)] (callable Tryz.func25 rfl rfl) (c_slices_Clone_api_Step_api_Step hy26) rfl rfl rfl rfl rfl rfl rfl rfl rfl rfl) ?_
        refine go_E hΓ 1 rfl ?_
        refine ge_fin ?_
        refine go hΓ 1 rfl ?_
        refine j_kill 2 [.box 25 [.d (Sl (eN .i64) y22.2.L), I y22.2.v_at], .box 33 [.d (Sl eS y3.1.d.Users), .d (Sl e_api_Owner y3.1.d.Owners), I y3.1.d.Life, B y3.1.d.Approve, .d (Sl e_api_Step y3.1.l), I y3.1.fault], .dead, .row 37 13 y26.length (y26.flatMap e_api_Step)] rfl (Nat.le_of_ble_eq_true rfl) ?_
        refine j_move 3 2 [.box 25 [.d (Sl (eN .i64) y22.2.L), I y22.2.v_at], .box 33 [.d (Sl eS y3.1.d.Users), .d (Sl e_api_Owner y3.1.d.Owners), I y3.1.d.Life, B y3.1.d.Approve, .d (Sl e_api_Step y3.1.l), I y3.1.fault], .row 37 13 y26.length (y26.flatMap e_api_Step), .dead] rfl rfl rfl rfl rfl rfl ?_
        obtain ⟨y28, hy28, h29⟩ := bi_ok h27
        refine go hΓ 3 rfl ?_
        refine eo_callF [0] (B y28.1) [.box 25 [.d (Sl (eN .i64) y28.2.L), I y28.2.v_at], .box 33 [.d (Sl eS y3.1.d.Users), .d (Sl e_api_Owner y3.1.d.Owners), I y3.1.d.Life, B y3.1.d.Approve, .d (Sl e_api_Step y3.1.l), I y3.1.fault], .row 37 13 y26.length (y26.flatMap e_api_Step), .dead] (callable Tryz.func24 rfl rfl) (c_lanemake_Stream_Flip hy28) rfl (Nat.le_of_ble_eq_true rfl) rfl rfl rfl rfl rfl rfl rfl rfl rfl rfl ?_
        refine go_ops hΓ 2 rfl ?_
        refine j_cond rfl (fun hb => ?_) (fun hb => ?_)
        · have h30 := cT h29 hb
          obtain ⟨x31, hx31, h32⟩ := bi_ok h30
          have hj33 := getZ_at hx31
          refine go hΓ 3 rfl ?_
          refine eo_o rfl (op_elemRowZ hΓ hx31 rfl rfl rfl rfl rfl rfl) ?_
          refine go_ops hΓ 1 rfl ?_
          refine eo_o rfl (op_loadRowZ hΓ (enc := e_api_Step) ((0 : Int).toNat) 12 hj33 rfl rfl rfl rfl (fun _ => rfl) (g := B x31.Ready) rfl) ?_
          obtain ⟨x34, hx34, h35⟩ := bi_ok h32
          have hj36 := getZ_at hx34
          refine go_ops hΓ 1 rfl ?_
          refine eo_o rfl (op_elemRowZ hΓ hx34 rfl rfl rfl rfl rfl rfl) ?_
          refine go_ops hΓ 1 rfl ?_
          refine eo_storeRowZ hΓ (enc := e_api_Step) (z' := (⟨x34.At, x34.Server, x34.No, x34.Kind, x34.By, x34.Node, x34.Join, x34.Public, x34.Name, x34.Tags, x34.Until, x34.Uses, !x31.Ready⟩ : T_api_Step)) ((0 : Int).toNat) 12 hj36 rfl rfl rfl rfl (fun _ => rfl) rfl rfl rfl rfl rfl rfl (Nat.le_of_ble_eq_true rfl) ?_
          refine eo_hp [.box 25 [.d (Sl (eN .i64) y28.2.L), I y28.2.v_at], .box 33 [.d (Sl eS y3.1.d.Users), .d (Sl e_api_Owner y3.1.d.Owners), I y3.1.d.Life, B y3.1.d.Approve, .d (Sl e_api_Step y3.1.l), I y3.1.fault], .row 37 13 (y26.set ((0 : Int).toNat) (⟨x34.At, x34.Server, x34.No, x34.Kind, x34.By, x34.Node, x34.Join, x34.Public, x34.Name, x34.Tags, x34.Until, x34.Uses, !x31.Ready⟩ : T_api_Step)).length ((y26.set ((0 : Int).toNat) (⟨x34.At, x34.Server, x34.No, x34.Kind, x34.By, x34.Node, x34.Join, x34.Public, x34.Name, x34.Tags, x34.Until, x34.Uses, !x31.Ready⟩ : T_api_Step)).flatMap e_api_Step), .dead] rfl ?_
          refine eo_relen 7 (n' := (y26.set ((0 : Int).toNat) (⟨x34.At, x34.Server, x34.No, x34.Kind, x34.By, x34.Node, x34.Join, x34.Public, x34.Name, x34.Tags, x34.Until, x34.Uses, !x31.Ready⟩ : T_api_Step)).length) rfl List.length_set.symm ?_
          refine go_ops hΓ 1 rfl ?_
          obtain rfl := Option.some.inj h35
          exact ⟨⟨rfl, rfl, rfl, rfl, trivial⟩, [_], rfl, .inr ⟨HB.mk rfl, FB.mk rfl, (Nat.le_of_ble_eq_true rfl)⟩⟩
        · have h37 := cF h29 hb
          refine go hΓ 1 rfl ?_
          obtain rfl := Option.some.inj h37
          exact ⟨⟨rfl, rfl, rfl, rfl, trivial⟩, [_], rfl, .inr ⟨HB.mk rfl, FB.mk rfl, (Nat.le_of_ble_eq_true rfl)⟩⟩
      · have h38 := cF hq19 hb
        refine go hΓ 1 rfl ?_
        obtain rfl := Option.some.inj h38
        exact ⟨⟨rfl, rfl, rfl, rfl, trivial⟩, [], rfl, .inl rfl⟩
    · obtain ⟨y39, hy39, h40⟩ := bi_ok h20
      refine go hΓ 7 rfl ?_
      refine eo_callP (callable Tryz.func27 rfl rfl) (c_node_Owns hy39) rfl (Nat.le_of_ble_eq_true rfl) rfl rfl rfl rfl rfl ?_
      obtain ⟨y41, hy41, h42⟩ := bi_ok h40
      refine go_ops hΓ 11 rfl ?_
      refine eo_callP (callable Tryz.func28 rfl rfl) (c_laneref1_DirectoryFault hy41) rfl (Nat.le_of_ble_eq_true rfl) rfl rfl rfl rfl rfl ?_
      obtain ⟨y43, hy43, h44⟩ := bi_ok h42
      refine go_ops hΓ 13 rfl ?_
      refine eo_callP (callable Tryz.func29 rfl rfl) (c_node_CheckDirectory hy43) rfl (Nat.le_of_ble_eq_true rfl) rfl rfl rfl rfl rfl ?_
      refine go_ops hΓ 4 rfl ?_
      refine j_cond rfl (fun hb => ?_) (fun hb => ?_)
      · have h45 := cT h44 hb
        refine go hΓ 7 rfl ?_
        obtain rfl := Option.some.inj h45
        exact fin_pure hΓ (.inr rfl) rfl rfl
      · have h46 := cF h44 hb
        obtain ⟨q47, hq47, h48⟩ := bi_ok h46
        refine go hΓ 9 rfl ?_
        refine j_cutNZ [(4, .ptr 1 0), (7, .sl 2 q19.2.length), (8, B y39.1), (9, I y39.2), (10, I q47.1), (11, B q47.2)] [.box 25 [.d (Sl (eN .i64) q19.1.L), I q19.1.v_at], .box 33 [.d (Sl eS y3.1.d.Users), .d (Sl e_api_Owner y3.1.d.Owners), I y3.1.d.Life, B y3.1.d.Approve, .d (Sl e_api_Step y3.1.l), I y3.1.fault], .row 37 13 q19.2.length (q19.2.flatMap e_api_Step)] ?_ ?_
        · refine j_cond rfl (fun hb => ?_) (fun hb => ?_)
          · have h49 := cT hq47 hb
            obtain ⟨y50, hy50, h51⟩ := bi_ok h49
            refine go hΓ 5 rfl ?_
            refine eo_callP (callable Tryz.func30 rfl rfl) (c_laneref1_OwnsOf hy50) rfl (Nat.le_of_ble_eq_true rfl) rfl rfl rfl rfl rfl ?_
            refine go_ops hΓ 6 rfl ?_
            obtain rfl := Option.some.inj h51
            exact ⟨⟨rfl, rfl, rfl, rfl, rfl, rfl, trivial⟩, [], rfl, .inl rfl⟩
          · have h52 := cF hq47 hb
            refine go hΓ 1 rfl ?_
            obtain rfl := Option.some.inj h52
            exact ⟨⟨rfl, rfl, rfl, rfl, rfl, rfl, trivial⟩, [], rfl, .inl rfl⟩
        · refine go hΓ 8 rfl ?_
          refine o_cut 4 [(4, .ptr 1 0), (7, .sl 2 q19.2.length), (93, B (((y39.2 : Int) != q47.1) || (!((y39.1 : Bool) == q47.2))))] [.box 25 [.d (Sl (eN .i64) q19.1.L), I q19.1.v_at], .box 33 [.d (Sl eS y3.1.d.Users), .d (Sl e_api_Owner y3.1.d.Owners), I y3.1.d.Life, B y3.1.d.Approve, .d (Sl e_api_Step y3.1.l), I y3.1.fault], .row 37 13 q19.2.length (q19.2.flatMap e_api_Step)] ?_ ?_
          · refine eo_gsplit rfl rfl (fun hb => ?_) (fun hb => ?_)
            · refine go_ops hΓ 5 rfl ?_
              exact ⟨⟨rfl, rfl, get_b rfl (or_t hb), trivial⟩, [], rfl, .inl rfl⟩
            · refine go_ops hΓ 5 rfl ?_
              exact ⟨⟨rfl, rfl, get_b rfl (or_f hb), trivial⟩, [], rfl, .inl rfl⟩
          · refine go_ops hΓ 2 rfl ?_
            refine j_cond rfl (fun hb => ?_) (fun hb => ?_)
            · have h53 := cT h48 hb
              refine go hΓ 7 rfl ?_
              obtain rfl := Option.some.inj h53
              exact fin_pure hΓ (.inr rfl) rfl rfl
            · have h54 := cF h48 hb
              obtain ⟨y55, hy55, h56⟩ := bi_ok h54
              refine go hΓ 7 rfl ?_
              refine eo_shr 2 [7, 97] _ [.box 25 [.d (Sl (eN .i64) q19.1.L), I q19.1.v_at], .box 33 [.d (Sl eS y3.1.d.Users), .d (Sl e_api_Owner y3.1.d.Owners), I y3.1.d.Life, B y3.1.d.Approve, .d (Sl e_api_Step y3.1.l), I y3.1.fault], .dead] rfl rfl rfl (Nat.le_of_ble_eq_true rfl) ?_
              refine eo_callP (callable Tryz.func31 rfl rfl) (c_node_Merge hy55) rfl (Nat.le_of_ble_eq_true rfl) rfl rfl rfl rfl rfl ?_
              obtain ⟨y57, hy57, h58⟩ := bi_ok h56
              refine go_ops hΓ 11 rfl ?_
              refine eo_callP (callable Tryz.func32 rfl rfl) (c_laneref1_StepsFault hy57) rfl (Nat.le_of_ble_eq_true rfl) rfl rfl rfl rfl rfl ?_
              obtain ⟨y59, hy59, h60⟩ := bi_ok h58
              refine go_ops hΓ 8 rfl ?_
              refine eo_callP (callable Tryz.func33 rfl rfl) (c_node_Check hy59) rfl (Nat.le_of_ble_eq_true rfl) rfl rfl rfl rfl rfl ?_
              refine go_ops hΓ 4 rfl ?_
              refine j_cond rfl (fun hb => ?_) (fun hb => ?_)
              · have h61 := cT h60 hb
                refine go hΓ 7 rfl ?_
                obtain rfl := Option.some.inj h61
                exact fin_pure hΓ (.inr rfl) rfl rfl
              · have h62 := cF h60 hb
                obtain ⟨y63, hy63, h64⟩ := bi_ok h62
                refine go hΓ 7 rfl ?_
                refine eo_callP (callable Tryz.func32 rfl rfl) (c_laneref1_StepsFault hy63) rfl (Nat.le_of_ble_eq_true rfl) rfl rfl rfl rfl rfl ?_
                refine eo_litT hΓ (enc := (eN .i64)) [y57, y63] rfl rfl rfl rfl rfl rfl rfl rfl rfl rfl rfl rfl (Nat.le_of_ble_eq_true rfl) ?_
                obtain ⟨y65, hy65, h66⟩ := bi_ok h64
                refine eo_callP (callable Tryz.func34 rfl rfl) (c_cmp_Or_api_Errno hy65) rfl (Nat.le_of_ble_eq_true rfl) rfl rfl rfl rfl rfl ?_
                refine go_ops hΓ 9 rfl ?_
                refine j_cond rfl (fun hb => ?_) (fun hb => ?_)
                · have h67 := cT h66 hb
                  refine go hΓ 6 rfl ?_
                  refine o_cut 4 [(123, B (((y55.2 : Int) == y65) && (((y55.1.length : Int) : Int) == 0)))] [.box 25 [.d (Sl (eN .i64) q19.1.L), I q19.1.v_at], .box 33 [.d (Sl eS y3.1.d.Users), .d (Sl e_api_Owner y3.1.d.Owners), I y3.1.d.Life, B y3.1.d.Approve, .d (Sl e_api_Step y3.1.l), I y3.1.fault], .dead] ?_ ?_
                  · refine eo_gsplit rfl rfl (fun hb => ?_) (fun hb => ?_)
                    · refine go_ops hΓ 5 rfl ?_
                      exact ⟨⟨get_b rfl (and_t hb), trivial⟩, [], rfl, .inl rfl⟩
                    · refine go_ops hΓ 5 rfl ?_
                      exact ⟨⟨get_b rfl (and_f hb), trivial⟩, [], rfl, .inl rfl⟩
                  · refine go_ops hΓ 1 rfl ?_
                    obtain ⟨q68, hq68, h69⟩ := bi_ok h67
                    refine o_cut 2 [(126, B q68)] [.box 25 [.d (Sl (eN .i64) q19.1.L), I q19.1.v_at], .box 33 [.d (Sl eS y3.1.d.Users), .d (Sl e_api_Owner y3.1.d.Owners), I y3.1.d.Life, B y3.1.d.Approve, .d (Sl e_api_Step y3.1.l), I y3.1.fault], .dead] ?_ ?_
                    · refine eo_gsplit rfl rfl (fun hb => ?_) (fun hb => ?_)
                      · have h70 := cT hq68 hb
                        obtain ⟨y71, hy71, h72⟩ := bi_ok h70
                        refine eo_guard rfl ?_
                        refine eo_callP (callable Tryz.func16 rfl rfl) (c_lanelaw1_noded hy71) rfl (Nat.le_of_ble_eq_true rfl) rfl rfl rfl rfl rfl ?_
                        refine go_ops hΓ 2 rfl ?_
                        obtain rfl := Option.some.inj h72
                        exact ⟨⟨rfl, trivial⟩, [], rfl, .inl rfl⟩
                      · have h73 := cF hq68 hb
                        refine go_ops hΓ 3 rfl ?_
                        obtain rfl := Option.some.inj h73
                        exact ⟨⟨rfl, trivial⟩, [], rfl, .inl rfl⟩
                    · refine go_ops hΓ 5 rfl ?_
                      obtain rfl := Option.some.inj h69
                      exact fin_pure hΓ (.inr rfl) rfl rfl
                · have h74 := cF h66 hb
                  obtain ⟨y75, hy75, h76⟩ := bi_ok h74
                  refine go hΓ 7 rfl ?_
                  refine eo_callP (callable Tryz.func35 rfl rfl) (c_laneref1_StepsMerged hy75) rfl (Nat.le_of_ble_eq_true rfl) rfl rfl rfl rfl rfl ?_
                  refine go_ops hΓ 13 rfl ?_
                  obtain ⟨q77, hq77, h78⟩ := bi_ok h76
                  refine o_cut 4 [(141, B q77)] [.box 25 [.d (Sl (eN .i64) q19.1.L), I q19.1.v_at], .box 33 [.d (Sl eS y3.1.d.Users), .d (Sl e_api_Owner y3.1.d.Owners), I y3.1.d.Life, B y3.1.d.Approve, .d (Sl e_api_Step y3.1.l), I y3.1.fault], .dead] ?_ ?_
                  · refine eo_gsplit rfl rfl (fun hb => ?_) (fun hb => ?_)
                    · have h79 := cT hq77 hb
                      obtain ⟨y80, hy80, h81⟩ := bi_ok h79
                      refine go_ops hΓ 2 rfl ?_
                      refine eo_guard rfl ?_
                      refine eo_callP (callable Tryz.func36 rfl rfl) (c_laneref1_SameSteps hy80) rfl (Nat.le_of_ble_eq_true rfl) rfl rfl rfl rfl rfl ?_
                      refine go_ops hΓ 2 rfl ?_
                      obtain rfl := Option.some.inj h81
                      exact ⟨⟨rfl, trivial⟩, [], rfl, .inl rfl⟩
                    · have h82 := cF hq77 hb
                      refine go_ops hΓ 5 rfl ?_
                      obtain rfl := Option.some.inj h82
                      exact ⟨⟨rfl, trivial⟩, [], rfl, .inl rfl⟩
                  · refine go_ops hΓ 1 rfl ?_
                    obtain ⟨q83, hq83, h84⟩ := bi_ok h78
                    refine o_cut 2 [(144, B q83)] [.box 25 [.d (Sl (eN .i64) q19.1.L), I q19.1.v_at], .box 33 [.d (Sl eS y3.1.d.Users), .d (Sl e_api_Owner y3.1.d.Owners), I y3.1.d.Life, B y3.1.d.Approve, .d (Sl e_api_Step y3.1.l), I y3.1.fault], .dead] ?_ ?_
                    · refine eo_gsplit rfl rfl (fun hb => ?_) (fun hb => ?_)
                      · have h85 := cT hq83 hb
                        obtain ⟨y86, hy86, h87⟩ := bi_ok h85
                        refine eo_guard rfl ?_
                        refine eo_callP (callable Tryz.func16 rfl rfl) (c_lanelaw1_noded hy86) rfl (Nat.le_of_ble_eq_true rfl) rfl rfl rfl rfl rfl ?_
                        refine go_ops hΓ 2 rfl ?_
                        obtain rfl := Option.some.inj h87
                        exact ⟨⟨rfl, trivial⟩, [], rfl, .inl rfl⟩
                      · have h88 := cF hq83 hb
                        refine go_ops hΓ 3 rfl ?_
                        obtain rfl := Option.some.inj h88
                        exact ⟨⟨rfl, trivial⟩, [], rfl, .inl rfl⟩
                    · refine go_ops hΓ 4 rfl ?_
                      obtain rfl := Option.some.inj h84
                      exact fin_pure hΓ (.inr rfl) rfl rfl
end Go.Proofs.YtjmlnnanfkiakaaGreatDoor
