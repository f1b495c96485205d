/-
  The functions compute their models.
-/
import Derived.Test.YtpgnhnjhpnbelaaGreatDoorXAM
import Derived.Test.YtpgnhnjhpnbelaaGreatDoorGt
import Derived.Test.YtpgnhnjhpnbelaaGreatDoorStr
import Derived.Test.YtpgnhnjhpnbelaaGreatDoorStr2
import Derived.Test.YtpgnhnjhpnbelaaGreatDoorStr3
import Derived.Test.YtpgnhnjhpnbelaaGreatDoorXAW1
set_option linter.unusedVariables false
set_option linter.unusedSimpArgs false
set_option maxRecDepth 100000
namespace Go.Proofs.YtpgnhnjhpnbelaaGreatDoor
open Go.Gk

theorem c_kit_IsKey {k : Nat} {s : Str} {r : Bool} (h : m_kit_IsKey k s = some r) : Pure Tryz.prog 163 [S s] (B r) := by
  refine Pure.enter (Fr.of 0 _) Tryz.func163 rfl (Fr.of_ok _) rfl rfl ?_
  refine go_in ?_
  unfold m_kit_IsKey at h
  refine go hΓ 11 rfl ?_
  obtain ⟨q4, hq4, h5⟩ := bi_ok h
  refine j_cutEZ (R := fun a6 => q4 = .inl a6) (fun a6 => [(0, S s)]) (fun a6 => []) ?_ ?_
  · refine go hΓ 1 rfl ?_
    refine j_loop hq4 (fun s2 => [(0, S s), (3, I s2)]) (fun s2 => []) ⟨⟨rfl, rfl, trivial⟩, [], rfl, .inl rfl⟩ (fun s2 y10 hy8 hout9 => ?_)
    refine go hΓ 9 rfl ?_
    refine j_cond rfl (fun hb => ?_) (fun hb => ?_)
    · have h11 := cT hy8 hb
      obtain ⟨c12, hc12, h13⟩ := bi_ok h11
      refine go hΓ 8 rfl ?_
      refine eo_o rfl (op_byteZ hΓ hc12 rfl rfl rfl rfl) ?_
      refine go_ops hΓ 8 rfl ?_
      refine o_cut 3 [(0, S s), (3, I s2), (4, .d (.v (.int .u8 (c12.toNat : Int)))), (19, B ((decide (((c12.toNat : Int) : Int) ≥ 97)) && (decide (((c12.toNat : Int) : Int) ≤ 122))))] [] ?_ ?_
      · refine eo_gsplit rfl rfl (fun hb => ?_) (fun hb => ?_)
        · refine go_ops hΓ 4 rfl ?_
          exact ⟨⟨rfl, rfl, rfl, get_b rfl (and_t hb), trivial⟩, [], rfl, .inl rfl⟩
        · refine go_ops hΓ 4 rfl ?_
          exact ⟨⟨rfl, rfl, rfl, get_b rfl (and_f hb), trivial⟩, [], rfl, .inl rfl⟩
      · refine go_ops hΓ 1 rfl ?_
        refine o_cut 19 [(0, S s), (3, I s2), (39, B (((decide (((c12.toNat : Int) : Int) ≥ 97)) && (decide (((c12.toNat : Int) : Int) ≤ 122))) || ((decide ((s2 : Int) > 0)) && ((((decide (((c12.toNat : Int) : Int) ≥ 48)) && (decide (((c12.toNat : Int) : Int) ≤ 57))) || (((c12.toNat : Int) : Int) == 45)) || (((c12.toNat : Int) : Int) == 95)))))] [] ?_ ?_
        · refine eo_gsplit rfl rfl (fun hb => ?_) (fun hb => ?_)
          · refine go_ops hΓ 20 rfl ?_
            exact ⟨⟨rfl, rfl, get_b rfl (or_t hb), trivial⟩, [], rfl, .inl rfl⟩
          · refine go_ops hΓ 3 rfl ?_
            refine o_cut 15 [(0, S s), (3, I s2), (20, B false), (38, B ((decide ((s2 : Int) > 0)) && ((((decide (((c12.toNat : Int) : Int) ≥ 48)) && (decide (((c12.toNat : Int) : Int) ≤ 57))) || (((c12.toNat : Int) : Int) == 45)) || (((c12.toNat : Int) : Int) == 95))))] [] ?_ ?_
            · refine eo_gsplit rfl rfl (fun hb => ?_) (fun hb => ?_)
              · refine go_ops hΓ 3 rfl ?_
                refine o_cut 3 [(0, S s), (3, I s2), (4, .d (.v (.int .u8 (c12.toNat : Int)))), (20, B false), (23, B true), (29, B ((decide (((c12.toNat : Int) : Int) ≥ 48)) && (decide (((c12.toNat : Int) : Int) ≤ 57))))] [] ?_ ?_
                · refine eo_gsplit rfl rfl (fun hb => ?_) (fun hb => ?_)
                  · refine go_ops hΓ 4 rfl ?_
                    exact ⟨⟨rfl, rfl, rfl, rfl, rfl, get_b rfl (and_t hb), trivial⟩, [], rfl, .inl rfl⟩
                  · refine go_ops hΓ 4 rfl ?_
                    exact ⟨⟨rfl, rfl, rfl, rfl, rfl, get_b rfl (and_f hb), trivial⟩, [], rfl, .inl rfl⟩
                · refine go_ops hΓ 1 rfl ?_
                  refine o_cut 3 [(0, S s), (3, I s2), (4, .d (.v (.int .u8 (c12.toNat : Int)))), (20, B false), (23, B true), (33, B (((decide (((c12.toNat : Int) : Int) ≥ 48)) && (decide (((c12.toNat : Int) : Int) ≤ 57))) || (((c12.toNat : Int) : Int) == 45)))] [] ?_ ?_
                  · refine eo_gsplit rfl rfl (fun hb => ?_) (fun hb => ?_)
                    · refine go_ops hΓ 4 rfl ?_
                      exact ⟨⟨rfl, rfl, rfl, rfl, rfl, get_b rfl (or_t hb), trivial⟩, [], rfl, .inl rfl⟩
                    · refine go_ops hΓ 4 rfl ?_
                      exact ⟨⟨rfl, rfl, rfl, rfl, rfl, get_b rfl (or_f hb), trivial⟩, [], rfl, .inl rfl⟩
                  · refine go_ops hΓ 1 rfl ?_
                    refine o_cut 3 [(0, S s), (3, I s2), (20, B false), (23, B true), (37, B ((((decide (((c12.toNat : Int) : Int) ≥ 48)) && (decide (((c12.toNat : Int) : Int) ≤ 57))) || (((c12.toNat : Int) : Int) == 45)) || (((c12.toNat : Int) : Int) == 95)))] [] ?_ ?_
                    · refine eo_gsplit rfl rfl (fun hb => ?_) (fun hb => ?_)
                      · refine go_ops hΓ 4 rfl ?_
                        exact ⟨⟨rfl, rfl, rfl, rfl, get_b rfl (or_t hb), trivial⟩, [], rfl, .inl rfl⟩
                      · refine go_ops hΓ 4 rfl ?_
                        exact ⟨⟨rfl, rfl, rfl, rfl, get_b rfl (or_f hb), trivial⟩, [], rfl, .inl rfl⟩
                    · refine go_ops hΓ 2 rfl ?_
                      exact ⟨⟨rfl, rfl, rfl, get_b rfl (and_t hb), trivial⟩, [], rfl, .inl rfl⟩
              · refine go_ops hΓ 16 rfl ?_
                exact ⟨⟨rfl, rfl, rfl, get_b rfl (and_f hb), trivial⟩, [], rfl, .inl rfl⟩
            · refine go_ops hΓ 2 rfl ?_
              exact ⟨⟨rfl, rfl, get_b rfl (or_f hb), trivial⟩, [], rfl, .inl rfl⟩
        · refine go_ops hΓ 3 rfl ?_
          refine j_cond rfl (fun hb => ?_) (fun hb => ?_)
          · have h14 := cT h13 hb
            refine go hΓ 8 rfl ?_
            obtain ⟨v15, hv15, h16⟩ := bi_ok h14
            obtain rfl := Option.some.inj h16
            obtain rfl := hout9 _ rfl
            obtain rfl := Option.some.inj h5
            refine go hΓ 4 rfl ?_
            obtain rfl := Option.some.inj hv15
            exact fin_pure hΓ (.inr rfl) rfl rfl
          · have h17 := cF h13 hb
            refine go hΓ 8 rfl ?_
            obtain rfl := Option.some.inj h17
            exact ⟨_, rfl, ⟨⟨rfl, rfl, trivial⟩, [], rfl, .inl rfl⟩⟩
    · have h18 := cF hy8 hb
      refine go hΓ 4 rfl ?_
      obtain rfl := Option.some.inj h18
      obtain rfl := hout9 _ rfl
      exact ⟨_, rfl, ⟨⟨rfl, trivial⟩, [], rfl, .inl rfl⟩⟩
  · intro a6 ha
    subst ha
    replace h5 := orI_l h5
    refine go hΓ 6 rfl ?_
    refine o_cut 4 [(47, B ((!((s : Str) == [])) && (decide (((s.length : Int) : Int) ≤ 40))))] [] ?_ ?_
    · refine eo_gsplit rfl rfl (fun hb => ?_) (fun hb => ?_)
      · refine go_ops hΓ 5 rfl ?_
        exact ⟨⟨get_b rfl (and_t hb), trivial⟩, [], rfl, .inl rfl⟩
      · refine go_ops hΓ 5 rfl ?_
        exact ⟨⟨get_b rfl (and_f hb), trivial⟩, [], rfl, .inl rfl⟩
    · refine go_ops hΓ 4 rfl ?_
      obtain rfl := Option.some.inj h5
      exact fin_pure hΓ (.inr rfl) rfl rfl

theorem c_slices_Index_string_string {s : List Str} {v : Str} {r : Int} (h : m_slices_Index_string_string s v = some r) : Pure Tryz.prog 276 [.d (Sl eS s), S v] (I r) := by
  refine Pure.enter (Fr.of 0 _) Tryz.func276 rfl (Fr.of_ok _) rfl rfl ?_
  refine go_in ?_
  unfold m_slices_Index_string_string at h
  refine go hΓ 13 rfl ?_
  obtain ⟨q4, hq4, h5⟩ := bi_ok h
  refine j_bound 0 rfl fun hb7 => ?_
  refine j_cutEZ (R := fun a6 => q4 = .go a6) (fun a6 => []) (fun a6 => []) ?_ ?_
  · refine go hΓ 1 rfl ?_
    refine j_range s hq4 (fun i1 s2 => [(0, .d (Sl eS s)), (1, S v), (7, I (s.length : Int)), (8, I (i1 : Int))]) (fun s2 => []) ⟨⟨rfl, rfl, rfl, rfl, trivial⟩, [], rfl, .inl rfl⟩ (fun i1 x3 s2 y11 hx8 hlt hy9 hout10 => ?_) (fun s2 hgo => ?_)
    · refine go hΓ 6 rfl ?_
      refine j_condT rfl (decide_eq_true (Int.ofNat_lt.2 hlt)) ?_
      refine go hΓ 15 rfl ?_
      refine eo_o rfl (op_elemZ hΓ (enc := eS) (getZ_nat hx8) rfl rfl rfl rfl rfl (fun _ => rfl)) ?_
      refine go_ops hΓ 4 rfl ?_
      refine j_cond rfl (fun hb => ?_) (fun hb => ?_)
      · have h12 := cT hy9 hb
        refine go hΓ 9 rfl ?_
        obtain ⟨v13, hv13, h14⟩ := bi_ok h12
        obtain rfl := Option.some.inj h14
        obtain rfl := hout10 _ rfl
        obtain rfl := Option.some.inj h5
        refine go hΓ 4 rfl ?_
        obtain rfl := Option.some.inj hv13
        exact fin_pure hΓ (.inr rfl) rfl rfl
      · have h15 := cF hy9 hb
        refine go hΓ 7 rfl ?_
        obtain rfl := Option.some.inj h15
        exact ⟨_, rfl, ⟨⟨rfl, rfl, rfl, get_eq rfl (w64_succ (Nat.lt_of_lt_of_le hlt hb7)), trivial⟩, [], rfl, .inl rfl⟩⟩
    · subst hgo
      refine go hΓ 6 rfl ?_
      refine j_condF rfl (decide_eq_false (Int.lt_irrefl _)) ?_
      refine go hΓ 4 rfl ?_
      exact ⟨_, rfl, ⟨trivial, [], rfl, .inl rfl⟩⟩
  · intro a6 ha
    subst ha
    replace h5 := goI_l h5
    refine go hΓ 7 rfl ?_
    obtain rfl := Option.some.inj h5
    exact fin_pure hΓ (.inr rfl) rfl rfl

theorem c_slices_Contains_string_string {s : List Str} {v : Str} {r : Bool} (h : m_slices_Contains_string_string s v = some r) : Pure Tryz.prog 246 [.d (Sl eS s), S v] (B r) := by
  refine Pure.enter (Fr.of 0 _) Tryz.func246 rfl (Fr.of_ok _) rfl rfl ?_
  refine go_in ?_
  unfold m_slices_Contains_string_string at h
  obtain ⟨y1, hy1, h2⟩ := bi_ok h
  refine go hΓ 9 rfl ?_
  refine eo_callP (callable Tryz.func276 rfl rfl) (c_slices_Index_string_string hy1) rfl (Nat.le_of_ble_eq_true rfl) rfl rfl rfl rfl rfl ?_
  refine go_ops hΓ 5 rfl ?_
  obtain rfl := Option.some.inj h2
  exact fin_pure hΓ (.inr rfl) rfl rfl

theorem c_name_CheckSplits {k : Nat} {l : List T_api_Split} {r : Int} (h : m_name_CheckSplits k l = some r) : Pure Tryz.prog 162 [.d (Sl e_api_Split l)] (I r) := by
  refine Pure.enter (Fr.of 0 _) Tryz.func162 rfl (Fr.of_ok _) rfl rfl ?_
  refine go_in ?_
  unfold m_name_CheckSplits at h
  refine go hΓ 13 rfl ?_
  refine j_cond rfl (fun hb => ?_) (fun hb => ?_)
  · have h1 := cT h hb
    refine go hΓ 7 rfl ?_
    obtain rfl := Option.some.inj h1
    exact fin_pure hΓ (.inr rfl) rfl rfl
  · have h2 := cF h hb
    refine go hΓ 10 rfl ?_
    obtain ⟨q6, hq6, h7⟩ := bi_ok h2
    refine j_bound 0 rfl fun hb9 => ?_
    refine j_cutEZ (R := fun a8 => q6 = .go a8) (fun a8 => []) (fun a8 => []) ?_ ?_
    · refine go hΓ 1 rfl ?_
      refine j_range l hq6 (fun i3 s4 => [(0, .d (Sl e_api_Split l)), (11, .d (Sl e_api_Split l)), (12, I (l.length : Int)), (13, I (i3 : Int))]) (fun s4 => []) ⟨⟨rfl, rfl, rfl, rfl, trivial⟩, [], rfl, .inl rfl⟩ (fun i3 x5 s4 y13 hx10 hlt hy11 hout12 => ?_) (fun s4 hgo => ?_)
      · refine go hΓ 6 rfl ?_
        refine j_condT rfl (decide_eq_true (Int.ofNat_lt.2 hlt)) ?_
        refine go hΓ 7 rfl ?_
        refine eo_o rfl (op_elemZ hΓ (enc := e_api_Split) (getZ_nat hx10) rfl rfl rfl rfl rfl (fun _ => rfl)) ?_
        refine go_ops hΓ 1 rfl ?_
        refine eo_alloc hΓ rfl rfl rfl (Nat.le_of_ble_eq_true rfl) ?_
        refine go_ops hΓ 1 rfl ?_
        refine eo_store hΓ rfl rfl rfl rfl rfl rfl rfl rfl (Nat.le_of_ble_eq_true rfl) ?_
        refine eo_hp [.box 273 [S x5.Suffix, .d (Sl eS x5.Servers)]] rfl ?_
        obtain ⟨q14, hq14, h15⟩ := bi_ok hy11
        refine go_ops hΓ 10 rfl ?_
        refine j_cutSZ (q := q14) (fun a16 => [(0, .d (Sl e_api_Split l)), (3, I (i3 : Int)), (4, .ptr 0 0), (11, .d (Sl e_api_Split l)), (12, I (l.length : Int)), (13, I (i3 : Int))]) (fun a16 => [.box 273 [S x5.Suffix, .d (Sl eS x5.Servers)]]) ?_ ?_
        · refine j_cond rfl (fun hb => ?_) (fun hb => ?_)
          · have h17 := cT hq14 hb
            obtain ⟨y18, hy18, h19⟩ := bi_ok h17
            refine go hΓ 4 rfl ?_
            refine eo_callP (callable Tryz.func90 rfl rfl) (c_name_CheckDomain hy18) rfl (Nat.le_of_ble_eq_true rfl) rfl rfl rfl rfl rfl ?_
            refine go_ops hΓ 9 rfl ?_
            refine j_cond rfl (fun hb => ?_) (fun hb => ?_)
            · have h20 := cT h19 hb
              refine go hΓ 7 rfl ?_
              obtain ⟨v21, hv21, h22⟩ := bi_ok h20
              obtain rfl := Option.some.inj h22
              obtain rfl := Option.some.inj h15
              refine go hΓ 4 rfl ?_
              obtain ⟨v23, hv23, h24⟩ := bi_ok hv21
              obtain rfl := Option.some.inj h24
              obtain rfl := hout12 _ rfl
              obtain rfl := Option.some.inj h7
              refine go hΓ 4 rfl ?_
              obtain rfl := Option.some.inj hv23
              exact fin_pure hΓ (.inr rfl) rfl rfl
            · have h25 := cF h19 hb
              refine go hΓ 1 rfl ?_
              obtain rfl := Option.some.inj h25
              exact ⟨_, rfl, ⟨⟨rfl, rfl, rfl, rfl, rfl, rfl, trivial⟩, [], rfl, .inl rfl⟩⟩
          · have h26 := cF hq14 hb
            refine go hΓ 1 rfl ?_
            obtain rfl := Option.some.inj h26
            exact ⟨_, rfl, ⟨⟨rfl, rfl, rfl, rfl, rfl, rfl, trivial⟩, [], rfl, .inl rfl⟩⟩
        · intro a16 ha
          subst ha
          replace h15 := orI_l h15
          obtain ⟨q27, hq27, h28⟩ := bi_ok h15
          refine go hΓ 4 rfl ?_
          refine j_cutNZ [(0, .d (Sl e_api_Split l)), (4, .ptr 0 0), (11, .d (Sl e_api_Split l)), (12, I (l.length : Int)), (13, I (i3 : Int)), (27, B q27)] [.box 273 [S x5.Suffix, .d (Sl eS x5.Servers)]] ?_ ?_
          · refine j_draw hmix (by kernel_rfl) ?_
            refine go hΓ 3 rfl ?_
            refine gl_gsplit rfl rfl (fun hb => ?_) (fun hb => ?_)
            · have h29 := cT hq27 hb
              obtain ⟨x30, hx30, h31⟩ := bi_ok h29
              refine go_draw hΓ 5 rfl ?_
              refine gl_og rfl rfl (op_elemZ hΓ (enc := e_api_Split) hx30 rfl rfl rfl rfl rfl (fun _ => rfl)) ?_
              refine go_draw hΓ 6 rfl ?_
              obtain rfl := Option.some.inj h31
              exact ⟨⟨rfl, rfl, rfl, rfl, rfl, rfl, trivial⟩, [], rfl, .inl rfl⟩
            · have h32 := cF hq27 hb
              refine go_draw hΓ 12 rfl ?_
              obtain rfl := Option.some.inj h32
              exact ⟨⟨rfl, rfl, rfl, rfl, rfl, rfl, trivial⟩, [], rfl, .inl rfl⟩
          · refine go hΓ 1 rfl ?_
            refine j_cond rfl (fun hb => ?_) (fun hb => ?_)
            · have h33 := cT h28 hb
              refine go hΓ 10 rfl ?_
              obtain ⟨v34, hv34, h35⟩ := bi_ok h33
              obtain rfl := Option.some.inj h35
              obtain rfl := hout12 _ rfl
              obtain rfl := Option.some.inj h7
              refine go hΓ 4 rfl ?_
              obtain rfl := Option.some.inj hv34
              exact fin_pure hΓ (.inr rfl) rfl rfl
            · have h36 := cF h28 hb
              refine go hΓ 9 rfl ?_
              refine j_cond rfl (fun hb => ?_) (fun hb => ?_)
              · have h37 := cT h36 hb
                refine go hΓ 10 rfl ?_
                obtain ⟨v38, hv38, h39⟩ := bi_ok h37
                obtain rfl := Option.some.inj h39
                obtain rfl := hout12 _ rfl
                obtain rfl := Option.some.inj h7
                refine go hΓ 4 rfl ?_
                obtain rfl := Option.some.inj hv38
                exact fin_pure hΓ (.inr rfl) rfl rfl
              · have h40 := cF h36 hb
                refine go hΓ 9 rfl ?_
                refine j_cond rfl (fun hb => ?_) (fun hb => ?_)
                · have h41 := cT h40 hb
                  refine go hΓ 10 rfl ?_
                  obtain ⟨v42, hv42, h43⟩ := bi_ok h41
                  obtain rfl := Option.some.inj h43
                  obtain rfl := hout12 _ rfl
                  obtain rfl := Option.some.inj h7
                  refine go hΓ 4 rfl ?_
                  obtain rfl := Option.some.inj hv42
                  exact fin_pure hΓ (.inr rfl) rfl rfl
                · have h44 := cF h40 hb
                  refine go hΓ 11 rfl ?_
                  obtain ⟨q48, hq48, h49⟩ := bi_ok h44
                  refine j_bound 52 rfl fun hb51 => ?_
                  refine j_cutEZ (R := fun a50 => q48 = .go a50) (fun a50 => [(0, .d (Sl e_api_Split l)), (11, .d (Sl e_api_Split l)), (12, I (l.length : Int)), (13, I (i3 : Int))]) (fun a50 => [.box 273 [S x5.Suffix, .d (Sl eS x5.Servers)]]) ?_ ?_
                  · refine go hΓ 1 rfl ?_
                    refine j_range x5.Servers hq48 (fun i45 s46 => [(0, .d (Sl e_api_Split l)), (4, .ptr 0 0), (11, .d (Sl e_api_Split l)), (12, I (l.length : Int)), (13, I (i3 : Int)), (52, .d (Sl eS x5.Servers)), (53, I (x5.Servers.length : Int)), (54, I (i45 : Int))]) (fun s46 => [.box 273 [S x5.Suffix, .d (Sl eS x5.Servers)]]) ⟨⟨rfl, rfl, rfl, rfl, rfl, rfl, rfl, rfl, trivial⟩, [], rfl, .inl rfl⟩ (fun i45 x47 s46 y55 hx52 hlt hy53 hout54 => ?_) (fun s46 hgo => ?_)
                    · refine go hΓ 6 rfl ?_
                      refine j_condT rfl (decide_eq_true (Int.ofNat_lt.2 hlt)) ?_
                      refine go hΓ 7 rfl ?_
                      refine eo_o rfl (op_elemZ hΓ (enc := eS) (getZ_nat hx52) rfl rfl rfl rfl rfl (fun _ => rfl)) ?_
                      obtain ⟨y56, hy56, h57⟩ := bi_ok hy53
                      refine go_ops hΓ 9 rfl ?_
                      refine eo_callP (callable Tryz.func163 rfl rfl) (c_kit_IsKey hy56) rfl (Nat.le_of_ble_eq_true rfl) rfl rfl rfl rfl rfl ?_
                      refine go_ops hΓ 3 rfl ?_
                      refine j_cond rfl (fun hb => ?_) (fun hb => ?_)
                      · have h58 := cT h57 hb
                        refine go hΓ 9 rfl ?_
                        obtain ⟨v59, hv59, h60⟩ := bi_ok h58
                        obtain rfl := Option.some.inj h60
                        obtain rfl := hout54 _ rfl
                        obtain rfl := Option.some.inj h49
                        refine go hΓ 5 rfl ?_
                        obtain ⟨v61, hv61, h62⟩ := bi_ok hv59
                        obtain rfl := Option.some.inj h62
                        obtain rfl := hout12 _ rfl
                        obtain rfl := Option.some.inj h7
                        refine go hΓ 4 rfl ?_
                        obtain rfl := Option.some.inj hv61
                        exact fin_pure hΓ (.inr rfl) rfl rfl
                      · have h63 := cF h57 hb
                        obtain ⟨z64, hz64, h65⟩ := bi_ok h63
                        refine go hΓ 7 rfl ?_
                        refine eo_o rfl (op_subRoZ hΓ (enc := eS) hz64 rfl rfl rfl rfl rfl rfl (fun _ => rfl)) ?_
                        obtain ⟨y66, hy66, h67⟩ := bi_ok h65
                        refine go_ops hΓ 1 rfl ?_
                        refine eo_callP (callable Tryz.func246 rfl rfl) (c_slices_Contains_string_string hy66) rfl (Nat.le_of_ble_eq_true rfl) rfl rfl rfl rfl rfl ?_
                        refine go_ops hΓ 2 rfl ?_
                        refine j_cond rfl (fun hb => ?_) (fun hb => ?_)
                        · have h68 := cT h67 hb
                          refine go hΓ 8 rfl ?_
                          obtain ⟨v69, hv69, h70⟩ := bi_ok h68
                          obtain rfl := Option.some.inj h70
                          obtain rfl := hout54 _ rfl
                          obtain rfl := Option.some.inj h49
                          refine go hΓ 5 rfl ?_
                          obtain ⟨v71, hv71, h72⟩ := bi_ok hv69
                          obtain rfl := Option.some.inj h72
                          obtain rfl := hout12 _ rfl
                          obtain rfl := Option.some.inj h7
                          refine go hΓ 4 rfl ?_
                          obtain rfl := Option.some.inj hv71
                          exact fin_pure hΓ (.inr rfl) rfl rfl
                        · have h73 := cF h67 hb
                          refine go hΓ 7 rfl ?_
                          obtain rfl := Option.some.inj h73
                          exact ⟨_, rfl, ⟨⟨rfl, rfl, rfl, rfl, rfl, rfl, rfl, get_eq rfl (w64_succ (Nat.lt_of_lt_of_le hlt hb51)), trivial⟩, [], rfl, .inl rfl⟩⟩
                    · subst hgo
                      refine go hΓ 6 rfl ?_
                      refine j_condF rfl (decide_eq_false (Int.lt_irrefl _)) ?_
                      refine go hΓ 4 rfl ?_
                      exact ⟨_, rfl, ⟨⟨rfl, rfl, rfl, rfl, trivial⟩, [], rfl, .inl rfl⟩⟩
                  · intro a50 ha
                    subst ha
                    replace h49 := goI_l h49
                    refine go hΓ 6 rfl ?_
                    obtain rfl := Option.some.inj h49
                    exact ⟨_, rfl, ⟨⟨rfl, rfl, rfl, get_eq rfl (w64_succ (Nat.lt_of_lt_of_le hlt hb9)), trivial⟩, [_], rfl, .inr ⟨HB.mk rfl, FB.mk rfl, (Nat.le_of_ble_eq_true rfl)⟩⟩⟩
      · subst hgo
        refine go hΓ 6 rfl ?_
        refine j_condF rfl (decide_eq_false (Int.lt_irrefl _)) ?_
        refine go hΓ 4 rfl ?_
        exact ⟨_, rfl, ⟨trivial, [], rfl, .inl rfl⟩⟩
    · intro a8 ha
      subst ha
      replace h7 := goI_l h7
      refine go hΓ 7 rfl ?_
      obtain rfl := Option.some.inj h7
      exact fin_pure hΓ (.inr rfl) rfl rfl

theorem c_name_bare {name : Str} {r : Str} (h : m_name_bare name = some r) : Pure Tryz.prog 114 [S name] (S r) := by
  refine Pure.enter (Fr.of 0 _) Tryz.func114 rfl (Fr.of_ok _) rfl rfl ?_
  refine go_in ?_
  unfold m_name_bare at h
  obtain ⟨y1, hy1, h2⟩ := bi_ok h
  refine go hΓ 8 rfl ?_
  refine eo_callP (callable Tryz.func220 rfl rfl) (c_strings_TrimPrefix hy1) rfl (Nat.le_of_ble_eq_true rfl) rfl rfl rfl rfl rfl ?_
  refine go_ops hΓ 4 rfl ?_
  obtain rfl := Option.some.inj h2
  exact fin_pure hΓ (.inr rfl) rfl rfl

theorem c_name_isKind {kind : Int} {r : Bool} (h : m_name_isKind kind = some r) : Pure Tryz.prog 106 [I kind] (B r) := by
  refine Pure.enter (Fr.of 0 _) Tryz.func106 rfl (Fr.of_ok _) rfl rfl ?_
  refine go_in ?_
  unfold m_name_isKind at h
  obtain ⟨q1, hq1, h2⟩ := bi_ok h
  refine go hΓ 19 rfl ?_
  refine j_cutNZ [(4, B q1)] [] ?_ ?_
  · refine j_cond rfl (fun hb => ?_) (fun hb => ?_)
    · have h3 := cT hq1 hb
      refine go hΓ 1 rfl ?_
      obtain rfl := Option.some.inj h3
      exact ⟨⟨rfl, trivial⟩, [], rfl, .inl rfl⟩
    · have h4 := cF hq1 hb
      refine go hΓ 6 rfl ?_
      refine j_cond rfl (fun hb => ?_) (fun hb => ?_)
      · have h5 := cT h4 hb
        refine go hΓ 1 rfl ?_
        obtain rfl := Option.some.inj h5
        exact ⟨⟨rfl, trivial⟩, [], rfl, .inl rfl⟩
      · have h6 := cF h4 hb
        refine go hΓ 6 rfl ?_
        refine j_cond rfl (fun hb => ?_) (fun hb => ?_)
        · have h7 := cT h6 hb
          refine go hΓ 1 rfl ?_
          obtain rfl := Option.some.inj h7
          exact ⟨⟨rfl, trivial⟩, [], rfl, .inl rfl⟩
        · have h8 := cF h6 hb
          refine go hΓ 6 rfl ?_
          refine j_cond rfl (fun hb => ?_) (fun hb => ?_)
          · have h9 := cT h8 hb
            refine go hΓ 1 rfl ?_
            obtain rfl := Option.some.inj h9
            exact ⟨⟨rfl, trivial⟩, [], rfl, .inl rfl⟩
          · have h10 := cF h8 hb
            refine go hΓ 4 rfl ?_
            obtain rfl := Option.some.inj h10
            exact ⟨⟨rfl, trivial⟩, [], rfl, .inl rfl⟩
  · refine go hΓ 1 rfl ?_
    refine j_cond rfl (fun hb => ?_) (fun hb => ?_)
    · have h11 := cT h2 hb
      refine go hΓ 8 rfl ?_
      obtain rfl := Option.some.inj h11
      exact fin_pure hΓ (.inr rfl) rfl rfl
    · have h12 := cF h2 hb
      refine go hΓ 9 rfl ?_
      obtain rfl := Option.some.inj h12
      exact fin_pure hΓ (.inr rfl) rfl rfl

theorem c_name_hasAddr {kind : Int} {r : Bool} (h : m_name_hasAddr kind = some r) : Pure Tryz.prog 190 [I kind] (B r) := by
  refine Pure.enter (Fr.of 0 _) Tryz.func190 rfl (Fr.of_ok _) rfl rfl ?_
  refine go_in ?_
  unfold m_name_hasAddr at h
  refine go hΓ 10 rfl ?_
  refine o_cut 3 [(2, B false), (8, B (((kind : Int) == 1) || ((kind : Int) == 28)))] [] ?_ ?_
  · refine eo_gsplit rfl rfl (fun hb => ?_) (fun hb => ?_)
    · refine go_ops hΓ 4 rfl ?_
      exact ⟨⟨rfl, get_b rfl (or_t hb), trivial⟩, [], rfl, .inl rfl⟩
    · refine go_ops hΓ 4 rfl ?_
      exact ⟨⟨rfl, get_b rfl (or_f hb), trivial⟩, [], rfl, .inl rfl⟩
  · refine go_ops hΓ 4 rfl ?_
    obtain rfl := Option.some.inj h
    exact fin_pure hΓ (.inr rfl) rfl rfl

theorem c_addr_CheckAddr {a : T_api_Addr} {r : Int} (h : m_addr_CheckAddr a = some r) : Pure Tryz.prog 124 [.agg [B a.Six, .d (.v (.int .u64 a.Hi)), .d (.v (.int .u64 a.Lo))]] (I r) := by
  refine Pure.enter (Fr.of 0 _) Tryz.func124 rfl (Fr.of_ok _) rfl rfl ?_
  refine go_in ?_
  unfold m_addr_CheckAddr at h
  refine go hΓ 2 rfl ?_
  refine eo_box rfl rfl rfl rfl (Nat.le_of_ble_eq_true rfl) ?_
  refine go_ops hΓ 10 rfl ?_
  refine o_cut 9 [(15, B ((!a.Six) && (((a.Hi : Int) != 0) || (decide ((a.Lo : Int) ≥ 4294967296)))))] [.box 36 [B a.Six, .d (.v (.int .u64 a.Hi)), .d (.v (.int .u64 a.Lo))]] ?_ ?_
  · refine eo_gsplit rfl rfl (fun hb => ?_) (fun hb => ?_)
    · refine go_ops hΓ 4 rfl ?_
      refine o_cut 4 [(6, B true), (14, B (((a.Hi : Int) != 0) || (decide ((a.Lo : Int) ≥ 4294967296))))] [.box 36 [B a.Six, .d (.v (.int .u64 a.Hi)), .d (.v (.int .u64 a.Lo))]] ?_ ?_
      · refine eo_gsplit rfl rfl (fun hb => ?_) (fun hb => ?_)
        · refine go_ops hΓ 5 rfl ?_
          exact ⟨⟨rfl, get_b rfl (or_t hb), trivial⟩, [], rfl, .inl rfl⟩
        · refine go_ops hΓ 5 rfl ?_
          exact ⟨⟨rfl, get_b rfl (or_f hb), trivial⟩, [], rfl, .inl rfl⟩
      · refine go_ops hΓ 2 rfl ?_
        exact ⟨⟨get_b rfl (and_t hb), trivial⟩, [], rfl, .inl rfl⟩
    · refine go_ops hΓ 10 rfl ?_
      exact ⟨⟨get_b rfl (and_f hb), trivial⟩, [], rfl, .inl rfl⟩
  · refine go_ops hΓ 2 rfl ?_
    refine j_cond rfl (fun hb => ?_) (fun hb => ?_)
    · have h1 := cT h hb
      refine go hΓ 7 rfl ?_
      obtain rfl := Option.some.inj h1
      exact fin_pure hΓ (.inr rfl) rfl rfl
    · have h2 := cF h hb
      refine go hΓ 8 rfl ?_
      obtain rfl := Option.some.inj h2
      exact fin_pure hΓ (.inr rfl) rfl rfl

theorem c_name_hasName {kind : Int} {r : Bool} (h : m_name_hasName kind = some r) : Pure Tryz.prog 224 [I kind] (B r) := by
  refine Pure.enter (Fr.of 0 _) Tryz.func224 rfl (Fr.of_ok _) rfl rfl ?_
  refine go_in ?_
  unfold m_name_hasName at h
  refine go hΓ 10 rfl ?_
  refine o_cut 3 [(2, B false), (8, B (((kind : Int) == 5) || ((kind : Int) == 12)))] [] ?_ ?_
  · refine eo_gsplit rfl rfl (fun hb => ?_) (fun hb => ?_)
    · refine go_ops hΓ 4 rfl ?_
      exact ⟨⟨rfl, get_b rfl (or_t hb), trivial⟩, [], rfl, .inl rfl⟩
    · refine go_ops hΓ 4 rfl ?_
      exact ⟨⟨rfl, get_b rfl (or_f hb), trivial⟩, [], rfl, .inl rfl⟩
  · refine go_ops hΓ 4 rfl ?_
    obtain rfl := Option.some.inj h
    exact fin_pure hΓ (.inr rfl) rfl rfl

theorem c_kit_IsPlain {k : Nat} {s : Str} {r : Bool} (h : m_kit_IsPlain k s = some r) : Pure Tryz.prog 225 [S s] (B r) := by
  refine Pure.enter (Fr.of 0 _) Tryz.func225 rfl (Fr.of_ok _) rfl rfl ?_
  refine go_in ?_
  unfold m_kit_IsPlain at h
  refine go hΓ 11 rfl ?_
  obtain ⟨q4, hq4, h5⟩ := bi_ok h
  refine j_cutEZ (R := fun a6 => q4 = .inl a6) (fun a6 => [(0, S s)]) (fun a6 => []) ?_ ?_
  · refine go hΓ 1 rfl ?_
    refine j_loop hq4 (fun s2 => [(0, S s), (3, I s2)]) (fun s2 => []) ⟨⟨rfl, rfl, trivial⟩, [], rfl, .inl rfl⟩ (fun s2 y10 hy8 hout9 => ?_)
    refine go hΓ 9 rfl ?_
    refine j_cond rfl (fun hb => ?_) (fun hb => ?_)
    · have h11 := cT hy8 hb
      obtain ⟨c12, hc12, h13⟩ := bi_ok h11
      refine go hΓ 8 rfl ?_
      refine eo_o rfl (op_byteZ hΓ hc12 rfl rfl rfl rfl) ?_
      refine go_ops hΓ 2 rfl ?_
      obtain ⟨q14, hq14, h15⟩ := bi_ok h13
      refine o_cut 5 [(0, S s), (3, I s2), (19, B q14)] [] ?_ ?_
      · refine eo_gsplit rfl rfl (fun hb => ?_) (fun hb => ?_)
        · have h16 := cT hq14 hb
          refine go_ops hΓ 6 rfl ?_
          obtain rfl := Option.some.inj h16
          exact ⟨⟨rfl, rfl, rfl, trivial⟩, [], rfl, .inl rfl⟩
        · have h17 := cF hq14 hb
          obtain ⟨c18, hc18, h19⟩ := bi_ok h17
          refine go_ops hΓ 2 rfl ?_
          refine eo_guard rfl ?_
          refine eo_o rfl (op_byteZ hΓ hc18 rfl rfl rfl rfl) ?_
          refine go_ops hΓ 3 rfl ?_
          obtain rfl := Option.some.inj h19
          exact ⟨⟨rfl, rfl, rfl, trivial⟩, [], rfl, .inl rfl⟩
      · refine go_ops hΓ 2 rfl ?_
        refine j_cond rfl (fun hb => ?_) (fun hb => ?_)
        · have h20 := cT h15 hb
          refine go hΓ 8 rfl ?_
          obtain ⟨v21, hv21, h22⟩ := bi_ok h20
          obtain rfl := Option.some.inj h22
          obtain rfl := hout9 _ rfl
          obtain rfl := Option.some.inj h5
          refine go hΓ 4 rfl ?_
          obtain rfl := Option.some.inj hv21
          exact fin_pure hΓ (.inr rfl) rfl rfl
        · have h23 := cF h15 hb
          refine go hΓ 8 rfl ?_
          obtain rfl := Option.some.inj h23
          exact ⟨_, rfl, ⟨⟨rfl, rfl, trivial⟩, [], rfl, .inl rfl⟩⟩
    · have h24 := cF hy8 hb
      refine go hΓ 4 rfl ?_
      obtain rfl := Option.some.inj h24
      obtain rfl := hout9 _ rfl
      exact ⟨_, rfl, ⟨⟨rfl, trivial⟩, [], rfl, .inl rfl⟩⟩
  · intro a6 ha
    subst ha
    replace h5 := orI_l h5
    obtain ⟨y25, hy25, h26⟩ := bi_ok h5
    refine go hΓ 4 rfl ?_
    refine eo_callP (callable Tryz.func289 rfl rfl) (c_utf8_ValidString hy25) rfl (Nat.le_of_ble_eq_true rfl) rfl rfl rfl rfl rfl ?_
    refine go_ops hΓ 1 rfl ?_
    obtain ⟨q27, hq27, h28⟩ := bi_ok h26
    refine o_cut 5 [(0, S s), (27, B q27)] [] ?_ ?_
    · refine eo_gsplit rfl rfl (fun hb => ?_) (fun hb => ?_)
      · have h29 := cT hq27 hb
        obtain ⟨y30, hy30, h31⟩ := bi_ok h29
        refine go_ops hΓ 1 rfl ?_
        refine eo_guard rfl ?_
        refine eo_callP (callable Tryz.func176 rfl rfl) (c_strings_Trim hy30) rfl (Nat.le_of_ble_eq_true rfl) rfl rfl rfl rfl rfl ?_
        refine go_ops hΓ 4 rfl ?_
        obtain rfl := Option.some.inj h31
        exact ⟨⟨rfl, rfl, trivial⟩, [], rfl, .inl rfl⟩
      · have h32 := cF hq27 hb
        refine go_ops hΓ 6 rfl ?_
        obtain rfl := Option.some.inj h32
        exact ⟨⟨rfl, rfl, trivial⟩, [], rfl, .inl rfl⟩
    · refine go_ops hΓ 1 rfl ?_
      obtain ⟨q33, hq33, h34⟩ := bi_ok h28
      refine o_cut 4 [(32, B q33)] [] ?_ ?_
      · refine eo_gsplit rfl rfl (fun hb => ?_) (fun hb => ?_)
        · have h35 := cT hq33 hb
          obtain ⟨y36, hy36, h37⟩ := bi_ok h35
          refine go_ops hΓ 1 rfl ?_
          refine eo_guard rfl ?_
          refine eo_callP (callable Tryz.func274 rfl rfl) (c_strings_Contains hy36) rfl (Nat.le_of_ble_eq_true rfl) rfl rfl rfl rfl rfl ?_
          refine go_ops hΓ 3 rfl ?_
          obtain rfl := Option.some.inj h37
          exact ⟨⟨rfl, trivial⟩, [], rfl, .inl rfl⟩
        · have h38 := cF hq33 hb
          refine go_ops hΓ 5 rfl ?_
          obtain rfl := Option.some.inj h38
          exact ⟨⟨rfl, trivial⟩, [], rfl, .inl rfl⟩
      · refine go_ops hΓ 4 rfl ?_
        obtain rfl := Option.some.inj h34
        exact fin_pure hΓ (.inr rfl) rfl rfl

theorem c_name_recordFault {k : Nat} {v_r : T_api_Record} {r : Int} (h : m_name_recordFault k v_r = some r) : Pure Tryz.prog 113 [.agg [S v_r.Name, I v_r.Kind, B v_r.Addr.Six, .d (.v (.int .u64 v_r.Addr.Hi)), .d (.v (.int .u64 v_r.Addr.Lo)), S v_r.To, S v_r.Words, I v_r.Life]] (I r) := by
  refine Pure.enter (Fr.of 0 _) Tryz.func113 rfl (Fr.of_ok _) rfl rfl ?_
  refine go_in ?_
  unfold m_name_recordFault at h
  refine go hΓ 2 rfl ?_
  refine eo_box rfl rfl rfl rfl (Nat.le_of_ble_eq_true rfl) ?_
  obtain ⟨y1, hy1, h2⟩ := bi_ok h
  refine go_ops hΓ 9 rfl ?_
  refine eo_callP (callable Tryz.func114 rfl rfl) (c_name_bare hy1) rfl (Nat.le_of_ble_eq_true rfl) rfl rfl rfl rfl rfl ?_
  obtain ⟨y3, hy3, h4⟩ := bi_ok h2
  refine eo_callP (callable Tryz.func90 rfl rfl) (c_name_CheckDomain hy3) rfl (Nat.le_of_ble_eq_true rfl) rfl rfl rfl rfl rfl ?_
  refine go_ops hΓ 2 rfl ?_
  refine o_cut 5 [(1, .ptr 0 0), (14, B (((y3 : Int) != 0) || (decide (((v_r.Name.length : Int) : Int) > 253))))] [.box 38 [S v_r.Name, I v_r.Kind, B v_r.Addr.Six, .d (.v (.int .u64 v_r.Addr.Hi)), .d (.v (.int .u64 v_r.Addr.Lo)), S v_r.To, S v_r.Words, I v_r.Life]] ?_ ?_
  · refine eo_gsplit rfl rfl (fun hb => ?_) (fun hb => ?_)
    · refine go_ops hΓ 6 rfl ?_
      exact ⟨⟨rfl, get_b rfl (or_t hb), trivial⟩, [], rfl, .inl rfl⟩
    · refine go_ops hΓ 6 rfl ?_
      exact ⟨⟨rfl, get_b rfl (or_f hb), trivial⟩, [], rfl, .inl rfl⟩
  · refine go_ops hΓ 3 rfl ?_
    refine j_cond rfl (fun hb => ?_) (fun hb => ?_)
    · have h5 := cT h4 hb
      refine go hΓ 8 rfl ?_
      obtain rfl := Option.some.inj h5
      exact fin_pure hΓ (.inr rfl) rfl rfl
    · have h6 := cF h4 hb
      obtain ⟨y7, hy7, h8⟩ := bi_ok h6
      refine go hΓ 4 rfl ?_
      refine eo_callP (callable Tryz.func106 rfl rfl) (c_name_isKind hy7) rfl (Nat.le_of_ble_eq_true rfl) rfl rfl rfl rfl rfl ?_
      refine go_ops hΓ 4 rfl ?_
      refine j_cond rfl (fun hb => ?_) (fun hb => ?_)
      · have h9 := cT h8 hb
        refine go hΓ 8 rfl ?_
        obtain rfl := Option.some.inj h9
        exact fin_pure hΓ (.inr rfl) rfl rfl
      · have h10 := cF h8 hb
        obtain ⟨y11, hy11, h12⟩ := bi_ok h10
        refine go hΓ 4 rfl ?_
        refine eo_callP (callable Tryz.func190 rfl rfl) (c_name_hasAddr hy11) rfl (Nat.le_of_ble_eq_true rfl) rfl rfl rfl rfl rfl ?_
        refine go_ops hΓ 1 rfl ?_
        obtain ⟨q13, hq13, h14⟩ := bi_ok h12
        refine o_cut 14 [(1, .ptr 0 0), (38, B q13)] [.box 38 [S v_r.Name, I v_r.Kind, B v_r.Addr.Six, .d (.v (.int .u64 v_r.Addr.Hi)), .d (.v (.int .u64 v_r.Addr.Lo)), S v_r.To, S v_r.Words, I v_r.Life]] ?_ ?_
        · refine eo_gsplit rfl rfl (fun hb => ?_) (fun hb => ?_)
          · have h15 := cT hq13 hb
            refine go_ops hΓ 8 rfl ?_
            obtain ⟨q16, hq16, h17⟩ := bi_ok h15
            refine o_cut 5 [(1, .ptr 0 0), (24, B true), (37, B q16)] [.box 38 [S v_r.Name, I v_r.Kind, B v_r.Addr.Six, .d (.v (.int .u64 v_r.Addr.Hi)), .d (.v (.int .u64 v_r.Addr.Lo)), S v_r.To, S v_r.Words, I v_r.Life]] ?_ ?_
            · refine eo_gsplit rfl rfl (fun hb => ?_) (fun hb => ?_)
              · have h18 := cT hq16 hb
                refine go_ops hΓ 6 rfl ?_
                obtain rfl := Option.some.inj h18
                exact ⟨⟨rfl, rfl, rfl, trivial⟩, [], rfl, .inl rfl⟩
              · have h19 := cF hq16 hb
                obtain ⟨y20, hy20, h21⟩ := bi_ok h19
                refine go_ops hΓ 2 rfl ?_
                refine eo_guard rfl ?_
                refine eo_callP (callable Tryz.func124 rfl rfl) (c_addr_CheckAddr hy20) rfl (Nat.le_of_ble_eq_true rfl) rfl rfl rfl rfl rfl ?_
                refine go_ops hΓ 3 rfl ?_
                obtain rfl := Option.some.inj h21
                exact ⟨⟨rfl, rfl, rfl, trivial⟩, [], rfl, .inl rfl⟩
            · refine go_ops hΓ 2 rfl ?_
              obtain rfl := Option.some.inj h17
              exact ⟨⟨rfl, rfl, trivial⟩, [], rfl, .inl rfl⟩
          · have h22 := cF hq13 hb
            refine go_ops hΓ 15 rfl ?_
            obtain rfl := Option.some.inj h22
            exact ⟨⟨rfl, rfl, trivial⟩, [], rfl, .inl rfl⟩
        · refine go_ops hΓ 3 rfl ?_
          refine j_cond rfl (fun hb => ?_) (fun hb => ?_)
          · have h23 := cT h14 hb
            refine go hΓ 8 rfl ?_
            obtain rfl := Option.some.inj h23
            exact fin_pure hΓ (.inr rfl) rfl rfl
          · have h24 := cF h14 hb
            obtain ⟨y25, hy25, h26⟩ := bi_ok h24
            refine go hΓ 4 rfl ?_
            refine eo_callP (callable Tryz.func190 rfl rfl) (c_name_hasAddr hy25) rfl (Nat.le_of_ble_eq_true rfl) rfl rfl rfl rfl rfl ?_
            refine go_ops hΓ 2 rfl ?_
            refine o_cut 5 [(1, .ptr 0 0), (49, B ((!y25) && (!(((v_r.Addr.Six : Bool) == false) && (((v_r.Addr.Hi : Int) == 0) && (((v_r.Addr.Lo : Int) == 0) && true))))))] [.box 38 [S v_r.Name, I v_r.Kind, B v_r.Addr.Six, .d (.v (.int .u64 v_r.Addr.Hi)), .d (.v (.int .u64 v_r.Addr.Lo)), S v_r.To, S v_r.Words, I v_r.Life]] ?_ ?_
            · refine eo_gsplit rfl rfl (fun hb => ?_) (fun hb => ?_)
              · refine go_ops hΓ 2 rfl ?_
                refine eo_guard rfl ?_
                refine eo_build hΓ (gs := [B false, .d (.v (.int .u64 0)), .d (.v (.int .u64 0))]) rfl rfl rfl rfl rfl rfl rfl ?_
                refine eo_guard rfl ?_
                refine eo_o rfl (op_neS hΓ [36] (b := (((v_r.Addr.Six : Bool) == false) && (((v_r.Addr.Hi : Int) == 0) && (((v_r.Addr.Lo : Int) == 0) && true)))) (by kernel_rfl) (by kernel_rfl) rfl rfl rfl) ?_
                refine go_ops hΓ 2 rfl ?_
                exact ⟨⟨rfl, get_b rfl (and_t hb), trivial⟩, [], rfl, .inl rfl⟩
              · refine go_ops hΓ 6 rfl ?_
                exact ⟨⟨rfl, get_b rfl (and_f hb), trivial⟩, [], rfl, .inl rfl⟩
            · refine go_ops hΓ 3 rfl ?_
              refine j_cond rfl (fun hb => ?_) (fun hb => ?_)
              · have h27 := cT h26 hb
                refine go hΓ 8 rfl ?_
                obtain rfl := Option.some.inj h27
                exact fin_pure hΓ (.inr rfl) rfl rfl
              · have h28 := cF h26 hb
                obtain ⟨y29, hy29, h30⟩ := bi_ok h28
                refine go hΓ 4 rfl ?_
                refine eo_callP (callable Tryz.func224 rfl rfl) (c_name_hasName hy29) rfl (Nat.le_of_ble_eq_true rfl) rfl rfl rfl rfl rfl ?_
                refine go_ops hΓ 1 rfl ?_
                obtain ⟨q31, hq31, h32⟩ := bi_ok h30
                refine o_cut 5 [(1, .ptr 0 0), (59, B q31)] [.box 38 [S v_r.Name, I v_r.Kind, B v_r.Addr.Six, .d (.v (.int .u64 v_r.Addr.Hi)), .d (.v (.int .u64 v_r.Addr.Lo)), S v_r.To, S v_r.Words, I v_r.Life]] ?_ ?_
                · refine eo_gsplit rfl rfl (fun hb => ?_) (fun hb => ?_)
                  · have h33 := cT hq31 hb
                    obtain ⟨y34, hy34, h35⟩ := bi_ok h33
                    refine go_ops hΓ 2 rfl ?_
                    refine eo_guard rfl ?_
                    refine eo_callP (callable Tryz.func90 rfl rfl) (c_name_CheckDomain hy34) rfl (Nat.le_of_ble_eq_true rfl) rfl rfl rfl rfl rfl ?_
                    refine go_ops hΓ 3 rfl ?_
                    obtain rfl := Option.some.inj h35
                    exact ⟨⟨rfl, rfl, trivial⟩, [], rfl, .inl rfl⟩
                  · have h36 := cF hq31 hb
                    refine go_ops hΓ 6 rfl ?_
                    obtain rfl := Option.some.inj h36
                    exact ⟨⟨rfl, rfl, trivial⟩, [], rfl, .inl rfl⟩
                · refine go_ops hΓ 3 rfl ?_
                  refine j_cond rfl (fun hb => ?_) (fun hb => ?_)
                  · have h37 := cT h32 hb
                    refine go hΓ 8 rfl ?_
                    obtain rfl := Option.some.inj h37
                    exact fin_pure hΓ (.inr rfl) rfl rfl
                  · have h38 := cF h32 hb
                    obtain ⟨y39, hy39, h40⟩ := bi_ok h38
                    refine go hΓ 4 rfl ?_
                    refine eo_callP (callable Tryz.func224 rfl rfl) (c_name_hasName hy39) rfl (Nat.le_of_ble_eq_true rfl) rfl rfl rfl rfl rfl ?_
                    refine go_ops hΓ 2 rfl ?_
                    refine o_cut 4 [(1, .ptr 0 0), (69, B ((!y39) && (!((v_r.To : Str) == []))))] [.box 38 [S v_r.Name, I v_r.Kind, B v_r.Addr.Six, .d (.v (.int .u64 v_r.Addr.Hi)), .d (.v (.int .u64 v_r.Addr.Lo)), S v_r.To, S v_r.Words, I v_r.Life]] ?_ ?_
                    · refine eo_gsplit rfl rfl (fun hb => ?_) (fun hb => ?_)
                      · refine go_ops hΓ 5 rfl ?_
                        exact ⟨⟨rfl, get_b rfl (and_t hb), trivial⟩, [], rfl, .inl rfl⟩
                      · refine go_ops hΓ 5 rfl ?_
                        exact ⟨⟨rfl, get_b rfl (and_f hb), trivial⟩, [], rfl, .inl rfl⟩
                    · refine go_ops hΓ 3 rfl ?_
                      refine j_cond rfl (fun hb => ?_) (fun hb => ?_)
                      · have h41 := cT h40 hb
                        refine go hΓ 8 rfl ?_
                        obtain rfl := Option.some.inj h41
                        exact fin_pure hΓ (.inr rfl) rfl rfl
                      · have h42 := cF h40 hb
                        refine go hΓ 6 rfl ?_
                        obtain ⟨q43, hq43, h44⟩ := bi_ok h42
                        refine o_cut 11 [(1, .ptr 0 0), (85, B q43)] [.box 38 [S v_r.Name, I v_r.Kind, B v_r.Addr.Six, .d (.v (.int .u64 v_r.Addr.Hi)), .d (.v (.int .u64 v_r.Addr.Lo)), S v_r.To, S v_r.Words, I v_r.Life]] ?_ ?_
                        · refine eo_gsplit rfl rfl (fun hb => ?_) (fun hb => ?_)
                          · have h45 := cT hq43 hb
                            obtain ⟨y46, hy46, h47⟩ := bi_ok h45
                            refine go_ops hΓ 2 rfl ?_
                            refine eo_guard rfl ?_
                            refine eo_callP (callable Tryz.func225 rfl rfl) (c_kit_IsPlain hy46) rfl (Nat.le_of_ble_eq_true rfl) rfl rfl rfl rfl rfl ?_
                            refine go_ops hΓ 2 rfl ?_
                            refine o_cut 5 [(1, .ptr 0 0), (74, B true), (84, B ((!y46) || (decide (((v_r.Words.length : Int) : Int) > 200))))] [.box 38 [S v_r.Name, I v_r.Kind, B v_r.Addr.Six, .d (.v (.int .u64 v_r.Addr.Hi)), .d (.v (.int .u64 v_r.Addr.Lo)), S v_r.To, S v_r.Words, I v_r.Life]] ?_ ?_
                            · refine eo_gsplit rfl rfl (fun hb => ?_) (fun hb => ?_)
                              · refine go_ops hΓ 6 rfl ?_
                                exact ⟨⟨rfl, rfl, get_b rfl (or_t hb), trivial⟩, [], rfl, .inl rfl⟩
                              · refine go_ops hΓ 6 rfl ?_
                                exact ⟨⟨rfl, rfl, get_b rfl (or_f hb), trivial⟩, [], rfl, .inl rfl⟩
                            · refine go_ops hΓ 2 rfl ?_
                              obtain rfl := Option.some.inj h47
                              exact ⟨⟨rfl, rfl, trivial⟩, [], rfl, .inl rfl⟩
                          · have h48 := cF hq43 hb
                            refine go_ops hΓ 12 rfl ?_
                            obtain rfl := Option.some.inj h48
                            exact ⟨⟨rfl, rfl, trivial⟩, [], rfl, .inl rfl⟩
                        · refine go_ops hΓ 1 rfl ?_
                          refine o_cut 9 [(1, .ptr 0 0), (95, B (q43 || (((v_r.Kind : Int) != 16) && (!((v_r.Words : Str) == [])))))] [.box 38 [S v_r.Name, I v_r.Kind, B v_r.Addr.Six, .d (.v (.int .u64 v_r.Addr.Hi)), .d (.v (.int .u64 v_r.Addr.Lo)), S v_r.To, S v_r.Words, I v_r.Life]] ?_ ?_
                          · refine eo_gsplit rfl rfl (fun hb => ?_) (fun hb => ?_)
                            · refine go_ops hΓ 10 rfl ?_
                              exact ⟨⟨rfl, get_b rfl (or_t hb), trivial⟩, [], rfl, .inl rfl⟩
                            · refine go_ops hΓ 4 rfl ?_
                              refine o_cut 4 [(1, .ptr 0 0), (86, B false), (94, B (((v_r.Kind : Int) != 16) && (!((v_r.Words : Str) == []))))] [.box 38 [S v_r.Name, I v_r.Kind, B v_r.Addr.Six, .d (.v (.int .u64 v_r.Addr.Hi)), .d (.v (.int .u64 v_r.Addr.Lo)), S v_r.To, S v_r.Words, I v_r.Life]] ?_ ?_
                              · refine eo_gsplit rfl rfl (fun hb => ?_) (fun hb => ?_)
                                · refine go_ops hΓ 5 rfl ?_
                                  exact ⟨⟨rfl, rfl, get_b rfl (and_t hb), trivial⟩, [], rfl, .inl rfl⟩
                                · refine go_ops hΓ 5 rfl ?_
                                  exact ⟨⟨rfl, rfl, get_b rfl (and_f hb), trivial⟩, [], rfl, .inl rfl⟩
                              · refine go_ops hΓ 2 rfl ?_
                                exact ⟨⟨rfl, get_b rfl (or_f hb), trivial⟩, [], rfl, .inl rfl⟩
                          · refine go_ops hΓ 3 rfl ?_
                            refine j_cond rfl (fun hb => ?_) (fun hb => ?_)
                            · have h49 := cT h44 hb
                              refine go hΓ 8 rfl ?_
                              obtain rfl := Option.some.inj h49
                              exact fin_pure hΓ (.inr rfl) rfl rfl
                            · have h50 := cF h44 hb
                              obtain ⟨y51, hy51, h52⟩ := bi_ok h50
                              refine go hΓ 4 rfl ?_
                              refine eo_callP (callable Tryz.func132 rfl rfl) (c_kit_Outside hy51) rfl (Nat.le_of_ble_eq_true rfl) rfl rfl rfl rfl rfl ?_
                              refine go_ops hΓ 3 rfl ?_
                              refine j_cond rfl (fun hb => ?_) (fun hb => ?_)
                              · have h53 := cT h52 hb
                                refine go hΓ 8 rfl ?_
                                obtain rfl := Option.some.inj h53
                                exact fin_pure hΓ (.inr rfl) rfl rfl
                              · have h54 := cF h52 hb
                                refine go hΓ 9 rfl ?_
                                obtain rfl := Option.some.inj h54
                                exact fin_pure hΓ (.inr rfl) rfl rfl

theorem c_name_under {name : Str} {zone : Str} {r : Bool} (h : m_name_under name zone = some r) : Pure Tryz.prog 107 [S name, S zone] (B r) := by
  refine Pure.enter (Fr.of 0 _) Tryz.func107 rfl (Fr.of_ok _) rfl rfl ?_
  refine go_in ?_
  unfold m_name_under at h
  refine go hΓ 11 rfl ?_
  obtain ⟨q1, hq1, h2⟩ := bi_ok h
  refine o_cut 5 [(4, B false), (13, B q1)] [] ?_ ?_
  · refine eo_gsplit rfl rfl (fun hb => ?_) (fun hb => ?_)
    · have h3 := cT hq1 hb
      refine go_ops hΓ 6 rfl ?_
      obtain rfl := Option.some.inj h3
      exact ⟨⟨rfl, rfl, trivial⟩, [], rfl, .inl rfl⟩
    · have h4 := cF hq1 hb
      obtain ⟨y5, hy5, h6⟩ := bi_ok h4
      refine go_ops hΓ 2 rfl ?_
      refine eo_guard rfl ?_
      refine eo_o rfl (op_catZ hy5 rfl rfl) ?_
      obtain ⟨y7, hy7, h8⟩ := bi_ok h6
      refine eo_guard rfl ?_
      refine eo_callP (callable Tryz.func215 rfl rfl) (c_strings_HasSuffix hy7) rfl (Nat.le_of_ble_eq_true rfl) rfl rfl rfl rfl rfl ?_
      refine go_ops hΓ 2 rfl ?_
      obtain rfl := Option.some.inj h8
      exact ⟨⟨rfl, rfl, trivial⟩, [], rfl, .inl rfl⟩
  · refine go_ops hΓ 4 rfl ?_
    obtain rfl := Option.some.inj h2
    exact fin_pure hΓ (.inr rfl) rfl rfl

theorem c_name_compareRecords {a : T_api_Record} {b : T_api_Record} {r : Int} (h : m_name_compareRecords a b = some r) : Pure Tryz.prog 115 [.agg [S a.Name, I a.Kind, B a.Addr.Six, .d (.v (.int .u64 a.Addr.Hi)), .d (.v (.int .u64 a.Addr.Lo)), S a.To, S a.Words, I a.Life], .agg [S b.Name, I b.Kind, B b.Addr.Six, .d (.v (.int .u64 b.Addr.Hi)), .d (.v (.int .u64 b.Addr.Lo)), S b.To, S b.Words, I b.Life]] (I r) := by
  refine Pure.enter (Fr.of 0 _) Tryz.func115 rfl (Fr.of_ok _) rfl rfl ?_
  refine go_in ?_
  unfold m_name_compareRecords at h
  refine go hΓ 2 rfl ?_
  refine eo_box rfl rfl rfl rfl (Nat.le_of_ble_eq_true rfl) ?_
  refine eo_box rfl rfl rfl rfl (Nat.le_of_ble_eq_true rfl) ?_
  refine go_ops hΓ 4 rfl ?_
  refine j_draw hmix (by kernel_rfl) ?_
  obtain ⟨y1, hy1, h2⟩ := bi_ok h
  refine go hΓ 4 rfl ?_
  refine gl_callP (callable Tryz.func174 rfl rfl) (c_strings_Compare hy1) rfl rfl rfl rfl rfl rfl ?_
  obtain ⟨y3, hy3, h4⟩ := bi_ok h2
  refine go_draw hΓ 4 rfl ?_
  refine gl_callP (callable Tryz.func146 rfl rfl) (c_cmp_Compare_int hy3) rfl rfl rfl rfl rfl rfl ?_
  obtain ⟨y5, hy5, h6⟩ := bi_ok h4
  refine go_draw hΓ 6 rfl ?_
  refine gl_callP (callable Tryz.func223 rfl rfl) (c_cmp_Compare_uint64 hy5) rfl rfl rfl rfl rfl rfl ?_
  obtain ⟨y7, hy7, h8⟩ := bi_ok h6
  refine go_draw hΓ 6 rfl ?_
  refine gl_callP (callable Tryz.func223 rfl rfl) (c_cmp_Compare_uint64 hy7) rfl rfl rfl rfl rfl rfl ?_
  obtain ⟨y9, hy9, h10⟩ := bi_ok h8
  refine go_draw hΓ 4 rfl ?_
  refine gl_callP (callable Tryz.func174 rfl rfl) (c_strings_Compare hy9) rfl rfl rfl rfl rfl rfl ?_
  obtain ⟨y11, hy11, h12⟩ := bi_ok h10
  refine go_draw hΓ 4 rfl ?_
  refine gl_callP (callable Tryz.func174 rfl rfl) (c_strings_Compare hy11) rfl rfl rfl rfl rfl rfl ?_
  refine gl_litT hΓ (enc := (eN .i64)) [y1, y3, y5, y7, y9, y11] rfl rfl rfl rfl rfl rfl rfl rfl rfl rfl rfl rfl ?_
  obtain ⟨y13, hy13, h14⟩ := bi_ok h12
  refine gl_callP (callable Tryz.func222 rfl rfl) (c_cmp_Or_int hy13) rfl rfl rfl rfl rfl rfl ?_
  refine go_draw hΓ 4 rfl ?_
  obtain rfl := Option.some.inj h14
  exact fin_pure hΓ (.inr rfl) rfl rfl

theorem c_name_CheckZone {k : Nat} {z : T_api_Zone} {r : Int} (h : m_name_CheckZone k z = some r) : Pure Tryz.prog 29 [.agg [S z.Root, .d (Sl e_api_Record z.Records)]] (I r) := by
  refine Pure.enter (Fr.of 0 _) Tryz.func29 rfl (Fr.of_ok _) rfl rfl ?_
  refine go_in ?_
  unfold m_name_CheckZone at h
  refine go hΓ 2 rfl ?_
  refine eo_box rfl rfl rfl rfl (Nat.le_of_ble_eq_true rfl) ?_
  obtain ⟨y1, hy1, h2⟩ := bi_ok h
  refine go_ops hΓ 8 rfl ?_
  refine eo_callP (callable Tryz.func90 rfl rfl) (c_name_CheckDomain hy1) rfl (Nat.le_of_ble_eq_true rfl) rfl rfl rfl rfl rfl ?_
  refine go_ops hΓ 9 rfl ?_
  refine j_cond rfl (fun hb => ?_) (fun hb => ?_)
  · have h3 := cT h2 hb
    refine go hΓ 8 rfl ?_
    obtain rfl := Option.some.inj h3
    exact fin_pure hΓ (.inr rfl) rfl rfl
  · have h4 := cF h2 hb
    refine go hΓ 11 rfl ?_
    refine j_cond rfl (fun hb => ?_) (fun hb => ?_)
    · have h5 := cT h4 hb
      refine go hΓ 7 rfl ?_
      obtain rfl := Option.some.inj h5
      exact fin_pure hΓ (.inr rfl) rfl rfl
    · have h6 := cF h4 hb
      refine go hΓ 11 rfl ?_
      obtain ⟨q10, hq10, h11⟩ := bi_ok h6
      refine j_bound 20 rfl fun hb13 => ?_
      refine j_cutEZ (R := fun a12 => q10 = .go a12) (fun a12 => []) (fun a12 => [.box 51 [S z.Root, .d (Sl e_api_Record z.Records)]]) ?_ ?_
      · refine go hΓ 1 rfl ?_
        refine j_range z.Records hq10 (fun i7 s8 => [(1, .ptr 0 0), (20, .d (Sl e_api_Record z.Records)), (21, I (z.Records.length : Int)), (22, I (i7 : Int))]) (fun s8 => [.box 51 [S z.Root, .d (Sl e_api_Record z.Records)]]) ⟨⟨rfl, rfl, rfl, rfl, trivial⟩, [], rfl, .inl rfl⟩ (fun i7 x9 s8 y17 hx14 hlt hy15 hout16 => ?_) (fun s8 hgo => ?_)
        · refine go hΓ 6 rfl ?_
          refine j_condT rfl (decide_eq_true (Int.ofNat_lt.2 hlt)) ?_
          refine go hΓ 7 rfl ?_
          refine eo_o rfl (op_elemZ hΓ (enc := e_api_Record) (getZ_nat hx14) rfl rfl rfl rfl rfl (fun _ => rfl)) ?_
          refine go_ops hΓ 1 rfl ?_
          refine eo_alloc hΓ rfl rfl rfl (Nat.le_of_ble_eq_true rfl) ?_
          refine go_ops hΓ 1 rfl ?_
          refine eo_store hΓ rfl rfl rfl rfl rfl rfl rfl rfl (Nat.le_of_ble_eq_true rfl) ?_
          refine eo_hp [.box 51 [S z.Root, .d (Sl e_api_Record z.Records)], .box 38 [S x9.Name, I x9.Kind, B x9.Addr.Six, .d (.v (.int .u64 x9.Addr.Hi)), .d (.v (.int .u64 x9.Addr.Lo)), S x9.To, S x9.Words, I x9.Life]] rfl ?_
          obtain ⟨y18, hy18, h19⟩ := bi_ok hy15
          refine go_ops hΓ 6 rfl ?_
          refine eo_callP (callable Tryz.func113 rfl rfl) (c_name_recordFault hy18) rfl (Nat.le_of_ble_eq_true rfl) rfl rfl rfl rfl rfl ?_
          refine go_ops hΓ 9 rfl ?_
          refine j_cond rfl (fun hb => ?_) (fun hb => ?_)
          · have h20 := cT h19 hb
            refine go hΓ 10 rfl ?_
            obtain ⟨v21, hv21, h22⟩ := bi_ok h20
            obtain rfl := Option.some.inj h22
            obtain rfl := hout16 _ rfl
            obtain rfl := Option.some.inj h11
            refine go hΓ 4 rfl ?_
            obtain rfl := Option.some.inj hv21
            exact fin_pure hΓ (.inr rfl) rfl rfl
          · have h23 := cF h19 hb
            refine go hΓ 4 rfl ?_
            refine j_draw hmix (by kernel_rfl) ?_
            obtain ⟨y24, hy24, h25⟩ := bi_ok h23
            refine go hΓ 2 rfl ?_
            refine gl_callP (callable Tryz.func114 rfl rfl) (c_name_bare hy24) rfl rfl rfl rfl rfl rfl ?_
            obtain ⟨y26, hy26, h27⟩ := bi_ok h25
            refine go_draw hΓ 2 rfl ?_
            refine gl_callP (callable Tryz.func107 rfl rfl) (c_name_under hy26) rfl rfl rfl rfl rfl rfl ?_
            refine go_draw hΓ 3 rfl ?_
            refine j_cond rfl (fun hb => ?_) (fun hb => ?_)
            · have h28 := cT h27 hb
              refine go hΓ 9 rfl ?_
              obtain ⟨v29, hv29, h30⟩ := bi_ok h28
              obtain rfl := Option.some.inj h30
              obtain rfl := hout16 _ rfl
              obtain rfl := Option.some.inj h11
              refine go hΓ 4 rfl ?_
              obtain rfl := Option.some.inj hv29
              exact fin_pure hΓ (.inr rfl) rfl rfl
            · have h31 := cF h27 hb
              refine go hΓ 9 rfl ?_
              refine j_cond rfl (fun hb => ?_) (fun hb => ?_)
              · have h32 := cT h31 hb
                refine go hΓ 8 rfl ?_
                obtain rfl := Option.some.inj h32
                exact ⟨_, rfl, ⟨⟨rfl, rfl, rfl, get_eq rfl (w64_succ (Nat.lt_of_lt_of_le hlt hb13)), trivial⟩, [_], rfl, .inr ⟨HB.mk rfl, FB.mk rfl, (Nat.le_of_ble_eq_true rfl)⟩⟩⟩
              · have h33 := cF h31 hb
                obtain ⟨x34, hx34, h35⟩ := bi_ok h33
                refine go hΓ 8 rfl ?_
                refine eo_o rfl (op_elemZ hΓ (enc := e_api_Record) hx34 rfl rfl rfl rfl rfl (fun _ => rfl)) ?_
                refine go_ops hΓ 1 rfl ?_
                refine eo_alloc hΓ rfl rfl rfl (Nat.le_of_ble_eq_true rfl) ?_
                refine eo_store hΓ rfl rfl rfl rfl rfl rfl rfl rfl (Nat.le_of_ble_eq_true rfl) ?_
                refine eo_hp [.box 51 [S z.Root, .d (Sl e_api_Record z.Records)], .box 38 [S x9.Name, I x9.Kind, B x9.Addr.Six, .d (.v (.int .u64 x9.Addr.Hi)), .d (.v (.int .u64 x9.Addr.Lo)), S x9.To, S x9.Words, I x9.Life], .box 38 [S x34.Name, I x34.Kind, B x34.Addr.Six, .d (.v (.int .u64 x34.Addr.Hi)), .d (.v (.int .u64 x34.Addr.Lo)), S x34.To, S x34.Words, I x34.Life]] rfl ?_
                obtain ⟨y36, hy36, h37⟩ := bi_ok h35
                refine go_ops hΓ 6 rfl ?_
                refine eo_callP (callable Tryz.func115 rfl rfl) (c_name_compareRecords hy36) rfl (Nat.le_of_ble_eq_true rfl) rfl rfl rfl rfl rfl ?_
                refine go_ops hΓ 11 rfl ?_
                refine j_cond rfl (fun hb => ?_) (fun hb => ?_)
                · have h38 := cT h37 hb
                  refine go hΓ 9 rfl ?_
                  obtain ⟨v39, hv39, h40⟩ := bi_ok h38
                  obtain rfl := Option.some.inj h40
                  obtain rfl := hout16 _ rfl
                  obtain rfl := Option.some.inj h11
                  refine go hΓ 4 rfl ?_
                  obtain rfl := Option.some.inj hv39
                  exact fin_pure hΓ (.inr rfl) rfl rfl
                · have h41 := cF h37 hb
                  refine go hΓ 7 rfl ?_
                  refine j_cond rfl (fun hb => ?_) (fun hb => ?_)
                  · have h42 := cT h41 hb
                    refine go hΓ 9 rfl ?_
                    obtain ⟨v43, hv43, h44⟩ := bi_ok h42
                    obtain rfl := Option.some.inj h44
                    obtain rfl := hout16 _ rfl
                    obtain rfl := Option.some.inj h11
                    refine go hΓ 4 rfl ?_
                    obtain rfl := Option.some.inj hv43
                    exact fin_pure hΓ (.inr rfl) rfl rfl
                  · have h45 := cF h41 hb
                    refine go hΓ 8 rfl ?_
                    refine o_cut 9 [(1, .ptr 0 0), (20, .d (Sl e_api_Record z.Records)), (21, I (z.Records.length : Int)), (22, I (i7 : Int)), (71, B (((x34.Name : Str) == x9.Name) && (((x34.Kind : Int) == 5) || ((x9.Kind : Int) == 5))))] [.box 51 [S z.Root, .d (Sl e_api_Record z.Records)], .box 38 [S x9.Name, I x9.Kind, B x9.Addr.Six, .d (.v (.int .u64 x9.Addr.Hi)), .d (.v (.int .u64 x9.Addr.Lo)), S x9.To, S x9.Words, I x9.Life], .box 38 [S x34.Name, I x34.Kind, B x34.Addr.Six, .d (.v (.int .u64 x34.Addr.Hi)), .d (.v (.int .u64 x34.Addr.Lo)), S x34.To, S x34.Words, I x34.Life]] ?_ ?_
                    · refine eo_gsplit rfl rfl (fun hb => ?_) (fun hb => ?_)
                      · refine go_ops hΓ 4 rfl ?_
                        refine o_cut 4 [(1, .ptr 0 0), (20, .d (Sl e_api_Record z.Records)), (21, I (z.Records.length : Int)), (22, I (i7 : Int)), (62, B true), (70, B (((x34.Kind : Int) == 5) || ((x9.Kind : Int) == 5)))] [.box 51 [S z.Root, .d (Sl e_api_Record z.Records)], .box 38 [S x9.Name, I x9.Kind, B x9.Addr.Six, .d (.v (.int .u64 x9.Addr.Hi)), .d (.v (.int .u64 x9.Addr.Lo)), S x9.To, S x9.Words, I x9.Life], .box 38 [S x34.Name, I x34.Kind, B x34.Addr.Six, .d (.v (.int .u64 x34.Addr.Hi)), .d (.v (.int .u64 x34.Addr.Lo)), S x34.To, S x34.Words, I x34.Life]] ?_ ?_
                        · refine eo_gsplit rfl rfl (fun hb => ?_) (fun hb => ?_)
                          · refine go_ops hΓ 5 rfl ?_
                            exact ⟨⟨rfl, rfl, rfl, rfl, rfl, get_b rfl (or_t hb), trivial⟩, [], rfl, .inl rfl⟩
                          · refine go_ops hΓ 5 rfl ?_
                            exact ⟨⟨rfl, rfl, rfl, rfl, rfl, get_b rfl (or_f hb), trivial⟩, [], rfl, .inl rfl⟩
                        · refine go_ops hΓ 2 rfl ?_
                          exact ⟨⟨rfl, rfl, rfl, rfl, get_b rfl (and_t hb), trivial⟩, [], rfl, .inl rfl⟩
                      · refine go_ops hΓ 10 rfl ?_
                        exact ⟨⟨rfl, rfl, rfl, rfl, get_b rfl (and_f hb), trivial⟩, [], rfl, .inl rfl⟩
                    · refine go_ops hΓ 3 rfl ?_
                      refine j_cond rfl (fun hb => ?_) (fun hb => ?_)
                      · have h46 := cT h45 hb
                        refine go hΓ 9 rfl ?_
                        obtain ⟨v47, hv47, h48⟩ := bi_ok h46
                        obtain rfl := Option.some.inj h48
                        obtain rfl := hout16 _ rfl
                        obtain rfl := Option.some.inj h11
                        refine go hΓ 4 rfl ?_
                        obtain rfl := Option.some.inj hv47
                        exact fin_pure hΓ (.inr rfl) rfl rfl
                      · have h49 := cF h45 hb
                        refine go hΓ 8 rfl ?_
                        obtain rfl := Option.some.inj h49
                        exact ⟨_, rfl, ⟨⟨rfl, rfl, rfl, get_eq rfl (w64_succ (Nat.lt_of_lt_of_le hlt hb13)), trivial⟩, [_, _], rfl, .inr ⟨HB.mk rfl, FB.mk rfl, (Nat.le_of_ble_eq_true rfl)⟩⟩⟩
        · subst hgo
          refine go hΓ 6 rfl ?_
          refine j_condF rfl (decide_eq_false (Int.lt_irrefl _)) ?_
          refine go hΓ 4 rfl ?_
          exact ⟨_, rfl, ⟨trivial, [], rfl, .inl rfl⟩⟩
      · intro a12 ha
        subst ha
        replace h11 := goI_l h11
        refine go hΓ 7 rfl ?_
        obtain rfl := Option.some.inj h11
        exact fin_pure hΓ (.inr rfl) rfl rfl

theorem c_name_CheckNet {k : Nat} {n : T_api_Net} {r : Int} (h : m_name_CheckNet k n = some r) : Pure Tryz.prog 61 [.agg [.d (Sl eS n.Search), I n.Dots, .d (Sl e_api_Split n.Splits), .d (Sl e_api_Source n.Sources)]] (I r) := by
  refine Pure.enter (Fr.of 0 _) Tryz.func61 rfl (Fr.of_ok _) rfl rfl ?_
  refine go_in ?_
  unfold m_name_CheckNet at h
  refine go hΓ 2 rfl ?_
  refine eo_box rfl rfl rfl rfl (Nat.le_of_ble_eq_true rfl) ?_
  obtain ⟨y1, hy1, h2⟩ := bi_ok h
  refine go_ops hΓ 10 rfl ?_
  refine eo_callP (callable Tryz.func161 rfl rfl) (c_name_searchFault hy1) rfl (Nat.le_of_ble_eq_true rfl) rfl rfl rfl rfl rfl ?_
  refine go_ops hΓ 9 rfl ?_
  refine j_cond rfl (fun hb => ?_) (fun hb => ?_)
  · have h3 := cT h2 hb
    refine go hΓ 8 rfl ?_
    obtain rfl := Option.some.inj h3
    exact fin_pure hΓ (.inr rfl) rfl rfl
  · have h4 := cF h2 hb
    obtain ⟨y5, hy5, h6⟩ := bi_ok h4
    refine go hΓ 7 rfl ?_
    refine eo_callP (callable Tryz.func162 rfl rfl) (c_name_CheckSplits hy5) rfl (Nat.le_of_ble_eq_true rfl) rfl rfl rfl rfl rfl ?_
    refine go_ops hΓ 9 rfl ?_
    refine j_cond rfl (fun hb => ?_) (fun hb => ?_)
    · have h7 := cT h6 hb
      refine go hΓ 8 rfl ?_
      obtain rfl := Option.some.inj h7
      exact fin_pure hΓ (.inr rfl) rfl rfl
    · have h8 := cF h6 hb
      refine go hΓ 11 rfl ?_
      refine j_cond rfl (fun hb => ?_) (fun hb => ?_)
      · have h9 := cT h8 hb
        refine go hΓ 7 rfl ?_
        obtain rfl := Option.some.inj h9
        exact fin_pure hΓ (.inr rfl) rfl rfl
      · have h10 := cF h8 hb
        refine go hΓ 11 rfl ?_
        obtain ⟨q14, hq14, h15⟩ := bi_ok h10
        refine j_bound 29 rfl fun hb17 => ?_
        refine j_cutEZ (R := fun a16 => q14 = .go a16) (fun a16 => []) (fun a16 => [.box 92 [.d (Sl eS n.Search), I n.Dots, .d (Sl e_api_Split n.Splits), .d (Sl e_api_Source n.Sources)]]) ?_ ?_
        · refine go hΓ 1 rfl ?_
          refine j_range n.Sources hq14 (fun i11 s12 => [(1, .ptr 0 0), (29, .d (Sl e_api_Source n.Sources)), (30, I (n.Sources.length : Int)), (31, I (i11 : Int))]) (fun s12 => [.box 92 [.d (Sl eS n.Search), I n.Dots, .d (Sl e_api_Split n.Splits), .d (Sl e_api_Source n.Sources)]]) ⟨⟨rfl, rfl, rfl, rfl, trivial⟩, [], rfl, .inl rfl⟩ (fun i11 x13 s12 y21 hx18 hlt hy19 hout20 => ?_) (fun s12 hgo => ?_)
          · refine go hΓ 6 rfl ?_
            refine j_condT rfl (decide_eq_true (Int.ofNat_lt.2 hlt)) ?_
            refine go hΓ 7 rfl ?_
            refine eo_o rfl (op_elemZ hΓ (enc := e_api_Source) (getZ_nat hx18) rfl rfl rfl rfl rfl (fun _ => rfl)) ?_
            refine go_ops hΓ 1 rfl ?_
            refine eo_alloc hΓ rfl rfl rfl (Nat.le_of_ble_eq_true rfl) ?_
            refine go_ops hΓ 1 rfl ?_
            refine eo_store hΓ rfl rfl rfl rfl rfl rfl rfl rfl (Nat.le_of_ble_eq_true rfl) ?_
            refine eo_hp [.box 92 [.d (Sl eS n.Search), I n.Dots, .d (Sl e_api_Split n.Splits), .d (Sl e_api_Source n.Sources)], .box 207 [S x13.Server, .d (Sl e_api_Zone x13.Zones)]] rfl ?_
            obtain ⟨y22, hy22, h23⟩ := bi_ok hy19
            refine go_ops hΓ 8 rfl ?_
            refine eo_callP (callable Tryz.func163 rfl rfl) (c_kit_IsKey hy22) rfl (Nat.le_of_ble_eq_true rfl) rfl rfl rfl rfl rfl ?_
            refine go_ops hΓ 4 rfl ?_
            refine j_cond rfl (fun hb => ?_) (fun hb => ?_)
            · have h24 := cT h23 hb
              refine go hΓ 10 rfl ?_
              obtain ⟨v25, hv25, h26⟩ := bi_ok h24
              obtain rfl := Option.some.inj h26
              obtain rfl := hout20 _ rfl
              obtain rfl := Option.some.inj h15
              refine go hΓ 4 rfl ?_
              obtain rfl := Option.some.inj hv25
              exact fin_pure hΓ (.inr rfl) rfl rfl
            · have h27 := cF h23 hb
              obtain ⟨q28, hq28, h29⟩ := bi_ok h27
              refine go hΓ 1 rfl ?_
              refine j_cutNZ [(1, .ptr 0 0), (6, .ptr 1 0), (29, .d (Sl e_api_Source n.Sources)), (30, I (n.Sources.length : Int)), (31, I (i11 : Int)), (41, B q28)] [.box 92 [.d (Sl eS n.Search), I n.Dots, .d (Sl e_api_Split n.Splits), .d (Sl e_api_Source n.Sources)], .box 207 [S x13.Server, .d (Sl e_api_Zone x13.Zones)]] ?_ ?_
              · refine j_draw hmix (by kernel_rfl) ?_
                refine go hΓ 3 rfl ?_
                refine gl_gsplit rfl rfl (fun hb => ?_) (fun hb => ?_)
                · have h30 := cT hq28 hb
                  obtain ⟨x31, hx31, h32⟩ := bi_ok h30
                  refine go_draw hΓ 6 rfl ?_
                  refine gl_og rfl rfl (op_elemZ hΓ (enc := e_api_Source) hx31 rfl rfl rfl rfl rfl (fun _ => rfl)) ?_
                  refine go_draw hΓ 6 rfl ?_
                  obtain rfl := Option.some.inj h32
                  exact ⟨⟨rfl, rfl, rfl, rfl, rfl, rfl, trivial⟩, [], rfl, .inl rfl⟩
                · have h33 := cF hq28 hb
                  refine go_draw hΓ 13 rfl ?_
                  obtain rfl := Option.some.inj h33
                  exact ⟨⟨rfl, rfl, rfl, rfl, rfl, rfl, trivial⟩, [], rfl, .inl rfl⟩
              · refine go hΓ 1 rfl ?_
                refine j_cond rfl (fun hb => ?_) (fun hb => ?_)
                · have h34 := cT h29 hb
                  refine go hΓ 10 rfl ?_
                  obtain ⟨v35, hv35, h36⟩ := bi_ok h34
                  obtain rfl := Option.some.inj h36
                  obtain rfl := hout20 _ rfl
                  obtain rfl := Option.some.inj h15
                  refine go hΓ 4 rfl ?_
                  obtain rfl := Option.some.inj hv35
                  exact fin_pure hΓ (.inr rfl) rfl rfl
                · have h37 := cF h29 hb
                  refine go hΓ 9 rfl ?_
                  refine j_cond rfl (fun hb => ?_) (fun hb => ?_)
                  · have h38 := cT h37 hb
                    refine go hΓ 10 rfl ?_
                    obtain ⟨v39, hv39, h40⟩ := bi_ok h38
                    obtain rfl := Option.some.inj h40
                    obtain rfl := hout20 _ rfl
                    obtain rfl := Option.some.inj h15
                    refine go hΓ 4 rfl ?_
                    obtain rfl := Option.some.inj hv39
                    exact fin_pure hΓ (.inr rfl) rfl rfl
                  · have h41 := cF h37 hb
                    refine go hΓ 11 rfl ?_
                    obtain ⟨q45, hq45, h46⟩ := bi_ok h41
                    refine j_bound 62 rfl fun hb48 => ?_
                    refine j_cutEZ (R := fun a47 => q45 = .go a47) (fun a47 => [(1, .ptr 0 0), (29, .d (Sl e_api_Source n.Sources)), (30, I (n.Sources.length : Int)), (31, I (i11 : Int))]) (fun a47 => [.box 92 [.d (Sl eS n.Search), I n.Dots, .d (Sl e_api_Split n.Splits), .d (Sl e_api_Source n.Sources)], .box 207 [S x13.Server, .d (Sl e_api_Zone x13.Zones)]]) ?_ ?_
                    · refine go hΓ 1 rfl ?_
                      refine j_range x13.Zones hq45 (fun i42 s43 => [(1, .ptr 0 0), (6, .ptr 1 0), (29, .d (Sl e_api_Source n.Sources)), (30, I (n.Sources.length : Int)), (31, I (i11 : Int)), (62, .d (Sl e_api_Zone x13.Zones)), (63, I (x13.Zones.length : Int)), (64, I (i42 : Int))]) (fun s43 => [.box 92 [.d (Sl eS n.Search), I n.Dots, .d (Sl e_api_Split n.Splits), .d (Sl e_api_Source n.Sources)], .box 207 [S x13.Server, .d (Sl e_api_Zone x13.Zones)]]) ⟨⟨rfl, rfl, rfl, rfl, rfl, rfl, rfl, rfl, trivial⟩, [], rfl, .inl rfl⟩ (fun i42 x44 s43 y52 hx49 hlt hy50 hout51 => ?_) (fun s43 hgo => ?_)
                      · refine go hΓ 6 rfl ?_
                        refine j_condT rfl (decide_eq_true (Int.ofNat_lt.2 hlt)) ?_
                        refine go hΓ 7 rfl ?_
                        refine eo_o rfl (op_elemZ hΓ (enc := e_api_Zone) (getZ_nat hx49) rfl rfl rfl rfl rfl (fun _ => rfl)) ?_
                        refine go_ops hΓ 1 rfl ?_
                        refine eo_alloc hΓ rfl rfl rfl (Nat.le_of_ble_eq_true rfl) ?_
                        refine go_ops hΓ 1 rfl ?_
                        refine eo_store hΓ rfl rfl rfl rfl rfl rfl rfl rfl (Nat.le_of_ble_eq_true rfl) ?_
                        refine eo_hp [.box 92 [.d (Sl eS n.Search), I n.Dots, .d (Sl e_api_Split n.Splits), .d (Sl e_api_Source n.Sources)], .box 207 [S x13.Server, .d (Sl e_api_Zone x13.Zones)], .box 51 [S x44.Root, .d (Sl e_api_Record x44.Records)]] rfl ?_
                        obtain ⟨y53, hy53, h54⟩ := bi_ok hy50
                        refine go_ops hΓ 6 rfl ?_
                        refine eo_callP (callable Tryz.func29 rfl rfl) (c_name_CheckZone hy53) rfl (Nat.le_of_ble_eq_true rfl) rfl rfl rfl rfl rfl ?_
                        refine go_ops hΓ 9 rfl ?_
                        refine j_cond rfl (fun hb => ?_) (fun hb => ?_)
                        · have h55 := cT h54 hb
                          refine go hΓ 10 rfl ?_
                          obtain ⟨v56, hv56, h57⟩ := bi_ok h55
                          obtain rfl := Option.some.inj h57
                          obtain rfl := hout51 _ rfl
                          obtain rfl := Option.some.inj h46
                          refine go hΓ 5 rfl ?_
                          obtain ⟨v58, hv58, h59⟩ := bi_ok hv56
                          obtain rfl := Option.some.inj h59
                          obtain rfl := hout20 _ rfl
                          obtain rfl := Option.some.inj h15
                          refine go hΓ 4 rfl ?_
                          obtain rfl := Option.some.inj hv58
                          exact fin_pure hΓ (.inr rfl) rfl rfl
                        · have h60 := cF h54 hb
                          obtain ⟨q61, hq61, h62⟩ := bi_ok h60
                          refine go hΓ 3 rfl ?_
                          refine j_cutNZ [(1, .ptr 0 0), (6, .ptr 1 0), (29, .d (Sl e_api_Source n.Sources)), (30, I (n.Sources.length : Int)), (31, I (i11 : Int)), (62, .d (Sl e_api_Zone x13.Zones)), (63, I (x13.Zones.length : Int)), (64, I (i42 : Int)), (87, B q61)] [.box 92 [.d (Sl eS n.Search), I n.Dots, .d (Sl e_api_Split n.Splits), .d (Sl e_api_Source n.Sources)], .box 207 [S x13.Server, .d (Sl e_api_Zone x13.Zones)], .box 51 [S x44.Root, .d (Sl e_api_Record x44.Records)]] ?_ ?_
                          · refine j_draw hmix (by kernel_rfl) ?_
                            refine go hΓ 3 rfl ?_
                            refine gl_gsplit rfl rfl (fun hb => ?_) (fun hb => ?_)
                            · have h63 := cT hq61 hb
                              obtain ⟨x64, hx64, h65⟩ := bi_ok h63
                              refine go_draw hΓ 6 rfl ?_
                              refine gl_og rfl rfl (op_elemZ hΓ (enc := e_api_Zone) hx64 rfl rfl rfl rfl rfl (fun _ => rfl)) ?_
                              refine go_draw hΓ 5 rfl ?_
                              obtain rfl := Option.some.inj h65
                              exact ⟨⟨rfl, rfl, rfl, rfl, rfl, rfl, rfl, rfl, rfl, trivial⟩, [], rfl, .inl rfl⟩
                            · have h66 := cF hq61 hb
                              refine go_draw hΓ 12 rfl ?_
                              obtain rfl := Option.some.inj h66
                              exact ⟨⟨rfl, rfl, rfl, rfl, rfl, rfl, rfl, rfl, rfl, trivial⟩, [], rfl, .inl rfl⟩
                          · refine go hΓ 1 rfl ?_
                            refine j_cond rfl (fun hb => ?_) (fun hb => ?_)
                            · have h67 := cT h62 hb
                              refine go hΓ 8 rfl ?_
                              obtain ⟨v68, hv68, h69⟩ := bi_ok h67
                              obtain rfl := Option.some.inj h69
                              obtain rfl := hout51 _ rfl
                              obtain rfl := Option.some.inj h46
                              refine go hΓ 5 rfl ?_
                              obtain ⟨v70, hv70, h71⟩ := bi_ok hv68
                              obtain rfl := Option.some.inj h71
                              obtain rfl := hout20 _ rfl
                              obtain rfl := Option.some.inj h15
                              refine go hΓ 4 rfl ?_
                              obtain rfl := Option.some.inj hv70
                              exact fin_pure hΓ (.inr rfl) rfl rfl
                            · have h72 := cF h62 hb
                              refine go hΓ 7 rfl ?_
                              obtain rfl := Option.some.inj h72
                              exact ⟨_, rfl, ⟨⟨rfl, rfl, rfl, rfl, rfl, rfl, rfl, get_eq rfl (w64_succ (Nat.lt_of_lt_of_le hlt hb48)), trivial⟩, [_], rfl, .inr ⟨HB.mk rfl, FB.mk rfl, (Nat.le_of_ble_eq_true rfl)⟩⟩⟩
                      · subst hgo
                        refine go hΓ 6 rfl ?_
                        refine j_condF rfl (decide_eq_false (Int.lt_irrefl _)) ?_
                        refine go hΓ 4 rfl ?_
                        exact ⟨_, rfl, ⟨⟨rfl, rfl, rfl, rfl, trivial⟩, [], rfl, .inl rfl⟩⟩
                    · intro a47 ha
                      subst ha
                      replace h46 := goI_l h46
                      refine go hΓ 6 rfl ?_
                      obtain rfl := Option.some.inj h46
                      exact ⟨_, rfl, ⟨⟨rfl, rfl, rfl, get_eq rfl (w64_succ (Nat.lt_of_lt_of_le hlt hb17)), trivial⟩, [_], rfl, .inr ⟨HB.mk rfl, FB.mk rfl, (Nat.le_of_ble_eq_true rfl)⟩⟩⟩
          · subst hgo
            refine go hΓ 6 rfl ?_
            refine j_condF rfl (decide_eq_false (Int.lt_irrefl _)) ?_
            refine go hΓ 4 rfl ?_
            exact ⟨_, rfl, ⟨trivial, [], rfl, .inl rfl⟩⟩
        · intro a16 ha
          subst ha
          replace h15 := goI_l h15
          refine go hΓ 7 rfl ?_
          obtain rfl := Option.some.inj h15
          exact fin_pure hΓ (.inr rfl) rfl rfl

theorem c_name_names {search : List Str} {dots : Int} {name : Str} {r : List Str} (h : m_name_names search dots name = some r) : EC Tryz.prog 156 [.d (Sl eS search), I dots, S name] [] fun g hp' => g = .sl 0 r.length ∧ hp' = [.row 9 1 r.length (r.flatMap eS)] := by
  refine ec_enter (Fr.of 0 _) Tryz.func156 rfl (Fr.of_ok _) (Nat.le_of_ble_eq_true rfl) fun _ => ?_
  refine go_in ?_
  unfold m_name_names at h
  refine go hΓ 7 rfl ?_
  refine eo_nilOwn (t := 0) 9 1 rfl (Nat.le_of_ble_eq_true rfl) ?_
  refine go_ops hΓ 10 rfl ?_
  obtain ⟨q4, hq4, h5⟩ := bi_ok h
  refine j_bound 13 rfl fun hb7 => ?_
  refine j_cutNZ [(1, I dots), (2, S name), (7, .sl 0 q4.length)] [.row 9 1 q4.length (q4.flatMap eS)] ?_ ?_
  · refine go hΓ 1 rfl ?_
    refine j_rangeF search hq4 (fun i1 s2 => [(1, I dots), (2, S name), (7, .sl 0 s2.length), (13, .d (Sl eS search)), (14, I (search.length : Int)), (15, I (i1 : Int))]) (fun s2 => [.row 9 1 s2.length (s2.flatMap eS)]) ⟨⟨rfl, rfl, rfl, rfl, rfl, rfl, trivial⟩, [], rfl, .inl rfl⟩ (fun i1 x3 s2 y11 hx8 hlt hy9 => ?_) (?_)
    · refine go hΓ 6 rfl ?_
      refine j_condT rfl (decide_eq_true (Int.ofNat_lt.2 hlt)) ?_
      refine go hΓ 6 rfl ?_
      refine eo_o rfl (op_elemZ hΓ (enc := eS) (getZ_nat hx8) rfl rfl rfl rfl rfl (fun _ => rfl)) ?_
      obtain ⟨y12, hy12, h13⟩ := bi_ok hy9
      refine go_ops hΓ 7 rfl ?_
      refine eo_o rfl (op_catZ hy12 rfl rfl) ?_
      obtain ⟨y14, hy14, h15⟩ := bi_ok h13
      refine go_ops hΓ 1 rfl ?_
      refine eo_o rfl (op_catZ hy14 rfl rfl) ?_
      refine eo_litT hΓ (enc := eS) [y14] rfl rfl rfl rfl rfl rfl rfl rfl rfl rfl rfl rfl (Nat.le_of_ble_eq_true rfl) ?_
      obtain ⟨y16, hy16, h17⟩ := bi_ok h15
      refine eo_appendT hΓ (enc := eS) hy16 rfl rfl rfl rfl rfl rfl rfl rfl rfl (fun _ => rfl) rfl rfl rfl rfl ?_
      refine go_ops hΓ 8 rfl ?_
      obtain rfl := Option.some.inj h17
      exact ⟨⟨rfl, rfl, rfl, rfl, rfl, get_eq rfl (w64_succ (Nat.lt_of_lt_of_le hlt hb7)), trivial⟩, [], rfl, .inl rfl⟩
    · refine go hΓ 6 rfl ?_
      refine j_condF rfl (decide_eq_false (Int.lt_irrefl _)) ?_
      refine go hΓ 4 rfl ?_
      exact ⟨⟨rfl, rfl, rfl, trivial⟩, [], rfl, .inl rfl⟩
  · obtain ⟨y18, hy18, h19⟩ := bi_ok h5
    refine go hΓ 5 rfl ?_
    refine eo_callP (callable Tryz.func245 rfl rfl) (c_strings_Count hy18) rfl (Nat.le_of_ble_eq_true rfl) rfl rfl rfl rfl rfl ?_
    obtain ⟨q20, hq20, h21⟩ := bi_ok h19
    refine go_ops hΓ 4 rfl ?_
    refine j_cutNZ [(7, .sl 0 q20.length)] [.row 9 1 q20.length (q20.flatMap eS)] ?_ ?_
    · refine j_cond rfl (fun hb => ?_) (fun hb => ?_)
      · have h22 := cT hq20 hb
        refine go hΓ 3 rfl ?_
        refine eo_litT hΓ (enc := eS) [name] rfl rfl rfl rfl rfl rfl rfl rfl rfl rfl rfl rfl (Nat.le_of_ble_eq_true rfl) ?_
        obtain ⟨y23, hy23, h24⟩ := bi_ok h22
        refine eo_appendT hΓ (enc := eS) hy23 rfl rfl rfl rfl rfl rfl rfl rfl rfl (fun _ => rfl) rfl rfl rfl rfl ?_
        refine go_ops hΓ 2 rfl ?_
        obtain rfl := Option.some.inj h24
        exact ⟨⟨rfl, trivial⟩, [], rfl, .inl rfl⟩
      · have h25 := cF hq20 hb
        refine go hΓ 2 rfl ?_
        refine eo_litRowT hΓ (enc := eS) [name] rfl rfl rfl rfl rfl rfl rfl rfl rfl rfl rfl rfl (Nat.le_of_ble_eq_true rfl) ?_
        refine go_ops hΓ 1 rfl ?_
        refine eo_shr 0 [7, 37] _ [.dead, .row 9 1 [name].length ([name].flatMap eS)] rfl rfl rfl (Nat.le_of_ble_eq_true rfl) ?_
        obtain ⟨y26, hy26, h27⟩ := bi_ok h25
        refine eo_appendT hΓ (enc := eS) hy26 rfl rfl rfl rfl rfl rfl rfl rfl rfl (fun _ => rfl) rfl rfl rfl rfl ?_
        refine go_ops hΓ 1 rfl ?_
        refine eo_move 1 0 [.row 9 1 y26.length (y26.flatMap eS), .dead] rfl rfl rfl rfl rfl rfl ?_
        refine go_ops hΓ 1 rfl ?_
        obtain rfl := Option.some.inj h27
        exact ⟨⟨rfl, trivial⟩, [_], rfl, .inr ⟨HB.mk rfl, FB.mk rfl, (Nat.le_of_ble_eq_true rfl)⟩⟩
    · refine go hΓ 3 rfl ?_
      refine eo_nilOwn (t := 0) 9 1 rfl (Nat.le_of_ble_eq_true rfl) ?_
      refine go_ops hΓ 10 rfl ?_
      obtain ⟨q31, hq31, h32⟩ := bi_ok h21
      obtain ⟨hb34, h35⟩ := gd_ok hq31
      replace hb34 := of_decide_eq_true hb34
      refine j_cutNZ [(10, .sl 1 q31.length)] [.row 9 1 q20.length (q20.flatMap eS), .row 9 1 q31.length (q31.flatMap eS)] ?_ ?_
      · refine go hΓ 1 rfl ?_
        refine j_rangeG h35 (fun i28 s29 => [(10, .sl 1 s29.length), (39, .sl 0 q20.length), (40, I (q20.length : Int)), (41, I (i28 : Int))]) (fun s29 => [.row 9 1 q20.length (q20.flatMap eS), .row 9 1 s29.length (s29.flatMap eS)]) ⟨⟨rfl, rfl, rfl, rfl, trivial⟩, [], rfl, .inl rfl⟩ (fun i28 s29 y39 hlt hy37 => ?_) (fun hge => ?_)
        · refine go hΓ 6 rfl ?_
          refine j_condT rfl (decide_eq_true hlt) ?_
          obtain ⟨x40, hx40, h41⟩ := bi_ok hy37
          have hj42 := getZ_at hx40
          refine go hΓ 6 rfl ?_
          refine eo_o rfl (op_elemRowZ hΓ hx40 rfl rfl rfl rfl rfl rfl) ?_
          refine eo_o rfl (op_loadRowZ hΓ (enc := eS) ((i28 : Int).toNat) 0 hj42 rfl rfl rfl rfl (fun _ => rfl) (g := S x40) rfl) ?_
          refine go_ops hΓ 9 rfl ?_
          obtain ⟨q43, hq43, h44⟩ := bi_ok h41
          refine o_cut 5 [(10, .sl 1 s29.length), (12, S x40), (39, .sl 0 q20.length), (40, I (q20.length : Int)), (41, I (i28 : Int)), (53, B q43)] [.row 9 1 q20.length (q20.flatMap eS), .row 9 1 s29.length (s29.flatMap eS)] ?_ ?_
          · refine eo_gsplit rfl rfl (fun hb => ?_) (fun hb => ?_)
            · have h45 := cT hq43 hb
              obtain ⟨y46, hy46, h47⟩ := bi_ok h45
              refine go_ops hΓ 2 rfl ?_
              refine eo_guard rfl ?_
              refine eo_callL (callable Tryz.func246 rfl rfl) (c_slices_Contains_string_string hy46) rfl (Nat.le_of_ble_eq_true rfl) rfl rfl rfl rfl rfl ?_
              refine go_ops hΓ 3 rfl ?_
              obtain rfl := Option.some.inj h47
              exact ⟨⟨rfl, rfl, rfl, rfl, rfl, rfl, trivial⟩, [], rfl, .inl rfl⟩
            · have h48 := cF hq43 hb
              refine go_ops hΓ 6 rfl ?_
              obtain rfl := Option.some.inj h48
              exact ⟨⟨rfl, rfl, rfl, rfl, rfl, rfl, trivial⟩, [], rfl, .inl rfl⟩
          · refine go_ops hΓ 2 rfl ?_
            refine j_cond rfl (fun hb => ?_) (fun hb => ?_)
            · have h49 := cT h44 hb
              refine go hΓ 3 rfl ?_
              refine eo_litT hΓ (enc := eS) [x40] rfl rfl rfl rfl rfl rfl rfl rfl rfl rfl rfl rfl (Nat.le_of_ble_eq_true rfl) ?_
              obtain ⟨y50, hy50, h51⟩ := bi_ok h49
              refine eo_appendT hΓ (enc := eS) hy50 rfl rfl rfl rfl rfl rfl rfl rfl rfl (fun _ => rfl) rfl rfl rfl rfl ?_
              refine go_ops hΓ 8 rfl ?_
              obtain rfl := Option.some.inj h51
              exact ⟨⟨rfl, rfl, rfl, get_eq rfl (w64_succ (by omega)), trivial⟩, [], rfl, .inl rfl⟩
            · have h52 := cF h44 hb
              refine go hΓ 7 rfl ?_
              obtain rfl := Option.some.inj h52
              exact ⟨⟨rfl, rfl, rfl, get_eq rfl (w64_succ (by omega)), trivial⟩, [], rfl, .inl rfl⟩
        · refine go hΓ 6 rfl ?_
          refine j_condF rfl (decide_eq_false hge) ?_
          refine go hΓ 4 rfl ?_
          exact ⟨⟨rfl, trivial⟩, [], rfl, .inl rfl⟩
      · refine go hΓ 5 rfl ?_
        refine eo_shr 0 [] _ [.dead, .row 9 1 q31.length (q31.flatMap eS)] rfl rfl rfl (Nat.le_of_ble_eq_true rfl) ?_
        refine eo_move 1 0 [.row 9 1 q31.length (q31.flatMap eS), .dead] rfl rfl rfl rfl rfl rfl ?_
        refine go_ops hΓ 3 rfl ?_
        obtain rfl := Option.some.inj h32
        exact fin_objs hΓ [_] (.inr rfl) rfl rfl rfl rfl (.inr ⟨HB.mk rfl, rfl⟩)

theorem c_name_servers {l : List T_api_Split} {name : Str} {r : (List Str) × Bool} (h : m_name_servers l name = some r) : Pure Tryz.prog 247 [.d (Sl e_api_Split l), S name] (.tup [.d (Sl eS r.1), B r.2]) := by
  refine Pure.enter (Fr.of 0 _) Tryz.func247 rfl (Fr.of_ok _) rfl rfl ?_
  refine go_in ?_
  unfold m_name_servers at h
  refine go hΓ 19 rfl ?_
  obtain ⟨q4, hq4, h5⟩ := bi_ok h
  refine j_bound 0 rfl fun hb7 => ?_
  refine j_cutNZ [(0, .d (Sl e_api_Split l)), (6, I q4)] [] ?_ ?_
  · refine go hΓ 1 rfl ?_
    refine j_rangeF l hq4 (fun i1 s2 => [(0, .d (Sl e_api_Split l)), (1, S name), (6, I s2), (9, .d (Sl e_api_Split l)), (10, I (l.length : Int)), (11, I (i1 : Int))]) (fun s2 => []) ⟨⟨rfl, rfl, rfl, rfl, rfl, rfl, trivial⟩, [], rfl, .inl rfl⟩ (fun i1 x3 s2 y11 hx8 hlt hy9 => ?_) (?_)
    · refine go hΓ 6 rfl ?_
      refine j_condT rfl (decide_eq_true (Int.ofNat_lt.2 hlt)) ?_
      refine go hΓ 7 rfl ?_
      refine eo_o rfl (op_elemZ hΓ (enc := e_api_Split) (getZ_nat hx8) rfl rfl rfl rfl rfl (fun _ => rfl)) ?_
      refine go_ops hΓ 1 rfl ?_
      refine eo_alloc hΓ rfl rfl rfl (Nat.le_of_ble_eq_true rfl) ?_
      refine go_ops hΓ 1 rfl ?_
      refine eo_store hΓ rfl rfl rfl rfl rfl rfl rfl rfl (Nat.le_of_ble_eq_true rfl) ?_
      refine eo_hp [.box 273 [S x3.Suffix, .d (Sl eS x3.Servers)]] rfl ?_
      obtain ⟨q12, hq12, h13⟩ := bi_ok hy9
      refine go_ops hΓ 3 rfl ?_
      refine j_cutNZ [(0, .d (Sl e_api_Split l)), (1, S name), (6, I s2), (7, I (i1 : Int)), (9, .d (Sl e_api_Split l)), (10, I (l.length : Int)), (11, I (i1 : Int)), (40, B q12)] [.box 273 [S x3.Suffix, .d (Sl eS x3.Servers)]] ?_ ?_
      · refine j_draw hmix (by kernel_rfl) ?_
        refine go hΓ 4 rfl ?_
        refine gl_gsplit rfl rfl (fun hb => ?_) (fun hb => ?_)
        · have h14 := cT hq12 hb
          refine go_draw hΓ 9 rfl ?_
          refine gl_gsplit rfl rfl (fun hb => ?_) (fun hb => ?_)
          · have h15 := cT h14 hb
            refine go_draw hΓ 13 rfl ?_
            obtain rfl := Option.some.inj h15
            exact ⟨⟨rfl, rfl, rfl, rfl, rfl, rfl, rfl, rfl, trivial⟩, [], rfl, .inl rfl⟩
          · have h16 := cF h14 hb
            obtain ⟨x17, hx17, h18⟩ := bi_ok h16
            refine go_draw hΓ 5 rfl ?_
            refine gl_og rfl rfl (op_elemZ hΓ (enc := e_api_Split) hx17 rfl rfl rfl rfl rfl (fun _ => rfl)) ?_
            refine go_draw hΓ 7 rfl ?_
            obtain rfl := Option.some.inj h18
            exact ⟨⟨rfl, rfl, rfl, rfl, rfl, rfl, rfl, rfl, trivial⟩, [], rfl, .inl rfl⟩
        · have h19 := cF hq12 hb
          obtain ⟨y20, hy20, h21⟩ := bi_ok h19
          refine go_draw hΓ 3 rfl ?_
          refine gl_callPg (callable Tryz.func107 rfl rfl) (c_name_under hy20) rfl rfl rfl rfl rfl rfl rfl ?_
          refine go_draw hΓ 2 rfl ?_
          refine gl_gsplit rfl rfl (fun hb => ?_) (fun hb => ?_)
          · have h22 := cT h21 hb
            refine go_draw hΓ 3 rfl ?_
            refine gl_gsplit rfl rfl (fun hb => ?_) (fun hb => ?_)
            · have h23 := cT h22 hb
              refine go_draw hΓ 13 rfl ?_
              obtain rfl := Option.some.inj h23
              exact ⟨⟨rfl, rfl, rfl, rfl, rfl, rfl, rfl, rfl, trivial⟩, [], rfl, .inl rfl⟩
            · have h24 := cF h22 hb
              obtain ⟨x25, hx25, h26⟩ := bi_ok h24
              refine go_draw hΓ 5 rfl ?_
              refine gl_og rfl rfl (op_elemZ hΓ (enc := e_api_Split) hx25 rfl rfl rfl rfl rfl (fun _ => rfl)) ?_
              refine go_draw hΓ 7 rfl ?_
              obtain rfl := Option.some.inj h26
              exact ⟨⟨rfl, rfl, rfl, rfl, rfl, rfl, rfl, rfl, trivial⟩, [], rfl, .inl rfl⟩
          · have h27 := cF h21 hb
            refine go_draw hΓ 16 rfl ?_
            obtain rfl := Option.some.inj h27
            exact ⟨⟨rfl, rfl, rfl, rfl, rfl, rfl, rfl, rfl, trivial⟩, [], rfl, .inl rfl⟩
      · refine go hΓ 1 rfl ?_
        refine j_cond rfl (fun hb => ?_) (fun hb => ?_)
        · have h28 := cT h13 hb
          refine go hΓ 10 rfl ?_
          obtain rfl := Option.some.inj h28
          exact ⟨⟨rfl, rfl, rfl, rfl, rfl, get_eq rfl (w64_succ (Nat.lt_of_lt_of_le hlt hb7)), trivial⟩, [_], rfl, .inr ⟨HB.mk rfl, FB.mk rfl, (Nat.le_of_ble_eq_true rfl)⟩⟩
        · have h29 := cF h13 hb
          refine go hΓ 7 rfl ?_
          obtain rfl := Option.some.inj h29
          exact ⟨⟨rfl, rfl, rfl, rfl, rfl, get_eq rfl (w64_succ (Nat.lt_of_lt_of_le hlt hb7)), trivial⟩, [_], rfl, .inr ⟨HB.mk rfl, FB.mk rfl, (Nat.le_of_ble_eq_true rfl)⟩⟩
    · refine go hΓ 6 rfl ?_
      refine j_condF rfl (decide_eq_false (Int.lt_irrefl _)) ?_
      refine go hΓ 4 rfl ?_
      exact ⟨⟨rfl, rfl, trivial⟩, [], rfl, .inl rfl⟩
  · refine go hΓ 8 rfl ?_
    refine j_cond rfl (fun hb => ?_) (fun hb => ?_)
    · have h30 := cT h5 hb
      refine go hΓ 8 rfl ?_
      obtain rfl := Option.some.inj h30
      exact fin_pure hΓ (.inr rfl) rfl rfl
    · have h31 := cF h5 hb
      obtain ⟨x32, hx32, h33⟩ := bi_ok h31
      refine go hΓ 6 rfl ?_
      refine eo_o rfl (op_elemZ hΓ (enc := e_api_Split) hx32 rfl rfl rfl rfl rfl (fun _ => rfl)) ?_
      obtain ⟨y34, hy34, h35⟩ := bi_ok h33
      refine go_ops hΓ 2 rfl ?_
      refine eo_callP (callable Tryz.func244 rfl rfl) (Pure.rows (c_slices_Clone_string_string hy34) rfl rfl) rfl (Nat.le_of_ble_eq_true rfl) rfl rfl rfl rfl rfl ?_
      refine go_ops hΓ 5 rfl ?_
      obtain rfl := Option.some.inj h35
      exact fin_pure hΓ (.inr rfl) rfl rfl

theorem c_name_zoneOf {n : T_api_Net} {server : Str} {name : Str} {r : T_api_Zone × Bool} (h : m_name_zoneOf n server name = some r) : Pure Tryz.prog 248 [.agg [.d (Sl eS n.Search), I n.Dots, .d (Sl e_api_Split n.Splits), .d (Sl e_api_Source n.Sources)], S server, S name] (.tup [.agg [S r.1.Root, .d (Sl e_api_Record r.1.Records)], B r.2]) := by
  refine Pure.enter (Fr.of 0 _) Tryz.func248 rfl (Fr.of_ok _) rfl rfl ?_
  refine go_in ?_
  unfold m_name_zoneOf at h
  refine go hΓ 2 rfl ?_
  refine eo_box rfl rfl rfl rfl (Nat.le_of_ble_eq_true rfl) ?_
  refine eo_alloc hΓ rfl rfl rfl (Nat.le_of_ble_eq_true rfl) ?_
  refine go_ops hΓ 5 rfl ?_
  refine eo_build hΓ (gs := [S [], .d (Sl e_api_Record [])]) rfl rfl rfl rfl rfl rfl rfl ?_
  refine eo_alloc hΓ rfl rfl rfl (Nat.le_of_ble_eq_true rfl) ?_
  refine eo_store hΓ rfl rfl rfl rfl rfl rfl rfl rfl (Nat.le_of_ble_eq_true rfl) ?_
  refine eo_hp [.box 92 [.d (Sl eS n.Search), I n.Dots, .d (Sl e_api_Split n.Splits), .d (Sl e_api_Source n.Sources)], .box 51 [S [], .d (Sl e_api_Record [])], .box 51 [S [], .d (Sl e_api_Record [])]] rfl ?_
  refine go_ops hΓ 12 rfl ?_
  obtain ⟨q4, hq4, h5⟩ := bi_ok h
  refine j_bound 16 rfl fun hb7 => ?_
  refine j_cutNZ [(6, .ptr 1 0), (8, .ptr 2 0), (9, B q4.2)] [.box 92 [.d (Sl eS n.Search), I n.Dots, .d (Sl e_api_Split n.Splits), .d (Sl e_api_Source n.Sources)], .box 51 [S [], .d (Sl e_api_Record [])], .box 51 [S q4.1.Root, .d (Sl e_api_Record q4.1.Records)]] ?_ ?_
  · refine go hΓ 1 rfl ?_
    refine j_rangeF n.Sources hq4 (fun i1 s2 => [(1, S server), (2, S name), (6, .ptr 1 0), (8, .ptr 2 0), (9, B s2.2), (16, .d (Sl e_api_Source n.Sources)), (17, I (n.Sources.length : Int)), (18, I (i1 : Int))]) (fun s2 => [.box 92 [.d (Sl eS n.Search), I n.Dots, .d (Sl e_api_Split n.Splits), .d (Sl e_api_Source n.Sources)], .box 51 [S [], .d (Sl e_api_Record [])], .box 51 [S s2.1.Root, .d (Sl e_api_Record s2.1.Records)]]) ⟨⟨rfl, rfl, rfl, rfl, rfl, rfl, rfl, rfl, trivial⟩, [], rfl, .inl rfl⟩ (fun i1 x3 s2 y11 hx8 hlt hy9 => ?_) (?_)
    · refine go hΓ 6 rfl ?_
      refine j_condT rfl (decide_eq_true (Int.ofNat_lt.2 hlt)) ?_
      refine go hΓ 6 rfl ?_
      refine eo_o rfl (op_elemZ hΓ (enc := e_api_Source) (getZ_nat hx8) rfl rfl rfl rfl rfl (fun _ => rfl)) ?_
      refine go_ops hΓ 1 rfl ?_
      refine eo_alloc hΓ rfl rfl rfl (Nat.le_of_ble_eq_true rfl) ?_
      refine eo_store hΓ rfl rfl rfl rfl rfl rfl rfl rfl (Nat.le_of_ble_eq_true rfl) ?_
      refine eo_hp [.box 92 [.d (Sl eS n.Search), I n.Dots, .d (Sl e_api_Split n.Splits), .d (Sl e_api_Source n.Sources)], .box 51 [S [], .d (Sl e_api_Record [])], .box 51 [S s2.1.Root, .d (Sl e_api_Record s2.1.Records)], .box 207 [S x3.Server, .d (Sl e_api_Zone x3.Zones)]] rfl ?_
      refine go_ops hΓ 10 rfl ?_
      obtain ⟨q15, hq15, h16⟩ := bi_ok hy9
      refine j_bound 23 rfl fun hb18 => ?_
      refine j_cutNZ [(1, S server), (2, S name), (6, .ptr 1 0), (8, .ptr 2 0), (9, B q15.2), (16, .d (Sl e_api_Source n.Sources)), (17, I (n.Sources.length : Int)), (18, I (i1 : Int))] [.box 92 [.d (Sl eS n.Search), I n.Dots, .d (Sl e_api_Split n.Splits), .d (Sl e_api_Source n.Sources)], .box 51 [S [], .d (Sl e_api_Record [])], .box 51 [S q15.1.Root, .d (Sl e_api_Record q15.1.Records)], .box 207 [S x3.Server, .d (Sl e_api_Zone x3.Zones)]] ?_ ?_
      · refine go hΓ 1 rfl ?_
        refine j_rangeF x3.Zones hq15 (fun i12 s13 => [(1, S server), (2, S name), (6, .ptr 1 0), (8, .ptr 2 0), (9, B s13.2), (11, .ptr 3 0), (16, .d (Sl e_api_Source n.Sources)), (17, I (n.Sources.length : Int)), (18, I (i1 : Int)), (23, .d (Sl e_api_Zone x3.Zones)), (24, I (x3.Zones.length : Int)), (25, I (i12 : Int))]) (fun s13 => [.box 92 [.d (Sl eS n.Search), I n.Dots, .d (Sl e_api_Split n.Splits), .d (Sl e_api_Source n.Sources)], .box 51 [S [], .d (Sl e_api_Record [])], .box 51 [S s13.1.Root, .d (Sl e_api_Record s13.1.Records)], .box 207 [S x3.Server, .d (Sl e_api_Zone x3.Zones)]]) ⟨⟨rfl, rfl, rfl, rfl, rfl, rfl, rfl, rfl, rfl, rfl, rfl, rfl, trivial⟩, [], rfl, .inl rfl⟩ (fun i12 x14 s13 y22 hx19 hlt hy20 => ?_) (?_)
        · refine go hΓ 6 rfl ?_
          refine j_condT rfl (decide_eq_true (Int.ofNat_lt.2 hlt)) ?_
          refine go hΓ 6 rfl ?_
          refine eo_o rfl (op_elemZ hΓ (enc := e_api_Zone) (getZ_nat hx19) rfl rfl rfl rfl rfl (fun _ => rfl)) ?_
          refine go_ops hΓ 1 rfl ?_
          refine eo_alloc hΓ rfl rfl rfl (Nat.le_of_ble_eq_true rfl) ?_
          refine eo_store hΓ rfl rfl rfl rfl rfl rfl rfl rfl (Nat.le_of_ble_eq_true rfl) ?_
          refine eo_hp [.box 92 [.d (Sl eS n.Search), I n.Dots, .d (Sl e_api_Split n.Splits), .d (Sl e_api_Source n.Sources)], .box 51 [S [], .d (Sl e_api_Record [])], .box 51 [S s13.1.Root, .d (Sl e_api_Record s13.1.Records)], .box 207 [S x3.Server, .d (Sl e_api_Zone x3.Zones)], .box 51 [S x14.Root, .d (Sl e_api_Record x14.Records)]] rfl ?_
          refine go_ops hΓ 9 rfl ?_
          obtain ⟨q23, hq23, h24⟩ := bi_ok hy20
          refine o_cut 5 [(1, S server), (2, S name), (6, .ptr 1 0), (8, .ptr 2 0), (9, B s13.2), (11, .ptr 3 0), (13, .ptr 4 0), (16, .d (Sl e_api_Source n.Sources)), (17, I (n.Sources.length : Int)), (18, I (i1 : Int)), (23, .d (Sl e_api_Zone x3.Zones)), (24, I (x3.Zones.length : Int)), (25, I (i12 : Int)), (38, B q23)] [.box 92 [.d (Sl eS n.Search), I n.Dots, .d (Sl e_api_Split n.Splits), .d (Sl e_api_Source n.Sources)], .box 51 [S [], .d (Sl e_api_Record [])], .box 51 [S s13.1.Root, .d (Sl e_api_Record s13.1.Records)], .box 207 [S x3.Server, .d (Sl e_api_Zone x3.Zones)], .box 51 [S x14.Root, .d (Sl e_api_Record x14.Records)]] ?_ ?_
          · refine eo_gsplit rfl rfl (fun hb => ?_) (fun hb => ?_)
            · have h25 := cT hq23 hb
              obtain ⟨y26, hy26, h27⟩ := bi_ok h25
              refine go_ops hΓ 3 rfl ?_
              refine eo_guard rfl ?_
              refine eo_callP (callable Tryz.func107 rfl rfl) (c_name_under hy26) rfl (Nat.le_of_ble_eq_true rfl) rfl rfl rfl rfl rfl ?_
              refine go_ops hΓ 2 rfl ?_
              obtain rfl := Option.some.inj h27
              exact ⟨⟨rfl, rfl, rfl, rfl, rfl, rfl, rfl, rfl, rfl, rfl, rfl, rfl, rfl, rfl, trivial⟩, [], rfl, .inl rfl⟩
            · have h28 := cF hq23 hb
              refine go_ops hΓ 6 rfl ?_
              obtain rfl := Option.some.inj h28
              exact ⟨⟨rfl, rfl, rfl, rfl, rfl, rfl, rfl, rfl, rfl, rfl, rfl, rfl, rfl, rfl, trivial⟩, [], rfl, .inl rfl⟩
          · refine go_ops hΓ 1 rfl ?_
            refine o_cut 8 [(1, S server), (2, S name), (6, .ptr 1 0), (8, .ptr 2 0), (9, B s13.2), (11, .ptr 3 0), (13, .ptr 4 0), (16, .d (Sl e_api_Source n.Sources)), (17, I (n.Sources.length : Int)), (18, I (i1 : Int)), (23, .d (Sl e_api_Zone x3.Zones)), (24, I (x3.Zones.length : Int)), (25, I (i12 : Int)), (47, B (q23 && (decide (((x14.Root.length : Int) : Int) > (s13.1.Root.length : Int)))))] [.box 92 [.d (Sl eS n.Search), I n.Dots, .d (Sl e_api_Split n.Splits), .d (Sl e_api_Source n.Sources)], .box 51 [S [], .d (Sl e_api_Record [])], .box 51 [S s13.1.Root, .d (Sl e_api_Record s13.1.Records)], .box 207 [S x3.Server, .d (Sl e_api_Zone x3.Zones)], .box 51 [S x14.Root, .d (Sl e_api_Record x14.Records)]] ?_ ?_
            · refine eo_gsplit rfl rfl (fun hb => ?_) (fun hb => ?_)
              · refine go_ops hΓ 9 rfl ?_
                exact ⟨⟨rfl, rfl, rfl, rfl, rfl, rfl, rfl, rfl, rfl, rfl, rfl, rfl, rfl, get_b rfl (and_t hb), trivial⟩, [], rfl, .inl rfl⟩
              · refine go_ops hΓ 9 rfl ?_
                exact ⟨⟨rfl, rfl, rfl, rfl, rfl, rfl, rfl, rfl, rfl, rfl, rfl, rfl, rfl, get_b rfl (and_f hb), trivial⟩, [], rfl, .inl rfl⟩
            · refine go_ops hΓ 2 rfl ?_
              refine j_cond rfl (fun hb => ?_) (fun hb => ?_)
              · have h29 := cT h24 hb
                refine go hΓ 2 rfl ?_
                refine eo_store hΓ rfl rfl rfl rfl rfl rfl rfl rfl (Nat.le_of_ble_eq_true rfl) ?_
                refine eo_hp [.box 92 [.d (Sl eS n.Search), I n.Dots, .d (Sl e_api_Split n.Splits), .d (Sl e_api_Source n.Sources)], .box 51 [S [], .d (Sl e_api_Record [])], .box 51 [S x14.Root, .d (Sl e_api_Record x14.Records)], .box 207 [S x3.Server, .d (Sl e_api_Zone x3.Zones)], .box 51 [S x14.Root, .d (Sl e_api_Record x14.Records)]] rfl ?_
                refine go_ops hΓ 8 rfl ?_
                obtain rfl := Option.some.inj h29
                exact ⟨⟨rfl, rfl, rfl, rfl, rfl, rfl, rfl, rfl, rfl, rfl, rfl, get_eq rfl (w64_succ (Nat.lt_of_lt_of_le hlt hb18)), trivial⟩, [_], rfl, .inr ⟨HB.mk rfl, FB.mk rfl, (Nat.le_of_ble_eq_true rfl)⟩⟩
              · have h30 := cF h24 hb
                refine go hΓ 7 rfl ?_
                obtain rfl := Option.some.inj h30
                exact ⟨⟨rfl, rfl, rfl, rfl, rfl, rfl, rfl, rfl, rfl, rfl, rfl, get_eq rfl (w64_succ (Nat.lt_of_lt_of_le hlt hb18)), trivial⟩, [_], rfl, .inr ⟨HB.mk rfl, FB.mk rfl, (Nat.le_of_ble_eq_true rfl)⟩⟩
        · refine go hΓ 6 rfl ?_
          refine j_condF rfl (decide_eq_false (Int.lt_irrefl _)) ?_
          refine go hΓ 4 rfl ?_
          exact ⟨⟨rfl, rfl, rfl, rfl, rfl, rfl, rfl, rfl, trivial⟩, [], rfl, .inl rfl⟩
      · refine go hΓ 6 rfl ?_
        obtain rfl := Option.some.inj h16
        exact ⟨⟨rfl, rfl, rfl, rfl, rfl, rfl, rfl, get_eq rfl (w64_succ (Nat.lt_of_lt_of_le hlt hb7)), trivial⟩, [_], rfl, .inr ⟨HB.mk rfl, FB.mk rfl, (Nat.le_of_ble_eq_true rfl)⟩⟩
    · refine go hΓ 6 rfl ?_
      refine j_condF rfl (decide_eq_false (Int.lt_irrefl _)) ?_
      refine go hΓ 4 rfl ?_
      exact ⟨⟨rfl, rfl, rfl, trivial⟩, [], rfl, .inl rfl⟩
  · refine go hΓ 5 rfl ?_
    refine eo_store hΓ rfl rfl rfl rfl rfl rfl rfl rfl (Nat.le_of_ble_eq_true rfl) ?_
    refine eo_hp [.box 92 [.d (Sl eS n.Search), I n.Dots, .d (Sl e_api_Split n.Splits), .d (Sl e_api_Source n.Sources)], .box 51 [S q4.1.Root, .d (Sl e_api_Record q4.1.Records)], .box 51 [S q4.1.Root, .d (Sl e_api_Record q4.1.Records)]] rfl ?_
    refine go_ops hΓ 4 rfl ?_
    obtain rfl := Option.some.inj h5
    exact fin_pure hΓ (.inr rfl) rfl rfl

theorem c_name_there_1 {v_r : T_api_Record} {x : Str} {r : Bool} (h : m_name_there_1 v_r x = some r) : EC Tryz.prog 350 [.agg [S v_r.Name, I v_r.Kind, B v_r.Addr.Six, .d (.v (.int .u64 v_r.Addr.Hi)), .d (.v (.int .u64 v_r.Addr.Lo)), S v_r.To, S v_r.Words, I v_r.Life], .ptr 0 0] [.box 9 [S x]] fun g hp' => g = B r ∧ hp' = [.box 9 [S x]] := by
  refine ec_enter (Fr.of 0 _) Tryz.func350 rfl (Fr.of_ok _) (Nat.le_of_ble_eq_true rfl) fun _ => ?_
  refine go_in ?_
  unfold m_name_there_1 at h
  refine go hΓ 2 rfl ?_
  refine eo_box rfl rfl rfl rfl (Nat.le_of_ble_eq_true rfl) ?_
  refine go_ops hΓ 4 rfl ?_
  refine j_draw hmix (by kernel_rfl) ?_
  obtain ⟨y1, hy1, h2⟩ := bi_ok h
  refine go hΓ 2 rfl ?_
  refine gl_callP (callable Tryz.func114 rfl rfl) (c_name_bare hy1) rfl rfl rfl rfl rfl rfl ?_
  obtain ⟨y3, hy3, h4⟩ := bi_ok h2
  refine go_draw hΓ 1 rfl ?_
  refine gl_callP (callable Tryz.func107 rfl rfl) (c_name_under hy3) rfl rfl rfl rfl rfl rfl ?_
  refine go_draw hΓ 4 rfl ?_
  obtain rfl := Option.some.inj h4
  exact fin_objs hΓ [_] (.inr rfl) rfl rfl rfl rfl (.inr ⟨HB.mk rfl, rfl⟩)

theorem c_slices_IndexFunc_api_Record_api_Record {s : List T_api_Record} {f : Str} {r : Int} (h : m_slices_IndexFunc_api_Record_api_Record s f = some r) : EC Tryz.prog 218 [.d (Sl e_api_Record s), .fn (.func 350) [] [.ptr 0 0]] [.box 9 [S f]] fun g hp' => g = I r ∧ hp' = [.box 9 [S f]] := by
  refine ec_enter (Fr.of 0 _) Tryz.func218 rfl (Fr.of_ok _) (Nat.le_of_ble_eq_true rfl) fun _ => ?_
  refine go_in ?_
  unfold m_slices_IndexFunc_api_Record_api_Record at h
  refine go hΓ 13 rfl ?_
  obtain ⟨q4, hq4, h5⟩ := bi_ok h
  refine j_bound 0 rfl fun hb7 => ?_
  refine j_cutEZ (R := fun a6 => q4 = .go a6) (fun a6 => []) (fun a6 => [.box 9 [S f]]) ?_ ?_
  · refine go hΓ 1 rfl ?_
    refine j_range s hq4 (fun i1 s2 => [(0, .d (Sl e_api_Record s)), (1, .fn (.func 350) [] [.ptr 0 0]), (7, I (s.length : Int)), (8, I (i1 : Int))]) (fun s2 => [.box 9 [S f]]) ⟨⟨rfl, rfl, rfl, rfl, trivial⟩, [], rfl, .inl rfl⟩ (fun i1 x3 s2 y11 hx8 hlt hy9 hout10 => ?_) (fun s2 hgo => ?_)
    · refine go hΓ 6 rfl ?_
      refine j_condT rfl (decide_eq_true (Int.ofNat_lt.2 hlt)) ?_
      refine go hΓ 15 rfl ?_
      refine eo_o rfl (op_elemZ hΓ (enc := e_api_Record) (getZ_nat hx8) rfl rfl rfl rfl rfl (fun _ => rfl)) ?_
      obtain ⟨y12, hy12, h13⟩ := bi_ok hy9
      refine go_ops hΓ 1 rfl ?_
      refine eo_callF [0] (B y12) [.box 9 [S f]] (callable Tryz.func350 rfl rfl) (c_name_there_1 hy12) rfl (Nat.le_of_ble_eq_true rfl) rfl rfl rfl rfl rfl rfl rfl rfl rfl rfl ?_
      refine go_ops hΓ 2 rfl ?_
      refine j_cond rfl (fun hb => ?_) (fun hb => ?_)
      · have h14 := cT h13 hb
        refine go hΓ 9 rfl ?_
        obtain ⟨v15, hv15, h16⟩ := bi_ok h14
        obtain rfl := Option.some.inj h16
        obtain rfl := hout10 _ rfl
        obtain rfl := Option.some.inj h5
        refine go hΓ 4 rfl ?_
        obtain rfl := Option.some.inj hv15
        exact fin_objs hΓ [] (.inr rfl) rfl rfl rfl rfl (.inl rfl)
      · have h17 := cF h13 hb
        refine go hΓ 7 rfl ?_
        obtain rfl := Option.some.inj h17
        exact ⟨_, rfl, ⟨⟨rfl, rfl, rfl, get_eq rfl (w64_succ (Nat.lt_of_lt_of_le hlt hb7)), trivial⟩, [], rfl, .inl rfl⟩⟩
    · subst hgo
      refine go hΓ 6 rfl ?_
      refine j_condF rfl (decide_eq_false (Int.lt_irrefl _)) ?_
      refine go hΓ 4 rfl ?_
      exact ⟨_, rfl, ⟨trivial, [], rfl, .inl rfl⟩⟩
  · intro a6 ha
    subst ha
    replace h5 := goI_l h5
    refine go hΓ 7 rfl ?_
    obtain rfl := Option.some.inj h5
    exact fin_objs hΓ [] (.inr rfl) rfl rfl rfl rfl (.inl rfl)

theorem c_slices_ContainsFunc_api_Record_api_Record {s : List T_api_Record} {f : Str} {r : Bool} (h : m_slices_ContainsFunc_api_Record_api_Record s f = some r) : EC Tryz.prog 227 [.d (Sl e_api_Record s), .fn (.func 350) [] [.ptr 0 0]] [.box 9 [S f]] fun g hp' => g = B r ∧ hp' = [.box 9 [S f]] := by
  refine ec_enter (Fr.of 0 _) Tryz.func227 rfl (Fr.of_ok _) (Nat.le_of_ble_eq_true rfl) fun _ => ?_
  refine go_in ?_
  unfold m_slices_ContainsFunc_api_Record_api_Record at h
  obtain ⟨y1, hy1, h2⟩ := bi_ok h
  refine go hΓ 9 rfl ?_
  refine eo_callF [0] (I y1) [.box 9 [S f]] (callable Tryz.func218 rfl rfl) (c_slices_IndexFunc_api_Record_api_Record hy1) rfl (Nat.le_of_ble_eq_true rfl) rfl rfl rfl rfl rfl rfl rfl rfl rfl rfl ?_
  refine go_ops hΓ 5 rfl ?_
  obtain rfl := Option.some.inj h2
  exact fin_objs hΓ [] (.inr rfl) rfl rfl rfl rfl (.inl rfl)

theorem c_name_there {z : T_api_Zone} {name : Str} {r : Bool} (h : m_name_there z name = some r) : Pure Tryz.prog 287 [.agg [S z.Root, .d (Sl e_api_Record z.Records)], S name] (B r) := by
  refine Pure.enter (Fr.of 0 _) Tryz.func287 rfl (Fr.of_ok _) rfl rfl ?_
  refine go_in ?_
  unfold m_name_there at h
  refine go hΓ 2 rfl ?_
  refine eo_box rfl rfl rfl rfl (Nat.le_of_ble_eq_true rfl) ?_
  refine eo_box rfl rfl rfl rfl (Nat.le_of_ble_eq_true rfl) ?_
  obtain ⟨y1, hy1, h2⟩ := bi_ok h
  refine go_ops hΓ 8 rfl ?_
  refine eo_callF [1] (B y1) [.box 51 [S z.Root, .d (Sl e_api_Record z.Records)], .box 9 [S name]] (callable Tryz.func227 rfl rfl) (c_slices_ContainsFunc_api_Record_api_Record hy1) rfl (Nat.le_of_ble_eq_true rfl) rfl rfl rfl rfl rfl rfl rfl rfl rfl rfl ?_
  refine go_ops hΓ 4 rfl ?_
  obtain rfl := Option.some.inj h2
  exact fin_pure hΓ (.inr rfl) rfl rfl

theorem c_name_at {k : Nat} {z : T_api_Zone} {name : Str} {r : (List T_api_Record) × Bool} (h : m_name_at k z name = some r) : Pure Tryz.prog 216 [.agg [S z.Root, .d (Sl e_api_Record z.Records)], S name] (.tup [.d (Sl e_api_Record r.1), B r.2]) := by
  refine Pure.enter (Fr.of 0 _) Tryz.func216 rfl (Fr.of_ok _) rfl rfl ?_
  refine go_in ?_
  unfold m_name_at at h
  refine go hΓ 2 rfl ?_
  refine eo_box rfl rfl rfl rfl (Nat.le_of_ble_eq_true rfl) ?_
  obtain ⟨y1, hy1, h2⟩ := bi_ok h
  refine go_ops hΓ 9 rfl ?_
  refine eo_callP (callable Tryz.func287 rfl rfl) (c_name_there hy1) rfl (Nat.le_of_ble_eq_true rfl) rfl rfl rfl rfl rfl ?_
  obtain ⟨q3, hq3, h4⟩ := bi_ok h2
  refine go_ops hΓ 11 rfl ?_
  refine j_cutSZ (q := q3) (fun a5 => [(1, S name), (2, .ptr 0 0), (6, S a5), (7, B y1)]) (fun a5 => [.box 51 [S z.Root, .d (Sl e_api_Record z.Records)]]) ?_ ?_
  · refine j_cond rfl (fun hb => ?_) (fun hb => ?_)
    · have h6 := cT hq3 hb
      refine go hΓ 7 rfl ?_
      obtain ⟨q10, hq10, h11⟩ := bi_ok h6
      refine j_cutNZ [(1, S name), (2, .ptr 0 0), (7, B y1), (8, S q10)] [.box 51 [S z.Root, .d (Sl e_api_Record z.Records)]] ?_ ?_
      · refine go hΓ 1 rfl ?_
        refine j_loop hq10 (fun s8 => [(1, S name), (2, .ptr 0 0), (7, B y1), (8, S s8)]) (fun s8 => [.box 51 [S z.Root, .d (Sl e_api_Record z.Records)]]) ⟨⟨rfl, rfl, rfl, rfl, trivial⟩, [], rfl, .inl rfl⟩ (fun s8 y16 hy14 hout15 => ?_)
        refine go hΓ 9 rfl ?_
        refine j_cond rfl (fun hb => ?_) (fun hb => ?_)
        · have h17 := cT hy14 hb
          obtain ⟨y18, hy18, h19⟩ := bi_ok h17
          refine go hΓ 6 rfl ?_
          refine eo_callP (callable Tryz.func208 rfl rfl) (c_strings_Cut hy18) rfl (Nat.le_of_ble_eq_true rfl) rfl rfl rfl rfl rfl ?_
          obtain ⟨y20, hy20, h21⟩ := bi_ok h19
          refine go_ops hΓ 11 rfl ?_
          refine eo_callP (callable Tryz.func287 rfl rfl) (c_name_there hy20) rfl (Nat.le_of_ble_eq_true rfl) rfl rfl rfl rfl rfl ?_
          refine go_ops hΓ 2 rfl ?_
          refine j_cond rfl (fun hb => ?_) (fun hb => ?_)
          · have h22 := cT h21 hb
            refine go hΓ 4 rfl ?_
            obtain rfl := Option.some.inj h22
            obtain rfl := hout15 _ rfl
            exact ⟨⟨rfl, rfl, rfl, rfl, trivial⟩, [], rfl, .inl rfl⟩
          · have h23 := cF h21 hb
            refine go hΓ 2 rfl ?_
            obtain rfl := Option.some.inj h23
            exact ⟨_, rfl, ⟨⟨rfl, rfl, rfl, rfl, trivial⟩, [], rfl, .inl rfl⟩⟩
        · have h24 := cF hy14 hb
          refine go hΓ 4 rfl ?_
          obtain rfl := Option.some.inj h24
          obtain rfl := hout15 _ rfl
          exact ⟨⟨rfl, rfl, rfl, rfl, trivial⟩, [], rfl, .inl rfl⟩
      · refine go hΓ 10 rfl ?_
        refine j_cond rfl (fun hb => ?_) (fun hb => ?_)
        · have h25 := cT h11 hb
          refine go hΓ 8 rfl ?_
          obtain ⟨v26, hv26, h27⟩ := bi_ok h25
          obtain rfl := Option.some.inj h27
          obtain rfl := Option.some.inj h4
          refine go hΓ 2 rfl ?_
          obtain rfl := Option.some.inj hv26
          exact fin_pure hΓ (.inr rfl) rfl rfl
        · have h28 := cF h11 hb
          obtain ⟨y29, hy29, h30⟩ := bi_ok h28
          refine go hΓ 4 rfl ?_
          refine eo_o rfl (op_catZ hy29 rfl rfl) ?_
          refine go_ops hΓ 2 rfl ?_
          obtain rfl := Option.some.inj h30
          exact ⟨_, rfl, ⟨⟨rfl, rfl, rfl, rfl, trivial⟩, [], rfl, .inl rfl⟩⟩
    · have h31 := cF hq3 hb
      refine go hΓ 1 rfl ?_
      obtain rfl := Option.some.inj h31
      exact ⟨_, rfl, ⟨⟨rfl, rfl, rfl, rfl, trivial⟩, [], rfl, .inl rfl⟩⟩
  · intro a5 ha
    subst ha
    replace h4 := orI_l h4
    refine go hΓ 3 rfl ?_
    refine eo_nilOwn (t := 0) 38 8 rfl (Nat.le_of_ble_eq_true rfl) ?_
    refine go_ops hΓ 11 rfl ?_
    obtain ⟨q35, hq35, h36⟩ := bi_ok h4
    refine j_bound 39 rfl fun hb38 => ?_
    refine j_cutNZ [(7, B y1), (9, .sl 1 q35.length)] [.box 51 [S z.Root, .d (Sl e_api_Record z.Records)], .row 38 8 q35.length (q35.flatMap e_api_Record)] ?_ ?_
    · refine go hΓ 1 rfl ?_
      refine j_rangeF z.Records hq35 (fun i32 s33 => [(1, S name), (6, S a5), (7, B y1), (9, .sl 1 s33.length), (39, .d (Sl e_api_Record z.Records)), (40, I (z.Records.length : Int)), (41, I (i32 : Int))]) (fun s33 => [.box 51 [S z.Root, .d (Sl e_api_Record z.Records)], .row 38 8 s33.length (s33.flatMap e_api_Record)]) ⟨⟨rfl, rfl, rfl, rfl, rfl, rfl, rfl, trivial⟩, [], rfl, .inl rfl⟩ (fun i32 x34 s33 y42 hx39 hlt hy40 => ?_) (?_)
      · refine go hΓ 6 rfl ?_
        refine j_condT rfl (decide_eq_true (Int.ofNat_lt.2 hlt)) ?_
        refine go hΓ 6 rfl ?_
        refine eo_o rfl (op_elemZ hΓ (enc := e_api_Record) (getZ_nat hx39) rfl rfl rfl rfl rfl (fun _ => rfl)) ?_
        refine go_ops hΓ 1 rfl ?_
        refine eo_alloc hΓ rfl rfl rfl (Nat.le_of_ble_eq_true rfl) ?_
        refine eo_store hΓ rfl rfl rfl rfl rfl rfl rfl rfl (Nat.le_of_ble_eq_true rfl) ?_
        refine eo_hp [.box 51 [S z.Root, .d (Sl e_api_Record z.Records)], .row 38 8 s33.length (s33.flatMap e_api_Record), .box 38 [S x34.Name, I x34.Kind, B x34.Addr.Six, .d (.v (.int .u64 x34.Addr.Hi)), .d (.v (.int .u64 x34.Addr.Lo)), S x34.To, S x34.Words, I x34.Life]] rfl ?_
        refine go_ops hΓ 10 rfl ?_
        refine j_cond rfl (fun hb => ?_) (fun hb => ?_)
        · have h43 := cT hy40 hb
          refine go hΓ 4 rfl ?_
          refine eo_store hΓ rfl rfl rfl rfl rfl rfl rfl rfl (Nat.le_of_ble_eq_true rfl) ?_
          refine eo_hp [.box 51 [S z.Root, .d (Sl e_api_Record z.Records)], .row 38 8 s33.length (s33.flatMap e_api_Record), .box 38 [S name, I x34.Kind, B x34.Addr.Six, .d (.v (.int .u64 x34.Addr.Hi)), .d (.v (.int .u64 x34.Addr.Lo)), S x34.To, S x34.Words, I x34.Life]] rfl ?_
          refine go_ops hΓ 5 rfl ?_
          refine eo_litT hΓ (enc := e_api_Record) [(⟨name, x34.Kind, x34.Addr, x34.To, x34.Words, x34.Life⟩ : T_api_Record)] rfl rfl rfl rfl rfl rfl rfl rfl rfl rfl rfl rfl (Nat.le_of_ble_eq_true rfl) ?_
          obtain ⟨y44, hy44, h45⟩ := bi_ok h43
          refine eo_appendT hΓ (enc := e_api_Record) hy44 rfl rfl rfl rfl rfl rfl rfl rfl rfl (fun _ => rfl) rfl rfl rfl rfl ?_
          refine go_ops hΓ 8 rfl ?_
          obtain rfl := Option.some.inj h45
          exact ⟨⟨rfl, rfl, rfl, rfl, rfl, rfl, get_eq rfl (w64_succ (Nat.lt_of_lt_of_le hlt hb38)), trivial⟩, [_], rfl, .inr ⟨HB.mk rfl, FB.mk rfl, (Nat.le_of_ble_eq_true rfl)⟩⟩
        · have h46 := cF hy40 hb
          refine go hΓ 7 rfl ?_
          obtain rfl := Option.some.inj h46
          exact ⟨⟨rfl, rfl, rfl, rfl, rfl, rfl, get_eq rfl (w64_succ (Nat.lt_of_lt_of_le hlt hb38)), trivial⟩, [_], rfl, .inr ⟨HB.mk rfl, FB.mk rfl, (Nat.le_of_ble_eq_true rfl)⟩⟩
      · refine go hΓ 6 rfl ?_
        refine j_condF rfl (decide_eq_false (Int.lt_irrefl _)) ?_
        refine go hΓ 4 rfl ?_
        exact ⟨⟨rfl, rfl, trivial⟩, [], rfl, .inl rfl⟩
    · refine go hΓ 6 rfl ?_
      refine eo_shr 1 [4] _ [.box 51 [S z.Root, .d (Sl e_api_Record z.Records)], .dead] rfl rfl rfl (Nat.le_of_ble_eq_true rfl) ?_
      refine go_ops hΓ 4 rfl ?_
      obtain rfl := Option.some.inj h36
      exact fin_pure hΓ (.inr rfl) rfl rfl

theorem c_slices_Clone_api_Record_api_Record {s : List T_api_Record} {r : List T_api_Record} (h : m_slices_Clone_api_Record_api_Record s = some r) : EC Tryz.prog 122 [.d (Sl e_api_Record s)] [] fun g hp' => g = .sl 0 r.length ∧ hp' = [.row 38 8 r.length (r.flatMap e_api_Record)] := by
  refine ec_enter (Fr.of 0 _) Tryz.func122 rfl (Fr.of_ok _) (Nat.le_of_ble_eq_true rfl) fun _ => ?_
  refine go_in ?_
  unfold m_slices_Clone_api_Record_api_Record at h
  refine go hΓ 2 rfl ?_
  refine eo_nilOwn (t := 0) 38 8 rfl (Nat.le_of_ble_eq_true rfl) ?_
  refine go_ops hΓ 6 rfl ?_
  refine eo_isNil hΓ rfl rfl rfl rfl rfl fun b hbn => ?_
  rcases b with _ | _
  · refine go_ops hΓ 7 rfl ?_
    refine eo_litRowT hΓ (enc := e_api_Record) ([] : List T_api_Record) rfl rfl rfl rfl rfl rfl rfl rfl rfl rfl rfl rfl (Nat.le_of_ble_eq_true rfl) ?_
    obtain ⟨y1, hy1, h2⟩ := bi_ok h
    refine go_ops hΓ 1 rfl ?_
    refine eo_appendT hΓ (enc := e_api_Record) hy1 rfl rfl rfl rfl rfl rfl rfl rfl rfl (fun _ => rfl) rfl rfl rfl rfl ?_
    refine go_ops hΓ 1 rfl ?_
    refine eo_shr 0 [] _ [.dead, .row 38 8 y1.length (y1.flatMap e_api_Record)] rfl rfl rfl (Nat.le_of_ble_eq_true rfl) ?_
    refine eo_move 1 0 [.row 38 8 y1.length (y1.flatMap e_api_Record), .dead] rfl rfl rfl rfl rfl rfl ?_
    refine go_ops hΓ 3 rfl ?_
    obtain rfl := Option.some.inj h2
    exact fin_objs hΓ [_] (.inr rfl) rfl rfl rfl rfl (.inr ⟨HB.mk rfl, rfl⟩)
  · obtain rfl := List.eq_nil_of_length_eq_zero (hbn rfl).1
    replace h : (some ([] : List T_api_Record) : Option (List T_api_Record)) = some r := h
    refine go_ops hΓ 5 rfl ?_
    refine eo_nilOwn (t := 0) 38 8 rfl (Nat.le_of_ble_eq_true rfl) ?_
    refine eo_shr 0 [] _ [.dead, .row 38 8 ([] : List T_api_Record).length (([] : List T_api_Record).flatMap e_api_Record)] rfl rfl rfl (Nat.le_of_ble_eq_true rfl) ?_
    refine eo_move 1 0 [.row 38 8 ([] : List T_api_Record).length (([] : List T_api_Record).flatMap e_api_Record), .dead] rfl rfl rfl rfl rfl rfl ?_
    refine go_ops hΓ 4 rfl ?_
    obtain rfl := Option.some.inj h
    exact fin_objs hΓ [_] (.inr rfl) rfl rfl rfl rfl (.inr ⟨HB.mk rfl, rfl⟩)

theorem c_name_find_1 {v_r : T_api_Record} {x : Int} {r : Bool} (h : m_name_find_1 v_r x = some r) : EC Tryz.prog 217 [.agg [S v_r.Name, I v_r.Kind, B v_r.Addr.Six, .d (.v (.int .u64 v_r.Addr.Hi)), .d (.v (.int .u64 v_r.Addr.Lo)), S v_r.To, S v_r.Words, I v_r.Life], .ptr 0 0] [.box 3 [I x]] fun g hp' => g = B r ∧ hp' = [.box 3 [I x]] := by
  refine ec_enter (Fr.of 0 _) Tryz.func217 rfl (Fr.of_ok _) (Nat.le_of_ble_eq_true rfl) fun _ => ?_
  refine go_in ?_
  unfold m_name_find_1 at h
  refine go hΓ 2 rfl ?_
  refine eo_box rfl rfl rfl rfl (Nat.le_of_ble_eq_true rfl) ?_
  refine go_ops hΓ 13 rfl ?_
  obtain rfl := Option.some.inj h
  exact fin_objs hΓ [_] (.inr rfl) rfl rfl rfl rfl (.inr ⟨HB.mk rfl, rfl⟩)

theorem c_slices_IndexFunc_api_Record_api_Record_2 {s : List T_api_Record} {f : Int} {r : Int} (h : m_slices_IndexFunc_api_Record_api_Record_2 s f = some r) : EC Tryz.prog 218 [.sl 0 s.length, .fn (.func 217) [] [.ptr 1 0]] [.row 38 8 s.length (s.flatMap e_api_Record), .box 3 [I f]] fun g hp' => g = I r ∧ hp' = [.row 38 8 s.length (s.flatMap e_api_Record), .box 3 [I f]] := by
  refine ec_enter (Fr.of 0 _) Tryz.func218 rfl (Fr.of_ok _) (Nat.le_of_ble_eq_true rfl) fun _ => ?_
  refine go_in ?_
  unfold m_slices_IndexFunc_api_Record_api_Record_2 at h
  refine go hΓ 13 rfl ?_
  obtain ⟨q4, hq4, h5⟩ := bi_ok h
  obtain ⟨hb7, h8⟩ := gd_ok hq4
  replace hb7 := of_decide_eq_true hb7
  refine j_cutEZ (R := fun a6 => q4 = .go a6) (fun a6 => []) (fun a6 => [.row 38 8 s.length (s.flatMap e_api_Record), .box 3 [I f]]) ?_ ?_
  · refine go hΓ 1 rfl ?_
    refine j_rangeI h8 (fun i1 s2 => [(0, .sl 0 s.length), (1, .fn (.func 217) [] [.ptr 1 0]), (7, I (s.length : Int)), (8, I (i1 : Int))]) (fun s2 => [.row 38 8 s.length (s.flatMap e_api_Record), .box 3 [I f]]) ⟨⟨rfl, rfl, rfl, rfl, trivial⟩, [], rfl, .inl rfl⟩ (fun i1 s2 y12 hlt hy10 hout11 => ?_) (fun s2 hgo hge => ?_)
    · refine go hΓ 6 rfl ?_
      refine j_condT rfl (decide_eq_true hlt) ?_
      obtain ⟨x13, hx13, h14⟩ := bi_ok hy10
      have hj15 := getZ_at hx13
      refine go hΓ 15 rfl ?_
      refine eo_o rfl (op_elemRowZ hΓ hx13 rfl rfl rfl rfl rfl rfl) ?_
      refine eo_o rfl (op_loadRowZ hΓ (enc := e_api_Record) ((i1 : Int).toNat) 0 hj15 rfl rfl rfl rfl (fun _ => rfl) (g := .agg [S x13.Name, I x13.Kind, B x13.Addr.Six, .d (.v (.int .u64 x13.Addr.Hi)), .d (.v (.int .u64 x13.Addr.Lo)), S x13.To, S x13.Words, I x13.Life]) rfl) ?_
      obtain ⟨y16, hy16, h17⟩ := bi_ok h14
      refine eo_callF [1] (B y16) [.row 38 8 s.length (s.flatMap e_api_Record), .box 3 [I f]] (callable Tryz.func217 rfl rfl) (c_name_find_1 hy16) rfl (Nat.le_of_ble_eq_true rfl) rfl rfl rfl rfl rfl rfl rfl rfl rfl rfl ?_
      refine go_ops hΓ 2 rfl ?_
      refine j_cond rfl (fun hb => ?_) (fun hb => ?_)
      · have h18 := cT h17 hb
        refine go hΓ 9 rfl ?_
        obtain ⟨v19, hv19, h20⟩ := bi_ok h18
        obtain rfl := Option.some.inj h20
        obtain rfl := hout11 _ rfl
        obtain rfl := Option.some.inj h5
        refine go hΓ 4 rfl ?_
        obtain rfl := Option.some.inj hv19
        exact fin_objs hΓ [] (.inr rfl) rfl rfl rfl rfl (.inl rfl)
      · have h21 := cF h17 hb
        refine go hΓ 7 rfl ?_
        obtain rfl := Option.some.inj h21
        exact ⟨_, rfl, ⟨⟨rfl, rfl, rfl, get_eq rfl (w64_succ (by omega)), trivial⟩, [], rfl, .inl rfl⟩⟩
    · subst hgo
      refine go hΓ 6 rfl ?_
      refine j_condF rfl (decide_eq_false hge) ?_
      refine go hΓ 4 rfl ?_
      exact ⟨_, rfl, ⟨trivial, [], rfl, .inl rfl⟩⟩
  · intro a6 ha
    subst ha
    replace h5 := goI_l h5
    refine go hΓ 7 rfl ?_
    obtain rfl := Option.some.inj h5
    exact fin_objs hΓ [] (.inr rfl) rfl rfl rfl rfl (.inl rfl)

theorem c_slices_DeleteFunc_api_Record_api_Record {k : Nat} {s : List T_api_Record} {f : Int} {r : List T_api_Record} (h : m_slices_DeleteFunc_api_Record_api_Record k s f = some r) : EC Tryz.prog 121 [.sl 0 s.length, .fn (.func 217) [] [.ptr 1 0]] [.row 38 8 s.length (s.flatMap e_api_Record), .box 3 [I f]] fun g hp' => g = .sl 0 r.length ∧ hp' = [.row 38 8 r.length (r.flatMap e_api_Record), .box 3 [I f]] := by
  refine ec_enter (Fr.of 0 _) Tryz.func121 rfl (Fr.of_ok _) (Nat.le_of_ble_eq_true rfl) fun _ => ?_
  refine go_in ?_
  unfold m_slices_DeleteFunc_api_Record_api_Record at h
  obtain ⟨y1, hy1, h2⟩ := bi_ok h
  refine go hΓ 9 rfl ?_
  refine eo_callF [0, 1] (I y1) [.row 38 8 s.length (s.flatMap e_api_Record), .box 3 [I f]] (callable Tryz.func218 rfl rfl) (c_slices_IndexFunc_api_Record_api_Record_2 hy1) rfl (Nat.le_of_ble_eq_true rfl) rfl rfl rfl rfl rfl rfl rfl rfl rfl rfl ?_
  refine go_ops hΓ 10 rfl ?_
  refine j_cond rfl (fun hb => ?_) (fun hb => ?_)
  · have h3 := cT h2 hb
    refine go hΓ 8 rfl ?_
    obtain rfl := Option.some.inj h3
    exact fin_objs hΓ [] (.inr rfl) rfl rfl rfl rfl (.inl rfl)
  · have h4 := cF h2 hb
    refine go hΓ 10 rfl ?_
    obtain ⟨q8, hq8, h9⟩ := bi_ok h4
    refine j_cutNZ [(0, .sl 0 q8.1.length), (5, I q8.2)] [.row 38 8 q8.1.length (q8.1.flatMap e_api_Record), .box 3 [I f]] ?_ ?_
    · refine go hΓ 1 rfl ?_
      refine j_loop hq8 (fun s6 => [(0, .sl 0 s6.1.length), (1, .fn (.func 217) [] [.ptr 1 0]), (5, I s6.2.1), (6, I s6.2.2)]) (fun s6 => [.row 38 8 s6.1.length (s6.1.flatMap e_api_Record), .box 3 [I f]]) ⟨⟨rfl, rfl, rfl, rfl, trivial⟩, [], rfl, .inl rfl⟩ (fun s6 y14 hy12 hout13 => ?_)
      refine go hΓ 9 rfl ?_
      refine j_cond rfl (fun hb => ?_) (fun hb => ?_)
      · have h15 := cT hy12 hb
        obtain ⟨x16, hx16, h17⟩ := bi_ok h15
        have hj18 := getZ_at hx16
        refine go hΓ 8 rfl ?_
        refine eo_o rfl (op_elemRowZ hΓ hx16 rfl rfl rfl rfl rfl rfl) ?_
        refine eo_o rfl (op_loadRowZ hΓ (enc := e_api_Record) s6.2.2.toNat 0 hj18 rfl rfl rfl rfl (fun _ => rfl) (g := .agg [S x16.Name, I x16.Kind, B x16.Addr.Six, .d (.v (.int .u64 x16.Addr.Hi)), .d (.v (.int .u64 x16.Addr.Lo)), S x16.To, S x16.Words, I x16.Life]) rfl) ?_
        refine eo_alloc hΓ rfl rfl rfl (Nat.le_of_ble_eq_true rfl) ?_
        refine eo_store hΓ rfl rfl rfl rfl rfl rfl rfl rfl (Nat.le_of_ble_eq_true rfl) ?_
        refine eo_hp [.row 38 8 s6.1.length (s6.1.flatMap e_api_Record), .box 3 [I f], .box 38 [S x16.Name, I x16.Kind, B x16.Addr.Six, .d (.v (.int .u64 x16.Addr.Hi)), .d (.v (.int .u64 x16.Addr.Lo)), S x16.To, S x16.Words, I x16.Life]] rfl ?_
        obtain ⟨y19, hy19, h20⟩ := bi_ok h17
        refine go_ops hΓ 6 rfl ?_
        refine eo_callF [1] (B y19) [.row 38 8 s6.1.length (s6.1.flatMap e_api_Record), .box 3 [I f], .box 38 [S x16.Name, I x16.Kind, B x16.Addr.Six, .d (.v (.int .u64 x16.Addr.Hi)), .d (.v (.int .u64 x16.Addr.Lo)), S x16.To, S x16.Words, I x16.Life]] (callable Tryz.func217 rfl rfl) (c_name_find_1 hy19) rfl (Nat.le_of_ble_eq_true rfl) rfl rfl rfl rfl rfl rfl rfl rfl rfl rfl ?_
        refine go_ops hΓ 3 rfl ?_
        refine j_cond rfl (fun hb => ?_) (fun hb => ?_)
        · have h21 := cT h20 hb
          obtain ⟨x22, hx22, h23⟩ := bi_ok h21
          have hj24 := getZ_at hx22
          refine go hΓ 5 rfl ?_
          refine eo_o rfl (op_elemRowZ hΓ hx22 rfl rfl rfl rfl rfl rfl) ?_
          refine eo_storeRowZ hΓ (enc := e_api_Record) (z' := x16) s6.2.1.toNat 0 hj24 rfl rfl rfl rfl (fun _ => rfl) rfl rfl rfl rfl rfl rfl (Nat.le_of_ble_eq_true rfl) ?_
          refine eo_hp [.row 38 8 (s6.1.set s6.2.1.toNat x16).length ((s6.1.set s6.2.1.toNat x16).flatMap e_api_Record), .box 3 [I f], .box 38 [S x16.Name, I x16.Kind, B x16.Addr.Six, .d (.v (.int .u64 x16.Addr.Hi)), .d (.v (.int .u64 x16.Addr.Lo)), S x16.To, S x16.Words, I x16.Life]] rfl ?_
          refine eo_relen 0 (n' := (s6.1.set s6.2.1.toNat x16).length) rfl List.length_set.symm ?_
          refine go_ops hΓ 14 rfl ?_
          obtain rfl := Option.some.inj h23
          exact ⟨_, rfl, ⟨⟨rfl, rfl, rfl, rfl, trivial⟩, [_], rfl, .inr ⟨HB.mk rfl, FB.mk rfl, (Nat.le_of_ble_eq_true rfl)⟩⟩⟩
        · have h25 := cF h20 hb
          refine go hΓ 8 rfl ?_
          obtain rfl := Option.some.inj h25
          exact ⟨_, rfl, ⟨⟨rfl, rfl, rfl, rfl, trivial⟩, [_], rfl, .inr ⟨HB.mk rfl, FB.mk rfl, (Nat.le_of_ble_eq_true rfl)⟩⟩⟩
      · have h26 := cF hy12 hb
        refine go hΓ 4 rfl ?_
        obtain rfl := Option.some.inj h26
        obtain rfl := hout13 _ rfl
        exact ⟨⟨rfl, rfl, trivial⟩, [], rfl, .inl rfl⟩
    · obtain ⟨z27, hz27, h28⟩ := bi_ok h9
      refine go hΓ 5 rfl ?_
      refine eo_o rfl (op_viewI hΓ hz27 rfl rfl rfl rfl rfl rfl) ?_
      refine eo_s0 (Nat.le_of_ble_eq_true rfl) (ops_clearT hΓ (enc := e_api_Record) (a := q8.2) hz27 rfl rfl rfl rfl rfl rfl rfl rfl rfl rfl (fun _ => rfl)) ?_
      refine go_ops hΓ 6 rfl ?_
      refine eo_subCut hΓ hz27 rfl rfl rfl rfl rfl rfl rfl rfl ?_
      refine go_ops hΓ 4 rfl ?_
      obtain rfl := Option.some.inj h28
      exact fin_objs hΓ [] (.inr rfl) rfl rfl rfl rfl (.inl rfl)

theorem c_name_find_2 {v_r : T_api_Record} {r : Bool} (h : m_name_find_2 v_r = some r) : Pure Tryz.prog 219 [.agg [S v_r.Name, I v_r.Kind, B v_r.Addr.Six, .d (.v (.int .u64 v_r.Addr.Hi)), .d (.v (.int .u64 v_r.Addr.Lo)), S v_r.To, S v_r.Words, I v_r.Life]] (B r) := by
  refine Pure.enter (Fr.of 0 _) Tryz.func219 rfl (Fr.of_ok _) rfl rfl ?_
  refine go_in ?_
  unfold m_name_find_2 at h
  refine go hΓ 2 rfl ?_
  refine eo_box rfl rfl rfl rfl (Nat.le_of_ble_eq_true rfl) ?_
  refine go_ops hΓ 12 rfl ?_
  obtain rfl := Option.some.inj h
  exact fin_pure hΓ (.inr rfl) rfl rfl

theorem c_slices_IndexFunc_api_Record_api_Record_3 {s : List T_api_Record} {r : Int} (h : m_slices_IndexFunc_api_Record_api_Record_3 s = some r) : Pure Tryz.prog 218 [.d (Sl e_api_Record s), .fn (.func 219) [] []] (I r) := by
  refine Pure.enter (Fr.of 0 _) Tryz.func218 rfl (Fr.of_ok _) rfl rfl ?_
  refine go_in ?_
  unfold m_slices_IndexFunc_api_Record_api_Record_3 at h
  refine go hΓ 13 rfl ?_
  obtain ⟨q4, hq4, h5⟩ := bi_ok h
  refine j_bound 0 rfl fun hb7 => ?_
  refine j_cutEZ (R := fun a6 => q4 = .go a6) (fun a6 => []) (fun a6 => []) ?_ ?_
  · refine go hΓ 1 rfl ?_
    refine j_range s hq4 (fun i1 s2 => [(0, .d (Sl e_api_Record s)), (1, .fn (.func 219) [] []), (7, I (s.length : Int)), (8, I (i1 : Int))]) (fun s2 => []) ⟨⟨rfl, rfl, rfl, rfl, trivial⟩, [], rfl, .inl rfl⟩ (fun i1 x3 s2 y11 hx8 hlt hy9 hout10 => ?_) (fun s2 hgo => ?_)
    · refine go hΓ 6 rfl ?_
      refine j_condT rfl (decide_eq_true (Int.ofNat_lt.2 hlt)) ?_
      refine go hΓ 15 rfl ?_
      refine eo_o rfl (op_elemZ hΓ (enc := e_api_Record) (getZ_nat hx8) rfl rfl rfl rfl rfl (fun _ => rfl)) ?_
      obtain ⟨y12, hy12, h13⟩ := bi_ok hy9
      refine go_ops hΓ 1 rfl ?_
      refine eo_callP (callable Tryz.func219 rfl rfl) (c_name_find_2 hy12) rfl (Nat.le_of_ble_eq_true rfl) rfl rfl rfl rfl rfl ?_
      refine go_ops hΓ 2 rfl ?_
      refine j_cond rfl (fun hb => ?_) (fun hb => ?_)
      · have h14 := cT h13 hb
        refine go hΓ 9 rfl ?_
        obtain ⟨v15, hv15, h16⟩ := bi_ok h14
        obtain rfl := Option.some.inj h16
        obtain rfl := hout10 _ rfl
        obtain rfl := Option.some.inj h5
        refine go hΓ 4 rfl ?_
        obtain rfl := Option.some.inj hv15
        exact fin_pure hΓ (.inr rfl) rfl rfl
      · have h17 := cF h13 hb
        refine go hΓ 7 rfl ?_
        obtain rfl := Option.some.inj h17
        exact ⟨_, rfl, ⟨⟨rfl, rfl, rfl, get_eq rfl (w64_succ (Nat.lt_of_lt_of_le hlt hb7)), trivial⟩, [], rfl, .inl rfl⟩⟩
    · subst hgo
      refine go hΓ 6 rfl ?_
      refine j_condF rfl (decide_eq_false (Int.lt_irrefl _)) ?_
      refine go hΓ 4 rfl ?_
      exact ⟨_, rfl, ⟨trivial, [], rfl, .inl rfl⟩⟩
  · intro a6 ha
    subst ha
    replace h5 := goI_l h5
    refine go hΓ 7 rfl ?_
    obtain rfl := Option.some.inj h5
    exact fin_pure hΓ (.inr rfl) rfl rfl

theorem c_name_find {k : Nat} {z : T_api_Zone} {name : Str} {kind : Int} {r : (List T_api_Record) × Int} (h : m_name_find k z name kind = some r) : Pure Tryz.prog 108 [.agg [S z.Root, .d (Sl e_api_Record z.Records)], S name, I kind] (.tup [.d (Sl e_api_Record r.1), I r.2]) := by
  refine Pure.enter (Fr.of 0 _) Tryz.func108 rfl (Fr.of_ok _) rfl rfl ?_
  refine go_in ?_
  unfold m_name_find at h
  refine go hΓ 2 rfl ?_
  refine eo_box rfl rfl rfl rfl (Nat.le_of_ble_eq_true rfl) ?_
  refine eo_box rfl rfl rfl rfl (Nat.le_of_ble_eq_true rfl) ?_
  refine go_ops hΓ 6 rfl ?_
  refine eo_nilOwn (t := 0) 38 8 rfl (Nat.le_of_ble_eq_true rfl) ?_
  refine go_ops hΓ 7 rfl ?_
  obtain ⟨q4, hq4, h5⟩ := bi_ok h
  refine go hΓ 1 rfl ?_
  refine j_loop hq4 (fun s2 => [(1, S s2.2.1), (3, .ptr 0 0), (5, .ptr 1 0), (8, .sl 2 s2.1.length), (9, I s2.2.2)]) (fun s2 => [.box 51 [S z.Root, .d (Sl e_api_Record z.Records)], .box 3 [I kind], .row 38 8 s2.1.length (s2.1.flatMap e_api_Record)]) ⟨⟨rfl, rfl, rfl, rfl, rfl, trivial⟩, [], rfl, .inl rfl⟩ (fun s2 y10 hy8 hout9 => ?_)
  obtain ⟨y11, hy11, h12⟩ := bi_ok hy8
  refine go hΓ 6 rfl ?_
  refine eo_callP (callable Tryz.func216 rfl rfl) (c_name_at hy11) rfl (Nat.le_of_ble_eq_true rfl) rfl rfl rfl rfl rfl ?_
  refine go_ops hΓ 13 rfl ?_
  refine o_cut 3 [(3, .ptr 0 0), (5, .ptr 1 0), (8, .sl 2 s2.1.length), (9, I s2.2.2), (10, .d (Sl e_api_Record y11.1)), (27, B (((s2.2.2 : Int) == 0) && (!y11.2)))] [.box 51 [S z.Root, .d (Sl e_api_Record z.Records)], .box 3 [I kind], .row 38 8 s2.1.length (s2.1.flatMap e_api_Record)] ?_ ?_
  · refine eo_gsplit rfl rfl (fun hb => ?_) (fun hb => ?_)
    · refine go_ops hΓ 4 rfl ?_
      exact ⟨⟨rfl, rfl, rfl, rfl, rfl, get_b rfl (and_t hb), trivial⟩, [], rfl, .inl rfl⟩
    · refine go_ops hΓ 4 rfl ?_
      exact ⟨⟨rfl, rfl, rfl, rfl, rfl, get_b rfl (and_f hb), trivial⟩, [], rfl, .inl rfl⟩
  · refine go_ops hΓ 1 rfl ?_
    refine o_cut 4 [(3, .ptr 0 0), (5, .ptr 1 0), (8, .sl 2 s2.1.length), (9, I s2.2.2), (10, .d (Sl e_api_Record y11.1)), (32, B ((((s2.2.2 : Int) == 0) && (!y11.2)) && (((y11.1.length : Int) : Int) == 0)))] [.box 51 [S z.Root, .d (Sl e_api_Record z.Records)], .box 3 [I kind], .row 38 8 s2.1.length (s2.1.flatMap e_api_Record)] ?_ ?_
    · refine eo_gsplit rfl rfl (fun hb => ?_) (fun hb => ?_)
      · refine go_ops hΓ 5 rfl ?_
        exact ⟨⟨rfl, rfl, rfl, rfl, rfl, get_b rfl (and_t hb), trivial⟩, [], rfl, .inl rfl⟩
      · refine go_ops hΓ 5 rfl ?_
        exact ⟨⟨rfl, rfl, rfl, rfl, rfl, get_b rfl (and_f hb), trivial⟩, [], rfl, .inl rfl⟩
    · refine go_ops hΓ 2 rfl ?_
      refine j_cond rfl (fun hb => ?_) (fun hb => ?_)
      · have h13 := cT h12 hb
        refine go hΓ 10 rfl ?_
        obtain ⟨v14, hv14, h15⟩ := bi_ok h13
        obtain rfl := Option.some.inj h15
        obtain rfl := hout9 _ rfl
        obtain rfl := Option.some.inj h5
        refine go hΓ 2 rfl ?_
        obtain rfl := Option.some.inj hv14
        exact fin_pure hΓ (.inr rfl) rfl rfl
      · have h16 := cF h12 hb
        obtain ⟨y17, hy17, h18⟩ := bi_ok h16
        refine go hΓ 5 rfl ?_
        refine eo_callF [] (.sl 3 y17.length) [.box 51 [S z.Root, .d (Sl e_api_Record z.Records)], .box 3 [I kind], .row 38 8 s2.1.length (s2.1.flatMap e_api_Record), .row 38 8 y17.length (y17.flatMap e_api_Record)] (callable Tryz.func122 rfl rfl) (c_slices_Clone_api_Record_api_Record hy17) rfl (Nat.le_of_ble_eq_true rfl) rfl rfl rfl rfl rfl rfl rfl rfl rfl rfl ?_
        obtain ⟨y19, hy19, h20⟩ := bi_ok h18
        refine go_ops hΓ 1 rfl ?_
        refine eo_callF [3, 1] (.sl 3 y19.length) [.box 51 [S z.Root, .d (Sl e_api_Record z.Records)], .box 3 [I kind], .row 38 8 s2.1.length (s2.1.flatMap e_api_Record), .row 38 8 y19.length (y19.flatMap e_api_Record)] (callable Tryz.func121 rfl rfl) (c_slices_DeleteFunc_api_Record_api_Record hy19) rfl (Nat.le_of_ble_eq_true rfl) rfl rfl rfl rfl rfl rfl rfl rfl rfl rfl ?_
        obtain ⟨y21, hy21, h22⟩ := bi_ok h20
        refine go_ops hΓ 6 rfl ?_
        refine eo_callP (callable Tryz.func218 rfl rfl) (c_slices_IndexFunc_api_Record_api_Record_3 hy21) rfl (Nat.le_of_ble_eq_true rfl) rfl rfl rfl rfl rfl ?_
        refine go_ops hΓ 10 rfl ?_
        refine o_cut 3 [(3, .ptr 0 0), (5, .ptr 1 0), (8, .sl 2 s2.1.length), (9, I s2.2.2), (10, .d (Sl e_api_Record y11.1)), (12, .sl 3 y19.length), (13, I y21), (45, B ((decide (((y19.length : Int) : Int) > 0)) || (decide ((y21 : Int) < 0))))] [.box 51 [S z.Root, .d (Sl e_api_Record z.Records)], .box 3 [I kind], .row 38 8 s2.1.length (s2.1.flatMap e_api_Record), .row 38 8 y19.length (y19.flatMap e_api_Record)] ?_ ?_
        · refine eo_gsplit rfl rfl (fun hb => ?_) (fun hb => ?_)
          · refine go_ops hΓ 4 rfl ?_
            exact ⟨⟨rfl, rfl, rfl, rfl, rfl, rfl, rfl, get_b rfl (or_t hb), trivial⟩, [], rfl, .inl rfl⟩
          · refine go_ops hΓ 4 rfl ?_
            exact ⟨⟨rfl, rfl, rfl, rfl, rfl, rfl, rfl, get_b rfl (or_f hb), trivial⟩, [], rfl, .inl rfl⟩
        · refine go_ops hΓ 2 rfl ?_
          refine j_cond rfl (fun hb => ?_) (fun hb => ?_)
          · have h23 := cT h22 hb
            refine go hΓ 4 rfl ?_
            refine eo_shr 3 [12, 47] _ [.box 51 [S z.Root, .d (Sl e_api_Record z.Records)], .box 3 [I kind], .row 38 8 s2.1.length (s2.1.flatMap e_api_Record), .dead] rfl rfl rfl (Nat.le_of_ble_eq_true rfl) ?_
            obtain ⟨y24, hy24, h25⟩ := bi_ok h23
            refine eo_appendT hΓ (enc := e_api_Record) hy24 rfl rfl rfl rfl rfl rfl rfl rfl rfl (fun _ => rfl) rfl rfl rfl rfl ?_
            refine go_ops hΓ 1 rfl ?_
            refine eo_shr 2 [6] _ [.box 51 [S z.Root, .d (Sl e_api_Record z.Records)], .box 3 [I kind], .dead, .dead] rfl rfl rfl (Nat.le_of_ble_eq_true rfl) ?_
            refine go_ops hΓ 7 rfl ?_
            obtain ⟨v26, hv26, h27⟩ := bi_ok h25
            obtain rfl := Option.some.inj h27
            obtain rfl := hout9 _ rfl
            obtain rfl := Option.some.inj h5
            refine go hΓ 2 rfl ?_
            obtain rfl := Option.some.inj hv26
            exact fin_pure hΓ (.inr rfl) rfl rfl
          · have h28 := cF h22 hb
            refine go hΓ 9 rfl ?_
            refine j_cond rfl (fun hb => ?_) (fun hb => ?_)
            · have h29 := cT h28 hb
              refine go hΓ 10 rfl ?_
              obtain ⟨v30, hv30, h31⟩ := bi_ok h29
              obtain rfl := Option.some.inj h31
              obtain rfl := hout9 _ rfl
              obtain rfl := Option.some.inj h5
              refine go hΓ 2 rfl ?_
              obtain rfl := Option.some.inj hv30
              exact fin_pure hΓ (.inr rfl) rfl rfl
            · have h32 := cF h28 hb
              obtain ⟨x33, hx33, h34⟩ := bi_ok h32
              refine go hΓ 7 rfl ?_
              refine eo_o rfl (op_elemZ hΓ (enc := e_api_Record) hx33 rfl rfl rfl rfl rfl (fun _ => rfl)) ?_
              refine go_ops hΓ 1 rfl ?_
              refine eo_litT hΓ (enc := e_api_Record) [x33] rfl rfl rfl rfl rfl rfl rfl rfl rfl rfl rfl rfl (Nat.le_of_ble_eq_true rfl) ?_
              obtain ⟨y35, hy35, h36⟩ := bi_ok h34
              refine eo_appendT hΓ (enc := e_api_Record) hy35 rfl rfl rfl rfl rfl rfl rfl rfl rfl (fun _ => rfl) rfl rfl rfl rfl ?_
              obtain ⟨x37, hx37, h38⟩ := bi_ok h36
              refine go_ops hΓ 7 rfl ?_
              refine eo_o rfl (op_elemZ hΓ (enc := e_api_Record) hx37 rfl rfl rfl rfl rfl (fun _ => rfl)) ?_
              obtain ⟨y39, hy39, h40⟩ := bi_ok h38
              refine go_ops hΓ 10 rfl ?_
              refine eo_callP (callable Tryz.func107 rfl rfl) (c_name_under hy39) rfl (Nat.le_of_ble_eq_true rfl) rfl rfl rfl rfl rfl ?_
              refine go_ops hΓ 3 rfl ?_
              refine j_cond rfl (fun hb => ?_) (fun hb => ?_)
              · have h41 := cT h40 hb
                refine go hΓ 4 rfl ?_
                refine eo_shr 2 [6] _ [.box 51 [S z.Root, .d (Sl e_api_Record z.Records)], .box 3 [I kind], .dead, .row 38 8 y19.length (y19.flatMap e_api_Record)] rfl rfl rfl (Nat.le_of_ble_eq_true rfl) ?_
                refine go_ops hΓ 6 rfl ?_
                obtain ⟨v42, hv42, h43⟩ := bi_ok h41
                obtain rfl := Option.some.inj h43
                obtain rfl := hout9 _ rfl
                obtain rfl := Option.some.inj h5
                refine go hΓ 2 rfl ?_
                obtain rfl := Option.some.inj hv42
                exact fin_pure hΓ (.inr rfl) rfl rfl
              · have h44 := cF h40 hb
                refine go hΓ 8 rfl ?_
                obtain rfl := Option.some.inj h44
                exact ⟨_, rfl, ⟨⟨rfl, rfl, rfl, rfl, rfl, trivial⟩, [_], rfl, .inr ⟨HB.mk rfl, FB.mk rfl, (Nat.le_of_ble_eq_true rfl)⟩⟩⟩

theorem c_name_known {k : Nat} {n : T_api_Net} {name : Str} {kind : Int} {r : T_api_Answer × Bool} (h : m_name_known k n name kind = some r) : Pure Tryz.prog 157 [.agg [.d (Sl eS n.Search), I n.Dots, .d (Sl e_api_Split n.Splits), .d (Sl e_api_Source n.Sources)], S name, I kind] (.tup [.agg [S r.1.Name, S r.1.Server, .d (Sl e_api_Record r.1.Records)], B r.2]) := by
  refine Pure.enter (Fr.of 0 _) Tryz.func157 rfl (Fr.of_ok _) rfl rfl ?_
  refine go_in ?_
  unfold m_name_known at h
  refine go hΓ 2 rfl ?_
  refine eo_box rfl rfl rfl rfl (Nat.le_of_ble_eq_true rfl) ?_
  refine eo_alloc hΓ rfl rfl rfl (Nat.le_of_ble_eq_true rfl) ?_
  obtain ⟨y1, hy1, h2⟩ := bi_ok h
  refine go_ops hΓ 8 rfl ?_
  refine eo_callP (callable Tryz.func247 rfl rfl) (c_name_servers hy1) rfl (Nat.le_of_ble_eq_true rfl) rfl rfl rfl rfl rfl ?_
  refine go_ops hΓ 15 rfl ?_
  obtain ⟨q6, hq6, h7⟩ := bi_ok h2
  refine j_bound 23 rfl fun hb9 => ?_
  refine j_cutEZ (R := fun a8 => q6 = .go a8) (fun a8 => [(6, .ptr 1 0)]) (fun a8 => [.box 92 [.d (Sl eS n.Search), I n.Dots, .d (Sl e_api_Split n.Splits), .d (Sl e_api_Source n.Sources)], .box 95 [S [], S [], .d (Sl e_api_Record [])]]) ?_ ?_
  · refine go hΓ 1 rfl ?_
    refine j_range y1.1 hq6 (fun i3 s4 => [(1, S name), (2, I kind), (3, .ptr 0 0), (6, .ptr 1 0), (23, .d (Sl eS y1.1)), (24, I (y1.1.length : Int)), (25, I (i3 : Int))]) (fun s4 => [.box 92 [.d (Sl eS n.Search), I n.Dots, .d (Sl e_api_Split n.Splits), .d (Sl e_api_Source n.Sources)], .box 95 [S [], S [], .d (Sl e_api_Record [])]]) ⟨⟨rfl, rfl, rfl, rfl, rfl, rfl, rfl, trivial⟩, [], rfl, .inl rfl⟩ (fun i3 x5 s4 y13 hx10 hlt hy11 hout12 => ?_) (fun s4 hgo => ?_)
    · refine go hΓ 6 rfl ?_
      refine j_condT rfl (decide_eq_true (Int.ofNat_lt.2 hlt)) ?_
      refine go hΓ 6 rfl ?_
      refine eo_o rfl (op_elemZ hΓ (enc := eS) (getZ_nat hx10) rfl rfl rfl rfl rfl (fun _ => rfl)) ?_
      obtain ⟨y14, hy14, h15⟩ := bi_ok hy11
      refine go_ops hΓ 9 rfl ?_
      refine eo_callP (callable Tryz.func248 rfl rfl) (c_name_zoneOf hy14) rfl (Nat.le_of_ble_eq_true rfl) rfl rfl rfl rfl rfl ?_
      refine go_ops hΓ 3 rfl ?_
      refine eo_alloc hΓ rfl rfl rfl (Nat.le_of_ble_eq_true rfl) ?_
      refine eo_store hΓ rfl rfl rfl rfl rfl rfl rfl rfl (Nat.le_of_ble_eq_true rfl) ?_
      refine eo_hp [.box 92 [.d (Sl eS n.Search), I n.Dots, .d (Sl e_api_Split n.Splits), .d (Sl e_api_Source n.Sources)], .box 95 [S [], S [], .d (Sl e_api_Record [])], .box 51 [S y14.1.Root, .d (Sl e_api_Record y14.1.Records)]] rfl ?_
      refine go_ops hΓ 8 rfl ?_
      refine j_cond rfl (fun hb => ?_) (fun hb => ?_)
      · have h16 := cT h15 hb
        obtain ⟨y17, hy17, h18⟩ := bi_ok h16
        refine go hΓ 5 rfl ?_
        refine eo_callP (callable Tryz.func108 rfl rfl) (c_name_find hy17) rfl (Nat.le_of_ble_eq_true rfl) rfl rfl rfl rfl rfl ?_
        refine go_ops hΓ 12 rfl ?_
        refine eo_build hΓ (gs := [S name, S x5, .d (Sl e_api_Record y17.1)]) rfl rfl rfl rfl rfl rfl rfl ?_
        refine go_ops hΓ 3 rfl ?_
        refine o_cut 4 [(6, .ptr 1 0), (47, .agg [S name, S x5, .d (Sl e_api_Record y17.1)]), (54, B (((y17.2 : Int) == 0) && (decide (((y17.1.length : Int) : Int) > 0))))] [.box 92 [.d (Sl eS n.Search), I n.Dots, .d (Sl e_api_Split n.Splits), .d (Sl e_api_Source n.Sources)], .box 95 [S [], S [], .d (Sl e_api_Record [])], .box 51 [S y14.1.Root, .d (Sl e_api_Record y14.1.Records)]] ?_ ?_
        · refine eo_gsplit rfl rfl (fun hb => ?_) (fun hb => ?_)
          · refine go_ops hΓ 5 rfl ?_
            exact ⟨⟨rfl, rfl, get_b rfl (and_t hb), trivial⟩, [], rfl, .inl rfl⟩
          · refine go_ops hΓ 5 rfl ?_
            exact ⟨⟨rfl, rfl, get_b rfl (and_f hb), trivial⟩, [], rfl, .inl rfl⟩
        · refine eo_store hΓ rfl rfl rfl rfl rfl rfl rfl rfl (Nat.le_of_ble_eq_true rfl) ?_
          refine eo_hp [.box 92 [.d (Sl eS n.Search), I n.Dots, .d (Sl e_api_Split n.Splits), .d (Sl e_api_Source n.Sources)], .box 95 [S name, S x5, .d (Sl e_api_Record y17.1)], .box 51 [S y14.1.Root, .d (Sl e_api_Record y14.1.Records)]] rfl ?_
          refine go_ops hΓ 6 rfl ?_
          obtain ⟨v19, hv19, h20⟩ := bi_ok h18
          obtain rfl := Option.some.inj h20
          obtain rfl := hout12 _ rfl
          obtain rfl := Option.some.inj h7
          refine go hΓ 4 rfl ?_
          obtain rfl := Option.some.inj hv19
          exact fin_pure hΓ (.inr rfl) rfl rfl
      · have h21 := cF h15 hb
        refine go hΓ 7 rfl ?_
        obtain rfl := Option.some.inj h21
        exact ⟨_, rfl, ⟨⟨rfl, rfl, rfl, rfl, rfl, rfl, get_eq rfl (w64_succ (Nat.lt_of_lt_of_le hlt hb9)), trivial⟩, [_], rfl, .inr ⟨HB.mk rfl, FB.mk rfl, (Nat.le_of_ble_eq_true rfl)⟩⟩⟩
    · subst hgo
      refine go hΓ 6 rfl ?_
      refine j_condF rfl (decide_eq_false (Int.lt_irrefl _)) ?_
      refine go hΓ 4 rfl ?_
      exact ⟨_, rfl, ⟨⟨rfl, trivial⟩, [], rfl, .inl rfl⟩⟩
  · intro a8 ha
    subst ha
    replace h7 := goI_l h7
    refine go hΓ 3 rfl ?_
    refine eo_build hΓ (gs := [S [], S [], .d (Sl e_api_Record [])]) rfl rfl rfl rfl rfl rfl rfl ?_
    refine eo_store hΓ rfl rfl rfl rfl rfl rfl rfl rfl (Nat.le_of_ble_eq_true rfl) ?_
    refine eo_hp [.box 92 [.d (Sl eS n.Search), I n.Dots, .d (Sl e_api_Split n.Splits), .d (Sl e_api_Source n.Sources)], .box 95 [S [], S [], .d (Sl e_api_Record [])]] rfl ?_
    refine go_ops hΓ 4 rfl ?_
    obtain rfl := Option.some.inj h7
    exact fin_pure hΓ (.inr rfl) rfl rfl

theorem c_name_Ask {k : Nat} {n : T_api_Net} {name : Str} {kind : Int} {r : T_api_Answer × Int} (h : m_name_Ask k n name kind = some r) : Pure Tryz.prog 59 [.agg [.d (Sl eS n.Search), I n.Dots, .d (Sl e_api_Split n.Splits), .d (Sl e_api_Source n.Sources)], S name, I kind] (.tup [.agg [S r.1.Name, S r.1.Server, .d (Sl e_api_Record r.1.Records)], I r.2]) := by
  refine Pure.enter (Fr.of 0 _) Tryz.func59 rfl (Fr.of_ok _) rfl rfl ?_
  refine go_in ?_
  unfold m_name_Ask at h
  refine go hΓ 2 rfl ?_
  refine eo_box rfl rfl rfl rfl (Nat.le_of_ble_eq_true rfl) ?_
  refine eo_alloc hΓ rfl rfl rfl (Nat.le_of_ble_eq_true rfl) ?_
  obtain ⟨y1, hy1, h2⟩ := bi_ok h
  refine go_ops hΓ 7 rfl ?_
  refine eo_callP (callable Tryz.func61 rfl rfl) (c_name_CheckNet hy1) rfl (Nat.le_of_ble_eq_true rfl) rfl rfl rfl rfl rfl ?_
  refine go_ops hΓ 9 rfl ?_
  refine j_cond rfl (fun hb => ?_) (fun hb => ?_)
  · have h3 := cT h2 hb
    refine go hΓ 2 rfl ?_
    refine eo_build hΓ (gs := [S [], S [], .d (Sl e_api_Record [])]) rfl rfl rfl rfl rfl rfl rfl ?_
    refine go_ops hΓ 1 rfl ?_
    refine eo_store hΓ rfl rfl rfl rfl rfl rfl rfl rfl (Nat.le_of_ble_eq_true rfl) ?_
    refine eo_hp [.box 92 [.d (Sl eS n.Search), I n.Dots, .d (Sl e_api_Split n.Splits), .d (Sl e_api_Source n.Sources)], .box 95 [S [], S [], .d (Sl e_api_Record [])]] rfl ?_
    refine go_ops hΓ 5 rfl ?_
    obtain rfl := Option.some.inj h3
    exact fin_pure hΓ (.inr rfl) rfl rfl
  · have h4 := cF h2 hb
    obtain ⟨y5, hy5, h6⟩ := bi_ok h4
    refine go hΓ 6 rfl ?_
    refine eo_callP (callable Tryz.func90 rfl rfl) (c_name_CheckDomain hy5) rfl (Nat.le_of_ble_eq_true rfl) rfl rfl rfl rfl rfl ?_
    refine go_ops hΓ 9 rfl ?_
    refine j_cond rfl (fun hb => ?_) (fun hb => ?_)
    · have h7 := cT h6 hb
      refine go hΓ 2 rfl ?_
      refine eo_build hΓ (gs := [S [], S [], .d (Sl e_api_Record [])]) rfl rfl rfl rfl rfl rfl rfl ?_
      refine go_ops hΓ 1 rfl ?_
      refine eo_store hΓ rfl rfl rfl rfl rfl rfl rfl rfl (Nat.le_of_ble_eq_true rfl) ?_
      refine eo_hp [.box 92 [.d (Sl eS n.Search), I n.Dots, .d (Sl e_api_Split n.Splits), .d (Sl e_api_Source n.Sources)], .box 95 [S [], S [], .d (Sl e_api_Record [])]] rfl ?_
      refine go_ops hΓ 5 rfl ?_
      obtain rfl := Option.some.inj h7
      exact fin_pure hΓ (.inr rfl) rfl rfl
    · have h8 := cF h6 hb
      obtain ⟨y9, hy9, h10⟩ := bi_ok h8
      refine go hΓ 6 rfl ?_
      refine eo_callP (callable Tryz.func106 rfl rfl) (c_name_isKind hy9) rfl (Nat.le_of_ble_eq_true rfl) rfl rfl rfl rfl rfl ?_
      refine go_ops hΓ 3 rfl ?_
      refine j_cond rfl (fun hb => ?_) (fun hb => ?_)
      · have h11 := cT h10 hb
        refine go hΓ 2 rfl ?_
        refine eo_build hΓ (gs := [S [], S [], .d (Sl e_api_Record [])]) rfl rfl rfl rfl rfl rfl rfl ?_
        refine eo_store hΓ rfl rfl rfl rfl rfl rfl rfl rfl (Nat.le_of_ble_eq_true rfl) ?_
        refine eo_hp [.box 92 [.d (Sl eS n.Search), I n.Dots, .d (Sl e_api_Split n.Splits), .d (Sl e_api_Source n.Sources)], .box 95 [S [], S [], .d (Sl e_api_Record [])]] rfl ?_
        refine go_ops hΓ 5 rfl ?_
        obtain rfl := Option.some.inj h11
        exact fin_pure hΓ (.inr rfl) rfl rfl
      · have h12 := cF h10 hb
        obtain ⟨y13, hy13, h14⟩ := bi_ok h12
        refine go hΓ 10 rfl ?_
        refine eo_callP (callable Tryz.func156 rfl rfl) (Pure.rows (c_name_names hy13) rfl rfl) rfl (Nat.le_of_ble_eq_true rfl) rfl rfl rfl rfl rfl ?_
        refine go_ops hΓ 4 rfl ?_
        obtain ⟨q18, hq18, h19⟩ := bi_ok h14
        refine j_bound 35 rfl fun hb21 => ?_
        refine j_cutEZ (R := fun a20 => q18 = .go a20) (fun a20 => [(6, .ptr 1 0)]) (fun a20 => [.box 92 [.d (Sl eS n.Search), I n.Dots, .d (Sl e_api_Split n.Splits), .d (Sl e_api_Source n.Sources)], .box 95 [S [], S [], .d (Sl e_api_Record [])]]) ?_ ?_
        · refine go hΓ 1 rfl ?_
          refine j_range y13 hq18 (fun i15 s16 => [(2, I kind), (3, .ptr 0 0), (6, .ptr 1 0), (35, .d (Sl eS y13)), (36, I (y13.length : Int)), (37, I (i15 : Int))]) (fun s16 => [.box 92 [.d (Sl eS n.Search), I n.Dots, .d (Sl e_api_Split n.Splits), .d (Sl e_api_Source n.Sources)], .box 95 [S [], S [], .d (Sl e_api_Record [])]]) ⟨⟨rfl, rfl, rfl, rfl, rfl, rfl, trivial⟩, [], rfl, .inl rfl⟩ (fun i15 x17 s16 y25 hx22 hlt hy23 hout24 => ?_) (fun s16 hgo => ?_)
          · refine go hΓ 6 rfl ?_
            refine j_condT rfl (decide_eq_true (Int.ofNat_lt.2 hlt)) ?_
            refine go hΓ 6 rfl ?_
            refine eo_o rfl (op_elemZ hΓ (enc := eS) (getZ_nat hx22) rfl rfl rfl rfl rfl (fun _ => rfl)) ?_
            obtain ⟨y26, hy26, h27⟩ := bi_ok hy23
            refine go_ops hΓ 9 rfl ?_
            refine eo_callP (callable Tryz.func157 rfl rfl) (c_name_known hy26) rfl (Nat.le_of_ble_eq_true rfl) rfl rfl rfl rfl rfl ?_
            refine go_ops hΓ 3 rfl ?_
            refine eo_alloc hΓ rfl rfl rfl (Nat.le_of_ble_eq_true rfl) ?_
            refine eo_store hΓ rfl rfl rfl rfl rfl rfl rfl rfl (Nat.le_of_ble_eq_true rfl) ?_
            refine eo_hp [.box 92 [.d (Sl eS n.Search), I n.Dots, .d (Sl e_api_Split n.Splits), .d (Sl e_api_Source n.Sources)], .box 95 [S [], S [], .d (Sl e_api_Record [])], .box 95 [S y26.1.Name, S y26.1.Server, .d (Sl e_api_Record y26.1.Records)]] rfl ?_
            refine go_ops hΓ 8 rfl ?_
            refine j_cond rfl (fun hb => ?_) (fun hb => ?_)
            · have h28 := cT h27 hb
              refine go hΓ 3 rfl ?_
              refine eo_store hΓ rfl rfl rfl rfl rfl rfl rfl rfl (Nat.le_of_ble_eq_true rfl) ?_
              refine eo_hp [.box 92 [.d (Sl eS n.Search), I n.Dots, .d (Sl e_api_Split n.Splits), .d (Sl e_api_Source n.Sources)], .box 95 [S y26.1.Name, S y26.1.Server, .d (Sl e_api_Record y26.1.Records)], .box 95 [S y26.1.Name, S y26.1.Server, .d (Sl e_api_Record y26.1.Records)]] rfl ?_
              refine go_ops hΓ 6 rfl ?_
              obtain ⟨v29, hv29, h30⟩ := bi_ok h28
              obtain rfl := Option.some.inj h30
              obtain rfl := hout24 _ rfl
              obtain rfl := Option.some.inj h19
              refine go hΓ 4 rfl ?_
              obtain rfl := Option.some.inj hv29
              exact fin_pure hΓ (.inr rfl) rfl rfl
            · have h31 := cF h27 hb
              refine go hΓ 7 rfl ?_
              obtain rfl := Option.some.inj h31
              exact ⟨_, rfl, ⟨⟨rfl, rfl, rfl, rfl, rfl, get_eq rfl (w64_succ (Nat.lt_of_lt_of_le hlt hb21)), trivial⟩, [_], rfl, .inr ⟨HB.mk rfl, FB.mk rfl, (Nat.le_of_ble_eq_true rfl)⟩⟩⟩
          · subst hgo
            refine go hΓ 6 rfl ?_
            refine j_condF rfl (decide_eq_false (Int.lt_irrefl _)) ?_
            refine go hΓ 4 rfl ?_
            exact ⟨_, rfl, ⟨⟨rfl, trivial⟩, [], rfl, .inl rfl⟩⟩
        · intro a20 ha
          subst ha
          replace h19 := goI_l h19
          refine go hΓ 3 rfl ?_
          refine eo_build hΓ (gs := [S [], S [], .d (Sl e_api_Record [])]) rfl rfl rfl rfl rfl rfl rfl ?_
          refine eo_store hΓ rfl rfl rfl rfl rfl rfl rfl rfl (Nat.le_of_ble_eq_true rfl) ?_
          refine eo_hp [.box 92 [.d (Sl eS n.Search), I n.Dots, .d (Sl e_api_Split n.Splits), .d (Sl e_api_Source n.Sources)], .box 95 [S [], S [], .d (Sl e_api_Record [])]] rfl ?_
          refine go_ops hΓ 4 rfl ?_
          obtain rfl := Option.some.inj h19
          exact fin_pure hΓ (.inr rfl) rfl rfl

theorem c_laneref1_SearchFault {search : List Str} {dots : Int} {r : Int} (h : m_laneref1_SearchFault search dots = some r) : Pure Tryz.prog 158 [.d (Sl eS search), I dots] (I r) := by
  refine Pure.enter (Fr.of 0 _) Tryz.func158 rfl (Fr.of_ok _) rfl rfl ?_
  refine go_in ?_
  unfold m_laneref1_SearchFault at h
  refine go hΓ 13 rfl ?_
  refine j_cond rfl (fun hb => ?_) (fun hb => ?_)
  · have h1 := cT h hb
    refine go hΓ 7 rfl ?_
    obtain rfl := Option.some.inj h1
    exact fin_pure hΓ (.inr rfl) rfl rfl
  · have h2 := cF h hb
    refine go hΓ 10 rfl ?_
    obtain ⟨q6, hq6, h7⟩ := bi_ok h2
    refine j_bound 11 rfl fun hb9 => ?_
    refine j_cutEZ (R := fun a8 => q6 = .go a8) (fun a8 => [(1, I dots)]) (fun a8 => []) ?_ ?_
    · refine go hΓ 1 rfl ?_
      refine j_range search hq6 (fun i3 s4 => [(1, I dots), (11, .d (Sl eS search)), (12, I (search.length : Int)), (13, I (i3 : Int))]) (fun s4 => []) ⟨⟨rfl, rfl, rfl, rfl, trivial⟩, [], rfl, .inl rfl⟩ (fun i3 x5 s4 y13 hx10 hlt hy11 hout12 => ?_) (fun s4 hgo => ?_)
      · refine go hΓ 6 rfl ?_
        refine j_condT rfl (decide_eq_true (Int.ofNat_lt.2 hlt)) ?_
        refine go hΓ 6 rfl ?_
        refine eo_o rfl (op_elemZ hΓ (enc := eS) (getZ_nat hx10) rfl rfl rfl rfl rfl (fun _ => rfl)) ?_
        obtain ⟨y14, hy14, h15⟩ := bi_ok hy11
        refine go_ops hΓ 7 rfl ?_
        refine eo_callP (callable Tryz.func31 rfl rfl) (c_laneref1_DomainFault hy14) rfl (Nat.le_of_ble_eq_true rfl) rfl rfl rfl rfl rfl ?_
        refine go_ops hΓ 9 rfl ?_
        refine j_cond rfl (fun hb => ?_) (fun hb => ?_)
        · have h16 := cT h15 hb
          refine go hΓ 9 rfl ?_
          obtain ⟨v17, hv17, h18⟩ := bi_ok h16
          obtain rfl := Option.some.inj h18
          obtain rfl := hout12 _ rfl
          obtain rfl := Option.some.inj h7
          refine go hΓ 4 rfl ?_
          obtain rfl := Option.some.inj hv17
          exact fin_pure hΓ (.inr rfl) rfl rfl
        · have h19 := cF h15 hb
          refine go hΓ 7 rfl ?_
          obtain rfl := Option.some.inj h19
          exact ⟨_, rfl, ⟨⟨rfl, rfl, rfl, get_eq rfl (w64_succ (Nat.lt_of_lt_of_le hlt hb9)), trivial⟩, [], rfl, .inl rfl⟩⟩
      · subst hgo
        refine go hΓ 6 rfl ?_
        refine j_condF rfl (decide_eq_false (Int.lt_irrefl _)) ?_
        refine go hΓ 4 rfl ?_
        exact ⟨_, rfl, ⟨⟨rfl, trivial⟩, [], rfl, .inl rfl⟩⟩
    · intro a8 ha
      subst ha
      replace h7 := goI_l h7
      obtain ⟨y20, hy20, h21⟩ := bi_ok h7
      refine go hΓ 5 rfl ?_
      refine eo_callP (callable Tryz.func140 rfl rfl) (c_laneref1_in hy20) rfl (Nat.le_of_ble_eq_true rfl) rfl rfl rfl rfl rfl ?_
      refine go_ops hΓ 3 rfl ?_
      refine j_cond rfl (fun hb => ?_) (fun hb => ?_)
      · have h22 := cT h21 hb
        refine go hΓ 7 rfl ?_
        obtain rfl := Option.some.inj h22
        exact fin_pure hΓ (.inr rfl) rfl rfl
      · have h23 := cF h21 hb
        refine go hΓ 8 rfl ?_
        obtain rfl := Option.some.inj h23
        exact fin_pure hΓ (.inr rfl) rfl rfl

theorem c_laneref2_in {n : Int} {low : Int} {high : Int} {r : Bool} (h : m_laneref2_in n low high = some r) : Pure Tryz.prog 251 [I n, I low, I high] (B r) := by
  refine Pure.enter (Fr.of 0 _) Tryz.func251 rfl (Fr.of_ok _) rfl rfl ?_
  refine go_in ?_
  unfold m_laneref2_in at h
  refine go hΓ 11 rfl ?_
  refine o_cut 4 [(6, B false), (14, B ((decide ((low : Int) ≤ n)) && (decide ((n : Int) ≤ high))))] [] ?_ ?_
  · refine eo_gsplit rfl rfl (fun hb => ?_) (fun hb => ?_)
    · refine go_ops hΓ 5 rfl ?_
      exact ⟨⟨rfl, get_b rfl (and_t hb), trivial⟩, [], rfl, .inl rfl⟩
    · refine go_ops hΓ 5 rfl ?_
      exact ⟨⟨rfl, get_b rfl (and_f hb), trivial⟩, [], rfl, .inl rfl⟩
  · refine go_ops hΓ 4 rfl ?_
    obtain rfl := Option.some.inj h
    exact fin_pure hΓ (.inr rfl) rfl rfl

theorem c_laneref2_only {s : Str} {v_some : Str} {r : Bool} (h : m_laneref2_only s v_some = some r) : Pure Tryz.prog 234 [S s, S v_some] (B r) := by
  refine Pure.enter (Fr.of 0 _) Tryz.func234 rfl (Fr.of_ok _) rfl rfl ?_
  refine go_in ?_
  unfold m_laneref2_only at h
  obtain ⟨y1, hy1, h2⟩ := bi_ok h
  refine go hΓ 9 rfl ?_
  refine eo_callP (callable Tryz.func176 rfl rfl) (c_strings_Trim hy1) rfl (Nat.le_of_ble_eq_true rfl) rfl rfl rfl rfl rfl ?_
  refine go_ops hΓ 5 rfl ?_
  obtain rfl := Option.some.inj h2
  exact fin_pure hΓ (.inr rfl) rfl rfl

theorem c_laneref2_Key {s : Str} {r : Bool} (h : m_laneref2_Key s = some r) : Pure Tryz.prog 160 [S s] (B r) := by
  refine Pure.enter (Fr.of 0 _) Tryz.func160 rfl (Fr.of_ok _) rfl rfl ?_
  refine go_in ?_
  unfold m_laneref2_Key at h
  obtain ⟨y1, hy1, h2⟩ := bi_ok h
  refine go hΓ 9 rfl ?_
  refine eo_callP (callable Tryz.func251 rfl rfl) (c_laneref2_in hy1) rfl (Nat.le_of_ble_eq_true rfl) rfl rfl rfl rfl rfl ?_
  refine go_ops hΓ 1 rfl ?_
  obtain ⟨q3, hq3, h4⟩ := bi_ok h2
  refine o_cut 4 [(0, S s), (2, B false), (10, B q3)] [] ?_ ?_
  · refine eo_gsplit rfl rfl (fun hb => ?_) (fun hb => ?_)
    · have h5 := cT hq3 hb
      obtain ⟨z6, hz6, h7⟩ := bi_ok h5
      refine go_ops hΓ 1 rfl ?_
      refine eo_guard rfl ?_
      refine eo_o rfl (op_subZ hΓ hz6 rfl rfl rfl rfl rfl) ?_
      obtain ⟨y8, hy8, h9⟩ := bi_ok h7
      refine eo_guard rfl ?_
      refine eo_callP (callable Tryz.func234 rfl rfl) (c_laneref2_only hy8) rfl (Nat.le_of_ble_eq_true rfl) rfl rfl rfl rfl rfl ?_
      refine go_ops hΓ 2 rfl ?_
      obtain rfl := Option.some.inj h9
      exact ⟨⟨rfl, rfl, rfl, trivial⟩, [], rfl, .inl rfl⟩
    · have h10 := cF hq3 hb
      refine go_ops hΓ 5 rfl ?_
      obtain rfl := Option.some.inj h10
      exact ⟨⟨rfl, rfl, rfl, trivial⟩, [], rfl, .inl rfl⟩
  · refine go_ops hΓ 1 rfl ?_
    obtain ⟨q11, hq11, h12⟩ := bi_ok h4
    refine o_cut 3 [(2, B false), (14, B q11)] [] ?_ ?_
    · refine eo_gsplit rfl rfl (fun hb => ?_) (fun hb => ?_)
      · have h13 := cT hq11 hb
        obtain ⟨y14, hy14, h15⟩ := bi_ok h13
        refine go_ops hΓ 1 rfl ?_
        refine eo_guard rfl ?_
        refine eo_callP (callable Tryz.func234 rfl rfl) (c_laneref2_only hy14) rfl (Nat.le_of_ble_eq_true rfl) rfl rfl rfl rfl rfl ?_
        refine go_ops hΓ 2 rfl ?_
        obtain rfl := Option.some.inj h15
        exact ⟨⟨rfl, rfl, trivial⟩, [], rfl, .inl rfl⟩
      · have h16 := cF hq11 hb
        refine go_ops hΓ 4 rfl ?_
        obtain rfl := Option.some.inj h16
        exact ⟨⟨rfl, rfl, trivial⟩, [], rfl, .inl rfl⟩
    · refine go_ops hΓ 4 rfl ?_
      obtain rfl := Option.some.inj h12
      exact fin_pure hΓ (.inr rfl) rfl rfl

theorem c_laneref1_SplitsFault_1 {x : Str} {r : Bool} (h : m_laneref1_SplitsFault_1 x = some r) : Pure Tryz.prog 250 [S x] (B r) := by
  refine Pure.enter (Fr.of 0 _) Tryz.func250 rfl (Fr.of_ok _) rfl rfl ?_
  refine go_in ?_
  unfold m_laneref1_SplitsFault_1 at h
  obtain ⟨y1, hy1, h2⟩ := bi_ok h
  refine go hΓ 8 rfl ?_
  refine eo_callP (callable Tryz.func160 rfl rfl) (c_laneref2_Key hy1) rfl (Nat.le_of_ble_eq_true rfl) rfl rfl rfl rfl rfl ?_
  refine go_ops hΓ 5 rfl ?_
  obtain rfl := Option.some.inj h2
  exact fin_pure hΓ (.inr rfl) rfl rfl

theorem c_slices_IndexFunc_string_string {s : List Str} {r : Int} (h : m_slices_IndexFunc_string_string s = some r) : Pure Tryz.prog 316 [.d (Sl eS s), .fn (.func 250) [] []] (I r) := by
  refine Pure.enter (Fr.of 0 _) Tryz.func316 rfl (Fr.of_ok _) rfl rfl ?_
  refine go_in ?_
  unfold m_slices_IndexFunc_string_string at h
  refine go hΓ 13 rfl ?_
  obtain ⟨q4, hq4, h5⟩ := bi_ok h
  refine j_bound 0 rfl fun hb7 => ?_
  refine j_cutEZ (R := fun a6 => q4 = .go a6) (fun a6 => []) (fun a6 => []) ?_ ?_
  · refine go hΓ 1 rfl ?_
    refine j_range s hq4 (fun i1 s2 => [(0, .d (Sl eS s)), (1, .fn (.func 250) [] []), (7, I (s.length : Int)), (8, I (i1 : Int))]) (fun s2 => []) ⟨⟨rfl, rfl, rfl, rfl, trivial⟩, [], rfl, .inl rfl⟩ (fun i1 x3 s2 y11 hx8 hlt hy9 hout10 => ?_) (fun s2 hgo => ?_)
    · refine go hΓ 6 rfl ?_
      refine j_condT rfl (decide_eq_true (Int.ofNat_lt.2 hlt)) ?_
      refine go hΓ 15 rfl ?_
      refine eo_o rfl (op_elemZ hΓ (enc := eS) (getZ_nat hx8) rfl rfl rfl rfl rfl (fun _ => rfl)) ?_
      obtain ⟨y12, hy12, h13⟩ := bi_ok hy9
      refine go_ops hΓ 1 rfl ?_
      refine eo_callP (callable Tryz.func250 rfl rfl) (c_laneref1_SplitsFault_1 hy12) rfl (Nat.le_of_ble_eq_true rfl) rfl rfl rfl rfl rfl ?_
      refine go_ops hΓ 2 rfl ?_
      refine j_cond rfl (fun hb => ?_) (fun hb => ?_)
      · have h14 := cT h13 hb
        refine go hΓ 9 rfl ?_
        obtain ⟨v15, hv15, h16⟩ := bi_ok h14
        obtain rfl := Option.some.inj h16
        obtain rfl := hout10 _ rfl
        obtain rfl := Option.some.inj h5
        refine go hΓ 4 rfl ?_
        obtain rfl := Option.some.inj hv15
        exact fin_pure hΓ (.inr rfl) rfl rfl
      · have h17 := cF h13 hb
        refine go hΓ 7 rfl ?_
        obtain rfl := Option.some.inj h17
        exact ⟨_, rfl, ⟨⟨rfl, rfl, rfl, get_eq rfl (w64_succ (Nat.lt_of_lt_of_le hlt hb7)), trivial⟩, [], rfl, .inl rfl⟩⟩
    · subst hgo
      refine go hΓ 6 rfl ?_
      refine j_condF rfl (decide_eq_false (Int.lt_irrefl _)) ?_
      refine go hΓ 4 rfl ?_
      exact ⟨_, rfl, ⟨trivial, [], rfl, .inl rfl⟩⟩
  · intro a6 ha
    subst ha
    replace h5 := goI_l h5
    refine go hΓ 7 rfl ?_
    obtain rfl := Option.some.inj h5
    exact fin_pure hΓ (.inr rfl) rfl rfl

theorem c_slices_ContainsFunc_string_string {s : List Str} {r : Bool} (h : m_slices_ContainsFunc_string_string s = some r) : Pure Tryz.prog 249 [.d (Sl eS s), .fn (.func 250) [] []] (B r) := by
  refine Pure.enter (Fr.of 0 _) Tryz.func249 rfl (Fr.of_ok _) rfl rfl ?_
  refine go_in ?_
  unfold m_slices_ContainsFunc_string_string at h
  obtain ⟨y1, hy1, h2⟩ := bi_ok h
  refine go hΓ 9 rfl ?_
  refine eo_callP (callable Tryz.func316 rfl rfl) (c_slices_IndexFunc_string_string hy1) rfl (Nat.le_of_ble_eq_true rfl) rfl rfl rfl rfl rfl ?_
  refine go_ops hΓ 5 rfl ?_
  obtain rfl := Option.some.inj h2
  exact fin_pure hΓ (.inr rfl) rfl rfl

theorem c_laneref1_SplitsFault {l : List T_api_Split} {r : Int} (h : m_laneref1_SplitsFault l = some r) : Pure Tryz.prog 159 [.d (Sl e_api_Split l)] (I r) := by
  refine Pure.enter (Fr.of 0 _) Tryz.func159 rfl (Fr.of_ok _) rfl rfl ?_
  refine go_in ?_
  unfold m_laneref1_SplitsFault at h
  refine go hΓ 13 rfl ?_
  refine j_cond rfl (fun hb => ?_) (fun hb => ?_)
  · have h1 := cT h hb
    refine go hΓ 7 rfl ?_
    obtain rfl := Option.some.inj h1
    exact fin_pure hΓ (.inr rfl) rfl rfl
  · have h2 := cF h hb
    refine go hΓ 10 rfl ?_
    obtain ⟨q6, hq6, h7⟩ := bi_ok h2
    refine j_bound 0 rfl fun hb9 => ?_
    refine j_cutEZ (R := fun a8 => q6 = .go a8) (fun a8 => []) (fun a8 => []) ?_ ?_
    · refine go hΓ 1 rfl ?_
      refine j_range l hq6 (fun i3 s4 => [(0, .d (Sl e_api_Split l)), (11, .d (Sl e_api_Split l)), (12, I (l.length : Int)), (13, I (i3 : Int))]) (fun s4 => []) ⟨⟨rfl, rfl, rfl, rfl, trivial⟩, [], rfl, .inl rfl⟩ (fun i3 x5 s4 y13 hx10 hlt hy11 hout12 => ?_) (fun s4 hgo => ?_)
      · refine go hΓ 6 rfl ?_
        refine j_condT rfl (decide_eq_true (Int.ofNat_lt.2 hlt)) ?_
        refine go hΓ 7 rfl ?_
        refine eo_o rfl (op_elemZ hΓ (enc := e_api_Split) (getZ_nat hx10) rfl rfl rfl rfl rfl (fun _ => rfl)) ?_
        refine go_ops hΓ 1 rfl ?_
        refine eo_alloc hΓ rfl rfl rfl (Nat.le_of_ble_eq_true rfl) ?_
        refine go_ops hΓ 1 rfl ?_
        refine eo_store hΓ rfl rfl rfl rfl rfl rfl rfl rfl (Nat.le_of_ble_eq_true rfl) ?_
        refine eo_hp [.box 273 [S x5.Suffix, .d (Sl eS x5.Servers)]] rfl ?_
        obtain ⟨q14, hq14, h15⟩ := bi_ok hy11
        refine go_ops hΓ 10 rfl ?_
        refine j_cutSZ (q := q14) (fun a16 => [(0, .d (Sl e_api_Split l)), (3, I (i3 : Int)), (4, .ptr 0 0), (11, .d (Sl e_api_Split l)), (12, I (l.length : Int)), (13, I (i3 : Int))]) (fun a16 => [.box 273 [S x5.Suffix, .d (Sl eS x5.Servers)]]) ?_ ?_
        · refine j_cond rfl (fun hb => ?_) (fun hb => ?_)
          · have h17 := cT hq14 hb
            obtain ⟨y18, hy18, h19⟩ := bi_ok h17
            refine go hΓ 4 rfl ?_
            refine eo_callP (callable Tryz.func31 rfl rfl) (c_laneref1_DomainFault hy18) rfl (Nat.le_of_ble_eq_true rfl) rfl rfl rfl rfl rfl ?_
            refine go_ops hΓ 9 rfl ?_
            refine j_cond rfl (fun hb => ?_) (fun hb => ?_)
            · have h20 := cT h19 hb
              refine go hΓ 7 rfl ?_
              obtain ⟨v21, hv21, h22⟩ := bi_ok h20
              obtain rfl := Option.some.inj h22
              obtain rfl := Option.some.inj h15
              refine go hΓ 4 rfl ?_
              obtain ⟨v23, hv23, h24⟩ := bi_ok hv21
              obtain rfl := Option.some.inj h24
              obtain rfl := hout12 _ rfl
              obtain rfl := Option.some.inj h7
              refine go hΓ 4 rfl ?_
              obtain rfl := Option.some.inj hv23
              exact fin_pure hΓ (.inr rfl) rfl rfl
            · have h25 := cF h19 hb
              refine go hΓ 1 rfl ?_
              obtain rfl := Option.some.inj h25
              exact ⟨_, rfl, ⟨⟨rfl, rfl, rfl, rfl, rfl, rfl, trivial⟩, [], rfl, .inl rfl⟩⟩
          · have h26 := cF hq14 hb
            refine go hΓ 1 rfl ?_
            obtain rfl := Option.some.inj h26
            exact ⟨_, rfl, ⟨⟨rfl, rfl, rfl, rfl, rfl, rfl, trivial⟩, [], rfl, .inl rfl⟩⟩
        · intro a16 ha
          subst ha
          replace h15 := orI_l h15
          obtain ⟨q27, hq27, h28⟩ := bi_ok h15
          refine go hΓ 4 rfl ?_
          refine j_cutNZ [(0, .d (Sl e_api_Split l)), (4, .ptr 0 0), (11, .d (Sl e_api_Split l)), (12, I (l.length : Int)), (13, I (i3 : Int)), (27, B q27)] [.box 273 [S x5.Suffix, .d (Sl eS x5.Servers)]] ?_ ?_
          · refine j_draw hmix (by kernel_rfl) ?_
            refine go hΓ 3 rfl ?_
            refine gl_gsplit rfl rfl (fun hb => ?_) (fun hb => ?_)
            · have h29 := cT hq27 hb
              obtain ⟨x30, hx30, h31⟩ := bi_ok h29
              refine go_draw hΓ 5 rfl ?_
              refine gl_og rfl rfl (op_elemZ hΓ (enc := e_api_Split) hx30 rfl rfl rfl rfl rfl (fun _ => rfl)) ?_
              refine go_draw hΓ 6 rfl ?_
              obtain rfl := Option.some.inj h31
              exact ⟨⟨rfl, rfl, rfl, rfl, rfl, rfl, trivial⟩, [], rfl, .inl rfl⟩
            · have h32 := cF hq27 hb
              refine go_draw hΓ 12 rfl ?_
              obtain rfl := Option.some.inj h32
              exact ⟨⟨rfl, rfl, rfl, rfl, rfl, rfl, trivial⟩, [], rfl, .inl rfl⟩
          · refine go hΓ 1 rfl ?_
            refine j_cond rfl (fun hb => ?_) (fun hb => ?_)
            · have h33 := cT h28 hb
              refine go hΓ 10 rfl ?_
              obtain ⟨v34, hv34, h35⟩ := bi_ok h33
              obtain rfl := Option.some.inj h35
              obtain rfl := hout12 _ rfl
              obtain rfl := Option.some.inj h7
              refine go hΓ 4 rfl ?_
              obtain rfl := Option.some.inj hv34
              exact fin_pure hΓ (.inr rfl) rfl rfl
            · have h36 := cF h28 hb
              refine go hΓ 9 rfl ?_
              refine j_cond rfl (fun hb => ?_) (fun hb => ?_)
              · have h37 := cT h36 hb
                refine go hΓ 10 rfl ?_
                obtain ⟨v38, hv38, h39⟩ := bi_ok h37
                obtain rfl := Option.some.inj h39
                obtain rfl := hout12 _ rfl
                obtain rfl := Option.some.inj h7
                refine go hΓ 4 rfl ?_
                obtain rfl := Option.some.inj hv38
                exact fin_pure hΓ (.inr rfl) rfl rfl
              · have h40 := cF h36 hb
                refine go hΓ 9 rfl ?_
                refine j_cond rfl (fun hb => ?_) (fun hb => ?_)
                · have h41 := cT h40 hb
                  refine go hΓ 10 rfl ?_
                  obtain ⟨v42, hv42, h43⟩ := bi_ok h41
                  obtain rfl := Option.some.inj h43
                  obtain rfl := hout12 _ rfl
                  obtain rfl := Option.some.inj h7
                  refine go hΓ 4 rfl ?_
                  obtain rfl := Option.some.inj hv42
                  exact fin_pure hΓ (.inr rfl) rfl rfl
                · have h44 := cF h40 hb
                  obtain ⟨y45, hy45, h46⟩ := bi_ok h44
                  refine go hΓ 4 rfl ?_
                  refine eo_callP (callable Tryz.func249 rfl rfl) (c_slices_ContainsFunc_string_string hy45) rfl (Nat.le_of_ble_eq_true rfl) rfl rfl rfl rfl rfl ?_
                  refine go_ops hΓ 3 rfl ?_
                  refine j_cond rfl (fun hb => ?_) (fun hb => ?_)
                  · have h47 := cT h46 hb
                    refine go hΓ 10 rfl ?_
                    obtain ⟨v48, hv48, h49⟩ := bi_ok h47
                    obtain rfl := Option.some.inj h49
                    obtain rfl := hout12 _ rfl
                    obtain rfl := Option.some.inj h7
                    refine go hΓ 4 rfl ?_
                    obtain rfl := Option.some.inj hv48
                    exact fin_pure hΓ (.inr rfl) rfl rfl
                  · have h50 := cF h46 hb
                    refine go hΓ 11 rfl ?_
                    obtain ⟨q54, hq54, h55⟩ := bi_ok h50
                    refine j_bound 56 rfl fun hb57 => ?_
                    refine j_cutEZ (R := fun a56 => q54 = .go a56) (fun a56 => [(0, .d (Sl e_api_Split l)), (11, .d (Sl e_api_Split l)), (12, I (l.length : Int)), (13, I (i3 : Int))]) (fun a56 => [.box 273 [S x5.Suffix, .d (Sl eS x5.Servers)]]) ?_ ?_
                    · refine go hΓ 1 rfl ?_
                      refine j_range x5.Servers hq54 (fun i51 s52 => [(0, .d (Sl e_api_Split l)), (4, .ptr 0 0), (11, .d (Sl e_api_Split l)), (12, I (l.length : Int)), (13, I (i3 : Int)), (56, .d (Sl eS x5.Servers)), (57, I (x5.Servers.length : Int)), (58, I (i51 : Int))]) (fun s52 => [.box 273 [S x5.Suffix, .d (Sl eS x5.Servers)]]) ⟨⟨rfl, rfl, rfl, rfl, rfl, rfl, rfl, rfl, trivial⟩, [], rfl, .inl rfl⟩ (fun i51 x53 s52 y61 hx58 hlt hy59 hout60 => ?_) (fun s52 hgo => ?_)
                      · refine go hΓ 6 rfl ?_
                        refine j_condT rfl (decide_eq_true (Int.ofNat_lt.2 hlt)) ?_
                        refine go hΓ 7 rfl ?_
                        refine eo_o rfl (op_elemZ hΓ (enc := eS) (getZ_nat hx58) rfl rfl rfl rfl rfl (fun _ => rfl)) ?_
                        obtain ⟨z62, hz62, h63⟩ := bi_ok hy59
                        refine go_ops hΓ 10 rfl ?_
                        refine eo_o rfl (op_subRoZ hΓ (enc := eS) hz62 rfl rfl rfl rfl rfl rfl (fun _ => rfl)) ?_
                        obtain ⟨y64, hy64, h65⟩ := bi_ok h63
                        refine go_ops hΓ 1 rfl ?_
                        refine eo_callP (callable Tryz.func246 rfl rfl) (c_slices_Contains_string_string hy64) rfl (Nat.le_of_ble_eq_true rfl) rfl rfl rfl rfl rfl ?_
                        refine go_ops hΓ 2 rfl ?_
                        refine j_cond rfl (fun hb => ?_) (fun hb => ?_)
                        · have h66 := cT h65 hb
                          refine go hΓ 8 rfl ?_
                          obtain ⟨v67, hv67, h68⟩ := bi_ok h66
                          obtain rfl := Option.some.inj h68
                          obtain rfl := hout60 _ rfl
                          obtain rfl := Option.some.inj h55
                          refine go hΓ 5 rfl ?_
                          obtain ⟨v69, hv69, h70⟩ := bi_ok hv67
                          obtain rfl := Option.some.inj h70
                          obtain rfl := hout12 _ rfl
                          obtain rfl := Option.some.inj h7
                          refine go hΓ 4 rfl ?_
                          obtain rfl := Option.some.inj hv69
                          exact fin_pure hΓ (.inr rfl) rfl rfl
                        · have h71 := cF h65 hb
                          refine go hΓ 7 rfl ?_
                          obtain rfl := Option.some.inj h71
                          exact ⟨_, rfl, ⟨⟨rfl, rfl, rfl, rfl, rfl, rfl, rfl, get_eq rfl (w64_succ (Nat.lt_of_lt_of_le hlt hb57)), trivial⟩, [], rfl, .inl rfl⟩⟩
                      · subst hgo
                        refine go hΓ 6 rfl ?_
                        refine j_condF rfl (decide_eq_false (Int.lt_irrefl _)) ?_
                        refine go hΓ 4 rfl ?_
                        exact ⟨_, rfl, ⟨⟨rfl, rfl, rfl, rfl, trivial⟩, [], rfl, .inl rfl⟩⟩
                    · intro a56 ha
                      subst ha
                      replace h55 := goI_l h55
                      refine go hΓ 6 rfl ?_
                      obtain rfl := Option.some.inj h55
                      exact ⟨_, rfl, ⟨⟨rfl, rfl, rfl, get_eq rfl (w64_succ (Nat.lt_of_lt_of_le hlt hb9)), trivial⟩, [_], rfl, .inr ⟨HB.mk rfl, FB.mk rfl, (Nat.le_of_ble_eq_true rfl)⟩⟩⟩
      · subst hgo
        refine go hΓ 6 rfl ?_
        refine j_condF rfl (decide_eq_false (Int.lt_irrefl _)) ?_
        refine go hΓ 4 rfl ?_
        exact ⟨_, rfl, ⟨trivial, [], rfl, .inl rfl⟩⟩
    · intro a8 ha
      subst ha
      replace h7 := goI_l h7
      refine go hΓ 7 rfl ?_
      obtain rfl := Option.some.inj h7
      exact fin_pure hΓ (.inr rfl) rfl rfl

theorem c_cmp_Or_api_Errno {vals : List Int} {r : Int} (h : m_cmp_Or_api_Errno vals = some r) : Pure Tryz.prog 30 [.d (Sl (eN .i64) vals)] (I r) := by
  refine Pure.enter (Fr.of 0 _) Tryz.func30 rfl (Fr.of_ok _) rfl rfl ?_
  refine go_in ?_
  unfold m_cmp_Or_api_Errno at h
  refine go hΓ 18 rfl ?_
  obtain ⟨q4, hq4, h5⟩ := bi_ok h
  refine j_bound 6 rfl fun hb7 => ?_
  refine j_cutEZ (R := fun a6 => q4 = .go a6) (fun a6 => [(3, I 0)]) (fun a6 => []) ?_ ?_
  · refine go hΓ 1 rfl ?_
    refine j_range vals hq4 (fun i1 s2 => [(3, I 0), (6, .d (Sl (eN .i64) vals)), (7, I (vals.length : Int)), (8, I (i1 : Int))]) (fun s2 => []) ⟨⟨rfl, rfl, rfl, rfl, trivial⟩, [], rfl, .inl rfl⟩ (fun i1 x3 s2 y11 hx8 hlt hy9 hout10 => ?_) (fun s2 hgo => ?_)
    · refine go hΓ 6 rfl ?_
      refine j_condT rfl (decide_eq_true (Int.ofNat_lt.2 hlt)) ?_
      refine go hΓ 6 rfl ?_
      refine eo_o rfl (op_elemZ hΓ (enc := (eN .i64)) (getZ_nat hx8) rfl rfl rfl rfl rfl (fun _ => rfl)) ?_
      refine go_ops hΓ 11 rfl ?_
      refine j_cond rfl (fun hb => ?_) (fun hb => ?_)
      · have h12 := cT hy9 hb
        refine go hΓ 9 rfl ?_
        obtain ⟨v13, hv13, h14⟩ := bi_ok h12
        obtain rfl := Option.some.inj h14
        obtain rfl := hout10 _ rfl
        obtain rfl := Option.some.inj h5
        refine go hΓ 4 rfl ?_
        obtain rfl := Option.some.inj hv13
        exact fin_pure hΓ (.inr rfl) rfl rfl
      · have h15 := cF hy9 hb
        refine go hΓ 7 rfl ?_
        obtain rfl := Option.some.inj h15
        exact ⟨_, rfl, ⟨⟨rfl, rfl, rfl, get_eq rfl (w64_succ (Nat.lt_of_lt_of_le hlt hb7)), trivial⟩, [], rfl, .inl rfl⟩⟩
    · subst hgo
      refine go hΓ 6 rfl ?_
      refine j_condF rfl (decide_eq_false (Int.lt_irrefl _)) ?_
      refine go hΓ 4 rfl ?_
      exact ⟨_, rfl, ⟨⟨rfl, trivial⟩, [], rfl, .inl rfl⟩⟩
  · intro a6 ha
    subst ha
    replace h5 := goI_l h5
    refine go hΓ 8 rfl ?_
    obtain rfl := Option.some.inj h5
    exact fin_pure hΓ (.inr rfl) rfl rfl

theorem c_laneref1_NetFault {n : T_api_Net} {r : Int} (h : m_laneref1_NetFault n = some r) : Pure Tryz.prog 60 [.agg [.d (Sl eS n.Search), I n.Dots, .d (Sl e_api_Split n.Splits), .d (Sl e_api_Source n.Sources)]] (I r) := by
  refine Pure.enter (Fr.of 0 _) Tryz.func60 rfl (Fr.of_ok _) rfl rfl ?_
  refine go_in ?_
  unfold m_laneref1_NetFault at h
  refine go hΓ 2 rfl ?_
  refine eo_box rfl rfl rfl rfl (Nat.le_of_ble_eq_true rfl) ?_
  refine go_ops hΓ 5 rfl ?_
  refine j_draw hmix (by kernel_rfl) ?_
  obtain ⟨y1, hy1, h2⟩ := bi_ok h
  refine go hΓ 4 rfl ?_
  refine gl_callP (callable Tryz.func158 rfl rfl) (c_laneref1_SearchFault hy1) rfl rfl rfl rfl rfl rfl ?_
  obtain ⟨y3, hy3, h4⟩ := bi_ok h2
  refine go_draw hΓ 2 rfl ?_
  refine gl_callP (callable Tryz.func159 rfl rfl) (c_laneref1_SplitsFault hy3) rfl rfl rfl rfl rfl rfl ?_
  refine gl_litT hΓ (enc := (eN .i64)) [y1, y3] rfl rfl rfl rfl rfl rfl rfl rfl rfl rfl rfl rfl ?_
  obtain ⟨y5, hy5, h6⟩ := bi_ok h4
  refine gl_callP (callable Tryz.func30 rfl rfl) (c_cmp_Or_api_Errno hy5) rfl rfl rfl rfl rfl rfl ?_
  refine go_draw hΓ 9 rfl ?_
  refine j_cond rfl (fun hb => ?_) (fun hb => ?_)
  · have h7 := cT h6 hb
    refine go hΓ 8 rfl ?_
    obtain rfl := Option.some.inj h7
    exact fin_pure hΓ (.inr rfl) rfl rfl
  · have h8 := cF h6 hb
    refine go hΓ 11 rfl ?_
    refine j_cond rfl (fun hb => ?_) (fun hb => ?_)
    · have h9 := cT h8 hb
      refine go hΓ 7 rfl ?_
      obtain rfl := Option.some.inj h9
      exact fin_pure hΓ (.inr rfl) rfl rfl
    · have h10 := cF h8 hb
      refine go hΓ 11 rfl ?_
      obtain ⟨q14, hq14, h15⟩ := bi_ok h10
      refine j_bound 27 rfl fun hb17 => ?_
      refine j_cutEZ (R := fun a16 => q14 = .go a16) (fun a16 => []) (fun a16 => [.box 92 [.d (Sl eS n.Search), I n.Dots, .d (Sl e_api_Split n.Splits), .d (Sl e_api_Source n.Sources)]]) ?_ ?_
      · refine go hΓ 1 rfl ?_
        refine j_range n.Sources hq14 (fun i11 s12 => [(1, .ptr 0 0), (27, .d (Sl e_api_Source n.Sources)), (28, I (n.Sources.length : Int)), (29, I (i11 : Int))]) (fun s12 => [.box 92 [.d (Sl eS n.Search), I n.Dots, .d (Sl e_api_Split n.Splits), .d (Sl e_api_Source n.Sources)]]) ⟨⟨rfl, rfl, rfl, rfl, trivial⟩, [], rfl, .inl rfl⟩ (fun i11 x13 s12 y21 hx18 hlt hy19 hout20 => ?_) (fun s12 hgo => ?_)
        · refine go hΓ 6 rfl ?_
          refine j_condT rfl (decide_eq_true (Int.ofNat_lt.2 hlt)) ?_
          refine go hΓ 7 rfl ?_
          refine eo_o rfl (op_elemZ hΓ (enc := e_api_Source) (getZ_nat hx18) rfl rfl rfl rfl rfl (fun _ => rfl)) ?_
          refine go_ops hΓ 1 rfl ?_
          refine eo_alloc hΓ rfl rfl rfl (Nat.le_of_ble_eq_true rfl) ?_
          refine go_ops hΓ 1 rfl ?_
          refine eo_store hΓ rfl rfl rfl rfl rfl rfl rfl rfl (Nat.le_of_ble_eq_true rfl) ?_
          refine eo_hp [.box 92 [.d (Sl eS n.Search), I n.Dots, .d (Sl e_api_Split n.Splits), .d (Sl e_api_Source n.Sources)], .box 207 [S x13.Server, .d (Sl e_api_Zone x13.Zones)]] rfl ?_
          obtain ⟨y22, hy22, h23⟩ := bi_ok hy19
          refine go_ops hΓ 8 rfl ?_
          refine eo_callP (callable Tryz.func160 rfl rfl) (c_laneref2_Key hy22) rfl (Nat.le_of_ble_eq_true rfl) rfl rfl rfl rfl rfl ?_
          refine go_ops hΓ 4 rfl ?_
          refine j_cond rfl (fun hb => ?_) (fun hb => ?_)
          · have h24 := cT h23 hb
            refine go hΓ 10 rfl ?_
            obtain ⟨v25, hv25, h26⟩ := bi_ok h24
            obtain rfl := Option.some.inj h26
            obtain rfl := hout20 _ rfl
            obtain rfl := Option.some.inj h15
            refine go hΓ 4 rfl ?_
            obtain rfl := Option.some.inj hv25
            exact fin_pure hΓ (.inr rfl) rfl rfl
          · have h27 := cF h23 hb
            obtain ⟨q28, hq28, h29⟩ := bi_ok h27
            refine go hΓ 1 rfl ?_
            refine j_cutNZ [(1, .ptr 0 0), (5, .ptr 1 0), (27, .d (Sl e_api_Source n.Sources)), (28, I (n.Sources.length : Int)), (29, I (i11 : Int)), (39, B q28)] [.box 92 [.d (Sl eS n.Search), I n.Dots, .d (Sl e_api_Split n.Splits), .d (Sl e_api_Source n.Sources)], .box 207 [S x13.Server, .d (Sl e_api_Zone x13.Zones)]] ?_ ?_
            · refine j_draw hmix (by kernel_rfl) ?_
              refine go hΓ 3 rfl ?_
              refine gl_gsplit rfl rfl (fun hb => ?_) (fun hb => ?_)
              · have h30 := cT hq28 hb
                obtain ⟨x31, hx31, h32⟩ := bi_ok h30
                refine go_draw hΓ 6 rfl ?_
                refine gl_og rfl rfl (op_elemZ hΓ (enc := e_api_Source) hx31 rfl rfl rfl rfl rfl (fun _ => rfl)) ?_
                refine go_draw hΓ 6 rfl ?_
                obtain rfl := Option.some.inj h32
                exact ⟨⟨rfl, rfl, rfl, rfl, rfl, rfl, trivial⟩, [], rfl, .inl rfl⟩
              · have h33 := cF hq28 hb
                refine go_draw hΓ 13 rfl ?_
                obtain rfl := Option.some.inj h33
                exact ⟨⟨rfl, rfl, rfl, rfl, rfl, rfl, trivial⟩, [], rfl, .inl rfl⟩
            · refine go hΓ 1 rfl ?_
              refine j_cond rfl (fun hb => ?_) (fun hb => ?_)
              · have h34 := cT h29 hb
                refine go hΓ 10 rfl ?_
                obtain ⟨v35, hv35, h36⟩ := bi_ok h34
                obtain rfl := Option.some.inj h36
                obtain rfl := hout20 _ rfl
                obtain rfl := Option.some.inj h15
                refine go hΓ 4 rfl ?_
                obtain rfl := Option.some.inj hv35
                exact fin_pure hΓ (.inr rfl) rfl rfl
              · have h37 := cF h29 hb
                refine go hΓ 9 rfl ?_
                refine j_cond rfl (fun hb => ?_) (fun hb => ?_)
                · have h38 := cT h37 hb
                  refine go hΓ 10 rfl ?_
                  obtain ⟨v39, hv39, h40⟩ := bi_ok h38
                  obtain rfl := Option.some.inj h40
                  obtain rfl := hout20 _ rfl
                  obtain rfl := Option.some.inj h15
                  refine go hΓ 4 rfl ?_
                  obtain rfl := Option.some.inj hv39
                  exact fin_pure hΓ (.inr rfl) rfl rfl
                · have h41 := cF h37 hb
                  refine go hΓ 11 rfl ?_
                  obtain ⟨q45, hq45, h46⟩ := bi_ok h41
                  refine j_bound 60 rfl fun hb48 => ?_
                  refine j_cutEZ (R := fun a47 => q45 = .go a47) (fun a47 => [(1, .ptr 0 0), (27, .d (Sl e_api_Source n.Sources)), (28, I (n.Sources.length : Int)), (29, I (i11 : Int))]) (fun a47 => [.box 92 [.d (Sl eS n.Search), I n.Dots, .d (Sl e_api_Split n.Splits), .d (Sl e_api_Source n.Sources)], .box 207 [S x13.Server, .d (Sl e_api_Zone x13.Zones)]]) ?_ ?_
                  · refine go hΓ 1 rfl ?_
                    refine j_range x13.Zones hq45 (fun i42 s43 => [(1, .ptr 0 0), (5, .ptr 1 0), (27, .d (Sl e_api_Source n.Sources)), (28, I (n.Sources.length : Int)), (29, I (i11 : Int)), (60, .d (Sl e_api_Zone x13.Zones)), (61, I (x13.Zones.length : Int)), (62, I (i42 : Int))]) (fun s43 => [.box 92 [.d (Sl eS n.Search), I n.Dots, .d (Sl e_api_Split n.Splits), .d (Sl e_api_Source n.Sources)], .box 207 [S x13.Server, .d (Sl e_api_Zone x13.Zones)]]) ⟨⟨rfl, rfl, rfl, rfl, rfl, rfl, rfl, rfl, trivial⟩, [], rfl, .inl rfl⟩ (fun i42 x44 s43 y52 hx49 hlt hy50 hout51 => ?_) (fun s43 hgo => ?_)
                    · refine go hΓ 6 rfl ?_
                      refine j_condT rfl (decide_eq_true (Int.ofNat_lt.2 hlt)) ?_
                      refine go hΓ 7 rfl ?_
                      refine eo_o rfl (op_elemZ hΓ (enc := e_api_Zone) (getZ_nat hx49) rfl rfl rfl rfl rfl (fun _ => rfl)) ?_
                      refine go_ops hΓ 1 rfl ?_
                      refine eo_alloc hΓ rfl rfl rfl (Nat.le_of_ble_eq_true rfl) ?_
                      refine go_ops hΓ 1 rfl ?_
                      refine eo_store hΓ rfl rfl rfl rfl rfl rfl rfl rfl (Nat.le_of_ble_eq_true rfl) ?_
                      refine eo_hp [.box 92 [.d (Sl eS n.Search), I n.Dots, .d (Sl e_api_Split n.Splits), .d (Sl e_api_Source n.Sources)], .box 207 [S x13.Server, .d (Sl e_api_Zone x13.Zones)], .box 51 [S x44.Root, .d (Sl e_api_Record x44.Records)]] rfl ?_
                      obtain ⟨y53, hy53, h54⟩ := bi_ok hy50
                      refine go_ops hΓ 6 rfl ?_
                      refine eo_callP (callable Tryz.func28 rfl rfl) (c_laneref1_ZoneFault hy53) rfl (Nat.le_of_ble_eq_true rfl) rfl rfl rfl rfl rfl ?_
                      refine go_ops hΓ 9 rfl ?_
                      refine j_cond rfl (fun hb => ?_) (fun hb => ?_)
                      · have h55 := cT h54 hb
                        refine go hΓ 10 rfl ?_
                        obtain ⟨v56, hv56, h57⟩ := bi_ok h55
                        obtain rfl := Option.some.inj h57
                        obtain rfl := hout51 _ rfl
                        obtain rfl := Option.some.inj h46
                        refine go hΓ 5 rfl ?_
                        obtain ⟨v58, hv58, h59⟩ := bi_ok hv56
                        obtain rfl := Option.some.inj h59
                        obtain rfl := hout20 _ rfl
                        obtain rfl := Option.some.inj h15
                        refine go hΓ 4 rfl ?_
                        obtain rfl := Option.some.inj hv58
                        exact fin_pure hΓ (.inr rfl) rfl rfl
                      · have h60 := cF h54 hb
                        obtain ⟨q61, hq61, h62⟩ := bi_ok h60
                        refine go hΓ 3 rfl ?_
                        refine j_cutNZ [(1, .ptr 0 0), (5, .ptr 1 0), (27, .d (Sl e_api_Source n.Sources)), (28, I (n.Sources.length : Int)), (29, I (i11 : Int)), (60, .d (Sl e_api_Zone x13.Zones)), (61, I (x13.Zones.length : Int)), (62, I (i42 : Int)), (85, B q61)] [.box 92 [.d (Sl eS n.Search), I n.Dots, .d (Sl e_api_Split n.Splits), .d (Sl e_api_Source n.Sources)], .box 207 [S x13.Server, .d (Sl e_api_Zone x13.Zones)], .box 51 [S x44.Root, .d (Sl e_api_Record x44.Records)]] ?_ ?_
                        · refine j_draw hmix (by kernel_rfl) ?_
                          refine go hΓ 3 rfl ?_
                          refine gl_gsplit rfl rfl (fun hb => ?_) (fun hb => ?_)
                          · have h63 := cT hq61 hb
                            obtain ⟨x64, hx64, h65⟩ := bi_ok h63
                            refine go_draw hΓ 6 rfl ?_
                            refine gl_og rfl rfl (op_elemZ hΓ (enc := e_api_Zone) hx64 rfl rfl rfl rfl rfl (fun _ => rfl)) ?_
                            refine go_draw hΓ 5 rfl ?_
                            obtain rfl := Option.some.inj h65
                            exact ⟨⟨rfl, rfl, rfl, rfl, rfl, rfl, rfl, rfl, rfl, trivial⟩, [], rfl, .inl rfl⟩
                          · have h66 := cF hq61 hb
                            refine go_draw hΓ 12 rfl ?_
                            obtain rfl := Option.some.inj h66
                            exact ⟨⟨rfl, rfl, rfl, rfl, rfl, rfl, rfl, rfl, rfl, trivial⟩, [], rfl, .inl rfl⟩
                        · refine go hΓ 1 rfl ?_
                          refine j_cond rfl (fun hb => ?_) (fun hb => ?_)
                          · have h67 := cT h62 hb
                            refine go hΓ 8 rfl ?_
                            obtain ⟨v68, hv68, h69⟩ := bi_ok h67
                            obtain rfl := Option.some.inj h69
                            obtain rfl := hout51 _ rfl
                            obtain rfl := Option.some.inj h46
                            refine go hΓ 5 rfl ?_
                            obtain ⟨v70, hv70, h71⟩ := bi_ok hv68
                            obtain rfl := Option.some.inj h71
                            obtain rfl := hout20 _ rfl
                            obtain rfl := Option.some.inj h15
                            refine go hΓ 4 rfl ?_
                            obtain rfl := Option.some.inj hv70
                            exact fin_pure hΓ (.inr rfl) rfl rfl
                          · have h72 := cF h62 hb
                            refine go hΓ 7 rfl ?_
                            obtain rfl := Option.some.inj h72
                            exact ⟨_, rfl, ⟨⟨rfl, rfl, rfl, rfl, rfl, rfl, rfl, get_eq rfl (w64_succ (Nat.lt_of_lt_of_le hlt hb48)), trivial⟩, [_], rfl, .inr ⟨HB.mk rfl, FB.mk rfl, (Nat.le_of_ble_eq_true rfl)⟩⟩⟩
                    · subst hgo
                      refine go hΓ 6 rfl ?_
                      refine j_condF rfl (decide_eq_false (Int.lt_irrefl _)) ?_
                      refine go hΓ 4 rfl ?_
                      exact ⟨_, rfl, ⟨⟨rfl, rfl, rfl, rfl, trivial⟩, [], rfl, .inl rfl⟩⟩
                  · intro a47 ha
                    subst ha
                    replace h46 := goI_l h46
                    refine go hΓ 6 rfl ?_
                    obtain rfl := Option.some.inj h46
                    exact ⟨_, rfl, ⟨⟨rfl, rfl, rfl, get_eq rfl (w64_succ (Nat.lt_of_lt_of_le hlt hb17)), trivial⟩, [_], rfl, .inr ⟨HB.mk rfl, FB.mk rfl, (Nat.le_of_ble_eq_true rfl)⟩⟩⟩
        · subst hgo
          refine go hΓ 6 rfl ?_
          refine j_condF rfl (decide_eq_false (Int.lt_irrefl _)) ?_
          refine go hΓ 4 rfl ?_
          exact ⟨_, rfl, ⟨trivial, [], rfl, .inl rfl⟩⟩
      · intro a16 ha
        subst ha
        replace h15 := goI_l h15
        refine go hΓ 7 rfl ?_
        obtain rfl := Option.some.inj h15
        exact fin_pure hΓ (.inr rfl) rfl rfl

theorem c_lanelaw1_when {is : Bool} {e : Int} {r : Int} (h : m_lanelaw1_when is e = some r) : Pure Tryz.prog 32 [B is, I e] (I r) := by
  refine Pure.enter (Fr.of 0 _) Tryz.func32 rfl (Fr.of_ok _) rfl rfl ?_
  refine go_in ?_
  unfold m_lanelaw1_when at h
  refine go hΓ 11 rfl ?_
  refine j_cond rfl (fun hb => ?_) (fun hb => ?_)
  · have h1 := cT h hb
    refine go hΓ 8 rfl ?_
    obtain rfl := Option.some.inj h1
    exact fin_pure hΓ (.inr rfl) rfl rfl
  · have h2 := cF h hb
    refine go hΓ 8 rfl ?_
    obtain rfl := Option.some.inj h2
    exact fin_pure hΓ (.inr rfl) rfl rfl

theorem c_laneref1_NamesTried {search : List Str} {dots : Int} {name : Str} {r : List Str} (h : m_laneref1_NamesTried search dots name = some r) : EC Tryz.prog 164 [.d (Sl eS search), I dots, S name] [] fun g hp' => g = .sl 0 r.length ∧ hp' = [.row 9 1 r.length (r.flatMap eS)] := by
  refine ec_enter (Fr.of 0 _) Tryz.func164 rfl (Fr.of_ok _) (Nat.le_of_ble_eq_true rfl) fun _ => ?_
  refine go_in ?_
  unfold m_laneref1_NamesTried at h
  refine go hΓ 8 rfl ?_
  refine eo_litRowT hΓ (enc := eS) [name] rfl rfl rfl rfl rfl rfl rfl rfl rfl rfl rfl rfl (Nat.le_of_ble_eq_true rfl) ?_
  refine go_ops hΓ 11 rfl ?_
  obtain ⟨q4, hq4, h5⟩ := bi_ok h
  refine j_bound 15 rfl fun hb7 => ?_
  refine j_cutNZ [(1, I dots), (2, S name), (7, .sl 0 q4.length)] [.row 9 1 q4.length (q4.flatMap eS)] ?_ ?_
  · refine go hΓ 1 rfl ?_
    refine j_rangeF search hq4 (fun i1 s2 => [(1, I dots), (2, S name), (7, .sl 0 s2.length), (15, .d (Sl eS search)), (16, I (search.length : Int)), (17, I (i1 : Int))]) (fun s2 => [.row 9 1 s2.length (s2.flatMap eS)]) ⟨⟨rfl, rfl, rfl, rfl, rfl, rfl, trivial⟩, [], rfl, .inl rfl⟩ (fun i1 x3 s2 y11 hx8 hlt hy9 => ?_) (?_)
    · refine go hΓ 6 rfl ?_
      refine j_condT rfl (decide_eq_true (Int.ofNat_lt.2 hlt)) ?_
      refine go hΓ 6 rfl ?_
      refine eo_o rfl (op_elemZ hΓ (enc := eS) (getZ_nat hx8) rfl rfl rfl rfl rfl (fun _ => rfl)) ?_
      obtain ⟨y12, hy12, h13⟩ := bi_ok hy9
      refine go_ops hΓ 7 rfl ?_
      refine eo_o rfl (op_catZ hy12 rfl rfl) ?_
      obtain ⟨y14, hy14, h15⟩ := bi_ok h13
      refine go_ops hΓ 1 rfl ?_
      refine eo_o rfl (op_catZ hy14 rfl rfl) ?_
      refine eo_litT hΓ (enc := eS) [y14] rfl rfl rfl rfl rfl rfl rfl rfl rfl rfl rfl rfl (Nat.le_of_ble_eq_true rfl) ?_
      obtain ⟨y16, hy16, h17⟩ := bi_ok h15
      refine eo_appendT hΓ (enc := eS) hy16 rfl rfl rfl rfl rfl rfl rfl rfl rfl (fun _ => rfl) rfl rfl rfl rfl ?_
      refine go_ops hΓ 8 rfl ?_
      obtain rfl := Option.some.inj h17
      exact ⟨⟨rfl, rfl, rfl, rfl, rfl, get_eq rfl (w64_succ (Nat.lt_of_lt_of_le hlt hb7)), trivial⟩, [], rfl, .inl rfl⟩
    · refine go hΓ 6 rfl ?_
      refine j_condF rfl (decide_eq_false (Int.lt_irrefl _)) ?_
      refine go hΓ 4 rfl ?_
      exact ⟨⟨rfl, rfl, rfl, trivial⟩, [], rfl, .inl rfl⟩
  · obtain ⟨y18, hy18, h19⟩ := bi_ok h5
    refine go hΓ 5 rfl ?_
    refine eo_callP (callable Tryz.func245 rfl rfl) (c_strings_Count hy18) rfl (Nat.le_of_ble_eq_true rfl) rfl rfl rfl rfl rfl ?_
    obtain ⟨q20, hq20, h21⟩ := bi_ok h19
    refine go_ops hΓ 4 rfl ?_
    refine j_cutNC [(7, .d (Sl eS q20))] [.dead] ?_ ?_
    · refine j_cond rfl (fun hb => ?_) (fun hb => ?_)
      · have h22 := cT hq20 hb
        obtain ⟨z23, hz23, h24⟩ := bi_ok h22
        refine go hΓ 2 rfl ?_
        refine eo_o rfl (op_viewZ hΓ (k := 1) hz23 rfl rfl rfl rfl rfl rfl) ?_
        refine go_ops hΓ 1 rfl ?_
        refine eo_litT hΓ (enc := eS) [name] rfl rfl rfl rfl rfl rfl rfl rfl rfl rfl rfl rfl (Nat.le_of_ble_eq_true rfl) ?_
        obtain ⟨y25, hy25, h26⟩ := bi_ok h24
        refine eo_s (Nat.le_of_ble_eq_true rfl) (nblt.1 rfl) (ops_appendTailT hΓ (enc := eS) hz23 hy25 rfl rfl rfl rfl rfl rfl rfl rfl rfl rfl rfl (fun _ => rfl) rfl) ?_
        refine go_ops hΓ 2 rfl ?_
        refine cv_here ?_
        obtain rfl := Option.some.inj h26
        exact ⟨⟨rfl, trivial⟩, [], rfl, .inl rfl⟩
      · have h27 := cF hq20 hb
        refine go hΓ 1 rfl ?_
        refine cv_shr 0 [7] _ [.dead] rfl rfl rfl (Nat.le_of_ble_eq_true rfl) ?_
        refine cv_here ?_
        obtain rfl := Option.some.inj h27
        exact ⟨⟨rfl, trivial⟩, [], rfl, .inl rfl⟩
    · refine go hΓ 3 rfl ?_
      refine eo_nilOwn (t := 0) 9 1 rfl (Nat.le_of_ble_eq_true rfl) ?_
      refine go_ops hΓ 10 rfl ?_
      obtain ⟨q31, hq31, h32⟩ := bi_ok h21
      refine j_bound 38 rfl fun hb34 => ?_
      refine j_cutNZ [(10, .sl 1 q31.length)] [.dead, .row 9 1 q31.length (q31.flatMap eS)] ?_ ?_
      · refine go hΓ 1 rfl ?_
        refine j_rangeF q20 hq31 (fun i28 s29 => [(10, .sl 1 s29.length), (38, .d (Sl eS q20)), (39, I (q20.length : Int)), (40, I (i28 : Int))]) (fun s29 => [.dead, .row 9 1 s29.length (s29.flatMap eS)]) ⟨⟨rfl, rfl, rfl, rfl, trivial⟩, [], rfl, .inl rfl⟩ (fun i28 x30 s29 y38 hx35 hlt hy36 => ?_) (?_)
        · refine go hΓ 6 rfl ?_
          refine j_condT rfl (decide_eq_true (Int.ofNat_lt.2 hlt)) ?_
          refine go hΓ 6 rfl ?_
          refine eo_o rfl (op_elemZ hΓ (enc := eS) (getZ_nat hx35) rfl rfl rfl rfl rfl (fun _ => rfl)) ?_
          refine go_ops hΓ 10 rfl ?_
          obtain ⟨q39, hq39, h40⟩ := bi_ok hy36
          refine o_cut 5 [(10, .sl 1 s29.length), (12, S x30), (38, .d (Sl eS q20)), (39, I (q20.length : Int)), (40, I (i28 : Int)), (52, B q39)] [.dead, .row 9 1 s29.length (s29.flatMap eS)] ?_ ?_
          · refine eo_gsplit rfl rfl (fun hb => ?_) (fun hb => ?_)
            · have h41 := cT hq39 hb
              obtain ⟨y42, hy42, h43⟩ := bi_ok h41
              refine go_ops hΓ 2 rfl ?_
              refine eo_guard rfl ?_
              refine eo_callL (callable Tryz.func246 rfl rfl) (c_slices_Contains_string_string hy42) rfl (Nat.le_of_ble_eq_true rfl) rfl rfl rfl rfl rfl ?_
              refine go_ops hΓ 3 rfl ?_
              obtain rfl := Option.some.inj h43
              exact ⟨⟨rfl, rfl, rfl, rfl, rfl, rfl, trivial⟩, [], rfl, .inl rfl⟩
            · have h44 := cF hq39 hb
              refine go_ops hΓ 6 rfl ?_
              obtain rfl := Option.some.inj h44
              exact ⟨⟨rfl, rfl, rfl, rfl, rfl, rfl, trivial⟩, [], rfl, .inl rfl⟩
          · refine go_ops hΓ 2 rfl ?_
            refine j_cond rfl (fun hb => ?_) (fun hb => ?_)
            · have h45 := cT h40 hb
              refine go hΓ 3 rfl ?_
              refine eo_litT hΓ (enc := eS) [x30] rfl rfl rfl rfl rfl rfl rfl rfl rfl rfl rfl rfl (Nat.le_of_ble_eq_true rfl) ?_
              obtain ⟨y46, hy46, h47⟩ := bi_ok h45
              refine eo_appendT hΓ (enc := eS) hy46 rfl rfl rfl rfl rfl rfl rfl rfl rfl (fun _ => rfl) rfl rfl rfl rfl ?_
              refine go_ops hΓ 8 rfl ?_
              obtain rfl := Option.some.inj h47
              exact ⟨⟨rfl, rfl, rfl, get_eq rfl (w64_succ (Nat.lt_of_lt_of_le hlt hb34)), trivial⟩, [], rfl, .inl rfl⟩
            · have h48 := cF h40 hb
              refine go hΓ 7 rfl ?_
              obtain rfl := Option.some.inj h48
              exact ⟨⟨rfl, rfl, rfl, get_eq rfl (w64_succ (Nat.lt_of_lt_of_le hlt hb34)), trivial⟩, [], rfl, .inl rfl⟩
        · refine go hΓ 6 rfl ?_
          refine j_condF rfl (decide_eq_false (Int.lt_irrefl _)) ?_
          refine go hΓ 4 rfl ?_
          exact ⟨⟨rfl, trivial⟩, [], rfl, .inl rfl⟩
      · refine go hΓ 5 rfl ?_
        refine eo_move 1 0 [.row 9 1 q31.length (q31.flatMap eS), .dead] rfl rfl rfl rfl rfl rfl ?_
        refine go_ops hΓ 3 rfl ?_
        obtain rfl := Option.some.inj h32
        exact fin_objs hΓ [_] (.inr rfl) rfl rfl rfl rfl (.inr ⟨HB.mk rfl, rfl⟩)

theorem c_laneref1_ServersOf {k : Nat} {l : List T_api_Split} {name : Str} {r : (List Str) × Bool} (h : m_laneref1_ServersOf k l name = some r) : Pure Tryz.prog 165 [.d (Sl e_api_Split l), S name] (.tup [.d (Sl eS r.1), B r.2]) := by
  refine Pure.enter (Fr.of 0 _) Tryz.func165 rfl (Fr.of_ok _) rfl rfl ?_
  refine go_in ?_
  unfold m_laneref1_ServersOf at h
  refine go hΓ 12 rfl ?_
  obtain ⟨q4, hq4, h5⟩ := bi_ok h
  refine go hΓ 1 rfl ?_
  refine j_loop hq4 (fun s2 => [(0, .d (Sl e_api_Split l)), (6, S s2)]) (fun s2 => []) ⟨⟨rfl, rfl, trivial⟩, [], rfl, .inl rfl⟩ (fun s2 y10 hy8 hout9 => ?_)
  refine go hΓ 9 rfl ?_
  obtain ⟨q14, hq14, h15⟩ := bi_ok hy8
  refine j_bound 0 rfl fun hb17 => ?_
  refine j_cutEZ (R := fun a16 => q14 = .go a16) (fun a16 => [(0, .d (Sl e_api_Split l)), (6, S s2)]) (fun a16 => []) ?_ ?_
  · refine go hΓ 1 rfl ?_
    refine j_range l hq14 (fun i11 s12 => [(0, .d (Sl e_api_Split l)), (6, S s2), (10, .d (Sl e_api_Split l)), (11, I (l.length : Int)), (12, I (i11 : Int))]) (fun s12 => []) ⟨⟨rfl, rfl, rfl, rfl, rfl, trivial⟩, [], rfl, .inl rfl⟩ (fun i11 x13 s12 y21 hx18 hlt hy19 hout20 => ?_) (fun s12 hgo => ?_)
    · refine go hΓ 6 rfl ?_
      refine j_condT rfl (decide_eq_true (Int.ofNat_lt.2 hlt)) ?_
      refine go hΓ 6 rfl ?_
      refine eo_o rfl (op_elemZ hΓ (enc := e_api_Split) (getZ_nat hx18) rfl rfl rfl rfl rfl (fun _ => rfl)) ?_
      refine go_ops hΓ 1 rfl ?_
      refine eo_alloc hΓ rfl rfl rfl (Nat.le_of_ble_eq_true rfl) ?_
      refine eo_store hΓ rfl rfl rfl rfl rfl rfl rfl rfl (Nat.le_of_ble_eq_true rfl) ?_
      refine eo_hp [.box 273 [S x13.Suffix, .d (Sl eS x13.Servers)]] rfl ?_
      refine go_ops hΓ 10 rfl ?_
      refine j_cond rfl (fun hb => ?_) (fun hb => ?_)
      · have h22 := cT hy19 hb
        obtain ⟨y23, hy23, h24⟩ := bi_ok h22
        refine go hΓ 4 rfl ?_
        refine eo_callP (callable Tryz.func244 rfl rfl) (Pure.rows (c_slices_Clone_string_string hy23) rfl rfl) rfl (Nat.le_of_ble_eq_true rfl) rfl rfl rfl rfl rfl ?_
        refine go_ops hΓ 7 rfl ?_
        obtain ⟨v25, hv25, h26⟩ := bi_ok h24
        obtain rfl := Option.some.inj h26
        obtain rfl := hout20 _ rfl
        obtain rfl := Option.some.inj h15
        refine go hΓ 5 rfl ?_
        obtain ⟨v27, hv27, h28⟩ := bi_ok hv25
        obtain rfl := Option.some.inj h28
        obtain rfl := hout9 _ rfl
        obtain rfl := Option.some.inj h5
        refine go hΓ 2 rfl ?_
        obtain rfl := Option.some.inj hv27
        exact fin_pure hΓ (.inr rfl) rfl rfl
      · have h29 := cF hy19 hb
        refine go hΓ 7 rfl ?_
        obtain rfl := Option.some.inj h29
        exact ⟨_, rfl, ⟨⟨rfl, rfl, rfl, rfl, get_eq rfl (w64_succ (Nat.lt_of_lt_of_le hlt hb17)), trivial⟩, [_], rfl, .inr ⟨HB.mk rfl, FB.mk rfl, (Nat.le_of_ble_eq_true rfl)⟩⟩⟩
    · subst hgo
      refine go hΓ 6 rfl ?_
      refine j_condF rfl (decide_eq_false (Int.lt_irrefl _)) ?_
      refine go hΓ 4 rfl ?_
      exact ⟨_, rfl, ⟨⟨rfl, rfl, trivial⟩, [], rfl, .inl rfl⟩⟩
  · intro a16 ha
    subst ha
    replace h15 := goI_l h15
    refine go hΓ 8 rfl ?_
    refine j_cond rfl (fun hb => ?_) (fun hb => ?_)
    · have h30 := cT h15 hb
      refine go hΓ 9 rfl ?_
      obtain ⟨v31, hv31, h32⟩ := bi_ok h30
      obtain rfl := Option.some.inj h32
      obtain rfl := hout9 _ rfl
      obtain rfl := Option.some.inj h5
      refine go hΓ 2 rfl ?_
      obtain rfl := Option.some.inj hv31
      exact fin_pure hΓ (.inr rfl) rfl rfl
    · have h33 := cF h15 hb
      obtain ⟨y34, hy34, h35⟩ := bi_ok h33
      refine go hΓ 4 rfl ?_
      refine eo_callP (callable Tryz.func208 rfl rfl) (c_strings_Cut hy34) rfl (Nat.le_of_ble_eq_true rfl) rfl rfl rfl rfl rfl ?_
      refine go_ops hΓ 7 rfl ?_
      obtain rfl := Option.some.inj h35
      exact ⟨_, rfl, ⟨⟨rfl, rfl, trivial⟩, [], rfl, .inl rfl⟩⟩

theorem c_laneref1_AskOf_1 {y : T_api_Source} {x : Str} {r : Bool} (h : m_laneref1_AskOf_1 y x = some r) : EC Tryz.prog 167 [.agg [S y.Server, .d (Sl e_api_Zone y.Zones)], .ptr 0 0] [.box 9 [S x]] fun g hp' => g = B r ∧ hp' = [.box 9 [S x]] := by
  refine ec_enter (Fr.of 0 _) Tryz.func167 rfl (Fr.of_ok _) (Nat.le_of_ble_eq_true rfl) fun _ => ?_
  refine go_in ?_
  unfold m_laneref1_AskOf_1 at h
  refine go hΓ 2 rfl ?_
  refine eo_box rfl rfl rfl rfl (Nat.le_of_ble_eq_true rfl) ?_
  refine go_ops hΓ 13 rfl ?_
  obtain rfl := Option.some.inj h
  exact fin_objs hΓ [_] (.inr rfl) rfl rfl rfl rfl (.inr ⟨HB.mk rfl, rfl⟩)

theorem c_slices_IndexFunc_api_Source_api_Source {s : List T_api_Source} {f : Str} {r : Int} (h : m_slices_IndexFunc_api_Source_api_Source s f = some r) : EC Tryz.prog 166 [.d (Sl e_api_Source s), .fn (.func 167) [] [.ptr 0 0]] [.box 9 [S f]] fun g hp' => g = I r ∧ hp' = [.box 9 [S f]] := by
  refine ec_enter (Fr.of 0 _) Tryz.func166 rfl (Fr.of_ok _) (Nat.le_of_ble_eq_true rfl) fun _ => ?_
  refine go_in ?_
  unfold m_slices_IndexFunc_api_Source_api_Source at h
  refine go hΓ 13 rfl ?_
  obtain ⟨q4, hq4, h5⟩ := bi_ok h
  refine j_bound 0 rfl fun hb7 => ?_
  refine j_cutEZ (R := fun a6 => q4 = .go a6) (fun a6 => []) (fun a6 => [.box 9 [S f]]) ?_ ?_
  · refine go hΓ 1 rfl ?_
    refine j_range s hq4 (fun i1 s2 => [(0, .d (Sl e_api_Source s)), (1, .fn (.func 167) [] [.ptr 0 0]), (7, I (s.length : Int)), (8, I (i1 : Int))]) (fun s2 => [.box 9 [S f]]) ⟨⟨rfl, rfl, rfl, rfl, trivial⟩, [], rfl, .inl rfl⟩ (fun i1 x3 s2 y11 hx8 hlt hy9 hout10 => ?_) (fun s2 hgo => ?_)
    · refine go hΓ 6 rfl ?_
      refine j_condT rfl (decide_eq_true (Int.ofNat_lt.2 hlt)) ?_
      refine go hΓ 15 rfl ?_
      refine eo_o rfl (op_elemZ hΓ (enc := e_api_Source) (getZ_nat hx8) rfl rfl rfl rfl rfl (fun _ => rfl)) ?_
      obtain ⟨y12, hy12, h13⟩ := bi_ok hy9
      refine go_ops hΓ 1 rfl ?_
      refine eo_callF [0] (B y12) [.box 9 [S f]] (callable Tryz.func167 rfl rfl) (c_laneref1_AskOf_1 hy12) rfl (Nat.le_of_ble_eq_true rfl) rfl rfl rfl rfl rfl rfl rfl rfl rfl rfl ?_
      refine go_ops hΓ 2 rfl ?_
      refine j_cond rfl (fun hb => ?_) (fun hb => ?_)
      · have h14 := cT h13 hb
        refine go hΓ 9 rfl ?_
        obtain ⟨v15, hv15, h16⟩ := bi_ok h14
        obtain rfl := Option.some.inj h16
        obtain rfl := hout10 _ rfl
        obtain rfl := Option.some.inj h5
        refine go hΓ 4 rfl ?_
        obtain rfl := Option.some.inj hv15
        exact fin_objs hΓ [] (.inr rfl) rfl rfl rfl rfl (.inl rfl)
      · have h17 := cF h13 hb
        refine go hΓ 7 rfl ?_
        obtain rfl := Option.some.inj h17
        exact ⟨_, rfl, ⟨⟨rfl, rfl, rfl, get_eq rfl (w64_succ (Nat.lt_of_lt_of_le hlt hb7)), trivial⟩, [], rfl, .inl rfl⟩⟩
    · subst hgo
      refine go hΓ 6 rfl ?_
      refine j_condF rfl (decide_eq_false (Int.lt_irrefl _)) ?_
      refine go hΓ 4 rfl ?_
      exact ⟨_, rfl, ⟨trivial, [], rfl, .inl rfl⟩⟩
  · intro a6 ha
    subst ha
    replace h5 := goI_l h5
    refine go hΓ 7 rfl ?_
    obtain rfl := Option.some.inj h5
    exact fin_objs hΓ [] (.inr rfl) rfl rfl rfl rfl (.inl rfl)

theorem c_laneref1_there_1 {v_r : T_api_Record} {x : Str} {r : Bool} (h : m_laneref1_there_1 v_r x = some r) : EC Tryz.prog 228 [.agg [S v_r.Name, I v_r.Kind, B v_r.Addr.Six, .d (.v (.int .u64 v_r.Addr.Hi)), .d (.v (.int .u64 v_r.Addr.Lo)), S v_r.To, S v_r.Words, I v_r.Life], .ptr 0 0] [.box 9 [S x]] fun g hp' => g = B r ∧ hp' = [.box 9 [S x]] := by
  refine ec_enter (Fr.of 0 _) Tryz.func228 rfl (Fr.of_ok _) (Nat.le_of_ble_eq_true rfl) fun _ => ?_
  refine go_in ?_
  unfold m_laneref1_there_1 at h
  refine go hΓ 2 rfl ?_
  refine eo_box rfl rfl rfl rfl (Nat.le_of_ble_eq_true rfl) ?_
  refine go_ops hΓ 4 rfl ?_
  refine j_draw hmix (by kernel_rfl) ?_
  obtain ⟨y1, hy1, h2⟩ := bi_ok h
  refine go hΓ 2 rfl ?_
  refine gl_callP (callable Tryz.func111 rfl rfl) (c_laneref1_bare hy1) rfl rfl rfl rfl rfl rfl ?_
  obtain ⟨y3, hy3, h4⟩ := bi_ok h2
  refine go_draw hΓ 1 rfl ?_
  refine gl_callP (callable Tryz.func110 rfl rfl) (c_laneref1_IsUnder hy3) rfl rfl rfl rfl rfl rfl ?_
  refine go_draw hΓ 4 rfl ?_
  obtain rfl := Option.some.inj h4
  exact fin_objs hΓ [_] (.inr rfl) rfl rfl rfl rfl (.inr ⟨HB.mk rfl, rfl⟩)

theorem c_slices_IndexFunc_api_Record_api_Record_4 {s : List T_api_Record} {f : Str} {r : Int} (h : m_slices_IndexFunc_api_Record_api_Record_4 s f = some r) : EC Tryz.prog 218 [.d (Sl e_api_Record s), .fn (.func 228) [] [.ptr 0 0]] [.box 9 [S f]] fun g hp' => g = I r ∧ hp' = [.box 9 [S f]] := by
  refine ec_enter (Fr.of 0 _) Tryz.func218 rfl (Fr.of_ok _) (Nat.le_of_ble_eq_true rfl) fun _ => ?_
  refine go_in ?_
  unfold m_slices_IndexFunc_api_Record_api_Record_4 at h
  refine go hΓ 13 rfl ?_
  obtain ⟨q4, hq4, h5⟩ := bi_ok h
  refine j_bound 0 rfl fun hb7 => ?_
  refine j_cutEZ (R := fun a6 => q4 = .go a6) (fun a6 => []) (fun a6 => [.box 9 [S f]]) ?_ ?_
  · refine go hΓ 1 rfl ?_
    refine j_range s hq4 (fun i1 s2 => [(0, .d (Sl e_api_Record s)), (1, .fn (.func 228) [] [.ptr 0 0]), (7, I (s.length : Int)), (8, I (i1 : Int))]) (fun s2 => [.box 9 [S f]]) ⟨⟨rfl, rfl, rfl, rfl, trivial⟩, [], rfl, .inl rfl⟩ (fun i1 x3 s2 y11 hx8 hlt hy9 hout10 => ?_) (fun s2 hgo => ?_)
    · refine go hΓ 6 rfl ?_
      refine j_condT rfl (decide_eq_true (Int.ofNat_lt.2 hlt)) ?_
      refine go hΓ 15 rfl ?_
      refine eo_o rfl (op_elemZ hΓ (enc := e_api_Record) (getZ_nat hx8) rfl rfl rfl rfl rfl (fun _ => rfl)) ?_
      obtain ⟨y12, hy12, h13⟩ := bi_ok hy9
      refine go_ops hΓ 1 rfl ?_
      refine eo_callF [0] (B y12) [.box 9 [S f]] (callable Tryz.func228 rfl rfl) (c_laneref1_there_1 hy12) rfl (Nat.le_of_ble_eq_true rfl) rfl rfl rfl rfl rfl rfl rfl rfl rfl rfl ?_
      refine go_ops hΓ 2 rfl ?_
      refine j_cond rfl (fun hb => ?_) (fun hb => ?_)
      · have h14 := cT h13 hb
        refine go hΓ 9 rfl ?_
        obtain ⟨v15, hv15, h16⟩ := bi_ok h14
        obtain rfl := Option.some.inj h16
        obtain rfl := hout10 _ rfl
        obtain rfl := Option.some.inj h5
        refine go hΓ 4 rfl ?_
        obtain rfl := Option.some.inj hv15
        exact fin_objs hΓ [] (.inr rfl) rfl rfl rfl rfl (.inl rfl)
      · have h17 := cF h13 hb
        refine go hΓ 7 rfl ?_
        obtain rfl := Option.some.inj h17
        exact ⟨_, rfl, ⟨⟨rfl, rfl, rfl, get_eq rfl (w64_succ (Nat.lt_of_lt_of_le hlt hb7)), trivial⟩, [], rfl, .inl rfl⟩⟩
    · subst hgo
      refine go hΓ 6 rfl ?_
      refine j_condF rfl (decide_eq_false (Int.lt_irrefl _)) ?_
      refine go hΓ 4 rfl ?_
      exact ⟨_, rfl, ⟨trivial, [], rfl, .inl rfl⟩⟩
  · intro a6 ha
    subst ha
    replace h5 := goI_l h5
    refine go hΓ 7 rfl ?_
    obtain rfl := Option.some.inj h5
    exact fin_objs hΓ [] (.inr rfl) rfl rfl rfl rfl (.inl rfl)

theorem c_slices_ContainsFunc_api_Record_api_Record_2 {s : List T_api_Record} {f : Str} {r : Bool} (h : m_slices_ContainsFunc_api_Record_api_Record_2 s f = some r) : EC Tryz.prog 227 [.d (Sl e_api_Record s), .fn (.func 228) [] [.ptr 0 0]] [.box 9 [S f]] fun g hp' => g = B r ∧ hp' = [.box 9 [S f]] := by
  refine ec_enter (Fr.of 0 _) Tryz.func227 rfl (Fr.of_ok _) (Nat.le_of_ble_eq_true rfl) fun _ => ?_
  refine go_in ?_
  unfold m_slices_ContainsFunc_api_Record_api_Record_2 at h
  obtain ⟨y1, hy1, h2⟩ := bi_ok h
  refine go hΓ 9 rfl ?_
  refine eo_callF [0] (I y1) [.box 9 [S f]] (callable Tryz.func218 rfl rfl) (c_slices_IndexFunc_api_Record_api_Record_4 hy1) rfl (Nat.le_of_ble_eq_true rfl) rfl rfl rfl rfl rfl rfl rfl rfl rfl rfl ?_
  refine go_ops hΓ 5 rfl ?_
  obtain rfl := Option.some.inj h2
  exact fin_objs hΓ [] (.inr rfl) rfl rfl rfl rfl (.inl rfl)

theorem c_laneref1_there {z : T_api_Zone} {name : Str} {r : Bool} (h : m_laneref1_there z name = some r) : Pure Tryz.prog 119 [.agg [S z.Root, .d (Sl e_api_Record z.Records)], S name] (B r) := by
  refine Pure.enter (Fr.of 0 _) Tryz.func119 rfl (Fr.of_ok _) rfl rfl ?_
  refine go_in ?_
  unfold m_laneref1_there at h
  refine go hΓ 2 rfl ?_
  refine eo_box rfl rfl rfl rfl (Nat.le_of_ble_eq_true rfl) ?_
  refine eo_box rfl rfl rfl rfl (Nat.le_of_ble_eq_true rfl) ?_
  obtain ⟨y1, hy1, h2⟩ := bi_ok h
  refine go_ops hΓ 8 rfl ?_
  refine eo_callF [1] (B y1) [.box 51 [S z.Root, .d (Sl e_api_Record z.Records)], .box 9 [S name]] (callable Tryz.func227 rfl rfl) (c_slices_ContainsFunc_api_Record_api_Record_2 hy1) rfl (Nat.le_of_ble_eq_true rfl) rfl rfl rfl rfl rfl rfl rfl rfl rfl rfl ?_
  refine go_ops hΓ 4 rfl ?_
  obtain rfl := Option.some.inj h2
  exact fin_pure hΓ (.inr rfl) rfl rfl

theorem c_laneref1_recordsAt {k : Nat} {z : T_api_Zone} {name : Str} {r : List T_api_Record} (h : m_laneref1_recordsAt k z name = some r) : Pure Tryz.prog 120 [.agg [S z.Root, .d (Sl e_api_Record z.Records)], S name] (.d (Sl e_api_Record r)) := by
  refine Pure.enter (Fr.of 0 _) Tryz.func120 rfl (Fr.of_ok _) rfl rfl ?_
  refine go_in ?_
  unfold m_laneref1_recordsAt at h
  refine go hΓ 2 rfl ?_
  refine eo_box rfl rfl rfl rfl (Nat.le_of_ble_eq_true rfl) ?_
  obtain ⟨y1, hy1, h2⟩ := bi_ok h
  refine go_ops hΓ 14 rfl ?_
  refine eo_callP (callable Tryz.func119 rfl rfl) (c_laneref1_there hy1) rfl (Nat.le_of_ble_eq_true rfl) rfl rfl rfl rfl rfl ?_
  obtain ⟨q3, hq3, h4⟩ := bi_ok h2
  refine go_ops hΓ 3 rfl ?_
  refine j_cutSZ (q := q3) (fun a5 => [(1, S name), (2, .ptr 0 0), (5, S a5)]) (fun a5 => [.box 51 [S z.Root, .d (Sl e_api_Record z.Records)]]) ?_ ?_
  · refine j_cond rfl (fun hb => ?_) (fun hb => ?_)
    · have h6 := cT hq3 hb
      refine go hΓ 7 rfl ?_
      obtain ⟨q10, hq10, h11⟩ := bi_ok h6
      refine j_cutNZ [(1, S name), (2, .ptr 0 0), (6, S q10)] [.box 51 [S z.Root, .d (Sl e_api_Record z.Records)]] ?_ ?_
      · refine go hΓ 1 rfl ?_
        refine j_loop hq10 (fun s8 => [(1, S name), (2, .ptr 0 0), (6, S s8)]) (fun s8 => [.box 51 [S z.Root, .d (Sl e_api_Record z.Records)]]) ⟨⟨rfl, rfl, rfl, trivial⟩, [], rfl, .inl rfl⟩ (fun s8 y16 hy14 hout15 => ?_)
        refine go hΓ 9 rfl ?_
        refine j_cond rfl (fun hb => ?_) (fun hb => ?_)
        · have h17 := cT hy14 hb
          obtain ⟨y18, hy18, h19⟩ := bi_ok h17
          refine go hΓ 6 rfl ?_
          refine eo_callP (callable Tryz.func208 rfl rfl) (c_strings_Cut hy18) rfl (Nat.le_of_ble_eq_true rfl) rfl rfl rfl rfl rfl ?_
          obtain ⟨y20, hy20, h21⟩ := bi_ok h19
          refine go_ops hΓ 11 rfl ?_
          refine eo_callP (callable Tryz.func119 rfl rfl) (c_laneref1_there hy20) rfl (Nat.le_of_ble_eq_true rfl) rfl rfl rfl rfl rfl ?_
          refine go_ops hΓ 2 rfl ?_
          refine j_cond rfl (fun hb => ?_) (fun hb => ?_)
          · have h22 := cT h21 hb
            refine go hΓ 4 rfl ?_
            obtain rfl := Option.some.inj h22
            obtain rfl := hout15 _ rfl
            exact ⟨⟨rfl, rfl, rfl, trivial⟩, [], rfl, .inl rfl⟩
          · have h23 := cF h21 hb
            refine go hΓ 2 rfl ?_
            obtain rfl := Option.some.inj h23
            exact ⟨_, rfl, ⟨⟨rfl, rfl, rfl, trivial⟩, [], rfl, .inl rfl⟩⟩
        · have h24 := cF hy14 hb
          refine go hΓ 4 rfl ?_
          obtain rfl := Option.some.inj h24
          obtain rfl := hout15 _ rfl
          exact ⟨⟨rfl, rfl, rfl, trivial⟩, [], rfl, .inl rfl⟩
      · refine go hΓ 10 rfl ?_
        refine j_cond rfl (fun hb => ?_) (fun hb => ?_)
        · have h25 := cT h11 hb
          refine go hΓ 7 rfl ?_
          obtain ⟨v26, hv26, h27⟩ := bi_ok h25
          obtain rfl := Option.some.inj h27
          obtain rfl := Option.some.inj h4
          refine go hΓ 2 rfl ?_
          obtain rfl := Option.some.inj hv26
          exact fin_pure hΓ (.inr rfl) rfl rfl
        · have h28 := cF h11 hb
          obtain ⟨y29, hy29, h30⟩ := bi_ok h28
          refine go hΓ 4 rfl ?_
          refine eo_o rfl (op_catZ hy29 rfl rfl) ?_
          refine go_ops hΓ 2 rfl ?_
          obtain rfl := Option.some.inj h30
          exact ⟨_, rfl, ⟨⟨rfl, rfl, rfl, trivial⟩, [], rfl, .inl rfl⟩⟩
    · have h31 := cF hq3 hb
      refine go hΓ 1 rfl ?_
      obtain rfl := Option.some.inj h31
      exact ⟨_, rfl, ⟨⟨rfl, rfl, rfl, trivial⟩, [], rfl, .inl rfl⟩⟩
  · intro a5 ha
    subst ha
    replace h4 := orI_l h4
    refine go hΓ 3 rfl ?_
    refine eo_nilOwn (t := 0) 38 8 rfl (Nat.le_of_ble_eq_true rfl) ?_
    refine go_ops hΓ 11 rfl ?_
    obtain ⟨q35, hq35, h36⟩ := bi_ok h4
    refine j_bound 36 rfl fun hb38 => ?_
    refine j_cutNZ [(7, .sl 1 q35.length)] [.box 51 [S z.Root, .d (Sl e_api_Record z.Records)], .row 38 8 q35.length (q35.flatMap e_api_Record)] ?_ ?_
    · refine go hΓ 1 rfl ?_
      refine j_rangeF z.Records hq35 (fun i32 s33 => [(1, S name), (5, S a5), (7, .sl 1 s33.length), (36, .d (Sl e_api_Record z.Records)), (37, I (z.Records.length : Int)), (38, I (i32 : Int))]) (fun s33 => [.box 51 [S z.Root, .d (Sl e_api_Record z.Records)], .row 38 8 s33.length (s33.flatMap e_api_Record)]) ⟨⟨rfl, rfl, rfl, rfl, rfl, rfl, trivial⟩, [], rfl, .inl rfl⟩ (fun i32 x34 s33 y42 hx39 hlt hy40 => ?_) (?_)
      · refine go hΓ 6 rfl ?_
        refine j_condT rfl (decide_eq_true (Int.ofNat_lt.2 hlt)) ?_
        refine go hΓ 6 rfl ?_
        refine eo_o rfl (op_elemZ hΓ (enc := e_api_Record) (getZ_nat hx39) rfl rfl rfl rfl rfl (fun _ => rfl)) ?_
        refine go_ops hΓ 1 rfl ?_
        refine eo_alloc hΓ rfl rfl rfl (Nat.le_of_ble_eq_true rfl) ?_
        refine eo_store hΓ rfl rfl rfl rfl rfl rfl rfl rfl (Nat.le_of_ble_eq_true rfl) ?_
        refine eo_hp [.box 51 [S z.Root, .d (Sl e_api_Record z.Records)], .row 38 8 s33.length (s33.flatMap e_api_Record), .box 38 [S x34.Name, I x34.Kind, B x34.Addr.Six, .d (.v (.int .u64 x34.Addr.Hi)), .d (.v (.int .u64 x34.Addr.Lo)), S x34.To, S x34.Words, I x34.Life]] rfl ?_
        refine go_ops hΓ 10 rfl ?_
        refine j_cond rfl (fun hb => ?_) (fun hb => ?_)
        · have h43 := cT hy40 hb
          refine go hΓ 4 rfl ?_
          refine eo_store hΓ rfl rfl rfl rfl rfl rfl rfl rfl (Nat.le_of_ble_eq_true rfl) ?_
          refine eo_hp [.box 51 [S z.Root, .d (Sl e_api_Record z.Records)], .row 38 8 s33.length (s33.flatMap e_api_Record), .box 38 [S name, I x34.Kind, B x34.Addr.Six, .d (.v (.int .u64 x34.Addr.Hi)), .d (.v (.int .u64 x34.Addr.Lo)), S x34.To, S x34.Words, I x34.Life]] rfl ?_
          refine go_ops hΓ 5 rfl ?_
          refine eo_litT hΓ (enc := e_api_Record) [(⟨name, x34.Kind, x34.Addr, x34.To, x34.Words, x34.Life⟩ : T_api_Record)] rfl rfl rfl rfl rfl rfl rfl rfl rfl rfl rfl rfl (Nat.le_of_ble_eq_true rfl) ?_
          obtain ⟨y44, hy44, h45⟩ := bi_ok h43
          refine eo_appendT hΓ (enc := e_api_Record) hy44 rfl rfl rfl rfl rfl rfl rfl rfl rfl (fun _ => rfl) rfl rfl rfl rfl ?_
          refine go_ops hΓ 8 rfl ?_
          obtain rfl := Option.some.inj h45
          exact ⟨⟨rfl, rfl, rfl, rfl, rfl, get_eq rfl (w64_succ (Nat.lt_of_lt_of_le hlt hb38)), trivial⟩, [_], rfl, .inr ⟨HB.mk rfl, FB.mk rfl, (Nat.le_of_ble_eq_true rfl)⟩⟩
        · have h46 := cF hy40 hb
          refine go hΓ 7 rfl ?_
          obtain rfl := Option.some.inj h46
          exact ⟨⟨rfl, rfl, rfl, rfl, rfl, get_eq rfl (w64_succ (Nat.lt_of_lt_of_le hlt hb38)), trivial⟩, [_], rfl, .inr ⟨HB.mk rfl, FB.mk rfl, (Nat.le_of_ble_eq_true rfl)⟩⟩
      · refine go hΓ 6 rfl ?_
        refine j_condF rfl (decide_eq_false (Int.lt_irrefl _)) ?_
        refine go hΓ 4 rfl ?_
        exact ⟨⟨rfl, trivial⟩, [], rfl, .inl rfl⟩
    · refine go hΓ 5 rfl ?_
      refine eo_shr 1 [4] _ [.box 51 [S z.Root, .d (Sl e_api_Record z.Records)], .dead] rfl rfl rfl (Nat.le_of_ble_eq_true rfl) ?_
      refine go_ops hΓ 3 rfl ?_
      obtain rfl := Option.some.inj h36
      exact fin_pure hΓ (.inr rfl) rfl rfl

theorem c_laneref1_FindIn_1 {v_r : T_api_Record} {x : Int} {r : Bool} (h : m_laneref1_FindIn_1 v_r x = some r) : EC Tryz.prog 123 [.agg [S v_r.Name, I v_r.Kind, B v_r.Addr.Six, .d (.v (.int .u64 v_r.Addr.Hi)), .d (.v (.int .u64 v_r.Addr.Lo)), S v_r.To, S v_r.Words, I v_r.Life], .ptr 0 0] [.box 3 [I x]] fun g hp' => g = B r ∧ hp' = [.box 3 [I x]] := by
  refine ec_enter (Fr.of 0 _) Tryz.func123 rfl (Fr.of_ok _) (Nat.le_of_ble_eq_true rfl) fun _ => ?_
  refine go_in ?_
  unfold m_laneref1_FindIn_1 at h
  refine go hΓ 2 rfl ?_
  refine eo_box rfl rfl rfl rfl (Nat.le_of_ble_eq_true rfl) ?_
  refine go_ops hΓ 13 rfl ?_
  obtain rfl := Option.some.inj h
  exact fin_objs hΓ [_] (.inr rfl) rfl rfl rfl rfl (.inr ⟨HB.mk rfl, rfl⟩)

theorem c_slices_IndexFunc_api_Record_api_Record_5 {s : List T_api_Record} {f : Int} {r : Int} (h : m_slices_IndexFunc_api_Record_api_Record_5 s f = some r) : EC Tryz.prog 218 [.sl 0 s.length, .fn (.func 123) [] [.ptr 1 0]] [.row 38 8 s.length (s.flatMap e_api_Record), .box 3 [I f]] fun g hp' => g = I r ∧ hp' = [.row 38 8 s.length (s.flatMap e_api_Record), .box 3 [I f]] := by
  refine ec_enter (Fr.of 0 _) Tryz.func218 rfl (Fr.of_ok _) (Nat.le_of_ble_eq_true rfl) fun _ => ?_
  refine go_in ?_
  unfold m_slices_IndexFunc_api_Record_api_Record_5 at h
  refine go hΓ 13 rfl ?_
  obtain ⟨q4, hq4, h5⟩ := bi_ok h
  obtain ⟨hb7, h8⟩ := gd_ok hq4
  replace hb7 := of_decide_eq_true hb7
  refine j_cutEZ (R := fun a6 => q4 = .go a6) (fun a6 => []) (fun a6 => [.row 38 8 s.length (s.flatMap e_api_Record), .box 3 [I f]]) ?_ ?_
  · refine go hΓ 1 rfl ?_
    refine j_rangeI h8 (fun i1 s2 => [(0, .sl 0 s.length), (1, .fn (.func 123) [] [.ptr 1 0]), (7, I (s.length : Int)), (8, I (i1 : Int))]) (fun s2 => [.row 38 8 s.length (s.flatMap e_api_Record), .box 3 [I f]]) ⟨⟨rfl, rfl, rfl, rfl, trivial⟩, [], rfl, .inl rfl⟩ (fun i1 s2 y12 hlt hy10 hout11 => ?_) (fun s2 hgo hge => ?_)
    · refine go hΓ 6 rfl ?_
      refine j_condT rfl (decide_eq_true hlt) ?_
      obtain ⟨x13, hx13, h14⟩ := bi_ok hy10
      have hj15 := getZ_at hx13
      refine go hΓ 15 rfl ?_
      refine eo_o rfl (op_elemRowZ hΓ hx13 rfl rfl rfl rfl rfl rfl) ?_
      refine eo_o rfl (op_loadRowZ hΓ (enc := e_api_Record) ((i1 : Int).toNat) 0 hj15 rfl rfl rfl rfl (fun _ => rfl) (g := .agg [S x13.Name, I x13.Kind, B x13.Addr.Six, .d (.v (.int .u64 x13.Addr.Hi)), .d (.v (.int .u64 x13.Addr.Lo)), S x13.To, S x13.Words, I x13.Life]) rfl) ?_
      obtain ⟨y16, hy16, h17⟩ := bi_ok h14
      refine eo_callF [1] (B y16) [.row 38 8 s.length (s.flatMap e_api_Record), .box 3 [I f]] (callable Tryz.func123 rfl rfl) (c_laneref1_FindIn_1 hy16) rfl (Nat.le_of_ble_eq_true rfl) rfl rfl rfl rfl rfl rfl rfl rfl rfl rfl ?_
      refine go_ops hΓ 2 rfl ?_
      refine j_cond rfl (fun hb => ?_) (fun hb => ?_)
      · have h18 := cT h17 hb
        refine go hΓ 9 rfl ?_
        obtain ⟨v19, hv19, h20⟩ := bi_ok h18
        obtain rfl := Option.some.inj h20
        obtain rfl := hout11 _ rfl
        obtain rfl := Option.some.inj h5
        refine go hΓ 4 rfl ?_
        obtain rfl := Option.some.inj hv19
        exact fin_objs hΓ [] (.inr rfl) rfl rfl rfl rfl (.inl rfl)
      · have h21 := cF h17 hb
        refine go hΓ 7 rfl ?_
        obtain rfl := Option.some.inj h21
        exact ⟨_, rfl, ⟨⟨rfl, rfl, rfl, get_eq rfl (w64_succ (by omega)), trivial⟩, [], rfl, .inl rfl⟩⟩
    · subst hgo
      refine go hΓ 6 rfl ?_
      refine j_condF rfl (decide_eq_false hge) ?_
      refine go hΓ 4 rfl ?_
      exact ⟨_, rfl, ⟨trivial, [], rfl, .inl rfl⟩⟩
  · intro a6 ha
    subst ha
    replace h5 := goI_l h5
    refine go hΓ 7 rfl ?_
    obtain rfl := Option.some.inj h5
    exact fin_objs hΓ [] (.inr rfl) rfl rfl rfl rfl (.inl rfl)

theorem c_slices_DeleteFunc_api_Record_api_Record_2 {k : Nat} {s : List T_api_Record} {f : Int} {r : List T_api_Record} (h : m_slices_DeleteFunc_api_Record_api_Record_2 k s f = some r) : EC Tryz.prog 121 [.sl 0 s.length, .fn (.func 123) [] [.ptr 1 0]] [.row 38 8 s.length (s.flatMap e_api_Record), .box 3 [I f]] fun g hp' => g = .sl 0 r.length ∧ hp' = [.row 38 8 r.length (r.flatMap e_api_Record), .box 3 [I f]] := by
  refine ec_enter (Fr.of 0 _) Tryz.func121 rfl (Fr.of_ok _) (Nat.le_of_ble_eq_true rfl) fun _ => ?_
  refine go_in ?_
  unfold m_slices_DeleteFunc_api_Record_api_Record_2 at h
  obtain ⟨y1, hy1, h2⟩ := bi_ok h
  refine go hΓ 9 rfl ?_
  refine eo_callF [0, 1] (I y1) [.row 38 8 s.length (s.flatMap e_api_Record), .box 3 [I f]] (callable Tryz.func218 rfl rfl) (c_slices_IndexFunc_api_Record_api_Record_5 hy1) rfl (Nat.le_of_ble_eq_true rfl) rfl rfl rfl rfl rfl rfl rfl rfl rfl rfl ?_
  refine go_ops hΓ 10 rfl ?_
  refine j_cond rfl (fun hb => ?_) (fun hb => ?_)
  · have h3 := cT h2 hb
    refine go hΓ 8 rfl ?_
    obtain rfl := Option.some.inj h3
    exact fin_objs hΓ [] (.inr rfl) rfl rfl rfl rfl (.inl rfl)
  · have h4 := cF h2 hb
    refine go hΓ 10 rfl ?_
    obtain ⟨q8, hq8, h9⟩ := bi_ok h4
    refine j_cutNZ [(0, .sl 0 q8.1.length), (5, I q8.2)] [.row 38 8 q8.1.length (q8.1.flatMap e_api_Record), .box 3 [I f]] ?_ ?_
    · refine go hΓ 1 rfl ?_
      refine j_loop hq8 (fun s6 => [(0, .sl 0 s6.1.length), (1, .fn (.func 123) [] [.ptr 1 0]), (5, I s6.2.1), (6, I s6.2.2)]) (fun s6 => [.row 38 8 s6.1.length (s6.1.flatMap e_api_Record), .box 3 [I f]]) ⟨⟨rfl, rfl, rfl, rfl, trivial⟩, [], rfl, .inl rfl⟩ (fun s6 y14 hy12 hout13 => ?_)
      refine go hΓ 9 rfl ?_
      refine j_cond rfl (fun hb => ?_) (fun hb => ?_)
      · have h15 := cT hy12 hb
        obtain ⟨x16, hx16, h17⟩ := bi_ok h15
        have hj18 := getZ_at hx16
        refine go hΓ 8 rfl ?_
        refine eo_o rfl (op_elemRowZ hΓ hx16 rfl rfl rfl rfl rfl rfl) ?_
        refine eo_o rfl (op_loadRowZ hΓ (enc := e_api_Record) s6.2.2.toNat 0 hj18 rfl rfl rfl rfl (fun _ => rfl) (g := .agg [S x16.Name, I x16.Kind, B x16.Addr.Six, .d (.v (.int .u64 x16.Addr.Hi)), .d (.v (.int .u64 x16.Addr.Lo)), S x16.To, S x16.Words, I x16.Life]) rfl) ?_
        refine eo_alloc hΓ rfl rfl rfl (Nat.le_of_ble_eq_true rfl) ?_
        refine eo_store hΓ rfl rfl rfl rfl rfl rfl rfl rfl (Nat.le_of_ble_eq_true rfl) ?_
        refine eo_hp [.row 38 8 s6.1.length (s6.1.flatMap e_api_Record), .box 3 [I f], .box 38 [S x16.Name, I x16.Kind, B x16.Addr.Six, .d (.v (.int .u64 x16.Addr.Hi)), .d (.v (.int .u64 x16.Addr.Lo)), S x16.To, S x16.Words, I x16.Life]] rfl ?_
        obtain ⟨y19, hy19, h20⟩ := bi_ok h17
        refine go_ops hΓ 6 rfl ?_
        refine eo_callF [1] (B y19) [.row 38 8 s6.1.length (s6.1.flatMap e_api_Record), .box 3 [I f], .box 38 [S x16.Name, I x16.Kind, B x16.Addr.Six, .d (.v (.int .u64 x16.Addr.Hi)), .d (.v (.int .u64 x16.Addr.Lo)), S x16.To, S x16.Words, I x16.Life]] (callable Tryz.func123 rfl rfl) (c_laneref1_FindIn_1 hy19) rfl (Nat.le_of_ble_eq_true rfl) rfl rfl rfl rfl rfl rfl rfl rfl rfl rfl ?_
        refine go_ops hΓ 3 rfl ?_
        refine j_cond rfl (fun hb => ?_) (fun hb => ?_)
        · have h21 := cT h20 hb
          obtain ⟨x22, hx22, h23⟩ := bi_ok h21
          have hj24 := getZ_at hx22
          refine go hΓ 5 rfl ?_
          refine eo_o rfl (op_elemRowZ hΓ hx22 rfl rfl rfl rfl rfl rfl) ?_
          refine eo_storeRowZ hΓ (enc := e_api_Record) (z' := x16) s6.2.1.toNat 0 hj24 rfl rfl rfl rfl (fun _ => rfl) rfl rfl rfl rfl rfl rfl (Nat.le_of_ble_eq_true rfl) ?_
          refine eo_hp [.row 38 8 (s6.1.set s6.2.1.toNat x16).length ((s6.1.set s6.2.1.toNat x16).flatMap e_api_Record), .box 3 [I f], .box 38 [S x16.Name, I x16.Kind, B x16.Addr.Six, .d (.v (.int .u64 x16.Addr.Hi)), .d (.v (.int .u64 x16.Addr.Lo)), S x16.To, S x16.Words, I x16.Life]] rfl ?_
          refine eo_relen 0 (n' := (s6.1.set s6.2.1.toNat x16).length) rfl List.length_set.symm ?_
          refine go_ops hΓ 14 rfl ?_
          obtain rfl := Option.some.inj h23
          exact ⟨_, rfl, ⟨⟨rfl, rfl, rfl, rfl, trivial⟩, [_], rfl, .inr ⟨HB.mk rfl, FB.mk rfl, (Nat.le_of_ble_eq_true rfl)⟩⟩⟩
        · have h25 := cF h20 hb
          refine go hΓ 8 rfl ?_
          obtain rfl := Option.some.inj h25
          exact ⟨_, rfl, ⟨⟨rfl, rfl, rfl, rfl, trivial⟩, [_], rfl, .inr ⟨HB.mk rfl, FB.mk rfl, (Nat.le_of_ble_eq_true rfl)⟩⟩⟩
      · have h26 := cF hy12 hb
        refine go hΓ 4 rfl ?_
        obtain rfl := Option.some.inj h26
        obtain rfl := hout13 _ rfl
        exact ⟨⟨rfl, rfl, trivial⟩, [], rfl, .inl rfl⟩
    · obtain ⟨z27, hz27, h28⟩ := bi_ok h9
      refine go hΓ 5 rfl ?_
      refine eo_o rfl (op_viewI hΓ hz27 rfl rfl rfl rfl rfl rfl) ?_
      refine eo_s0 (Nat.le_of_ble_eq_true rfl) (ops_clearT hΓ (enc := e_api_Record) (a := q8.2) hz27 rfl rfl rfl rfl rfl rfl rfl rfl rfl rfl (fun _ => rfl)) ?_
      refine go_ops hΓ 6 rfl ?_
      refine eo_subCut hΓ hz27 rfl rfl rfl rfl rfl rfl rfl rfl ?_
      refine go_ops hΓ 4 rfl ?_
      obtain rfl := Option.some.inj h28
      exact fin_objs hΓ [] (.inr rfl) rfl rfl rfl rfl (.inl rfl)

theorem c_laneref1_FindIn {k : Nat} {z : T_api_Zone} {name : Str} {kind : Int} {r : (List T_api_Record) × Int} (h : m_laneref1_FindIn k z name kind = some r) : Pure Tryz.prog 35 [.agg [S z.Root, .d (Sl e_api_Record z.Records)], S name, I kind] (.tup [.d (Sl e_api_Record r.1), I r.2]) := by
  refine Pure.enter (Fr.of 0 _) Tryz.func35 rfl (Fr.of_ok _) rfl rfl ?_
  refine go_in ?_
  unfold m_laneref1_FindIn at h
  refine go hΓ 2 rfl ?_
  refine eo_box rfl rfl rfl rfl (Nat.le_of_ble_eq_true rfl) ?_
  refine eo_box rfl rfl rfl rfl (Nat.le_of_ble_eq_true rfl) ?_
  obtain ⟨y1, hy1, h2⟩ := bi_ok h
  refine go_ops hΓ 10 rfl ?_
  refine eo_callP (callable Tryz.func110 rfl rfl) (c_laneref1_IsUnder hy1) rfl (Nat.le_of_ble_eq_true rfl) rfl rfl rfl rfl rfl ?_
  refine go_ops hΓ 3 rfl ?_
  refine j_cond rfl (fun hb => ?_) (fun hb => ?_)
  · have h3 := cT h2 hb
    refine go hΓ 8 rfl ?_
    obtain rfl := Option.some.inj h3
    exact fin_pure hΓ (.inr rfl) rfl rfl
  · have h4 := cF h2 hb
    obtain ⟨y5, hy5, h6⟩ := bi_ok h4
    refine go hΓ 7 rfl ?_
    refine eo_callP (callable Tryz.func119 rfl rfl) (c_laneref1_there hy5) rfl (Nat.le_of_ble_eq_true rfl) rfl rfl rfl rfl rfl ?_
    refine go_ops hΓ 2 rfl ?_
    obtain ⟨q7, hq7, h8⟩ := bi_ok h6
    refine o_cut 6 [(1, S name), (3, .ptr 0 0), (5, .ptr 1 0), (27, B q7)] [.box 51 [S z.Root, .d (Sl e_api_Record z.Records)], .box 3 [I kind]] ?_ ?_
    · refine eo_gsplit rfl rfl (fun hb => ?_) (fun hb => ?_)
      · have h9 := cT hq7 hb
        obtain ⟨y10, hy10, h11⟩ := bi_ok h9
        refine go_ops hΓ 2 rfl ?_
        refine eo_guard rfl ?_
        refine eo_callP (callable Tryz.func120 rfl rfl) (c_laneref1_recordsAt hy10) rfl (Nat.le_of_ble_eq_true rfl) rfl rfl rfl rfl rfl ?_
        refine go_ops hΓ 4 rfl ?_
        obtain rfl := Option.some.inj h11
        exact ⟨⟨rfl, rfl, rfl, rfl, trivial⟩, [], rfl, .inl rfl⟩
      · have h12 := cF hq7 hb
        refine go_ops hΓ 7 rfl ?_
        obtain rfl := Option.some.inj h12
        exact ⟨⟨rfl, rfl, rfl, rfl, trivial⟩, [], rfl, .inl rfl⟩
    · refine go_ops hΓ 2 rfl ?_
      refine j_cond rfl (fun hb => ?_) (fun hb => ?_)
      · have h13 := cT h8 hb
        refine go hΓ 8 rfl ?_
        obtain rfl := Option.some.inj h13
        exact fin_pure hΓ (.inr rfl) rfl rfl
      · have h14 := cF h8 hb
        refine go hΓ 4 rfl ?_
        refine eo_nilOwn (t := 0) 38 8 rfl (Nat.le_of_ble_eq_true rfl) ?_
        refine go_ops hΓ 7 rfl ?_
        obtain ⟨q18, hq18, h19⟩ := bi_ok h14
        refine go hΓ 1 rfl ?_
        refine j_loop hq18 (fun s16 => [(1, S s16.2.1), (3, .ptr 0 0), (5, .ptr 1 0), (8, .sl 2 s16.1.length), (9, I s16.2.2)]) (fun s16 => [.box 51 [S z.Root, .d (Sl e_api_Record z.Records)], .box 3 [I kind], .row 38 8 s16.1.length (s16.1.flatMap e_api_Record)]) ⟨⟨rfl, rfl, rfl, rfl, rfl, trivial⟩, [], rfl, .inl rfl⟩ (fun s16 y24 hy22 hout23 => ?_)
        obtain ⟨y25, hy25, h26⟩ := bi_ok hy22
        refine go hΓ 6 rfl ?_
        refine eo_callP (callable Tryz.func120 rfl rfl) (c_laneref1_recordsAt hy25) rfl (Nat.le_of_ble_eq_true rfl) rfl rfl rfl rfl rfl ?_
        obtain ⟨y27, hy27, h28⟩ := bi_ok h26
        refine go_ops hΓ 6 rfl ?_
        refine eo_callF [] (.sl 3 y27.length) [.box 51 [S z.Root, .d (Sl e_api_Record z.Records)], .box 3 [I kind], .row 38 8 s16.1.length (s16.1.flatMap e_api_Record), .row 38 8 y27.length (y27.flatMap e_api_Record)] (callable Tryz.func122 rfl rfl) (c_slices_Clone_api_Record_api_Record hy27) rfl (Nat.le_of_ble_eq_true rfl) rfl rfl rfl rfl rfl rfl rfl rfl rfl rfl ?_
        obtain ⟨y29, hy29, h30⟩ := bi_ok h28
        refine go_ops hΓ 1 rfl ?_
        refine eo_callF [3, 1] (.sl 3 y29.length) [.box 51 [S z.Root, .d (Sl e_api_Record z.Records)], .box 3 [I kind], .row 38 8 s16.1.length (s16.1.flatMap e_api_Record), .row 38 8 y29.length (y29.flatMap e_api_Record)] (callable Tryz.func121 rfl rfl) (c_slices_DeleteFunc_api_Record_api_Record_2 hy29) rfl (Nat.le_of_ble_eq_true rfl) rfl rfl rfl rfl rfl rfl rfl rfl rfl rfl ?_
        refine go_ops hΓ 10 rfl ?_
        refine o_cut 4 [(3, .ptr 0 0), (5, .ptr 1 0), (8, .sl 2 s16.1.length), (9, I s16.2.2), (10, .d (Sl e_api_Record y25)), (11, .sl 3 y29.length), (44, B ((decide (((y29.length : Int) : Int) > 0)) || (((y25.length : Int) : Int) == 0)))] [.box 51 [S z.Root, .d (Sl e_api_Record z.Records)], .box 3 [I kind], .row 38 8 s16.1.length (s16.1.flatMap e_api_Record), .row 38 8 y29.length (y29.flatMap e_api_Record)] ?_ ?_
        · refine eo_gsplit rfl rfl (fun hb => ?_) (fun hb => ?_)
          · refine go_ops hΓ 5 rfl ?_
            exact ⟨⟨rfl, rfl, rfl, rfl, rfl, rfl, get_b rfl (or_t hb), trivial⟩, [], rfl, .inl rfl⟩
          · refine go_ops hΓ 5 rfl ?_
            exact ⟨⟨rfl, rfl, rfl, rfl, rfl, rfl, get_b rfl (or_f hb), trivial⟩, [], rfl, .inl rfl⟩
        · refine go_ops hΓ 1 rfl ?_
          obtain ⟨q31, hq31, h32⟩ := bi_ok h30
          refine o_cut 6 [(3, .ptr 0 0), (5, .ptr 1 0), (8, .sl 2 s16.1.length), (9, I s16.2.2), (10, .d (Sl e_api_Record y25)), (11, .sl 3 y29.length), (51, B q31)] [.box 51 [S z.Root, .d (Sl e_api_Record z.Records)], .box 3 [I kind], .row 38 8 s16.1.length (s16.1.flatMap e_api_Record), .row 38 8 y29.length (y29.flatMap e_api_Record)] ?_ ?_
          · refine eo_gsplit rfl rfl (fun hb => ?_) (fun hb => ?_)
            · have h33 := cT hq31 hb
              refine go_ops hΓ 7 rfl ?_
              obtain rfl := Option.some.inj h33
              exact ⟨⟨rfl, rfl, rfl, rfl, rfl, rfl, rfl, trivial⟩, [], rfl, .inl rfl⟩
            · have h34 := cF hq31 hb
              obtain ⟨x35, hx35, h36⟩ := bi_ok h34
              refine go_ops hΓ 1 rfl ?_
              refine eo_guard rfl ?_
              refine eo_o rfl (op_elemZ hΓ (enc := e_api_Record) hx35 rfl rfl rfl rfl rfl (fun _ => rfl)) ?_
              refine go_ops hΓ 5 rfl ?_
              obtain rfl := Option.some.inj h36
              exact ⟨⟨rfl, rfl, rfl, rfl, rfl, rfl, rfl, trivial⟩, [], rfl, .inl rfl⟩
          · refine go_ops hΓ 2 rfl ?_
            refine j_cond rfl (fun hb => ?_) (fun hb => ?_)
            · have h37 := cT h32 hb
              refine go hΓ 4 rfl ?_
              refine eo_shr 3 [11, 53] _ [.box 51 [S z.Root, .d (Sl e_api_Record z.Records)], .box 3 [I kind], .row 38 8 s16.1.length (s16.1.flatMap e_api_Record), .dead] rfl rfl rfl (Nat.le_of_ble_eq_true rfl) ?_
              obtain ⟨y38, hy38, h39⟩ := bi_ok h37
              refine eo_appendT hΓ (enc := e_api_Record) hy38 rfl rfl rfl rfl rfl rfl rfl rfl rfl (fun _ => rfl) rfl rfl rfl rfl ?_
              refine go_ops hΓ 1 rfl ?_
              refine eo_shr 2 [6] _ [.box 51 [S z.Root, .d (Sl e_api_Record z.Records)], .box 3 [I kind], .dead, .dead] rfl rfl rfl (Nat.le_of_ble_eq_true rfl) ?_
              refine go_ops hΓ 7 rfl ?_
              obtain ⟨v40, hv40, h41⟩ := bi_ok h39
              obtain rfl := Option.some.inj h41
              obtain rfl := hout23 _ rfl
              obtain rfl := Option.some.inj h19
              refine go hΓ 2 rfl ?_
              obtain rfl := Option.some.inj hv40
              exact fin_pure hΓ (.inr rfl) rfl rfl
            · have h42 := cF h32 hb
              refine go hΓ 9 rfl ?_
              refine j_cond rfl (fun hb => ?_) (fun hb => ?_)
              · have h43 := cT h42 hb
                refine go hΓ 10 rfl ?_
                obtain ⟨v44, hv44, h45⟩ := bi_ok h43
                obtain rfl := Option.some.inj h45
                obtain rfl := hout23 _ rfl
                obtain rfl := Option.some.inj h19
                refine go hΓ 2 rfl ?_
                obtain rfl := Option.some.inj hv44
                exact fin_pure hΓ (.inr rfl) rfl rfl
              · have h46 := cF h42 hb
                obtain ⟨x47, hx47, h48⟩ := bi_ok h46
                refine go hΓ 6 rfl ?_
                refine eo_o rfl (op_elemZ hΓ (enc := e_api_Record) hx47 rfl rfl rfl rfl rfl (fun _ => rfl)) ?_
                refine go_ops hΓ 1 rfl ?_
                refine eo_litT hΓ (enc := e_api_Record) [x47] rfl rfl rfl rfl rfl rfl rfl rfl rfl rfl rfl rfl (Nat.le_of_ble_eq_true rfl) ?_
                obtain ⟨y49, hy49, h50⟩ := bi_ok h48
                refine eo_appendT hΓ (enc := e_api_Record) hy49 rfl rfl rfl rfl rfl rfl rfl rfl rfl (fun _ => rfl) rfl rfl rfl rfl ?_
                obtain ⟨x51, hx51, h52⟩ := bi_ok h50
                refine go_ops hΓ 6 rfl ?_
                refine eo_o rfl (op_elemZ hΓ (enc := e_api_Record) hx51 rfl rfl rfl rfl rfl (fun _ => rfl)) ?_
                obtain ⟨y53, hy53, h54⟩ := bi_ok h52
                refine go_ops hΓ 10 rfl ?_
                refine eo_callP (callable Tryz.func110 rfl rfl) (c_laneref1_IsUnder hy53) rfl (Nat.le_of_ble_eq_true rfl) rfl rfl rfl rfl rfl ?_
                refine go_ops hΓ 3 rfl ?_
                refine j_cond rfl (fun hb => ?_) (fun hb => ?_)
                · have h55 := cT h54 hb
                  refine go hΓ 4 rfl ?_
                  refine eo_shr 2 [6] _ [.box 51 [S z.Root, .d (Sl e_api_Record z.Records)], .box 3 [I kind], .dead, .row 38 8 y29.length (y29.flatMap e_api_Record)] rfl rfl rfl (Nat.le_of_ble_eq_true rfl) ?_
                  refine go_ops hΓ 6 rfl ?_
                  obtain ⟨v56, hv56, h57⟩ := bi_ok h55
                  obtain rfl := Option.some.inj h57
                  obtain rfl := hout23 _ rfl
                  obtain rfl := Option.some.inj h19
                  refine go hΓ 2 rfl ?_
                  obtain rfl := Option.some.inj hv56
                  exact fin_pure hΓ (.inr rfl) rfl rfl
                · have h58 := cF h54 hb
                  refine go hΓ 8 rfl ?_
                  obtain rfl := Option.some.inj h58
                  exact ⟨_, rfl, ⟨⟨rfl, rfl, rfl, rfl, rfl, trivial⟩, [_], rfl, .inr ⟨HB.mk rfl, FB.mk rfl, (Nat.le_of_ble_eq_true rfl)⟩⟩⟩

end Go.Proofs.YtpgnhnjhpnbelaaGreatDoor
