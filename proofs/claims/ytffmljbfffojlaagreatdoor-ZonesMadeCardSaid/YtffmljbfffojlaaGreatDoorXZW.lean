/-
  The functions compute their models.
-/
import Derived.Test.YtffmljbfffojlaaGreatDoorXZM
import Derived.Test.YtffmljbfffojlaaGreatDoorGt
import Derived.Test.YtffmljbfffojlaaGreatDoorStr
import Derived.Test.YtffmljbfffojlaaGreatDoorStr2
import Derived.Test.YtffmljbfffojlaaGreatDoorStr4
import Derived.Test.YtffmljbfffojlaaGreatDoorStr5
import Derived.Test.YtffmljbfffojlaaGreatDoorGk57
import Derived.Test.YtffmljbfffojlaaGreatDoorSoLays
import Derived.Test.YtffmljbfffojlaaGreatDoorXZW1
set_option linter.unusedVariables false
set_option linter.unusedSimpArgs false
set_option maxRecDepth 100000
namespace Go.Proofs.YtffmljbfffojlaaGreatDoor
open Go.Gk
set_option maxHeartbeats 8000000 in
theorem c_laneref1_CalledFault {root : Str} {life : Int} {l : List T_api_Called} {nodes : List T_api_Node} {r : Int} (h : m_laneref1_CalledFault root life l nodes = some r) : Pure Tryz.prog 21 [S root, I life, .d (Sl e_api_Called l), .d (Sl e_api_Node nodes)] (I r) := by
  refine Pure.enter (Fr.of 0 _) Tryz.func21 rfl (Fr.of_ok _) rfl rfl ?_
  refine go_in ?_
  unfold m_laneref1_CalledFault at h
  obtain ⟨y1, hy1, h2⟩ := bi_ok h
  refine go hΓ 9 rfl ?_
  refine eo_callP (callable Tryz.func13 rfl rfl) (c_laneref1_DomainFault hy1) rfl (Nat.le_of_ble_eq_true rfl) rfl rfl rfl rfl rfl ?_
  refine go_ops hΓ 9 rfl ?_
  refine j_cond rfl (fun hb => ?_) (fun hb => ?_)
  · have h3 := cT h2 hb
    refine go hΓ 8 rfl ?_
    obtain rfl := Option.some.inj h3
    exact fin_pure hΓ (.inr rfl) rfl rfl
  · have h4 := cF h2 hb
    obtain ⟨y5, hy5, h6⟩ := bi_ok h4
    refine go hΓ 6 rfl ?_
    refine eo_callP (callable Tryz.func50 rfl rfl) (c_laneref1_in hy5) rfl (Nat.le_of_ble_eq_true rfl) rfl rfl rfl rfl rfl ?_
    refine go_ops hΓ 3 rfl ?_
    refine j_cond rfl (fun hb => ?_) (fun hb => ?_)
    · have h7 := cT h6 hb
      refine go hΓ 7 rfl ?_
      obtain rfl := Option.some.inj h7
      exact fin_pure hΓ (.inr rfl) rfl rfl
    · have h8 := cF h6 hb
      refine go hΓ 10 rfl ?_
      refine j_cond rfl (fun hb => ?_) (fun hb => ?_)
      · have h9 := cT h8 hb
        refine go hΓ 7 rfl ?_
        obtain rfl := Option.some.inj h9
        exact fin_pure hΓ (.inr rfl) rfl rfl
      · have h10 := cF h8 hb
        refine go hΓ 10 rfl ?_
        obtain ⟨q14, hq14, h15⟩ := bi_ok h10
        refine j_bound 2 rfl fun hb17 => ?_
        refine j_cutEZ (R := fun a16 => q14 = .go a16) (fun a16 => [(3, .d (Sl e_api_Node nodes))]) (fun a16 => []) ?_ ?_
        · refine go hΓ 1 rfl ?_
          refine j_range l hq14 (fun i11 s12 => [(2, .d (Sl e_api_Called l)), (3, .d (Sl e_api_Node nodes)), (28, .d (Sl e_api_Called l)), (29, I (l.length : Int)), (30, I (i11 : Int))]) (fun s12 => []) ⟨⟨rfl, rfl, rfl, rfl, rfl, trivial⟩, [], rfl, .inl rfl⟩ (fun i11 x13 s12 y21 hx18 hlt hy19 hout20 => ?_) (fun s12 hgo => ?_)
          · refine go hΓ 6 rfl ?_
            refine j_condT rfl (decide_eq_true (Int.ofNat_lt.2 hlt)) ?_
            refine go hΓ 7 rfl ?_
            refine eo_o rfl (op_elemZ hΓ (enc := e_api_Called) (getZ_nat hx18) rfl rfl rfl rfl rfl (fun _ => rfl)) ?_
            refine go_ops hΓ 1 rfl ?_
            refine eo_alloc hΓ rfl rfl rfl (Nat.le_of_ble_eq_true rfl) ?_
            refine go_ops hΓ 1 rfl ?_
            refine eo_store hΓ rfl rfl rfl rfl rfl rfl rfl rfl (Nat.le_of_ble_eq_true rfl) ?_
            refine eo_hp [.box 76 [S x13.Node, S x13.Label]] rfl ?_
            obtain ⟨y22, hy22, h23⟩ := bi_ok hy19
            refine go_ops hΓ 7 rfl ?_
            refine eo_callP (callable Tryz.func51 rfl rfl) (c_laneref2_Key hy22) rfl (Nat.le_of_ble_eq_true rfl) rfl rfl rfl rfl rfl ?_
            refine go_ops hΓ 2 rfl ?_
            obtain ⟨q24, hq24, h25⟩ := bi_ok h23
            refine o_cut 5 [(2, .d (Sl e_api_Called l)), (3, .d (Sl e_api_Node nodes)), (10, I (i11 : Int)), (11, .ptr 0 0), (28, .d (Sl e_api_Called l)), (29, I (l.length : Int)), (30, I (i11 : Int)), (44, B q24)] [.box 76 [S x13.Node, S x13.Label]] ?_ ?_
            · refine eo_gsplit rfl rfl (fun hb => ?_) (fun hb => ?_)
              · have h26 := cT hq24 hb
                refine go_ops hΓ 6 rfl ?_
                obtain rfl := Option.some.inj h26
                exact ⟨⟨rfl, rfl, rfl, rfl, rfl, rfl, rfl, rfl, trivial⟩, [], rfl, .inl rfl⟩
              · have h27 := cF hq24 hb
                obtain ⟨y28, hy28, h29⟩ := bi_ok h27
                refine go_ops hΓ 2 rfl ?_
                refine eo_guard rfl ?_
                refine eo_callP (callable Tryz.func34 rfl rfl) (c_laneref1_LabelForm hy28) rfl (Nat.le_of_ble_eq_true rfl) rfl rfl rfl rfl rfl ?_
                refine go_ops hΓ 3 rfl ?_
                obtain rfl := Option.some.inj h29
                exact ⟨⟨rfl, rfl, rfl, rfl, rfl, rfl, rfl, rfl, trivial⟩, [], rfl, .inl rfl⟩
            · refine go_ops hΓ 2 rfl ?_
              refine j_cond rfl (fun hb => ?_) (fun hb => ?_)
              · have h30 := cT h25 hb
                refine go hΓ 9 rfl ?_
                obtain ⟨v31, hv31, h32⟩ := bi_ok h30
                obtain rfl := Option.some.inj h32
                obtain rfl := hout20 _ rfl
                obtain rfl := Option.some.inj h15
                refine go hΓ 4 rfl ?_
                obtain rfl := Option.some.inj hv31
                exact fin_pure hΓ (.inr rfl) rfl rfl
              · have h33 := cF h25 hb
                obtain ⟨q34, hq34, h35⟩ := bi_ok h33
                refine go hΓ 3 rfl ?_
                refine j_cutNZ [(2, .d (Sl e_api_Called l)), (3, .d (Sl e_api_Node nodes)), (28, .d (Sl e_api_Called l)), (29, I (l.length : Int)), (30, I (i11 : Int)), (57, B q34)] [.box 76 [S x13.Node, S x13.Label]] ?_ ?_
                · refine j_draw hmix (by kernel_rfl) ?_
                  refine go hΓ 3 rfl ?_
                  refine gl_gsplit rfl rfl (fun hb => ?_) (fun hb => ?_)
                  · have h36 := cT hq34 hb
                    obtain ⟨x37, hx37, h38⟩ := bi_ok h36
                    refine go_draw hΓ 5 rfl ?_
                    refine gl_og rfl rfl (op_elemZ hΓ (enc := e_api_Called) hx37 rfl rfl rfl rfl rfl (fun _ => rfl)) ?_
                    refine go_draw hΓ 5 rfl ?_
                    obtain rfl := Option.some.inj h38
                    exact ⟨⟨rfl, rfl, rfl, rfl, rfl, rfl, trivial⟩, [], rfl, .inl rfl⟩
                  · have h39 := cF hq34 hb
                    refine go_draw hΓ 11 rfl ?_
                    obtain rfl := Option.some.inj h39
                    exact ⟨⟨rfl, rfl, rfl, rfl, rfl, rfl, trivial⟩, [], rfl, .inl rfl⟩
                · refine go hΓ 1 rfl ?_
                  refine j_cond rfl (fun hb => ?_) (fun hb => ?_)
                  · have h40 := cT h35 hb
                    refine go hΓ 8 rfl ?_
                    obtain ⟨v41, hv41, h42⟩ := bi_ok h40
                    obtain rfl := Option.some.inj h42
                    obtain rfl := hout20 _ rfl
                    obtain rfl := Option.some.inj h15
                    refine go hΓ 4 rfl ?_
                    obtain rfl := Option.some.inj hv41
                    exact fin_pure hΓ (.inr rfl) rfl rfl
                  · have h43 := cF h35 hb
                    refine go hΓ 7 rfl ?_
                    obtain rfl := Option.some.inj h43
                    exact ⟨_, rfl, ⟨⟨rfl, rfl, rfl, rfl, get_eq rfl (w64_succ (Nat.lt_of_lt_of_le hlt hb17)), trivial⟩, [_], rfl, .inr ⟨HB.mk rfl, FB.mk rfl, (Nat.le_of_ble_eq_true rfl)⟩⟩⟩
          · subst hgo
            refine go hΓ 6 rfl ?_
            refine j_condF rfl (decide_eq_false (Int.lt_irrefl _)) ?_
            refine go hΓ 4 rfl ?_
            exact ⟨_, rfl, ⟨⟨rfl, trivial⟩, [], rfl, .inl rfl⟩⟩
        · intro a16 ha
          subst ha
          replace h15 := goI_l h15
          refine go hΓ 9 rfl ?_
          refine j_cond rfl (fun hb => ?_) (fun hb => ?_)
          · have h44 := cT h15 hb
            refine go hΓ 7 rfl ?_
            obtain rfl := Option.some.inj h44
            exact fin_pure hΓ (.inr rfl) rfl rfl
          · have h45 := cF h15 hb
            refine go hΓ 10 rfl ?_
            obtain ⟨q49, hq49, h50⟩ := bi_ok h45
            refine j_bound 3 rfl fun hb52 => ?_
            refine j_cutEZ (R := fun a51 => q49 = .go a51) (fun a51 => []) (fun a51 => []) ?_ ?_
            · refine go hΓ 1 rfl ?_
              refine j_range nodes hq49 (fun i46 s47 => [(3, .d (Sl e_api_Node nodes)), (62, .d (Sl e_api_Node nodes)), (63, I (nodes.length : Int)), (64, I (i46 : Int))]) (fun s47 => []) ⟨⟨rfl, rfl, rfl, rfl, trivial⟩, [], rfl, .inl rfl⟩ (fun i46 x48 s47 y56 hx53 hlt hy54 hout55 => ?_) (fun s47 hgo => ?_)
              · refine go hΓ 6 rfl ?_
                refine j_condT rfl (decide_eq_true (Int.ofNat_lt.2 hlt)) ?_
                refine go hΓ 7 rfl ?_
                refine eo_o rfl (op_elemZ hΓ (enc := e_api_Node) (getZ_nat hx53) rfl rfl rfl rfl rfl (fun _ => rfl)) ?_
                refine go_ops hΓ 1 rfl ?_
                refine eo_alloc hΓ rfl rfl rfl (Nat.le_of_ble_eq_true rfl) ?_
                refine go_ops hΓ 1 rfl ?_
                refine eo_store hΓ rfl rfl rfl rfl rfl rfl rfl rfl (Nat.le_of_ble_eq_true rfl) ?_
                refine eo_hp [.box 81 [S x48.Key, S x48.User, S x48.Name, .d (Sl eS x48.Tags), .d (Sl e_api_Addr x48.Addrs), .d (Sl e_api_Prefix x48.Routes)]] rfl ?_
                obtain ⟨y57, hy57, h58⟩ := bi_ok hy54
                refine go_ops hΓ 8 rfl ?_
                refine eo_callP (callable Tryz.func51 rfl rfl) (c_laneref2_Key hy57) rfl (Nat.le_of_ble_eq_true rfl) rfl rfl rfl rfl rfl ?_
                refine go_ops hΓ 4 rfl ?_
                refine j_cond rfl (fun hb => ?_) (fun hb => ?_)
                · have h59 := cT h58 hb
                  refine go hΓ 10 rfl ?_
                  obtain ⟨v60, hv60, h61⟩ := bi_ok h59
                  obtain rfl := Option.some.inj h61
                  obtain rfl := hout55 _ rfl
                  obtain rfl := Option.some.inj h50
                  refine go hΓ 4 rfl ?_
                  obtain rfl := Option.some.inj hv60
                  exact fin_pure hΓ (.inr rfl) rfl rfl
                · have h62 := cF h58 hb
                  obtain ⟨q63, hq63, h64⟩ := bi_ok h62
                  refine go hΓ 1 rfl ?_
                  refine j_cutNZ [(3, .d (Sl e_api_Node nodes)), (13, .ptr 0 0), (62, .d (Sl e_api_Node nodes)), (63, I (nodes.length : Int)), (64, I (i46 : Int)), (74, B q63)] [.box 81 [S x48.Key, S x48.User, S x48.Name, .d (Sl eS x48.Tags), .d (Sl e_api_Addr x48.Addrs), .d (Sl e_api_Prefix x48.Routes)]] ?_ ?_
                  · refine j_draw hmix (by kernel_rfl) ?_
                    refine go hΓ 3 rfl ?_
                    refine gl_gsplit rfl rfl (fun hb => ?_) (fun hb => ?_)
                    · have h65 := cT hq63 hb
                      obtain ⟨x66, hx66, h67⟩ := bi_ok h65
                      refine go_draw hΓ 5 rfl ?_
                      refine gl_og rfl rfl (op_elemZ hΓ (enc := e_api_Node) hx66 rfl rfl rfl rfl rfl (fun _ => rfl)) ?_
                      refine go_draw hΓ 6 rfl ?_
                      obtain rfl := Option.some.inj h67
                      exact ⟨⟨rfl, rfl, rfl, rfl, rfl, rfl, trivial⟩, [], rfl, .inl rfl⟩
                    · have h68 := cF hq63 hb
                      refine go_draw hΓ 12 rfl ?_
                      obtain rfl := Option.some.inj h68
                      exact ⟨⟨rfl, rfl, rfl, rfl, rfl, rfl, trivial⟩, [], rfl, .inl rfl⟩
                  · refine go hΓ 1 rfl ?_
                    refine j_cond rfl (fun hb => ?_) (fun hb => ?_)
                    · have h69 := cT h64 hb
                      refine go hΓ 10 rfl ?_
                      obtain ⟨v70, hv70, h71⟩ := bi_ok h69
                      obtain rfl := Option.some.inj h71
                      obtain rfl := hout55 _ rfl
                      obtain rfl := Option.some.inj h50
                      refine go hΓ 4 rfl ?_
                      obtain rfl := Option.some.inj hv70
                      exact fin_pure hΓ (.inr rfl) rfl rfl
                    · have h72 := cF h64 hb
                      refine go hΓ 9 rfl ?_
                      refine j_cond rfl (fun hb => ?_) (fun hb => ?_)
                      · have h73 := cT h72 hb
                        refine go hΓ 10 rfl ?_
                        obtain ⟨v74, hv74, h75⟩ := bi_ok h73
                        obtain rfl := Option.some.inj h75
                        obtain rfl := hout55 _ rfl
                        obtain rfl := Option.some.inj h50
                        refine go hΓ 4 rfl ?_
                        obtain rfl := Option.some.inj hv74
                        exact fin_pure hΓ (.inr rfl) rfl rfl
                      · have h76 := cF h72 hb
                        refine go hΓ 11 rfl ?_
                        obtain ⟨q80, hq80, h81⟩ := bi_ok h76
                        refine j_bound 94 rfl fun hb83 => ?_
                        refine j_cutEZ (R := fun a82 => q80 = .go a82) (fun a82 => [(3, .d (Sl e_api_Node nodes)), (62, .d (Sl e_api_Node nodes)), (63, I (nodes.length : Int)), (64, I (i46 : Int))]) (fun a82 => [.box 81 [S x48.Key, S x48.User, S x48.Name, .d (Sl eS x48.Tags), .d (Sl e_api_Addr x48.Addrs), .d (Sl e_api_Prefix x48.Routes)]]) ?_ ?_
                        · refine go hΓ 1 rfl ?_
                          refine j_range x48.Addrs hq80 (fun i77 s78 => [(3, .d (Sl e_api_Node nodes)), (62, .d (Sl e_api_Node nodes)), (63, I (nodes.length : Int)), (64, I (i46 : Int)), (94, .d (Sl e_api_Addr x48.Addrs)), (95, I (x48.Addrs.length : Int)), (96, I (i77 : Int))]) (fun s78 => [.box 81 [S x48.Key, S x48.User, S x48.Name, .d (Sl eS x48.Tags), .d (Sl e_api_Addr x48.Addrs), .d (Sl e_api_Prefix x48.Routes)]]) ⟨⟨rfl, rfl, rfl, rfl, rfl, rfl, rfl, trivial⟩, [], rfl, .inl rfl⟩ (fun i77 x79 s78 y87 hx84 hlt hy85 hout86 => ?_) (fun s78 hgo => ?_)
                          · refine go hΓ 6 rfl ?_
                            refine j_condT rfl (decide_eq_true (Int.ofNat_lt.2 hlt)) ?_
                            refine go hΓ 6 rfl ?_
                            refine eo_o rfl (op_elemZ hΓ (enc := e_api_Addr) (getZ_nat hx84) rfl rfl rfl rfl rfl (fun _ => rfl)) ?_
                            refine go_ops hΓ 1 rfl ?_
                            refine eo_alloc hΓ rfl rfl rfl (Nat.le_of_ble_eq_true rfl) ?_
                            refine eo_store hΓ rfl rfl rfl rfl rfl rfl rfl rfl (Nat.le_of_ble_eq_true rfl) ?_
                            refine eo_hp [.box 81 [S x48.Key, S x48.User, S x48.Name, .d (Sl eS x48.Tags), .d (Sl e_api_Addr x48.Addrs), .d (Sl e_api_Prefix x48.Routes)], .box 28 [B x79.Six, U x79.Hi, U x79.Lo]] rfl ?_
                            obtain ⟨y88, hy88, h89⟩ := bi_ok hy85
                            refine go_ops hΓ 5 rfl ?_
                            refine eo_callP (callable Tryz.func7 rfl rfl) (c_laneref2_AddrFault hy88) rfl (Nat.le_of_ble_eq_true rfl) rfl rfl rfl rfl rfl ?_
                            refine go_ops hΓ 9 rfl ?_
                            refine j_cond rfl (fun hb => ?_) (fun hb => ?_)
                            · have h90 := cT h89 hb
                              refine go hΓ 9 rfl ?_
                              obtain ⟨v91, hv91, h92⟩ := bi_ok h90
                              obtain rfl := Option.some.inj h92
                              obtain rfl := hout86 _ rfl
                              obtain rfl := Option.some.inj h81
                              refine go hΓ 5 rfl ?_
                              obtain ⟨v93, hv93, h94⟩ := bi_ok hv91
                              obtain rfl := Option.some.inj h94
                              obtain rfl := hout55 _ rfl
                              obtain rfl := Option.some.inj h50
                              refine go hΓ 4 rfl ?_
                              obtain rfl := Option.some.inj hv93
                              exact fin_pure hΓ (.inr rfl) rfl rfl
                            · have h95 := cF h89 hb
                              refine go hΓ 7 rfl ?_
                              obtain rfl := Option.some.inj h95
                              exact ⟨_, rfl, ⟨⟨rfl, rfl, rfl, rfl, rfl, rfl, get_eq rfl (w64_succ (Nat.lt_of_lt_of_le hlt hb83)), trivial⟩, [_], rfl, .inr ⟨HB.mk rfl, FB.mk rfl, (Nat.le_of_ble_eq_true rfl)⟩⟩⟩
                          · subst hgo
                            refine go hΓ 6 rfl ?_
                            refine j_condF rfl (decide_eq_false (Int.lt_irrefl _)) ?_
                            refine go hΓ 4 rfl ?_
                            exact ⟨_, rfl, ⟨⟨rfl, rfl, rfl, rfl, trivial⟩, [], rfl, .inl rfl⟩⟩
                        · intro a82 ha
                          subst ha
                          replace h81 := goI_l h81
                          refine go hΓ 6 rfl ?_
                          obtain rfl := Option.some.inj h81
                          exact ⟨_, rfl, ⟨⟨rfl, rfl, rfl, get_eq rfl (w64_succ (Nat.lt_of_lt_of_le hlt hb52)), trivial⟩, [_], rfl, .inr ⟨HB.mk rfl, FB.mk rfl, (Nat.le_of_ble_eq_true rfl)⟩⟩⟩
              · subst hgo
                refine go hΓ 6 rfl ?_
                refine j_condF rfl (decide_eq_false (Int.lt_irrefl _)) ?_
                refine go hΓ 4 rfl ?_
                exact ⟨_, rfl, ⟨trivial, [], rfl, .inl rfl⟩⟩
            · intro a51 ha
              subst ha
              replace h50 := goI_l h50
              refine go hΓ 7 rfl ?_
              obtain rfl := Option.some.inj h50
              exact fin_pure hΓ (.inr rfl) rfl rfl
theorem c_slices_Equal_api_Record_api_Record {s1 : List T_api_Record} {s2 : List T_api_Record} {r : Bool} (h : m_slices_Equal_api_Record_api_Record s1 s2 = some r) : Pure Tryz.prog 52 [.d (Sl e_api_Record s1), .d (Sl e_api_Record s2)] (B r) := by
  refine Pure.enter (Fr.of 0 _) Tryz.func52 rfl (Fr.of_ok _) rfl rfl ?_
  refine go_in ?_
  unfold m_slices_Equal_api_Record_api_Record at h
  refine go hΓ 15 rfl ?_
  refine j_cond rfl (fun hb => ?_) (fun hb => ?_)
  · have h1 := cT h hb
    refine go hΓ 7 rfl ?_
    obtain rfl := Option.some.inj h1
    exact fin_pure hΓ (.inr rfl) rfl rfl
  · have h2 := cF h hb
    refine go hΓ 10 rfl ?_
    obtain ⟨q6, hq6, h7⟩ := bi_ok h2
    refine j_bound 0 rfl fun hb9 => ?_
    refine j_cutEZ (R := fun a8 => q6 = .go a8) (fun a8 => []) (fun a8 => []) ?_ ?_
    · refine go hΓ 1 rfl ?_
      refine j_range s1 hq6 (fun i3 s4 => [(0, .d (Sl e_api_Record s1)), (1, .d (Sl e_api_Record s2)), (12, I (s1.length : Int)), (13, I (i3 : Int))]) (fun s4 => []) ⟨⟨rfl, rfl, rfl, rfl, trivial⟩, [], rfl, .inl rfl⟩ (fun i3 x5 s4 y13 hx10 hlt hy11 hout12 => ?_) (fun s4 hgo => ?_)
      · refine go hΓ 6 rfl ?_
        refine j_condT rfl (decide_eq_true (Int.ofNat_lt.2 hlt)) ?_
        refine go hΓ 11 rfl ?_
        refine j_draw hmix (by kernel_rfl) ?_
        refine go hΓ 2 rfl ?_
        refine gl_o rfl (op_elemZ hΓ (enc := e_api_Record) (getZ_nat hx10) rfl rfl rfl rfl rfl (fun _ => rfl)) ?_
        obtain ⟨x14, hx14, h15⟩ := bi_ok hy11
        refine go_draw hΓ 3 rfl ?_
        refine gl_o rfl (op_elemZ hΓ (enc := e_api_Record) hx14 rfl rfl rfl rfl rfl (fun _ => rfl)) ?_
        refine go_draw hΓ 1 rfl ?_
        refine gl_o rfl (op_neS hΓ [94, 28] (b := (((x5.Name : Str) == x14.Name) && (((x5.Kind : Int) == x14.Kind) && ((((x5.Addr.Six : Bool) == x14.Addr.Six) && (((x5.Addr.Hi : Int) == x14.Addr.Hi) && (((x5.Addr.Lo : Int) == x14.Addr.Lo) && true))) && (((x5.To : Str) == x14.To) && (((x5.Words : Str) == x14.Words) && (((x5.Life : Int) == x14.Life) && true))))))) (by kernel_rfl) (by kernel_rfl) rfl rfl rfl) ?_
        refine go_draw hΓ 2 rfl ?_
        refine j_cond rfl (fun hb => ?_) (fun hb => ?_)
        · have h16 := cT h15 hb
          refine go hΓ 8 rfl ?_
          obtain ⟨v17, hv17, h18⟩ := bi_ok h16
          obtain rfl := Option.some.inj h18
          obtain rfl := hout12 _ rfl
          obtain rfl := Option.some.inj h7
          refine go hΓ 4 rfl ?_
          obtain rfl := Option.some.inj hv17
          exact fin_pure hΓ (.inr rfl) rfl rfl
        · have h19 := cF h15 hb
          refine go hΓ 7 rfl ?_
          obtain rfl := Option.some.inj h19
          exact ⟨_, rfl, ⟨⟨rfl, rfl, rfl, get_eq rfl (w64_succ (Nat.lt_of_lt_of_le hlt hb9)), trivial⟩, [], rfl, .inl rfl⟩⟩
      · subst hgo
        refine go hΓ 6 rfl ?_
        refine j_condF rfl (decide_eq_false (Int.lt_irrefl _)) ?_
        refine go hΓ 4 rfl ?_
        exact ⟨_, rfl, ⟨trivial, [], rfl, .inl rfl⟩⟩
    · intro a8 ha
      subst ha
      replace h7 := goI_l h7
      refine go hΓ 7 rfl ?_
      obtain rfl := Option.some.inj h7
      exact fin_pure hΓ (.inr rfl) rfl rfl
theorem c_laneref1_SameZone {a : T_api_Zone} {b : T_api_Zone} {r : Bool} (h : m_laneref1_SameZone a b = some r) : Pure Tryz.prog 22 [.agg [S a.Root, .d (Sl e_api_Record a.Records)], .agg [S b.Root, .d (Sl e_api_Record b.Records)]] (B r) := by
  refine Pure.enter (Fr.of 0 _) Tryz.func22 rfl (Fr.of_ok _) rfl rfl ?_
  refine go_in ?_
  unfold m_laneref1_SameZone at h
  refine go hΓ 2 rfl ?_
  refine eo_box rfl rfl rfl rfl (Nat.le_of_ble_eq_true rfl) ?_
  refine eo_box rfl rfl rfl rfl (Nat.le_of_ble_eq_true rfl) ?_
  refine go_ops hΓ 11 rfl ?_
  obtain ⟨q1, hq1, h2⟩ := bi_ok h
  refine o_cut 6 [(4, B false), (16, B q1)] [.box 52 [S a.Root, .d (Sl e_api_Record a.Records)], .box 52 [S b.Root, .d (Sl e_api_Record b.Records)]] ?_ ?_
  · refine eo_gsplit rfl rfl (fun hb => ?_) (fun hb => ?_)
    · have h3 := cT hq1 hb
      obtain ⟨y4, hy4, h5⟩ := bi_ok h3
      refine go_ops hΓ 4 rfl ?_
      refine eo_guard rfl ?_
      refine eo_callP (callable Tryz.func52 rfl rfl) (c_slices_Equal_api_Record_api_Record hy4) rfl (Nat.le_of_ble_eq_true rfl) rfl rfl rfl rfl rfl ?_
      refine go_ops hΓ 2 rfl ?_
      obtain rfl := Option.some.inj h5
      exact ⟨⟨rfl, rfl, trivial⟩, [], rfl, .inl rfl⟩
    · have h6 := cF hq1 hb
      refine go_ops hΓ 7 rfl ?_
      obtain rfl := Option.some.inj h6
      exact ⟨⟨rfl, rfl, trivial⟩, [], rfl, .inl rfl⟩
  · refine go_ops hΓ 4 rfl ?_
    obtain rfl := Option.some.inj h2
    exact fin_pure hΓ (.inr rfl) rfl rfl
set_option maxHeartbeats 8000000 in
theorem c_name_Label {s : Str} {r : Str} (h : m_name_Label s = some r) : Pure Tryz.prog 35 [S s] (S r) := by
  refine Pure.enter (Fr.of 0 _) Tryz.func35 rfl (Fr.of_ok _) rfl rfl ?_
  refine go_in ?_
  unfold m_name_Label at h
  refine go hΓ 7 rfl ?_
  refine eo_nilOwn (t := 0) 5 1 rfl (Nat.le_of_ble_eq_true rfl) ?_
  refine go_ops hΓ 10 rfl ?_
  obtain ⟨q4, hq4, h5⟩ := bi_ok h
  obtain ⟨hb7, h8⟩ := gd_ok hq4
  replace hb7 := of_decide_eq_true hb7
  refine j_cutNZ [(3, .sl 0 q4.length)] [.row 5 1 q4.length (q4.flatMap (eN .u8))] ?_ ?_
  · refine go hΓ 1 rfl ?_
    refine j_rangeG h8 (fun i1 s2 => [(0, S s), (3, .sl 0 s2.length), (8, I (s.length : Int)), (9, I (i1 : Int))]) (fun s2 => [.row 5 1 s2.length (s2.flatMap (eN .u8))]) ⟨⟨rfl, rfl, rfl, rfl, trivial⟩, [], rfl, .inl rfl⟩ (fun i1 s2 y12 hlt hy10 => ?_) (fun hge => ?_)
    · refine go hΓ 6 rfl ?_
      refine j_condT rfl (decide_eq_true hlt) ?_
      obtain ⟨c13, hc13, h14⟩ := bi_ok hy10
      refine go hΓ 14 rfl ?_
      refine eo_o rfl (op_byteZ hΓ hc13 rfl rfl rfl rfl) ?_
      refine go_ops hΓ 9 rfl ?_
      refine o_cut 3 [(0, S s), (3, .sl 0 s2.length), (5, .d (.v (.int .u8 (c13.toNat : Int)))), (8, I (s.length : Int)), (9, I (i1 : Int)), (20, B ((decide (((c13.toNat : Int) : Int) ≥ 65)) && (decide (((c13.toNat : Int) : Int) ≤ 90))))] [.row 5 1 s2.length (s2.flatMap (eN .u8))] ?_ ?_
      · refine eo_gsplit rfl rfl (fun hb => ?_) (fun hb => ?_)
        · refine go_ops hΓ 4 rfl ?_
          exact ⟨⟨rfl, rfl, rfl, rfl, rfl, get_b rfl (and_t hb), trivial⟩, [], rfl, .inl rfl⟩
        · refine go_ops hΓ 4 rfl ?_
          exact ⟨⟨rfl, rfl, rfl, rfl, rfl, get_b rfl (and_f hb), trivial⟩, [], rfl, .inl rfl⟩
      · obtain ⟨q15, hq15, h16⟩ := bi_ok h14
        refine go_ops hΓ 2 rfl ?_
        refine j_cutNZ [(0, S s), (3, .sl 0 s2.length), (5, .d (.v (.int .u8 q15))), (8, I (s.length : Int)), (9, I (i1 : Int))] [.row 5 1 s2.length (s2.flatMap (eN .u8))] ?_ ?_
        · refine j_cond rfl (fun hb => ?_) (fun hb => ?_)
          · have h17 := cT hq15 hb
            refine go hΓ 5 rfl ?_
            obtain rfl := Option.some.inj h17
            exact ⟨⟨rfl, rfl, rfl, rfl, rfl, trivial⟩, [], rfl, .inl rfl⟩
          · have h18 := cF hq15 hb
            refine go hΓ 1 rfl ?_
            obtain rfl := Option.some.inj h18
            exact ⟨⟨rfl, rfl, rfl, rfl, rfl, trivial⟩, [], rfl, .inl rfl⟩
        · obtain ⟨y19, hy19, h20⟩ := bi_ok h16
          refine go hΓ 5 rfl ?_
          refine eo_callP (callable Tryz.func68 rfl rfl) (c_name_isLetter hy19) rfl (Nat.le_of_ble_eq_true rfl) rfl rfl rfl rfl rfl ?_
          refine go_ops hΓ 3 rfl ?_
          refine j_cond rfl (fun hb => ?_) (fun hb => ?_)
          · have h21 := cT h20 hb
            refine go hΓ 3 rfl ?_
            refine eo_litT hΓ (enc := (eN .u8)) [q15] rfl rfl rfl rfl rfl rfl rfl rfl rfl rfl rfl rfl (Nat.le_of_ble_eq_true rfl) ?_
            obtain ⟨y22, hy22, h23⟩ := bi_ok h21
            refine eo_appendT hΓ (enc := (eN .u8)) hy22 rfl rfl rfl rfl rfl rfl rfl rfl rfl (fun _ => rfl) rfl rfl rfl rfl ?_
            refine go_ops hΓ 9 rfl ?_
            obtain rfl := Option.some.inj h23
            exact ⟨⟨rfl, rfl, rfl, get_eq rfl (w64_succ (by omega)), trivial⟩, [], rfl, .inl rfl⟩
          · have h24 := cF h20 hb
            refine go hΓ 6 rfl ?_
            obtain ⟨q25, hq25, h26⟩ := bi_ok h24
            refine o_cut 8 [(0, S s), (3, .sl 0 s2.length), (8, I (s.length : Int)), (9, I (i1 : Int)), (42, B q25)] [.row 5 1 s2.length (s2.flatMap (eN .u8))] ?_ ?_
            · refine eo_gsplit rfl rfl (fun hb => ?_) (fun hb => ?_)
              · have h27 := cT hq25 hb
                refine go_ops hΓ 9 rfl ?_
                obtain rfl := Option.some.inj h27
                exact ⟨⟨rfl, rfl, rfl, rfl, rfl, trivial⟩, [], rfl, .inl rfl⟩
              · have h28 := cF hq25 hb
                obtain ⟨x29, hx29, h30⟩ := bi_ok h28
                have hj31 := getZ_at hx29
                refine go_ops hΓ 4 rfl ?_
                refine eo_guard rfl ?_
                refine eo_o rfl (op_elemRowZ hΓ hx29 rfl rfl rfl rfl rfl rfl) ?_
                refine eo_guard rfl ?_
                refine eo_o rfl (op_loadRowZ hΓ (enc := (eN .u8)) ((wi ((s2.length : Int) - 1)).toNat) 0 hj31 rfl rfl rfl rfl (fun _ => rfl) (g := .d (.v (.int .u8 x29))) rfl) ?_
                refine go_ops hΓ 3 rfl ?_
                obtain rfl := Option.some.inj h30
                exact ⟨⟨rfl, rfl, rfl, rfl, rfl, trivial⟩, [], rfl, .inl rfl⟩
            · refine go_ops hΓ 3 rfl ?_
              refine j_cond rfl (fun hb => ?_) (fun hb => ?_)
              · have h32 := cT h26 hb
                refine go hΓ 2 rfl ?_
                refine eo_litT hΓ (enc := (eN .u8)) [45] rfl rfl rfl rfl rfl rfl rfl rfl rfl rfl rfl rfl (Nat.le_of_ble_eq_true rfl) ?_
                obtain ⟨y33, hy33, h34⟩ := bi_ok h32
                refine eo_appendT hΓ (enc := (eN .u8)) hy33 rfl rfl rfl rfl rfl rfl rfl rfl rfl (fun _ => rfl) rfl rfl rfl rfl ?_
                refine go_ops hΓ 9 rfl ?_
                obtain rfl := Option.some.inj h34
                exact ⟨⟨rfl, rfl, rfl, get_eq rfl (w64_succ (by omega)), trivial⟩, [], rfl, .inl rfl⟩
              · have h35 := cF h26 hb
                refine go hΓ 8 rfl ?_
                obtain rfl := Option.some.inj h35
                exact ⟨⟨rfl, rfl, rfl, get_eq rfl (w64_succ (by omega)), trivial⟩, [], rfl, .inl rfl⟩
    · refine go hΓ 6 rfl ?_
      refine j_condF rfl (decide_eq_false hge) ?_
      refine go hΓ 4 rfl ?_
      exact ⟨⟨rfl, trivial⟩, [], rfl, .inl rfl⟩
  · obtain ⟨z36, hz36, h37⟩ := bi_ok h5
    refine go hΓ 7 rfl ?_
    refine eo_subRowZ hΓ (enc := (eN .u8)) hz36 rfl rfl rfl rfl rfl rfl rfl rfl (fun _ => rfl) rfl (Nat.le_of_ble_eq_true rfl) ?_
    obtain ⟨y38, hy38, h39⟩ := bi_ok h37
    refine eo_o rfl (op_strRowZ hΓ hy38 rfl rfl rfl rfl rfl rfl rfl rfl rfl) ?_
    obtain ⟨y40, hy40, h41⟩ := bi_ok h39
    refine eo_callP (callable Tryz.func67 rfl rfl) (c_strings_Trim hy40) rfl (Nat.le_of_ble_eq_true rfl) rfl rfl rfl rfl rfl ?_
    refine go_ops hΓ 10 rfl ?_
    refine j_cond rfl (fun hb => ?_) (fun hb => ?_)
    · have h42 := cT h41 hb
      refine go hΓ 7 rfl ?_
      obtain rfl := Option.some.inj h42
      exact fin_pure hΓ (.inr rfl) rfl rfl
    · have h43 := cF h41 hb
      refine go hΓ 9 rfl ?_
      obtain rfl := Option.some.inj h43
      exact fin_pure hΓ (.inr rfl) rfl rfl
theorem c_lanelaw1_named {k : Nat} {r : Bool} (h : m_lanelaw1_named k = some r) : Pure Tryz.prog 14 [] (B r) := by
  refine Pure.enter (Fr.of 0 _) Tryz.func14 rfl (Fr.of_ok _) rfl rfl ?_
  refine go_in ?_
  unfold m_lanelaw1_named at h
  obtain ⟨y1, hy1, h2⟩ := bi_ok h
  refine go hΓ 7 rfl ?_
  refine eo_callP (callable Tryz.func35 rfl rfl) (c_name_Label hy1) rfl (Nat.le_of_ble_eq_true rfl) rfl rfl rfl rfl rfl ?_
  refine go_ops hΓ 2 rfl ?_
  obtain ⟨q3, hq3, h4⟩ := bi_ok h2
  refine o_cut 3 [(0, B false), (6, B q3)] [] ?_ ?_
  · refine eo_gsplit rfl rfl (fun hb => ?_) (fun hb => ?_)
    · have h5 := cT hq3 hb
      obtain ⟨y6, hy6, h7⟩ := bi_ok h5
      refine eo_guard rfl ?_
      refine eo_callP (callable Tryz.func29 rfl rfl) (c_name_CheckDomain hy6) rfl (Nat.le_of_ble_eq_true rfl) rfl rfl rfl rfl rfl ?_
      refine go_ops hΓ 3 rfl ?_
      obtain rfl := Option.some.inj h7
      exact ⟨⟨rfl, rfl, trivial⟩, [], rfl, .inl rfl⟩
    · have h8 := cF hq3 hb
      refine go_ops hΓ 4 rfl ?_
      obtain rfl := Option.some.inj h8
      exact ⟨⟨rfl, rfl, trivial⟩, [], rfl, .inl rfl⟩
  · refine go_ops hΓ 4 rfl ?_
    obtain rfl := Option.some.inj h4
    exact fin_pure hΓ (.inr rfl) rfl rfl
set_option maxHeartbeats 8000000 in
theorem c_laneref1_BackName {k : Nat} {a : T_api_Addr} {r : Str} (h : m_laneref1_BackName k a = some r) : Pure Tryz.prog 8 [.agg [B a.Six, U a.Hi, U a.Lo]] (S r) := by
  refine Pure.enter (Fr.of 0 _) Tryz.func8 rfl (Fr.of_ok _) rfl rfl ?_
  refine go_in ?_
  unfold m_laneref1_BackName at h
  refine go hΓ 2 rfl ?_
  refine eo_box rfl rfl rfl rfl (Nat.le_of_ble_eq_true rfl) ?_
  refine go_ops hΓ 16 rfl ?_
  refine j_cond rfl (fun hb => ?_) (fun hb => ?_)
  · have h1 := cT h hb
    refine go hΓ 6 rfl ?_
    obtain ⟨q5, hq5, h6⟩ := bi_ok h1
    refine j_cutNZ [(3, S q5)] [.box 28 [B a.Six, U a.Hi, U a.Lo]] ?_ ?_
    · refine go hΓ 1 rfl ?_
      refine j_loop hq5 (fun s3 => [(1, .ptr 0 0), (3, S s3.1), (11, I s3.2)]) (fun s3 => [.box 28 [B a.Six, U a.Hi, U a.Lo]]) ⟨⟨rfl, rfl, rfl, trivial⟩, [], rfl, .inl rfl⟩ (fun s3 y11 hy9 hout10 => ?_)
      refine go hΓ 6 rfl ?_
      refine j_cond rfl (fun hb => ?_) (fun hb => ?_)
      · have h12 := cT hy9 hb
        obtain ⟨y13, hy13, h14⟩ := bi_ok h12
        refine go hΓ 16 rfl ?_
        refine eo_o rfl (op_shrZ hy13 rfl rfl) ?_
        obtain ⟨y15, hy15, h16⟩ := bi_ok h14
        refine go_ops hΓ 2 rfl ?_
        refine eo_callP (callable Tryz.func27 rfl rfl) (c_strconv_Itoa hy15) rfl (Nat.le_of_ble_eq_true rfl) rfl rfl rfl rfl rfl ?_
        obtain ⟨y17, hy17, h18⟩ := bi_ok h16
        refine eo_o rfl (op_catZ hy17 rfl rfl) ?_
        obtain ⟨y19, hy19, h20⟩ := bi_ok h18
        refine eo_o rfl (op_catZ hy19 rfl rfl) ?_
        refine go_ops hΓ 8 rfl ?_
        obtain rfl := Option.some.inj h20
        exact ⟨_, rfl, ⟨⟨rfl, rfl, rfl, trivial⟩, [], rfl, .inl rfl⟩⟩
      · have h21 := cF hy9 hb
        refine go hΓ 4 rfl ?_
        obtain rfl := Option.some.inj h21
        obtain rfl := hout10 _ rfl
        exact ⟨⟨rfl, trivial⟩, [], rfl, .inl rfl⟩
    · obtain ⟨y22, hy22, h23⟩ := bi_ok h6
      refine go hΓ 4 rfl ?_
      refine eo_o rfl (op_catZ hy22 rfl rfl) ?_
      refine go_ops hΓ 5 rfl ?_
      obtain rfl := Option.some.inj h23
      exact fin_pure hΓ (.inr rfl) rfl rfl
  · have h24 := cF h hb
    refine go hΓ 9 rfl ?_
    refine eo_litT hΓ (enc := (eN .u64)) [a.Lo, a.Hi] rfl rfl rfl rfl rfl rfl rfl rfl rfl rfl rfl rfl (Nat.le_of_ble_eq_true rfl) ?_
    refine go_ops hΓ 4 rfl ?_
    obtain ⟨q28, hq28, h29⟩ := bi_ok h24
    refine j_bound 32 rfl fun hb31 => ?_
    refine j_cutNZ [(3, S q28)] [.box 28 [B a.Six, U a.Hi, U a.Lo]] ?_ ?_
    · refine go hΓ 1 rfl ?_
      refine j_rangeF [a.Lo, a.Hi] hq28 (fun i25 s26 => [(3, S s26), (32, .d (Sl (eN .u64) [a.Lo, a.Hi])), (33, I ([a.Lo, a.Hi].length : Int)), (34, I (i25 : Int))]) (fun s26 => [.box 28 [B a.Six, U a.Hi, U a.Lo]]) ⟨⟨rfl, rfl, rfl, rfl, trivial⟩, [], rfl, .inl rfl⟩ (fun i25 x27 s26 y35 hx32 hlt hy33 => ?_) (?_)
      · refine go hΓ 6 rfl ?_
        refine j_condT rfl (decide_eq_true (Int.ofNat_lt.2 hlt)) ?_
        refine go hΓ 6 rfl ?_
        refine eo_o rfl (op_elemZ hΓ (enc := (eN .u64)) (getZ_nat hx32) rfl rfl rfl rfl rfl (fun _ => rfl)) ?_
        refine go_ops hΓ 9 rfl ?_
        obtain ⟨q39, hq39, h40⟩ := bi_ok hy33
        refine j_cutNZ [(3, S q39), (32, .d (Sl (eN .u64) [a.Lo, a.Hi])), (33, I ([a.Lo, a.Hi].length : Int)), (34, I (i25 : Int))] [.box 28 [B a.Six, U a.Hi, U a.Lo]] ?_ ?_
        · refine go hΓ 1 rfl ?_
          refine j_loop hq39 (fun s37 => [(3, S s37.1), (6, U x27), (32, .d (Sl (eN .u64) [a.Lo, a.Hi])), (33, I ([a.Lo, a.Hi].length : Int)), (34, I (i25 : Int)), (38, I s37.2)]) (fun s37 => [.box 28 [B a.Six, U a.Hi, U a.Lo]]) ⟨⟨rfl, rfl, rfl, rfl, rfl, rfl, trivial⟩, [], rfl, .inl rfl⟩ (fun s37 y45 hy43 hout44 => ?_)
          refine go hΓ 6 rfl ?_
          refine j_cond rfl (fun hb => ?_) (fun hb => ?_)
          · have h46 := cT hy43 hb
            obtain ⟨y47, hy47, h48⟩ := bi_ok h46
            refine go hΓ 15 rfl ?_
            refine eo_o rfl (op_shrZ hy47 rfl rfl) ?_
            obtain ⟨c49, hc49, h50⟩ := bi_ok h48
            refine go_ops hΓ 1 rfl ?_
            refine eo_o rfl (op_byteZ hΓ hc49 rfl rfl rfl rfl) ?_
            refine eo_o rfl (op_runeS hΓ rfl rfl rfl rfl rfl) ?_
            obtain ⟨y51, hy51, h52⟩ := bi_ok h50
            refine eo_o rfl (op_catZ hy51 rfl rfl) ?_
            obtain ⟨y53, hy53, h54⟩ := bi_ok h52
            refine eo_o rfl (op_catZ hy53 rfl rfl) ?_
            refine go_ops hΓ 8 rfl ?_
            obtain rfl := Option.some.inj h54
            exact ⟨_, rfl, ⟨⟨rfl, rfl, rfl, rfl, rfl, rfl, trivial⟩, [], rfl, .inl rfl⟩⟩
          · have h55 := cF hy43 hb
            refine go hΓ 4 rfl ?_
            obtain rfl := Option.some.inj h55
            obtain rfl := hout44 _ rfl
            exact ⟨⟨rfl, rfl, rfl, rfl, trivial⟩, [], rfl, .inl rfl⟩
        · refine go hΓ 6 rfl ?_
          obtain rfl := Option.some.inj h40
          exact ⟨⟨rfl, rfl, rfl, get_eq rfl (w64_succ (Nat.lt_of_lt_of_le hlt hb31)), trivial⟩, [], rfl, .inl rfl⟩
      · refine go hΓ 6 rfl ?_
        refine j_condF rfl (decide_eq_false (Int.lt_irrefl _)) ?_
        refine go hΓ 4 rfl ?_
        exact ⟨⟨rfl, trivial⟩, [], rfl, .inl rfl⟩
    · obtain ⟨y56, hy56, h57⟩ := bi_ok h29
      refine go hΓ 4 rfl ?_
      refine eo_o rfl (op_catZ hy56 rfl rfl) ?_
      refine go_ops hΓ 4 rfl ?_
      obtain rfl := Option.some.inj h57
      exact fin_pure hΓ (.inr rfl) rfl rfl
theorem c_laneref1_IsUnder {name : Str} {zone : Str} {r : Bool} (h : m_laneref1_IsUnder name zone = some r) : Pure Tryz.prog 53 [S name, S zone] (B r) := by
  refine Pure.enter (Fr.of 0 _) Tryz.func53 rfl (Fr.of_ok _) rfl rfl ?_
  refine go_in ?_
  unfold m_laneref1_IsUnder at h
  refine go hΓ 11 rfl ?_
  obtain ⟨q1, hq1, h2⟩ := bi_ok h
  refine o_cut 5 [(4, B false), (13, B q1)] [] ?_ ?_
  · refine eo_gsplit rfl rfl (fun hb => ?_) (fun hb => ?_)
    · have h3 := cT hq1 hb
      refine go_ops hΓ 6 rfl ?_
      obtain rfl := Option.some.inj h3
      exact ⟨⟨rfl, rfl, trivial⟩, [], rfl, .inl rfl⟩
    · have h4 := cF hq1 hb
      obtain ⟨y5, hy5, h6⟩ := bi_ok h4
      refine go_ops hΓ 2 rfl ?_
      refine eo_guard rfl ?_
      refine eo_o rfl (op_catZ hy5 rfl rfl) ?_
      obtain ⟨y7, hy7, h8⟩ := bi_ok h6
      refine eo_guard rfl ?_
      refine eo_callP (callable Tryz.func76 rfl rfl) (c_strings_HasSuffix hy7) rfl (Nat.le_of_ble_eq_true rfl) rfl rfl rfl rfl rfl ?_
      refine go_ops hΓ 2 rfl ?_
      obtain rfl := Option.some.inj h8
      exact ⟨⟨rfl, rfl, trivial⟩, [], rfl, .inl rfl⟩
  · refine go_ops hΓ 4 rfl ?_
    obtain rfl := Option.some.inj h2
    exact fin_pure hΓ (.inr rfl) rfl rfl
theorem c_laneref1_recordOrder {a : T_api_Record} {b : T_api_Record} {r : Int} (h : m_laneref1_recordOrder a b = some r) : Pure Tryz.prog 55 [.agg [S a.Name, I a.Kind, B a.Addr.Six, U a.Addr.Hi, U a.Addr.Lo, S a.To, S a.Words, I a.Life], .agg [S b.Name, I b.Kind, B b.Addr.Six, U b.Addr.Hi, U b.Addr.Lo, S b.To, S b.Words, I b.Life]] (I r) := by
  refine Pure.enter (Fr.of 0 _) Tryz.func55 rfl (Fr.of_ok _) rfl rfl ?_
  refine go_in ?_
  unfold m_laneref1_recordOrder at h
  refine go hΓ 2 rfl ?_
  refine eo_box rfl rfl rfl rfl (Nat.le_of_ble_eq_true rfl) ?_
  refine eo_box rfl rfl rfl rfl (Nat.le_of_ble_eq_true rfl) ?_
  refine go_ops hΓ 4 rfl ?_
  refine j_draw hmix (by kernel_rfl) ?_
  obtain ⟨y1, hy1, h2⟩ := bi_ok h
  refine go hΓ 4 rfl ?_
  refine gl_callP (callable Tryz.func80 rfl rfl) (c_strings_Compare hy1) rfl rfl rfl rfl rfl rfl ?_
  obtain ⟨y3, hy3, h4⟩ := bi_ok h2
  refine go_draw hΓ 4 rfl ?_
  refine gl_callP (callable Tryz.func81 rfl rfl) (c_cmp_Compare_int hy3) rfl rfl rfl rfl rfl rfl ?_
  obtain ⟨y5, hy5, h6⟩ := bi_ok h4
  refine go_draw hΓ 6 rfl ?_
  refine gl_callP (callable Tryz.func82 rfl rfl) (c_cmp_Compare_uint64 hy5) rfl rfl rfl rfl rfl rfl ?_
  obtain ⟨y7, hy7, h8⟩ := bi_ok h6
  refine go_draw hΓ 6 rfl ?_
  refine gl_callP (callable Tryz.func82 rfl rfl) (c_cmp_Compare_uint64 hy7) rfl rfl rfl rfl rfl rfl ?_
  obtain ⟨y9, hy9, h10⟩ := bi_ok h8
  refine go_draw hΓ 4 rfl ?_
  refine gl_callP (callable Tryz.func80 rfl rfl) (c_strings_Compare hy9) rfl rfl rfl rfl rfl rfl ?_
  obtain ⟨y11, hy11, h12⟩ := bi_ok h10
  refine go_draw hΓ 4 rfl ?_
  refine gl_callP (callable Tryz.func80 rfl rfl) (c_strings_Compare hy11) rfl rfl rfl rfl rfl rfl ?_
  refine gl_litT hΓ (enc := (eN .i64)) [y1, y3, y5, y7, y9, y11] rfl rfl rfl rfl rfl rfl rfl rfl rfl rfl rfl rfl ?_
  obtain ⟨y13, hy13, h14⟩ := bi_ok h12
  refine gl_callP (callable Tryz.func79 rfl rfl) (c_cmp_Or_int hy13) rfl rfl rfl rfl rfl rfl ?_
  refine go_draw hΓ 4 rfl ?_
  obtain rfl := Option.some.inj h14
  exact fin_pure hΓ (.inr rfl) rfl rfl
set_option maxHeartbeats 8000000 in
theorem c_slices_insertionSortCmpFunc_api_Record {k : Nat} {data : List T_api_Record} {a : Int} {b : Int} {r : List T_api_Record} (h : m_slices_insertionSortCmpFunc_api_Record k data a b = some r) : EC Tryz.prog 119 [.sl 0 data.length, I a, I b, .fn (.func 55) [] []] [.row 94 8 data.length (data.flatMap e_api_Record)] fun g hp' => g = .tup [] ∧ hp' = [.row 94 8 r.length (r.flatMap e_api_Record)] := by
  refine ec_enter (Fr.of 0 _) Tryz.func119 rfl (Fr.of_ok _) (Nat.le_of_ble_eq_true rfl) fun _ => ?_
  refine go_in ?_
  unfold m_slices_insertionSortCmpFunc_api_Record at h
  refine go hΓ 7 rfl ?_
  obtain ⟨q4, hq4, h5⟩ := bi_ok h
  refine j_cutNZ [] [.row 94 8 q4.length (q4.flatMap e_api_Record)] ?_ ?_
  · refine go hΓ 1 rfl ?_
    refine j_loop hq4 (fun s2 => [(0, .sl 0 s2.1.length), (1, I a), (2, I b), (3, .fn (.func 55) [] []), (8, I s2.2)]) (fun s2 => [.row 94 8 s2.1.length (s2.1.flatMap e_api_Record)]) ⟨⟨rfl, rfl, rfl, rfl, rfl, trivial⟩, [], rfl, .inl rfl⟩ (fun s2 y10 hy8 hout9 => ?_)
    refine go hΓ 8 rfl ?_
    refine j_cond rfl (fun hb => ?_) (fun hb => ?_)
    · have h11 := cT hy8 hb
      refine go hΓ 10 rfl ?_
      obtain ⟨q15, hq15, h16⟩ := bi_ok h11
      refine j_cutNZ [(0, .sl 0 q15.length), (1, I a), (2, I b), (3, .fn (.func 55) [] []), (8, I s2.2)] [.row 94 8 q15.length (q15.flatMap e_api_Record)] ?_ ?_
      · refine go hΓ 1 rfl ?_
        refine j_loop hq15 (fun s13 => [(0, .sl 0 s13.1.length), (1, I a), (2, I b), (3, .fn (.func 55) [] []), (8, I s2.2), (9, I s13.2)]) (fun s13 => [.row 94 8 s13.1.length (s13.1.flatMap e_api_Record)]) ⟨⟨rfl, rfl, rfl, rfl, rfl, rfl, trivial⟩, [], rfl, .inl rfl⟩ (fun s13 y21 hy19 hout20 => ?_)
        obtain ⟨q22, hq22, h23⟩ := bi_ok hy19
        refine go hΓ 2 rfl ?_
        refine j_cutNZ [(0, .sl 0 s13.1.length), (1, I a), (2, I b), (3, .fn (.func 55) [] []), (8, I s2.2), (9, I s13.2), (34, B q22)] [.row 94 8 s13.1.length (s13.1.flatMap e_api_Record)] ?_ ?_
        · refine j_draw hmix (by kernel_rfl) ?_
          refine go hΓ 4 rfl ?_
          refine gl_gsplit rfl rfl (fun hb => ?_) (fun hb => ?_)
          · have h24 := cT hq22 hb
            obtain ⟨x25, hx25, h26⟩ := bi_ok h24
            have hj27 := getZ_at hx25
            refine go_draw hΓ 3 rfl ?_
            refine gl_og rfl rfl (op_elemRowZ hΓ hx25 rfl rfl rfl rfl rfl rfl) ?_
            refine gl_og rfl rfl (op_loadRowZ hΓ (enc := e_api_Record) s13.2.toNat 0 hj27 rfl rfl rfl rfl (fun _ => rfl) (g := .agg [S x25.Name, I x25.Kind, B x25.Addr.Six, U x25.Addr.Hi, U x25.Addr.Lo, S x25.To, S x25.Words, I x25.Life]) rfl) ?_
            obtain ⟨x28, hx28, h29⟩ := bi_ok h26
            have hj30 := getZ_at hx28
            refine go_draw hΓ 3 rfl ?_
            refine gl_og rfl rfl (op_elemRowZ hΓ hx28 rfl rfl rfl rfl rfl rfl) ?_
            refine gl_og rfl rfl (op_loadRowZ hΓ (enc := e_api_Record) ((wi (s13.2 - 1)).toNat) 0 hj30 rfl rfl rfl rfl (fun _ => rfl) (g := .agg [S x28.Name, I x28.Kind, B x28.Addr.Six, U x28.Addr.Hi, U x28.Addr.Lo, S x28.To, S x28.Words, I x28.Life]) rfl) ?_
            obtain ⟨y31, hy31, h32⟩ := bi_ok h29
            refine gl_callPg (callable Tryz.func55 rfl rfl) (c_laneref1_recordOrder hy31) rfl rfl rfl rfl rfl rfl rfl ?_
            refine go_draw hΓ 3 rfl ?_
            obtain rfl := Option.some.inj h32
            exact ⟨⟨rfl, rfl, rfl, rfl, rfl, rfl, rfl, trivial⟩, [], rfl, .inl rfl⟩
          · have h33 := cF hq22 hb
            refine go_draw hΓ 14 rfl ?_
            obtain rfl := Option.some.inj h33
            exact ⟨⟨rfl, rfl, rfl, rfl, rfl, rfl, rfl, trivial⟩, [], rfl, .inl rfl⟩
        · refine go hΓ 1 rfl ?_
          refine j_cond rfl (fun hb => ?_) (fun hb => ?_)
          · have h34 := cT h23 hb
            refine go hΓ 4 rfl ?_
            refine j_drawE [.row 94 8 s13.1.length (s13.1.flatMap e_api_Record)] [9, 13] [15, 17] [15, 17] hmix (by kernel_rfl) (by kernel_rfl) ⟨rfl, trivial⟩ (Nat.le_of_ble_eq_true rfl) ?_
            obtain ⟨x35, hx35, h36⟩ := bi_ok h34
            have hj37 := getZ_at hx35
            refine go_E hΓ 8 rfl ?_
            refine ge_q rfl (.inl rfl) (fun _ _ => qte_of_qt (qt_p (op_elemRowZ hΓ hx35 rfl rfl rfl rfl rfl rfl))) ?_
            refine ge_p rfl (fun hp hs => op_loadRowZ hΓ (enc := e_api_Record) ((wi (s13.2 - 1)).toNat) 0 hj37 rfl rfl rfl (hs 0 _ rfl rfl) (fun _ => rfl) (g := .agg [S x35.Name, I x35.Kind, B x35.Addr.Six, U x35.Addr.Hi, U x35.Addr.Lo, S x35.To, S x35.Words, I x35.Life]) rfl) rfl ?_
            obtain ⟨x38, hx38, h39⟩ := bi_ok h36
            have hj40 := getZ_at hx38
            refine go_E hΓ 2 rfl ?_
            refine ge_q rfl (.inl rfl) (fun _ _ => qte_of_qt (qt_p (op_elemRowZ hΓ hx38 rfl rfl rfl rfl rfl rfl))) ?_
            refine ge_p rfl (fun hp hs => op_loadRowZ hΓ (enc := e_api_Record) s13.2.toNat 0 hj40 rfl rfl rfl (hs 0 _ rfl rfl) (fun _ => rfl) (g := .agg [S x38.Name, I x38.Kind, B x38.Addr.Six, U x38.Addr.Hi, U x38.Addr.Lo, S x38.To, S x38.Words, I x38.Life]) rfl) rfl ?_
            obtain ⟨x41, hx41, h42⟩ := bi_ok h39
            have hj43 := getZ_at hx41
            refine ge_q rfl (.inl rfl) (fun _ _ => qte_of_qt (qt_p (op_elemRowZ hΓ hx41 rfl rfl rfl rfl rfl rfl))) ?_
            refine ge_h0 [.row 94 8 (s13.1.set s13.2.toNat x35).length ((s13.1.set s13.2.toNat x35).flatMap e_api_Record)] rfl rfl (brk_st rfl) (qte_u (opu_setRowZ hΓ (enc := e_api_Record) (z' := x35) s13.2.toNat (by have := (List.getElem?_eq_some_iff.1 hj43).1; simpa using this) rfl rfl rfl rfl (fun _ => rfl) rfl rfl rfl rfl rfl)) ?_
            obtain ⟨x44, hx44, h45⟩ := bi_ok h42
            have hj46 := getZ_at hx44
            refine ge_q rfl (.inl rfl) (fun _ _ => qte_of_qt (qt_p (op_elemRowZ hΓ hx44 rfl rfl rfl rfl rfl rfl))) ?_
            obtain ⟨x47, hx47, h48⟩ := bi_ok h45
            have hj49 : (s13.1.set s13.2.toNat x35)[(wi (s13.2 - 1)).toNat]? = some x47 := hx47
            refine ge_h0 [.row 94 8 ((s13.1.set s13.2.toNat x35).set ((wi (s13.2 - 1)).toNat) x38).length (((s13.1.set s13.2.toNat x35).set ((wi (s13.2 - 1)).toNat) x38).flatMap e_api_Record)] rfl rfl (brk_st rfl) (qte_u (opu_setRowZ hΓ (enc := e_api_Record) (z' := x38) ((wi (s13.2 - 1)).toNat) (by have := (List.getElem?_eq_some_iff.1 hj49).1; simpa using this) rfl rfl rfl rfl (fun _ => rfl) rfl rfl rfl rfl rfl)) ?_
            refine ge_fin ?_
            refine go hΓ 2 rfl ?_
            refine j_relen 0 (n' := ((s13.1.set s13.2.toNat x35).set ((wi (s13.2 - 1)).toNat) x38).length) rfl (by simp) ?_
            refine j_relen 37 (n' := ((s13.1.set s13.2.toNat x35).set ((wi (s13.2 - 1)).toNat) x38).length) rfl (by simp) ?_
            refine j_relen 39 (n' := ((s13.1.set s13.2.toNat x35).set ((wi (s13.2 - 1)).toNat) x38).length) rfl (by simp) ?_
            refine j_relen 42 (n' := ((s13.1.set s13.2.toNat x35).set ((wi (s13.2 - 1)).toNat) x38).length) rfl (by simp) ?_
            refine j_relen 47 (n' := ((s13.1.set s13.2.toNat x35).set ((wi (s13.2 - 1)).toNat) x38).length) rfl (by simp) ?_
            refine go hΓ 5 rfl ?_
            obtain rfl := Option.some.inj h48
            exact ⟨_, rfl, ⟨⟨rfl, rfl, rfl, rfl, rfl, rfl, trivial⟩, [], rfl, .inl rfl⟩⟩
          · have h50 := cF h23 hb
            refine go hΓ 4 rfl ?_
            obtain rfl := Option.some.inj h50
            obtain rfl := hout20 _ rfl
            exact ⟨⟨rfl, rfl, rfl, rfl, rfl, trivial⟩, [], rfl, .inl rfl⟩
      · refine go hΓ 7 rfl ?_
        obtain rfl := Option.some.inj h16
        exact ⟨_, rfl, ⟨⟨rfl, rfl, rfl, rfl, rfl, trivial⟩, [], rfl, .inl rfl⟩⟩
    · have h51 := cF hy8 hb
      refine go hΓ 4 rfl ?_
      obtain rfl := Option.some.inj h51
      obtain rfl := hout9 _ rfl
      exact ⟨trivial, [], rfl, .inl rfl⟩
  · obtain rfl := Option.some.inj h5
    exact fin_objs hΓ [] (.inl rfl) rfl rfl rfl rfl (.inl rfl)
theorem c_slices_swapRangeCmpFunc_api_Record {k : Nat} {data : List T_api_Record} {a : Int} {b : Int} {n : Int} {r : List T_api_Record} (h : m_slices_swapRangeCmpFunc_api_Record k data a b n = some r) : EC Tryz.prog 184 [.sl 0 data.length, I a, I b, I n, .fn (.func 55) [] []] [.row 94 8 data.length (data.flatMap e_api_Record)] fun g hp' => g = .tup [] ∧ hp' = [.row 94 8 r.length (r.flatMap e_api_Record)] := by
  refine ec_enter (Fr.of 0 _) Tryz.func184 rfl (Fr.of_ok _) (Nat.le_of_ble_eq_true rfl) fun _ => ?_
  refine go_in ?_
  unfold m_slices_swapRangeCmpFunc_api_Record at h
  refine go hΓ 5 rfl ?_
  obtain ⟨q4, hq4, h5⟩ := bi_ok h
  refine j_cutNZ [] [.row 94 8 q4.length (q4.flatMap e_api_Record)] ?_ ?_
  · refine go hΓ 1 rfl ?_
    refine j_loop hq4 (fun s2 => [(0, .sl 0 s2.1.length), (1, I a), (2, I b), (3, I n), (10, I s2.2)]) (fun s2 => [.row 94 8 s2.1.length (s2.1.flatMap e_api_Record)]) ⟨⟨rfl, rfl, rfl, rfl, rfl, trivial⟩, [], rfl, .inl rfl⟩ (fun s2 y10 hy8 hout9 => ?_)
    refine go hΓ 8 rfl ?_
    refine j_cond rfl (fun hb => ?_) (fun hb => ?_)
    · have h11 := cT hy8 hb
      refine go hΓ 4 rfl ?_
      refine j_drawE [.row 94 8 s2.1.length (s2.1.flatMap e_api_Record)] [13, 19] [21, 23] [21, 23] hmix (by kernel_rfl) (by kernel_rfl) ⟨rfl, trivial⟩ (Nat.le_of_ble_eq_true rfl) ?_
      obtain ⟨x12, hx12, h13⟩ := bi_ok h11
      have hj14 := getZ_at hx12
      refine go_E hΓ 12 rfl ?_
      refine ge_q rfl (.inl rfl) (fun _ _ => qte_of_qt (qt_p (op_elemRowZ hΓ hx12 rfl rfl rfl rfl rfl rfl))) ?_
      refine ge_p rfl (fun hp hs => op_loadRowZ hΓ (enc := e_api_Record) ((wi (b + s2.2)).toNat) 0 hj14 rfl rfl rfl (hs 0 _ rfl rfl) (fun _ => rfl) (g := .agg [S x12.Name, I x12.Kind, B x12.Addr.Six, U x12.Addr.Hi, U x12.Addr.Lo, S x12.To, S x12.Words, I x12.Life]) rfl) rfl ?_
      obtain ⟨x15, hx15, h16⟩ := bi_ok h13
      have hj17 := getZ_at hx15
      refine go_E hΓ 4 rfl ?_
      refine ge_q rfl (.inl rfl) (fun _ _ => qte_of_qt (qt_p (op_elemRowZ hΓ hx15 rfl rfl rfl rfl rfl rfl))) ?_
      refine ge_p rfl (fun hp hs => op_loadRowZ hΓ (enc := e_api_Record) ((wi (a + s2.2)).toNat) 0 hj17 rfl rfl rfl (hs 0 _ rfl rfl) (fun _ => rfl) (g := .agg [S x15.Name, I x15.Kind, B x15.Addr.Six, U x15.Addr.Hi, U x15.Addr.Lo, S x15.To, S x15.Words, I x15.Life]) rfl) rfl ?_
      obtain ⟨x18, hx18, h19⟩ := bi_ok h16
      have hj20 := getZ_at hx18
      refine ge_q rfl (.inl rfl) (fun _ _ => qte_of_qt (qt_p (op_elemRowZ hΓ hx18 rfl rfl rfl rfl rfl rfl))) ?_
      refine ge_h0 [.row 94 8 (s2.1.set ((wi (a + s2.2)).toNat) x12).length ((s2.1.set ((wi (a + s2.2)).toNat) x12).flatMap e_api_Record)] rfl rfl (brk_st rfl) (qte_u (opu_setRowZ hΓ (enc := e_api_Record) (z' := x12) ((wi (a + s2.2)).toNat) (by have := (List.getElem?_eq_some_iff.1 hj20).1; simpa using this) rfl rfl rfl rfl (fun _ => rfl) rfl rfl rfl rfl rfl)) ?_
      obtain ⟨x21, hx21, h22⟩ := bi_ok h19
      have hj23 := getZ_at hx21
      refine ge_q rfl (.inl rfl) (fun _ _ => qte_of_qt (qt_p (op_elemRowZ hΓ hx21 rfl rfl rfl rfl rfl rfl))) ?_
      obtain ⟨x24, hx24, h25⟩ := bi_ok h22
      have hj26 : (s2.1.set ((wi (a + s2.2)).toNat) x12)[(wi (b + s2.2)).toNat]? = some x24 := hx24
      refine ge_h0 [.row 94 8 ((s2.1.set ((wi (a + s2.2)).toNat) x12).set ((wi (b + s2.2)).toNat) x15).length (((s2.1.set ((wi (a + s2.2)).toNat) x12).set ((wi (b + s2.2)).toNat) x15).flatMap e_api_Record)] rfl rfl (brk_st rfl) (qte_u (opu_setRowZ hΓ (enc := e_api_Record) (z' := x15) ((wi (b + s2.2)).toNat) (by have := (List.getElem?_eq_some_iff.1 hj26).1; simpa using this) rfl rfl rfl rfl (fun _ => rfl) rfl rfl rfl rfl rfl)) ?_
      refine ge_fin ?_
      refine go hΓ 2 rfl ?_
      refine j_relen 0 (n' := ((s2.1.set ((wi (a + s2.2)).toNat) x12).set ((wi (b + s2.2)).toNat) x15).length) rfl (by simp) ?_
      refine j_relen 16 (n' := ((s2.1.set ((wi (a + s2.2)).toNat) x12).set ((wi (b + s2.2)).toNat) x15).length) rfl (by simp) ?_
      refine j_relen 20 (n' := ((s2.1.set ((wi (a + s2.2)).toNat) x12).set ((wi (b + s2.2)).toNat) x15).length) rfl (by simp) ?_
      refine j_relen 24 (n' := ((s2.1.set ((wi (a + s2.2)).toNat) x12).set ((wi (b + s2.2)).toNat) x15).length) rfl (by simp) ?_
      refine j_relen 30 (n' := ((s2.1.set ((wi (a + s2.2)).toNat) x12).set ((wi (b + s2.2)).toNat) x15).length) rfl (by simp) ?_
      refine go hΓ 5 rfl ?_
      obtain rfl := Option.some.inj h25
      exact ⟨_, rfl, ⟨⟨rfl, rfl, rfl, rfl, rfl, trivial⟩, [], rfl, .inl rfl⟩⟩
    · have h27 := cF hy8 hb
      refine go hΓ 4 rfl ?_
      obtain rfl := Option.some.inj h27
      obtain rfl := hout9 _ rfl
      exact ⟨trivial, [], rfl, .inl rfl⟩
  · obtain rfl := Option.some.inj h5
    exact fin_objs hΓ [] (.inl rfl) rfl rfl rfl rfl (.inl rfl)
theorem c_slices_rotateCmpFunc_api_Record {k : Nat} {data : List T_api_Record} {a : Int} {m : Int} {b : Int} {r : List T_api_Record} (h : m_slices_rotateCmpFunc_api_Record k data a m b = some r) : EC Tryz.prog 169 [.sl 0 data.length, I a, I m, I b, .fn (.func 55) [] []] [.row 94 8 data.length (data.flatMap e_api_Record)] fun g hp' => g = .tup [] ∧ hp' = [.row 94 8 r.length (r.flatMap e_api_Record)] := by
  refine ec_enter (Fr.of 0 _) Tryz.func169 rfl (Fr.of_ok _) (Nat.le_of_ble_eq_true rfl) fun _ => ?_
  refine go_in ?_
  unfold m_slices_rotateCmpFunc_api_Record at h
  refine go hΓ 17 rfl ?_
  obtain ⟨q4, hq4, h5⟩ := bi_ok h
  refine j_cutNZ [(0, .sl 0 q4.1.length), (2, I m), (4, .fn (.func 55) [] []), (10, I q4.2)] [.row 94 8 q4.1.length (q4.1.flatMap e_api_Record)] ?_ ?_
  · refine go hΓ 1 rfl ?_
    refine j_loop hq4 (fun s2 => [(0, .sl 0 s2.1.length), (2, I m), (4, .fn (.func 55) [] []), (10, I s2.2.1), (11, I s2.2.2)]) (fun s2 => [.row 94 8 s2.1.length (s2.1.flatMap e_api_Record)]) ⟨⟨rfl, rfl, rfl, rfl, rfl, trivial⟩, [], rfl, .inl rfl⟩ (fun s2 y10 hy8 hout9 => ?_)
    refine go hΓ 8 rfl ?_
    refine j_cond rfl (fun hb => ?_) (fun hb => ?_)
    · have h11 := cT hy8 hb
      refine go hΓ 10 rfl ?_
      refine j_cond rfl (fun hb => ?_) (fun hb => ?_)
      · have h12 := cT h11 hb
        obtain ⟨y13, hy13, h14⟩ := bi_ok h12
        refine go hΓ 9 rfl ?_
        refine eo_callF [0] (.tup []) [.row 94 8 y13.length (y13.flatMap e_api_Record)] (callable Tryz.func184 rfl rfl) (c_slices_swapRangeCmpFunc_api_Record hy13) rfl (Nat.le_of_ble_eq_true rfl) rfl rfl rfl rfl rfl rfl rfl rfl rfl rfl ?_
        obtain ⟨hg16, h15⟩ := gd_ok h14
        refine eo_relen 0 rfl (of_decide_eq_true hg16).symm ?_
        refine go_ops hΓ 9 rfl ?_
        obtain rfl := Option.some.inj h15
        exact ⟨_, rfl, ⟨⟨rfl, rfl, rfl, rfl, rfl, trivial⟩, [], rfl, .inl rfl⟩⟩
      · have h17 := cF h11 hb
        obtain ⟨y18, hy18, h19⟩ := bi_ok h17
        refine go hΓ 13 rfl ?_
        refine eo_callF [0] (.tup []) [.row 94 8 y18.length (y18.flatMap e_api_Record)] (callable Tryz.func184 rfl rfl) (c_slices_swapRangeCmpFunc_api_Record hy18) rfl (Nat.le_of_ble_eq_true rfl) rfl rfl rfl rfl rfl rfl rfl rfl rfl rfl ?_
        obtain ⟨hg21, h20⟩ := gd_ok h19
        refine eo_relen 0 rfl (of_decide_eq_true hg21).symm ?_
        refine go_ops hΓ 9 rfl ?_
        obtain rfl := Option.some.inj h20
        exact ⟨_, rfl, ⟨⟨rfl, rfl, rfl, rfl, rfl, trivial⟩, [], rfl, .inl rfl⟩⟩
    · have h22 := cF hy8 hb
      refine go hΓ 4 rfl ?_
      obtain rfl := Option.some.inj h22
      obtain rfl := hout9 _ rfl
      exact ⟨⟨rfl, rfl, rfl, rfl, trivial⟩, [], rfl, .inl rfl⟩
  · obtain ⟨y23, hy23, h24⟩ := bi_ok h5
    refine go hΓ 9 rfl ?_
    refine eo_callF [0] (.tup []) [.row 94 8 y23.length (y23.flatMap e_api_Record)] (callable Tryz.func184 rfl rfl) (c_slices_swapRangeCmpFunc_api_Record hy23) rfl (Nat.le_of_ble_eq_true rfl) rfl rfl rfl rfl rfl rfl rfl rfl rfl rfl ?_
    refine go_ops hΓ 1 rfl ?_
    obtain rfl := Option.some.inj h24
    exact fin_objs hΓ [] (.inl rfl) rfl rfl rfl rfl (.inl rfl)
theorem c_slices_symMergeCmpFunc_api_Record {k : Nat} {data : List T_api_Record} {a : Int} {m : Int} {b : Int} {r : List T_api_Record} (h : m_slices_symMergeCmpFunc_api_Record k data a m b = some r) : EC Tryz.prog 136 [.sl 0 data.length, I a, I m, I b, .fn (.func 55) [] []] [.row 94 8 data.length (data.flatMap e_api_Record)] fun g hp' => g = .tup [] ∧ hp' = [.row 94 8 r.length (r.flatMap e_api_Record)] := by
  induction k generalizing data a m b r with
  | zero => unfold m_slices_symMergeCmpFunc_api_Record at h; cases h
  | succ k ih0 =>
    have ih : ∀ {data : List T_api_Record} {a : Int} {m : Int} {b : Int} {r : List T_api_Record}, m_slices_symMergeCmpFunc_api_Record k data a m b = some r → EC Tryz.prog 136 [.sl 0 data.length, I a, I m, I b, .fn (.func 55) [] []] [.row 94 8 data.length (data.flatMap e_api_Record)] fun g hp' => g = .tup [] ∧ hp' = [.row 94 8 r.length (r.flatMap e_api_Record)] := by intro data a m b r h; first | exact ih0 h | exact ih0 _ _ _ _ _ h
    refine ec_enter (Fr.of 0 _) Tryz.func136 rfl (Fr.of_ok _) (Nat.le_of_ble_eq_true rfl) fun _ => ?_
    refine go_in ?_
    unfold m_slices_symMergeCmpFunc_api_Record at h
    refine go hΓ 9 rfl ?_
    refine j_cond rfl (fun hb => ?_) (fun hb => ?_)
    · have h1 := cT h hb
      refine go hΓ 13 rfl ?_
      obtain ⟨q5, hq5, h6⟩ := bi_ok h1
      refine j_cutNZ [(0, .sl 0 data.length), (1, I a), (10, I q5)] [.row 94 8 data.length (data.flatMap e_api_Record)] ?_ ?_
      · refine go hΓ 1 rfl ?_
        refine j_loop hq5 (fun s3 => [(0, .sl 0 data.length), (1, I a), (4, .fn (.func 55) [] []), (10, I s3.1), (11, I s3.2)]) (fun s3 => [.row 94 8 data.length (data.flatMap e_api_Record)]) ⟨⟨rfl, rfl, rfl, rfl, rfl, trivial⟩, [], rfl, .inl rfl⟩ (fun s3 y11 hy9 hout10 => ?_)
        refine go hΓ 8 rfl ?_
        refine j_cond rfl (fun hb => ?_) (fun hb => ?_)
        · have h12 := cT hy9 hb
          refine go hΓ 15 rfl ?_
          refine j_draw hmix (by kernel_rfl) ?_
          obtain ⟨x13, hx13, h14⟩ := bi_ok h12
          have hj15 := getZ_at hx13
          refine go hΓ 3 rfl ?_
          refine gl_o rfl (op_elemRowZ hΓ hx13 rfl rfl rfl rfl rfl rfl) ?_
          refine gl_o rfl (op_loadRowZ hΓ (enc := e_api_Record) ((wi (shrV .u64 (IntKind.u64.wrap (wi (s3.1 + s3.2))) 1)).toNat) 0 hj15 rfl rfl rfl rfl (fun _ => rfl) (g := .agg [S x13.Name, I x13.Kind, B x13.Addr.Six, U x13.Addr.Hi, U x13.Addr.Lo, S x13.To, S x13.Words, I x13.Life]) rfl) ?_
          obtain ⟨x16, hx16, h17⟩ := bi_ok h14
          have hj18 := getZ_at hx16
          refine go_draw hΓ 2 rfl ?_
          refine gl_o rfl (op_elemRowZ hΓ hx16 rfl rfl rfl rfl rfl rfl) ?_
          refine gl_o rfl (op_loadRowZ hΓ (enc := e_api_Record) a.toNat 0 hj18 rfl rfl rfl rfl (fun _ => rfl) (g := .agg [S x16.Name, I x16.Kind, B x16.Addr.Six, U x16.Addr.Hi, U x16.Addr.Lo, S x16.To, S x16.Words, I x16.Life]) rfl) ?_
          obtain ⟨y19, hy19, h20⟩ := bi_ok h17
          refine gl_callP (callable Tryz.func55 rfl rfl) (c_laneref1_recordOrder hy19) rfl rfl rfl rfl rfl rfl ?_
          refine go_draw hΓ 3 rfl ?_
          refine j_cond rfl (fun hb => ?_) (fun hb => ?_)
          · have h21 := cT h20 hb
            refine go hΓ 6 rfl ?_
            obtain rfl := Option.some.inj h21
            exact ⟨_, rfl, ⟨⟨rfl, rfl, rfl, rfl, rfl, trivial⟩, [], rfl, .inl rfl⟩⟩
          · have h22 := cF h20 hb
            refine go hΓ 5 rfl ?_
            obtain rfl := Option.some.inj h22
            exact ⟨_, rfl, ⟨⟨rfl, rfl, rfl, rfl, rfl, trivial⟩, [], rfl, .inl rfl⟩⟩
        · have h23 := cF hy9 hb
          refine go hΓ 4 rfl ?_
          obtain rfl := Option.some.inj h23
          obtain rfl := hout10 _ rfl
          exact ⟨⟨rfl, rfl, rfl, trivial⟩, [], rfl, .inl rfl⟩
      · refine go hΓ 8 rfl ?_
        obtain ⟨q27, hq27, h28⟩ := bi_ok h6
        refine j_cutNZ [] [.row 94 8 q27.length (q27.flatMap e_api_Record)] ?_ ?_
        · refine go hΓ 1 rfl ?_
          refine j_loop hq27 (fun s25 => [(0, .sl 0 s25.1.length), (10, I q5), (13, I s25.2)]) (fun s25 => [.row 94 8 s25.1.length (s25.1.flatMap e_api_Record)]) ⟨⟨rfl, rfl, rfl, trivial⟩, [], rfl, .inl rfl⟩ (fun s25 y33 hy31 hout32 => ?_)
          refine go hΓ 9 rfl ?_
          refine j_cond rfl (fun hb => ?_) (fun hb => ?_)
          · have h34 := cT hy31 hb
            refine go hΓ 4 rfl ?_
            refine j_drawE [.row 94 8 s25.1.length (s25.1.flatMap e_api_Record)] [9, 13] [15, 17] [15, 17] hmix (by kernel_rfl) (by kernel_rfl) ⟨rfl, trivial⟩ (Nat.le_of_ble_eq_true rfl) ?_
            obtain ⟨x35, hx35, h36⟩ := bi_ok h34
            have hj37 := getZ_at hx35
            refine go_E hΓ 8 rfl ?_
            refine ge_q rfl (.inl rfl) (fun _ _ => qte_of_qt (qt_p (op_elemRowZ hΓ hx35 rfl rfl rfl rfl rfl rfl))) ?_
            refine ge_p rfl (fun hp hs => op_loadRowZ hΓ (enc := e_api_Record) ((wi (s25.2 + 1)).toNat) 0 hj37 rfl rfl rfl (hs 0 _ rfl rfl) (fun _ => rfl) (g := .agg [S x35.Name, I x35.Kind, B x35.Addr.Six, U x35.Addr.Hi, U x35.Addr.Lo, S x35.To, S x35.Words, I x35.Life]) rfl) rfl ?_
            obtain ⟨x38, hx38, h39⟩ := bi_ok h36
            have hj40 := getZ_at hx38
            refine go_E hΓ 2 rfl ?_
            refine ge_q rfl (.inl rfl) (fun _ _ => qte_of_qt (qt_p (op_elemRowZ hΓ hx38 rfl rfl rfl rfl rfl rfl))) ?_
            refine ge_p rfl (fun hp hs => op_loadRowZ hΓ (enc := e_api_Record) s25.2.toNat 0 hj40 rfl rfl rfl (hs 0 _ rfl rfl) (fun _ => rfl) (g := .agg [S x38.Name, I x38.Kind, B x38.Addr.Six, U x38.Addr.Hi, U x38.Addr.Lo, S x38.To, S x38.Words, I x38.Life]) rfl) rfl ?_
            obtain ⟨x41, hx41, h42⟩ := bi_ok h39
            have hj43 := getZ_at hx41
            refine ge_q rfl (.inl rfl) (fun _ _ => qte_of_qt (qt_p (op_elemRowZ hΓ hx41 rfl rfl rfl rfl rfl rfl))) ?_
            refine ge_h0 [.row 94 8 (s25.1.set s25.2.toNat x35).length ((s25.1.set s25.2.toNat x35).flatMap e_api_Record)] rfl rfl (brk_st rfl) (qte_u (opu_setRowZ hΓ (enc := e_api_Record) (z' := x35) s25.2.toNat (by have := (List.getElem?_eq_some_iff.1 hj43).1; simpa using this) rfl rfl rfl rfl (fun _ => rfl) rfl rfl rfl rfl rfl)) ?_
            obtain ⟨x44, hx44, h45⟩ := bi_ok h42
            have hj46 := getZ_at hx44
            refine ge_q rfl (.inl rfl) (fun _ _ => qte_of_qt (qt_p (op_elemRowZ hΓ hx44 rfl rfl rfl rfl rfl rfl))) ?_
            obtain ⟨x47, hx47, h48⟩ := bi_ok h45
            have hj49 : (s25.1.set s25.2.toNat x35)[(wi (s25.2 + 1)).toNat]? = some x47 := hx47
            refine ge_h0 [.row 94 8 ((s25.1.set s25.2.toNat x35).set ((wi (s25.2 + 1)).toNat) x38).length (((s25.1.set s25.2.toNat x35).set ((wi (s25.2 + 1)).toNat) x38).flatMap e_api_Record)] rfl rfl (brk_st rfl) (qte_u (opu_setRowZ hΓ (enc := e_api_Record) (z' := x38) ((wi (s25.2 + 1)).toNat) (by have := (List.getElem?_eq_some_iff.1 hj49).1; simpa using this) rfl rfl rfl rfl (fun _ => rfl) rfl rfl rfl rfl rfl)) ?_
            refine ge_fin ?_
            refine go hΓ 2 rfl ?_
            refine j_relen 0 (n' := ((s25.1.set s25.2.toNat x35).set ((wi (s25.2 + 1)).toNat) x38).length) rfl (by simp) ?_
            refine j_relen 61 (n' := ((s25.1.set s25.2.toNat x35).set ((wi (s25.2 + 1)).toNat) x38).length) rfl (by simp) ?_
            refine j_relen 63 (n' := ((s25.1.set s25.2.toNat x35).set ((wi (s25.2 + 1)).toNat) x38).length) rfl (by simp) ?_
            refine j_relen 66 (n' := ((s25.1.set s25.2.toNat x35).set ((wi (s25.2 + 1)).toNat) x38).length) rfl (by simp) ?_
            refine j_relen 71 (n' := ((s25.1.set s25.2.toNat x35).set ((wi (s25.2 + 1)).toNat) x38).length) rfl (by simp) ?_
            refine go hΓ 5 rfl ?_
            obtain rfl := Option.some.inj h48
            exact ⟨_, rfl, ⟨⟨rfl, rfl, rfl, trivial⟩, [], rfl, .inl rfl⟩⟩
          · have h50 := cF hy31 hb
            refine go hΓ 4 rfl ?_
            obtain rfl := Option.some.inj h50
            obtain rfl := hout32 _ rfl
            exact ⟨trivial, [], rfl, .inl rfl⟩
        · refine go hΓ 3 rfl ?_
          obtain rfl := Option.some.inj h28
          exact fin_objs hΓ [] (.inr rfl) rfl rfl rfl rfl (.inl rfl)
    · have h51 := cF h hb
      refine go hΓ 11 rfl ?_
      refine j_cond rfl (fun hb => ?_) (fun hb => ?_)
      · have h52 := cT h51 hb
        refine go hΓ 13 rfl ?_
        obtain ⟨q56, hq56, h57⟩ := bi_ok h52
        refine j_cutNZ [(0, .sl 0 data.length), (2, I m), (14, I q56)] [.row 94 8 data.length (data.flatMap e_api_Record)] ?_ ?_
        · refine go hΓ 1 rfl ?_
          refine j_loop hq56 (fun s54 => [(0, .sl 0 data.length), (2, I m), (4, .fn (.func 55) [] []), (14, I s54.1), (15, I s54.2)]) (fun s54 => [.row 94 8 data.length (data.flatMap e_api_Record)]) ⟨⟨rfl, rfl, rfl, rfl, rfl, trivial⟩, [], rfl, .inl rfl⟩ (fun s54 y62 hy60 hout61 => ?_)
          refine go hΓ 8 rfl ?_
          refine j_cond rfl (fun hb => ?_) (fun hb => ?_)
          · have h63 := cT hy60 hb
            refine go hΓ 15 rfl ?_
            refine j_draw hmix (by kernel_rfl) ?_
            obtain ⟨x64, hx64, h65⟩ := bi_ok h63
            have hj66 := getZ_at hx64
            refine go hΓ 3 rfl ?_
            refine gl_o rfl (op_elemRowZ hΓ hx64 rfl rfl rfl rfl rfl rfl) ?_
            refine gl_o rfl (op_loadRowZ hΓ (enc := e_api_Record) m.toNat 0 hj66 rfl rfl rfl rfl (fun _ => rfl) (g := .agg [S x64.Name, I x64.Kind, B x64.Addr.Six, U x64.Addr.Hi, U x64.Addr.Lo, S x64.To, S x64.Words, I x64.Life]) rfl) ?_
            obtain ⟨x67, hx67, h68⟩ := bi_ok h65
            have hj69 := getZ_at hx67
            refine go_draw hΓ 2 rfl ?_
            refine gl_o rfl (op_elemRowZ hΓ hx67 rfl rfl rfl rfl rfl rfl) ?_
            refine gl_o rfl (op_loadRowZ hΓ (enc := e_api_Record) ((wi (shrV .u64 (IntKind.u64.wrap (wi (s54.1 + s54.2))) 1)).toNat) 0 hj69 rfl rfl rfl rfl (fun _ => rfl) (g := .agg [S x67.Name, I x67.Kind, B x67.Addr.Six, U x67.Addr.Hi, U x67.Addr.Lo, S x67.To, S x67.Words, I x67.Life]) rfl) ?_
            obtain ⟨y70, hy70, h71⟩ := bi_ok h68
            refine gl_callP (callable Tryz.func55 rfl rfl) (c_laneref1_recordOrder hy70) rfl rfl rfl rfl rfl rfl ?_
            refine go_draw hΓ 4 rfl ?_
            refine j_cond rfl (fun hb => ?_) (fun hb => ?_)
            · have h72 := cT h71 hb
              refine go hΓ 6 rfl ?_
              obtain rfl := Option.some.inj h72
              exact ⟨_, rfl, ⟨⟨rfl, rfl, rfl, rfl, rfl, trivial⟩, [], rfl, .inl rfl⟩⟩
            · have h73 := cF h71 hb
              refine go hΓ 5 rfl ?_
              obtain rfl := Option.some.inj h73
              exact ⟨_, rfl, ⟨⟨rfl, rfl, rfl, rfl, rfl, trivial⟩, [], rfl, .inl rfl⟩⟩
          · have h74 := cF hy60 hb
            refine go hΓ 4 rfl ?_
            obtain rfl := Option.some.inj h74
            obtain rfl := hout61 _ rfl
            exact ⟨⟨rfl, rfl, rfl, trivial⟩, [], rfl, .inl rfl⟩
        · refine go hΓ 8 rfl ?_
          obtain ⟨q78, hq78, h79⟩ := bi_ok h57
          refine j_cutNZ [] [.row 94 8 q78.length (q78.flatMap e_api_Record)] ?_ ?_
          · refine go hΓ 1 rfl ?_
            refine j_loop hq78 (fun s76 => [(0, .sl 0 s76.1.length), (14, I q56), (17, I s76.2)]) (fun s76 => [.row 94 8 s76.1.length (s76.1.flatMap e_api_Record)]) ⟨⟨rfl, rfl, rfl, trivial⟩, [], rfl, .inl rfl⟩ (fun s76 y84 hy82 hout83 => ?_)
            refine go hΓ 8 rfl ?_
            refine j_cond rfl (fun hb => ?_) (fun hb => ?_)
            · have h85 := cT hy82 hb
              refine go hΓ 4 rfl ?_
              refine j_drawE [.row 94 8 s76.1.length (s76.1.flatMap e_api_Record)] [9, 13] [15, 17] [15, 17] hmix (by kernel_rfl) (by kernel_rfl) ⟨rfl, trivial⟩ (Nat.le_of_ble_eq_true rfl) ?_
              obtain ⟨x86, hx86, h87⟩ := bi_ok h85
              have hj88 := getZ_at hx86
              refine go_E hΓ 8 rfl ?_
              refine ge_q rfl (.inl rfl) (fun _ _ => qte_of_qt (qt_p (op_elemRowZ hΓ hx86 rfl rfl rfl rfl rfl rfl))) ?_
              refine ge_p rfl (fun hp hs => op_loadRowZ hΓ (enc := e_api_Record) ((wi (s76.2 - 1)).toNat) 0 hj88 rfl rfl rfl (hs 0 _ rfl rfl) (fun _ => rfl) (g := .agg [S x86.Name, I x86.Kind, B x86.Addr.Six, U x86.Addr.Hi, U x86.Addr.Lo, S x86.To, S x86.Words, I x86.Life]) rfl) rfl ?_
              obtain ⟨x89, hx89, h90⟩ := bi_ok h87
              have hj91 := getZ_at hx89
              refine go_E hΓ 2 rfl ?_
              refine ge_q rfl (.inl rfl) (fun _ _ => qte_of_qt (qt_p (op_elemRowZ hΓ hx89 rfl rfl rfl rfl rfl rfl))) ?_
              refine ge_p rfl (fun hp hs => op_loadRowZ hΓ (enc := e_api_Record) s76.2.toNat 0 hj91 rfl rfl rfl (hs 0 _ rfl rfl) (fun _ => rfl) (g := .agg [S x89.Name, I x89.Kind, B x89.Addr.Six, U x89.Addr.Hi, U x89.Addr.Lo, S x89.To, S x89.Words, I x89.Life]) rfl) rfl ?_
              obtain ⟨x92, hx92, h93⟩ := bi_ok h90
              have hj94 := getZ_at hx92
              refine ge_q rfl (.inl rfl) (fun _ _ => qte_of_qt (qt_p (op_elemRowZ hΓ hx92 rfl rfl rfl rfl rfl rfl))) ?_
              refine ge_h0 [.row 94 8 (s76.1.set s76.2.toNat x86).length ((s76.1.set s76.2.toNat x86).flatMap e_api_Record)] rfl rfl (brk_st rfl) (qte_u (opu_setRowZ hΓ (enc := e_api_Record) (z' := x86) s76.2.toNat (by have := (List.getElem?_eq_some_iff.1 hj94).1; simpa using this) rfl rfl rfl rfl (fun _ => rfl) rfl rfl rfl rfl rfl)) ?_
              obtain ⟨x95, hx95, h96⟩ := bi_ok h93
              have hj97 := getZ_at hx95
              refine ge_q rfl (.inl rfl) (fun _ _ => qte_of_qt (qt_p (op_elemRowZ hΓ hx95 rfl rfl rfl rfl rfl rfl))) ?_
              obtain ⟨x98, hx98, h99⟩ := bi_ok h96
              have hj100 : (s76.1.set s76.2.toNat x86)[(wi (s76.2 - 1)).toNat]? = some x98 := hx98
              refine ge_h0 [.row 94 8 ((s76.1.set s76.2.toNat x86).set ((wi (s76.2 - 1)).toNat) x89).length (((s76.1.set s76.2.toNat x86).set ((wi (s76.2 - 1)).toNat) x89).flatMap e_api_Record)] rfl rfl (brk_st rfl) (qte_u (opu_setRowZ hΓ (enc := e_api_Record) (z' := x89) ((wi (s76.2 - 1)).toNat) (by have := (List.getElem?_eq_some_iff.1 hj100).1; simpa using this) rfl rfl rfl rfl (fun _ => rfl) rfl rfl rfl rfl rfl)) ?_
              refine ge_fin ?_
              refine go hΓ 2 rfl ?_
              refine j_relen 0 (n' := ((s76.1.set s76.2.toNat x86).set ((wi (s76.2 - 1)).toNat) x89).length) rfl (by simp) ?_
              refine j_relen 113 (n' := ((s76.1.set s76.2.toNat x86).set ((wi (s76.2 - 1)).toNat) x89).length) rfl (by simp) ?_
              refine j_relen 115 (n' := ((s76.1.set s76.2.toNat x86).set ((wi (s76.2 - 1)).toNat) x89).length) rfl (by simp) ?_
              refine j_relen 118 (n' := ((s76.1.set s76.2.toNat x86).set ((wi (s76.2 - 1)).toNat) x89).length) rfl (by simp) ?_
              refine j_relen 123 (n' := ((s76.1.set s76.2.toNat x86).set ((wi (s76.2 - 1)).toNat) x89).length) rfl (by simp) ?_
              refine go hΓ 5 rfl ?_
              obtain rfl := Option.some.inj h99
              exact ⟨_, rfl, ⟨⟨rfl, rfl, rfl, trivial⟩, [], rfl, .inl rfl⟩⟩
            · have h101 := cF hy82 hb
              refine go hΓ 4 rfl ?_
              obtain rfl := Option.some.inj h101
              obtain rfl := hout83 _ rfl
              exact ⟨trivial, [], rfl, .inl rfl⟩
          · refine go hΓ 3 rfl ?_
            obtain rfl := Option.some.inj h79
            exact fin_objs hΓ [] (.inr rfl) rfl rfl rfl rfl (.inl rfl)
      · have h102 := cF h51 hb
        obtain ⟨q103, hq103, h104⟩ := bi_ok h102
        refine go hΓ 35 rfl ?_
        refine j_cutNZ [(0, .sl 0 data.length), (1, I a), (2, I m), (3, I b), (4, .fn (.func 55) [] []), (18, I (wi (shrV .u64 (IntKind.u64.wrap (wi (a + b))) 1))), (19, I (wi ((wi (shrV .u64 (IntKind.u64.wrap (wi (a + b))) 1)) + m))), (20, I q103.1), (21, I q103.2)] [.row 94 8 data.length (data.flatMap e_api_Record)] ?_ ?_
        · refine j_cond rfl (fun hb => ?_) (fun hb => ?_)
          · have h105 := cT hq103 hb
            refine go hΓ 12 rfl ?_
            obtain rfl := Option.some.inj h105
            exact ⟨⟨rfl, rfl, rfl, rfl, rfl, rfl, rfl, rfl, rfl, trivial⟩, [], rfl, .inl rfl⟩
          · have h106 := cF hq103 hb
            refine go hΓ 10 rfl ?_
            obtain rfl := Option.some.inj h106
            exact ⟨⟨rfl, rfl, rfl, rfl, rfl, rfl, rfl, rfl, rfl, trivial⟩, [], rfl, .inl rfl⟩
        · refine go hΓ 9 rfl ?_
          obtain ⟨q110, hq110, h111⟩ := bi_ok h104
          refine j_cutNZ [(0, .sl 0 data.length), (1, I a), (2, I m), (3, I b), (4, .fn (.func 55) [] []), (18, I (wi (shrV .u64 (IntKind.u64.wrap (wi (a + b))) 1))), (19, I (wi ((wi (shrV .u64 (IntKind.u64.wrap (wi (a + b))) 1)) + m))), (20, I q110)] [.row 94 8 data.length (data.flatMap e_api_Record)] ?_ ?_
          · refine go hΓ 1 rfl ?_
            refine j_loop hq110 (fun s108 => [(0, .sl 0 data.length), (1, I a), (2, I m), (3, I b), (4, .fn (.func 55) [] []), (18, I (wi (shrV .u64 (IntKind.u64.wrap (wi (a + b))) 1))), (19, I (wi ((wi (shrV .u64 (IntKind.u64.wrap (wi (a + b))) 1)) + m))), (20, I s108.1), (21, I s108.2), (22, I (wi ((wi ((wi (shrV .u64 (IntKind.u64.wrap (wi (a + b))) 1)) + m)) - 1)))]) (fun s108 => [.row 94 8 data.length (data.flatMap e_api_Record)]) ⟨⟨rfl, rfl, rfl, rfl, rfl, rfl, rfl, rfl, rfl, rfl, trivial⟩, [], rfl, .inl rfl⟩ (fun s108 y116 hy114 hout115 => ?_)
            refine go hΓ 8 rfl ?_
            refine j_cond rfl (fun hb => ?_) (fun hb => ?_)
            · have h117 := cT hy114 hb
              refine go hΓ 15 rfl ?_
              refine j_draw hmix (by kernel_rfl) ?_
              obtain ⟨x118, hx118, h119⟩ := bi_ok h117
              have hj120 := getZ_at hx118
              refine go hΓ 5 rfl ?_
              refine gl_o rfl (op_elemRowZ hΓ hx118 rfl rfl rfl rfl rfl rfl) ?_
              refine gl_o rfl (op_loadRowZ hΓ (enc := e_api_Record) ((wi ((wi ((wi ((wi (shrV .u64 (IntKind.u64.wrap (wi (a + b))) 1)) + m)) - 1)) - (wi (shrV .u64 (IntKind.u64.wrap (wi (s108.1 + s108.2))) 1)))).toNat) 0 hj120 rfl rfl rfl rfl (fun _ => rfl) (g := .agg [S x118.Name, I x118.Kind, B x118.Addr.Six, U x118.Addr.Hi, U x118.Addr.Lo, S x118.To, S x118.Words, I x118.Life]) rfl) ?_
              obtain ⟨x121, hx121, h122⟩ := bi_ok h119
              have hj123 := getZ_at hx121
              refine go_draw hΓ 2 rfl ?_
              refine gl_o rfl (op_elemRowZ hΓ hx121 rfl rfl rfl rfl rfl rfl) ?_
              refine gl_o rfl (op_loadRowZ hΓ (enc := e_api_Record) ((wi (shrV .u64 (IntKind.u64.wrap (wi (s108.1 + s108.2))) 1)).toNat) 0 hj123 rfl rfl rfl rfl (fun _ => rfl) (g := .agg [S x121.Name, I x121.Kind, B x121.Addr.Six, U x121.Addr.Hi, U x121.Addr.Lo, S x121.To, S x121.Words, I x121.Life]) rfl) ?_
              obtain ⟨y124, hy124, h125⟩ := bi_ok h122
              refine gl_callP (callable Tryz.func55 rfl rfl) (c_laneref1_recordOrder hy124) rfl rfl rfl rfl rfl rfl ?_
              refine go_draw hΓ 4 rfl ?_
              refine j_cond rfl (fun hb => ?_) (fun hb => ?_)
              · have h126 := cT h125 hb
                refine go hΓ 6 rfl ?_
                obtain rfl := Option.some.inj h126
                exact ⟨_, rfl, ⟨⟨rfl, rfl, rfl, rfl, rfl, rfl, rfl, rfl, rfl, rfl, trivial⟩, [], rfl, .inl rfl⟩⟩
              · have h127 := cF h125 hb
                refine go hΓ 5 rfl ?_
                obtain rfl := Option.some.inj h127
                exact ⟨_, rfl, ⟨⟨rfl, rfl, rfl, rfl, rfl, rfl, rfl, rfl, rfl, rfl, trivial⟩, [], rfl, .inl rfl⟩⟩
            · have h128 := cF hy114 hb
              refine go hΓ 4 rfl ?_
              obtain rfl := Option.some.inj h128
              obtain rfl := hout115 _ rfl
              exact ⟨⟨rfl, rfl, rfl, rfl, rfl, rfl, rfl, rfl, trivial⟩, [], rfl, .inl rfl⟩
          · refine go hΓ 16 rfl ?_
            refine o_cut 4 [(0, .sl 0 data.length), (1, I a), (2, I m), (3, I b), (4, .fn (.func 55) [] []), (18, I (wi (shrV .u64 (IntKind.u64.wrap (wi (a + b))) 1))), (20, I q110), (24, I (wi ((wi ((wi (shrV .u64 (IntKind.u64.wrap (wi (a + b))) 1)) + m)) - q110))), (185, B ((decide ((q110 : Int) < m)) && (decide ((m : Int) < (wi ((wi ((wi (shrV .u64 (IntKind.u64.wrap (wi (a + b))) 1)) + m)) - q110))))))] [.row 94 8 data.length (data.flatMap e_api_Record)] ?_ ?_
            · refine eo_gsplit rfl rfl (fun hb => ?_) (fun hb => ?_)
              · refine go_ops hΓ 5 rfl ?_
                exact ⟨⟨rfl, rfl, rfl, rfl, rfl, rfl, rfl, rfl, get_b rfl (and_t hb), trivial⟩, [], rfl, .inl rfl⟩
              · refine go_ops hΓ 5 rfl ?_
                exact ⟨⟨rfl, rfl, rfl, rfl, rfl, rfl, rfl, rfl, get_b rfl (and_f hb), trivial⟩, [], rfl, .inl rfl⟩
            · obtain ⟨q129, hq129, h130⟩ := bi_ok h111
              refine go_ops hΓ 2 rfl ?_
              refine j_cutNZ [(0, .sl 0 q129.length), (1, I a), (3, I b), (4, .fn (.func 55) [] []), (18, I (wi (shrV .u64 (IntKind.u64.wrap (wi (a + b))) 1))), (20, I q110), (24, I (wi ((wi ((wi (shrV .u64 (IntKind.u64.wrap (wi (a + b))) 1)) + m)) - q110)))] [.row 94 8 q129.length (q129.flatMap e_api_Record)] ?_ ?_
              · refine j_cond rfl (fun hb => ?_) (fun hb => ?_)
                · have h131 := cT hq129 hb
                  obtain ⟨y132, hy132, h133⟩ := bi_ok h131
                  refine go hΓ 6 rfl ?_
                  refine eo_callF [0] (.tup []) [.row 94 8 y132.length (y132.flatMap e_api_Record)] (callable Tryz.func169 rfl rfl) (c_slices_rotateCmpFunc_api_Record hy132) rfl (Nat.le_of_ble_eq_true rfl) rfl rfl rfl rfl rfl rfl rfl rfl rfl rfl ?_
                  obtain ⟨hg135, h134⟩ := gd_ok h133
                  refine eo_relen 0 rfl (of_decide_eq_true hg135).symm ?_
                  refine go_ops hΓ 1 rfl ?_
                  obtain rfl := Option.some.inj h134
                  exact ⟨⟨rfl, rfl, rfl, rfl, rfl, rfl, rfl, trivial⟩, [], rfl, .inl rfl⟩
                · have h136 := cF hq129 hb
                  refine go hΓ 1 rfl ?_
                  obtain rfl := Option.some.inj h136
                  exact ⟨⟨rfl, rfl, rfl, rfl, rfl, rfl, rfl, trivial⟩, [], rfl, .inl rfl⟩
              · refine go hΓ 8 rfl ?_
                refine o_cut 4 [(0, .sl 0 q129.length), (1, I a), (3, I b), (4, .fn (.func 55) [] []), (18, I (wi (shrV .u64 (IntKind.u64.wrap (wi (a + b))) 1))), (20, I q110), (24, I (wi ((wi ((wi (shrV .u64 (IntKind.u64.wrap (wi (a + b))) 1)) + m)) - q110))), (199, B ((decide ((a : Int) < q110)) && (decide ((q110 : Int) < (wi (shrV .u64 (IntKind.u64.wrap (wi (a + b))) 1))))))] [.row 94 8 q129.length (q129.flatMap e_api_Record)] ?_ ?_
                · refine eo_gsplit rfl rfl (fun hb => ?_) (fun hb => ?_)
                  · refine go_ops hΓ 5 rfl ?_
                    exact ⟨⟨rfl, rfl, rfl, rfl, rfl, rfl, rfl, get_b rfl (and_t hb), trivial⟩, [], rfl, .inl rfl⟩
                  · refine go_ops hΓ 5 rfl ?_
                    exact ⟨⟨rfl, rfl, rfl, rfl, rfl, rfl, rfl, get_b rfl (and_f hb), trivial⟩, [], rfl, .inl rfl⟩
                · obtain ⟨q137, hq137, h138⟩ := bi_ok h130
                  refine go_ops hΓ 2 rfl ?_
                  refine j_cutNZ [(0, .sl 0 q137.length), (3, I b), (4, .fn (.func 55) [] []), (18, I (wi (shrV .u64 (IntKind.u64.wrap (wi (a + b))) 1))), (24, I (wi ((wi ((wi (shrV .u64 (IntKind.u64.wrap (wi (a + b))) 1)) + m)) - q110)))] [.row 94 8 q137.length (q137.flatMap e_api_Record)] ?_ ?_
                  · refine j_cond rfl (fun hb => ?_) (fun hb => ?_)
                    · have h139 := cT hq137 hb
                      obtain ⟨y140, hy140, h141⟩ := bi_ok h139
                      refine go hΓ 6 rfl ?_
                      refine eo_callF [0] (.tup []) [.row 94 8 y140.length (y140.flatMap e_api_Record)] (callable Tryz.func136 rfl rfl) (ih hy140) rfl (Nat.le_of_ble_eq_true rfl) rfl rfl rfl rfl rfl rfl rfl rfl rfl rfl ?_
                      obtain ⟨hg143, h142⟩ := gd_ok h141
                      refine eo_relen 0 rfl (of_decide_eq_true hg143).symm ?_
                      refine go_ops hΓ 1 rfl ?_
                      obtain rfl := Option.some.inj h142
                      exact ⟨⟨rfl, rfl, rfl, rfl, rfl, trivial⟩, [], rfl, .inl rfl⟩
                    · have h144 := cF hq137 hb
                      refine go hΓ 1 rfl ?_
                      obtain rfl := Option.some.inj h144
                      exact ⟨⟨rfl, rfl, rfl, rfl, rfl, trivial⟩, [], rfl, .inl rfl⟩
                  · refine go hΓ 7 rfl ?_
                    refine o_cut 4 [(0, .sl 0 q137.length), (3, I b), (4, .fn (.func 55) [] []), (18, I (wi (shrV .u64 (IntKind.u64.wrap (wi (a + b))) 1))), (24, I (wi ((wi ((wi (shrV .u64 (IntKind.u64.wrap (wi (a + b))) 1)) + m)) - q110))), (213, B ((decide ((wi (shrV .u64 (IntKind.u64.wrap (wi (a + b))) 1) : Int) < (wi ((wi ((wi (shrV .u64 (IntKind.u64.wrap (wi (a + b))) 1)) + m)) - q110)))) && (decide ((wi ((wi ((wi (shrV .u64 (IntKind.u64.wrap (wi (a + b))) 1)) + m)) - q110) : Int) < b))))] [.row 94 8 q137.length (q137.flatMap e_api_Record)] ?_ ?_
                    · refine eo_gsplit rfl rfl (fun hb => ?_) (fun hb => ?_)
                      · refine go_ops hΓ 5 rfl ?_
                        exact ⟨⟨rfl, rfl, rfl, rfl, rfl, get_b rfl (and_t hb), trivial⟩, [], rfl, .inl rfl⟩
                      · refine go_ops hΓ 5 rfl ?_
                        exact ⟨⟨rfl, rfl, rfl, rfl, rfl, get_b rfl (and_f hb), trivial⟩, [], rfl, .inl rfl⟩
                    · refine go_ops hΓ 2 rfl ?_
                      refine j_cond rfl (fun hb => ?_) (fun hb => ?_)
                      · have h145 := cT h138 hb
                        obtain ⟨y146, hy146, h147⟩ := bi_ok h145
                        refine go hΓ 6 rfl ?_
                        refine eo_callF [0] (.tup []) [.row 94 8 y146.length (y146.flatMap e_api_Record)] (callable Tryz.func136 rfl rfl) (ih hy146) rfl (Nat.le_of_ble_eq_true rfl) rfl rfl rfl rfl rfl rfl rfl rfl rfl rfl ?_
                        refine go_ops hΓ 1 rfl ?_
                        obtain rfl := Option.some.inj h147
                        exact fin_objs hΓ [] (.inl rfl) rfl rfl rfl rfl (.inl rfl)
                      · have h148 := cF h138 hb
                        refine go hΓ 1 rfl ?_
                        obtain rfl := Option.some.inj h148
                        exact fin_objs hΓ [] (.inl rfl) rfl rfl rfl rfl (.inl rfl)
set_option maxHeartbeats 8000000 in
theorem c_slices_stableCmpFunc_api_Record {k : Nat} {data : List T_api_Record} {n : Int} {r : List T_api_Record} (h : m_slices_stableCmpFunc_api_Record k data n = some r) : EC Tryz.prog 86 [.sl 0 data.length, I n, .fn (.func 55) [] []] [.row 94 8 data.length (data.flatMap e_api_Record)] fun g hp' => g = .tup [] ∧ hp' = [.row 94 8 r.length (r.flatMap e_api_Record)] := by
  refine ec_enter (Fr.of 0 _) Tryz.func86 rfl (Fr.of_ok _) (Nat.le_of_ble_eq_true rfl) fun _ => ?_
  refine go_in ?_
  unfold m_slices_stableCmpFunc_api_Record at h
  refine go hΓ 13 rfl ?_
  obtain ⟨q4, hq4, h5⟩ := bi_ok h
  refine j_cutNZ [(0, .sl 0 q4.1.length), (1, I n), (2, .fn (.func 55) [] []), (6, I 20), (7, I q4.2)] [.row 94 8 q4.1.length (q4.1.flatMap e_api_Record)] ?_ ?_
  · refine go hΓ 1 rfl ?_
    refine j_loop hq4 (fun s2 => [(0, .sl 0 s2.1.length), (1, I n), (2, .fn (.func 55) [] []), (6, I 20), (7, I s2.2.1), (8, I s2.2.2)]) (fun s2 => [.row 94 8 s2.1.length (s2.1.flatMap e_api_Record)]) ⟨⟨rfl, rfl, rfl, rfl, rfl, rfl, trivial⟩, [], rfl, .inl rfl⟩ (fun s2 y10 hy8 hout9 => ?_)
    refine go hΓ 8 rfl ?_
    refine j_cond rfl (fun hb => ?_) (fun hb => ?_)
    · have h11 := cT hy8 hb
      obtain ⟨y12, hy12, h13⟩ := bi_ok h11
      refine go hΓ 9 rfl ?_
      refine eo_callF [0] (.tup []) [.row 94 8 y12.length (y12.flatMap e_api_Record)] (callable Tryz.func119 rfl rfl) (c_slices_insertionSortCmpFunc_api_Record hy12) rfl (Nat.le_of_ble_eq_true rfl) rfl rfl rfl rfl rfl rfl rfl rfl rfl rfl ?_
      obtain ⟨hg15, h14⟩ := gd_ok h13
      refine eo_relen 0 rfl (of_decide_eq_true hg15).symm ?_
      refine go_ops hΓ 15 rfl ?_
      obtain rfl := Option.some.inj h14
      exact ⟨_, rfl, ⟨⟨rfl, rfl, rfl, rfl, rfl, rfl, trivial⟩, [], rfl, .inl rfl⟩⟩
    · have h16 := cF hy8 hb
      refine go hΓ 4 rfl ?_
      obtain rfl := Option.some.inj h16
      obtain rfl := hout9 _ rfl
      exact ⟨⟨rfl, rfl, rfl, rfl, rfl, trivial⟩, [], rfl, .inl rfl⟩
  · obtain ⟨y17, hy17, h18⟩ := bi_ok h5
    refine go hΓ 7 rfl ?_
    refine eo_callF [0] (.tup []) [.row 94 8 y17.length (y17.flatMap e_api_Record)] (callable Tryz.func119 rfl rfl) (c_slices_insertionSortCmpFunc_api_Record hy17) rfl (Nat.le_of_ble_eq_true rfl) rfl rfl rfl rfl rfl rfl rfl rfl rfl rfl ?_
    obtain ⟨hg20, h19⟩ := gd_ok h18
    refine eo_relen 0 rfl (of_decide_eq_true hg20).symm ?_
    refine go_ops hΓ 2 rfl ?_
    obtain ⟨q24, hq24, h25⟩ := bi_ok h19
    refine j_cutNZ [] [.row 94 8 q24.length (q24.flatMap e_api_Record)] ?_ ?_
    · refine go hΓ 1 rfl ?_
      refine j_loop hq24 (fun s22 => [(0, .sl 0 s22.1.length), (1, I n), (2, .fn (.func 55) [] []), (6, I s22.2)]) (fun s22 => [.row 94 8 s22.1.length (s22.1.flatMap e_api_Record)]) ⟨⟨rfl, rfl, rfl, rfl, trivial⟩, [], rfl, .inl rfl⟩ (fun s22 y30 hy28 hout29 => ?_)
      refine go hΓ 8 rfl ?_
      refine j_cond rfl (fun hb => ?_) (fun hb => ?_)
      · have h31 := cT hy28 hb
        refine go hΓ 12 rfl ?_
        obtain ⟨q35, hq35, h36⟩ := bi_ok h31
        refine j_cutNZ [(0, .sl 0 q35.1.length), (1, I n), (2, .fn (.func 55) [] []), (6, I s22.2), (7, I q35.2)] [.row 94 8 q35.1.length (q35.1.flatMap e_api_Record)] ?_ ?_
        · refine go hΓ 1 rfl ?_
          refine j_loop hq35 (fun s33 => [(0, .sl 0 s33.1.length), (1, I n), (2, .fn (.func 55) [] []), (6, I s22.2), (7, I s33.2.1), (8, I s33.2.2)]) (fun s33 => [.row 94 8 s33.1.length (s33.1.flatMap e_api_Record)]) ⟨⟨rfl, rfl, rfl, rfl, rfl, rfl, trivial⟩, [], rfl, .inl rfl⟩ (fun s33 y41 hy39 hout40 => ?_)
          refine go hΓ 8 rfl ?_
          refine j_cond rfl (fun hb => ?_) (fun hb => ?_)
          · have h42 := cT hy39 hb
            obtain ⟨y43, hy43, h44⟩ := bi_ok h42
            refine go hΓ 12 rfl ?_
            refine eo_callF [0] (.tup []) [.row 94 8 y43.length (y43.flatMap e_api_Record)] (callable Tryz.func136 rfl rfl) (c_slices_symMergeCmpFunc_api_Record hy43) rfl (Nat.le_of_ble_eq_true rfl) rfl rfl rfl rfl rfl rfl rfl rfl rfl rfl ?_
            obtain ⟨hg46, h45⟩ := gd_ok h44
            refine eo_relen 0 rfl (of_decide_eq_true hg46).symm ?_
            refine go_ops hΓ 16 rfl ?_
            obtain rfl := Option.some.inj h45
            exact ⟨_, rfl, ⟨⟨rfl, rfl, rfl, rfl, rfl, rfl, trivial⟩, [], rfl, .inl rfl⟩⟩
          · have h47 := cF hy39 hb
            refine go hΓ 4 rfl ?_
            obtain rfl := Option.some.inj h47
            obtain rfl := hout40 _ rfl
            exact ⟨⟨rfl, rfl, rfl, rfl, rfl, trivial⟩, [], rfl, .inl rfl⟩
        · refine go hΓ 17 rfl ?_
          refine j_cond rfl (fun hb => ?_) (fun hb => ?_)
          · have h48 := cT h36 hb
            obtain ⟨y49, hy49, h50⟩ := bi_ok h48
            refine go hΓ 6 rfl ?_
            refine eo_callF [0] (.tup []) [.row 94 8 y49.length (y49.flatMap e_api_Record)] (callable Tryz.func136 rfl rfl) (c_slices_symMergeCmpFunc_api_Record hy49) rfl (Nat.le_of_ble_eq_true rfl) rfl rfl rfl rfl rfl rfl rfl rfl rfl rfl ?_
            obtain ⟨hg52, h51⟩ := gd_ok h50
            refine eo_relen 0 rfl (of_decide_eq_true hg52).symm ?_
            refine go_ops hΓ 8 rfl ?_
            obtain rfl := Option.some.inj h51
            exact ⟨_, rfl, ⟨⟨rfl, rfl, rfl, rfl, trivial⟩, [], rfl, .inl rfl⟩⟩
          · have h53 := cF h36 hb
            refine go hΓ 8 rfl ?_
            obtain rfl := Option.some.inj h53
            exact ⟨_, rfl, ⟨⟨rfl, rfl, rfl, rfl, trivial⟩, [], rfl, .inl rfl⟩⟩
      · have h54 := cF hy28 hb
        refine go hΓ 4 rfl ?_
        obtain rfl := Option.some.inj h54
        obtain rfl := hout29 _ rfl
        exact ⟨trivial, [], rfl, .inl rfl⟩
    · obtain rfl := Option.some.inj h25
      exact fin_objs hΓ [] (.inl rfl) rfl rfl rfl rfl (.inl rfl)
theorem c_slices_SortStableFunc_api_Record_api_Record {k : Nat} {x : List T_api_Record} {r : List T_api_Record} (h : m_slices_SortStableFunc_api_Record_api_Record k x = some r) : EC Tryz.prog 54 [.sl 0 x.length, .fn (.func 55) [] []] [.row 94 8 x.length (x.flatMap e_api_Record)] fun g hp' => g = .tup [] ∧ hp' = [.row 94 8 r.length (r.flatMap e_api_Record)] := by
  refine ec_enter (Fr.of 0 _) Tryz.func54 rfl (Fr.of_ok _) (Nat.le_of_ble_eq_true rfl) fun _ => ?_
  refine go_in ?_
  unfold m_slices_SortStableFunc_api_Record_api_Record at h
  obtain ⟨y1, hy1, h2⟩ := bi_ok h
  refine go hΓ 5 rfl ?_
  refine eo_callF [0] (.tup []) [.row 94 8 y1.length (y1.flatMap e_api_Record)] (callable Tryz.func86 rfl rfl) (c_slices_stableCmpFunc_api_Record hy1) rfl (Nat.le_of_ble_eq_true rfl) rfl rfl rfl rfl rfl rfl rfl rfl rfl rfl ?_
  refine go_ops hΓ 1 rfl ?_
  obtain rfl := Option.some.inj h2
  exact fin_objs hΓ [] (.inl rfl) rfl rfl rfl rfl (.inl rfl)
theorem c_laneref1_Kinds {r : List Int} (h : m_laneref1_Kinds = some r) : Pure Tryz.prog 138 [] (.d (Sl (eN .i64) r)) := by
  refine Pure.enter (Fr.of 0 _) Tryz.func138 rfl (Fr.of_ok _) rfl rfl ?_
  refine go_in ?_
  unfold m_laneref1_Kinds at h
  refine go hΓ 7 rfl ?_
  refine eo_litT hΓ (enc := (eN .i64)) [1, 5, 12, 16, 28] rfl rfl rfl rfl rfl rfl rfl rfl rfl rfl rfl rfl (Nat.le_of_ble_eq_true rfl) ?_
  refine go_ops hΓ 4 rfl ?_
  obtain rfl := Option.some.inj h
  exact fin_pure hΓ (.inr rfl) rfl rfl
theorem c_slices_Index_int_int {s : List Int} {v : Int} {r : Int} (h : m_slices_Index_int_int s v = some r) : Pure Tryz.prog 170 [.d (Sl (eN .i64) s), I v] (I r) := by
  refine Pure.enter (Fr.of 0 _) Tryz.func170 rfl (Fr.of_ok _) rfl rfl ?_
  refine go_in ?_
  unfold m_slices_Index_int_int at h
  refine go hΓ 13 rfl ?_
  obtain ⟨q4, hq4, h5⟩ := bi_ok h
  refine j_bound 0 rfl fun hb7 => ?_
  refine j_cutEZ (R := fun a6 => q4 = .go a6) (fun a6 => []) (fun a6 => []) ?_ ?_
  · refine go hΓ 1 rfl ?_
    refine j_range s hq4 (fun i1 s2 => [(0, .d (Sl (eN .i64) s)), (1, I v), (7, I (s.length : Int)), (8, I (i1 : Int))]) (fun s2 => []) ⟨⟨rfl, rfl, rfl, rfl, trivial⟩, [], rfl, .inl rfl⟩ (fun i1 x3 s2 y11 hx8 hlt hy9 hout10 => ?_) (fun s2 hgo => ?_)
    · refine go hΓ 6 rfl ?_
      refine j_condT rfl (decide_eq_true (Int.ofNat_lt.2 hlt)) ?_
      refine go hΓ 15 rfl ?_
      refine eo_o rfl (op_elemZ hΓ (enc := (eN .i64)) (getZ_nat hx8) rfl rfl rfl rfl rfl (fun _ => rfl)) ?_
      refine go_ops hΓ 4 rfl ?_
      refine j_cond rfl (fun hb => ?_) (fun hb => ?_)
      · have h12 := cT hy9 hb
        refine go hΓ 9 rfl ?_
        obtain ⟨v13, hv13, h14⟩ := bi_ok h12
        obtain rfl := Option.some.inj h14
        obtain rfl := hout10 _ rfl
        obtain rfl := Option.some.inj h5
        refine go hΓ 4 rfl ?_
        obtain rfl := Option.some.inj hv13
        exact fin_pure hΓ (.inr rfl) rfl rfl
      · have h15 := cF hy9 hb
        refine go hΓ 7 rfl ?_
        obtain rfl := Option.some.inj h15
        exact ⟨_, rfl, ⟨⟨rfl, rfl, rfl, get_eq rfl (w64_succ (Nat.lt_of_lt_of_le hlt hb7)), trivial⟩, [], rfl, .inl rfl⟩⟩
    · subst hgo
      refine go hΓ 6 rfl ?_
      refine j_condF rfl (decide_eq_false (Int.lt_irrefl _)) ?_
      refine go hΓ 4 rfl ?_
      exact ⟨_, rfl, ⟨trivial, [], rfl, .inl rfl⟩⟩
  · intro a6 ha
    subst ha
    replace h5 := goI_l h5
    refine go hΓ 7 rfl ?_
    obtain rfl := Option.some.inj h5
    exact fin_pure hΓ (.inr rfl) rfl rfl
theorem c_slices_Contains_int_int {s : List Int} {v : Int} {r : Bool} (h : m_slices_Contains_int_int s v = some r) : Pure Tryz.prog 137 [.d (Sl (eN .i64) s), I v] (B r) := by
  refine Pure.enter (Fr.of 0 _) Tryz.func137 rfl (Fr.of_ok _) rfl rfl ?_
  refine go_in ?_
  unfold m_slices_Contains_int_int at h
  obtain ⟨y1, hy1, h2⟩ := bi_ok h
  refine go hΓ 9 rfl ?_
  refine eo_callP (callable Tryz.func170 rfl rfl) (c_slices_Index_int_int hy1) rfl (Nat.le_of_ble_eq_true rfl) rfl rfl rfl rfl rfl ?_
  refine go_ops hΓ 5 rfl ?_
  obtain rfl := Option.some.inj h2
  exact fin_pure hΓ (.inr rfl) rfl rfl
set_option maxHeartbeats 8000000 in
theorem c_laneref1_plain {s : Str} {r : Bool} (h : m_laneref1_plain s = some r) : Pure Tryz.prog 139 [S s] (B r) := by
  refine Pure.enter (Fr.of 0 _) Tryz.func139 rfl (Fr.of_ok _) rfl rfl ?_
  refine go_in ?_
  unfold m_laneref1_plain at h
  refine go hΓ 13 rfl ?_
  obtain ⟨q4, hq4, h5⟩ := bi_ok h
  obtain ⟨hb7, h8⟩ := gd_ok hq4
  replace hb7 := of_decide_eq_true hb7
  refine j_cutEZ (R := fun a6 => q4 = .go a6) (fun a6 => [(0, S s)]) (fun a6 => []) ?_ ?_
  · refine go hΓ 1 rfl ?_
    refine j_rangeI h8 (fun i1 s2 => [(0, S s), (5, I (s.length : Int)), (6, I (i1 : Int))]) (fun s2 => []) ⟨⟨rfl, rfl, rfl, trivial⟩, [], rfl, .inl rfl⟩ (fun i1 s2 y12 hlt hy10 hout11 => ?_) (fun s2 hgo hge => ?_)
    · refine go hΓ 6 rfl ?_
      refine j_condT rfl (decide_eq_true hlt) ?_
      obtain ⟨c13, hc13, h14⟩ := bi_ok hy10
      refine go hΓ 14 rfl ?_
      refine eo_o rfl (op_byteZ hΓ hc13 rfl rfl rfl rfl) ?_
      refine go_ops hΓ 2 rfl ?_
      obtain ⟨q15, hq15, h16⟩ := bi_ok h14
      refine o_cut 5 [(0, S s), (5, I (s.length : Int)), (6, I (i1 : Int)), (18, B q15)] [] ?_ ?_
      · refine eo_gsplit rfl rfl (fun hb => ?_) (fun hb => ?_)
        · have h17 := cT hq15 hb
          refine go_ops hΓ 6 rfl ?_
          obtain rfl := Option.some.inj h17
          exact ⟨⟨rfl, rfl, rfl, rfl, trivial⟩, [], rfl, .inl rfl⟩
        · have h18 := cF hq15 hb
          obtain ⟨c19, hc19, h20⟩ := bi_ok h18
          refine go_ops hΓ 2 rfl ?_
          refine eo_guard rfl ?_
          refine eo_o rfl (op_byteZ hΓ hc19 rfl rfl rfl rfl) ?_
          refine go_ops hΓ 3 rfl ?_
          obtain rfl := Option.some.inj h20
          exact ⟨⟨rfl, rfl, rfl, rfl, trivial⟩, [], rfl, .inl rfl⟩
      · refine go_ops hΓ 2 rfl ?_
        refine j_cond rfl (fun hb => ?_) (fun hb => ?_)
        · have h21 := cT h16 hb
          refine go hΓ 8 rfl ?_
          obtain ⟨v22, hv22, h23⟩ := bi_ok h21
          obtain rfl := Option.some.inj h23
          obtain rfl := hout11 _ rfl
          obtain rfl := Option.some.inj h5
          refine go hΓ 4 rfl ?_
          obtain rfl := Option.some.inj hv22
          exact fin_pure hΓ (.inr rfl) rfl rfl
        · have h24 := cF h16 hb
          refine go hΓ 7 rfl ?_
          obtain rfl := Option.some.inj h24
          exact ⟨_, rfl, ⟨⟨rfl, rfl, get_eq rfl (w64_succ (by omega)), trivial⟩, [], rfl, .inl rfl⟩⟩
    · subst hgo
      refine go hΓ 6 rfl ?_
      refine j_condF rfl (decide_eq_false hge) ?_
      refine go hΓ 4 rfl ?_
      exact ⟨_, rfl, ⟨⟨rfl, trivial⟩, [], rfl, .inl rfl⟩⟩
  · intro a6 ha
    subst ha
    replace h5 := goI_l h5
    obtain ⟨y25, hy25, h26⟩ := bi_ok h5
    refine go hΓ 4 rfl ?_
    refine eo_callP (callable Tryz.func167 rfl rfl) (c_utf8_ValidString hy25) rfl (Nat.le_of_ble_eq_true rfl) rfl rfl rfl rfl rfl ?_
    refine go_ops hΓ 1 rfl ?_
    obtain ⟨q27, hq27, h28⟩ := bi_ok h26
    refine o_cut 5 [(0, S s), (27, B q27)] [] ?_ ?_
    · refine eo_gsplit rfl rfl (fun hb => ?_) (fun hb => ?_)
      · have h29 := cT hq27 hb
        obtain ⟨y30, hy30, h31⟩ := bi_ok h29
        refine go_ops hΓ 2 rfl ?_
        refine eo_guard rfl ?_
        refine eo_callP (callable Tryz.func67 rfl rfl) (c_strings_Trim hy30) rfl (Nat.le_of_ble_eq_true rfl) rfl rfl rfl rfl rfl ?_
        refine go_ops hΓ 3 rfl ?_
        obtain rfl := Option.some.inj h31
        exact ⟨⟨rfl, rfl, trivial⟩, [], rfl, .inl rfl⟩
      · have h32 := cF hq27 hb
        refine go_ops hΓ 6 rfl ?_
        obtain rfl := Option.some.inj h32
        exact ⟨⟨rfl, rfl, trivial⟩, [], rfl, .inl rfl⟩
    · refine go_ops hΓ 1 rfl ?_
      obtain ⟨q33, hq33, h34⟩ := bi_ok h28
      refine o_cut 4 [(32, B q33)] [] ?_ ?_
      · refine eo_gsplit rfl rfl (fun hb => ?_) (fun hb => ?_)
        · have h35 := cT hq33 hb
          obtain ⟨y36, hy36, h37⟩ := bi_ok h35
          refine go_ops hΓ 1 rfl ?_
          refine eo_guard rfl ?_
          refine eo_callP (callable Tryz.func168 rfl rfl) (c_strings_Contains hy36) rfl (Nat.le_of_ble_eq_true rfl) rfl rfl rfl rfl rfl ?_
          refine go_ops hΓ 3 rfl ?_
          obtain rfl := Option.some.inj h37
          exact ⟨⟨rfl, trivial⟩, [], rfl, .inl rfl⟩
        · have h38 := cF hq33 hb
          refine go_ops hΓ 5 rfl ?_
          obtain rfl := Option.some.inj h38
          exact ⟨⟨rfl, trivial⟩, [], rfl, .inl rfl⟩
      · refine go_ops hΓ 4 rfl ?_
        obtain rfl := Option.some.inj h34
        exact fin_pure hΓ (.inr rfl) rfl rfl
set_option maxHeartbeats 8000000 in
theorem c_laneref1_RecordFault {v_r : T_api_Record} {r : Int} (h : m_laneref1_RecordFault v_r = some r) : Pure Tryz.prog 87 [.agg [S v_r.Name, I v_r.Kind, B v_r.Addr.Six, U v_r.Addr.Hi, U v_r.Addr.Lo, S v_r.To, S v_r.Words, I v_r.Life]] (I r) := by
  refine Pure.enter (Fr.of 0 _) Tryz.func87 rfl (Fr.of_ok _) rfl rfl ?_
  refine go_in ?_
  unfold m_laneref1_RecordFault at h
  refine go hΓ 2 rfl ?_
  refine eo_box rfl rfl rfl rfl (Nat.le_of_ble_eq_true rfl) ?_
  refine go_ops hΓ 11 rfl ?_
  obtain ⟨q1, hq1, h2⟩ := bi_ok h
  refine o_cut 6 [(1, .ptr 0 0), (15, B q1)] [.box 94 [S v_r.Name, I v_r.Kind, B v_r.Addr.Six, U v_r.Addr.Hi, U v_r.Addr.Lo, S v_r.To, S v_r.Words, I v_r.Life]] ?_ ?_
  · refine eo_gsplit rfl rfl (fun hb => ?_) (fun hb => ?_)
    · have h3 := cT hq1 hb
      refine go_ops hΓ 7 rfl ?_
      obtain rfl := Option.some.inj h3
      exact ⟨⟨rfl, rfl, trivial⟩, [], rfl, .inl rfl⟩
    · have h4 := cF hq1 hb
      obtain ⟨y5, hy5, h6⟩ := bi_ok h4
      refine go_ops hΓ 2 rfl ?_
      refine eo_guard rfl ?_
      refine eo_callP (callable Tryz.func66 rfl rfl) (c_strings_TrimPrefix hy5) rfl (Nat.le_of_ble_eq_true rfl) rfl rfl rfl rfl rfl ?_
      obtain ⟨y7, hy7, h8⟩ := bi_ok h6
      refine eo_guard rfl ?_
      refine eo_callP (callable Tryz.func13 rfl rfl) (c_laneref1_DomainFault hy7) rfl (Nat.le_of_ble_eq_true rfl) rfl rfl rfl rfl rfl ?_
      refine go_ops hΓ 3 rfl ?_
      obtain rfl := Option.some.inj h8
      exact ⟨⟨rfl, rfl, trivial⟩, [], rfl, .inl rfl⟩
  · refine go_ops hΓ 2 rfl ?_
    refine j_cond rfl (fun hb => ?_) (fun hb => ?_)
    · have h9 := cT h2 hb
      refine go hΓ 7 rfl ?_
      obtain rfl := Option.some.inj h9
      exact fin_pure hΓ (.inr rfl) rfl rfl
    · have h10 := cF h2 hb
      refine go hΓ 4 rfl ?_
      refine j_draw hmix (by kernel_rfl) ?_
      obtain ⟨y11, hy11, h12⟩ := bi_ok h10
      refine gl_callP (callable Tryz.func138 rfl rfl) (c_laneref1_Kinds hy11) rfl rfl rfl rfl rfl rfl ?_
      obtain ⟨y13, hy13, h14⟩ := bi_ok h12
      refine go_draw hΓ 2 rfl ?_
      refine gl_callP (callable Tryz.func137 rfl rfl) (c_slices_Contains_int_int hy13) rfl rfl rfl rfl rfl rfl ?_
      refine go_draw hΓ 3 rfl ?_
      refine j_cond rfl (fun hb => ?_) (fun hb => ?_)
      · have h15 := cT h14 hb
        refine go hΓ 7 rfl ?_
        obtain rfl := Option.some.inj h15
        exact fin_pure hΓ (.inr rfl) rfl rfl
      · have h16 := cF h14 hb
        obtain ⟨q17, hq17, h18⟩ := bi_ok h16
        refine go hΓ 3 rfl ?_
        refine j_cutNZ [(1, .ptr 0 0), (3, B q17), (4, B ((v_r.Kind : Int) == 28))] [.box 94 [S v_r.Name, I v_r.Kind, B v_r.Addr.Six, U v_r.Addr.Hi, U v_r.Addr.Lo, S v_r.To, S v_r.Words, I v_r.Life]] ?_ ?_
        · refine j_draw hmix (by kernel_rfl) ?_
          refine go hΓ 4 rfl ?_
          refine gl_gsplit rfl rfl (fun hb => ?_) (fun hb => ?_)
          · have h19 := cT hq17 hb
            refine go_draw hΓ 10 rfl ?_
            obtain rfl := Option.some.inj h19
            exact ⟨⟨rfl, rfl, rfl, trivial⟩, [], rfl, .inl rfl⟩
          · have h20 := cF hq17 hb
            refine go_draw hΓ 10 rfl ?_
            obtain rfl := Option.some.inj h20
            exact ⟨⟨rfl, rfl, rfl, trivial⟩, [], rfl, .inl rfl⟩
        · refine go hΓ 6 rfl ?_
          obtain ⟨q21, hq21, h22⟩ := bi_ok h18
          refine o_cut 12 [(1, .ptr 0 0), (3, B q17), (45, B q21)] [.box 94 [S v_r.Name, I v_r.Kind, B v_r.Addr.Six, U v_r.Addr.Hi, U v_r.Addr.Lo, S v_r.To, S v_r.Words, I v_r.Life]] ?_ ?_
          · refine eo_gsplit rfl rfl (fun hb => ?_) (fun hb => ?_)
            · have h23 := cT hq21 hb
              obtain ⟨y24, hy24, h25⟩ := bi_ok h23
              refine go_ops hΓ 2 rfl ?_
              refine eo_guard rfl ?_
              refine eo_callP (callable Tryz.func7 rfl rfl) (c_laneref2_AddrFault hy24) rfl (Nat.le_of_ble_eq_true rfl) rfl rfl rfl rfl rfl ?_
              refine go_ops hΓ 2 rfl ?_
              refine o_cut 6 [(1, .ptr 0 0), (3, B q17), (33, B true), (44, B (((y24 : Int) != 0) || (!((v_r.Addr.Six : Bool) == ((v_r.Kind : Int) == 28)))))] [.box 94 [S v_r.Name, I v_r.Kind, B v_r.Addr.Six, U v_r.Addr.Hi, U v_r.Addr.Lo, S v_r.To, S v_r.Words, I v_r.Life]] ?_ ?_
              · refine eo_gsplit rfl rfl (fun hb => ?_) (fun hb => ?_)
                · refine go_ops hΓ 7 rfl ?_
                  exact ⟨⟨rfl, rfl, rfl, get_b rfl (or_t hb), trivial⟩, [], rfl, .inl rfl⟩
                · refine go_ops hΓ 7 rfl ?_
                  exact ⟨⟨rfl, rfl, rfl, get_b rfl (or_f hb), trivial⟩, [], rfl, .inl rfl⟩
              · refine go_ops hΓ 2 rfl ?_
                obtain rfl := Option.some.inj h25
                exact ⟨⟨rfl, rfl, rfl, trivial⟩, [], rfl, .inl rfl⟩
            · have h26 := cF hq21 hb
              refine go_ops hΓ 13 rfl ?_
              obtain rfl := Option.some.inj h26
              exact ⟨⟨rfl, rfl, rfl, trivial⟩, [], rfl, .inl rfl⟩
          · refine go_ops hΓ 1 rfl ?_
            refine o_cut 9 [(1, .ptr 0 0), (55, B (q21 || ((!q17) && (!(((v_r.Addr.Six : Bool) == false) && (((v_r.Addr.Hi : Int) == 0) && (((v_r.Addr.Lo : Int) == 0) && true)))))))] [.box 94 [S v_r.Name, I v_r.Kind, B v_r.Addr.Six, U v_r.Addr.Hi, U v_r.Addr.Lo, S v_r.To, S v_r.Words, I v_r.Life]] ?_ ?_
            · refine eo_gsplit rfl rfl (fun hb => ?_) (fun hb => ?_)
              · refine go_ops hΓ 10 rfl ?_
                exact ⟨⟨rfl, get_b rfl (or_t hb), trivial⟩, [], rfl, .inl rfl⟩
              · refine go_ops hΓ 3 rfl ?_
                refine o_cut 5 [(1, .ptr 0 0), (46, B false), (54, B ((!q17) && (!(((v_r.Addr.Six : Bool) == false) && (((v_r.Addr.Hi : Int) == 0) && (((v_r.Addr.Lo : Int) == 0) && true))))))] [.box 94 [S v_r.Name, I v_r.Kind, B v_r.Addr.Six, U v_r.Addr.Hi, U v_r.Addr.Lo, S v_r.To, S v_r.Words, I v_r.Life]] ?_ ?_
                · refine eo_gsplit rfl rfl (fun hb => ?_) (fun hb => ?_)
                  · refine go_ops hΓ 2 rfl ?_
                    refine eo_guard rfl ?_
                    refine eo_build hΓ (gs := [B false, U 0, U 0]) rfl rfl rfl rfl rfl rfl rfl ?_
                    refine eo_guard rfl ?_
                    refine eo_o rfl (op_neS hΓ [28] (b := (((v_r.Addr.Six : Bool) == false) && (((v_r.Addr.Hi : Int) == 0) && (((v_r.Addr.Lo : Int) == 0) && true)))) (by kernel_rfl) (by kernel_rfl) rfl rfl rfl) ?_
                    refine go_ops hΓ 2 rfl ?_
                    exact ⟨⟨rfl, rfl, get_b rfl (and_t hb), trivial⟩, [], rfl, .inl rfl⟩
                  · refine go_ops hΓ 6 rfl ?_
                    exact ⟨⟨rfl, rfl, get_b rfl (and_f hb), trivial⟩, [], rfl, .inl rfl⟩
                · refine go_ops hΓ 2 rfl ?_
                  exact ⟨⟨rfl, get_b rfl (or_f hb), trivial⟩, [], rfl, .inl rfl⟩
            · refine go_ops hΓ 2 rfl ?_
              refine j_cond rfl (fun hb => ?_) (fun hb => ?_)
              · have h27 := cT h22 hb
                refine go hΓ 7 rfl ?_
                obtain rfl := Option.some.inj h27
                exact fin_pure hΓ (.inr rfl) rfl rfl
              · have h28 := cF h22 hb
                refine go hΓ 9 rfl ?_
                refine o_cut 4 [(1, .ptr 0 0), (63, B (((v_r.Kind : Int) == 5) || ((v_r.Kind : Int) == 12)))] [.box 94 [S v_r.Name, I v_r.Kind, B v_r.Addr.Six, U v_r.Addr.Hi, U v_r.Addr.Lo, S v_r.To, S v_r.Words, I v_r.Life]] ?_ ?_
                · refine eo_gsplit rfl rfl (fun hb => ?_) (fun hb => ?_)
                  · refine go_ops hΓ 5 rfl ?_
                    exact ⟨⟨rfl, get_b rfl (or_t hb), trivial⟩, [], rfl, .inl rfl⟩
                  · refine go_ops hΓ 5 rfl ?_
                    exact ⟨⟨rfl, get_b rfl (or_f hb), trivial⟩, [], rfl, .inl rfl⟩
                · obtain ⟨q29, hq29, h30⟩ := bi_ok h28
                  refine go_ops hΓ 2 rfl ?_
                  refine j_cutSZ (q := q29) (fun a31 => [(1, .ptr 0 0)]) (fun a31 => [.box 94 [S v_r.Name, I v_r.Kind, B v_r.Addr.Six, U v_r.Addr.Hi, U v_r.Addr.Lo, S v_r.To, S v_r.Words, I v_r.Life]]) ?_ ?_
                  · refine j_cond rfl (fun hb => ?_) (fun hb => ?_)
                    · have h32 := cT hq29 hb
                      obtain ⟨y33, hy33, h34⟩ := bi_ok h32
                      refine go hΓ 4 rfl ?_
                      refine eo_callP (callable Tryz.func13 rfl rfl) (c_laneref1_DomainFault hy33) rfl (Nat.le_of_ble_eq_true rfl) rfl rfl rfl rfl rfl ?_
                      refine go_ops hΓ 3 rfl ?_
                      refine j_cond rfl (fun hb => ?_) (fun hb => ?_)
                      · have h35 := cT h34 hb
                        refine go hΓ 6 rfl ?_
                        obtain ⟨v36, hv36, h37⟩ := bi_ok h35
                        obtain rfl := Option.some.inj h37
                        obtain rfl := Option.some.inj h30
                        refine go hΓ 2 rfl ?_
                        obtain rfl := Option.some.inj hv36
                        exact fin_pure hΓ (.inr rfl) rfl rfl
                      · have h38 := cF h34 hb
                        refine go hΓ 1 rfl ?_
                        obtain rfl := Option.some.inj h38
                        exact ⟨_, rfl, ⟨⟨rfl, trivial⟩, [], rfl, .inl rfl⟩⟩
                    · have h39 := cF hq29 hb
                      refine go hΓ 7 rfl ?_
                      refine j_cond rfl (fun hb => ?_) (fun hb => ?_)
                      · have h40 := cT h39 hb
                        refine go hΓ 6 rfl ?_
                        obtain ⟨v41, hv41, h42⟩ := bi_ok h40
                        obtain rfl := Option.some.inj h42
                        obtain rfl := Option.some.inj h30
                        refine go hΓ 2 rfl ?_
                        obtain rfl := Option.some.inj hv41
                        exact fin_pure hΓ (.inr rfl) rfl rfl
                      · have h43 := cF h39 hb
                        refine go hΓ 1 rfl ?_
                        obtain rfl := Option.some.inj h43
                        exact ⟨_, rfl, ⟨⟨rfl, trivial⟩, [], rfl, .inl rfl⟩⟩
                  · intro a31 ha
                    subst ha
                    replace h30 := orI_l h30
                    refine go hΓ 8 rfl ?_
                    refine o_cut 4 [(1, .ptr 0 0), (78, B (((v_r.Kind : Int) != 16) && (!((v_r.Words : Str) == []))))] [.box 94 [S v_r.Name, I v_r.Kind, B v_r.Addr.Six, U v_r.Addr.Hi, U v_r.Addr.Lo, S v_r.To, S v_r.Words, I v_r.Life]] ?_ ?_
                    · refine eo_gsplit rfl rfl (fun hb => ?_) (fun hb => ?_)
                      · refine go_ops hΓ 5 rfl ?_
                        exact ⟨⟨rfl, get_b rfl (and_t hb), trivial⟩, [], rfl, .inl rfl⟩
                      · refine go_ops hΓ 5 rfl ?_
                        exact ⟨⟨rfl, get_b rfl (and_f hb), trivial⟩, [], rfl, .inl rfl⟩
                    · refine go_ops hΓ 1 rfl ?_
                      obtain ⟨q44, hq44, h45⟩ := bi_ok h30
                      refine o_cut 5 [(1, .ptr 0 0), (84, B q44)] [.box 94 [S v_r.Name, I v_r.Kind, B v_r.Addr.Six, U v_r.Addr.Hi, U v_r.Addr.Lo, S v_r.To, S v_r.Words, I v_r.Life]] ?_ ?_
                      · refine eo_gsplit rfl rfl (fun hb => ?_) (fun hb => ?_)
                        · have h46 := cT hq44 hb
                          refine go_ops hΓ 6 rfl ?_
                          obtain rfl := Option.some.inj h46
                          exact ⟨⟨rfl, rfl, trivial⟩, [], rfl, .inl rfl⟩
                        · have h47 := cF hq44 hb
                          obtain ⟨y48, hy48, h49⟩ := bi_ok h47
                          refine go_ops hΓ 2 rfl ?_
                          refine eo_guard rfl ?_
                          refine eo_callP (callable Tryz.func139 rfl rfl) (c_laneref1_plain hy48) rfl (Nat.le_of_ble_eq_true rfl) rfl rfl rfl rfl rfl ?_
                          refine go_ops hΓ 3 rfl ?_
                          obtain rfl := Option.some.inj h49
                          exact ⟨⟨rfl, rfl, trivial⟩, [], rfl, .inl rfl⟩
                      · refine go_ops hΓ 1 rfl ?_
                        refine o_cut 5 [(1, .ptr 0 0), (90, B (q44 || (decide (((v_r.Words.length : Int) : Int) > 200))))] [.box 94 [S v_r.Name, I v_r.Kind, B v_r.Addr.Six, U v_r.Addr.Hi, U v_r.Addr.Lo, S v_r.To, S v_r.Words, I v_r.Life]] ?_ ?_
                        · refine eo_gsplit rfl rfl (fun hb => ?_) (fun hb => ?_)
                          · refine go_ops hΓ 6 rfl ?_
                            exact ⟨⟨rfl, get_b rfl (or_t hb), trivial⟩, [], rfl, .inl rfl⟩
                          · refine go_ops hΓ 6 rfl ?_
                            exact ⟨⟨rfl, get_b rfl (or_f hb), trivial⟩, [], rfl, .inl rfl⟩
                        · refine go_ops hΓ 2 rfl ?_
                          refine j_cond rfl (fun hb => ?_) (fun hb => ?_)
                          · have h50 := cT h45 hb
                            refine go hΓ 7 rfl ?_
                            obtain rfl := Option.some.inj h50
                            exact fin_pure hΓ (.inr rfl) rfl rfl
                          · have h51 := cF h45 hb
                            obtain ⟨y52, hy52, h53⟩ := bi_ok h51
                            refine go hΓ 7 rfl ?_
                            refine eo_callP (callable Tryz.func50 rfl rfl) (c_laneref1_in hy52) rfl (Nat.le_of_ble_eq_true rfl) rfl rfl rfl rfl rfl ?_
                            refine go_ops hΓ 3 rfl ?_
                            refine j_cond rfl (fun hb => ?_) (fun hb => ?_)
                            · have h54 := cT h53 hb
                              refine go hΓ 7 rfl ?_
                              obtain rfl := Option.some.inj h54
                              exact fin_pure hΓ (.inr rfl) rfl rfl
                            · have h55 := cF h53 hb
                              refine go hΓ 8 rfl ?_
                              obtain rfl := Option.some.inj h55
                              exact fin_pure hΓ (.inr rfl) rfl rfl
theorem c_laneref1_bare {s : Str} {r : Str} (h : m_laneref1_bare s = some r) : Pure Tryz.prog 88 [S s] (S r) := by
  refine Pure.enter (Fr.of 0 _) Tryz.func88 rfl (Fr.of_ok _) rfl rfl ?_
  refine go_in ?_
  unfold m_laneref1_bare at h
  obtain ⟨y1, hy1, h2⟩ := bi_ok h
  refine go hΓ 8 rfl ?_
  refine eo_callP (callable Tryz.func66 rfl rfl) (c_strings_TrimPrefix hy1) rfl (Nat.le_of_ble_eq_true rfl) rfl rfl rfl rfl rfl ?_
  refine go_ops hΓ 4 rfl ?_
  obtain rfl := Option.some.inj h2
  exact fin_pure hΓ (.inr rfl) rfl rfl
set_option maxHeartbeats 8000000 in
theorem c_laneref1_ZoneFault {z : T_api_Zone} {r : Int} (h : m_laneref1_ZoneFault z = some r) : Pure Tryz.prog 56 [.agg [S z.Root, .d (Sl e_api_Record z.Records)]] (I r) := by
  refine Pure.enter (Fr.of 0 _) Tryz.func56 rfl (Fr.of_ok _) rfl rfl ?_
  refine go_in ?_
  unfold m_laneref1_ZoneFault at h
  refine go hΓ 2 rfl ?_
  refine eo_box rfl rfl rfl rfl (Nat.le_of_ble_eq_true rfl) ?_
  obtain ⟨y1, hy1, h2⟩ := bi_ok h
  refine go_ops hΓ 8 rfl ?_
  refine eo_callP (callable Tryz.func13 rfl rfl) (c_laneref1_DomainFault hy1) rfl (Nat.le_of_ble_eq_true rfl) rfl rfl rfl rfl rfl ?_
  refine go_ops hΓ 9 rfl ?_
  refine j_cond rfl (fun hb => ?_) (fun hb => ?_)
  · have h3 := cT h2 hb
    refine go hΓ 8 rfl ?_
    obtain rfl := Option.some.inj h3
    exact fin_pure hΓ (.inr rfl) rfl rfl
  · have h4 := cF h2 hb
    refine go hΓ 11 rfl ?_
    refine j_cond rfl (fun hb => ?_) (fun hb => ?_)
    · have h5 := cT h4 hb
      refine go hΓ 7 rfl ?_
      obtain rfl := Option.some.inj h5
      exact fin_pure hΓ (.inr rfl) rfl rfl
    · have h6 := cF h4 hb
      refine go hΓ 11 rfl ?_
      obtain ⟨q10, hq10, h11⟩ := bi_ok h6
      refine j_bound 21 rfl fun hb13 => ?_
      refine j_cutEZ (R := fun a12 => q10 = .go a12) (fun a12 => []) (fun a12 => [.box 52 [S z.Root, .d (Sl e_api_Record z.Records)]]) ?_ ?_
      · refine go hΓ 1 rfl ?_
        refine j_range z.Records hq10 (fun i7 s8 => [(1, .ptr 0 0), (21, .d (Sl e_api_Record z.Records)), (22, I (z.Records.length : Int)), (23, I (i7 : Int))]) (fun s8 => [.box 52 [S z.Root, .d (Sl e_api_Record z.Records)]]) ⟨⟨rfl, rfl, rfl, rfl, trivial⟩, [], rfl, .inl rfl⟩ (fun i7 x9 s8 y17 hx14 hlt hy15 hout16 => ?_) (fun s8 hgo => ?_)
        · refine go hΓ 6 rfl ?_
          refine j_condT rfl (decide_eq_true (Int.ofNat_lt.2 hlt)) ?_
          refine go hΓ 7 rfl ?_
          refine eo_o rfl (op_elemZ hΓ (enc := e_api_Record) (getZ_nat hx14) rfl rfl rfl rfl rfl (fun _ => rfl)) ?_
          refine go_ops hΓ 1 rfl ?_
          refine eo_alloc hΓ rfl rfl rfl (Nat.le_of_ble_eq_true rfl) ?_
          refine go_ops hΓ 1 rfl ?_
          refine eo_store hΓ rfl rfl rfl rfl rfl rfl rfl rfl (Nat.le_of_ble_eq_true rfl) ?_
          refine eo_hp [.box 52 [S z.Root, .d (Sl e_api_Record z.Records)], .box 94 [S x9.Name, I x9.Kind, B x9.Addr.Six, U x9.Addr.Hi, U x9.Addr.Lo, S x9.To, S x9.Words, I x9.Life]] rfl ?_
          obtain ⟨y18, hy18, h19⟩ := bi_ok hy15
          refine go_ops hΓ 6 rfl ?_
          refine eo_callP (callable Tryz.func87 rfl rfl) (c_laneref1_RecordFault hy18) rfl (Nat.le_of_ble_eq_true rfl) rfl rfl rfl rfl rfl ?_
          refine go_ops hΓ 9 rfl ?_
          refine j_cond rfl (fun hb => ?_) (fun hb => ?_)
          · have h20 := cT h19 hb
            refine go hΓ 10 rfl ?_
            obtain ⟨v21, hv21, h22⟩ := bi_ok h20
            obtain rfl := Option.some.inj h22
            obtain rfl := hout16 _ rfl
            obtain rfl := Option.some.inj h11
            refine go hΓ 4 rfl ?_
            obtain rfl := Option.some.inj hv21
            exact fin_pure hΓ (.inr rfl) rfl rfl
          · have h23 := cF h19 hb
            refine go hΓ 4 rfl ?_
            refine j_draw hmix (by kernel_rfl) ?_
            obtain ⟨y24, hy24, h25⟩ := bi_ok h23
            refine go hΓ 2 rfl ?_
            refine gl_callP (callable Tryz.func88 rfl rfl) (c_laneref1_bare hy24) rfl rfl rfl rfl rfl rfl ?_
            obtain ⟨y26, hy26, h27⟩ := bi_ok h25
            refine go_draw hΓ 2 rfl ?_
            refine gl_callP (callable Tryz.func53 rfl rfl) (c_laneref1_IsUnder hy26) rfl rfl rfl rfl rfl rfl ?_
            refine go_draw hΓ 3 rfl ?_
            refine j_cond rfl (fun hb => ?_) (fun hb => ?_)
            · have h28 := cT h27 hb
              refine go hΓ 9 rfl ?_
              obtain ⟨v29, hv29, h30⟩ := bi_ok h28
              obtain rfl := Option.some.inj h30
              obtain rfl := hout16 _ rfl
              obtain rfl := Option.some.inj h11
              refine go hΓ 4 rfl ?_
              obtain rfl := Option.some.inj hv29
              exact fin_pure hΓ (.inr rfl) rfl rfl
            · have h31 := cF h27 hb
              refine go hΓ 9 rfl ?_
              refine j_cond rfl (fun hb => ?_) (fun hb => ?_)
              · have h32 := cT h31 hb
                refine go hΓ 8 rfl ?_
                obtain rfl := Option.some.inj h32
                exact ⟨_, rfl, ⟨⟨rfl, rfl, rfl, get_eq rfl (w64_succ (Nat.lt_of_lt_of_le hlt hb13)), trivial⟩, [_], rfl, .inr ⟨HB.mk rfl, FB.mk rfl, (Nat.le_of_ble_eq_true rfl)⟩⟩⟩
              · have h33 := cF h31 hb
                obtain ⟨x34, hx34, h35⟩ := bi_ok h33
                refine go hΓ 8 rfl ?_
                refine eo_o rfl (op_elemZ hΓ (enc := e_api_Record) hx34 rfl rfl rfl rfl rfl (fun _ => rfl)) ?_
                refine go_ops hΓ 1 rfl ?_
                refine eo_alloc hΓ rfl rfl rfl (Nat.le_of_ble_eq_true rfl) ?_
                refine eo_store hΓ rfl rfl rfl rfl rfl rfl rfl rfl (Nat.le_of_ble_eq_true rfl) ?_
                refine eo_hp [.box 52 [S z.Root, .d (Sl e_api_Record z.Records)], .box 94 [S x9.Name, I x9.Kind, B x9.Addr.Six, U x9.Addr.Hi, U x9.Addr.Lo, S x9.To, S x9.Words, I x9.Life], .box 94 [S x34.Name, I x34.Kind, B x34.Addr.Six, U x34.Addr.Hi, U x34.Addr.Lo, S x34.To, S x34.Words, I x34.Life]] rfl ?_
                refine go_ops hΓ 8 rfl ?_
                refine o_cut 4 [(1, .ptr 0 0), (5, .ptr 1 0), (7, .ptr 2 0), (21, .d (Sl e_api_Record z.Records)), (22, I (z.Records.length : Int)), (23, I (i7 : Int)), (55, B (((x9.Kind : Int) == 5) || ((x34.Kind : Int) == 5)))] [.box 52 [S z.Root, .d (Sl e_api_Record z.Records)], .box 94 [S x9.Name, I x9.Kind, B x9.Addr.Six, U x9.Addr.Hi, U x9.Addr.Lo, S x9.To, S x9.Words, I x9.Life], .box 94 [S x34.Name, I x34.Kind, B x34.Addr.Six, U x34.Addr.Hi, U x34.Addr.Lo, S x34.To, S x34.Words, I x34.Life]] ?_ ?_
                · refine eo_gsplit rfl rfl (fun hb => ?_) (fun hb => ?_)
                  · refine go_ops hΓ 5 rfl ?_
                    exact ⟨⟨rfl, rfl, rfl, rfl, rfl, rfl, get_b rfl (or_t hb), trivial⟩, [], rfl, .inl rfl⟩
                  · refine go_ops hΓ 5 rfl ?_
                    exact ⟨⟨rfl, rfl, rfl, rfl, rfl, rfl, get_b rfl (or_f hb), trivial⟩, [], rfl, .inl rfl⟩
                · obtain ⟨y36, hy36, h37⟩ := bi_ok h35
                  refine go_ops hΓ 7 rfl ?_
                  refine eo_callP (callable Tryz.func55 rfl rfl) (c_laneref1_recordOrder hy36) rfl (Nat.le_of_ble_eq_true rfl) rfl rfl rfl rfl rfl ?_
                  refine go_ops hΓ 11 rfl ?_
                  refine j_cond rfl (fun hb => ?_) (fun hb => ?_)
                  · have h38 := cT h37 hb
                    refine go hΓ 9 rfl ?_
                    obtain ⟨v39, hv39, h40⟩ := bi_ok h38
                    obtain rfl := Option.some.inj h40
                    obtain rfl := hout16 _ rfl
                    obtain rfl := Option.some.inj h11
                    refine go hΓ 4 rfl ?_
                    obtain rfl := Option.some.inj hv39
                    exact fin_pure hΓ (.inr rfl) rfl rfl
                  · have h41 := cF h37 hb
                    refine go hΓ 7 rfl ?_
                    refine j_cond rfl (fun hb => ?_) (fun hb => ?_)
                    · have h42 := cT h41 hb
                      refine go hΓ 9 rfl ?_
                      obtain ⟨v43, hv43, h44⟩ := bi_ok h42
                      obtain rfl := Option.some.inj h44
                      obtain rfl := hout16 _ rfl
                      obtain rfl := Option.some.inj h11
                      refine go hΓ 4 rfl ?_
                      obtain rfl := Option.some.inj hv43
                      exact fin_pure hΓ (.inr rfl) rfl rfl
                    · have h45 := cF h41 hb
                      refine go hΓ 8 rfl ?_
                      refine o_cut 2 [(1, .ptr 0 0), (21, .d (Sl e_api_Record z.Records)), (22, I (z.Records.length : Int)), (23, I (i7 : Int)), (73, B (((x34.Name : Str) == x9.Name) && (((x9.Kind : Int) == 5) || ((x34.Kind : Int) == 5))))] [.box 52 [S z.Root, .d (Sl e_api_Record z.Records)], .box 94 [S x9.Name, I x9.Kind, B x9.Addr.Six, U x9.Addr.Hi, U x9.Addr.Lo, S x9.To, S x9.Words, I x9.Life], .box 94 [S x34.Name, I x34.Kind, B x34.Addr.Six, U x34.Addr.Hi, U x34.Addr.Lo, S x34.To, S x34.Words, I x34.Life]] ?_ ?_
                      · refine eo_gsplit rfl rfl (fun hb => ?_) (fun hb => ?_)
                        · refine go_ops hΓ 3 rfl ?_
                          exact ⟨⟨rfl, rfl, rfl, rfl, get_b rfl (and_t hb), trivial⟩, [], rfl, .inl rfl⟩
                        · refine go_ops hΓ 3 rfl ?_
                          exact ⟨⟨rfl, rfl, rfl, rfl, get_b rfl (and_f hb), trivial⟩, [], rfl, .inl rfl⟩
                      · refine go_ops hΓ 3 rfl ?_
                        refine j_cond rfl (fun hb => ?_) (fun hb => ?_)
                        · have h46 := cT h45 hb
                          refine go hΓ 9 rfl ?_
                          obtain ⟨v47, hv47, h48⟩ := bi_ok h46
                          obtain rfl := Option.some.inj h48
                          obtain rfl := hout16 _ rfl
                          obtain rfl := Option.some.inj h11
                          refine go hΓ 4 rfl ?_
                          obtain rfl := Option.some.inj hv47
                          exact fin_pure hΓ (.inr rfl) rfl rfl
                        · have h49 := cF h45 hb
                          refine go hΓ 8 rfl ?_
                          obtain rfl := Option.some.inj h49
                          exact ⟨_, rfl, ⟨⟨rfl, rfl, rfl, get_eq rfl (w64_succ (Nat.lt_of_lt_of_le hlt hb13)), trivial⟩, [_, _], rfl, .inr ⟨HB.mk rfl, FB.mk rfl, (Nat.le_of_ble_eq_true rfl)⟩⟩⟩
        · subst hgo
          refine go hΓ 6 rfl ?_
          refine j_condF rfl (decide_eq_false (Int.lt_irrefl _)) ?_
          refine go hΓ 4 rfl ?_
          exact ⟨_, rfl, ⟨trivial, [], rfl, .inl rfl⟩⟩
      · intro a12 ha
        subst ha
        replace h11 := goI_l h11
        refine go hΓ 7 rfl ?_
        obtain rfl := Option.some.inj h11
        exact fin_pure hΓ (.inr rfl) rfl rfl
set_option maxHeartbeats 8000000 in
theorem c_laneref1_ZoneFrom {k : Nat} {root : Str} {life : Int} {l : List T_api_Called} {nodes : List T_api_Node} {r : T_api_Zone × Int} (h : m_laneref1_ZoneFrom k root life l nodes = some r) : Pure Tryz.prog 23 [S root, I life, .d (Sl e_api_Called l), .d (Sl e_api_Node nodes)] (.tup [.agg [S r.1.Root, .d (Sl e_api_Record r.1.Records)], I r.2]) := by
  refine Pure.enter (Fr.of 0 _) Tryz.func23 rfl (Fr.of_ok _) rfl rfl ?_
  refine go_in ?_
  unfold m_laneref1_ZoneFrom at h
  refine go hΓ 2 rfl ?_
  refine eo_alloc hΓ rfl rfl rfl (Nat.le_of_ble_eq_true rfl) ?_
  refine go_ops hΓ 6 rfl ?_
  refine eo_s (Nat.le_of_ble_eq_true rfl) (nblt.1 rfl) (ops_nilAt 94 8 1 (OpP.s (op_buildX hΓ [1] (gs := [S root, .d (.v (.slice none 0 0))]) rfl rfl rfl rfl rfl rfl)) rfl) ?_
  refine eo_alloc hΓ rfl rfl rfl (Nat.le_of_ble_eq_true rfl) ?_
  refine eo_store hΓ rfl rfl rfl rfl rfl rfl rfl rfl (Nat.le_of_ble_eq_true rfl) ?_
  refine eo_hp [.box 52 [S [], .d (Sl e_api_Record [])], .row 94 8 ([] : List T_api_Record).length (([] : List T_api_Record).flatMap e_api_Record), .box 52 [S root, .sl 1 ([] : List T_api_Record).length]] rfl ?_
  refine go_ops hΓ 10 rfl ?_
  obtain ⟨q4, hq4, h5⟩ := bi_ok h
  refine j_bound 23 rfl fun hb7 => ?_
  refine j_cutNZ [(8, .ptr 0 0), (10, .ptr 2 0)] [.box 52 [S [], .d (Sl e_api_Record [])], .row 94 8 q4.length (q4.flatMap e_api_Record), .box 52 [S root, .sl 1 q4.length]] ?_ ?_
  · refine go hΓ 1 rfl ?_
    refine j_rangeF nodes hq4 (fun i1 s2 => [(0, S root), (1, I life), (2, .d (Sl e_api_Called l)), (8, .ptr 0 0), (10, .ptr 2 0), (23, .d (Sl e_api_Node nodes)), (24, I (nodes.length : Int)), (25, I (i1 : Int))]) (fun s2 => [.box 52 [S [], .d (Sl e_api_Record [])], .row 94 8 s2.length (s2.flatMap e_api_Record), .box 52 [S root, .sl 1 s2.length]]) ⟨⟨rfl, rfl, rfl, rfl, rfl, rfl, rfl, rfl, trivial⟩, [], rfl, .inl rfl⟩ (fun i1 x3 s2 y11 hx8 hlt hy9 => ?_) (?_)
    · refine go hΓ 6 rfl ?_
      refine j_condT rfl (decide_eq_true (Int.ofNat_lt.2 hlt)) ?_
      refine go hΓ 6 rfl ?_
      refine eo_o rfl (op_elemZ hΓ (enc := e_api_Node) (getZ_nat hx8) rfl rfl rfl rfl rfl (fun _ => rfl)) ?_
      refine go_ops hΓ 1 rfl ?_
      refine eo_alloc hΓ rfl rfl rfl (Nat.le_of_ble_eq_true rfl) ?_
      refine eo_store hΓ rfl rfl rfl rfl rfl rfl rfl rfl (Nat.le_of_ble_eq_true rfl) ?_
      refine eo_hp [.box 52 [S [], .d (Sl e_api_Record [])], .row 94 8 s2.length (s2.flatMap e_api_Record), .box 52 [S root, .sl 1 s2.length], .box 81 [S x3.Key, S x3.User, S x3.Name, .d (Sl eS x3.Tags), .d (Sl e_api_Addr x3.Addrs), .d (Sl e_api_Prefix x3.Routes)]] rfl ?_
      refine go_ops hΓ 9 rfl ?_
      obtain ⟨q15, hq15, h16⟩ := bi_ok hy9
      refine j_bound 2 rfl fun hb18 => ?_
      refine j_cutNZ [(0, S root), (1, I life), (2, .d (Sl e_api_Called l)), (8, .ptr 0 0), (10, .ptr 2 0), (23, .d (Sl e_api_Node nodes)), (24, I (nodes.length : Int)), (25, I (i1 : Int))] [.box 52 [S [], .d (Sl e_api_Record [])], .row 94 8 q15.length (q15.flatMap e_api_Record), .box 52 [S root, .sl 1 q15.length], .box 81 [S x3.Key, S x3.User, S x3.Name, .d (Sl eS x3.Tags), .d (Sl e_api_Addr x3.Addrs), .d (Sl e_api_Prefix x3.Routes)]] ?_ ?_
      · refine go hΓ 1 rfl ?_
        refine j_rangeF l hq15 (fun i12 s13 => [(0, S root), (1, I life), (2, .d (Sl e_api_Called l)), (8, .ptr 0 0), (10, .ptr 2 0), (12, .ptr 3 0), (23, .d (Sl e_api_Node nodes)), (24, I (nodes.length : Int)), (25, I (i1 : Int)), (29, .d (Sl e_api_Called l)), (30, I (l.length : Int)), (31, I (i12 : Int))]) (fun s13 => [.box 52 [S [], .d (Sl e_api_Record [])], .row 94 8 s13.length (s13.flatMap e_api_Record), .box 52 [S root, .sl 1 s13.length], .box 81 [S x3.Key, S x3.User, S x3.Name, .d (Sl eS x3.Tags), .d (Sl e_api_Addr x3.Addrs), .d (Sl e_api_Prefix x3.Routes)]]) ⟨⟨rfl, rfl, rfl, rfl, rfl, rfl, rfl, rfl, rfl, rfl, rfl, rfl, trivial⟩, [], rfl, .inl rfl⟩ (fun i12 x14 s13 y22 hx19 hlt hy20 => ?_) (?_)
        · refine go hΓ 6 rfl ?_
          refine j_condT rfl (decide_eq_true (Int.ofNat_lt.2 hlt)) ?_
          refine go hΓ 6 rfl ?_
          refine eo_o rfl (op_elemZ hΓ (enc := e_api_Called) (getZ_nat hx19) rfl rfl rfl rfl rfl (fun _ => rfl)) ?_
          refine go_ops hΓ 1 rfl ?_
          refine eo_alloc hΓ rfl rfl rfl (Nat.le_of_ble_eq_true rfl) ?_
          refine eo_store hΓ rfl rfl rfl rfl rfl rfl rfl rfl (Nat.le_of_ble_eq_true rfl) ?_
          refine eo_hp [.box 52 [S [], .d (Sl e_api_Record [])], .row 94 8 s13.length (s13.flatMap e_api_Record), .box 52 [S root, .sl 1 s13.length], .box 81 [S x3.Key, S x3.User, S x3.Name, .d (Sl eS x3.Tags), .d (Sl e_api_Addr x3.Addrs), .d (Sl e_api_Prefix x3.Routes)], .box 76 [S x14.Node, S x14.Label]] rfl ?_
          refine go_ops hΓ 12 rfl ?_
          refine j_cond rfl (fun hb => ?_) (fun hb => ?_)
          · have h23 := cT hy20 hb
            refine go hΓ 8 rfl ?_
            obtain rfl := Option.some.inj h23
            exact ⟨⟨rfl, rfl, rfl, rfl, rfl, rfl, rfl, rfl, rfl, rfl, rfl, get_eq rfl (w64_succ (Nat.lt_of_lt_of_le hlt hb18)), trivial⟩, [_], rfl, .inr ⟨HB.mk rfl, FB.mk rfl, (Nat.le_of_ble_eq_true rfl)⟩⟩
          · have h24 := cF hy20 hb
            obtain ⟨y25, hy25, h26⟩ := bi_ok h24
            refine go hΓ 6 rfl ?_
            refine eo_o rfl (op_catZ hy25 rfl rfl) ?_
            obtain ⟨y27, hy27, h28⟩ := bi_ok h26
            refine go_ops hΓ 1 rfl ?_
            refine eo_o rfl (op_catZ hy27 rfl rfl) ?_
            refine go_ops hΓ 11 rfl ?_
            obtain ⟨q32, hq32, h33⟩ := bi_ok h28
            refine j_bound 46 rfl fun hb35 => ?_
            refine j_cutNZ [(0, S root), (1, I life), (2, .d (Sl e_api_Called l)), (8, .ptr 0 0), (10, .ptr 2 0), (12, .ptr 3 0), (23, .d (Sl e_api_Node nodes)), (24, I (nodes.length : Int)), (25, I (i1 : Int)), (29, .d (Sl e_api_Called l)), (30, I (l.length : Int)), (31, I (i12 : Int))] [.box 52 [S [], .d (Sl e_api_Record [])], .row 94 8 q32.length (q32.flatMap e_api_Record), .box 52 [S root, .sl 1 q32.length], .box 81 [S x3.Key, S x3.User, S x3.Name, .d (Sl eS x3.Tags), .d (Sl e_api_Addr x3.Addrs), .d (Sl e_api_Prefix x3.Routes)], .box 76 [S x14.Node, S x14.Label]] ?_ ?_
            · refine go hΓ 1 rfl ?_
              refine j_rangeF x3.Addrs hq32 (fun i29 s30 => [(0, S root), (1, I life), (2, .d (Sl e_api_Called l)), (8, .ptr 0 0), (10, .ptr 2 0), (12, .ptr 3 0), (15, S y27), (23, .d (Sl e_api_Node nodes)), (24, I (nodes.length : Int)), (25, I (i1 : Int)), (29, .d (Sl e_api_Called l)), (30, I (l.length : Int)), (31, I (i12 : Int)), (46, .d (Sl e_api_Addr x3.Addrs)), (47, I (x3.Addrs.length : Int)), (48, I (i29 : Int))]) (fun s30 => [.box 52 [S [], .d (Sl e_api_Record [])], .row 94 8 s30.length (s30.flatMap e_api_Record), .box 52 [S root, .sl 1 s30.length], .box 81 [S x3.Key, S x3.User, S x3.Name, .d (Sl eS x3.Tags), .d (Sl e_api_Addr x3.Addrs), .d (Sl e_api_Prefix x3.Routes)], .box 76 [S x14.Node, S x14.Label]]) ⟨⟨rfl, rfl, rfl, rfl, rfl, rfl, rfl, rfl, rfl, rfl, rfl, rfl, rfl, rfl, rfl, rfl, trivial⟩, [], rfl, .inl rfl⟩ (fun i29 x31 s30 y39 hx36 hlt hy37 => ?_) (?_)
              · refine go hΓ 6 rfl ?_
                refine j_condT rfl (decide_eq_true (Int.ofNat_lt.2 hlt)) ?_
                refine go hΓ 6 rfl ?_
                refine eo_o rfl (op_elemZ hΓ (enc := e_api_Addr) (getZ_nat hx36) rfl rfl rfl rfl rfl (fun _ => rfl)) ?_
                refine go_ops hΓ 1 rfl ?_
                refine eo_alloc hΓ rfl rfl rfl (Nat.le_of_ble_eq_true rfl) ?_
                refine eo_store hΓ rfl rfl rfl rfl rfl rfl rfl rfl (Nat.le_of_ble_eq_true rfl) ?_
                refine eo_hp [.box 52 [S [], .d (Sl e_api_Record [])], .row 94 8 s30.length (s30.flatMap e_api_Record), .box 52 [S root, .sl 1 s30.length], .box 81 [S x3.Key, S x3.User, S x3.Name, .d (Sl eS x3.Tags), .d (Sl e_api_Addr x3.Addrs), .d (Sl e_api_Prefix x3.Routes)], .box 76 [S x14.Node, S x14.Label], .box 28 [B x31.Six, U x31.Hi, U x31.Lo]] rfl ?_
                obtain ⟨q40, hq40, h41⟩ := bi_ok hy37
                refine go_ops hΓ 14 rfl ?_
                refine j_cutNZ [(0, S root), (1, I life), (2, .d (Sl e_api_Called l)), (8, .ptr 0 0), (10, .ptr 2 0), (12, .ptr 3 0), (15, S y27), (17, .ptr 5 0), (18, I q40), (23, .d (Sl e_api_Node nodes)), (24, I (nodes.length : Int)), (25, I (i1 : Int)), (29, .d (Sl e_api_Called l)), (30, I (l.length : Int)), (31, I (i12 : Int)), (46, .d (Sl e_api_Addr x3.Addrs)), (47, I (x3.Addrs.length : Int)), (48, I (i29 : Int))] [.box 52 [S [], .d (Sl e_api_Record [])], .row 94 8 s30.length (s30.flatMap e_api_Record), .box 52 [S root, .sl 1 s30.length], .box 81 [S x3.Key, S x3.User, S x3.Name, .d (Sl eS x3.Tags), .d (Sl e_api_Addr x3.Addrs), .d (Sl e_api_Prefix x3.Routes)], .box 76 [S x14.Node, S x14.Label], .box 28 [B x31.Six, U x31.Hi, U x31.Lo]] ?_ ?_
                · refine j_cond rfl (fun hb => ?_) (fun hb => ?_)
                  · have h42 := cT hq40 hb
                    refine go hΓ 3 rfl ?_
                    obtain rfl := Option.some.inj h42
                    exact ⟨⟨rfl, rfl, rfl, rfl, rfl, rfl, rfl, rfl, rfl, rfl, rfl, rfl, rfl, rfl, rfl, rfl, rfl, rfl, trivial⟩, [], rfl, .inl rfl⟩
                  · have h43 := cF hq40 hb
                    refine go hΓ 1 rfl ?_
                    obtain rfl := Option.some.inj h43
                    exact ⟨⟨rfl, rfl, rfl, rfl, rfl, rfl, rfl, rfl, rfl, rfl, rfl, rfl, rfl, rfl, rfl, rfl, rfl, rfl, trivial⟩, [], rfl, .inl rfl⟩
                · refine go hΓ 9 rfl ?_
                  refine eo_build hΓ (gs := [S y27, I q40, B x31.Six, U x31.Hi, U x31.Lo, S [], S [], I life]) rfl rfl rfl rfl rfl rfl rfl ?_
                  refine eo_litT hΓ (enc := e_api_Record) [(⟨y27, q40, x31, [], [], life⟩ : T_api_Record)] rfl rfl rfl rfl rfl rfl rfl rfl rfl rfl rfl rfl (Nat.le_of_ble_eq_true rfl) ?_
                  obtain ⟨y44, hy44, h45⟩ := bi_ok h41
                  refine eo_forg 1 [.box 52 [S [], .d (Sl e_api_Record [])], .row 94 8 s30.length (s30.flatMap e_api_Record), .box 52 [S root, .junk], .box 81 [S x3.Key, S x3.User, S x3.Name, .d (Sl eS x3.Tags), .d (Sl e_api_Addr x3.Addrs), .d (Sl e_api_Prefix x3.Routes)], .box 76 [S x14.Node, S x14.Label], .box 28 [B x31.Six, U x31.Hi, U x31.Lo]] rfl (Nat.le_of_ble_eq_true rfl) ?_
                  refine eo_appendT hΓ (enc := e_api_Record) hy44 rfl rfl rfl rfl rfl rfl rfl rfl rfl (fun _ => rfl) rfl rfl rfl rfl ?_
                  refine go_ops hΓ 1 rfl ?_
                  refine eo_store hΓ rfl rfl rfl rfl rfl rfl rfl rfl (Nat.le_of_ble_eq_true rfl) ?_
                  refine eo_hp [.box 52 [S [], .d (Sl e_api_Record [])], .row 94 8 y44.length (y44.flatMap e_api_Record), .box 52 [S root, .sl 1 y44.length], .box 81 [S x3.Key, S x3.User, S x3.Name, .d (Sl eS x3.Tags), .d (Sl e_api_Addr x3.Addrs), .d (Sl e_api_Prefix x3.Routes)], .box 76 [S x14.Node, S x14.Label], .box 28 [B x31.Six, U x31.Hi, U x31.Lo]] rfl ?_
                  obtain ⟨y46, hy46, h47⟩ := bi_ok h45
                  refine go_ops hΓ 5 rfl ?_
                  refine eo_callP (callable Tryz.func8 rfl rfl) (c_laneref1_BackName hy46) rfl (Nat.le_of_ble_eq_true rfl) rfl rfl rfl rfl rfl ?_
                  obtain ⟨y48, hy48, h49⟩ := bi_ok h47
                  refine go_ops hΓ 7 rfl ?_
                  refine eo_callP (callable Tryz.func53 rfl rfl) (c_laneref1_IsUnder hy48) rfl (Nat.le_of_ble_eq_true rfl) rfl rfl rfl rfl rfl ?_
                  refine go_ops hΓ 2 rfl ?_
                  refine j_cond rfl (fun hb => ?_) (fun hb => ?_)
                  · have h50 := cT h49 hb
                    refine go hΓ 6 rfl ?_
                    refine eo_build hΓ (gs := [S y46, I 12, B false, U 0, U 0, S y27, S [], I life]) rfl rfl rfl rfl rfl rfl rfl ?_
                    refine eo_litT hΓ (enc := e_api_Record) [(⟨y46, 12, (⟨false, 0, 0⟩ : T_api_Addr), y27, [], life⟩ : T_api_Record)] rfl rfl rfl rfl rfl rfl rfl rfl rfl rfl rfl rfl (Nat.le_of_ble_eq_true rfl) ?_
                    obtain ⟨y51, hy51, h52⟩ := bi_ok h50
                    refine eo_forg 1 [.box 52 [S [], .d (Sl e_api_Record [])], .row 94 8 y44.length (y44.flatMap e_api_Record), .box 52 [S root, .junk], .box 81 [S x3.Key, S x3.User, S x3.Name, .d (Sl eS x3.Tags), .d (Sl e_api_Addr x3.Addrs), .d (Sl e_api_Prefix x3.Routes)], .box 76 [S x14.Node, S x14.Label], .box 28 [B x31.Six, U x31.Hi, U x31.Lo]] rfl (Nat.le_of_ble_eq_true rfl) ?_
                    refine eo_appendT hΓ (enc := e_api_Record) hy51 rfl rfl rfl rfl rfl rfl rfl rfl rfl (fun _ => rfl) rfl rfl rfl rfl ?_
                    refine go_ops hΓ 1 rfl ?_
                    refine eo_store hΓ rfl rfl rfl rfl rfl rfl rfl rfl (Nat.le_of_ble_eq_true rfl) ?_
                    refine eo_hp [.box 52 [S [], .d (Sl e_api_Record [])], .row 94 8 y51.length (y51.flatMap e_api_Record), .box 52 [S root, .sl 1 y51.length], .box 81 [S x3.Key, S x3.User, S x3.Name, .d (Sl eS x3.Tags), .d (Sl e_api_Addr x3.Addrs), .d (Sl e_api_Prefix x3.Routes)], .box 76 [S x14.Node, S x14.Label], .box 28 [B x31.Six, U x31.Hi, U x31.Lo]] rfl ?_
                    refine go_ops hΓ 7 rfl ?_
                    obtain rfl := Option.some.inj h52
                    exact ⟨⟨rfl, rfl, rfl, rfl, rfl, rfl, rfl, rfl, rfl, rfl, rfl, rfl, rfl, rfl, rfl, get_eq rfl (w64_succ (Nat.lt_of_lt_of_le hlt hb35)), trivial⟩, [_], rfl, .inr ⟨HB.mk rfl, FB.mk rfl, (Nat.le_of_ble_eq_true rfl)⟩⟩
                  · have h53 := cF h49 hb
                    refine go hΓ 7 rfl ?_
                    obtain rfl := Option.some.inj h53
                    exact ⟨⟨rfl, rfl, rfl, rfl, rfl, rfl, rfl, rfl, rfl, rfl, rfl, rfl, rfl, rfl, rfl, get_eq rfl (w64_succ (Nat.lt_of_lt_of_le hlt hb35)), trivial⟩, [_], rfl, .inr ⟨HB.mk rfl, FB.mk rfl, (Nat.le_of_ble_eq_true rfl)⟩⟩
              · refine go hΓ 6 rfl ?_
                refine j_condF rfl (decide_eq_false (Int.lt_irrefl _)) ?_
                refine go hΓ 4 rfl ?_
                exact ⟨⟨rfl, rfl, rfl, rfl, rfl, rfl, rfl, rfl, rfl, rfl, rfl, rfl, trivial⟩, [], rfl, .inl rfl⟩
            · refine go hΓ 6 rfl ?_
              obtain rfl := Option.some.inj h33
              exact ⟨⟨rfl, rfl, rfl, rfl, rfl, rfl, rfl, rfl, rfl, rfl, rfl, get_eq rfl (w64_succ (Nat.lt_of_lt_of_le hlt hb18)), trivial⟩, [_], rfl, .inr ⟨HB.mk rfl, FB.mk rfl, (Nat.le_of_ble_eq_true rfl)⟩⟩
        · refine go hΓ 6 rfl ?_
          refine j_condF rfl (decide_eq_false (Int.lt_irrefl _)) ?_
          refine go hΓ 4 rfl ?_
          exact ⟨⟨rfl, rfl, rfl, rfl, rfl, rfl, rfl, rfl, trivial⟩, [], rfl, .inl rfl⟩
      · refine go hΓ 6 rfl ?_
        obtain rfl := Option.some.inj h16
        exact ⟨⟨rfl, rfl, rfl, rfl, rfl, rfl, rfl, get_eq rfl (w64_succ (Nat.lt_of_lt_of_le hlt hb7)), trivial⟩, [_], rfl, .inr ⟨HB.mk rfl, FB.mk rfl, (Nat.le_of_ble_eq_true rfl)⟩⟩
    · refine go hΓ 6 rfl ?_
      refine j_condF rfl (decide_eq_false (Int.lt_irrefl _)) ?_
      refine go hΓ 4 rfl ?_
      exact ⟨⟨rfl, rfl, trivial⟩, [], rfl, .inl rfl⟩
  · obtain ⟨y54, hy54, h55⟩ := bi_ok h5
    refine go hΓ 5 rfl ?_
    refine eo_callF [1] (.tup []) [.box 52 [S [], .d (Sl e_api_Record [])], .row 94 8 y54.length (y54.flatMap e_api_Record), .box 52 [S root, .sl 1 q4.length]] (callable Tryz.func54 rfl rfl) (c_slices_SortStableFunc_api_Record_api_Record hy54) rfl (Nat.le_of_ble_eq_true rfl) rfl rfl rfl rfl rfl rfl rfl rfl rfl rfl ?_
    obtain ⟨hg57, h56⟩ := gd_ok h55
    refine eo_hp [.box 52 [S [], .d (Sl e_api_Record [])], .row 94 8 y54.length (y54.flatMap e_api_Record), .box 52 [S root, .sl 1 y54.length]] (by rw [of_decide_eq_true hg57]) ?_
    refine go_ops hΓ 6 rfl ?_
    refine eo_shr 1 [84] _ [.box 52 [S [], .d (Sl e_api_Record [])], .dead, .box 52 [S root, .d (Sl e_api_Record y54)]] rfl rfl rfl (Nat.le_of_ble_eq_true rfl) ?_
    obtain ⟨y58, hy58, h59⟩ := bi_ok h56
    refine eo_callP (callable Tryz.func56 rfl rfl) (c_laneref1_ZoneFault hy58) rfl (Nat.le_of_ble_eq_true rfl) rfl rfl rfl rfl rfl ?_
    refine go_ops hΓ 9 rfl ?_
    refine j_cond rfl (fun hb => ?_) (fun hb => ?_)
    · have h60 := cT h59 hb
      refine go hΓ 2 rfl ?_
      refine eo_s (Nat.le_of_ble_eq_true rfl) (nblt.1 rfl) (ops_nilAt 94 8 1 (OpP.s (op_buildX hΓ [1] (gs := [S [], .d (.v (.slice none 0 0))]) rfl rfl rfl rfl rfl rfl)) rfl) ?_
      refine go_ops hΓ 1 rfl ?_
      refine eo_shr 3 [88] _ [.box 52 [S [], .d (Sl e_api_Record [])], .dead, .box 52 [S root, .d (Sl e_api_Record y54)], .dead] rfl rfl rfl (Nat.le_of_ble_eq_true rfl) ?_
      refine eo_store hΓ rfl rfl rfl rfl rfl rfl rfl rfl (Nat.le_of_ble_eq_true rfl) ?_
      refine eo_hp [.box 52 [S [], .d (Sl e_api_Record ([] : List T_api_Record))], .dead, .box 52 [S root, .d (Sl e_api_Record y54)], .dead] rfl ?_
      refine go_ops hΓ 5 rfl ?_
      obtain rfl := Option.some.inj h60
      exact fin_pure hΓ (.inr rfl) rfl rfl
    · have h61 := cF h59 hb
      refine go hΓ 5 rfl ?_
      refine eo_store hΓ rfl rfl rfl rfl rfl rfl rfl rfl (Nat.le_of_ble_eq_true rfl) ?_
      refine eo_hp [.box 52 [S root, .d (Sl e_api_Record y54)], .dead, .box 52 [S root, .d (Sl e_api_Record y54)]] rfl ?_
      refine go_ops hΓ 4 rfl ?_
      obtain rfl := Option.some.inj h61
      exact fin_pure hΓ (.inr rfl) rfl rfl
set_option maxHeartbeats 8000000 in
theorem c_lanelaw1_ZonesMade {k : Nat} {l : List Int} {r : Bool} (h : m_lanelaw1_ZonesMade k l = some r) : Pure Tryz.prog 4 [.d (Sl (eN .i64) l)] (B r) := by
  refine Pure.enter (Fr.of 0 _) Tryz.func4 rfl (Fr.of_ok _) rfl rfl ?_
  refine go_in ?_
  unfold m_lanelaw1_ZonesMade at h
  refine go hΓ 8 rfl ?_
  refine eo_build hΓ (gs := [.d (Sl (eN .i64) l), I 0]) rfl rfl rfl rfl rfl rfl rfl ?_
  refine eo_box rfl rfl rfl rfl (Nat.le_of_ble_eq_true rfl) ?_
  refine go_ops hΓ 6 rfl ?_
  refine eo_litT hΓ (enc := eS) [[110, 101, 116, 46, 120], [110, 101, 116, 46, 120], [54, 52, 46, 49, 48, 48, 46, 105, 110, 45, 97, 100, 100, 114, 46, 97, 114, 112, 97], [97, 114, 112, 97], []] rfl rfl rfl rfl rfl rfl rfl rfl rfl rfl rfl rfl (Nat.le_of_ble_eq_true rfl) ?_
  obtain ⟨y1, hy1, h2⟩ := bi_ok h
  refine eo_callF [0] (S y1.1) [.box 25 [.d (Sl (eN .i64) y1.2.L), I y1.2.v_at]] (callable Tryz.func16 rfl rfl) (c_lanemake_Stream_Some hy1) rfl (Nat.le_of_ble_eq_true rfl) rfl rfl rfl rfl rfl rfl rfl rfl rfl rfl ?_
  refine go_ops hΓ 1 rfl ?_
  refine eo_litT hΓ (enc := (eN .i64)) [0, 300, -1, 1000001] rfl rfl rfl rfl rfl rfl rfl rfl rfl rfl rfl rfl (Nat.le_of_ble_eq_true rfl) ?_
  obtain ⟨y3, hy3, h4⟩ := bi_ok h2
  refine eo_callF [0] (I y3.1) [.box 25 [.d (Sl (eN .i64) y3.2.L), I y3.2.v_at]] (callable Tryz.func17 rfl rfl) (c_lanemake_Stream_Pick hy3) rfl (Nat.le_of_ble_eq_true rfl) rfl rfl rfl rfl rfl rfl rfl rfl rfl rfl ?_
  obtain ⟨y5, hy5, h6⟩ := bi_ok h4
  refine go_ops hΓ 1 rfl ?_
  refine eo_callF [0] (.sl 1 y5.1.length) [.box 25 [.d (Sl (eN .i64) y5.2.L), I y5.2.v_at], .row 76 2 y5.1.length (y5.1.flatMap e_api_Called)] (callable Tryz.func18 rfl rfl) (c_lanemake_Stream_Called hy5) rfl (Nat.le_of_ble_eq_true rfl) rfl rfl rfl rfl rfl rfl rfl rfl rfl rfl ?_
  refine eo_shr 1 [23] _ [.box 25 [.d (Sl (eN .i64) y5.2.L), I y5.2.v_at], .dead] rfl rfl rfl (Nat.le_of_ble_eq_true rfl) ?_
  obtain ⟨y7, hy7, h8⟩ := bi_ok h6
  refine go_ops hΓ 1 rfl ?_
  refine eo_callF [0] (.sl 2 y7.1.length) [.box 25 [.d (Sl (eN .i64) y7.2.L), I y7.2.v_at], .dead, .row 81 6 y7.1.length (y7.1.flatMap e_api_Node)] (callable Tryz.func19 rfl rfl) (c_lanemake_Stream_Nodes hy7) rfl (Nat.le_of_ble_eq_true rfl) rfl rfl rfl rfl rfl rfl rfl rfl rfl rfl ?_
  refine eo_shr 2 [25] _ [.box 25 [.d (Sl (eN .i64) y7.2.L), I y7.2.v_at], .dead, .dead] rfl rfl rfl (Nat.le_of_ble_eq_true rfl) ?_
  obtain ⟨y9, hy9, h10⟩ := bi_ok h8
  refine go_ops hΓ 12 rfl ?_
  refine eo_callP (callable Tryz.func20 rfl rfl) (c_name_ZoneOf hy9) rfl (Nat.le_of_ble_eq_true rfl) rfl rfl rfl rfl rfl ?_
  refine go_ops hΓ 3 rfl ?_
  refine eo_alloc hΓ rfl rfl rfl (Nat.le_of_ble_eq_true rfl) ?_
  refine eo_store hΓ rfl rfl rfl rfl rfl rfl rfl rfl (Nat.le_of_ble_eq_true rfl) ?_
  refine eo_hp [.box 25 [.d (Sl (eN .i64) y7.2.L), I y7.2.v_at], .dead, .dead, .box 52 [S y9.1.Root, .d (Sl e_api_Record y9.1.Records)]] rfl ?_
  obtain ⟨y11, hy11, h12⟩ := bi_ok h10
  refine go_ops hΓ 10 rfl ?_
  refine eo_callP (callable Tryz.func21 rfl rfl) (c_laneref1_CalledFault hy11) rfl (Nat.le_of_ble_eq_true rfl) rfl rfl rfl rfl rfl ?_
  refine go_ops hΓ 9 rfl ?_
  refine j_cond rfl (fun hb => ?_) (fun hb => ?_)
  · have h13 := cT h12 hb
    refine go hΓ 6 rfl ?_
    obtain ⟨q14, hq14, h15⟩ := bi_ok h13
    refine o_cut 4 [(2, B false), (48, B q14)] [.box 25 [.d (Sl (eN .i64) y7.2.L), I y7.2.v_at], .dead, .dead, .box 52 [S y9.1.Root, .d (Sl e_api_Record y9.1.Records)]] ?_ ?_
    · refine eo_gsplit rfl rfl (fun hb => ?_) (fun hb => ?_)
      · have h16 := cT hq14 hb
        refine go_ops hΓ 1 rfl ?_
        refine eo_guard rfl ?_
        refine eo_build hΓ (gs := [S [], .d (Sl e_api_Record [])]) rfl rfl rfl rfl rfl rfl rfl ?_
        obtain ⟨y17, hy17, h18⟩ := bi_ok h16
        refine eo_guard rfl ?_
        refine eo_callP (callable Tryz.func22 rfl rfl) (c_laneref1_SameZone hy17) rfl (Nat.le_of_ble_eq_true rfl) rfl rfl rfl rfl rfl ?_
        refine go_ops hΓ 2 rfl ?_
        obtain rfl := Option.some.inj h18
        exact ⟨⟨rfl, rfl, trivial⟩, [], rfl, .inl rfl⟩
      · have h19 := cF hq14 hb
        refine go_ops hΓ 5 rfl ?_
        obtain rfl := Option.some.inj h19
        exact ⟨⟨rfl, rfl, trivial⟩, [], rfl, .inl rfl⟩
    · refine go_ops hΓ 1 rfl ?_
      obtain ⟨q20, hq20, h21⟩ := bi_ok h15
      refine o_cut 2 [(2, B false), (51, B q20)] [.box 25 [.d (Sl (eN .i64) y7.2.L), I y7.2.v_at], .dead, .dead, .box 52 [S y9.1.Root, .d (Sl e_api_Record y9.1.Records)]] ?_ ?_
      · refine eo_gsplit rfl rfl (fun hb => ?_) (fun hb => ?_)
        · have h22 := cT hq20 hb
          obtain ⟨y23, hy23, h24⟩ := bi_ok h22
          refine eo_guard rfl ?_
          refine eo_callP (callable Tryz.func14 rfl rfl) (c_lanelaw1_named hy23) rfl (Nat.le_of_ble_eq_true rfl) rfl rfl rfl rfl rfl ?_
          refine go_ops hΓ 2 rfl ?_
          obtain rfl := Option.some.inj h24
          exact ⟨⟨rfl, rfl, trivial⟩, [], rfl, .inl rfl⟩
        · have h25 := cF hq20 hb
          refine go_ops hΓ 3 rfl ?_
          obtain rfl := Option.some.inj h25
          exact ⟨⟨rfl, rfl, trivial⟩, [], rfl, .inl rfl⟩
      · refine go_ops hΓ 5 rfl ?_
        obtain rfl := Option.some.inj h21
        exact fin_pure hΓ (.inr rfl) rfl rfl
  · have h26 := cF h12 hb
    obtain ⟨y27, hy27, h28⟩ := bi_ok h26
    refine go hΓ 8 rfl ?_
    refine eo_callP (callable Tryz.func23 rfl rfl) (c_laneref1_ZoneFrom hy27) rfl (Nat.le_of_ble_eq_true rfl) rfl rfl rfl rfl rfl ?_
    refine go_ops hΓ 3 rfl ?_
    refine eo_alloc hΓ rfl rfl rfl (Nat.le_of_ble_eq_true rfl) ?_
    refine eo_store hΓ rfl rfl rfl rfl rfl rfl rfl rfl (Nat.le_of_ble_eq_true rfl) ?_
    refine eo_hp [.box 25 [.d (Sl (eN .i64) y7.2.L), I y7.2.v_at], .dead, .dead, .box 52 [S y9.1.Root, .d (Sl e_api_Record y9.1.Records)], .box 52 [S y27.1.Root, .d (Sl e_api_Record y27.1.Records)]] rfl ?_
    refine go_ops hΓ 9 rfl ?_
    obtain ⟨q29, hq29, h30⟩ := bi_ok h28
    refine o_cut 4 [(2, B false), (67, B q29)] [.box 25 [.d (Sl (eN .i64) y7.2.L), I y7.2.v_at], .dead, .dead, .box 52 [S y9.1.Root, .d (Sl e_api_Record y9.1.Records)], .box 52 [S y27.1.Root, .d (Sl e_api_Record y27.1.Records)]] ?_ ?_
    · refine eo_gsplit rfl rfl (fun hb => ?_) (fun hb => ?_)
      · have h31 := cT hq29 hb
        obtain ⟨y32, hy32, h33⟩ := bi_ok h31
        refine go_ops hΓ 2 rfl ?_
        refine eo_guard rfl ?_
        refine eo_callP (callable Tryz.func22 rfl rfl) (c_laneref1_SameZone hy32) rfl (Nat.le_of_ble_eq_true rfl) rfl rfl rfl rfl rfl ?_
        refine go_ops hΓ 2 rfl ?_
        obtain rfl := Option.some.inj h33
        exact ⟨⟨rfl, rfl, trivial⟩, [], rfl, .inl rfl⟩
      · have h34 := cF hq29 hb
        refine go_ops hΓ 5 rfl ?_
        obtain rfl := Option.some.inj h34
        exact ⟨⟨rfl, rfl, trivial⟩, [], rfl, .inl rfl⟩
    · refine go_ops hΓ 1 rfl ?_
      obtain ⟨q35, hq35, h36⟩ := bi_ok h30
      refine o_cut 2 [(2, B false), (70, B q35)] [.box 25 [.d (Sl (eN .i64) y7.2.L), I y7.2.v_at], .dead, .dead, .box 52 [S y9.1.Root, .d (Sl e_api_Record y9.1.Records)], .box 52 [S y27.1.Root, .d (Sl e_api_Record y27.1.Records)]] ?_ ?_
      · refine eo_gsplit rfl rfl (fun hb => ?_) (fun hb => ?_)
        · have h37 := cT hq35 hb
          obtain ⟨y38, hy38, h39⟩ := bi_ok h37
          refine eo_guard rfl ?_
          refine eo_callP (callable Tryz.func14 rfl rfl) (c_lanelaw1_named hy38) rfl (Nat.le_of_ble_eq_true rfl) rfl rfl rfl rfl rfl ?_
          refine go_ops hΓ 2 rfl ?_
          obtain rfl := Option.some.inj h39
          exact ⟨⟨rfl, rfl, trivial⟩, [], rfl, .inl rfl⟩
        · have h40 := cF hq35 hb
          refine go_ops hΓ 3 rfl ?_
          obtain rfl := Option.some.inj h40
          exact ⟨⟨rfl, rfl, trivial⟩, [], rfl, .inl rfl⟩
      · refine go_ops hΓ 4 rfl ?_
        obtain rfl := Option.some.inj h36
        exact fin_pure hΓ (.inr rfl) rfl rfl
end Go.Proofs.YtffmljbfffojlaaGreatDoor
