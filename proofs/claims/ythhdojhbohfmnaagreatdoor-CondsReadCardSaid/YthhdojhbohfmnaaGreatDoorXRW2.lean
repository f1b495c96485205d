/-
  The functions compute their models.
-/
import Derived.Test.YthhdojhbohfmnaaGreatDoorXRM
import Derived.Test.YthhdojhbohfmnaaGreatDoorGt
import Derived.Test.YthhdojhbohfmnaaGreatDoorStr
import Derived.Test.YthhdojhbohfmnaaGreatDoorStr9
import Derived.Test.YthhdojhbohfmnaaGreatDoorXRW1
set_option linter.unusedVariables false
set_option linter.unusedSimpArgs false
set_option maxRecDepth 100000
namespace Go.Proofs.YthhdojhbohfmnaaGreatDoor
open Go.Gk
theorem c_posture_condFault {k : Nat} {c : T_api_Cond} {r : Int} (h : m_posture_condFault k c = some r) : Pure Tryz.prog 165 [.agg [I c.Kind, S c.Name, S c.Op, I c.Value.Kind, I c.Value.Number, S c.Value.Words, I c.Value.Version.1, I c.Value.Version.2.1, I c.Value.Version.2.2.1, I c.Value.Version.2.2.2, .d (.ro c.Kids.n c.Kids.xs)]] (I r) := by
  induction k generalizing c r with
  | zero => unfold m_posture_condFault at h; cases h
  | succ k ih0 =>
    have ih : ∀ {c : T_api_Cond} {r : Int}, m_posture_condFault k c = some r → Pure Tryz.prog 165 [.agg [I c.Kind, S c.Name, S c.Op, I c.Value.Kind, I c.Value.Number, S c.Value.Words, I c.Value.Version.1, I c.Value.Version.2.1, I c.Value.Version.2.2.1, I c.Value.Version.2.2.2, .d (.ro c.Kids.n c.Kids.xs)]] (I r) := by intro c r h; first | exact ih0 h | exact ih0 _ _ h
    refine Pure.enter (Fr.of 0 _) Tryz.func165 rfl (Fr.of_ok _) rfl rfl ?_
    refine go_in ?_
    unfold m_posture_condFault at h
    refine go hΓ 2 rfl ?_
    refine eo_box rfl rfl rfl rfl (Nat.le_of_ble_eq_true rfl) ?_
    obtain ⟨y1, hy1, h2⟩ := bi_ok h
    refine go_ops hΓ 8 rfl ?_
    refine eo_callP (callable Tryz.func94 rfl rfl) (c_kit_Outside hy1) rfl (Nat.le_of_ble_eq_true rfl) rfl rfl rfl rfl rfl ?_
    refine go_ops hΓ 2 rfl ?_
    refine j_cond rfl (fun hb => ?_) (fun hb => ?_)
    · have h3 := cT h2 hb
      refine go hΓ 7 rfl ?_
      obtain rfl := Option.some.inj h3
      exact fin_pure hΓ (.inr rfl) rfl rfl
    · have h4 := cF h2 hb
      obtain ⟨y5, hy5, h6⟩ := bi_ok h4
      refine go hΓ 6 rfl ?_
      refine eo_callP (callable Tryz.func219 rfl rfl) (c_posture_nodeForm hy5) rfl (Nat.le_of_ble_eq_true rfl) rfl rfl rfl rfl rfl ?_
      refine go_ops hΓ 3 rfl ?_
      refine j_cond rfl (fun hb => ?_) (fun hb => ?_)
      · have h7 := cT h6 hb
        refine go hΓ 7 rfl ?_
        obtain rfl := Option.some.inj h7
        exact fin_pure hΓ (.inr rfl) rfl rfl
      · have h8 := cF h6 hb
        obtain ⟨q9, hq9, h10⟩ := bi_ok h8
        refine go hΓ 10 rfl ?_
        refine j_cutSZ (q := q9) (fun a11 => [(1, .ptr 0 0)]) (fun a11 => [.box 32 [I c.Kind, S c.Name, S c.Op, I c.Value.Kind, I c.Value.Number, S c.Value.Words, I c.Value.Version.1, I c.Value.Version.2.1, I c.Value.Version.2.2.1, I c.Value.Version.2.2.2, .d (.ro c.Kids.n c.Kids.xs)]]) ?_ ?_
        · refine j_cond rfl (fun hb => ?_) (fun hb => ?_)
          · have h12 := cT hq9 hb
            obtain ⟨y13, hy13, h14⟩ := bi_ok h12
            refine go hΓ 6 rfl ?_
            refine eo_callP (callable Tryz.func116 rfl rfl) (c_kit_IsKey hy13) rfl (Nat.le_of_ble_eq_true rfl) rfl rfl rfl rfl rfl ?_
            refine go_ops hΓ 2 rfl ?_
            refine o_cut 4 [(1, .ptr 0 0), (25, B ((!y13) || ((c.Name : Str) == [116, 114, 117, 101])))] [.box 32 [I c.Kind, S c.Name, S c.Op, I c.Value.Kind, I c.Value.Number, S c.Value.Words, I c.Value.Version.1, I c.Value.Version.2.1, I c.Value.Version.2.2.1, I c.Value.Version.2.2.2, .d (.ro c.Kids.n c.Kids.xs)]] ?_ ?_
            · refine eo_gsplit rfl rfl (fun hb => ?_) (fun hb => ?_)
              · refine go_ops hΓ 5 rfl ?_
                exact ⟨⟨rfl, get_b rfl (or_t hb), trivial⟩, [], rfl, .inl rfl⟩
              · refine go_ops hΓ 5 rfl ?_
                exact ⟨⟨rfl, get_b rfl (or_f hb), trivial⟩, [], rfl, .inl rfl⟩
            · refine go_ops hΓ 1 rfl ?_
              refine o_cut 4 [(1, .ptr 0 0), (30, B (((!y13) || ((c.Name : Str) == [116, 114, 117, 101])) || ((c.Name : Str) == [102, 97, 108, 115, 101])))] [.box 32 [I c.Kind, S c.Name, S c.Op, I c.Value.Kind, I c.Value.Number, S c.Value.Words, I c.Value.Version.1, I c.Value.Version.2.1, I c.Value.Version.2.2.1, I c.Value.Version.2.2.2, .d (.ro c.Kids.n c.Kids.xs)]] ?_ ?_
              · refine eo_gsplit rfl rfl (fun hb => ?_) (fun hb => ?_)
                · refine go_ops hΓ 5 rfl ?_
                  exact ⟨⟨rfl, get_b rfl (or_t hb), trivial⟩, [], rfl, .inl rfl⟩
                · refine go_ops hΓ 5 rfl ?_
                  exact ⟨⟨rfl, get_b rfl (or_f hb), trivial⟩, [], rfl, .inl rfl⟩
              · refine go_ops hΓ 1 rfl ?_
                obtain ⟨q15, hq15, h16⟩ := bi_ok h14
                refine o_cut 4 [(1, .ptr 0 0), (35, B q15)] [.box 32 [I c.Kind, S c.Name, S c.Op, I c.Value.Kind, I c.Value.Number, S c.Value.Words, I c.Value.Version.1, I c.Value.Version.2.1, I c.Value.Version.2.2.1, I c.Value.Version.2.2.2, .d (.ro c.Kids.n c.Kids.xs)]] ?_ ?_
                · refine eo_gsplit rfl rfl (fun hb => ?_) (fun hb => ?_)
                  · have h17 := cT hq15 hb
                    refine go_ops hΓ 5 rfl ?_
                    obtain rfl := Option.some.inj h17
                    exact ⟨⟨rfl, rfl, trivial⟩, [], rfl, .inl rfl⟩
                  · have h18 := cF hq15 hb
                    obtain ⟨y19, hy19, h20⟩ := bi_ok h18
                    refine go_ops hΓ 2 rfl ?_
                    refine eo_guard rfl ?_
                    refine eo_callP (callable Tryz.func215 rfl rfl) (c_posture_isVersion hy19) rfl (Nat.le_of_ble_eq_true rfl) rfl rfl rfl rfl rfl ?_
                    refine go_ops hΓ 2 rfl ?_
                    obtain rfl := Option.some.inj h20
                    exact ⟨⟨rfl, rfl, trivial⟩, [], rfl, .inl rfl⟩
                · refine go_ops hΓ 3 rfl ?_
                  refine j_cond rfl (fun hb => ?_) (fun hb => ?_)
                  · have h21 := cT h16 hb
                    refine go hΓ 8 rfl ?_
                    obtain ⟨v22, hv22, h23⟩ := bi_ok h21
                    obtain rfl := Option.some.inj h23
                    obtain rfl := Option.some.inj h10
                    refine go hΓ 2 rfl ?_
                    obtain rfl := Option.some.inj hv22
                    exact fin_pure hΓ (.inr rfl) rfl rfl
                  · have h24 := cF h16 hb
                    obtain ⟨y25, hy25, h26⟩ := bi_ok h24
                    refine go hΓ 4 rfl ?_
                    refine eo_callP (callable Tryz.func220 rfl rfl) (c_posture_isOp hy25) rfl (Nat.le_of_ble_eq_true rfl) rfl rfl rfl rfl rfl ?_
                    refine go_ops hΓ 4 rfl ?_
                    refine j_cond rfl (fun hb => ?_) (fun hb => ?_)
                    · have h27 := cT h26 hb
                      refine go hΓ 8 rfl ?_
                      obtain ⟨v28, hv28, h29⟩ := bi_ok h27
                      obtain rfl := Option.some.inj h29
                      obtain rfl := Option.some.inj h10
                      refine go hΓ 2 rfl ?_
                      obtain rfl := Option.some.inj hv28
                      exact fin_pure hΓ (.inr rfl) rfl rfl
                    · have h30 := cF h26 hb
                      obtain ⟨y31, hy31, h32⟩ := bi_ok h30
                      refine go hΓ 8 rfl ?_
                      refine eo_callP (callable Tryz.func124 rfl rfl) (c_posture_attrFault hy31) rfl (Nat.le_of_ble_eq_true rfl) rfl rfl rfl rfl rfl ?_
                      refine go_ops hΓ 9 rfl ?_
                      refine j_cond rfl (fun hb => ?_) (fun hb => ?_)
                      · have h33 := cT h32 hb
                        refine go hΓ 8 rfl ?_
                        obtain ⟨v34, hv34, h35⟩ := bi_ok h33
                        obtain rfl := Option.some.inj h35
                        obtain rfl := Option.some.inj h10
                        refine go hΓ 2 rfl ?_
                        obtain rfl := Option.some.inj hv34
                        exact fin_pure hΓ (.inr rfl) rfl rfl
                      · have h36 := cF h32 hb
                        refine go hΓ 9 rfl ?_
                        refine o_cut 4 [(1, .ptr 0 0), (55, B (((c.Value.Kind : Int) == 3) && (!((c.Op : Str) == [61, 61]))))] [.box 32 [I c.Kind, S c.Name, S c.Op, I c.Value.Kind, I c.Value.Number, S c.Value.Words, I c.Value.Version.1, I c.Value.Version.2.1, I c.Value.Version.2.2.1, I c.Value.Version.2.2.2, .d (.ro c.Kids.n c.Kids.xs)]] ?_ ?_
                        · refine eo_gsplit rfl rfl (fun hb => ?_) (fun hb => ?_)
                          · refine go_ops hΓ 5 rfl ?_
                            exact ⟨⟨rfl, get_b rfl (and_t hb), trivial⟩, [], rfl, .inl rfl⟩
                          · refine go_ops hΓ 5 rfl ?_
                            exact ⟨⟨rfl, get_b rfl (and_f hb), trivial⟩, [], rfl, .inl rfl⟩
                        · refine go_ops hΓ 1 rfl ?_
                          refine o_cut 4 [(1, .ptr 0 0), (60, B ((((c.Value.Kind : Int) == 3) && (!((c.Op : Str) == [61, 61]))) && (!((c.Op : Str) == [33, 61]))))] [.box 32 [I c.Kind, S c.Name, S c.Op, I c.Value.Kind, I c.Value.Number, S c.Value.Words, I c.Value.Version.1, I c.Value.Version.2.1, I c.Value.Version.2.2.1, I c.Value.Version.2.2.2, .d (.ro c.Kids.n c.Kids.xs)]] ?_ ?_
                          · refine eo_gsplit rfl rfl (fun hb => ?_) (fun hb => ?_)
                            · refine go_ops hΓ 5 rfl ?_
                              exact ⟨⟨rfl, get_b rfl (and_t hb), trivial⟩, [], rfl, .inl rfl⟩
                            · refine go_ops hΓ 5 rfl ?_
                              exact ⟨⟨rfl, get_b rfl (and_f hb), trivial⟩, [], rfl, .inl rfl⟩
                          · refine go_ops hΓ 2 rfl ?_
                            refine j_cond rfl (fun hb => ?_) (fun hb => ?_)
                            · have h37 := cT h36 hb
                              refine go hΓ 6 rfl ?_
                              obtain ⟨v38, hv38, h39⟩ := bi_ok h37
                              obtain rfl := Option.some.inj h39
                              obtain rfl := Option.some.inj h10
                              refine go hΓ 2 rfl ?_
                              obtain rfl := Option.some.inj hv38
                              exact fin_pure hΓ (.inr rfl) rfl rfl
                            · have h40 := cF h36 hb
                              refine go hΓ 1 rfl ?_
                              obtain rfl := Option.some.inj h40
                              exact ⟨_, rfl, ⟨⟨rfl, trivial⟩, [], rfl, .inl rfl⟩⟩
          · have h41 := cF hq9 hb
            refine go hΓ 1 rfl ?_
            obtain rfl := Option.some.inj h41
            exact ⟨_, rfl, ⟨⟨rfl, trivial⟩, [], rfl, .inl rfl⟩⟩
        · intro a11 ha
          subst ha
          replace h10 := orI_l h10
          obtain ⟨l42, hl42, h43⟩ := bi_ok h10
          refine go hΓ 5 rfl ?_
          refine eo_o rfl (op_le (pst_ok hΓ (g := .d (.ro c.Kids.n c.Kids.xs)) rfl) (G.Le.unk dk_api_Cond hl42)) ?_
          refine go_ops hΓ 4 rfl ?_
          obtain ⟨q47, hq47, h48⟩ := bi_ok h43
          refine j_bound 62 rfl fun hb50 => ?_
          refine j_cutEZ (R := fun a49 => q47 = .go a49) (fun a49 => []) (fun a49 => [.box 32 [I c.Kind, S c.Name, S c.Op, I c.Value.Kind, I c.Value.Number, S c.Value.Words, I c.Value.Version.1, I c.Value.Version.2.1, I c.Value.Version.2.2.1, I c.Value.Version.2.2.2, .d (.ro c.Kids.n c.Kids.xs)]]) ?_ ?_
          · refine go hΓ 1 rfl ?_
            refine j_range l42 hq47 (fun i44 s45 => [(62, .d (Sl e_api_Cond l42)), (63, I (l42.length : Int)), (64, I (i44 : Int))]) (fun s45 => [.box 32 [I c.Kind, S c.Name, S c.Op, I c.Value.Kind, I c.Value.Number, S c.Value.Words, I c.Value.Version.1, I c.Value.Version.2.1, I c.Value.Version.2.2.1, I c.Value.Version.2.2.2, .d (.ro c.Kids.n c.Kids.xs)]]) ⟨⟨rfl, rfl, rfl, trivial⟩, [], rfl, .inl rfl⟩ (fun i44 x46 s45 y54 hx51 hlt hy52 hout53 => ?_) (fun s45 hgo => ?_)
            · refine go hΓ 6 rfl ?_
              refine j_condT rfl (decide_eq_true (Int.ofNat_lt.2 hlt)) ?_
              refine go hΓ 6 rfl ?_
              refine eo_o rfl (op_elemZ hΓ (enc := e_api_Cond) (getZ_nat hx51) rfl rfl rfl rfl rfl (fun _ => rfl)) ?_
              refine go_ops hΓ 1 rfl ?_
              refine eo_alloc hΓ rfl rfl rfl (Nat.le_of_ble_eq_true rfl) ?_
              refine eo_store hΓ rfl rfl rfl rfl rfl rfl rfl rfl (Nat.le_of_ble_eq_true rfl) ?_
              refine eo_hp [.box 32 [I c.Kind, S c.Name, S c.Op, I c.Value.Kind, I c.Value.Number, S c.Value.Words, I c.Value.Version.1, I c.Value.Version.2.1, I c.Value.Version.2.2.1, I c.Value.Version.2.2.2, .d (.ro c.Kids.n c.Kids.xs)], .box 32 [I x46.Kind, S x46.Name, S x46.Op, I x46.Value.Kind, I x46.Value.Number, S x46.Value.Words, I x46.Value.Version.1, I x46.Value.Version.2.1, I x46.Value.Version.2.2.1, I x46.Value.Version.2.2.2, .d (.ro x46.Kids.n x46.Kids.xs)]] rfl ?_
              obtain ⟨y55, hy55, h56⟩ := bi_ok hy52
              refine go_ops hΓ 5 rfl ?_
              refine eo_callP (callable Tryz.func165 rfl rfl) (ih hy55) rfl (Nat.le_of_ble_eq_true rfl) rfl rfl rfl rfl rfl ?_
              refine go_ops hΓ 9 rfl ?_
              refine j_cond rfl (fun hb => ?_) (fun hb => ?_)
              · have h57 := cT h56 hb
                refine go hΓ 9 rfl ?_
                obtain ⟨v58, hv58, h59⟩ := bi_ok h57
                obtain rfl := Option.some.inj h59
                obtain rfl := hout53 _ rfl
                obtain rfl := Option.some.inj h48
                refine go hΓ 4 rfl ?_
                obtain rfl := Option.some.inj hv58
                exact fin_pure hΓ (.inr rfl) rfl rfl
              · have h60 := cF h56 hb
                refine go hΓ 7 rfl ?_
                obtain rfl := Option.some.inj h60
                exact ⟨_, rfl, ⟨⟨rfl, rfl, get_eq rfl (w64_succ (Nat.lt_of_lt_of_le hlt hb50)), trivial⟩, [_], rfl, .inr ⟨HB.mk rfl, FB.mk rfl, (Nat.le_of_ble_eq_true rfl)⟩⟩⟩
            · subst hgo
              refine go hΓ 6 rfl ?_
              refine j_condF rfl (decide_eq_false (Int.lt_irrefl _)) ?_
              refine go hΓ 4 rfl ?_
              exact ⟨_, rfl, ⟨trivial, [], rfl, .inl rfl⟩⟩
          · intro a49 ha
            subst ha
            replace h48 := goI_l h48
            refine go hΓ 7 rfl ?_
            obtain rfl := Option.some.inj h48
            exact fin_pure hΓ (.inr rfl) rfl rfl
theorem c_posture_CheckCond {k : Nat} {c : T_api_Cond} {r : Int} (h : m_posture_CheckCond k c = some r) : Pure Tryz.prog 84 [.agg [I c.Kind, S c.Name, S c.Op, I c.Value.Kind, I c.Value.Number, S c.Value.Words, I c.Value.Version.1, I c.Value.Version.2.1, I c.Value.Version.2.2.1, I c.Value.Version.2.2.2, .d (.ro c.Kids.n c.Kids.xs)]] (I r) := by
  refine Pure.enter (Fr.of 0 _) Tryz.func84 rfl (Fr.of_ok _) rfl rfl ?_
  refine go_in ?_
  unfold m_posture_CheckCond at h
  refine go hΓ 2 rfl ?_
  refine eo_box rfl rfl rfl rfl (Nat.le_of_ble_eq_true rfl) ?_
  obtain ⟨y1, hy1, h2⟩ := bi_ok h
  refine go_ops hΓ 7 rfl ?_
  refine eo_callP (callable Tryz.func164 rfl rfl) (c_posture_size hy1) rfl (Nat.le_of_ble_eq_true rfl) rfl rfl rfl rfl rfl ?_
  refine go_ops hΓ 12 rfl ?_
  refine o_cut 3 [(1, .ptr 0 0), (15, B ((decide ((y1.1 : Int) > 100)) || (decide ((y1.2 : Int) > 30))))] [.box 32 [I c.Kind, S c.Name, S c.Op, I c.Value.Kind, I c.Value.Number, S c.Value.Words, I c.Value.Version.1, I c.Value.Version.2.1, I c.Value.Version.2.2.1, I c.Value.Version.2.2.2, .d (.ro c.Kids.n c.Kids.xs)]] ?_ ?_
  · refine eo_gsplit rfl rfl (fun hb => ?_) (fun hb => ?_)
    · refine go_ops hΓ 4 rfl ?_
      exact ⟨⟨rfl, get_b rfl (or_t hb), trivial⟩, [], rfl, .inl rfl⟩
    · refine go_ops hΓ 4 rfl ?_
      exact ⟨⟨rfl, get_b rfl (or_f hb), trivial⟩, [], rfl, .inl rfl⟩
  · refine go_ops hΓ 2 rfl ?_
    refine j_cond rfl (fun hb => ?_) (fun hb => ?_)
    · have h3 := cT h2 hb
      refine go hΓ 7 rfl ?_
      obtain rfl := Option.some.inj h3
      exact fin_pure hΓ (.inr rfl) rfl rfl
    · have h4 := cF h2 hb
      obtain ⟨y5, hy5, h6⟩ := bi_ok h4
      refine go hΓ 5 rfl ?_
      refine eo_callP (callable Tryz.func165 rfl rfl) (c_posture_condFault hy5) rfl (Nat.le_of_ble_eq_true rfl) rfl rfl rfl rfl rfl ?_
      refine go_ops hΓ 4 rfl ?_
      obtain rfl := Option.some.inj h6
      exact fin_pure hΓ (.inr rfl) rfl rfl
set_option maxHeartbeats 8000000 in
theorem c_posture_Parse {k : Nat} {text : Str} {r : T_api_Cond × Int × Int} (h : m_posture_Parse k text = some r) : Pure Tryz.prog 9 [S text] (.tup [.agg [I r.1.Kind, S r.1.Name, S r.1.Op, I r.1.Value.Kind, I r.1.Value.Number, S r.1.Value.Words, I r.1.Value.Version.1, I r.1.Value.Version.2.1, I r.1.Value.Version.2.2.1, I r.1.Value.Version.2.2.2, .d (.ro r.1.Kids.n r.1.Kids.xs)], I r.2.1, I r.2.2]) := by
  refine Pure.enter (Fr.of 0 _) Tryz.func9 rfl (Fr.of_ok _) rfl rfl ?_
  refine go_in ?_
  unfold m_posture_Parse at h
  refine go hΓ 2 rfl ?_
  refine eo_alloc hΓ rfl rfl rfl (Nat.le_of_ble_eq_true rfl) ?_
  refine go_ops hΓ 12 rfl ?_
  refine j_cond rfl (fun hb => ?_) (fun hb => ?_)
  · have h1 := cT h hb
    refine go hΓ 2 rfl ?_
    refine eo_build hΓ (gs := [I 0, S [], S [], I 0, I 0, S [], I 0, I 0, I 0, I 0, .d (.ro (KD.mk 0 []).n (KD.mk 0 []).xs)]) rfl rfl rfl rfl rfl rfl rfl ?_
    refine eo_store hΓ rfl rfl rfl rfl rfl rfl rfl rfl (Nat.le_of_ble_eq_true rfl) ?_
    refine eo_hp [.box 32 [I 0, S [], S [], I 0, I 0, S [], I 0, I 0, I 0, I 0, .d (.ro (KD.mk 0 []).n (KD.mk 0 []).xs)]] rfl ?_
    refine go_ops hΓ 6 rfl ?_
    obtain rfl := Option.some.inj h1
    exact fin_pure hΓ (.inr rfl) rfl rfl
  · have h2 := cF h hb
    refine go hΓ 5 rfl ?_
    refine eo_build hΓ (gs := [S text, S [], I 0, I 0, S [], I 0, I 0, S [], I 0, I 0, I 0, I 0, B false, I 0]) rfl rfl rfl rfl rfl rfl rfl ?_
    refine eo_box rfl rfl rfl rfl (Nat.le_of_ble_eq_true rfl) ?_
    obtain ⟨y3, hy3, h4⟩ := bi_ok h2
    refine go_ops hΓ 6 rfl ?_
    refine eo_callF [1] (.tup []) [.box 32 [I 0, S [], S [], I 0, I 0, S [], I 0, I 0, I 0, I 0, .d (.ro (KD.mk 0 []).n (KD.mk 0 []).xs)], .box 131 [S y3.s, S y3.tok.kind, I y3.tok.v_at, I y3.tok.v_end, S y3.tok.name, I y3.tok.value.Kind, I y3.tok.value.Number, S y3.tok.value.Words, I y3.tok.value.Version.1, I y3.tok.value.Version.2.1, I y3.tok.value.Version.2.2.1, I y3.tok.value.Version.2.2.2, B y3.bad, I y3.v_at]] (callable Tryz.func81 rfl rfl) (c_posture_parser_next hy3) rfl (Nat.le_of_ble_eq_true rfl) rfl rfl rfl rfl rfl rfl rfl rfl rfl rfl ?_
    obtain ⟨y5, hy5, h6⟩ := bi_ok h4
    refine go_ops hΓ 5 rfl ?_
    refine eo_callF [1] (.agg [I y5.1.Kind, S y5.1.Name, S y5.1.Op, I y5.1.Value.Kind, I y5.1.Value.Number, S y5.1.Value.Words, I y5.1.Value.Version.1, I y5.1.Value.Version.2.1, I y5.1.Value.Version.2.2.1, I y5.1.Value.Version.2.2.2, .d (.ro y5.1.Kids.n y5.1.Kids.xs)]) [.box 32 [I 0, S [], S [], I 0, I 0, S [], I 0, I 0, I 0, I 0, .d (.ro (KD.mk 0 []).n (KD.mk 0 []).xs)], .box 131 [S y5.2.s, S y5.2.tok.kind, I y5.2.tok.v_at, I y5.2.tok.v_end, S y5.2.tok.name, I y5.2.tok.value.Kind, I y5.2.tok.value.Number, S y5.2.tok.value.Words, I y5.2.tok.value.Version.1, I y5.2.tok.value.Version.2.1, I y5.2.tok.value.Version.2.2.1, I y5.2.tok.value.Version.2.2.2, B y5.2.bad, I y5.2.v_at]] (callable Tryz.func82 rfl rfl) (c_posture_parser_cond hy5) rfl (Nat.le_of_ble_eq_true rfl) rfl rfl rfl rfl rfl rfl rfl rfl rfl rfl ?_
    refine eo_alloc hΓ rfl rfl rfl (Nat.le_of_ble_eq_true rfl) ?_
    refine eo_store hΓ rfl rfl rfl rfl rfl rfl rfl rfl (Nat.le_of_ble_eq_true rfl) ?_
    refine eo_hp [.box 32 [I 0, S [], S [], I 0, I 0, S [], I 0, I 0, I 0, I 0, .d (.ro (KD.mk 0 []).n (KD.mk 0 []).xs)], .box 131 [S y5.2.s, S y5.2.tok.kind, I y5.2.tok.v_at, I y5.2.tok.v_end, S y5.2.tok.name, I y5.2.tok.value.Kind, I y5.2.tok.value.Number, S y5.2.tok.value.Words, I y5.2.tok.value.Version.1, I y5.2.tok.value.Version.2.1, I y5.2.tok.value.Version.2.2.1, I y5.2.tok.value.Version.2.2.2, B y5.2.bad, I y5.2.v_at], .box 32 [I y5.1.Kind, S y5.1.Name, S y5.1.Op, I y5.1.Value.Kind, I y5.1.Value.Number, S y5.1.Value.Words, I y5.1.Value.Version.1, I y5.1.Value.Version.2.1, I y5.1.Value.Version.2.2.1, I y5.1.Value.Version.2.2.2, .d (.ro y5.1.Kids.n y5.1.Kids.xs)]] rfl ?_
    refine go_ops hΓ 11 rfl ?_
    refine o_cut 7 [(2, .ptr 0 0), (5, .ptr 1 0), (6, .ptr 2 0), (31, B ((!y5.2.bad) && (!((y5.2.tok.kind : Str) == [101, 110, 100]))))] [.box 32 [I 0, S [], S [], I 0, I 0, S [], I 0, I 0, I 0, I 0, .d (.ro (KD.mk 0 []).n (KD.mk 0 []).xs)], .box 131 [S y5.2.s, S y5.2.tok.kind, I y5.2.tok.v_at, I y5.2.tok.v_end, S y5.2.tok.name, I y5.2.tok.value.Kind, I y5.2.tok.value.Number, S y5.2.tok.value.Words, I y5.2.tok.value.Version.1, I y5.2.tok.value.Version.2.1, I y5.2.tok.value.Version.2.2.1, I y5.2.tok.value.Version.2.2.2, B y5.2.bad, I y5.2.v_at], .box 32 [I y5.1.Kind, S y5.1.Name, S y5.1.Op, I y5.1.Value.Kind, I y5.1.Value.Number, S y5.1.Value.Words, I y5.1.Value.Version.1, I y5.1.Value.Version.2.1, I y5.1.Value.Version.2.2.1, I y5.1.Value.Version.2.2.2, .d (.ro y5.1.Kids.n y5.1.Kids.xs)]] ?_ ?_
    · refine eo_gsplit rfl rfl (fun hb => ?_) (fun hb => ?_)
      · refine go_ops hΓ 8 rfl ?_
        exact ⟨⟨rfl, rfl, rfl, get_b rfl (and_t hb), trivial⟩, [], rfl, .inl rfl⟩
      · refine go_ops hΓ 8 rfl ?_
        exact ⟨⟨rfl, rfl, rfl, get_b rfl (and_f hb), trivial⟩, [], rfl, .inl rfl⟩
    · obtain ⟨q7, hq7, h8⟩ := bi_ok h6
      refine go_ops hΓ 2 rfl ?_
      refine j_cutNZ [(2, .ptr 0 0), (5, .ptr 1 0), (6, .ptr 2 0)] [.box 32 [I 0, S [], S [], I 0, I 0, S [], I 0, I 0, I 0, I 0, .d (.ro (KD.mk 0 []).n (KD.mk 0 []).xs)], .box 131 [S q7.s, S q7.tok.kind, I q7.tok.v_at, I q7.tok.v_end, S q7.tok.name, I q7.tok.value.Kind, I q7.tok.value.Number, S q7.tok.value.Words, I q7.tok.value.Version.1, I q7.tok.value.Version.2.1, I q7.tok.value.Version.2.2.1, I q7.tok.value.Version.2.2.2, B q7.bad, I q7.v_at], .box 32 [I y5.1.Kind, S y5.1.Name, S y5.1.Op, I y5.1.Value.Kind, I y5.1.Value.Number, S y5.1.Value.Words, I y5.1.Value.Version.1, I y5.1.Value.Version.2.1, I y5.1.Value.Version.2.2.1, I y5.1.Value.Version.2.2.2, .d (.ro y5.1.Kids.n y5.1.Kids.xs)]] ?_ ?_
      · refine j_cond rfl (fun hb => ?_) (fun hb => ?_)
        · have h9 := cT hq7 hb
          obtain ⟨y10, hy10, h11⟩ := bi_ok h9
          refine go hΓ 2 rfl ?_
          refine eo_callF [1] (.agg [I y10.1.Kind, S y10.1.Name, S y10.1.Op, I y10.1.Value.Kind, I y10.1.Value.Number, S y10.1.Value.Words, I y10.1.Value.Version.1, I y10.1.Value.Version.2.1, I y10.1.Value.Version.2.2.1, I y10.1.Value.Version.2.2.2, .d (.ro y10.1.Kids.n y10.1.Kids.xs)]) [.box 32 [I 0, S [], S [], I 0, I 0, S [], I 0, I 0, I 0, I 0, .d (.ro (KD.mk 0 []).n (KD.mk 0 []).xs)], .box 131 [S y10.2.s, S y10.2.tok.kind, I y10.2.tok.v_at, I y10.2.tok.v_end, S y10.2.tok.name, I y10.2.tok.value.Kind, I y10.2.tok.value.Number, S y10.2.tok.value.Words, I y10.2.tok.value.Version.1, I y10.2.tok.value.Version.2.1, I y10.2.tok.value.Version.2.2.1, I y10.2.tok.value.Version.2.2.2, B y10.2.bad, I y10.2.v_at], .box 32 [I y5.1.Kind, S y5.1.Name, S y5.1.Op, I y5.1.Value.Kind, I y5.1.Value.Number, S y5.1.Value.Words, I y5.1.Value.Version.1, I y5.1.Value.Version.2.1, I y5.1.Value.Version.2.2.1, I y5.1.Value.Version.2.2.2, .d (.ro y5.1.Kids.n y5.1.Kids.xs)]] (callable Tryz.func83 rfl rfl) (c_posture_parser_fail hy10) rfl (Nat.le_of_ble_eq_true rfl) rfl rfl rfl rfl rfl rfl rfl rfl rfl rfl ?_
          refine go_ops hΓ 1 rfl ?_
          obtain rfl := Option.some.inj h11
          exact ⟨⟨rfl, rfl, rfl, trivial⟩, [], rfl, .inl rfl⟩
        · have h12 := cF hq7 hb
          refine go hΓ 1 rfl ?_
          obtain rfl := Option.some.inj h12
          exact ⟨⟨rfl, rfl, rfl, trivial⟩, [], rfl, .inl rfl⟩
      · refine go hΓ 10 rfl ?_
        refine j_cond rfl (fun hb => ?_) (fun hb => ?_)
        · have h13 := cT h8 hb
          refine go hΓ 1 rfl ?_
          refine j_drawE [.dead, .box 131 [S q7.s, S q7.tok.kind, I q7.tok.v_at, I q7.tok.v_end, S q7.tok.name, I q7.tok.value.Kind, I q7.tok.value.Number, S q7.tok.value.Words, I q7.tok.value.Version.1, I q7.tok.value.Version.2.1, I q7.tok.value.Version.2.2.1, I q7.tok.value.Version.2.2.2, B q7.bad, I q7.v_at]] [4] [5] [] hmix (by kernel_rfl) (by kernel_rfl) ⟨rfl, trivial⟩ (Nat.le_of_ble_eq_true rfl) ?_
          refine ge_q rfl (.inl rfl) (fun _ _ => qte_of_qt (qt_p (op_build hΓ (gs := [I 0, S [], S [], I 0, I 0, S [], I 0, I 0, I 0, I 0, .d (.ro (KD.mk 0 []).n (KD.mk 0 []).xs)]) rfl rfl rfl rfl rfl rfl))) ?_
          refine go_E hΓ 4 rfl ?_
          refine ge_h0 [.box 32 [I 0, S [], S [], I 0, I 0, S [], I 0, I 0, I 0, I 0, .d (.ro (KD.mk 0 []).n (KD.mk 0 []).xs)], .box 131 [S q7.s, S q7.tok.kind, I q7.tok.v_at, I q7.tok.v_end, S q7.tok.name, I q7.tok.value.Kind, I q7.tok.value.Number, S q7.tok.value.Words, I q7.tok.value.Version.1, I q7.tok.value.Version.2.1, I q7.tok.value.Version.2.2.1, I q7.tok.value.Version.2.2.2, B q7.bad, I q7.v_at], .box 32 [I y5.1.Kind, S y5.1.Name, S y5.1.Op, I y5.1.Value.Kind, I y5.1.Value.Number, S y5.1.Value.Words, I y5.1.Value.Version.1, I y5.1.Value.Version.2.1, I y5.1.Value.Version.2.2.1, I y5.1.Value.Version.2.2.2, .d (.ro y5.1.Kids.n y5.1.Kids.xs)]] rfl rfl (st_st ⟨rfl, trivial⟩) (qte_u (opu_store2 hΓ rfl rfl rfl rfl rfl rfl rfl rfl rfl)) ?_
          refine go_E hΓ 2 rfl ?_
          refine ge_fin ?_
          refine go hΓ 3 rfl ?_
          obtain rfl := Option.some.inj h13
          exact fin_pure hΓ (.inr rfl) rfl rfl
        · have h14 := cF h8 hb
          obtain ⟨y15, hy15, h16⟩ := bi_ok h14
          refine go hΓ 6 rfl ?_
          refine eo_callP (callable Tryz.func84 rfl rfl) (c_posture_CheckCond hy15) rfl (Nat.le_of_ble_eq_true rfl) rfl rfl rfl rfl rfl ?_
          refine go_ops hΓ 9 rfl ?_
          refine j_cond rfl (fun hb => ?_) (fun hb => ?_)
          · have h17 := cT h16 hb
            refine go hΓ 2 rfl ?_
            refine eo_build hΓ (gs := [I 0, S [], S [], I 0, I 0, S [], I 0, I 0, I 0, I 0, .d (.ro (KD.mk 0 []).n (KD.mk 0 []).xs)]) rfl rfl rfl rfl rfl rfl rfl ?_
            refine go_ops hΓ 1 rfl ?_
            refine eo_store hΓ rfl rfl rfl rfl rfl rfl rfl rfl (Nat.le_of_ble_eq_true rfl) ?_
            refine eo_hp [.box 32 [I 0, S [], S [], I 0, I 0, S [], I 0, I 0, I 0, I 0, .d (.ro (KD.mk 0 []).n (KD.mk 0 []).xs)], .box 131 [S q7.s, S q7.tok.kind, I q7.tok.v_at, I q7.tok.v_end, S q7.tok.name, I q7.tok.value.Kind, I q7.tok.value.Number, S q7.tok.value.Words, I q7.tok.value.Version.1, I q7.tok.value.Version.2.1, I q7.tok.value.Version.2.2.1, I q7.tok.value.Version.2.2.2, B q7.bad, I q7.v_at], .box 32 [I y5.1.Kind, S y5.1.Name, S y5.1.Op, I y5.1.Value.Kind, I y5.1.Value.Number, S y5.1.Value.Words, I y5.1.Value.Version.1, I y5.1.Value.Version.2.1, I y5.1.Value.Version.2.2.1, I y5.1.Value.Version.2.2.2, .d (.ro y5.1.Kids.n y5.1.Kids.xs)]] rfl ?_
            refine go_ops hΓ 6 rfl ?_
            obtain rfl := Option.some.inj h17
            exact fin_pure hΓ (.inr rfl) rfl rfl
          · have h18 := cF h16 hb
            refine go hΓ 5 rfl ?_
            refine eo_store hΓ rfl rfl rfl rfl rfl rfl rfl rfl (Nat.le_of_ble_eq_true rfl) ?_
            refine eo_hp [.box 32 [I y5.1.Kind, S y5.1.Name, S y5.1.Op, I y5.1.Value.Kind, I y5.1.Value.Number, S y5.1.Value.Words, I y5.1.Value.Version.1, I y5.1.Value.Version.2.1, I y5.1.Value.Version.2.2.1, I y5.1.Value.Version.2.2.2, .d (.ro y5.1.Kids.n y5.1.Kids.xs)], .box 131 [S q7.s, S q7.tok.kind, I q7.tok.v_at, I q7.tok.v_end, S q7.tok.name, I q7.tok.value.Kind, I q7.tok.value.Number, S q7.tok.value.Words, I q7.tok.value.Version.1, I q7.tok.value.Version.2.1, I q7.tok.value.Version.2.2.1, I q7.tok.value.Version.2.2.2, B q7.bad, I q7.v_at], .box 32 [I y5.1.Kind, S y5.1.Name, S y5.1.Op, I y5.1.Value.Kind, I y5.1.Value.Number, S y5.1.Value.Words, I y5.1.Value.Version.1, I y5.1.Value.Version.2.1, I y5.1.Value.Version.2.2.1, I y5.1.Value.Version.2.2.2, .d (.ro y5.1.Kids.n y5.1.Kids.xs)]] rfl ?_
            refine go_ops hΓ 5 rfl ?_
            obtain rfl := Option.some.inj h18
            exact fin_pure hΓ (.inr rfl) rfl rfl
theorem c_laneref1_span {s : Str} {v_some : Str} {r : Int} (h : m_laneref1_span s v_some = some r) : Pure Tryz.prog 166 [S s, S v_some] (I r) := by
  refine Pure.enter (Fr.of 0 _) Tryz.func166 rfl (Fr.of_ok _) rfl rfl ?_
  refine go_in ?_
  unfold m_laneref1_span at h
  obtain ⟨y1, hy1, h2⟩ := bi_ok h
  refine go hΓ 11 rfl ?_
  refine eo_callP (callable Tryz.func221 rfl rfl) (c_strings_TrimLeft hy1) rfl (Nat.le_of_ble_eq_true rfl) rfl rfl rfl rfl rfl ?_
  refine go_ops hΓ 6 rfl ?_
  obtain rfl := Option.some.inj h2
  exact fin_pure hΓ (.inr rfl) rfl rfl
theorem c_laneref1_in {n : Int} {low : Int} {high : Int} {r : Bool} (h : m_laneref1_in n low high = some r) : Pure Tryz.prog 104 [I n, I low, I high] (B r) := by
  refine Pure.enter (Fr.of 0 _) Tryz.func104 rfl (Fr.of_ok _) rfl rfl ?_
  refine go_in ?_
  unfold m_laneref1_in at h
  refine go hΓ 11 rfl ?_
  refine o_cut 4 [(6, B false), (14, B ((decide ((low : Int) ≤ n)) && (decide ((n : Int) ≤ high))))] [] ?_ ?_
  · refine eo_gsplit rfl rfl (fun hb => ?_) (fun hb => ?_)
    · refine go_ops hΓ 5 rfl ?_
      exact ⟨⟨rfl, get_b rfl (and_t hb), trivial⟩, [], rfl, .inl rfl⟩
    · refine go_ops hΓ 5 rfl ?_
      exact ⟨⟨rfl, get_b rfl (and_f hb), trivial⟩, [], rfl, .inl rfl⟩
  · refine go_ops hΓ 4 rfl ?_
    obtain rfl := Option.some.inj h
    exact fin_pure hΓ (.inr rfl) rfl rfl
set_option maxHeartbeats 8000000 in
theorem c_laneref1_quotedWords {k : Nat} {s : Str} {r : Str × Int} (h : m_laneref1_quotedWords k s = some r) : Pure Tryz.prog 168 [S s] (.tup [S r.1, I r.2]) := by
  refine Pure.enter (Fr.of 0 _) Tryz.func168 rfl (Fr.of_ok _) rfl rfl ?_
  refine go_in ?_
  unfold m_laneref1_quotedWords at h
  refine go hΓ 17 rfl ?_
  obtain ⟨q4, hq4, h5⟩ := bi_ok h
  refine j_cutEZ (R := fun a6 => q4 = .inl a6) (fun a6 => []) (fun a6 => []) ?_ ?_
  · refine go hΓ 1 rfl ?_
    refine j_loop hq4 (fun s2 => [(0, S s), (4, S s2.1), (5, I s2.2)]) (fun s2 => []) ⟨⟨rfl, rfl, rfl, trivial⟩, [], rfl, .inl rfl⟩ (fun s2 y10 hy8 hout9 => ?_)
    refine go hΓ 9 rfl ?_
    refine j_cond rfl (fun hb => ?_) (fun hb => ?_)
    · have h11 := cT hy8 hb
      obtain ⟨c12, hc12, h13⟩ := bi_ok h11
      refine go hΓ 8 rfl ?_
      refine eo_o rfl (op_byteZ hΓ hc12 rfl rfl rfl rfl) ?_
      refine go_ops hΓ 11 rfl ?_
      refine j_cond rfl (fun hb => ?_) (fun hb => ?_)
      · have h14 := cT h13 hb
        refine go hΓ 13 rfl ?_
        obtain ⟨v15, hv15, h16⟩ := bi_ok h14
        obtain rfl := Option.some.inj h16
        obtain rfl := hout9 _ rfl
        obtain rfl := Option.some.inj h5
        refine go hΓ 4 rfl ?_
        obtain rfl := Option.some.inj hv15
        exact fin_pure hΓ (.inr rfl) rfl rfl
      · have h17 := cF h13 hb
        refine go hΓ 7 rfl ?_
        refine j_cond rfl (fun hb => ?_) (fun hb => ?_)
        · have h18 := cT h17 hb
          refine go hΓ 15 rfl ?_
          obtain ⟨q19, hq19, h20⟩ := bi_ok h18
          refine o_cut 11 [(0, S s), (4, S s2.1), (5, I (wi (s2.2 + 1))), (49, B q19)] [] ?_ ?_
          · refine eo_gsplit rfl rfl (fun hb => ?_) (fun hb => ?_)
            · have h21 := cT hq19 hb
              refine go_ops hΓ 12 rfl ?_
              obtain rfl := Option.some.inj h21
              exact ⟨⟨rfl, rfl, rfl, rfl, trivial⟩, [], rfl, .inl rfl⟩
            · have h22 := cF hq19 hb
              obtain ⟨c23, hc23, h24⟩ := bi_ok h22
              refine go_ops hΓ 2 rfl ?_
              refine eo_guard rfl ?_
              refine eo_o rfl (op_byteZ hΓ hc23 rfl rfl rfl rfl) ?_
              refine go_ops hΓ 2 rfl ?_
              obtain ⟨q25, hq25, h26⟩ := bi_ok h24
              refine o_cut 5 [(0, S s), (4, S s2.1), (5, I (wi (s2.2 + 1))), (38, B false), (48, B q25)] [] ?_ ?_
              · refine eo_gsplit rfl rfl (fun hb => ?_) (fun hb => ?_)
                · have h27 := cT hq25 hb
                  obtain ⟨c28, hc28, h29⟩ := bi_ok h27
                  refine go_ops hΓ 2 rfl ?_
                  refine eo_guard rfl ?_
                  refine eo_o rfl (op_byteZ hΓ hc28 rfl rfl rfl rfl) ?_
                  refine go_ops hΓ 3 rfl ?_
                  obtain rfl := Option.some.inj h29
                  exact ⟨⟨rfl, rfl, rfl, rfl, rfl, trivial⟩, [], rfl, .inl rfl⟩
                · have h30 := cF hq25 hb
                  refine go_ops hΓ 6 rfl ?_
                  obtain rfl := Option.some.inj h30
                  exact ⟨⟨rfl, rfl, rfl, rfl, rfl, trivial⟩, [], rfl, .inl rfl⟩
              · refine go_ops hΓ 2 rfl ?_
                obtain rfl := Option.some.inj h26
                exact ⟨⟨rfl, rfl, rfl, rfl, trivial⟩, [], rfl, .inl rfl⟩
          · refine go_ops hΓ 2 rfl ?_
            refine j_cond rfl (fun hb => ?_) (fun hb => ?_)
            · have h31 := cT h20 hb
              refine go hΓ 11 rfl ?_
              obtain ⟨v32, hv32, h33⟩ := bi_ok h31
              obtain rfl := Option.some.inj h33
              obtain rfl := hout9 _ rfl
              obtain rfl := Option.some.inj h5
              refine go hΓ 4 rfl ?_
              obtain rfl := Option.some.inj hv32
              exact fin_pure hΓ (.inr rfl) rfl rfl
            · have h34 := cF h20 hb
              obtain ⟨z35, hz35, h36⟩ := bi_ok h34
              refine go hΓ 8 rfl ?_
              refine eo_o rfl (op_subZ hΓ hz35 rfl rfl rfl rfl rfl) ?_
              obtain ⟨y37, hy37, h38⟩ := bi_ok h36
              refine eo_o rfl (op_catZ hy37 rfl rfl) ?_
              refine go_ops hΓ 10 rfl ?_
              obtain rfl := Option.some.inj h38
              exact ⟨_, rfl, ⟨⟨rfl, rfl, rfl, trivial⟩, [], rfl, .inl rfl⟩⟩
        · have h39 := cF h17 hb
          obtain ⟨y40, hy40, h41⟩ := bi_ok h39
          refine go hΓ 4 rfl ?_
          refine eo_callP (callable Tryz.func104 rfl rfl) (c_laneref1_in hy40) rfl (Nat.le_of_ble_eq_true rfl) rfl rfl rfl rfl rfl ?_
          refine go_ops hΓ 4 rfl ?_
          refine j_cond rfl (fun hb => ?_) (fun hb => ?_)
          · have h42 := cT h41 hb
            refine go hΓ 10 rfl ?_
            obtain ⟨v43, hv43, h44⟩ := bi_ok h42
            obtain rfl := Option.some.inj h44
            obtain rfl := hout9 _ rfl
            obtain rfl := Option.some.inj h5
            refine go hΓ 4 rfl ?_
            obtain rfl := Option.some.inj hv43
            exact fin_pure hΓ (.inr rfl) rfl rfl
          · have h45 := cF h41 hb
            obtain ⟨z46, hz46, h47⟩ := bi_ok h45
            refine go hΓ 6 rfl ?_
            refine eo_o rfl (op_subZ hΓ hz46 rfl rfl rfl rfl rfl) ?_
            obtain ⟨y48, hy48, h49⟩ := bi_ok h47
            refine eo_o rfl (op_catZ hy48 rfl rfl) ?_
            refine go_ops hΓ 10 rfl ?_
            obtain rfl := Option.some.inj h49
            exact ⟨_, rfl, ⟨⟨rfl, rfl, rfl, trivial⟩, [], rfl, .inl rfl⟩⟩
    · have h50 := cF hy8 hb
      refine go hΓ 4 rfl ?_
      obtain rfl := Option.some.inj h50
      obtain rfl := hout9 _ rfl
      exact ⟨_, rfl, ⟨trivial, [], rfl, .inl rfl⟩⟩
  · intro a6 ha
    subst ha
    replace h5 := orI_l h5
    refine go hΓ 8 rfl ?_
    obtain rfl := Option.some.inj h5
    exact fin_pure hΓ (.inr rfl) rfl rfl
theorem c_laneref1_digit {s : Str} {i : Int} {r : Bool} (h : m_laneref1_digit s i = some r) : Pure Tryz.prog 169 [S s, I i] (B r) := by
  refine Pure.enter (Fr.of 0 _) Tryz.func169 rfl (Fr.of_ok _) rfl rfl ?_
  refine go_in ?_
  unfold m_laneref1_digit at h
  refine go hΓ 12 rfl ?_
  obtain ⟨q1, hq1, h2⟩ := bi_ok h
  refine o_cut 6 [(4, B false), (15, B q1)] [] ?_ ?_
  · refine eo_gsplit rfl rfl (fun hb => ?_) (fun hb => ?_)
    · have h3 := cT hq1 hb
      obtain ⟨c4, hc4, h5⟩ := bi_ok h3
      refine go_ops hΓ 2 rfl ?_
      refine eo_guard rfl ?_
      refine eo_o rfl (op_byteZ hΓ hc4 rfl rfl rfl rfl) ?_
      obtain ⟨y6, hy6, h7⟩ := bi_ok h5
      refine eo_guard rfl ?_
      refine eo_callP (callable Tryz.func223 rfl rfl) (c_strings_IndexByte hy6) rfl (Nat.le_of_ble_eq_true rfl) rfl rfl rfl rfl rfl ?_
      refine go_ops hΓ 3 rfl ?_
      obtain rfl := Option.some.inj h7
      exact ⟨⟨rfl, rfl, trivial⟩, [], rfl, .inl rfl⟩
    · have h8 := cF hq1 hb
      refine go_ops hΓ 7 rfl ?_
      obtain rfl := Option.some.inj h8
      exact ⟨⟨rfl, rfl, trivial⟩, [], rfl, .inl rfl⟩
  · refine go_ops hΓ 4 rfl ?_
    obtain rfl := Option.some.inj h2
    exact fin_pure hΓ (.inr rfl) rfl rfl
theorem c_laneref2_only {s : Str} {v_some : Str} {r : Bool} (h : m_laneref2_only s v_some = some r) : Pure Tryz.prog 183 [S s, S v_some] (B r) := by
  refine Pure.enter (Fr.of 0 _) Tryz.func183 rfl (Fr.of_ok _) rfl rfl ?_
  refine go_in ?_
  unfold m_laneref2_only at h
  obtain ⟨y1, hy1, h2⟩ := bi_ok h
  refine go hΓ 9 rfl ?_
  refine eo_callP (callable Tryz.func236 rfl rfl) (c_strings_Trim hy1) rfl (Nat.le_of_ble_eq_true rfl) rfl rfl rfl rfl rfl ?_
  refine go_ops hΓ 5 rfl ?_
  obtain rfl := Option.some.inj h2
  exact fin_pure hΓ (.inr rfl) rfl rfl
theorem c_laneref2_Number {s : Str} {most : Int} {r : Int × Bool} (h : m_laneref2_Number s most = some r) : Pure Tryz.prog 170 [S s, I most] (.tup [I r.1, B r.2]) := by
  refine Pure.enter (Fr.of 0 _) Tryz.func170 rfl (Fr.of_ok _) rfl rfl ?_
  refine go_in ?_
  unfold m_laneref2_Number at h
  obtain ⟨y1, hy1, h2⟩ := bi_ok h
  refine go hΓ 9 rfl ?_
  refine eo_callP (callable Tryz.func224 rfl rfl) (c_strings_TrimPrefix hy1) rfl (Nat.le_of_ble_eq_true rfl) rfl rfl rfl rfl rfl ?_
  refine go_ops hΓ 9 rfl ?_
  refine o_cut 5 [(0, S s), (6, S y1), (18, B (((y1 : Str) == []) || (decide (((y1.length : Int) : Int) > most))))] [] ?_ ?_
  · refine eo_gsplit rfl rfl (fun hb => ?_) (fun hb => ?_)
    · refine go_ops hΓ 6 rfl ?_
      exact ⟨⟨rfl, rfl, get_b rfl (or_t hb), trivial⟩, [], rfl, .inl rfl⟩
    · refine go_ops hΓ 6 rfl ?_
      exact ⟨⟨rfl, rfl, get_b rfl (or_f hb), trivial⟩, [], rfl, .inl rfl⟩
  · refine go_ops hΓ 1 rfl ?_
    obtain ⟨q3, hq3, h4⟩ := bi_ok h2
    refine o_cut 4 [(0, S s), (23, B q3)] [] ?_ ?_
    · refine eo_gsplit rfl rfl (fun hb => ?_) (fun hb => ?_)
      · have h5 := cT hq3 hb
        refine go_ops hΓ 5 rfl ?_
        obtain rfl := Option.some.inj h5
        exact ⟨⟨rfl, rfl, trivial⟩, [], rfl, .inl rfl⟩
      · have h6 := cF hq3 hb
        obtain ⟨y7, hy7, h8⟩ := bi_ok h6
        refine go_ops hΓ 1 rfl ?_
        refine eo_guard rfl ?_
        refine eo_callP (callable Tryz.func183 rfl rfl) (c_laneref2_only hy7) rfl (Nat.le_of_ble_eq_true rfl) rfl rfl rfl rfl rfl ?_
        refine go_ops hΓ 3 rfl ?_
        obtain rfl := Option.some.inj h8
        exact ⟨⟨rfl, rfl, trivial⟩, [], rfl, .inl rfl⟩
    · refine go_ops hΓ 2 rfl ?_
      refine j_cond rfl (fun hb => ?_) (fun hb => ?_)
      · have h9 := cT h4 hb
        refine go hΓ 8 rfl ?_
        obtain rfl := Option.some.inj h9
        exact fin_pure hΓ (.inr rfl) rfl rfl
      · have h10 := cF h4 hb
        obtain ⟨y11, hy11, h12⟩ := bi_ok h10
        refine go hΓ 5 rfl ?_
        refine eo_callP (callable Tryz.func225 rfl rfl) (c_strconv_Atoi hy11) rfl (Nat.le_of_ble_eq_true rfl) rfl rfl rfl rfl rfl ?_
        refine go_ops hΓ 11 rfl ?_
        refine eo_o rfl (op_ifaceNilE1 hΓ rfl rfl rfl rfl) ?_
        obtain ⟨y13, hy13, h14⟩ := bi_ok h12
        refine go_ops hΓ 2 rfl ?_
        refine eo_guard rfl ?_
        refine eo_callP (callable Tryz.func207 rfl rfl) (c_strconv_Itoa hy13) rfl (Nat.le_of_ble_eq_true rfl) rfl rfl rfl rfl rfl ?_
        refine go_ops hΓ 8 rfl ?_
        obtain rfl := Option.some.inj h14
        exact fin_pure hΓ (.inr rfl) rfl rfl
set_option maxHeartbeats 8000000 in
theorem c_laneref1_versionFrom {s : Str} {r : T_api_Attr × Int} (h : m_laneref1_versionFrom s = some r) : Pure Tryz.prog 171 [S s] (.tup [.agg [I r.1.Kind, I r.1.Number, S r.1.Words, I r.1.Version.1, I r.1.Version.2.1, I r.1.Version.2.2.1, I r.1.Version.2.2.2], I r.2]) := by
  refine Pure.enter (Fr.of 0 _) Tryz.func171 rfl (Fr.of_ok _) rfl rfl ?_
  refine go_in ?_
  unfold m_laneref1_versionFrom at h
  refine go hΓ 2 rfl ?_
  refine eo_alloc hΓ rfl rfl rfl (Nat.le_of_ble_eq_true rfl) ?_
  obtain ⟨z1, hz1, h2⟩ := bi_ok h
  refine go_ops hΓ 6 rfl ?_
  refine eo_o rfl (op_subZ hΓ hz1 rfl rfl rfl rfl rfl) ?_
  obtain ⟨y3, hy3, h4⟩ := bi_ok h2
  refine eo_callP (callable Tryz.func166 rfl rfl) (c_laneref1_span hy3) rfl (Nat.le_of_ble_eq_true rfl) rfl rfl rfl rfl rfl ?_
  refine go_ops hΓ 6 rfl ?_
  refine eo_build hΓ (gs := [I 4, I 0, S [], I 0, I 0, I 0, I 0]) rfl rfl rfl rfl rfl rfl rfl ?_
  refine eo_alloc hΓ rfl rfl rfl (Nat.le_of_ble_eq_true rfl) ?_
  refine eo_store hΓ rfl rfl rfl rfl rfl rfl rfl rfl (Nat.le_of_ble_eq_true rfl) ?_
  refine eo_hp [.box 29 [I 0, I 0, S [], I 0, I 0, I 0, I 0], .box 29 [I 4, I 0, S [], I 0, I 0, I 0, I 0]] rfl ?_
  obtain ⟨z5, hz5, h6⟩ := bi_ok h4
  refine go_ops hΓ 6 rfl ?_
  refine eo_o rfl (op_subZ hΓ hz5 rfl rfl rfl rfl rfl) ?_
  obtain ⟨y7, hy7, h8⟩ := bi_ok h6
  refine eo_callP (callable Tryz.func226 rfl rfl) (Pure.rows (c_strings_Split hy7) rfl rfl) rfl (Nat.le_of_ble_eq_true rfl) rfl rfl rfl rfl rfl ?_
  refine go_ops hΓ 11 rfl ?_
  refine j_cond rfl (fun hb => ?_) (fun hb => ?_)
  · have h9 := cT h8 hb
    refine go hΓ 2 rfl ?_
    refine eo_build hΓ (gs := [I 0, I 0, S [], I 0, I 0, I 0, I 0]) rfl rfl rfl rfl rfl rfl rfl ?_
    refine eo_store hΓ rfl rfl rfl rfl rfl rfl rfl rfl (Nat.le_of_ble_eq_true rfl) ?_
    refine eo_hp [.box 29 [I 0, I 0, S [], I 0, I 0, I 0, I 0], .box 29 [I 4, I 0, S [], I 0, I 0, I 0, I 0]] rfl ?_
    refine go_ops hΓ 5 rfl ?_
    obtain rfl := Option.some.inj h9
    exact fin_pure hΓ (.inr rfl) rfl rfl
  · have h10 := cF h8 hb
    refine go hΓ 10 rfl ?_
    obtain ⟨q14, hq14, h15⟩ := bi_ok h10
    refine j_bound 24 rfl fun hb17 => ?_
    refine j_cutEZ (R := fun a16 => q14 = .go a16) (fun a16 => [(2, .ptr 0 0), (4, I (wi (1 + y3))), (5, .ptr 1 0)]) (fun a16 => [.box 29 [I 0, I 0, S [], I 0, I 0, I 0, I 0], .box 29 [I a16.Kind, I a16.Number, S a16.Words, I a16.Version.1, I a16.Version.2.1, I a16.Version.2.2.1, I a16.Version.2.2.2]]) ?_ ?_
    · refine go hΓ 1 rfl ?_
      refine j_range y7 hq14 (fun i11 s12 => [(2, .ptr 0 0), (4, I (wi (1 + y3))), (5, .ptr 1 0), (24, .d (Sl eS y7)), (25, I (y7.length : Int)), (26, I (i11 : Int))]) (fun s12 => [.box 29 [I 0, I 0, S [], I 0, I 0, I 0, I 0], .box 29 [I s12.Kind, I s12.Number, S s12.Words, I s12.Version.1, I s12.Version.2.1, I s12.Version.2.2.1, I s12.Version.2.2.2]]) ⟨⟨rfl, rfl, rfl, rfl, rfl, rfl, trivial⟩, [], rfl, .inl rfl⟩ (fun i11 x13 s12 y21 hx18 hlt hy19 hout20 => ?_) (fun s12 hgo => ?_)
      · refine go hΓ 6 rfl ?_
        refine j_condT rfl (decide_eq_true (Int.ofNat_lt.2 hlt)) ?_
        refine go hΓ 7 rfl ?_
        refine eo_o rfl (op_elemZ hΓ (enc := eS) (getZ_nat hx18) rfl rfl rfl rfl rfl (fun _ => rfl)) ?_
        obtain ⟨y22, hy22, h23⟩ := bi_ok hy19
        refine go_ops hΓ 8 rfl ?_
        refine eo_callP (callable Tryz.func170 rfl rfl) (c_laneref2_Number hy22) rfl (Nat.le_of_ble_eq_true rfl) rfl rfl rfl rfl rfl ?_
        refine go_ops hΓ 14 rfl ?_
        refine j_cond rfl (fun hb => ?_) (fun hb => ?_)
        · have h24 := cT h23 hb
          refine go hΓ 2 rfl ?_
          refine eo_build hΓ (gs := [I 0, I 0, S [], I 0, I 0, I 0, I 0]) rfl rfl rfl rfl rfl rfl rfl ?_
          refine eo_store hΓ rfl rfl rfl rfl rfl rfl rfl rfl (Nat.le_of_ble_eq_true rfl) ?_
          refine eo_hp [.box 29 [I 0, I 0, S [], I 0, I 0, I 0, I 0], .box 29 [I s12.Kind, I s12.Number, S s12.Words, I s12.Version.1, I s12.Version.2.1, I s12.Version.2.2.1, I s12.Version.2.2.2]] rfl ?_
          refine go_ops hΓ 7 rfl ?_
          obtain ⟨v25, hv25, h26⟩ := bi_ok h24
          obtain rfl := Option.some.inj h26
          obtain rfl := hout20 _ rfl
          obtain rfl := Option.some.inj h15
          refine go hΓ 4 rfl ?_
          obtain rfl := Option.some.inj hv25
          exact fin_pure hΓ (.inr rfl) rfl rfl
        · have h27 := cF h23 hb
          obtain ⟨x28, hx28, h29⟩ := bi_ok h27
          refine go hΓ 6 rfl ?_
          refine eo_o rfl (op_elemArr hΓ hx28 rfl rfl rfl rfl rfl rfl) ?_
          refine eo_u (Nat.le_of_ble_eq_true rfl) (opu_setArrP hΓ (l := ([s12.Version.1, s12.Version.2.1, s12.Version.2.2.1, s12.Version.2.2.2] : List Int)) (v := y22.1) (f := fun z => .d (.v (.int .i64 z))) (pre := [I s12.Kind, I s12.Number, S s12.Words]) (post := []) hx28 rfl rfl rfl rfl rfl rfl rfl rfl rfl rfl rfl) ?_
          refine eo_hp [.box 29 [I 0, I 0, S [], I 0, I 0, I 0, I 0], .box 29 [I s12.Kind, I s12.Number, S s12.Words, I (updA (i11 : Int) 0 y22.1 s12.Version.1), I (updA (i11 : Int) 1 y22.1 s12.Version.2.1), I (updA (i11 : Int) 2 y22.1 s12.Version.2.2.1), I (updA (i11 : Int) 3 y22.1 s12.Version.2.2.2)]] rfl ?_
          refine go_ops hΓ 7 rfl ?_
          obtain rfl := Option.some.inj h29
          exact ⟨_, rfl, ⟨⟨rfl, rfl, rfl, rfl, rfl, get_eq rfl (w64_succ (Nat.lt_of_lt_of_le hlt hb17)), trivial⟩, [], rfl, .inl rfl⟩⟩
      · subst hgo
        refine go hΓ 6 rfl ?_
        refine j_condF rfl (decide_eq_false (Int.lt_irrefl _)) ?_
        refine go hΓ 4 rfl ?_
        exact ⟨_, rfl, ⟨⟨rfl, rfl, rfl, trivial⟩, [], rfl, .inl rfl⟩⟩
    · intro a16 ha
      subst ha
      replace h15 := goI_l h15
      refine go hΓ 5 rfl ?_
      refine eo_store hΓ rfl rfl rfl rfl rfl rfl rfl rfl (Nat.le_of_ble_eq_true rfl) ?_
      refine eo_hp [.box 29 [I a16.Kind, I a16.Number, S a16.Words, I a16.Version.1, I a16.Version.2.1, I a16.Version.2.2.1, I a16.Version.2.2.2], .box 29 [I a16.Kind, I a16.Number, S a16.Words, I a16.Version.1, I a16.Version.2.1, I a16.Version.2.2.1, I a16.Version.2.2.2]] rfl ?_
      refine go_ops hΓ 4 rfl ?_
      obtain rfl := Option.some.inj h15
      exact fin_pure hΓ (.inr rfl) rfl rfl
set_option maxHeartbeats 8000000 in
theorem c_laneref1_condReader_scan {k : Nat} {v_r : T_laneref1_condReader} {r : T_laneref1_condReader} (h : m_laneref1_condReader_scan k v_r = some r) : EC Tryz.prog 85 [.ptr 0 0] [.box 136 [S v_r.s, I v_r.v_at, S v_r.v_next.kind, I v_r.v_next.v_at, S v_r.v_next.name, I v_r.v_next.value.Kind, I v_r.v_next.value.Number, S v_r.v_next.value.Words, I v_r.v_next.value.Version.1, I v_r.v_next.value.Version.2.1, I v_r.v_next.value.Version.2.2.1, I v_r.v_next.value.Version.2.2.2, I v_r.fault]] fun g hp' => g = .tup [] ∧ hp' = [.box 136 [S r.s, I r.v_at, S r.v_next.kind, I r.v_next.v_at, S r.v_next.name, I r.v_next.value.Kind, I r.v_next.value.Number, S r.v_next.value.Words, I r.v_next.value.Version.1, I r.v_next.value.Version.2.1, I r.v_next.value.Version.2.2.1, I r.v_next.value.Version.2.2.2, I r.fault]] := by
  refine ec_enter (Fr.of 0 _) Tryz.func85 rfl (Fr.of_ok _) (Nat.le_of_ble_eq_true rfl) fun _ => ?_
  refine go_in ?_
  unfold m_laneref1_condReader_scan at h
  refine go hΓ 1 rfl ?_
  refine j_drawE [.box 136 [S v_r.s, I v_r.v_at, S v_r.v_next.kind, I v_r.v_next.v_at, S v_r.v_next.name, I v_r.v_next.value.Kind, I v_r.v_next.value.Number, S v_r.v_next.value.Words, I v_r.v_next.value.Version.1, I v_r.v_next.value.Version.2.1, I v_r.v_next.value.Version.2.2.1, I v_r.v_next.value.Version.2.2.2, I v_r.fault]] [3, 7, 11] [17] [17] hmix (by kernel_rfl) (by kernel_rfl) ⟨rfl, trivial⟩ (Nat.le_of_ble_eq_true rfl) ?_
  obtain ⟨z1, hz1, h2⟩ := bi_ok h
  refine go_E hΓ 12 rfl ?_
  refine ge_q rfl (.inl rfl) (fun _ _ => qte_of_qt (qt_p (op_subZ hΓ hz1 rfl rfl rfl rfl rfl))) ?_
  obtain ⟨y3, hy3, h4⟩ := bi_ok h2
  refine ge_callP (callable Tryz.func166 rfl rfl) (c_laneref1_span hy3) rfl rfl rfl rfl rfl rfl ?_
  refine go_E hΓ 3 rfl ?_
  refine ge_h0 [.box 136 [S v_r.s, I (wi (v_r.v_at + y3)), S v_r.v_next.kind, I v_r.v_next.v_at, S v_r.v_next.name, I v_r.v_next.value.Kind, I v_r.v_next.value.Number, S v_r.v_next.value.Words, I v_r.v_next.value.Version.1, I v_r.v_next.value.Version.2.1, I v_r.v_next.value.Version.2.2.1, I v_r.v_next.value.Version.2.2.2, I v_r.fault]] rfl rfl (brk_st rfl) (qte_u (opu_store2 hΓ rfl rfl rfl rfl rfl rfl rfl rfl rfl)) ?_
  refine ge_fin ?_
  refine go hΓ 2 rfl ?_
  refine j_draw hmix (by kernel_rfl) ?_
  obtain ⟨z5, hz5, h6⟩ := bi_ok h4
  refine go hΓ 8 rfl ?_
  refine gl_o rfl (op_subZ hΓ hz5 rfl rfl rfl rfl rfl) ?_
  refine go_draw hΓ 9 rfl ?_
  refine eo_build hΓ (gs := [S [], I (wi (v_r.v_at + y3)), S [], I 0, I 0, S [], I 0, I 0, I 0, I 0]) rfl rfl rfl rfl rfl rfl rfl ?_
  refine eo_alloc hΓ rfl rfl rfl (Nat.le_of_ble_eq_true rfl) ?_
  refine eo_store hΓ rfl rfl rfl rfl rfl rfl rfl rfl (Nat.le_of_ble_eq_true rfl) ?_
  refine eo_hp [.box 136 [S v_r.s, I (wi (v_r.v_at + y3)), S v_r.v_next.kind, I v_r.v_next.v_at, S v_r.v_next.name, I v_r.v_next.value.Kind, I v_r.v_next.value.Number, S v_r.v_next.value.Words, I v_r.v_next.value.Version.1, I v_r.v_next.value.Version.2.1, I v_r.v_next.value.Version.2.2.1, I v_r.v_next.value.Version.2.2.2, I v_r.fault], .box 134 [S [], I (wi (v_r.v_at + y3)), S [], I 0, I 0, S [], I 0, I 0, I 0, I 0]] rfl ?_
  refine go_ops hΓ 10 rfl ?_
  refine eo_litT hΓ (enc := eS) [[61, 61], [33, 61], [60, 61], [62, 61], [38, 38], [124, 124], [60], [62], [33], [40], [41]] rfl rfl rfl rfl rfl rfl rfl rfl rfl rfl rfl rfl (Nat.le_of_ble_eq_true rfl) ?_
  refine go_ops hΓ 4 rfl ?_
  obtain ⟨q10, hq10, h11⟩ := bi_ok h6
  refine j_bound 41 rfl fun hb13 => ?_
  obtain ⟨q14, hq14, h15⟩ := bi_ok h11
  refine j_cutNZ [(0, .ptr 0 0), (2, S z5), (3, .ptr 1 0), (4, I q14.2)] [.box 136 [S v_r.s, I (wi (v_r.v_at + y3)), S v_r.v_next.kind, I v_r.v_next.v_at, S v_r.v_next.name, I v_r.v_next.value.Kind, I v_r.v_next.value.Number, S v_r.v_next.value.Words, I v_r.v_next.value.Version.1, I v_r.v_next.value.Version.2.1, I v_r.v_next.value.Version.2.2.1, I v_r.v_next.value.Version.2.2.2, I v_r.fault], .box 134 [S q14.1, I (wi (v_r.v_at + y3)), S [], I 0, I 0, S [], I 0, I 0, I 0, I 0]] ?_ ?_
  · refine go hΓ 1 rfl ?_
    refine j_range [[61, 61], [33, 61], [60, 61], [62, 61], [38, 38], [124, 124], [60], [62], [33], [40], [41]] hq10 (fun i7 s8 => [(0, .ptr 0 0), (2, S z5), (3, .ptr 1 0), (4, I 0), (41, .d (Sl eS [[61, 61], [33, 61], [60, 61], [62, 61], [38, 38], [124, 124], [60], [62], [33], [40], [41]])), (42, I ([[61, 61], [33, 61], [60, 61], [62, 61], [38, 38], [124, 124], [60], [62], [33], [40], [41]].length : Int)), (43, I (i7 : Int))]) (fun s8 => [.box 136 [S v_r.s, I (wi (v_r.v_at + y3)), S v_r.v_next.kind, I v_r.v_next.v_at, S v_r.v_next.name, I v_r.v_next.value.Kind, I v_r.v_next.value.Number, S v_r.v_next.value.Words, I v_r.v_next.value.Version.1, I v_r.v_next.value.Version.2.1, I v_r.v_next.value.Version.2.2.1, I v_r.v_next.value.Version.2.2.2, I v_r.fault], .box 134 [S [], I (wi (v_r.v_at + y3)), S [], I 0, I 0, S [], I 0, I 0, I 0, I 0]]) ⟨⟨rfl, rfl, rfl, rfl, rfl, rfl, rfl, trivial⟩, [], rfl, .inl rfl⟩ (fun i7 x9 s8 y19 hx16 hlt hy17 hout18 => ?_) (fun s8 hgo => ?_)
    · refine go hΓ 6 rfl ?_
      refine j_condT rfl (decide_eq_true (Int.ofNat_lt.2 hlt)) ?_
      refine go hΓ 6 rfl ?_
      refine eo_o rfl (op_elemZ hΓ (enc := eS) (getZ_nat hx16) rfl rfl rfl rfl rfl (fun _ => rfl)) ?_
      obtain ⟨y20, hy20, h21⟩ := bi_ok hy17
      refine go_ops hΓ 8 rfl ?_
      refine eo_callP (callable Tryz.func167 rfl rfl) (c_strings_HasPrefix hy20) rfl (Nat.le_of_ble_eq_true rfl) rfl rfl rfl rfl rfl ?_
      refine go_ops hΓ 2 rfl ?_
      refine j_cond rfl (fun hb => ?_) (fun hb => ?_)
      · have h22 := cT h21 hb
        refine go hΓ 6 rfl ?_
        refine eo_store hΓ rfl rfl rfl rfl rfl rfl rfl rfl (Nat.le_of_ble_eq_true rfl) ?_
        refine eo_hp [.box 136 [S v_r.s, I (wi (v_r.v_at + y3)), S v_r.v_next.kind, I v_r.v_next.v_at, S v_r.v_next.name, I v_r.v_next.value.Kind, I v_r.v_next.value.Number, S v_r.v_next.value.Words, I v_r.v_next.value.Version.1, I v_r.v_next.value.Version.2.1, I v_r.v_next.value.Version.2.2.1, I v_r.v_next.value.Version.2.2.2, I v_r.fault], .box 134 [S x9, I (wi (v_r.v_at + y3)), S [], I 0, I 0, S [], I 0, I 0, I 0, I 0]] rfl ?_
        refine go_ops hΓ 8 rfl ?_
        obtain rfl := Option.some.inj h22
        obtain rfl := hout18 _ rfl
        obtain rfl := Option.some.inj hq14
        exact ⟨⟨rfl, rfl, rfl, rfl, trivial⟩, [], rfl, .inl rfl⟩
      · have h23 := cF h21 hb
        refine go hΓ 7 rfl ?_
        obtain rfl := Option.some.inj h23
        exact ⟨_, rfl, ⟨⟨rfl, rfl, rfl, rfl, rfl, rfl, get_eq rfl (w64_succ (Nat.lt_of_lt_of_le hlt hb13)), trivial⟩, [], rfl, .inl rfl⟩⟩
    · subst hgo
      refine go hΓ 6 rfl ?_
      refine j_condF rfl (decide_eq_false (Int.lt_irrefl _)) ?_
      refine go hΓ 4 rfl ?_
      obtain rfl := Option.some.inj hq14
      exact ⟨⟨rfl, rfl, rfl, rfl, trivial⟩, [], rfl, .inl rfl⟩
  · obtain ⟨q24, hq24, h25⟩ := bi_ok h15
    refine go hΓ 2 rfl ?_
    refine j_cutNZ [(0, .ptr 0 0), (3, .ptr 1 0), (4, I q24.2)] [.box 136 [S v_r.s, I (wi (v_r.v_at + y3)), S v_r.v_next.kind, I v_r.v_next.v_at, S v_r.v_next.name, I v_r.v_next.value.Kind, I v_r.v_next.value.Number, S v_r.v_next.value.Words, I v_r.v_next.value.Version.1, I v_r.v_next.value.Version.2.1, I v_r.v_next.value.Version.2.2.1, I v_r.v_next.value.Version.2.2.2, I v_r.fault], .box 134 [S q24.1.kind, I q24.1.v_at, S q24.1.name, I q24.1.value.Kind, I q24.1.value.Number, S q24.1.value.Words, I q24.1.value.Version.1, I q24.1.value.Version.2.1, I q24.1.value.Version.2.2.1, I q24.1.value.Version.2.2.2]] ?_ ?_
    · refine go hΓ 6 rfl ?_
      refine o_cut 3 [(0, .ptr 0 0), (2, S z5), (3, .ptr 1 0), (4, I q14.2), (61, B ((decide ((q14.2 : Int) > 0)) || ((z5 : Str) == [])))] [.box 136 [S v_r.s, I (wi (v_r.v_at + y3)), S v_r.v_next.kind, I v_r.v_next.v_at, S v_r.v_next.name, I v_r.v_next.value.Kind, I v_r.v_next.value.Number, S v_r.v_next.value.Words, I v_r.v_next.value.Version.1, I v_r.v_next.value.Version.2.1, I v_r.v_next.value.Version.2.2.1, I v_r.v_next.value.Version.2.2.2, I v_r.fault], .box 134 [S q14.1, I (wi (v_r.v_at + y3)), S [], I 0, I 0, S [], I 0, I 0, I 0, I 0]] ?_ ?_
      · refine eo_gsplit rfl rfl (fun hb => ?_) (fun hb => ?_)
        · refine go_ops hΓ 4 rfl ?_
          exact ⟨⟨rfl, rfl, rfl, rfl, get_b rfl (or_t hb), trivial⟩, [], rfl, .inl rfl⟩
        · refine go_ops hΓ 4 rfl ?_
          exact ⟨⟨rfl, rfl, rfl, rfl, get_b rfl (or_f hb), trivial⟩, [], rfl, .inl rfl⟩
      · refine go_ops hΓ 3 rfl ?_
        refine j_cond rfl (fun hb => ?_) (fun hb => ?_)
        · have h26 := cT hq24 hb
          refine go hΓ 2 rfl ?_
          obtain rfl := Option.some.inj h26
          exact ⟨⟨rfl, rfl, rfl, trivial⟩, [], rfl, .inl rfl⟩
        · have h27 := cF hq24 hb
          obtain ⟨c28, hc28, h29⟩ := bi_ok h27
          refine go hΓ 3 rfl ?_
          refine eo_o rfl (op_byteZ hΓ hc28 rfl rfl rfl rfl) ?_
          refine go_ops hΓ 4 rfl ?_
          refine j_cond rfl (fun hb => ?_) (fun hb => ?_)
          · have h30 := cT h29 hb
            refine go hΓ 4 rfl ?_
            refine eo_store hΓ rfl rfl rfl rfl rfl rfl rfl rfl (Nat.le_of_ble_eq_true rfl) ?_
            refine eo_hp [.box 136 [S v_r.s, I (wi (v_r.v_at + y3)), S v_r.v_next.kind, I v_r.v_next.v_at, S v_r.v_next.name, I v_r.v_next.value.Kind, I v_r.v_next.value.Number, S v_r.v_next.value.Words, I v_r.v_next.value.Version.1, I v_r.v_next.value.Version.2.1, I v_r.v_next.value.Version.2.2.1, I v_r.v_next.value.Version.2.2.2, I v_r.fault], .box 134 [S q14.1, I (wi (v_r.v_at + y3)), S [], I 2, I 0, S [], I 0, I 0, I 0, I 0]] rfl ?_
            obtain ⟨y31, hy31, h32⟩ := bi_ok h30
            refine go_ops hΓ 5 rfl ?_
            refine eo_callP (callable Tryz.func168 rfl rfl) (c_laneref1_quotedWords hy31) rfl (Nat.le_of_ble_eq_true rfl) rfl rfl rfl rfl rfl ?_
            refine go_ops hΓ 5 rfl ?_
            refine eo_store hΓ rfl rfl rfl rfl rfl rfl rfl rfl (Nat.le_of_ble_eq_true rfl) ?_
            refine eo_hp [.box 136 [S v_r.s, I (wi (v_r.v_at + y3)), S v_r.v_next.kind, I v_r.v_next.v_at, S v_r.v_next.name, I v_r.v_next.value.Kind, I v_r.v_next.value.Number, S v_r.v_next.value.Words, I v_r.v_next.value.Version.1, I v_r.v_next.value.Version.2.1, I v_r.v_next.value.Version.2.2.1, I v_r.v_next.value.Version.2.2.2, I v_r.fault], .box 134 [S q14.1, I (wi (v_r.v_at + y3)), S [], I 2, I 0, S y31.1, I 0, I 0, I 0, I 0]] rfl ?_
            refine go_ops hΓ 9 rfl ?_
            refine j_cond rfl (fun hb => ?_) (fun hb => ?_)
            · have h33 := cT h32 hb
              refine go hΓ 2 rfl ?_
              refine eo_store hΓ rfl rfl rfl rfl rfl rfl rfl rfl (Nat.le_of_ble_eq_true rfl) ?_
              refine eo_hp [.box 136 [S v_r.s, I (wi (v_r.v_at + y3)), S v_r.v_next.kind, I v_r.v_next.v_at, S v_r.v_next.name, I v_r.v_next.value.Kind, I v_r.v_next.value.Number, S v_r.v_next.value.Words, I v_r.v_next.value.Version.1, I v_r.v_next.value.Version.2.1, I v_r.v_next.value.Version.2.2.1, I v_r.v_next.value.Version.2.2.2, I v_r.fault], .box 134 [S [118], I (wi (v_r.v_at + y3)), S [], I 2, I 0, S y31.1, I 0, I 0, I 0, I 0]] rfl ?_
              refine go_ops hΓ 2 rfl ?_
              obtain rfl := Option.some.inj h33
              exact ⟨⟨rfl, rfl, rfl, trivial⟩, [], rfl, .inl rfl⟩
            · have h34 := cF h32 hb
              refine go hΓ 2 rfl ?_
              obtain rfl := Option.some.inj h34
              exact ⟨⟨rfl, rfl, rfl, trivial⟩, [], rfl, .inl rfl⟩
          · have h35 := cF h29 hb
            obtain ⟨y36, hy36, h37⟩ := bi_ok h35
            refine go hΓ 3 rfl ?_
            refine eo_callP (callable Tryz.func169 rfl rfl) (c_laneref1_digit hy36) rfl (Nat.le_of_ble_eq_true rfl) rfl rfl rfl rfl rfl ?_
            refine go_ops hΓ 1 rfl ?_
            obtain ⟨q38, hq38, h39⟩ := bi_ok h37
            refine o_cut 8 [(0, .ptr 0 0), (2, S z5), (3, .ptr 1 0), (4, I q14.2), (89, B q38)] [.box 136 [S v_r.s, I (wi (v_r.v_at + y3)), S v_r.v_next.kind, I v_r.v_next.v_at, S v_r.v_next.name, I v_r.v_next.value.Kind, I v_r.v_next.value.Number, S v_r.v_next.value.Words, I v_r.v_next.value.Version.1, I v_r.v_next.value.Version.2.1, I v_r.v_next.value.Version.2.2.1, I v_r.v_next.value.Version.2.2.2, I v_r.fault], .box 134 [S q14.1, I (wi (v_r.v_at + y3)), S [], I 0, I 0, S [], I 0, I 0, I 0, I 0]] ?_ ?_
            · refine eo_gsplit rfl rfl (fun hb => ?_) (fun hb => ?_)
              · have h40 := cT hq38 hb
                refine go_ops hΓ 9 rfl ?_
                obtain rfl := Option.some.inj h40
                exact ⟨⟨rfl, rfl, rfl, rfl, rfl, trivial⟩, [], rfl, .inl rfl⟩
              · have h41 := cF hq38 hb
                obtain ⟨c42, hc42, h43⟩ := bi_ok h41
                refine go_ops hΓ 1 rfl ?_
                refine eo_guard rfl ?_
                refine eo_o rfl (op_byteZ hΓ hc42 rfl rfl rfl rfl) ?_
                refine go_ops hΓ 2 rfl ?_
                obtain ⟨q44, hq44, h45⟩ := bi_ok h43
                refine o_cut 3 [(0, .ptr 0 0), (2, S z5), (3, .ptr 1 0), (4, I q14.2), (81, B false), (88, B q44)] [.box 136 [S v_r.s, I (wi (v_r.v_at + y3)), S v_r.v_next.kind, I v_r.v_next.v_at, S v_r.v_next.name, I v_r.v_next.value.Kind, I v_r.v_next.value.Number, S v_r.v_next.value.Words, I v_r.v_next.value.Version.1, I v_r.v_next.value.Version.2.1, I v_r.v_next.value.Version.2.2.1, I v_r.v_next.value.Version.2.2.2, I v_r.fault], .box 134 [S q14.1, I (wi (v_r.v_at + y3)), S [], I 0, I 0, S [], I 0, I 0, I 0, I 0]] ?_ ?_
                · refine eo_gsplit rfl rfl (fun hb => ?_) (fun hb => ?_)
                  · have h46 := cT hq44 hb
                    obtain ⟨y47, hy47, h48⟩ := bi_ok h46
                    refine go_ops hΓ 1 rfl ?_
                    refine eo_guard rfl ?_
                    refine eo_callP (callable Tryz.func169 rfl rfl) (c_laneref1_digit hy47) rfl (Nat.le_of_ble_eq_true rfl) rfl rfl rfl rfl rfl ?_
                    refine go_ops hΓ 2 rfl ?_
                    obtain rfl := Option.some.inj h48
                    exact ⟨⟨rfl, rfl, rfl, rfl, rfl, rfl, trivial⟩, [], rfl, .inl rfl⟩
                  · have h49 := cF hq44 hb
                    refine go_ops hΓ 4 rfl ?_
                    obtain rfl := Option.some.inj h49
                    exact ⟨⟨rfl, rfl, rfl, rfl, rfl, rfl, trivial⟩, [], rfl, .inl rfl⟩
                · refine go_ops hΓ 2 rfl ?_
                  obtain rfl := Option.some.inj h45
                  exact ⟨⟨rfl, rfl, rfl, rfl, rfl, trivial⟩, [], rfl, .inl rfl⟩
            · refine go_ops hΓ 3 rfl ?_
              refine j_cond rfl (fun hb => ?_) (fun hb => ?_)
              · have h50 := cT h39 hb
                obtain ⟨z51, hz51, h52⟩ := bi_ok h50
                refine go hΓ 3 rfl ?_
                refine eo_o rfl (op_subZ hΓ hz51 rfl rfl rfl rfl rfl) ?_
                obtain ⟨y53, hy53, h54⟩ := bi_ok h52
                refine eo_callP (callable Tryz.func166 rfl rfl) (c_laneref1_span hy53) rfl (Nat.le_of_ble_eq_true rfl) rfl rfl rfl rfl rfl ?_
                obtain ⟨z55, hz55, h56⟩ := bi_ok h54
                refine go_ops hΓ 8 rfl ?_
                refine eo_o rfl (op_subZ hΓ hz55 rfl rfl rfl rfl rfl) ?_
                obtain ⟨y57, hy57, h58⟩ := bi_ok h56
                refine eo_callP (callable Tryz.func170 rfl rfl) (c_laneref2_Number hy57) rfl (Nat.le_of_ble_eq_true rfl) rfl rfl rfl rfl rfl ?_
                refine go_ops hΓ 12 rfl ?_
                refine j_cond rfl (fun hb => ?_) (fun hb => ?_)
                · have h59 := cT h58 hb
                  refine go hΓ 2 rfl ?_
                  refine eo_build hΓ (gs := [I 1, I y57.1, S [], I 0, I 0, I 0, I 0]) rfl rfl rfl rfl rfl rfl rfl ?_
                  refine go_ops hΓ 1 rfl ?_
                  refine eo_store hΓ rfl rfl rfl rfl rfl rfl rfl rfl (Nat.le_of_ble_eq_true rfl) ?_
                  refine eo_hp [.box 136 [S v_r.s, I (wi (v_r.v_at + y3)), S v_r.v_next.kind, I v_r.v_next.v_at, S v_r.v_next.name, I v_r.v_next.value.Kind, I v_r.v_next.value.Number, S v_r.v_next.value.Words, I v_r.v_next.value.Version.1, I v_r.v_next.value.Version.2.1, I v_r.v_next.value.Version.2.2.1, I v_r.v_next.value.Version.2.2.2, I v_r.fault], .box 134 [S [118], I (wi (v_r.v_at + y3)), S [], I 0, I 0, S [], I 0, I 0, I 0, I 0]] rfl ?_
                  refine go_ops hΓ 1 rfl ?_
                  refine eo_store hΓ rfl rfl rfl rfl rfl rfl rfl rfl (Nat.le_of_ble_eq_true rfl) ?_
                  refine eo_hp [.box 136 [S v_r.s, I (wi (v_r.v_at + y3)), S v_r.v_next.kind, I v_r.v_next.v_at, S v_r.v_next.name, I v_r.v_next.value.Kind, I v_r.v_next.value.Number, S v_r.v_next.value.Words, I v_r.v_next.value.Version.1, I v_r.v_next.value.Version.2.1, I v_r.v_next.value.Version.2.2.1, I v_r.v_next.value.Version.2.2.2, I v_r.fault], .box 134 [S [118], I (wi (v_r.v_at + y3)), S [], I 1, I y57.1, S [], I 0, I 0, I 0, I 0]] rfl ?_
                  refine go_ops hΓ 2 rfl ?_
                  obtain rfl := Option.some.inj h59
                  exact ⟨⟨rfl, rfl, rfl, trivial⟩, [], rfl, .inl rfl⟩
                · have h60 := cF h58 hb
                  refine go hΓ 2 rfl ?_
                  obtain rfl := Option.some.inj h60
                  exact ⟨⟨rfl, rfl, rfl, trivial⟩, [], rfl, .inl rfl⟩
              · have h61 := cF h39 hb
                obtain ⟨c62, hc62, h63⟩ := bi_ok h61
                refine go hΓ 3 rfl ?_
                refine eo_o rfl (op_byteZ hΓ hc62 rfl rfl rfl rfl) ?_
                refine go_ops hΓ 2 rfl ?_
                obtain ⟨q64, hq64, h65⟩ := bi_ok h63
                refine o_cut 3 [(0, .ptr 0 0), (2, S z5), (3, .ptr 1 0), (4, I q14.2), (113, B q64)] [.box 136 [S v_r.s, I (wi (v_r.v_at + y3)), S v_r.v_next.kind, I v_r.v_next.v_at, S v_r.v_next.name, I v_r.v_next.value.Kind, I v_r.v_next.value.Number, S v_r.v_next.value.Words, I v_r.v_next.value.Version.1, I v_r.v_next.value.Version.2.1, I v_r.v_next.value.Version.2.2.1, I v_r.v_next.value.Version.2.2.2, I v_r.fault], .box 134 [S q14.1, I (wi (v_r.v_at + y3)), S [], I 0, I 0, S [], I 0, I 0, I 0, I 0]] ?_ ?_
                · refine eo_gsplit rfl rfl (fun hb => ?_) (fun hb => ?_)
                  · have h66 := cT hq64 hb
                    obtain ⟨y67, hy67, h68⟩ := bi_ok h66
                    refine go_ops hΓ 1 rfl ?_
                    refine eo_guard rfl ?_
                    refine eo_callP (callable Tryz.func169 rfl rfl) (c_laneref1_digit hy67) rfl (Nat.le_of_ble_eq_true rfl) rfl rfl rfl rfl rfl ?_
                    refine go_ops hΓ 2 rfl ?_
                    obtain rfl := Option.some.inj h68
                    exact ⟨⟨rfl, rfl, rfl, rfl, rfl, trivial⟩, [], rfl, .inl rfl⟩
                  · have h69 := cF hq64 hb
                    refine go_ops hΓ 4 rfl ?_
                    obtain rfl := Option.some.inj h69
                    exact ⟨⟨rfl, rfl, rfl, rfl, rfl, trivial⟩, [], rfl, .inl rfl⟩
                · refine go_ops hΓ 3 rfl ?_
                  refine j_cond rfl (fun hb => ?_) (fun hb => ?_)
                  · have h70 := cT h65 hb
                    obtain ⟨y71, hy71, h72⟩ := bi_ok h70
                    refine go hΓ 3 rfl ?_
                    refine eo_callP (callable Tryz.func171 rfl rfl) (c_laneref1_versionFrom hy71) rfl (Nat.le_of_ble_eq_true rfl) rfl rfl rfl rfl rfl ?_
                    refine go_ops hΓ 4 rfl ?_
                    refine eo_store hΓ rfl rfl rfl rfl rfl rfl rfl rfl (Nat.le_of_ble_eq_true rfl) ?_
                    refine eo_hp [.box 136 [S v_r.s, I (wi (v_r.v_at + y3)), S v_r.v_next.kind, I v_r.v_next.v_at, S v_r.v_next.name, I v_r.v_next.value.Kind, I v_r.v_next.value.Number, S v_r.v_next.value.Words, I v_r.v_next.value.Version.1, I v_r.v_next.value.Version.2.1, I v_r.v_next.value.Version.2.2.1, I v_r.v_next.value.Version.2.2.2, I v_r.fault], .box 134 [S q14.1, I (wi (v_r.v_at + y3)), S [], I y71.1.Kind, I y71.1.Number, S y71.1.Words, I y71.1.Version.1, I y71.1.Version.2.1, I y71.1.Version.2.2.1, I y71.1.Version.2.2.2]] rfl ?_
                    refine go_ops hΓ 9 rfl ?_
                    refine j_cond rfl (fun hb => ?_) (fun hb => ?_)
                    · have h73 := cT h72 hb
                      refine go hΓ 2 rfl ?_
                      refine eo_store hΓ rfl rfl rfl rfl rfl rfl rfl rfl (Nat.le_of_ble_eq_true rfl) ?_
                      refine eo_hp [.box 136 [S v_r.s, I (wi (v_r.v_at + y3)), S v_r.v_next.kind, I v_r.v_next.v_at, S v_r.v_next.name, I v_r.v_next.value.Kind, I v_r.v_next.value.Number, S v_r.v_next.value.Words, I v_r.v_next.value.Version.1, I v_r.v_next.value.Version.2.1, I v_r.v_next.value.Version.2.2.1, I v_r.v_next.value.Version.2.2.2, I v_r.fault], .box 134 [S [118], I (wi (v_r.v_at + y3)), S [], I y71.1.Kind, I y71.1.Number, S y71.1.Words, I y71.1.Version.1, I y71.1.Version.2.1, I y71.1.Version.2.2.1, I y71.1.Version.2.2.2]] rfl ?_
                      refine go_ops hΓ 2 rfl ?_
                      obtain rfl := Option.some.inj h73
                      exact ⟨⟨rfl, rfl, rfl, trivial⟩, [], rfl, .inl rfl⟩
                    · have h74 := cF h72 hb
                      refine go hΓ 2 rfl ?_
                      obtain rfl := Option.some.inj h74
                      exact ⟨⟨rfl, rfl, rfl, trivial⟩, [], rfl, .inl rfl⟩
                  · have h75 := cF h65 hb
                    obtain ⟨c76, hc76, h77⟩ := bi_ok h75
                    refine go hΓ 3 rfl ?_
                    refine eo_o rfl (op_byteZ hΓ hc76 rfl rfl rfl rfl) ?_
                    refine go_ops hΓ 2 rfl ?_
                    obtain ⟨q78, hq78, h79⟩ := bi_ok h77
                    refine o_cut 4 [(0, .ptr 0 0), (2, S z5), (3, .ptr 1 0), (4, I q14.2), (131, B q78)] [.box 136 [S v_r.s, I (wi (v_r.v_at + y3)), S v_r.v_next.kind, I v_r.v_next.v_at, S v_r.v_next.name, I v_r.v_next.value.Kind, I v_r.v_next.value.Number, S v_r.v_next.value.Words, I v_r.v_next.value.Version.1, I v_r.v_next.value.Version.2.1, I v_r.v_next.value.Version.2.2.1, I v_r.v_next.value.Version.2.2.2, I v_r.fault], .box 134 [S q14.1, I (wi (v_r.v_at + y3)), S [], I 0, I 0, S [], I 0, I 0, I 0, I 0]] ?_ ?_
                    · refine eo_gsplit rfl rfl (fun hb => ?_) (fun hb => ?_)
                      · have h80 := cT hq78 hb
                        obtain ⟨c81, hc81, h82⟩ := bi_ok h80
                        refine go_ops hΓ 1 rfl ?_
                        refine eo_guard rfl ?_
                        refine eo_o rfl (op_byteZ hΓ hc81 rfl rfl rfl rfl) ?_
                        refine go_ops hΓ 3 rfl ?_
                        obtain rfl := Option.some.inj h82
                        exact ⟨⟨rfl, rfl, rfl, rfl, rfl, trivial⟩, [], rfl, .inl rfl⟩
                      · have h83 := cF hq78 hb
                        refine go_ops hΓ 5 rfl ?_
                        obtain rfl := Option.some.inj h83
                        exact ⟨⟨rfl, rfl, rfl, rfl, rfl, trivial⟩, [], rfl, .inl rfl⟩
                    · refine go_ops hΓ 3 rfl ?_
                      refine j_cond rfl (fun hb => ?_) (fun hb => ?_)
                      · have h84 := cT h79 hb
                        obtain ⟨y85, hy85, h86⟩ := bi_ok h84
                        refine go hΓ 3 rfl ?_
                        refine eo_callP (callable Tryz.func166 rfl rfl) (c_laneref1_span hy85) rfl (Nat.le_of_ble_eq_true rfl) rfl rfl rfl rfl rfl ?_
                        refine go_ops hΓ 4 rfl ?_
                        refine j_drawE [] [] [4, 6] [] hmix (by kernel_rfl) (by kernel_rfl) trivial (Nat.le_of_ble_eq_true rfl) ?_
                        obtain ⟨z87, hz87, h88⟩ := bi_ok h86
                        refine go_E hΓ 2 rfl ?_
                        refine ge_q rfl (.inl rfl) (fun _ _ => qte_of_qt (qt_p (op_subZ hΓ hz87 rfl rfl rfl rfl rfl))) ?_
                        refine go_E hΓ 1 rfl ?_
                        refine ge_h0 [.box 136 [S v_r.s, I (wi (v_r.v_at + y3)), S v_r.v_next.kind, I v_r.v_next.v_at, S v_r.v_next.name, I v_r.v_next.value.Kind, I v_r.v_next.value.Number, S v_r.v_next.value.Words, I v_r.v_next.value.Version.1, I v_r.v_next.value.Version.2.1, I v_r.v_next.value.Version.2.2.1, I v_r.v_next.value.Version.2.2.2, I v_r.fault], .box 134 [S [110], I (wi (v_r.v_at + y3)), S [], I 0, I 0, S [], I 0, I 0, I 0, I 0]] rfl rfl (st_st trivial) (qte_u (opu_store2 hΓ rfl rfl rfl rfl rfl rfl rfl rfl rfl)) ?_
                        refine go_E hΓ 1 rfl ?_
                        refine ge_h0 [.box 136 [S v_r.s, I (wi (v_r.v_at + y3)), S v_r.v_next.kind, I v_r.v_next.v_at, S v_r.v_next.name, I v_r.v_next.value.Kind, I v_r.v_next.value.Number, S v_r.v_next.value.Words, I v_r.v_next.value.Version.1, I v_r.v_next.value.Version.2.1, I v_r.v_next.value.Version.2.2.1, I v_r.v_next.value.Version.2.2.2, I v_r.fault], .box 134 [S [110], I (wi (v_r.v_at + y3)), S z87, I 0, I 0, S [], I 0, I 0, I 0, I 0]] rfl rfl (st_st trivial) (qte_u (opu_store2 hΓ rfl rfl rfl rfl rfl rfl rfl rfl rfl)) ?_
                        refine ge_fin ?_
                        refine go hΓ 3 rfl ?_
                        refine eo_litT hΓ (enc := eS) [[102, 97, 108, 115, 101], [116, 114, 117, 101]] rfl rfl rfl rfl rfl rfl rfl rfl rfl rfl rfl rfl (Nat.le_of_ble_eq_true rfl) ?_
                        obtain ⟨y89, hy89, h90⟩ := bi_ok h88
                        refine go_ops hΓ 2 rfl ?_
                        refine eo_callP (callable Tryz.func172 rfl rfl) (c_slices_Index_string_string hy89) rfl (Nat.le_of_ble_eq_true rfl) rfl rfl rfl rfl rfl ?_
                        refine go_ops hΓ 9 rfl ?_
                        refine j_cond rfl (fun hb => ?_) (fun hb => ?_)
                        · have h91 := cT h90 hb
                          refine go hΓ 2 rfl ?_
                          refine eo_build hΓ (gs := [I 3, I y89, S [], I 0, I 0, I 0, I 0]) rfl rfl rfl rfl rfl rfl rfl ?_
                          refine go_ops hΓ 1 rfl ?_
                          refine eo_store hΓ rfl rfl rfl rfl rfl rfl rfl rfl (Nat.le_of_ble_eq_true rfl) ?_
                          refine eo_hp [.box 136 [S v_r.s, I (wi (v_r.v_at + y3)), S v_r.v_next.kind, I v_r.v_next.v_at, S v_r.v_next.name, I v_r.v_next.value.Kind, I v_r.v_next.value.Number, S v_r.v_next.value.Words, I v_r.v_next.value.Version.1, I v_r.v_next.value.Version.2.1, I v_r.v_next.value.Version.2.2.1, I v_r.v_next.value.Version.2.2.2, I v_r.fault], .box 134 [S [102], I (wi (v_r.v_at + y3)), S z87, I 0, I 0, S [], I 0, I 0, I 0, I 0]] rfl ?_
                          refine go_ops hΓ 1 rfl ?_
                          refine eo_store hΓ rfl rfl rfl rfl rfl rfl rfl rfl (Nat.le_of_ble_eq_true rfl) ?_
                          refine eo_hp [.box 136 [S v_r.s, I (wi (v_r.v_at + y3)), S v_r.v_next.kind, I v_r.v_next.v_at, S v_r.v_next.name, I v_r.v_next.value.Kind, I v_r.v_next.value.Number, S v_r.v_next.value.Words, I v_r.v_next.value.Version.1, I v_r.v_next.value.Version.2.1, I v_r.v_next.value.Version.2.2.1, I v_r.v_next.value.Version.2.2.2, I v_r.fault], .box 134 [S [102], I (wi (v_r.v_at + y3)), S z87, I 3, I y89, S [], I 0, I 0, I 0, I 0]] rfl ?_
                          refine go_ops hΓ 2 rfl ?_
                          obtain rfl := Option.some.inj h91
                          exact ⟨⟨rfl, rfl, rfl, trivial⟩, [], rfl, .inl rfl⟩
                        · have h92 := cF h90 hb
                          refine go hΓ 2 rfl ?_
                          obtain rfl := Option.some.inj h92
                          exact ⟨⟨rfl, rfl, rfl, trivial⟩, [], rfl, .inl rfl⟩
                      · have h93 := cF h79 hb
                        refine go hΓ 2 rfl ?_
                        obtain rfl := Option.some.inj h93
                        exact ⟨⟨rfl, rfl, rfl, trivial⟩, [], rfl, .inl rfl⟩
    · refine go hΓ 7 rfl ?_
      refine eo_store hΓ rfl rfl rfl rfl rfl rfl rfl rfl (Nat.le_of_ble_eq_true rfl) ?_
      refine eo_hp [.box 136 [S v_r.s, I (wi (v_r.v_at + y3)), S q24.1.kind, I q24.1.v_at, S q24.1.name, I q24.1.value.Kind, I q24.1.value.Number, S q24.1.value.Words, I q24.1.value.Version.1, I q24.1.value.Version.2.1, I q24.1.value.Version.2.2.1, I q24.1.value.Version.2.2.2, I v_r.fault], .box 134 [S q24.1.kind, I q24.1.v_at, S q24.1.name, I q24.1.value.Kind, I q24.1.value.Number, S q24.1.value.Words, I q24.1.value.Version.1, I q24.1.value.Version.2.1, I q24.1.value.Version.2.2.1, I q24.1.value.Version.2.2.2]] rfl ?_
      refine go_ops hΓ 11 rfl ?_
      refine eo_store hΓ rfl rfl rfl rfl rfl rfl rfl rfl (Nat.le_of_ble_eq_true rfl) ?_
      refine eo_hp [.box 136 [S v_r.s, I (wi ((wi (v_r.v_at + y3)) + q24.2)), S q24.1.kind, I q24.1.v_at, S q24.1.name, I q24.1.value.Kind, I q24.1.value.Number, S q24.1.value.Words, I q24.1.value.Version.1, I q24.1.value.Version.2.1, I q24.1.value.Version.2.2.1, I q24.1.value.Version.2.2.2, I v_r.fault], .box 134 [S q24.1.kind, I q24.1.v_at, S q24.1.name, I q24.1.value.Kind, I q24.1.value.Number, S q24.1.value.Words, I q24.1.value.Version.1, I q24.1.value.Version.2.1, I q24.1.value.Version.2.2.1, I q24.1.value.Version.2.2.2]] rfl ?_
      refine go_ops hΓ 1 rfl ?_
      obtain rfl := Option.some.inj h25
      exact fin_objs hΓ [_] (.inl rfl) rfl rfl rfl rfl (.inr ⟨HB.mk rfl, rfl⟩)
theorem c_laneref1_condReader_wrong {v_r : T_laneref1_condReader} {r : T_api_Cond × T_laneref1_condReader} (h : m_laneref1_condReader_wrong v_r = some r) : EC Tryz.prog 87 [.ptr 0 0] [.box 136 [S v_r.s, I v_r.v_at, S v_r.v_next.kind, I v_r.v_next.v_at, S v_r.v_next.name, I v_r.v_next.value.Kind, I v_r.v_next.value.Number, S v_r.v_next.value.Words, I v_r.v_next.value.Version.1, I v_r.v_next.value.Version.2.1, I v_r.v_next.value.Version.2.2.1, I v_r.v_next.value.Version.2.2.2, I v_r.fault]] fun g hp' => g = .agg [I r.1.Kind, S r.1.Name, S r.1.Op, I r.1.Value.Kind, I r.1.Value.Number, S r.1.Value.Words, I r.1.Value.Version.1, I r.1.Value.Version.2.1, I r.1.Value.Version.2.2.1, I r.1.Value.Version.2.2.2, .d (.ro r.1.Kids.n r.1.Kids.xs)] ∧ hp' = [.box 136 [S r.2.s, I r.2.v_at, S r.2.v_next.kind, I r.2.v_next.v_at, S r.2.v_next.name, I r.2.v_next.value.Kind, I r.2.v_next.value.Number, S r.2.v_next.value.Words, I r.2.v_next.value.Version.1, I r.2.v_next.value.Version.2.1, I r.2.v_next.value.Version.2.2.1, I r.2.v_next.value.Version.2.2.2, I r.2.fault]] := by
  refine ec_enter (Fr.of 0 _) Tryz.func87 rfl (Fr.of_ok _) (Nat.le_of_ble_eq_true rfl) fun _ => ?_
  refine go_in ?_
  unfold m_laneref1_condReader_wrong at h
  refine go hΓ 2 rfl ?_
  refine eo_alloc hΓ rfl rfl rfl (Nat.le_of_ble_eq_true rfl) ?_
  obtain ⟨q1, hq1, h2⟩ := bi_ok h
  refine go_ops hΓ 12 rfl ?_
  refine j_cutNZ [(2, .ptr 1 0)] [.box 136 [S v_r.s, I v_r.v_at, S v_r.v_next.kind, I v_r.v_next.v_at, S v_r.v_next.name, I v_r.v_next.value.Kind, I v_r.v_next.value.Number, S v_r.v_next.value.Words, I v_r.v_next.value.Version.1, I v_r.v_next.value.Version.2.1, I v_r.v_next.value.Version.2.2.1, I v_r.v_next.value.Version.2.2.2, I q1], .box 32 [I 0, S [], S [], I 0, I 0, S [], I 0, I 0, I 0, I 0, .d (.ro (KD.mk 0 []).n (KD.mk 0 []).xs)]] ?_ ?_
  · refine j_cond rfl (fun hb => ?_) (fun hb => ?_)
    · have h3 := cT hq1 hb
      refine go hΓ 9 rfl ?_
      refine eo_store hΓ rfl rfl rfl rfl rfl rfl rfl rfl (Nat.le_of_ble_eq_true rfl) ?_
      refine eo_hp [.box 136 [S v_r.s, I v_r.v_at, S v_r.v_next.kind, I v_r.v_next.v_at, S v_r.v_next.name, I v_r.v_next.value.Kind, I v_r.v_next.value.Number, S v_r.v_next.value.Words, I v_r.v_next.value.Version.1, I v_r.v_next.value.Version.2.1, I v_r.v_next.value.Version.2.2.1, I v_r.v_next.value.Version.2.2.2, I v_r.v_next.v_at], .box 32 [I 0, S [], S [], I 0, I 0, S [], I 0, I 0, I 0, I 0, .d (.ro (KD.mk 0 []).n (KD.mk 0 []).xs)]] rfl ?_
      refine go_ops hΓ 1 rfl ?_
      obtain rfl := Option.some.inj h3
      exact ⟨⟨rfl, trivial⟩, [], rfl, .inl rfl⟩
    · have h4 := cF hq1 hb
      refine go hΓ 1 rfl ?_
      obtain rfl := Option.some.inj h4
      exact ⟨⟨rfl, trivial⟩, [], rfl, .inl rfl⟩
  · refine go hΓ 3 rfl ?_
    refine eo_build hΓ (gs := [I 0, S [], S [], I 0, I 0, S [], I 0, I 0, I 0, I 0, .d (.ro (KD.mk 0 []).n (KD.mk 0 []).xs)]) rfl rfl rfl rfl rfl rfl rfl ?_
    refine eo_store hΓ rfl rfl rfl rfl rfl rfl rfl rfl (Nat.le_of_ble_eq_true rfl) ?_
    refine eo_hp [.box 136 [S v_r.s, I v_r.v_at, S v_r.v_next.kind, I v_r.v_next.v_at, S v_r.v_next.name, I v_r.v_next.value.Kind, I v_r.v_next.value.Number, S v_r.v_next.value.Words, I v_r.v_next.value.Version.1, I v_r.v_next.value.Version.2.1, I v_r.v_next.value.Version.2.2.1, I v_r.v_next.value.Version.2.2.2, I q1], .box 32 [I 0, S [], S [], I 0, I 0, S [], I 0, I 0, I 0, I 0, .d (.ro (KD.mk 0 []).n (KD.mk 0 []).xs)]] rfl ?_
    refine go_ops hΓ 3 rfl ?_
    obtain rfl := Option.some.inj h2
    exact fin_objs hΓ [_] (.inr rfl) rfl rfl rfl rfl (.inr ⟨HB.mk rfl, rfl⟩)
theorem c_laneref1_condReader_part {rc_laneref1_condReader_cond : T_laneref1_condReader → Option (T_api_Cond × T_laneref1_condReader)} (ih_laneref1_condReader_cond : ∀ {v_r : T_laneref1_condReader} {r : T_api_Cond × T_laneref1_condReader}, rc_laneref1_condReader_cond v_r = some r → EC Tryz.prog 86 [.ptr 0 0] [.box 136 [S v_r.s, I v_r.v_at, S v_r.v_next.kind, I v_r.v_next.v_at, S v_r.v_next.name, I v_r.v_next.value.Kind, I v_r.v_next.value.Number, S v_r.v_next.value.Words, I v_r.v_next.value.Version.1, I v_r.v_next.value.Version.2.1, I v_r.v_next.value.Version.2.2.1, I v_r.v_next.value.Version.2.2.2, I v_r.fault]] fun g hp' => g = .agg [I r.1.Kind, S r.1.Name, S r.1.Op, I r.1.Value.Kind, I r.1.Value.Number, S r.1.Value.Words, I r.1.Value.Version.1, I r.1.Value.Version.2.1, I r.1.Value.Version.2.2.1, I r.1.Value.Version.2.2.2, .d (.ro r.1.Kids.n r.1.Kids.xs)] ∧ hp' = [.box 136 [S r.2.s, I r.2.v_at, S r.2.v_next.kind, I r.2.v_next.v_at, S r.2.v_next.name, I r.2.v_next.value.Kind, I r.2.v_next.value.Number, S r.2.v_next.value.Words, I r.2.v_next.value.Version.1, I r.2.v_next.value.Version.2.1, I r.2.v_next.value.Version.2.2.1, I r.2.v_next.value.Version.2.2.2, I r.2.fault]]) {k : Nat} {v_r : T_laneref1_condReader} {r : T_api_Cond × T_laneref1_condReader} (h : m_laneref1_condReader_part rc_laneref1_condReader_cond k v_r = some r) : EC Tryz.prog 175 [.ptr 0 0] [.box 136 [S v_r.s, I v_r.v_at, S v_r.v_next.kind, I v_r.v_next.v_at, S v_r.v_next.name, I v_r.v_next.value.Kind, I v_r.v_next.value.Number, S v_r.v_next.value.Words, I v_r.v_next.value.Version.1, I v_r.v_next.value.Version.2.1, I v_r.v_next.value.Version.2.2.1, I v_r.v_next.value.Version.2.2.2, I v_r.fault]] fun g hp' => g = .agg [I r.1.Kind, S r.1.Name, S r.1.Op, I r.1.Value.Kind, I r.1.Value.Number, S r.1.Value.Words, I r.1.Value.Version.1, I r.1.Value.Version.2.1, I r.1.Value.Version.2.2.1, I r.1.Value.Version.2.2.2, .d (.ro r.1.Kids.n r.1.Kids.xs)] ∧ hp' = [.box 136 [S r.2.s, I r.2.v_at, S r.2.v_next.kind, I r.2.v_next.v_at, S r.2.v_next.name, I r.2.v_next.value.Kind, I r.2.v_next.value.Number, S r.2.v_next.value.Words, I r.2.v_next.value.Version.1, I r.2.v_next.value.Version.2.1, I r.2.v_next.value.Version.2.2.1, I r.2.v_next.value.Version.2.2.2, I r.2.fault]] := by
  induction k generalizing v_r r with
  | zero => unfold m_laneref1_condReader_part at h; cases h
  | succ k ih0 =>
    have ih : ∀ {v_r : T_laneref1_condReader} {r : T_api_Cond × T_laneref1_condReader}, m_laneref1_condReader_part rc_laneref1_condReader_cond k v_r = some r → EC Tryz.prog 175 [.ptr 0 0] [.box 136 [S v_r.s, I v_r.v_at, S v_r.v_next.kind, I v_r.v_next.v_at, S v_r.v_next.name, I v_r.v_next.value.Kind, I v_r.v_next.value.Number, S v_r.v_next.value.Words, I v_r.v_next.value.Version.1, I v_r.v_next.value.Version.2.1, I v_r.v_next.value.Version.2.2.1, I v_r.v_next.value.Version.2.2.2, I v_r.fault]] fun g hp' => g = .agg [I r.1.Kind, S r.1.Name, S r.1.Op, I r.1.Value.Kind, I r.1.Value.Number, S r.1.Value.Words, I r.1.Value.Version.1, I r.1.Value.Version.2.1, I r.1.Value.Version.2.2.1, I r.1.Value.Version.2.2.2, .d (.ro r.1.Kids.n r.1.Kids.xs)] ∧ hp' = [.box 136 [S r.2.s, I r.2.v_at, S r.2.v_next.kind, I r.2.v_next.v_at, S r.2.v_next.name, I r.2.v_next.value.Kind, I r.2.v_next.value.Number, S r.2.v_next.value.Words, I r.2.v_next.value.Version.1, I r.2.v_next.value.Version.2.1, I r.2.v_next.value.Version.2.2.1, I r.2.v_next.value.Version.2.2.2, I r.2.fault]] := by intro v_r r h; first | exact ih0 h | exact ih0 _ _ h
    refine ec_enter (Fr.of 0 _) Tryz.func175 rfl (Fr.of_ok _) (Nat.le_of_ble_eq_true rfl) fun _ => ?_
    refine go_in ?_
    unfold m_laneref1_condReader_part at h
    refine go hΓ 2 rfl ?_
    refine eo_alloc hΓ rfl rfl rfl (Nat.le_of_ble_eq_true rfl) ?_
    refine go_ops hΓ 19 rfl ?_
    refine j_cond rfl (fun hb => ?_) (fun hb => ?_)
    · have h1 := cT h hb
      obtain ⟨y2, hy2, h3⟩ := bi_ok h1
      refine go hΓ 3 rfl ?_
      refine eo_callF [0] (.tup []) [.box 136 [S y2.s, I y2.v_at, S y2.v_next.kind, I y2.v_next.v_at, S y2.v_next.name, I y2.v_next.value.Kind, I y2.v_next.value.Number, S y2.v_next.value.Words, I y2.v_next.value.Version.1, I y2.v_next.value.Version.2.1, I y2.v_next.value.Version.2.2.1, I y2.v_next.value.Version.2.2.2, I y2.fault], .box 32 [I 0, S [], S [], I 0, I 0, S [], I 0, I 0, I 0, I 0, .d (.ro (KD.mk 0 []).n (KD.mk 0 []).xs)]] (callable Tryz.func85 rfl rfl) (c_laneref1_condReader_scan hy2) rfl (Nat.le_of_ble_eq_true rfl) rfl rfl rfl rfl rfl rfl rfl rfl rfl rfl ?_
      obtain ⟨y4, hy4, h5⟩ := bi_ok h3
      refine go_ops hΓ 5 rfl ?_
      refine eo_callF [0] (.agg [I y4.1.Kind, S y4.1.Name, S y4.1.Op, I y4.1.Value.Kind, I y4.1.Value.Number, S y4.1.Value.Words, I y4.1.Value.Version.1, I y4.1.Value.Version.2.1, I y4.1.Value.Version.2.2.1, I y4.1.Value.Version.2.2.2, .d (.ro y4.1.Kids.n y4.1.Kids.xs)]) [.box 136 [S y4.2.s, I y4.2.v_at, S y4.2.v_next.kind, I y4.2.v_next.v_at, S y4.2.v_next.name, I y4.2.v_next.value.Kind, I y4.2.v_next.value.Number, S y4.2.v_next.value.Words, I y4.2.v_next.value.Version.1, I y4.2.v_next.value.Version.2.1, I y4.2.v_next.value.Version.2.2.1, I y4.2.v_next.value.Version.2.2.2, I y4.2.fault], .box 32 [I 0, S [], S [], I 0, I 0, S [], I 0, I 0, I 0, I 0, .d (.ro (KD.mk 0 []).n (KD.mk 0 []).xs)]] (callable Tryz.func175 rfl rfl) (ih hy4) rfl (Nat.le_of_ble_eq_true rfl) rfl rfl rfl rfl rfl rfl rfl rfl rfl rfl ?_
      refine eo_alloc hΓ rfl rfl rfl (Nat.le_of_ble_eq_true rfl) ?_
      refine eo_store hΓ rfl rfl rfl rfl rfl rfl rfl rfl (Nat.le_of_ble_eq_true rfl) ?_
      refine eo_hp [.box 136 [S y4.2.s, I y4.2.v_at, S y4.2.v_next.kind, I y4.2.v_next.v_at, S y4.2.v_next.name, I y4.2.v_next.value.Kind, I y4.2.v_next.value.Number, S y4.2.v_next.value.Words, I y4.2.v_next.value.Version.1, I y4.2.v_next.value.Version.2.1, I y4.2.v_next.value.Version.2.2.1, I y4.2.v_next.value.Version.2.2.2, I y4.2.fault], .box 32 [I 0, S [], S [], I 0, I 0, S [], I 0, I 0, I 0, I 0, .d (.ro (KD.mk 0 []).n (KD.mk 0 []).xs)], .box 32 [I y4.1.Kind, S y4.1.Name, S y4.1.Op, I y4.1.Value.Kind, I y4.1.Value.Number, S y4.1.Value.Words, I y4.1.Value.Version.1, I y4.1.Value.Version.2.1, I y4.1.Value.Version.2.2.1, I y4.1.Value.Version.2.2.2, .d (.ro y4.1.Kids.n y4.1.Kids.xs)]] rfl ?_
      refine go_ops hΓ 5 rfl ?_
      refine eo_litT hΓ (enc := e_api_Cond) [y4.1] rfl rfl rfl rfl rfl rfl rfl rfl rfl rfl rfl rfl (Nat.le_of_ble_eq_true rfl) ?_
      refine eo_build hΓ (gs := [I 2, S [], S [], I 0, I 0, S [], I 0, I 0, I 0, I 0, .d (.ro (pk e_api_Cond [y4.1]).n (pk e_api_Cond [y4.1]).xs)]) rfl rfl rfl rfl rfl rfl rfl ?_
      refine eo_store hΓ rfl rfl rfl rfl rfl rfl rfl rfl (Nat.le_of_ble_eq_true rfl) ?_
      refine eo_hp [.box 136 [S y4.2.s, I y4.2.v_at, S y4.2.v_next.kind, I y4.2.v_next.v_at, S y4.2.v_next.name, I y4.2.v_next.value.Kind, I y4.2.v_next.value.Number, S y4.2.v_next.value.Words, I y4.2.v_next.value.Version.1, I y4.2.v_next.value.Version.2.1, I y4.2.v_next.value.Version.2.2.1, I y4.2.v_next.value.Version.2.2.2, I y4.2.fault], .box 32 [I 2, S [], S [], I 0, I 0, S [], I 0, I 0, I 0, I 0, .d (.ro (pk e_api_Cond [y4.1]).n (pk e_api_Cond [y4.1]).xs)], .box 32 [I y4.1.Kind, S y4.1.Name, S y4.1.Op, I y4.1.Value.Kind, I y4.1.Value.Number, S y4.1.Value.Words, I y4.1.Value.Version.1, I y4.1.Value.Version.2.1, I y4.1.Value.Version.2.2.1, I y4.1.Value.Version.2.2.2, .d (.ro y4.1.Kids.n y4.1.Kids.xs)]] rfl ?_
      refine go_ops hΓ 5 rfl ?_
      obtain rfl := Option.some.inj h5
      exact fin_objs hΓ [_, _] (.inr rfl) rfl rfl rfl rfl (.inr ⟨HB.mk rfl, rfl⟩)
    · have h6 := cF h hb
      refine go hΓ 6 rfl ?_
      refine j_cond rfl (fun hb => ?_) (fun hb => ?_)
      · have h7 := cT h6 hb
        obtain ⟨y8, hy8, h9⟩ := bi_ok h7
        refine go hΓ 3 rfl ?_
        refine eo_callF [0] (.tup []) [.box 136 [S y8.s, I y8.v_at, S y8.v_next.kind, I y8.v_next.v_at, S y8.v_next.name, I y8.v_next.value.Kind, I y8.v_next.value.Number, S y8.v_next.value.Words, I y8.v_next.value.Version.1, I y8.v_next.value.Version.2.1, I y8.v_next.value.Version.2.2.1, I y8.v_next.value.Version.2.2.2, I y8.fault], .box 32 [I 0, S [], S [], I 0, I 0, S [], I 0, I 0, I 0, I 0, .d (.ro (KD.mk 0 []).n (KD.mk 0 []).xs)]] (callable Tryz.func85 rfl rfl) (c_laneref1_condReader_scan hy8) rfl (Nat.le_of_ble_eq_true rfl) rfl rfl rfl rfl rfl rfl rfl rfl rfl rfl ?_
        obtain ⟨y10, hy10, h11⟩ := bi_ok h9
        refine go_ops hΓ 5 rfl ?_
        refine eo_callF [0] (.agg [I y10.1.Kind, S y10.1.Name, S y10.1.Op, I y10.1.Value.Kind, I y10.1.Value.Number, S y10.1.Value.Words, I y10.1.Value.Version.1, I y10.1.Value.Version.2.1, I y10.1.Value.Version.2.2.1, I y10.1.Value.Version.2.2.2, .d (.ro y10.1.Kids.n y10.1.Kids.xs)]) [.box 136 [S y10.2.s, I y10.2.v_at, S y10.2.v_next.kind, I y10.2.v_next.v_at, S y10.2.v_next.name, I y10.2.v_next.value.Kind, I y10.2.v_next.value.Number, S y10.2.v_next.value.Words, I y10.2.v_next.value.Version.1, I y10.2.v_next.value.Version.2.1, I y10.2.v_next.value.Version.2.2.1, I y10.2.v_next.value.Version.2.2.2, I y10.2.fault], .box 32 [I 0, S [], S [], I 0, I 0, S [], I 0, I 0, I 0, I 0, .d (.ro (KD.mk 0 []).n (KD.mk 0 []).xs)]] (callable Tryz.func86 rfl rfl) (ih_laneref1_condReader_cond hy10) rfl (Nat.le_of_ble_eq_true rfl) rfl rfl rfl rfl rfl rfl rfl rfl rfl rfl ?_
        refine eo_alloc hΓ rfl rfl rfl (Nat.le_of_ble_eq_true rfl) ?_
        refine eo_store hΓ rfl rfl rfl rfl rfl rfl rfl rfl (Nat.le_of_ble_eq_true rfl) ?_
        refine eo_hp [.box 136 [S y10.2.s, I y10.2.v_at, S y10.2.v_next.kind, I y10.2.v_next.v_at, S y10.2.v_next.name, I y10.2.v_next.value.Kind, I y10.2.v_next.value.Number, S y10.2.v_next.value.Words, I y10.2.v_next.value.Version.1, I y10.2.v_next.value.Version.2.1, I y10.2.v_next.value.Version.2.2.1, I y10.2.v_next.value.Version.2.2.2, I y10.2.fault], .box 32 [I 0, S [], S [], I 0, I 0, S [], I 0, I 0, I 0, I 0, .d (.ro (KD.mk 0 []).n (KD.mk 0 []).xs)], .box 32 [I y10.1.Kind, S y10.1.Name, S y10.1.Op, I y10.1.Value.Kind, I y10.1.Value.Number, S y10.1.Value.Words, I y10.1.Value.Version.1, I y10.1.Value.Version.2.1, I y10.1.Value.Version.2.2.1, I y10.1.Value.Version.2.2.2, .d (.ro y10.1.Kids.n y10.1.Kids.xs)]] rfl ?_
        refine go_ops hΓ 11 rfl ?_
        refine o_cut 7 [(0, .ptr 0 0), (2, .ptr 1 0), (4, .ptr 2 0), (38, B ((decide ((y10.2.fault : Int) ≥ 0)) || (!((y10.2.v_next.kind : Str) == [41]))))] [.box 136 [S y10.2.s, I y10.2.v_at, S y10.2.v_next.kind, I y10.2.v_next.v_at, S y10.2.v_next.name, I y10.2.v_next.value.Kind, I y10.2.v_next.value.Number, S y10.2.v_next.value.Words, I y10.2.v_next.value.Version.1, I y10.2.v_next.value.Version.2.1, I y10.2.v_next.value.Version.2.2.1, I y10.2.v_next.value.Version.2.2.2, I y10.2.fault], .box 32 [I 0, S [], S [], I 0, I 0, S [], I 0, I 0, I 0, I 0, .d (.ro (KD.mk 0 []).n (KD.mk 0 []).xs)], .box 32 [I y10.1.Kind, S y10.1.Name, S y10.1.Op, I y10.1.Value.Kind, I y10.1.Value.Number, S y10.1.Value.Words, I y10.1.Value.Version.1, I y10.1.Value.Version.2.1, I y10.1.Value.Version.2.2.1, I y10.1.Value.Version.2.2.2, .d (.ro y10.1.Kids.n y10.1.Kids.xs)]] ?_ ?_
        · refine eo_gsplit rfl rfl (fun hb => ?_) (fun hb => ?_)
          · refine go_ops hΓ 8 rfl ?_
            exact ⟨⟨rfl, rfl, rfl, get_b rfl (or_t hb), trivial⟩, [], rfl, .inl rfl⟩
          · refine go_ops hΓ 8 rfl ?_
            exact ⟨⟨rfl, rfl, rfl, get_b rfl (or_f hb), trivial⟩, [], rfl, .inl rfl⟩
        · refine go_ops hΓ 2 rfl ?_
          refine j_cond rfl (fun hb => ?_) (fun hb => ?_)
          · have h12 := cT h11 hb
            obtain ⟨y13, hy13, h14⟩ := bi_ok h12
            refine go hΓ 3 rfl ?_
            refine eo_callF [0] (.agg [I y13.1.Kind, S y13.1.Name, S y13.1.Op, I y13.1.Value.Kind, I y13.1.Value.Number, S y13.1.Value.Words, I y13.1.Value.Version.1, I y13.1.Value.Version.2.1, I y13.1.Value.Version.2.2.1, I y13.1.Value.Version.2.2.2, .d (.ro y13.1.Kids.n y13.1.Kids.xs)]) [.box 136 [S y13.2.s, I y13.2.v_at, S y13.2.v_next.kind, I y13.2.v_next.v_at, S y13.2.v_next.name, I y13.2.v_next.value.Kind, I y13.2.v_next.value.Number, S y13.2.v_next.value.Words, I y13.2.v_next.value.Version.1, I y13.2.v_next.value.Version.2.1, I y13.2.v_next.value.Version.2.2.1, I y13.2.v_next.value.Version.2.2.2, I y13.2.fault], .box 32 [I 0, S [], S [], I 0, I 0, S [], I 0, I 0, I 0, I 0, .d (.ro (KD.mk 0 []).n (KD.mk 0 []).xs)], .box 32 [I y10.1.Kind, S y10.1.Name, S y10.1.Op, I y10.1.Value.Kind, I y10.1.Value.Number, S y10.1.Value.Words, I y10.1.Value.Version.1, I y10.1.Value.Version.2.1, I y10.1.Value.Version.2.2.1, I y10.1.Value.Version.2.2.2, .d (.ro y10.1.Kids.n y10.1.Kids.xs)]] (callable Tryz.func87 rfl rfl) (c_laneref1_condReader_wrong hy13) rfl (Nat.le_of_ble_eq_true rfl) rfl rfl rfl rfl rfl rfl rfl rfl rfl rfl ?_
            refine eo_store hΓ rfl rfl rfl rfl rfl rfl rfl rfl (Nat.le_of_ble_eq_true rfl) ?_
            refine eo_hp [.box 136 [S y13.2.s, I y13.2.v_at, S y13.2.v_next.kind, I y13.2.v_next.v_at, S y13.2.v_next.name, I y13.2.v_next.value.Kind, I y13.2.v_next.value.Number, S y13.2.v_next.value.Words, I y13.2.v_next.value.Version.1, I y13.2.v_next.value.Version.2.1, I y13.2.v_next.value.Version.2.2.1, I y13.2.v_next.value.Version.2.2.2, I y13.2.fault], .box 32 [I y13.1.Kind, S y13.1.Name, S y13.1.Op, I y13.1.Value.Kind, I y13.1.Value.Number, S y13.1.Value.Words, I y13.1.Value.Version.1, I y13.1.Value.Version.2.1, I y13.1.Value.Version.2.2.1, I y13.1.Value.Version.2.2.2, .d (.ro y13.1.Kids.n y13.1.Kids.xs)], .box 32 [I y10.1.Kind, S y10.1.Name, S y10.1.Op, I y10.1.Value.Kind, I y10.1.Value.Number, S y10.1.Value.Words, I y10.1.Value.Version.1, I y10.1.Value.Version.2.1, I y10.1.Value.Version.2.2.1, I y10.1.Value.Version.2.2.2, .d (.ro y10.1.Kids.n y10.1.Kids.xs)]] rfl ?_
            refine go_ops hΓ 6 rfl ?_
            obtain rfl := Option.some.inj h14
            exact fin_objs hΓ [_, _] (.inr rfl) rfl rfl rfl rfl (.inr ⟨HB.mk rfl, rfl⟩)
          · have h15 := cF h11 hb
            obtain ⟨y16, hy16, h17⟩ := bi_ok h15
            refine go hΓ 5 rfl ?_
            refine eo_callF [0] (.tup []) [.box 136 [S y16.s, I y16.v_at, S y16.v_next.kind, I y16.v_next.v_at, S y16.v_next.name, I y16.v_next.value.Kind, I y16.v_next.value.Number, S y16.v_next.value.Words, I y16.v_next.value.Version.1, I y16.v_next.value.Version.2.1, I y16.v_next.value.Version.2.2.1, I y16.v_next.value.Version.2.2.2, I y16.fault], .box 32 [I 0, S [], S [], I 0, I 0, S [], I 0, I 0, I 0, I 0, .d (.ro (KD.mk 0 []).n (KD.mk 0 []).xs)], .box 32 [I y10.1.Kind, S y10.1.Name, S y10.1.Op, I y10.1.Value.Kind, I y10.1.Value.Number, S y10.1.Value.Words, I y10.1.Value.Version.1, I y10.1.Value.Version.2.1, I y10.1.Value.Version.2.2.1, I y10.1.Value.Version.2.2.2, .d (.ro y10.1.Kids.n y10.1.Kids.xs)]] (callable Tryz.func85 rfl rfl) (c_laneref1_condReader_scan hy16) rfl (Nat.le_of_ble_eq_true rfl) rfl rfl rfl rfl rfl rfl rfl rfl rfl rfl ?_
            refine go_ops hΓ 5 rfl ?_
            refine eo_store hΓ rfl rfl rfl rfl rfl rfl rfl rfl (Nat.le_of_ble_eq_true rfl) ?_
            refine eo_hp [.box 136 [S y16.s, I y16.v_at, S y16.v_next.kind, I y16.v_next.v_at, S y16.v_next.name, I y16.v_next.value.Kind, I y16.v_next.value.Number, S y16.v_next.value.Words, I y16.v_next.value.Version.1, I y16.v_next.value.Version.2.1, I y16.v_next.value.Version.2.2.1, I y16.v_next.value.Version.2.2.2, I y16.fault], .box 32 [I y10.1.Kind, S y10.1.Name, S y10.1.Op, I y10.1.Value.Kind, I y10.1.Value.Number, S y10.1.Value.Words, I y10.1.Value.Version.1, I y10.1.Value.Version.2.1, I y10.1.Value.Version.2.2.1, I y10.1.Value.Version.2.2.2, .d (.ro y10.1.Kids.n y10.1.Kids.xs)], .box 32 [I y10.1.Kind, S y10.1.Name, S y10.1.Op, I y10.1.Value.Kind, I y10.1.Value.Number, S y10.1.Value.Words, I y10.1.Value.Version.1, I y10.1.Value.Version.2.1, I y10.1.Value.Version.2.2.1, I y10.1.Value.Version.2.2.2, .d (.ro y10.1.Kids.n y10.1.Kids.xs)]] rfl ?_
            refine go_ops hΓ 5 rfl ?_
            obtain rfl := Option.some.inj h17
            exact fin_objs hΓ [_, _] (.inr rfl) rfl rfl rfl rfl (.inr ⟨HB.mk rfl, rfl⟩)
      · have h18 := cF h6 hb
        refine go hΓ 6 rfl ?_
        refine j_cond rfl (fun hb => ?_) (fun hb => ?_)
        · have h19 := cT h18 hb
          refine go hΓ 7 rfl ?_
          refine eo_build hΓ (gs := [I 3, I 1, S [], I 0, I 0, I 0, I 0]) rfl rfl rfl rfl rfl rfl rfl ?_
          refine eo_build hΓ (gs := [I 1, S v_r.v_next.name, S [61, 61], I 3, I 1, S [], I 0, I 0, I 0, I 0, .d (.ro (KD.mk 0 []).n (KD.mk 0 []).xs)]) rfl rfl rfl rfl rfl rfl rfl ?_
          refine eo_alloc hΓ rfl rfl rfl (Nat.le_of_ble_eq_true rfl) ?_
          refine eo_store hΓ rfl rfl rfl rfl rfl rfl rfl rfl (Nat.le_of_ble_eq_true rfl) ?_
          refine eo_hp [.box 136 [S v_r.s, I v_r.v_at, S v_r.v_next.kind, I v_r.v_next.v_at, S v_r.v_next.name, I v_r.v_next.value.Kind, I v_r.v_next.value.Number, S v_r.v_next.value.Words, I v_r.v_next.value.Version.1, I v_r.v_next.value.Version.2.1, I v_r.v_next.value.Version.2.2.1, I v_r.v_next.value.Version.2.2.2, I v_r.fault], .box 32 [I 0, S [], S [], I 0, I 0, S [], I 0, I 0, I 0, I 0, .d (.ro (KD.mk 0 []).n (KD.mk 0 []).xs)], .box 32 [I 1, S v_r.v_next.name, S [61, 61], I 3, I 1, S [], I 0, I 0, I 0, I 0, .d (.ro (KD.mk 0 []).n (KD.mk 0 []).xs)]] rfl ?_
          obtain ⟨y20, hy20, h21⟩ := bi_ok h19
          refine go_ops hΓ 5 rfl ?_
          refine eo_callF [0] (.tup []) [.box 136 [S y20.s, I y20.v_at, S y20.v_next.kind, I y20.v_next.v_at, S y20.v_next.name, I y20.v_next.value.Kind, I y20.v_next.value.Number, S y20.v_next.value.Words, I y20.v_next.value.Version.1, I y20.v_next.value.Version.2.1, I y20.v_next.value.Version.2.2.1, I y20.v_next.value.Version.2.2.2, I y20.fault], .box 32 [I 0, S [], S [], I 0, I 0, S [], I 0, I 0, I 0, I 0, .d (.ro (KD.mk 0 []).n (KD.mk 0 []).xs)], .box 32 [I 1, S v_r.v_next.name, S [61, 61], I 3, I 1, S [], I 0, I 0, I 0, I 0, .d (.ro (KD.mk 0 []).n (KD.mk 0 []).xs)]] (callable Tryz.func85 rfl rfl) (c_laneref1_condReader_scan hy20) rfl (Nat.le_of_ble_eq_true rfl) rfl rfl rfl rfl rfl rfl rfl rfl rfl rfl ?_
          refine go_ops hΓ 4 rfl ?_
          refine j_draw hmix (by kernel_rfl) ?_
          obtain ⟨y22, hy22, h23⟩ := bi_ok h21
          refine gl_callP (callable Tryz.func160 rfl rfl) (c_laneref1_Ops hy22) rfl rfl rfl rfl rfl rfl ?_
          obtain ⟨y24, hy24, h25⟩ := bi_ok h23
          refine go_draw hΓ 5 rfl ?_
          refine gl_callP (callable Tryz.func227 rfl rfl) (c_slices_Contains_string_string hy24) rfl rfl rfl rfl rfl rfl ?_
          refine go_draw hΓ 3 rfl ?_
          refine j_cond rfl (fun hb => ?_) (fun hb => ?_)
          · have h26 := cT h25 hb
            refine go hΓ 3 rfl ?_
            refine eo_store hΓ rfl rfl rfl rfl rfl rfl rfl rfl (Nat.le_of_ble_eq_true rfl) ?_
            refine eo_hp [.box 136 [S y20.s, I y20.v_at, S y20.v_next.kind, I y20.v_next.v_at, S y20.v_next.name, I y20.v_next.value.Kind, I y20.v_next.value.Number, S y20.v_next.value.Words, I y20.v_next.value.Version.1, I y20.v_next.value.Version.2.1, I y20.v_next.value.Version.2.2.1, I y20.v_next.value.Version.2.2.2, I y20.fault], .box 32 [I 1, S v_r.v_next.name, S [61, 61], I 3, I 1, S [], I 0, I 0, I 0, I 0, .d (.ro (KD.mk 0 []).n (KD.mk 0 []).xs)], .box 32 [I 1, S v_r.v_next.name, S [61, 61], I 3, I 1, S [], I 0, I 0, I 0, I 0, .d (.ro (KD.mk 0 []).n (KD.mk 0 []).xs)]] rfl ?_
            refine go_ops hΓ 6 rfl ?_
            obtain rfl := Option.some.inj h26
            exact fin_objs hΓ [_, _] (.inr rfl) rfl rfl rfl rfl (.inr ⟨HB.mk rfl, rfl⟩)
          · have h27 := cF h25 hb
            refine go hΓ 10 rfl ?_
            refine eo_store hΓ rfl rfl rfl rfl rfl rfl rfl rfl (Nat.le_of_ble_eq_true rfl) ?_
            refine eo_hp [.box 136 [S y20.s, I y20.v_at, S y20.v_next.kind, I y20.v_next.v_at, S y20.v_next.name, I y20.v_next.value.Kind, I y20.v_next.value.Number, S y20.v_next.value.Words, I y20.v_next.value.Version.1, I y20.v_next.value.Version.2.1, I y20.v_next.value.Version.2.2.1, I y20.v_next.value.Version.2.2.2, I y20.fault], .box 32 [I 0, S [], S [], I 0, I 0, S [], I 0, I 0, I 0, I 0, .d (.ro (KD.mk 0 []).n (KD.mk 0 []).xs)], .box 32 [I 1, S v_r.v_next.name, S y20.v_next.kind, I 3, I 1, S [], I 0, I 0, I 0, I 0, .d (.ro (KD.mk 0 []).n (KD.mk 0 []).xs)]] rfl ?_
            obtain ⟨y28, hy28, h29⟩ := bi_ok h27
            refine go_ops hΓ 5 rfl ?_
            refine eo_callF [0] (.tup []) [.box 136 [S y28.s, I y28.v_at, S y28.v_next.kind, I y28.v_next.v_at, S y28.v_next.name, I y28.v_next.value.Kind, I y28.v_next.value.Number, S y28.v_next.value.Words, I y28.v_next.value.Version.1, I y28.v_next.value.Version.2.1, I y28.v_next.value.Version.2.2.1, I y28.v_next.value.Version.2.2.2, I y28.fault], .box 32 [I 0, S [], S [], I 0, I 0, S [], I 0, I 0, I 0, I 0, .d (.ro (KD.mk 0 []).n (KD.mk 0 []).xs)], .box 32 [I 1, S v_r.v_next.name, S y20.v_next.kind, I 3, I 1, S [], I 0, I 0, I 0, I 0, .d (.ro (KD.mk 0 []).n (KD.mk 0 []).xs)]] (callable Tryz.func85 rfl rfl) (c_laneref1_condReader_scan hy28) rfl (Nat.le_of_ble_eq_true rfl) rfl rfl rfl rfl rfl rfl rfl rfl rfl rfl ?_
            refine go_ops hΓ 12 rfl ?_
            refine o_cut 7 [(0, .ptr 0 0), (2, .ptr 1 0), (5, .ptr 2 0), (85, B ((!((y28.v_next.kind : Str) == [118])) && (!((y28.v_next.kind : Str) == [102]))))] [.box 136 [S y28.s, I y28.v_at, S y28.v_next.kind, I y28.v_next.v_at, S y28.v_next.name, I y28.v_next.value.Kind, I y28.v_next.value.Number, S y28.v_next.value.Words, I y28.v_next.value.Version.1, I y28.v_next.value.Version.2.1, I y28.v_next.value.Version.2.2.1, I y28.v_next.value.Version.2.2.2, I y28.fault], .box 32 [I 0, S [], S [], I 0, I 0, S [], I 0, I 0, I 0, I 0, .d (.ro (KD.mk 0 []).n (KD.mk 0 []).xs)], .box 32 [I 1, S v_r.v_next.name, S y20.v_next.kind, I 3, I 1, S [], I 0, I 0, I 0, I 0, .d (.ro (KD.mk 0 []).n (KD.mk 0 []).xs)]] ?_ ?_
            · refine eo_gsplit rfl rfl (fun hb => ?_) (fun hb => ?_)
              · refine go_ops hΓ 8 rfl ?_
                exact ⟨⟨rfl, rfl, rfl, get_b rfl (and_t hb), trivial⟩, [], rfl, .inl rfl⟩
              · refine go_ops hΓ 8 rfl ?_
                exact ⟨⟨rfl, rfl, rfl, get_b rfl (and_f hb), trivial⟩, [], rfl, .inl rfl⟩
            · refine go_ops hΓ 2 rfl ?_
              refine j_cond rfl (fun hb => ?_) (fun hb => ?_)
              · have h30 := cT h29 hb
                obtain ⟨y31, hy31, h32⟩ := bi_ok h30
                refine go hΓ 3 rfl ?_
                refine eo_callF [0] (.agg [I y31.1.Kind, S y31.1.Name, S y31.1.Op, I y31.1.Value.Kind, I y31.1.Value.Number, S y31.1.Value.Words, I y31.1.Value.Version.1, I y31.1.Value.Version.2.1, I y31.1.Value.Version.2.2.1, I y31.1.Value.Version.2.2.2, .d (.ro y31.1.Kids.n y31.1.Kids.xs)]) [.box 136 [S y31.2.s, I y31.2.v_at, S y31.2.v_next.kind, I y31.2.v_next.v_at, S y31.2.v_next.name, I y31.2.v_next.value.Kind, I y31.2.v_next.value.Number, S y31.2.v_next.value.Words, I y31.2.v_next.value.Version.1, I y31.2.v_next.value.Version.2.1, I y31.2.v_next.value.Version.2.2.1, I y31.2.v_next.value.Version.2.2.2, I y31.2.fault], .box 32 [I 0, S [], S [], I 0, I 0, S [], I 0, I 0, I 0, I 0, .d (.ro (KD.mk 0 []).n (KD.mk 0 []).xs)], .box 32 [I 1, S v_r.v_next.name, S y20.v_next.kind, I 3, I 1, S [], I 0, I 0, I 0, I 0, .d (.ro (KD.mk 0 []).n (KD.mk 0 []).xs)]] (callable Tryz.func87 rfl rfl) (c_laneref1_condReader_wrong hy31) rfl (Nat.le_of_ble_eq_true rfl) rfl rfl rfl rfl rfl rfl rfl rfl rfl rfl ?_
                refine eo_store hΓ rfl rfl rfl rfl rfl rfl rfl rfl (Nat.le_of_ble_eq_true rfl) ?_
                refine eo_hp [.box 136 [S y31.2.s, I y31.2.v_at, S y31.2.v_next.kind, I y31.2.v_next.v_at, S y31.2.v_next.name, I y31.2.v_next.value.Kind, I y31.2.v_next.value.Number, S y31.2.v_next.value.Words, I y31.2.v_next.value.Version.1, I y31.2.v_next.value.Version.2.1, I y31.2.v_next.value.Version.2.2.1, I y31.2.v_next.value.Version.2.2.2, I y31.2.fault], .box 32 [I y31.1.Kind, S y31.1.Name, S y31.1.Op, I y31.1.Value.Kind, I y31.1.Value.Number, S y31.1.Value.Words, I y31.1.Value.Version.1, I y31.1.Value.Version.2.1, I y31.1.Value.Version.2.2.1, I y31.1.Value.Version.2.2.2, .d (.ro y31.1.Kids.n y31.1.Kids.xs)], .box 32 [I 1, S v_r.v_next.name, S y20.v_next.kind, I 3, I 1, S [], I 0, I 0, I 0, I 0, .d (.ro (KD.mk 0 []).n (KD.mk 0 []).xs)]] rfl ?_
                refine go_ops hΓ 6 rfl ?_
                obtain rfl := Option.some.inj h32
                exact fin_objs hΓ [_, _] (.inr rfl) rfl rfl rfl rfl (.inr ⟨HB.mk rfl, rfl⟩)
              · have h33 := cF h29 hb
                refine go hΓ 10 rfl ?_
                refine eo_store hΓ rfl rfl rfl rfl rfl rfl rfl rfl (Nat.le_of_ble_eq_true rfl) ?_
                refine eo_hp [.box 136 [S y28.s, I y28.v_at, S y28.v_next.kind, I y28.v_next.v_at, S y28.v_next.name, I y28.v_next.value.Kind, I y28.v_next.value.Number, S y28.v_next.value.Words, I y28.v_next.value.Version.1, I y28.v_next.value.Version.2.1, I y28.v_next.value.Version.2.2.1, I y28.v_next.value.Version.2.2.2, I y28.fault], .box 32 [I 0, S [], S [], I 0, I 0, S [], I 0, I 0, I 0, I 0, .d (.ro (KD.mk 0 []).n (KD.mk 0 []).xs)], .box 32 [I 1, S v_r.v_next.name, S y20.v_next.kind, I y28.v_next.value.Kind, I y28.v_next.value.Number, S y28.v_next.value.Words, I y28.v_next.value.Version.1, I y28.v_next.value.Version.2.1, I y28.v_next.value.Version.2.2.1, I y28.v_next.value.Version.2.2.2, .d (.ro (KD.mk 0 []).n (KD.mk 0 []).xs)]] rfl ?_
                obtain ⟨y34, hy34, h35⟩ := bi_ok h33
                refine go_ops hΓ 5 rfl ?_
                refine eo_callF [0] (.tup []) [.box 136 [S y34.s, I y34.v_at, S y34.v_next.kind, I y34.v_next.v_at, S y34.v_next.name, I y34.v_next.value.Kind, I y34.v_next.value.Number, S y34.v_next.value.Words, I y34.v_next.value.Version.1, I y34.v_next.value.Version.2.1, I y34.v_next.value.Version.2.2.1, I y34.v_next.value.Version.2.2.2, I y34.fault], .box 32 [I 0, S [], S [], I 0, I 0, S [], I 0, I 0, I 0, I 0, .d (.ro (KD.mk 0 []).n (KD.mk 0 []).xs)], .box 32 [I 1, S v_r.v_next.name, S y20.v_next.kind, I y28.v_next.value.Kind, I y28.v_next.value.Number, S y28.v_next.value.Words, I y28.v_next.value.Version.1, I y28.v_next.value.Version.2.1, I y28.v_next.value.Version.2.2.1, I y28.v_next.value.Version.2.2.2, .d (.ro (KD.mk 0 []).n (KD.mk 0 []).xs)]] (callable Tryz.func85 rfl rfl) (c_laneref1_condReader_scan hy34) rfl (Nat.le_of_ble_eq_true rfl) rfl rfl rfl rfl rfl rfl rfl rfl rfl rfl ?_
                refine go_ops hΓ 5 rfl ?_
                refine eo_store hΓ rfl rfl rfl rfl rfl rfl rfl rfl (Nat.le_of_ble_eq_true rfl) ?_
                refine eo_hp [.box 136 [S y34.s, I y34.v_at, S y34.v_next.kind, I y34.v_next.v_at, S y34.v_next.name, I y34.v_next.value.Kind, I y34.v_next.value.Number, S y34.v_next.value.Words, I y34.v_next.value.Version.1, I y34.v_next.value.Version.2.1, I y34.v_next.value.Version.2.2.1, I y34.v_next.value.Version.2.2.2, I y34.fault], .box 32 [I 1, S v_r.v_next.name, S y20.v_next.kind, I y28.v_next.value.Kind, I y28.v_next.value.Number, S y28.v_next.value.Words, I y28.v_next.value.Version.1, I y28.v_next.value.Version.2.1, I y28.v_next.value.Version.2.2.1, I y28.v_next.value.Version.2.2.2, .d (.ro (KD.mk 0 []).n (KD.mk 0 []).xs)], .box 32 [I 1, S v_r.v_next.name, S y20.v_next.kind, I y28.v_next.value.Kind, I y28.v_next.value.Number, S y28.v_next.value.Words, I y28.v_next.value.Version.1, I y28.v_next.value.Version.2.1, I y28.v_next.value.Version.2.2.1, I y28.v_next.value.Version.2.2.2, .d (.ro (KD.mk 0 []).n (KD.mk 0 []).xs)]] rfl ?_
                refine go_ops hΓ 5 rfl ?_
                obtain rfl := Option.some.inj h35
                exact fin_objs hΓ [_, _] (.inr rfl) rfl rfl rfl rfl (.inr ⟨HB.mk rfl, rfl⟩)
        · have h36 := cF h18 hb
          obtain ⟨y37, hy37, h38⟩ := bi_ok h36
          refine go hΓ 6 rfl ?_
          refine eo_callF [0] (.agg [I y37.1.Kind, S y37.1.Name, S y37.1.Op, I y37.1.Value.Kind, I y37.1.Value.Number, S y37.1.Value.Words, I y37.1.Value.Version.1, I y37.1.Value.Version.2.1, I y37.1.Value.Version.2.2.1, I y37.1.Value.Version.2.2.2, .d (.ro y37.1.Kids.n y37.1.Kids.xs)]) [.box 136 [S y37.2.s, I y37.2.v_at, S y37.2.v_next.kind, I y37.2.v_next.v_at, S y37.2.v_next.name, I y37.2.v_next.value.Kind, I y37.2.v_next.value.Number, S y37.2.v_next.value.Words, I y37.2.v_next.value.Version.1, I y37.2.v_next.value.Version.2.1, I y37.2.v_next.value.Version.2.2.1, I y37.2.v_next.value.Version.2.2.2, I y37.2.fault], .box 32 [I 0, S [], S [], I 0, I 0, S [], I 0, I 0, I 0, I 0, .d (.ro (KD.mk 0 []).n (KD.mk 0 []).xs)]] (callable Tryz.func87 rfl rfl) (c_laneref1_condReader_wrong hy37) rfl (Nat.le_of_ble_eq_true rfl) rfl rfl rfl rfl rfl rfl rfl rfl rfl rfl ?_
          refine eo_store hΓ rfl rfl rfl rfl rfl rfl rfl rfl (Nat.le_of_ble_eq_true rfl) ?_
          refine eo_hp [.box 136 [S y37.2.s, I y37.2.v_at, S y37.2.v_next.kind, I y37.2.v_next.v_at, S y37.2.v_next.name, I y37.2.v_next.value.Kind, I y37.2.v_next.value.Number, S y37.2.v_next.value.Words, I y37.2.v_next.value.Version.1, I y37.2.v_next.value.Version.2.1, I y37.2.v_next.value.Version.2.2.1, I y37.2.v_next.value.Version.2.2.2, I y37.2.fault], .box 32 [I y37.1.Kind, S y37.1.Name, S y37.1.Op, I y37.1.Value.Kind, I y37.1.Value.Number, S y37.1.Value.Words, I y37.1.Value.Version.1, I y37.1.Value.Version.2.1, I y37.1.Value.Version.2.2.1, I y37.1.Value.Version.2.2.2, .d (.ro y37.1.Kids.n y37.1.Kids.xs)]] rfl ?_
          refine go_ops hΓ 3 rfl ?_
          obtain rfl := Option.some.inj h38
          exact fin_objs hΓ [_] (.inr rfl) rfl rfl rfl rfl (.inr ⟨HB.mk rfl, rfl⟩)
set_option maxHeartbeats 8000000 in
theorem c_laneref1_condReader_list_2 {rc_laneref1_condReader_cond : T_laneref1_condReader → Option (T_api_Cond × T_laneref1_condReader)} (ih_laneref1_condReader_cond : ∀ {v_r : T_laneref1_condReader} {r : T_api_Cond × T_laneref1_condReader}, rc_laneref1_condReader_cond v_r = some r → EC Tryz.prog 86 [.ptr 0 0] [.box 136 [S v_r.s, I v_r.v_at, S v_r.v_next.kind, I v_r.v_next.v_at, S v_r.v_next.name, I v_r.v_next.value.Kind, I v_r.v_next.value.Number, S v_r.v_next.value.Words, I v_r.v_next.value.Version.1, I v_r.v_next.value.Version.2.1, I v_r.v_next.value.Version.2.2.1, I v_r.v_next.value.Version.2.2.2, I v_r.fault]] fun g hp' => g = .agg [I r.1.Kind, S r.1.Name, S r.1.Op, I r.1.Value.Kind, I r.1.Value.Number, S r.1.Value.Words, I r.1.Value.Version.1, I r.1.Value.Version.2.1, I r.1.Value.Version.2.2.1, I r.1.Value.Version.2.2.2, .d (.ro r.1.Kids.n r.1.Kids.xs)] ∧ hp' = [.box 136 [S r.2.s, I r.2.v_at, S r.2.v_next.kind, I r.2.v_next.v_at, S r.2.v_next.name, I r.2.v_next.value.Kind, I r.2.v_next.value.Number, S r.2.v_next.value.Words, I r.2.v_next.value.Version.1, I r.2.v_next.value.Version.2.1, I r.2.v_next.value.Version.2.2.1, I r.2.v_next.value.Version.2.2.2, I r.2.fault]]) {k : Nat} {v_r : T_laneref1_condReader} {sign : Str} {kind : Int} {r : T_api_Cond × T_laneref1_condReader} (h : m_laneref1_condReader_list_2 rc_laneref1_condReader_cond k v_r sign kind = some r) : EC Tryz.prog 173 [.ptr 0 0, S sign, I kind, .fn (.func 175) [.ptr 0 0] []] [.box 136 [S v_r.s, I v_r.v_at, S v_r.v_next.kind, I v_r.v_next.v_at, S v_r.v_next.name, I v_r.v_next.value.Kind, I v_r.v_next.value.Number, S v_r.v_next.value.Words, I v_r.v_next.value.Version.1, I v_r.v_next.value.Version.2.1, I v_r.v_next.value.Version.2.2.1, I v_r.v_next.value.Version.2.2.2, I v_r.fault]] fun g hp' => g = .agg [I r.1.Kind, S r.1.Name, S r.1.Op, I r.1.Value.Kind, I r.1.Value.Number, S r.1.Value.Words, I r.1.Value.Version.1, I r.1.Value.Version.2.1, I r.1.Value.Version.2.2.1, I r.1.Value.Version.2.2.2, .d (.ro r.1.Kids.n r.1.Kids.xs)] ∧ hp' = [.box 136 [S r.2.s, I r.2.v_at, S r.2.v_next.kind, I r.2.v_next.v_at, S r.2.v_next.name, I r.2.v_next.value.Kind, I r.2.v_next.value.Number, S r.2.v_next.value.Words, I r.2.v_next.value.Version.1, I r.2.v_next.value.Version.2.1, I r.2.v_next.value.Version.2.2.1, I r.2.v_next.value.Version.2.2.2, I r.2.fault]] := by
  refine ec_enter (Fr.of 0 _) Tryz.func173 rfl (Fr.of_ok _) (Nat.le_of_ble_eq_true rfl) fun _ => ?_
  refine go_in ?_
  unfold m_laneref1_condReader_list_2 at h
  refine go hΓ 2 rfl ?_
  refine eo_alloc hΓ rfl rfl rfl (Nat.le_of_ble_eq_true rfl) ?_
  obtain ⟨y1, hy1, h2⟩ := bi_ok h
  refine go_ops hΓ 5 rfl ?_
  refine eo_callF [0] (.agg [I y1.1.Kind, S y1.1.Name, S y1.1.Op, I y1.1.Value.Kind, I y1.1.Value.Number, S y1.1.Value.Words, I y1.1.Value.Version.1, I y1.1.Value.Version.2.1, I y1.1.Value.Version.2.2.1, I y1.1.Value.Version.2.2.2, .d (.ro y1.1.Kids.n y1.1.Kids.xs)]) [.box 136 [S y1.2.s, I y1.2.v_at, S y1.2.v_next.kind, I y1.2.v_next.v_at, S y1.2.v_next.name, I y1.2.v_next.value.Kind, I y1.2.v_next.value.Number, S y1.2.v_next.value.Words, I y1.2.v_next.value.Version.1, I y1.2.v_next.value.Version.2.1, I y1.2.v_next.value.Version.2.2.1, I y1.2.v_next.value.Version.2.2.2, I y1.2.fault], .box 32 [I 0, S [], S [], I 0, I 0, S [], I 0, I 0, I 0, I 0, .d (.ro (KD.mk 0 []).n (KD.mk 0 []).xs)]] (callable Tryz.func175 rfl rfl) (c_laneref1_condReader_part ih_laneref1_condReader_cond hy1) rfl (Nat.le_of_ble_eq_true rfl) rfl rfl rfl rfl rfl rfl rfl rfl rfl rfl ?_
  refine eo_litRowT hΓ (enc := e_api_Cond) [y1.1] rfl rfl rfl rfl rfl rfl rfl rfl rfl rfl rfl rfl (Nat.le_of_ble_eq_true rfl) ?_
  refine go_ops hΓ 4 rfl ?_
  obtain ⟨q6, hq6, h7⟩ := bi_ok h2
  refine j_cutNZ [(2, I kind), (8, .ptr 1 0), (9, .sl 2 q6.2.length)] [.box 136 [S q6.1.s, I q6.1.v_at, S q6.1.v_next.kind, I q6.1.v_next.v_at, S q6.1.v_next.name, I q6.1.v_next.value.Kind, I q6.1.v_next.value.Number, S q6.1.v_next.value.Words, I q6.1.v_next.value.Version.1, I q6.1.v_next.value.Version.2.1, I q6.1.v_next.value.Version.2.2.1, I q6.1.v_next.value.Version.2.2.2, I q6.1.fault], .box 32 [I 0, S [], S [], I 0, I 0, S [], I 0, I 0, I 0, I 0, .d (.ro (KD.mk 0 []).n (KD.mk 0 []).xs)], .row 32 11 q6.2.length (q6.2.flatMap e_api_Cond)] ?_ ?_
  · refine go hΓ 1 rfl ?_
    refine j_loop hq6 (fun s4 => [(0, .ptr 0 0), (1, S sign), (2, I kind), (3, .fn (.func 175) [.ptr 0 0] []), (8, .ptr 1 0), (9, .sl 2 s4.2.length)]) (fun s4 => [.box 136 [S s4.1.s, I s4.1.v_at, S s4.1.v_next.kind, I s4.1.v_next.v_at, S s4.1.v_next.name, I s4.1.v_next.value.Kind, I s4.1.v_next.value.Number, S s4.1.v_next.value.Words, I s4.1.v_next.value.Version.1, I s4.1.v_next.value.Version.2.1, I s4.1.v_next.value.Version.2.2.1, I s4.1.v_next.value.Version.2.2.2, I s4.1.fault], .box 32 [I 0, S [], S [], I 0, I 0, S [], I 0, I 0, I 0, I 0, .d (.ro (KD.mk 0 []).n (KD.mk 0 []).xs)], .row 32 11 s4.2.length (s4.2.flatMap e_api_Cond)]) ⟨⟨rfl, rfl, rfl, rfl, rfl, rfl, trivial⟩, [], rfl, .inl rfl⟩ (fun s4 y12 hy10 hout11 => ?_)
    refine go hΓ 9 rfl ?_
    refine o_cut 8 [(0, .ptr 0 0), (1, S sign), (2, I kind), (3, .fn (.func 175) [.ptr 0 0] []), (8, .ptr 1 0), (9, .sl 2 s4.2.length), (29, B ((decide ((s4.1.fault : Int) < 0)) && ((s4.1.v_next.kind : Str) == sign)))] [.box 136 [S s4.1.s, I s4.1.v_at, S s4.1.v_next.kind, I s4.1.v_next.v_at, S s4.1.v_next.name, I s4.1.v_next.value.Kind, I s4.1.v_next.value.Number, S s4.1.v_next.value.Words, I s4.1.v_next.value.Version.1, I s4.1.v_next.value.Version.2.1, I s4.1.v_next.value.Version.2.2.1, I s4.1.v_next.value.Version.2.2.2, I s4.1.fault], .box 32 [I 0, S [], S [], I 0, I 0, S [], I 0, I 0, I 0, I 0, .d (.ro (KD.mk 0 []).n (KD.mk 0 []).xs)], .row 32 11 s4.2.length (s4.2.flatMap e_api_Cond)] ?_ ?_
    · refine eo_gsplit rfl rfl (fun hb => ?_) (fun hb => ?_)
      · refine go_ops hΓ 9 rfl ?_
        exact ⟨⟨rfl, rfl, rfl, rfl, rfl, rfl, get_b rfl (and_t hb), trivial⟩, [], rfl, .inl rfl⟩
      · refine go_ops hΓ 9 rfl ?_
        exact ⟨⟨rfl, rfl, rfl, rfl, rfl, rfl, get_b rfl (and_f hb), trivial⟩, [], rfl, .inl rfl⟩
    · refine go_ops hΓ 2 rfl ?_
      refine j_cond rfl (fun hb => ?_) (fun hb => ?_)
      · have h13 := cT hy10 hb
        obtain ⟨y14, hy14, h15⟩ := bi_ok h13
        refine go hΓ 6 rfl ?_
        refine eo_callF [0] (.tup []) [.box 136 [S y14.s, I y14.v_at, S y14.v_next.kind, I y14.v_next.v_at, S y14.v_next.name, I y14.v_next.value.Kind, I y14.v_next.value.Number, S y14.v_next.value.Words, I y14.v_next.value.Version.1, I y14.v_next.value.Version.2.1, I y14.v_next.value.Version.2.2.1, I y14.v_next.value.Version.2.2.2, I y14.fault], .box 32 [I 0, S [], S [], I 0, I 0, S [], I 0, I 0, I 0, I 0, .d (.ro (KD.mk 0 []).n (KD.mk 0 []).xs)], .row 32 11 s4.2.length (s4.2.flatMap e_api_Cond)] (callable Tryz.func85 rfl rfl) (c_laneref1_condReader_scan hy14) rfl (Nat.le_of_ble_eq_true rfl) rfl rfl rfl rfl rfl rfl rfl rfl rfl rfl ?_
        obtain ⟨y16, hy16, h17⟩ := bi_ok h15
        refine go_ops hΓ 5 rfl ?_
        refine eo_callF [0] (.agg [I y16.1.Kind, S y16.1.Name, S y16.1.Op, I y16.1.Value.Kind, I y16.1.Value.Number, S y16.1.Value.Words, I y16.1.Value.Version.1, I y16.1.Value.Version.2.1, I y16.1.Value.Version.2.2.1, I y16.1.Value.Version.2.2.2, .d (.ro y16.1.Kids.n y16.1.Kids.xs)]) [.box 136 [S y16.2.s, I y16.2.v_at, S y16.2.v_next.kind, I y16.2.v_next.v_at, S y16.2.v_next.name, I y16.2.v_next.value.Kind, I y16.2.v_next.value.Number, S y16.2.v_next.value.Words, I y16.2.v_next.value.Version.1, I y16.2.v_next.value.Version.2.1, I y16.2.v_next.value.Version.2.2.1, I y16.2.v_next.value.Version.2.2.2, I y16.2.fault], .box 32 [I 0, S [], S [], I 0, I 0, S [], I 0, I 0, I 0, I 0, .d (.ro (KD.mk 0 []).n (KD.mk 0 []).xs)], .row 32 11 s4.2.length (s4.2.flatMap e_api_Cond)] (callable Tryz.func175 rfl rfl) (c_laneref1_condReader_part ih_laneref1_condReader_cond hy16) rfl (Nat.le_of_ble_eq_true rfl) rfl rfl rfl rfl rfl rfl rfl rfl rfl rfl ?_
        refine eo_litT hΓ (enc := e_api_Cond) [y16.1] rfl rfl rfl rfl rfl rfl rfl rfl rfl rfl rfl rfl (Nat.le_of_ble_eq_true rfl) ?_
        obtain ⟨y18, hy18, h19⟩ := bi_ok h17
        refine eo_appendT hΓ (enc := e_api_Cond) hy18 rfl rfl rfl rfl rfl rfl rfl rfl rfl (fun _ => rfl) rfl rfl rfl rfl ?_
        refine go_ops hΓ 3 rfl ?_
        obtain rfl := Option.some.inj h19
        exact ⟨_, rfl, ⟨⟨rfl, rfl, rfl, rfl, rfl, rfl, trivial⟩, [], rfl, .inl rfl⟩⟩
      · have h20 := cF hy10 hb
        refine go hΓ 4 rfl ?_
        obtain rfl := Option.some.inj h20
        obtain rfl := hout11 _ rfl
        exact ⟨⟨rfl, rfl, rfl, trivial⟩, [], rfl, .inl rfl⟩
  · refine go hΓ 9 rfl ?_
    refine j_cond rfl (fun hb => ?_) (fun hb => ?_)
    · have h21 := cT h7 hb
      obtain ⟨x22, hx22, h23⟩ := bi_ok h21
      have hj24 := getZ_at hx22
      refine go hΓ 3 rfl ?_
      refine eo_o rfl (op_elemRowZ hΓ hx22 rfl rfl rfl rfl rfl rfl) ?_
      refine eo_o rfl (op_loadRowZ hΓ (sz := 11) (enc := e_api_Cond) ((0 : Int).toNat) 0 hj24 rfl rfl rfl rfl (fun _ => rfl) (g := .agg [I x22.Kind, S x22.Name, S x22.Op, I x22.Value.Kind, I x22.Value.Number, S x22.Value.Words, I x22.Value.Version.1, I x22.Value.Version.2.1, I x22.Value.Version.2.2.1, I x22.Value.Version.2.2.2, .d (.ro x22.Kids.n x22.Kids.xs)]) rfl) ?_
      refine eo_store hΓ rfl rfl rfl rfl rfl rfl rfl rfl (Nat.le_of_ble_eq_true rfl) ?_
      refine eo_hp [.box 136 [S q6.1.s, I q6.1.v_at, S q6.1.v_next.kind, I q6.1.v_next.v_at, S q6.1.v_next.name, I q6.1.v_next.value.Kind, I q6.1.v_next.value.Number, S q6.1.v_next.value.Words, I q6.1.v_next.value.Version.1, I q6.1.v_next.value.Version.2.1, I q6.1.v_next.value.Version.2.2.1, I q6.1.v_next.value.Version.2.2.2, I q6.1.fault], .box 32 [I x22.Kind, S x22.Name, S x22.Op, I x22.Value.Kind, I x22.Value.Number, S x22.Value.Words, I x22.Value.Version.1, I x22.Value.Version.2.1, I x22.Value.Version.2.2.1, I x22.Value.Version.2.2.2, .d (.ro x22.Kids.n x22.Kids.xs)], .row 32 11 q6.2.length (q6.2.flatMap e_api_Cond)] rfl ?_
      refine go_ops hΓ 4 rfl ?_
      obtain rfl := Option.some.inj h23
      exact fin_objs hΓ [_, _] (.inr rfl) rfl rfl rfl rfl (.inr ⟨HB.mk rfl, rfl⟩)
    · have h25 := cF h7 hb
      refine go hΓ 5 rfl ?_
      refine eo_s (Nat.le_of_ble_eq_true rfl) (nblt.1 rfl) (ops_nilAt 32 11 10 (OpP.s (op_buildX hΓ [10] (gs := [I kind, S [], S [], I 0, I 0, S [], I 0, I 0, I 0, I 0, .d (.v (.slice none 0 0))]) rfl rfl rfl rfl rfl rfl)) rfl) ?_
      refine eo_alloc hΓ rfl rfl rfl (Nat.le_of_ble_eq_true rfl) ?_
      refine eo_store hΓ rfl rfl rfl rfl rfl rfl rfl rfl (Nat.le_of_ble_eq_true rfl) ?_
      refine eo_hp [.box 136 [S q6.1.s, I q6.1.v_at, S q6.1.v_next.kind, I q6.1.v_next.v_at, S q6.1.v_next.name, I q6.1.v_next.value.Kind, I q6.1.v_next.value.Number, S q6.1.v_next.value.Words, I q6.1.v_next.value.Version.1, I q6.1.v_next.value.Version.2.1, I q6.1.v_next.value.Version.2.2.1, I q6.1.v_next.value.Version.2.2.2, I q6.1.fault], .box 32 [I 0, S [], S [], I 0, I 0, S [], I 0, I 0, I 0, I 0, .d (.ro (KD.mk 0 []).n (KD.mk 0 []).xs)], .row 32 11 q6.2.length (q6.2.flatMap e_api_Cond), .row 32 11 ([] : List T_api_Cond).length (([] : List T_api_Cond).flatMap e_api_Cond), .box 32 [I kind, S [], S [], I 0, I 0, S [], I 0, I 0, I 0, I 0, .sl 3 ([] : List T_api_Cond).length]] rfl ?_
      refine go_ops hΓ 10 rfl ?_
      obtain ⟨q29, hq29, h30⟩ := bi_ok h25
      obtain ⟨hb32, h33⟩ := gd_ok hq29
      replace hb32 := of_decide_eq_true hb32
      refine j_cutNZ [(8, .ptr 1 0), (10, .ptr 4 0)] [.box 136 [S q6.1.s, I q6.1.v_at, S q6.1.v_next.kind, I q6.1.v_next.v_at, S q6.1.v_next.name, I q6.1.v_next.value.Kind, I q6.1.v_next.value.Number, S q6.1.v_next.value.Words, I q6.1.v_next.value.Version.1, I q6.1.v_next.value.Version.2.1, I q6.1.v_next.value.Version.2.2.1, I q6.1.v_next.value.Version.2.2.2, I q6.1.fault], .box 32 [I 0, S [], S [], I 0, I 0, S [], I 0, I 0, I 0, I 0, .d (.ro (KD.mk 0 []).n (KD.mk 0 []).xs)], .row 32 11 q6.2.length (q6.2.flatMap e_api_Cond), .row 32 11 q29.length (q29.flatMap e_api_Cond), .box 32 [I kind, S [], S [], I 0, I 0, S [], I 0, I 0, I 0, I 0, .sl 3 q29.length]] ?_ ?_
      · refine go hΓ 1 rfl ?_
        refine j_rangeG h33 (fun i26 s27 => [(2, I kind), (8, .ptr 1 0), (10, .ptr 4 0), (45, .sl 2 q6.2.length), (46, I (q6.2.length : Int)), (47, I (i26 : Int))]) (fun s27 => [.box 136 [S q6.1.s, I q6.1.v_at, S q6.1.v_next.kind, I q6.1.v_next.v_at, S q6.1.v_next.name, I q6.1.v_next.value.Kind, I q6.1.v_next.value.Number, S q6.1.v_next.value.Words, I q6.1.v_next.value.Version.1, I q6.1.v_next.value.Version.2.1, I q6.1.v_next.value.Version.2.2.1, I q6.1.v_next.value.Version.2.2.2, I q6.1.fault], .box 32 [I 0, S [], S [], I 0, I 0, S [], I 0, I 0, I 0, I 0, .d (.ro (KD.mk 0 []).n (KD.mk 0 []).xs)], .row 32 11 q6.2.length (q6.2.flatMap e_api_Cond), .row 32 11 s27.length (s27.flatMap e_api_Cond), .box 32 [I kind, S [], S [], I 0, I 0, S [], I 0, I 0, I 0, I 0, .sl 3 s27.length]]) ⟨⟨rfl, rfl, rfl, rfl, rfl, rfl, trivial⟩, [], rfl, .inl rfl⟩ (fun i26 s27 y37 hlt hy35 => ?_) (fun hge => ?_)
        · refine go hΓ 6 rfl ?_
          refine j_condT rfl (decide_eq_true hlt) ?_
          obtain ⟨x38, hx38, h39⟩ := bi_ok hy35
          have hj40 := getZ_at hx38
          refine go hΓ 6 rfl ?_
          refine eo_o rfl (op_elemRowZ hΓ hx38 rfl rfl rfl rfl rfl rfl) ?_
          refine eo_o rfl (op_loadRowZ hΓ (enc := e_api_Cond) ((i26 : Int).toNat) 0 hj40 rfl rfl rfl rfl (fun _ => rfl) (g := .agg [I x38.Kind, S x38.Name, S x38.Op, I x38.Value.Kind, I x38.Value.Number, S x38.Value.Words, I x38.Value.Version.1, I x38.Value.Version.2.1, I x38.Value.Version.2.2.1, I x38.Value.Version.2.2.2, .d (.ro x38.Kids.n x38.Kids.xs)]) rfl) ?_
          refine eo_alloc hΓ rfl rfl rfl (Nat.le_of_ble_eq_true rfl) ?_
          refine eo_store hΓ rfl rfl rfl rfl rfl rfl rfl rfl (Nat.le_of_ble_eq_true rfl) ?_
          refine eo_hp [.box 136 [S q6.1.s, I q6.1.v_at, S q6.1.v_next.kind, I q6.1.v_next.v_at, S q6.1.v_next.name, I q6.1.v_next.value.Kind, I q6.1.v_next.value.Number, S q6.1.v_next.value.Words, I q6.1.v_next.value.Version.1, I q6.1.v_next.value.Version.2.1, I q6.1.v_next.value.Version.2.2.1, I q6.1.v_next.value.Version.2.2.2, I q6.1.fault], .box 32 [I 0, S [], S [], I 0, I 0, S [], I 0, I 0, I 0, I 0, .d (.ro (KD.mk 0 []).n (KD.mk 0 []).xs)], .row 32 11 q6.2.length (q6.2.flatMap e_api_Cond), .row 32 11 s27.length (s27.flatMap e_api_Cond), .box 32 [I kind, S [], S [], I 0, I 0, S [], I 0, I 0, I 0, I 0, .sl 3 s27.length], .box 32 [I x38.Kind, S x38.Name, S x38.Op, I x38.Value.Kind, I x38.Value.Number, S x38.Value.Words, I x38.Value.Version.1, I x38.Value.Version.2.1, I x38.Value.Version.2.2.1, I x38.Value.Version.2.2.2, .d (.ro x38.Kids.n x38.Kids.xs)]] rfl ?_
          refine go_ops hΓ 10 rfl ?_
          refine j_cond rfl (fun hb => ?_) (fun hb => ?_)
          · have h41 := cT h39 hb
            obtain ⟨l42, hl42, h43⟩ := bi_ok h41
            refine go hΓ 4 rfl ?_
            refine eo_o rfl (op_le (pst_ok hΓ (g := .d (.ro x38.Kids.n x38.Kids.xs)) rfl) (G.Le.unk dk_api_Cond hl42)) ?_
            obtain ⟨y44, hy44, h45⟩ := bi_ok h43
            refine eo_forg 3 [.box 136 [S q6.1.s, I q6.1.v_at, S q6.1.v_next.kind, I q6.1.v_next.v_at, S q6.1.v_next.name, I q6.1.v_next.value.Kind, I q6.1.v_next.value.Number, S q6.1.v_next.value.Words, I q6.1.v_next.value.Version.1, I q6.1.v_next.value.Version.2.1, I q6.1.v_next.value.Version.2.2.1, I q6.1.v_next.value.Version.2.2.2, I q6.1.fault], .box 32 [I 0, S [], S [], I 0, I 0, S [], I 0, I 0, I 0, I 0, .d (.ro (KD.mk 0 []).n (KD.mk 0 []).xs)], .row 32 11 q6.2.length (q6.2.flatMap e_api_Cond), .row 32 11 s27.length (s27.flatMap e_api_Cond), .box 32 [I kind, S [], S [], I 0, I 0, S [], I 0, I 0, I 0, I 0, .junk], .box 32 [I x38.Kind, S x38.Name, S x38.Op, I x38.Value.Kind, I x38.Value.Number, S x38.Value.Words, I x38.Value.Version.1, I x38.Value.Version.2.1, I x38.Value.Version.2.2.1, I x38.Value.Version.2.2.2, .d (.ro x38.Kids.n x38.Kids.xs)]] rfl (Nat.le_of_ble_eq_true rfl) ?_
            refine eo_appendT hΓ (enc := e_api_Cond) hy44 rfl rfl rfl rfl rfl rfl rfl rfl rfl (fun _ => rfl) rfl rfl rfl rfl ?_
            refine go_ops hΓ 1 rfl ?_
            refine eo_store hΓ rfl rfl rfl rfl rfl rfl rfl rfl (Nat.le_of_ble_eq_true rfl) ?_
            refine eo_hp [.box 136 [S q6.1.s, I q6.1.v_at, S q6.1.v_next.kind, I q6.1.v_next.v_at, S q6.1.v_next.name, I q6.1.v_next.value.Kind, I q6.1.v_next.value.Number, S q6.1.v_next.value.Words, I q6.1.v_next.value.Version.1, I q6.1.v_next.value.Version.2.1, I q6.1.v_next.value.Version.2.2.1, I q6.1.v_next.value.Version.2.2.2, I q6.1.fault], .box 32 [I 0, S [], S [], I 0, I 0, S [], I 0, I 0, I 0, I 0, .d (.ro (KD.mk 0 []).n (KD.mk 0 []).xs)], .row 32 11 q6.2.length (q6.2.flatMap e_api_Cond), .row 32 11 y44.length (y44.flatMap e_api_Cond), .box 32 [I kind, S [], S [], I 0, I 0, S [], I 0, I 0, I 0, I 0, .sl 3 y44.length], .box 32 [I x38.Kind, S x38.Name, S x38.Op, I x38.Value.Kind, I x38.Value.Number, S x38.Value.Words, I x38.Value.Version.1, I x38.Value.Version.2.1, I x38.Value.Version.2.2.1, I x38.Value.Version.2.2.2, .d (.ro x38.Kids.n x38.Kids.xs)]] rfl ?_
            refine go_ops hΓ 7 rfl ?_
            obtain rfl := Option.some.inj h45
            exact ⟨⟨rfl, rfl, rfl, rfl, rfl, get_eq rfl (w64_succ (by omega)), trivial⟩, [_], rfl, .inr ⟨HB.mk rfl, FB.mk rfl, (Nat.le_of_ble_eq_true rfl)⟩⟩
          · have h46 := cF h39 hb
            refine go hΓ 4 rfl ?_
            refine eo_litT hΓ (enc := e_api_Cond) [x38] rfl rfl rfl rfl rfl rfl rfl rfl rfl rfl rfl rfl (Nat.le_of_ble_eq_true rfl) ?_
            obtain ⟨y47, hy47, h48⟩ := bi_ok h46
            refine eo_forg 3 [.box 136 [S q6.1.s, I q6.1.v_at, S q6.1.v_next.kind, I q6.1.v_next.v_at, S q6.1.v_next.name, I q6.1.v_next.value.Kind, I q6.1.v_next.value.Number, S q6.1.v_next.value.Words, I q6.1.v_next.value.Version.1, I q6.1.v_next.value.Version.2.1, I q6.1.v_next.value.Version.2.2.1, I q6.1.v_next.value.Version.2.2.2, I q6.1.fault], .box 32 [I 0, S [], S [], I 0, I 0, S [], I 0, I 0, I 0, I 0, .d (.ro (KD.mk 0 []).n (KD.mk 0 []).xs)], .row 32 11 q6.2.length (q6.2.flatMap e_api_Cond), .row 32 11 s27.length (s27.flatMap e_api_Cond), .box 32 [I kind, S [], S [], I 0, I 0, S [], I 0, I 0, I 0, I 0, .junk], .box 32 [I x38.Kind, S x38.Name, S x38.Op, I x38.Value.Kind, I x38.Value.Number, S x38.Value.Words, I x38.Value.Version.1, I x38.Value.Version.2.1, I x38.Value.Version.2.2.1, I x38.Value.Version.2.2.2, .d (.ro x38.Kids.n x38.Kids.xs)]] rfl (Nat.le_of_ble_eq_true rfl) ?_
            refine eo_appendT hΓ (enc := e_api_Cond) hy47 rfl rfl rfl rfl rfl rfl rfl rfl rfl (fun _ => rfl) rfl rfl rfl rfl ?_
            refine go_ops hΓ 1 rfl ?_
            refine eo_store hΓ rfl rfl rfl rfl rfl rfl rfl rfl (Nat.le_of_ble_eq_true rfl) ?_
            refine eo_hp [.box 136 [S q6.1.s, I q6.1.v_at, S q6.1.v_next.kind, I q6.1.v_next.v_at, S q6.1.v_next.name, I q6.1.v_next.value.Kind, I q6.1.v_next.value.Number, S q6.1.v_next.value.Words, I q6.1.v_next.value.Version.1, I q6.1.v_next.value.Version.2.1, I q6.1.v_next.value.Version.2.2.1, I q6.1.v_next.value.Version.2.2.2, I q6.1.fault], .box 32 [I 0, S [], S [], I 0, I 0, S [], I 0, I 0, I 0, I 0, .d (.ro (KD.mk 0 []).n (KD.mk 0 []).xs)], .row 32 11 q6.2.length (q6.2.flatMap e_api_Cond), .row 32 11 y47.length (y47.flatMap e_api_Cond), .box 32 [I kind, S [], S [], I 0, I 0, S [], I 0, I 0, I 0, I 0, .sl 3 y47.length], .box 32 [I x38.Kind, S x38.Name, S x38.Op, I x38.Value.Kind, I x38.Value.Number, S x38.Value.Words, I x38.Value.Version.1, I x38.Value.Version.2.1, I x38.Value.Version.2.2.1, I x38.Value.Version.2.2.2, .d (.ro x38.Kids.n x38.Kids.xs)]] rfl ?_
            refine go_ops hΓ 7 rfl ?_
            obtain rfl := Option.some.inj h48
            exact ⟨⟨rfl, rfl, rfl, rfl, rfl, get_eq rfl (w64_succ (by omega)), trivial⟩, [_], rfl, .inr ⟨HB.mk rfl, FB.mk rfl, (Nat.le_of_ble_eq_true rfl)⟩⟩
        · refine go hΓ 6 rfl ?_
          refine j_condF rfl (decide_eq_false hge) ?_
          refine go hΓ 4 rfl ?_
          exact ⟨⟨rfl, rfl, trivial⟩, [], rfl, .inl rfl⟩
      · refine go hΓ 4 rfl ?_
        refine eo_shr 3 [68] _ [.box 136 [S q6.1.s, I q6.1.v_at, S q6.1.v_next.kind, I q6.1.v_next.v_at, S q6.1.v_next.name, I q6.1.v_next.value.Kind, I q6.1.v_next.value.Number, S q6.1.v_next.value.Words, I q6.1.v_next.value.Version.1, I q6.1.v_next.value.Version.2.1, I q6.1.v_next.value.Version.2.2.1, I q6.1.v_next.value.Version.2.2.2, I q6.1.fault], .box 32 [I 0, S [], S [], I 0, I 0, S [], I 0, I 0, I 0, I 0, .d (.ro (KD.mk 0 []).n (KD.mk 0 []).xs)], .row 32 11 q6.2.length (q6.2.flatMap e_api_Cond), .dead, .box 32 [I kind, S [], S [], I 0, I 0, S [], I 0, I 0, I 0, I 0, .d (.ro (pk e_api_Cond q29).n (pk e_api_Cond q29).xs)]] rfl rfl rfl (Nat.le_of_ble_eq_true rfl) ?_
        refine eo_store hΓ rfl rfl rfl rfl rfl rfl rfl rfl (Nat.le_of_ble_eq_true rfl) ?_
        refine eo_hp [.box 136 [S q6.1.s, I q6.1.v_at, S q6.1.v_next.kind, I q6.1.v_next.v_at, S q6.1.v_next.name, I q6.1.v_next.value.Kind, I q6.1.v_next.value.Number, S q6.1.v_next.value.Words, I q6.1.v_next.value.Version.1, I q6.1.v_next.value.Version.2.1, I q6.1.v_next.value.Version.2.2.1, I q6.1.v_next.value.Version.2.2.2, I q6.1.fault], .box 32 [I kind, S [], S [], I 0, I 0, S [], I 0, I 0, I 0, I 0, .d (.ro (pk e_api_Cond q29).n (pk e_api_Cond q29).xs)], .row 32 11 q6.2.length (q6.2.flatMap e_api_Cond), .dead, .box 32 [I kind, S [], S [], I 0, I 0, S [], I 0, I 0, I 0, I 0, .d (.ro (pk e_api_Cond q29).n (pk e_api_Cond q29).xs)]] rfl ?_
        refine go_ops hΓ 3 rfl ?_
        obtain rfl := Option.some.inj h30
        exact fin_objs hΓ [_, _, _, _] (.inr rfl) rfl rfl rfl rfl (.inr ⟨HB.mk rfl, rfl⟩)
theorem c_laneref1_condReader_cond_1 {rc_laneref1_condReader_cond : T_laneref1_condReader → Option (T_api_Cond × T_laneref1_condReader)} (ih_laneref1_condReader_cond : ∀ {v_r : T_laneref1_condReader} {r : T_api_Cond × T_laneref1_condReader}, rc_laneref1_condReader_cond v_r = some r → EC Tryz.prog 86 [.ptr 0 0] [.box 136 [S v_r.s, I v_r.v_at, S v_r.v_next.kind, I v_r.v_next.v_at, S v_r.v_next.name, I v_r.v_next.value.Kind, I v_r.v_next.value.Number, S v_r.v_next.value.Words, I v_r.v_next.value.Version.1, I v_r.v_next.value.Version.2.1, I v_r.v_next.value.Version.2.2.1, I v_r.v_next.value.Version.2.2.2, I v_r.fault]] fun g hp' => g = .agg [I r.1.Kind, S r.1.Name, S r.1.Op, I r.1.Value.Kind, I r.1.Value.Number, S r.1.Value.Words, I r.1.Value.Version.1, I r.1.Value.Version.2.1, I r.1.Value.Version.2.2.1, I r.1.Value.Version.2.2.2, .d (.ro r.1.Kids.n r.1.Kids.xs)] ∧ hp' = [.box 136 [S r.2.s, I r.2.v_at, S r.2.v_next.kind, I r.2.v_next.v_at, S r.2.v_next.name, I r.2.v_next.value.Kind, I r.2.v_next.value.Number, S r.2.v_next.value.Words, I r.2.v_next.value.Version.1, I r.2.v_next.value.Version.2.1, I r.2.v_next.value.Version.2.2.1, I r.2.v_next.value.Version.2.2.2, I r.2.fault]]) {k : Nat} {x : T_laneref1_condReader} {r : T_api_Cond × T_laneref1_condReader} (h : m_laneref1_condReader_cond_1 rc_laneref1_condReader_cond k x = some r) : EC Tryz.prog 174 [.ptr 1 0] [.box 136 [S x.s, I x.v_at, S x.v_next.kind, I x.v_next.v_at, S x.v_next.name, I x.v_next.value.Kind, I x.v_next.value.Number, S x.v_next.value.Words, I x.v_next.value.Version.1, I x.v_next.value.Version.2.1, I x.v_next.value.Version.2.2.1, I x.v_next.value.Version.2.2.2, I x.fault], .box 132 [.ptr 0 0]] fun g hp' => g = .agg [I r.1.Kind, S r.1.Name, S r.1.Op, I r.1.Value.Kind, I r.1.Value.Number, S r.1.Value.Words, I r.1.Value.Version.1, I r.1.Value.Version.2.1, I r.1.Value.Version.2.2.1, I r.1.Value.Version.2.2.2, .d (.ro r.1.Kids.n r.1.Kids.xs)] ∧ hp' = [.box 136 [S r.2.s, I r.2.v_at, S r.2.v_next.kind, I r.2.v_next.v_at, S r.2.v_next.name, I r.2.v_next.value.Kind, I r.2.v_next.value.Number, S r.2.v_next.value.Words, I r.2.v_next.value.Version.1, I r.2.v_next.value.Version.2.1, I r.2.v_next.value.Version.2.2.1, I r.2.v_next.value.Version.2.2.2, I r.2.fault], .box 132 [.ptr 0 0]] := by
  refine ec_enter (Fr.of 0 _) Tryz.func174 rfl (Fr.of_ok _) (Nat.le_of_ble_eq_true rfl) fun _ => ?_
  refine go_in ?_
  unfold m_laneref1_condReader_cond_1 at h
  refine go hΓ 2 rfl ?_
  refine eo_alloc hΓ rfl rfl rfl (Nat.le_of_ble_eq_true rfl) ?_
  obtain ⟨y1, hy1, h2⟩ := bi_ok h
  refine go_ops hΓ 7 rfl ?_
  refine eo_callF [0] (.agg [I y1.1.Kind, S y1.1.Name, S y1.1.Op, I y1.1.Value.Kind, I y1.1.Value.Number, S y1.1.Value.Words, I y1.1.Value.Version.1, I y1.1.Value.Version.2.1, I y1.1.Value.Version.2.2.1, I y1.1.Value.Version.2.2.2, .d (.ro y1.1.Kids.n y1.1.Kids.xs)]) [.box 136 [S y1.2.s, I y1.2.v_at, S y1.2.v_next.kind, I y1.2.v_next.v_at, S y1.2.v_next.name, I y1.2.v_next.value.Kind, I y1.2.v_next.value.Number, S y1.2.v_next.value.Words, I y1.2.v_next.value.Version.1, I y1.2.v_next.value.Version.2.1, I y1.2.v_next.value.Version.2.2.1, I y1.2.v_next.value.Version.2.2.2, I y1.2.fault], .box 132 [.ptr 0 0], .box 32 [I 0, S [], S [], I 0, I 0, S [], I 0, I 0, I 0, I 0, .d (.ro (KD.mk 0 []).n (KD.mk 0 []).xs)]] (callable Tryz.func173 rfl rfl) (c_laneref1_condReader_list_2 ih_laneref1_condReader_cond hy1) rfl (Nat.le_of_ble_eq_true rfl) rfl rfl rfl rfl rfl rfl rfl rfl rfl rfl ?_
  refine eo_store hΓ rfl rfl rfl rfl rfl rfl rfl rfl (Nat.le_of_ble_eq_true rfl) ?_
  refine eo_hp [.box 136 [S y1.2.s, I y1.2.v_at, S y1.2.v_next.kind, I y1.2.v_next.v_at, S y1.2.v_next.name, I y1.2.v_next.value.Kind, I y1.2.v_next.value.Number, S y1.2.v_next.value.Words, I y1.2.v_next.value.Version.1, I y1.2.v_next.value.Version.2.1, I y1.2.v_next.value.Version.2.2.1, I y1.2.v_next.value.Version.2.2.2, I y1.2.fault], .box 132 [.ptr 0 0], .box 32 [I y1.1.Kind, S y1.1.Name, S y1.1.Op, I y1.1.Value.Kind, I y1.1.Value.Number, S y1.1.Value.Words, I y1.1.Value.Version.1, I y1.1.Value.Version.2.1, I y1.1.Value.Version.2.2.1, I y1.1.Value.Version.2.2.2, .d (.ro y1.1.Kids.n y1.1.Kids.xs)]] rfl ?_
  refine go_ops hΓ 3 rfl ?_
  obtain rfl := Option.some.inj h2
  exact fin_objs hΓ [_] (.inr rfl) rfl rfl rfl rfl (.inr ⟨HB.mk rfl, rfl⟩)
set_option maxHeartbeats 8000000 in
theorem c_laneref1_condReader_list {rc_laneref1_condReader_cond : T_laneref1_condReader → Option (T_api_Cond × T_laneref1_condReader)} (ih_laneref1_condReader_cond : ∀ {v_r : T_laneref1_condReader} {r : T_api_Cond × T_laneref1_condReader}, rc_laneref1_condReader_cond v_r = some r → EC Tryz.prog 86 [.ptr 0 0] [.box 136 [S v_r.s, I v_r.v_at, S v_r.v_next.kind, I v_r.v_next.v_at, S v_r.v_next.name, I v_r.v_next.value.Kind, I v_r.v_next.value.Number, S v_r.v_next.value.Words, I v_r.v_next.value.Version.1, I v_r.v_next.value.Version.2.1, I v_r.v_next.value.Version.2.2.1, I v_r.v_next.value.Version.2.2.2, I v_r.fault]] fun g hp' => g = .agg [I r.1.Kind, S r.1.Name, S r.1.Op, I r.1.Value.Kind, I r.1.Value.Number, S r.1.Value.Words, I r.1.Value.Version.1, I r.1.Value.Version.2.1, I r.1.Value.Version.2.2.1, I r.1.Value.Version.2.2.2, .d (.ro r.1.Kids.n r.1.Kids.xs)] ∧ hp' = [.box 136 [S r.2.s, I r.2.v_at, S r.2.v_next.kind, I r.2.v_next.v_at, S r.2.v_next.name, I r.2.v_next.value.Kind, I r.2.v_next.value.Number, S r.2.v_next.value.Words, I r.2.v_next.value.Version.1, I r.2.v_next.value.Version.2.1, I r.2.v_next.value.Version.2.2.1, I r.2.v_next.value.Version.2.2.2, I r.2.fault]]) {k : Nat} {v_r : T_laneref1_condReader} {sign : Str} {kind : Int} {r : T_api_Cond × T_laneref1_condReader} (h : m_laneref1_condReader_list rc_laneref1_condReader_cond k v_r sign kind = some r) : EC Tryz.prog 173 [.ptr 0 0, S sign, I kind, .fn (.func 174) [] [.ptr 1 0]] [.box 136 [S v_r.s, I v_r.v_at, S v_r.v_next.kind, I v_r.v_next.v_at, S v_r.v_next.name, I v_r.v_next.value.Kind, I v_r.v_next.value.Number, S v_r.v_next.value.Words, I v_r.v_next.value.Version.1, I v_r.v_next.value.Version.2.1, I v_r.v_next.value.Version.2.2.1, I v_r.v_next.value.Version.2.2.2, I v_r.fault], .box 132 [.ptr 0 0]] fun g hp' => g = .agg [I r.1.Kind, S r.1.Name, S r.1.Op, I r.1.Value.Kind, I r.1.Value.Number, S r.1.Value.Words, I r.1.Value.Version.1, I r.1.Value.Version.2.1, I r.1.Value.Version.2.2.1, I r.1.Value.Version.2.2.2, .d (.ro r.1.Kids.n r.1.Kids.xs)] ∧ hp' = [.box 136 [S r.2.s, I r.2.v_at, S r.2.v_next.kind, I r.2.v_next.v_at, S r.2.v_next.name, I r.2.v_next.value.Kind, I r.2.v_next.value.Number, S r.2.v_next.value.Words, I r.2.v_next.value.Version.1, I r.2.v_next.value.Version.2.1, I r.2.v_next.value.Version.2.2.1, I r.2.v_next.value.Version.2.2.2, I r.2.fault], .box 132 [.ptr 0 0]] := by
  refine ec_enter (Fr.of 0 _) Tryz.func173 rfl (Fr.of_ok _) (Nat.le_of_ble_eq_true rfl) fun _ => ?_
  refine go_in ?_
  unfold m_laneref1_condReader_list at h
  refine go hΓ 2 rfl ?_
  refine eo_alloc hΓ rfl rfl rfl (Nat.le_of_ble_eq_true rfl) ?_
  obtain ⟨y1, hy1, h2⟩ := bi_ok h
  refine go_ops hΓ 5 rfl ?_
  refine eo_callF [0, 1] (.agg [I y1.1.Kind, S y1.1.Name, S y1.1.Op, I y1.1.Value.Kind, I y1.1.Value.Number, S y1.1.Value.Words, I y1.1.Value.Version.1, I y1.1.Value.Version.2.1, I y1.1.Value.Version.2.2.1, I y1.1.Value.Version.2.2.2, .d (.ro y1.1.Kids.n y1.1.Kids.xs)]) [.box 136 [S y1.2.s, I y1.2.v_at, S y1.2.v_next.kind, I y1.2.v_next.v_at, S y1.2.v_next.name, I y1.2.v_next.value.Kind, I y1.2.v_next.value.Number, S y1.2.v_next.value.Words, I y1.2.v_next.value.Version.1, I y1.2.v_next.value.Version.2.1, I y1.2.v_next.value.Version.2.2.1, I y1.2.v_next.value.Version.2.2.2, I y1.2.fault], .box 132 [.ptr 0 0], .box 32 [I 0, S [], S [], I 0, I 0, S [], I 0, I 0, I 0, I 0, .d (.ro (KD.mk 0 []).n (KD.mk 0 []).xs)]] (callable Tryz.func174 rfl rfl) (c_laneref1_condReader_cond_1 ih_laneref1_condReader_cond hy1) rfl (Nat.le_of_ble_eq_true rfl) rfl rfl rfl rfl rfl rfl rfl rfl rfl rfl ?_
  refine eo_litRowT hΓ (enc := e_api_Cond) [y1.1] rfl rfl rfl rfl rfl rfl rfl rfl rfl rfl rfl rfl (Nat.le_of_ble_eq_true rfl) ?_
  refine go_ops hΓ 4 rfl ?_
  obtain ⟨q6, hq6, h7⟩ := bi_ok h2
  refine j_cutNZ [(2, I kind), (8, .ptr 2 0), (9, .sl 3 q6.2.length)] [.box 136 [S q6.1.s, I q6.1.v_at, S q6.1.v_next.kind, I q6.1.v_next.v_at, S q6.1.v_next.name, I q6.1.v_next.value.Kind, I q6.1.v_next.value.Number, S q6.1.v_next.value.Words, I q6.1.v_next.value.Version.1, I q6.1.v_next.value.Version.2.1, I q6.1.v_next.value.Version.2.2.1, I q6.1.v_next.value.Version.2.2.2, I q6.1.fault], .box 132 [.ptr 0 0], .box 32 [I 0, S [], S [], I 0, I 0, S [], I 0, I 0, I 0, I 0, .d (.ro (KD.mk 0 []).n (KD.mk 0 []).xs)], .row 32 11 q6.2.length (q6.2.flatMap e_api_Cond)] ?_ ?_
  · refine go hΓ 1 rfl ?_
    refine j_loop hq6 (fun s4 => [(0, .ptr 0 0), (1, S sign), (2, I kind), (3, .fn (.func 174) [] [.ptr 1 0]), (8, .ptr 2 0), (9, .sl 3 s4.2.length)]) (fun s4 => [.box 136 [S s4.1.s, I s4.1.v_at, S s4.1.v_next.kind, I s4.1.v_next.v_at, S s4.1.v_next.name, I s4.1.v_next.value.Kind, I s4.1.v_next.value.Number, S s4.1.v_next.value.Words, I s4.1.v_next.value.Version.1, I s4.1.v_next.value.Version.2.1, I s4.1.v_next.value.Version.2.2.1, I s4.1.v_next.value.Version.2.2.2, I s4.1.fault], .box 132 [.ptr 0 0], .box 32 [I 0, S [], S [], I 0, I 0, S [], I 0, I 0, I 0, I 0, .d (.ro (KD.mk 0 []).n (KD.mk 0 []).xs)], .row 32 11 s4.2.length (s4.2.flatMap e_api_Cond)]) ⟨⟨rfl, rfl, rfl, rfl, rfl, rfl, trivial⟩, [], rfl, .inl rfl⟩ (fun s4 y12 hy10 hout11 => ?_)
    refine go hΓ 9 rfl ?_
    refine o_cut 8 [(0, .ptr 0 0), (1, S sign), (2, I kind), (3, .fn (.func 174) [] [.ptr 1 0]), (8, .ptr 2 0), (9, .sl 3 s4.2.length), (29, B ((decide ((s4.1.fault : Int) < 0)) && ((s4.1.v_next.kind : Str) == sign)))] [.box 136 [S s4.1.s, I s4.1.v_at, S s4.1.v_next.kind, I s4.1.v_next.v_at, S s4.1.v_next.name, I s4.1.v_next.value.Kind, I s4.1.v_next.value.Number, S s4.1.v_next.value.Words, I s4.1.v_next.value.Version.1, I s4.1.v_next.value.Version.2.1, I s4.1.v_next.value.Version.2.2.1, I s4.1.v_next.value.Version.2.2.2, I s4.1.fault], .box 132 [.ptr 0 0], .box 32 [I 0, S [], S [], I 0, I 0, S [], I 0, I 0, I 0, I 0, .d (.ro (KD.mk 0 []).n (KD.mk 0 []).xs)], .row 32 11 s4.2.length (s4.2.flatMap e_api_Cond)] ?_ ?_
    · refine eo_gsplit rfl rfl (fun hb => ?_) (fun hb => ?_)
      · refine go_ops hΓ 9 rfl ?_
        exact ⟨⟨rfl, rfl, rfl, rfl, rfl, rfl, get_b rfl (and_t hb), trivial⟩, [], rfl, .inl rfl⟩
      · refine go_ops hΓ 9 rfl ?_
        exact ⟨⟨rfl, rfl, rfl, rfl, rfl, rfl, get_b rfl (and_f hb), trivial⟩, [], rfl, .inl rfl⟩
    · refine go_ops hΓ 2 rfl ?_
      refine j_cond rfl (fun hb => ?_) (fun hb => ?_)
      · have h13 := cT hy10 hb
        obtain ⟨y14, hy14, h15⟩ := bi_ok h13
        refine go hΓ 6 rfl ?_
        refine eo_callF [0] (.tup []) [.box 136 [S y14.s, I y14.v_at, S y14.v_next.kind, I y14.v_next.v_at, S y14.v_next.name, I y14.v_next.value.Kind, I y14.v_next.value.Number, S y14.v_next.value.Words, I y14.v_next.value.Version.1, I y14.v_next.value.Version.2.1, I y14.v_next.value.Version.2.2.1, I y14.v_next.value.Version.2.2.2, I y14.fault], .box 132 [.ptr 0 0], .box 32 [I 0, S [], S [], I 0, I 0, S [], I 0, I 0, I 0, I 0, .d (.ro (KD.mk 0 []).n (KD.mk 0 []).xs)], .row 32 11 s4.2.length (s4.2.flatMap e_api_Cond)] (callable Tryz.func85 rfl rfl) (c_laneref1_condReader_scan hy14) rfl (Nat.le_of_ble_eq_true rfl) rfl rfl rfl rfl rfl rfl rfl rfl rfl rfl ?_
        obtain ⟨y16, hy16, h17⟩ := bi_ok h15
        refine go_ops hΓ 5 rfl ?_
        refine eo_callF [0, 1] (.agg [I y16.1.Kind, S y16.1.Name, S y16.1.Op, I y16.1.Value.Kind, I y16.1.Value.Number, S y16.1.Value.Words, I y16.1.Value.Version.1, I y16.1.Value.Version.2.1, I y16.1.Value.Version.2.2.1, I y16.1.Value.Version.2.2.2, .d (.ro y16.1.Kids.n y16.1.Kids.xs)]) [.box 136 [S y16.2.s, I y16.2.v_at, S y16.2.v_next.kind, I y16.2.v_next.v_at, S y16.2.v_next.name, I y16.2.v_next.value.Kind, I y16.2.v_next.value.Number, S y16.2.v_next.value.Words, I y16.2.v_next.value.Version.1, I y16.2.v_next.value.Version.2.1, I y16.2.v_next.value.Version.2.2.1, I y16.2.v_next.value.Version.2.2.2, I y16.2.fault], .box 132 [.ptr 0 0], .box 32 [I 0, S [], S [], I 0, I 0, S [], I 0, I 0, I 0, I 0, .d (.ro (KD.mk 0 []).n (KD.mk 0 []).xs)], .row 32 11 s4.2.length (s4.2.flatMap e_api_Cond)] (callable Tryz.func174 rfl rfl) (c_laneref1_condReader_cond_1 ih_laneref1_condReader_cond hy16) rfl (Nat.le_of_ble_eq_true rfl) rfl rfl rfl rfl rfl rfl rfl rfl rfl rfl ?_
        refine eo_litT hΓ (enc := e_api_Cond) [y16.1] rfl rfl rfl rfl rfl rfl rfl rfl rfl rfl rfl rfl (Nat.le_of_ble_eq_true rfl) ?_
        obtain ⟨y18, hy18, h19⟩ := bi_ok h17
        refine eo_appendT hΓ (enc := e_api_Cond) hy18 rfl rfl rfl rfl rfl rfl rfl rfl rfl (fun _ => rfl) rfl rfl rfl rfl ?_
        refine go_ops hΓ 3 rfl ?_
        obtain rfl := Option.some.inj h19
        exact ⟨_, rfl, ⟨⟨rfl, rfl, rfl, rfl, rfl, rfl, trivial⟩, [], rfl, .inl rfl⟩⟩
      · have h20 := cF hy10 hb
        refine go hΓ 4 rfl ?_
        obtain rfl := Option.some.inj h20
        obtain rfl := hout11 _ rfl
        exact ⟨⟨rfl, rfl, rfl, trivial⟩, [], rfl, .inl rfl⟩
  · refine go hΓ 9 rfl ?_
    refine j_cond rfl (fun hb => ?_) (fun hb => ?_)
    · have h21 := cT h7 hb
      obtain ⟨x22, hx22, h23⟩ := bi_ok h21
      have hj24 := getZ_at hx22
      refine go hΓ 3 rfl ?_
      refine eo_o rfl (op_elemRowZ hΓ hx22 rfl rfl rfl rfl rfl rfl) ?_
      refine eo_o rfl (op_loadRowZ hΓ (sz := 11) (enc := e_api_Cond) ((0 : Int).toNat) 0 hj24 rfl rfl rfl rfl (fun _ => rfl) (g := .agg [I x22.Kind, S x22.Name, S x22.Op, I x22.Value.Kind, I x22.Value.Number, S x22.Value.Words, I x22.Value.Version.1, I x22.Value.Version.2.1, I x22.Value.Version.2.2.1, I x22.Value.Version.2.2.2, .d (.ro x22.Kids.n x22.Kids.xs)]) rfl) ?_
      refine eo_store hΓ rfl rfl rfl rfl rfl rfl rfl rfl (Nat.le_of_ble_eq_true rfl) ?_
      refine eo_hp [.box 136 [S q6.1.s, I q6.1.v_at, S q6.1.v_next.kind, I q6.1.v_next.v_at, S q6.1.v_next.name, I q6.1.v_next.value.Kind, I q6.1.v_next.value.Number, S q6.1.v_next.value.Words, I q6.1.v_next.value.Version.1, I q6.1.v_next.value.Version.2.1, I q6.1.v_next.value.Version.2.2.1, I q6.1.v_next.value.Version.2.2.2, I q6.1.fault], .box 132 [.ptr 0 0], .box 32 [I x22.Kind, S x22.Name, S x22.Op, I x22.Value.Kind, I x22.Value.Number, S x22.Value.Words, I x22.Value.Version.1, I x22.Value.Version.2.1, I x22.Value.Version.2.2.1, I x22.Value.Version.2.2.2, .d (.ro x22.Kids.n x22.Kids.xs)], .row 32 11 q6.2.length (q6.2.flatMap e_api_Cond)] rfl ?_
      refine go_ops hΓ 4 rfl ?_
      obtain rfl := Option.some.inj h23
      exact fin_objs hΓ [_, _] (.inr rfl) rfl rfl rfl rfl (.inr ⟨HB.mk rfl, rfl⟩)
    · have h25 := cF h7 hb
      refine go hΓ 5 rfl ?_
      refine eo_s (Nat.le_of_ble_eq_true rfl) (nblt.1 rfl) (ops_nilAt 32 11 10 (OpP.s (op_buildX hΓ [10] (gs := [I kind, S [], S [], I 0, I 0, S [], I 0, I 0, I 0, I 0, .d (.v (.slice none 0 0))]) rfl rfl rfl rfl rfl rfl)) rfl) ?_
      refine eo_alloc hΓ rfl rfl rfl (Nat.le_of_ble_eq_true rfl) ?_
      refine eo_store hΓ rfl rfl rfl rfl rfl rfl rfl rfl (Nat.le_of_ble_eq_true rfl) ?_
      refine eo_hp [.box 136 [S q6.1.s, I q6.1.v_at, S q6.1.v_next.kind, I q6.1.v_next.v_at, S q6.1.v_next.name, I q6.1.v_next.value.Kind, I q6.1.v_next.value.Number, S q6.1.v_next.value.Words, I q6.1.v_next.value.Version.1, I q6.1.v_next.value.Version.2.1, I q6.1.v_next.value.Version.2.2.1, I q6.1.v_next.value.Version.2.2.2, I q6.1.fault], .box 132 [.ptr 0 0], .box 32 [I 0, S [], S [], I 0, I 0, S [], I 0, I 0, I 0, I 0, .d (.ro (KD.mk 0 []).n (KD.mk 0 []).xs)], .row 32 11 q6.2.length (q6.2.flatMap e_api_Cond), .row 32 11 ([] : List T_api_Cond).length (([] : List T_api_Cond).flatMap e_api_Cond), .box 32 [I kind, S [], S [], I 0, I 0, S [], I 0, I 0, I 0, I 0, .sl 4 ([] : List T_api_Cond).length]] rfl ?_
      refine go_ops hΓ 10 rfl ?_
      obtain ⟨q29, hq29, h30⟩ := bi_ok h25
      obtain ⟨hb32, h33⟩ := gd_ok hq29
      replace hb32 := of_decide_eq_true hb32
      refine j_cutNZ [(8, .ptr 2 0), (10, .ptr 5 0)] [.box 136 [S q6.1.s, I q6.1.v_at, S q6.1.v_next.kind, I q6.1.v_next.v_at, S q6.1.v_next.name, I q6.1.v_next.value.Kind, I q6.1.v_next.value.Number, S q6.1.v_next.value.Words, I q6.1.v_next.value.Version.1, I q6.1.v_next.value.Version.2.1, I q6.1.v_next.value.Version.2.2.1, I q6.1.v_next.value.Version.2.2.2, I q6.1.fault], .box 132 [.ptr 0 0], .box 32 [I 0, S [], S [], I 0, I 0, S [], I 0, I 0, I 0, I 0, .d (.ro (KD.mk 0 []).n (KD.mk 0 []).xs)], .row 32 11 q6.2.length (q6.2.flatMap e_api_Cond), .row 32 11 q29.length (q29.flatMap e_api_Cond), .box 32 [I kind, S [], S [], I 0, I 0, S [], I 0, I 0, I 0, I 0, .sl 4 q29.length]] ?_ ?_
      · refine go hΓ 1 rfl ?_
        refine j_rangeG h33 (fun i26 s27 => [(2, I kind), (8, .ptr 2 0), (10, .ptr 5 0), (45, .sl 3 q6.2.length), (46, I (q6.2.length : Int)), (47, I (i26 : Int))]) (fun s27 => [.box 136 [S q6.1.s, I q6.1.v_at, S q6.1.v_next.kind, I q6.1.v_next.v_at, S q6.1.v_next.name, I q6.1.v_next.value.Kind, I q6.1.v_next.value.Number, S q6.1.v_next.value.Words, I q6.1.v_next.value.Version.1, I q6.1.v_next.value.Version.2.1, I q6.1.v_next.value.Version.2.2.1, I q6.1.v_next.value.Version.2.2.2, I q6.1.fault], .box 132 [.ptr 0 0], .box 32 [I 0, S [], S [], I 0, I 0, S [], I 0, I 0, I 0, I 0, .d (.ro (KD.mk 0 []).n (KD.mk 0 []).xs)], .row 32 11 q6.2.length (q6.2.flatMap e_api_Cond), .row 32 11 s27.length (s27.flatMap e_api_Cond), .box 32 [I kind, S [], S [], I 0, I 0, S [], I 0, I 0, I 0, I 0, .sl 4 s27.length]]) ⟨⟨rfl, rfl, rfl, rfl, rfl, rfl, trivial⟩, [], rfl, .inl rfl⟩ (fun i26 s27 y37 hlt hy35 => ?_) (fun hge => ?_)
        · refine go hΓ 6 rfl ?_
          refine j_condT rfl (decide_eq_true hlt) ?_
          obtain ⟨x38, hx38, h39⟩ := bi_ok hy35
          have hj40 := getZ_at hx38
          refine go hΓ 6 rfl ?_
          refine eo_o rfl (op_elemRowZ hΓ hx38 rfl rfl rfl rfl rfl rfl) ?_
          refine eo_o rfl (op_loadRowZ hΓ (enc := e_api_Cond) ((i26 : Int).toNat) 0 hj40 rfl rfl rfl rfl (fun _ => rfl) (g := .agg [I x38.Kind, S x38.Name, S x38.Op, I x38.Value.Kind, I x38.Value.Number, S x38.Value.Words, I x38.Value.Version.1, I x38.Value.Version.2.1, I x38.Value.Version.2.2.1, I x38.Value.Version.2.2.2, .d (.ro x38.Kids.n x38.Kids.xs)]) rfl) ?_
          refine eo_alloc hΓ rfl rfl rfl (Nat.le_of_ble_eq_true rfl) ?_
          refine eo_store hΓ rfl rfl rfl rfl rfl rfl rfl rfl (Nat.le_of_ble_eq_true rfl) ?_
          refine eo_hp [.box 136 [S q6.1.s, I q6.1.v_at, S q6.1.v_next.kind, I q6.1.v_next.v_at, S q6.1.v_next.name, I q6.1.v_next.value.Kind, I q6.1.v_next.value.Number, S q6.1.v_next.value.Words, I q6.1.v_next.value.Version.1, I q6.1.v_next.value.Version.2.1, I q6.1.v_next.value.Version.2.2.1, I q6.1.v_next.value.Version.2.2.2, I q6.1.fault], .box 132 [.ptr 0 0], .box 32 [I 0, S [], S [], I 0, I 0, S [], I 0, I 0, I 0, I 0, .d (.ro (KD.mk 0 []).n (KD.mk 0 []).xs)], .row 32 11 q6.2.length (q6.2.flatMap e_api_Cond), .row 32 11 s27.length (s27.flatMap e_api_Cond), .box 32 [I kind, S [], S [], I 0, I 0, S [], I 0, I 0, I 0, I 0, .sl 4 s27.length], .box 32 [I x38.Kind, S x38.Name, S x38.Op, I x38.Value.Kind, I x38.Value.Number, S x38.Value.Words, I x38.Value.Version.1, I x38.Value.Version.2.1, I x38.Value.Version.2.2.1, I x38.Value.Version.2.2.2, .d (.ro x38.Kids.n x38.Kids.xs)]] rfl ?_
          refine go_ops hΓ 10 rfl ?_
          refine j_cond rfl (fun hb => ?_) (fun hb => ?_)
          · have h41 := cT h39 hb
            obtain ⟨l42, hl42, h43⟩ := bi_ok h41
            refine go hΓ 4 rfl ?_
            refine eo_o rfl (op_le (pst_ok hΓ (g := .d (.ro x38.Kids.n x38.Kids.xs)) rfl) (G.Le.unk dk_api_Cond hl42)) ?_
            obtain ⟨y44, hy44, h45⟩ := bi_ok h43
            refine eo_forg 4 [.box 136 [S q6.1.s, I q6.1.v_at, S q6.1.v_next.kind, I q6.1.v_next.v_at, S q6.1.v_next.name, I q6.1.v_next.value.Kind, I q6.1.v_next.value.Number, S q6.1.v_next.value.Words, I q6.1.v_next.value.Version.1, I q6.1.v_next.value.Version.2.1, I q6.1.v_next.value.Version.2.2.1, I q6.1.v_next.value.Version.2.2.2, I q6.1.fault], .box 132 [.ptr 0 0], .box 32 [I 0, S [], S [], I 0, I 0, S [], I 0, I 0, I 0, I 0, .d (.ro (KD.mk 0 []).n (KD.mk 0 []).xs)], .row 32 11 q6.2.length (q6.2.flatMap e_api_Cond), .row 32 11 s27.length (s27.flatMap e_api_Cond), .box 32 [I kind, S [], S [], I 0, I 0, S [], I 0, I 0, I 0, I 0, .junk], .box 32 [I x38.Kind, S x38.Name, S x38.Op, I x38.Value.Kind, I x38.Value.Number, S x38.Value.Words, I x38.Value.Version.1, I x38.Value.Version.2.1, I x38.Value.Version.2.2.1, I x38.Value.Version.2.2.2, .d (.ro x38.Kids.n x38.Kids.xs)]] rfl (Nat.le_of_ble_eq_true rfl) ?_
            refine eo_appendT hΓ (enc := e_api_Cond) hy44 rfl rfl rfl rfl rfl rfl rfl rfl rfl (fun _ => rfl) rfl rfl rfl rfl ?_
            refine go_ops hΓ 1 rfl ?_
            refine eo_store hΓ rfl rfl rfl rfl rfl rfl rfl rfl (Nat.le_of_ble_eq_true rfl) ?_
            refine eo_hp [.box 136 [S q6.1.s, I q6.1.v_at, S q6.1.v_next.kind, I q6.1.v_next.v_at, S q6.1.v_next.name, I q6.1.v_next.value.Kind, I q6.1.v_next.value.Number, S q6.1.v_next.value.Words, I q6.1.v_next.value.Version.1, I q6.1.v_next.value.Version.2.1, I q6.1.v_next.value.Version.2.2.1, I q6.1.v_next.value.Version.2.2.2, I q6.1.fault], .box 132 [.ptr 0 0], .box 32 [I 0, S [], S [], I 0, I 0, S [], I 0, I 0, I 0, I 0, .d (.ro (KD.mk 0 []).n (KD.mk 0 []).xs)], .row 32 11 q6.2.length (q6.2.flatMap e_api_Cond), .row 32 11 y44.length (y44.flatMap e_api_Cond), .box 32 [I kind, S [], S [], I 0, I 0, S [], I 0, I 0, I 0, I 0, .sl 4 y44.length], .box 32 [I x38.Kind, S x38.Name, S x38.Op, I x38.Value.Kind, I x38.Value.Number, S x38.Value.Words, I x38.Value.Version.1, I x38.Value.Version.2.1, I x38.Value.Version.2.2.1, I x38.Value.Version.2.2.2, .d (.ro x38.Kids.n x38.Kids.xs)]] rfl ?_
            refine go_ops hΓ 7 rfl ?_
            obtain rfl := Option.some.inj h45
            exact ⟨⟨rfl, rfl, rfl, rfl, rfl, get_eq rfl (w64_succ (by omega)), trivial⟩, [_], rfl, .inr ⟨HB.mk rfl, FB.mk rfl, (Nat.le_of_ble_eq_true rfl)⟩⟩
          · have h46 := cF h39 hb
            refine go hΓ 4 rfl ?_
            refine eo_litT hΓ (enc := e_api_Cond) [x38] rfl rfl rfl rfl rfl rfl rfl rfl rfl rfl rfl rfl (Nat.le_of_ble_eq_true rfl) ?_
            obtain ⟨y47, hy47, h48⟩ := bi_ok h46
            refine eo_forg 4 [.box 136 [S q6.1.s, I q6.1.v_at, S q6.1.v_next.kind, I q6.1.v_next.v_at, S q6.1.v_next.name, I q6.1.v_next.value.Kind, I q6.1.v_next.value.Number, S q6.1.v_next.value.Words, I q6.1.v_next.value.Version.1, I q6.1.v_next.value.Version.2.1, I q6.1.v_next.value.Version.2.2.1, I q6.1.v_next.value.Version.2.2.2, I q6.1.fault], .box 132 [.ptr 0 0], .box 32 [I 0, S [], S [], I 0, I 0, S [], I 0, I 0, I 0, I 0, .d (.ro (KD.mk 0 []).n (KD.mk 0 []).xs)], .row 32 11 q6.2.length (q6.2.flatMap e_api_Cond), .row 32 11 s27.length (s27.flatMap e_api_Cond), .box 32 [I kind, S [], S [], I 0, I 0, S [], I 0, I 0, I 0, I 0, .junk], .box 32 [I x38.Kind, S x38.Name, S x38.Op, I x38.Value.Kind, I x38.Value.Number, S x38.Value.Words, I x38.Value.Version.1, I x38.Value.Version.2.1, I x38.Value.Version.2.2.1, I x38.Value.Version.2.2.2, .d (.ro x38.Kids.n x38.Kids.xs)]] rfl (Nat.le_of_ble_eq_true rfl) ?_
            refine eo_appendT hΓ (enc := e_api_Cond) hy47 rfl rfl rfl rfl rfl rfl rfl rfl rfl (fun _ => rfl) rfl rfl rfl rfl ?_
            refine go_ops hΓ 1 rfl ?_
            refine eo_store hΓ rfl rfl rfl rfl rfl rfl rfl rfl (Nat.le_of_ble_eq_true rfl) ?_
            refine eo_hp [.box 136 [S q6.1.s, I q6.1.v_at, S q6.1.v_next.kind, I q6.1.v_next.v_at, S q6.1.v_next.name, I q6.1.v_next.value.Kind, I q6.1.v_next.value.Number, S q6.1.v_next.value.Words, I q6.1.v_next.value.Version.1, I q6.1.v_next.value.Version.2.1, I q6.1.v_next.value.Version.2.2.1, I q6.1.v_next.value.Version.2.2.2, I q6.1.fault], .box 132 [.ptr 0 0], .box 32 [I 0, S [], S [], I 0, I 0, S [], I 0, I 0, I 0, I 0, .d (.ro (KD.mk 0 []).n (KD.mk 0 []).xs)], .row 32 11 q6.2.length (q6.2.flatMap e_api_Cond), .row 32 11 y47.length (y47.flatMap e_api_Cond), .box 32 [I kind, S [], S [], I 0, I 0, S [], I 0, I 0, I 0, I 0, .sl 4 y47.length], .box 32 [I x38.Kind, S x38.Name, S x38.Op, I x38.Value.Kind, I x38.Value.Number, S x38.Value.Words, I x38.Value.Version.1, I x38.Value.Version.2.1, I x38.Value.Version.2.2.1, I x38.Value.Version.2.2.2, .d (.ro x38.Kids.n x38.Kids.xs)]] rfl ?_
            refine go_ops hΓ 7 rfl ?_
            obtain rfl := Option.some.inj h48
            exact ⟨⟨rfl, rfl, rfl, rfl, rfl, get_eq rfl (w64_succ (by omega)), trivial⟩, [_], rfl, .inr ⟨HB.mk rfl, FB.mk rfl, (Nat.le_of_ble_eq_true rfl)⟩⟩
        · refine go hΓ 6 rfl ?_
          refine j_condF rfl (decide_eq_false hge) ?_
          refine go hΓ 4 rfl ?_
          exact ⟨⟨rfl, rfl, trivial⟩, [], rfl, .inl rfl⟩
      · refine go hΓ 4 rfl ?_
        refine eo_shr 4 [68] _ [.box 136 [S q6.1.s, I q6.1.v_at, S q6.1.v_next.kind, I q6.1.v_next.v_at, S q6.1.v_next.name, I q6.1.v_next.value.Kind, I q6.1.v_next.value.Number, S q6.1.v_next.value.Words, I q6.1.v_next.value.Version.1, I q6.1.v_next.value.Version.2.1, I q6.1.v_next.value.Version.2.2.1, I q6.1.v_next.value.Version.2.2.2, I q6.1.fault], .box 132 [.ptr 0 0], .box 32 [I 0, S [], S [], I 0, I 0, S [], I 0, I 0, I 0, I 0, .d (.ro (KD.mk 0 []).n (KD.mk 0 []).xs)], .row 32 11 q6.2.length (q6.2.flatMap e_api_Cond), .dead, .box 32 [I kind, S [], S [], I 0, I 0, S [], I 0, I 0, I 0, I 0, .d (.ro (pk e_api_Cond q29).n (pk e_api_Cond q29).xs)]] rfl rfl rfl (Nat.le_of_ble_eq_true rfl) ?_
        refine eo_store hΓ rfl rfl rfl rfl rfl rfl rfl rfl (Nat.le_of_ble_eq_true rfl) ?_
        refine eo_hp [.box 136 [S q6.1.s, I q6.1.v_at, S q6.1.v_next.kind, I q6.1.v_next.v_at, S q6.1.v_next.name, I q6.1.v_next.value.Kind, I q6.1.v_next.value.Number, S q6.1.v_next.value.Words, I q6.1.v_next.value.Version.1, I q6.1.v_next.value.Version.2.1, I q6.1.v_next.value.Version.2.2.1, I q6.1.v_next.value.Version.2.2.2, I q6.1.fault], .box 132 [.ptr 0 0], .box 32 [I kind, S [], S [], I 0, I 0, S [], I 0, I 0, I 0, I 0, .d (.ro (pk e_api_Cond q29).n (pk e_api_Cond q29).xs)], .row 32 11 q6.2.length (q6.2.flatMap e_api_Cond), .dead, .box 32 [I kind, S [], S [], I 0, I 0, S [], I 0, I 0, I 0, I 0, .d (.ro (pk e_api_Cond q29).n (pk e_api_Cond q29).xs)]] rfl ?_
        refine go_ops hΓ 3 rfl ?_
        obtain rfl := Option.some.inj h30
        exact fin_objs hΓ [_, _, _, _] (.inr rfl) rfl rfl rfl rfl (.inr ⟨HB.mk rfl, rfl⟩)
theorem c_laneref1_condReader_cond {k : Nat} {v_r : T_laneref1_condReader} {r : T_api_Cond × T_laneref1_condReader} (h : m_laneref1_condReader_cond k v_r = some r) : EC Tryz.prog 86 [.ptr 0 0] [.box 136 [S v_r.s, I v_r.v_at, S v_r.v_next.kind, I v_r.v_next.v_at, S v_r.v_next.name, I v_r.v_next.value.Kind, I v_r.v_next.value.Number, S v_r.v_next.value.Words, I v_r.v_next.value.Version.1, I v_r.v_next.value.Version.2.1, I v_r.v_next.value.Version.2.2.1, I v_r.v_next.value.Version.2.2.2, I v_r.fault]] fun g hp' => g = .agg [I r.1.Kind, S r.1.Name, S r.1.Op, I r.1.Value.Kind, I r.1.Value.Number, S r.1.Value.Words, I r.1.Value.Version.1, I r.1.Value.Version.2.1, I r.1.Value.Version.2.2.1, I r.1.Value.Version.2.2.2, .d (.ro r.1.Kids.n r.1.Kids.xs)] ∧ hp' = [.box 136 [S r.2.s, I r.2.v_at, S r.2.v_next.kind, I r.2.v_next.v_at, S r.2.v_next.name, I r.2.v_next.value.Kind, I r.2.v_next.value.Number, S r.2.v_next.value.Words, I r.2.v_next.value.Version.1, I r.2.v_next.value.Version.2.1, I r.2.v_next.value.Version.2.2.1, I r.2.v_next.value.Version.2.2.2, I r.2.fault]] := by
  induction k generalizing v_r r with
  | zero => unfold m_laneref1_condReader_cond at h; cases h
  | succ k ih0 =>
    have ih : ∀ {v_r : T_laneref1_condReader} {r : T_api_Cond × T_laneref1_condReader}, m_laneref1_condReader_cond k v_r = some r → EC Tryz.prog 86 [.ptr 0 0] [.box 136 [S v_r.s, I v_r.v_at, S v_r.v_next.kind, I v_r.v_next.v_at, S v_r.v_next.name, I v_r.v_next.value.Kind, I v_r.v_next.value.Number, S v_r.v_next.value.Words, I v_r.v_next.value.Version.1, I v_r.v_next.value.Version.2.1, I v_r.v_next.value.Version.2.2.1, I v_r.v_next.value.Version.2.2.2, I v_r.fault]] fun g hp' => g = .agg [I r.1.Kind, S r.1.Name, S r.1.Op, I r.1.Value.Kind, I r.1.Value.Number, S r.1.Value.Words, I r.1.Value.Version.1, I r.1.Value.Version.2.1, I r.1.Value.Version.2.2.1, I r.1.Value.Version.2.2.2, .d (.ro r.1.Kids.n r.1.Kids.xs)] ∧ hp' = [.box 136 [S r.2.s, I r.2.v_at, S r.2.v_next.kind, I r.2.v_next.v_at, S r.2.v_next.name, I r.2.v_next.value.Kind, I r.2.v_next.value.Number, S r.2.v_next.value.Words, I r.2.v_next.value.Version.1, I r.2.v_next.value.Version.2.1, I r.2.v_next.value.Version.2.2.1, I r.2.v_next.value.Version.2.2.2, I r.2.fault]] := by intro v_r r h; first | exact ih0 h | exact ih0 _ _ h
    refine ec_enter (Fr.of 0 _) Tryz.func86 rfl (Fr.of_ok _) (Nat.le_of_ble_eq_true rfl) fun _ => ?_
    refine go_in ?_
    unfold m_laneref1_condReader_cond at h
    refine go hΓ 2 rfl ?_
    refine eo_box rfl rfl rfl rfl (Nat.le_of_ble_eq_true rfl) ?_
    refine eo_alloc hΓ rfl rfl rfl (Nat.le_of_ble_eq_true rfl) ?_
    obtain ⟨y1, hy1, h2⟩ := bi_ok h
    refine go_ops hΓ 6 rfl ?_
    refine eo_callF [0, 1] (.agg [I y1.1.Kind, S y1.1.Name, S y1.1.Op, I y1.1.Value.Kind, I y1.1.Value.Number, S y1.1.Value.Words, I y1.1.Value.Version.1, I y1.1.Value.Version.2.1, I y1.1.Value.Version.2.2.1, I y1.1.Value.Version.2.2.2, .d (.ro y1.1.Kids.n y1.1.Kids.xs)]) [.box 136 [S y1.2.s, I y1.2.v_at, S y1.2.v_next.kind, I y1.2.v_next.v_at, S y1.2.v_next.name, I y1.2.v_next.value.Kind, I y1.2.v_next.value.Number, S y1.2.v_next.value.Words, I y1.2.v_next.value.Version.1, I y1.2.v_next.value.Version.2.1, I y1.2.v_next.value.Version.2.2.1, I y1.2.v_next.value.Version.2.2.2, I y1.2.fault], .box 132 [.ptr 0 0], .box 32 [I 0, S [], S [], I 0, I 0, S [], I 0, I 0, I 0, I 0, .d (.ro (KD.mk 0 []).n (KD.mk 0 []).xs)]] (callable Tryz.func173 rfl rfl) (c_laneref1_condReader_list ih hy1) rfl (Nat.le_of_ble_eq_true rfl) rfl rfl rfl rfl rfl rfl rfl rfl rfl rfl ?_
    refine eo_store hΓ rfl rfl rfl rfl rfl rfl rfl rfl (Nat.le_of_ble_eq_true rfl) ?_
    refine eo_hp [.box 136 [S y1.2.s, I y1.2.v_at, S y1.2.v_next.kind, I y1.2.v_next.v_at, S y1.2.v_next.name, I y1.2.v_next.value.Kind, I y1.2.v_next.value.Number, S y1.2.v_next.value.Words, I y1.2.v_next.value.Version.1, I y1.2.v_next.value.Version.2.1, I y1.2.v_next.value.Version.2.2.1, I y1.2.v_next.value.Version.2.2.2, I y1.2.fault], .box 132 [.ptr 0 0], .box 32 [I y1.1.Kind, S y1.1.Name, S y1.1.Op, I y1.1.Value.Kind, I y1.1.Value.Number, S y1.1.Value.Words, I y1.1.Value.Version.1, I y1.1.Value.Version.2.1, I y1.1.Value.Version.2.2.1, I y1.1.Value.Version.2.2.2, .d (.ro y1.1.Kids.n y1.1.Kids.xs)]] rfl ?_
    refine go_ops hΓ 3 rfl ?_
    obtain rfl := Option.some.inj h2
    exact fin_objs hΓ [_, _] (.inr rfl) rfl rfl rfl rfl (.inr ⟨HB.mk rfl, rfl⟩)
theorem c_laneref1_leaves {k : Nat} {c : T_api_Cond} {r : Int} (h : m_laneref1_leaves k c = some r) : Pure Tryz.prog 98 [.agg [I c.Kind, S c.Name, S c.Op, I c.Value.Kind, I c.Value.Number, S c.Value.Words, I c.Value.Version.1, I c.Value.Version.2.1, I c.Value.Version.2.2.1, I c.Value.Version.2.2.2, .d (.ro c.Kids.n c.Kids.xs)]] (I r) := by
  induction k generalizing c r with
  | zero => unfold m_laneref1_leaves at h; cases h
  | succ k ih0 =>
    have ih : ∀ {c : T_api_Cond} {r : Int}, m_laneref1_leaves k c = some r → Pure Tryz.prog 98 [.agg [I c.Kind, S c.Name, S c.Op, I c.Value.Kind, I c.Value.Number, S c.Value.Words, I c.Value.Version.1, I c.Value.Version.2.1, I c.Value.Version.2.2.1, I c.Value.Version.2.2.2, .d (.ro c.Kids.n c.Kids.xs)]] (I r) := by intro c r h; first | exact ih0 h | exact ih0 _ _ h
    refine Pure.enter (Fr.of 0 _) Tryz.func98 rfl (Fr.of_ok _) rfl rfl ?_
    refine go_in ?_
    unfold m_laneref1_leaves at h
    refine go hΓ 2 rfl ?_
    refine eo_box rfl rfl rfl rfl (Nat.le_of_ble_eq_true rfl) ?_
    obtain ⟨q1, hq1, h2⟩ := bi_ok h
    refine go_ops hΓ 16 rfl ?_
    refine j_cutNZ [(1, .ptr 0 0), (3, I q1)] [.box 32 [I c.Kind, S c.Name, S c.Op, I c.Value.Kind, I c.Value.Number, S c.Value.Words, I c.Value.Version.1, I c.Value.Version.2.1, I c.Value.Version.2.2.1, I c.Value.Version.2.2.2, .d (.ro c.Kids.n c.Kids.xs)]] ?_ ?_
    · refine j_cond rfl (fun hb => ?_) (fun hb => ?_)
      · have h3 := cT hq1 hb
        refine go hΓ 3 rfl ?_
        obtain rfl := Option.some.inj h3
        exact ⟨⟨rfl, rfl, trivial⟩, [], rfl, .inl rfl⟩
      · have h4 := cF hq1 hb
        refine go hΓ 1 rfl ?_
        obtain rfl := Option.some.inj h4
        exact ⟨⟨rfl, rfl, trivial⟩, [], rfl, .inl rfl⟩
    · obtain ⟨l5, hl5, h6⟩ := bi_ok h2
      refine go hΓ 5 rfl ?_
      refine eo_o rfl (op_le (pst_ok hΓ (g := .d (.ro c.Kids.n c.Kids.xs)) rfl) (G.Le.unk dk_api_Cond hl5)) ?_
      refine go_ops hΓ 4 rfl ?_
      obtain ⟨q10, hq10, h11⟩ := bi_ok h6
      refine j_bound 10 rfl fun hb13 => ?_
      refine j_cutNZ [(3, I q10)] [.box 32 [I c.Kind, S c.Name, S c.Op, I c.Value.Kind, I c.Value.Number, S c.Value.Words, I c.Value.Version.1, I c.Value.Version.2.1, I c.Value.Version.2.2.1, I c.Value.Version.2.2.2, .d (.ro c.Kids.n c.Kids.xs)]] ?_ ?_
      · refine go hΓ 1 rfl ?_
        refine j_rangeF l5 hq10 (fun i7 s8 => [(3, I s8), (10, .d (Sl e_api_Cond l5)), (11, I (l5.length : Int)), (12, I (i7 : Int))]) (fun s8 => [.box 32 [I c.Kind, S c.Name, S c.Op, I c.Value.Kind, I c.Value.Number, S c.Value.Words, I c.Value.Version.1, I c.Value.Version.2.1, I c.Value.Version.2.2.1, I c.Value.Version.2.2.2, .d (.ro c.Kids.n c.Kids.xs)]]) ⟨⟨rfl, rfl, rfl, rfl, trivial⟩, [], rfl, .inl rfl⟩ (fun i7 x9 s8 y17 hx14 hlt hy15 => ?_) (?_)
        · refine go hΓ 6 rfl ?_
          refine j_condT rfl (decide_eq_true (Int.ofNat_lt.2 hlt)) ?_
          refine go hΓ 6 rfl ?_
          refine eo_o rfl (op_elemZ hΓ (enc := e_api_Cond) (getZ_nat hx14) rfl rfl rfl rfl rfl (fun _ => rfl)) ?_
          refine go_ops hΓ 1 rfl ?_
          refine eo_alloc hΓ rfl rfl rfl (Nat.le_of_ble_eq_true rfl) ?_
          refine eo_store hΓ rfl rfl rfl rfl rfl rfl rfl rfl (Nat.le_of_ble_eq_true rfl) ?_
          refine eo_hp [.box 32 [I c.Kind, S c.Name, S c.Op, I c.Value.Kind, I c.Value.Number, S c.Value.Words, I c.Value.Version.1, I c.Value.Version.2.1, I c.Value.Version.2.2.1, I c.Value.Version.2.2.2, .d (.ro c.Kids.n c.Kids.xs)], .box 32 [I x9.Kind, S x9.Name, S x9.Op, I x9.Value.Kind, I x9.Value.Number, S x9.Value.Words, I x9.Value.Version.1, I x9.Value.Version.2.1, I x9.Value.Version.2.2.1, I x9.Value.Version.2.2.2, .d (.ro x9.Kids.n x9.Kids.xs)]] rfl ?_
          obtain ⟨y18, hy18, h19⟩ := bi_ok hy15
          refine go_ops hΓ 5 rfl ?_
          refine eo_callP (callable Tryz.func98 rfl rfl) (ih hy18) rfl (Nat.le_of_ble_eq_true rfl) rfl rfl rfl rfl rfl ?_
          refine go_ops hΓ 9 rfl ?_
          obtain rfl := Option.some.inj h19
          exact ⟨⟨rfl, rfl, rfl, get_eq rfl (w64_succ (Nat.lt_of_lt_of_le hlt hb13)), trivial⟩, [_], rfl, .inr ⟨HB.mk rfl, FB.mk rfl, (Nat.le_of_ble_eq_true rfl)⟩⟩
        · refine go hΓ 6 rfl ?_
          refine j_condF rfl (decide_eq_false (Int.lt_irrefl _)) ?_
          refine go hΓ 4 rfl ?_
          exact ⟨⟨rfl, trivial⟩, [], rfl, .inl rfl⟩
      · refine go hΓ 8 rfl ?_
        obtain rfl := Option.some.inj h11
        exact fin_pure hΓ (.inr rfl) rfl rfl
theorem c_laneref1_deep {k : Nat} {c : T_api_Cond} {r : Int} (h : m_laneref1_deep k c = some r) : Pure Tryz.prog 99 [.agg [I c.Kind, S c.Name, S c.Op, I c.Value.Kind, I c.Value.Number, S c.Value.Words, I c.Value.Version.1, I c.Value.Version.2.1, I c.Value.Version.2.2.1, I c.Value.Version.2.2.2, .d (.ro c.Kids.n c.Kids.xs)]] (I r) := by
  induction k generalizing c r with
  | zero => unfold m_laneref1_deep at h; cases h
  | succ k ih0 =>
    have ih : ∀ {c : T_api_Cond} {r : Int}, m_laneref1_deep k c = some r → Pure Tryz.prog 99 [.agg [I c.Kind, S c.Name, S c.Op, I c.Value.Kind, I c.Value.Number, S c.Value.Words, I c.Value.Version.1, I c.Value.Version.2.1, I c.Value.Version.2.2.1, I c.Value.Version.2.2.2, .d (.ro c.Kids.n c.Kids.xs)]] (I r) := by intro c r h; first | exact ih0 h | exact ih0 _ _ h
    refine Pure.enter (Fr.of 0 _) Tryz.func99 rfl (Fr.of_ok _) rfl rfl ?_
    refine go_in ?_
    unfold m_laneref1_deep at h
    refine go hΓ 2 rfl ?_
    refine eo_box rfl rfl rfl rfl (Nat.le_of_ble_eq_true rfl) ?_
    obtain ⟨l1, hl1, h2⟩ := bi_ok h
    refine go_ops hΓ 12 rfl ?_
    refine eo_o rfl (op_le (pst_ok hΓ (g := .d (.ro c.Kids.n c.Kids.xs)) rfl) (G.Le.unk dk_api_Cond hl1)) ?_
    refine go_ops hΓ 4 rfl ?_
    obtain ⟨q6, hq6, h7⟩ := bi_ok h2
    refine j_bound 7 rfl fun hb9 => ?_
    refine j_cutNZ [(3, I q6)] [.box 32 [I c.Kind, S c.Name, S c.Op, I c.Value.Kind, I c.Value.Number, S c.Value.Words, I c.Value.Version.1, I c.Value.Version.2.1, I c.Value.Version.2.2.1, I c.Value.Version.2.2.2, .d (.ro c.Kids.n c.Kids.xs)]] ?_ ?_
    · refine go hΓ 1 rfl ?_
      refine j_rangeF l1 hq6 (fun i3 s4 => [(3, I s4), (7, .d (Sl e_api_Cond l1)), (8, I (l1.length : Int)), (9, I (i3 : Int))]) (fun s4 => [.box 32 [I c.Kind, S c.Name, S c.Op, I c.Value.Kind, I c.Value.Number, S c.Value.Words, I c.Value.Version.1, I c.Value.Version.2.1, I c.Value.Version.2.2.1, I c.Value.Version.2.2.2, .d (.ro c.Kids.n c.Kids.xs)]]) ⟨⟨rfl, rfl, rfl, rfl, trivial⟩, [], rfl, .inl rfl⟩ (fun i3 x5 s4 y13 hx10 hlt hy11 => ?_) (?_)
      · refine go hΓ 6 rfl ?_
        refine j_condT rfl (decide_eq_true (Int.ofNat_lt.2 hlt)) ?_
        refine go hΓ 6 rfl ?_
        refine eo_o rfl (op_elemZ hΓ (enc := e_api_Cond) (getZ_nat hx10) rfl rfl rfl rfl rfl (fun _ => rfl)) ?_
        refine go_ops hΓ 1 rfl ?_
        refine eo_alloc hΓ rfl rfl rfl (Nat.le_of_ble_eq_true rfl) ?_
        refine eo_store hΓ rfl rfl rfl rfl rfl rfl rfl rfl (Nat.le_of_ble_eq_true rfl) ?_
        refine eo_hp [.box 32 [I c.Kind, S c.Name, S c.Op, I c.Value.Kind, I c.Value.Number, S c.Value.Words, I c.Value.Version.1, I c.Value.Version.2.1, I c.Value.Version.2.2.1, I c.Value.Version.2.2.2, .d (.ro c.Kids.n c.Kids.xs)], .box 32 [I x5.Kind, S x5.Name, S x5.Op, I x5.Value.Kind, I x5.Value.Number, S x5.Value.Words, I x5.Value.Version.1, I x5.Value.Version.2.1, I x5.Value.Version.2.2.1, I x5.Value.Version.2.2.2, .d (.ro x5.Kids.n x5.Kids.xs)]] rfl ?_
        obtain ⟨y14, hy14, h15⟩ := bi_ok hy11
        refine go_ops hΓ 5 rfl ?_
        refine eo_callP (callable Tryz.func99 rfl rfl) (ih hy14) rfl (Nat.le_of_ble_eq_true rfl) rfl rfl rfl rfl rfl ?_
        refine go_ops hΓ 9 rfl ?_
        obtain rfl := Option.some.inj h15
        exact ⟨⟨rfl, rfl, rfl, get_eq rfl (w64_succ (Nat.lt_of_lt_of_le hlt hb9)), trivial⟩, [_], rfl, .inr ⟨HB.mk rfl, FB.mk rfl, (Nat.le_of_ble_eq_true rfl)⟩⟩
      · refine go hΓ 6 rfl ?_
        refine j_condF rfl (decide_eq_false (Int.lt_irrefl _)) ?_
        refine go hΓ 4 rfl ?_
        exact ⟨⟨rfl, trivial⟩, [], rfl, .inl rfl⟩
    · refine go hΓ 9 rfl ?_
      obtain rfl := Option.some.inj h7
      exact fin_pure hΓ (.inr rfl) rfl rfl
theorem c_laneref1_oneFault_1 {v_k : T_api_Cond} {x : T_api_Cond} {r : Bool} (h : m_laneref1_oneFault_1 v_k x = some r) : EC Tryz.prog 234 [.agg [I v_k.Kind, S v_k.Name, S v_k.Op, I v_k.Value.Kind, I v_k.Value.Number, S v_k.Value.Words, I v_k.Value.Version.1, I v_k.Value.Version.2.1, I v_k.Value.Version.2.2.1, I v_k.Value.Version.2.2.2, .d (.ro v_k.Kids.n v_k.Kids.xs)], .ptr 0 0] [.box 32 [I x.Kind, S x.Name, S x.Op, I x.Value.Kind, I x.Value.Number, S x.Value.Words, I x.Value.Version.1, I x.Value.Version.2.1, I x.Value.Version.2.2.1, I x.Value.Version.2.2.2, .d (.ro x.Kids.n x.Kids.xs)]] fun g hp' => g = B r ∧ hp' = [.box 32 [I x.Kind, S x.Name, S x.Op, I x.Value.Kind, I x.Value.Number, S x.Value.Words, I x.Value.Version.1, I x.Value.Version.2.1, I x.Value.Version.2.2.1, I x.Value.Version.2.2.2, .d (.ro x.Kids.n x.Kids.xs)]] := by
  refine ec_enter (Fr.of 0 _) Tryz.func234 rfl (Fr.of_ok _) (Nat.le_of_ble_eq_true rfl) fun _ => ?_
  refine go_in ?_
  unfold m_laneref1_oneFault_1 at h
  refine go hΓ 2 rfl ?_
  refine eo_box rfl rfl rfl rfl (Nat.le_of_ble_eq_true rfl) ?_
  refine go_ops hΓ 14 rfl ?_
  obtain rfl := Option.some.inj h
  exact fin_objs hΓ [_] (.inr rfl) rfl rfl rfl rfl (.inr ⟨HB.mk rfl, rfl⟩)
theorem c_slices_IndexFunc_api_Cond_api_Cond_2 {s : List T_api_Cond} {f : T_api_Cond} {r : Int} (h : m_slices_IndexFunc_api_Cond_api_Cond_2 s f = some r) : EC Tryz.prog 297 [.d (Sl e_api_Cond s), .fn (.func 234) [] [.ptr 0 0]] [.box 32 [I f.Kind, S f.Name, S f.Op, I f.Value.Kind, I f.Value.Number, S f.Value.Words, I f.Value.Version.1, I f.Value.Version.2.1, I f.Value.Version.2.2.1, I f.Value.Version.2.2.2, .d (.ro f.Kids.n f.Kids.xs)]] fun g hp' => g = I r ∧ hp' = [.box 32 [I f.Kind, S f.Name, S f.Op, I f.Value.Kind, I f.Value.Number, S f.Value.Words, I f.Value.Version.1, I f.Value.Version.2.1, I f.Value.Version.2.2.1, I f.Value.Version.2.2.2, .d (.ro f.Kids.n f.Kids.xs)]] := by
  refine ec_enter (Fr.of 0 _) Tryz.func297 rfl (Fr.of_ok _) (Nat.le_of_ble_eq_true rfl) fun _ => ?_
  refine go_in ?_
  unfold m_slices_IndexFunc_api_Cond_api_Cond_2 at h
  refine go hΓ 13 rfl ?_
  obtain ⟨q4, hq4, h5⟩ := bi_ok h
  refine j_bound 0 rfl fun hb7 => ?_
  refine j_cutEZ (R := fun a6 => q4 = .go a6) (fun a6 => []) (fun a6 => [.box 32 [I f.Kind, S f.Name, S f.Op, I f.Value.Kind, I f.Value.Number, S f.Value.Words, I f.Value.Version.1, I f.Value.Version.2.1, I f.Value.Version.2.2.1, I f.Value.Version.2.2.2, .d (.ro f.Kids.n f.Kids.xs)]]) ?_ ?_
  · refine go hΓ 1 rfl ?_
    refine j_range s hq4 (fun i1 s2 => [(0, .d (Sl e_api_Cond s)), (1, .fn (.func 234) [] [.ptr 0 0]), (7, I (s.length : Int)), (8, I (i1 : Int))]) (fun s2 => [.box 32 [I f.Kind, S f.Name, S f.Op, I f.Value.Kind, I f.Value.Number, S f.Value.Words, I f.Value.Version.1, I f.Value.Version.2.1, I f.Value.Version.2.2.1, I f.Value.Version.2.2.2, .d (.ro f.Kids.n f.Kids.xs)]]) ⟨⟨rfl, rfl, rfl, rfl, trivial⟩, [], rfl, .inl rfl⟩ (fun i1 x3 s2 y11 hx8 hlt hy9 hout10 => ?_) (fun s2 hgo => ?_)
    · refine go hΓ 6 rfl ?_
      refine j_condT rfl (decide_eq_true (Int.ofNat_lt.2 hlt)) ?_
      refine go hΓ 15 rfl ?_
      refine eo_o rfl (op_elemZ hΓ (enc := e_api_Cond) (getZ_nat hx8) rfl rfl rfl rfl rfl (fun _ => rfl)) ?_
      obtain ⟨y12, hy12, h13⟩ := bi_ok hy9
      refine go_ops hΓ 1 rfl ?_
      refine eo_callF [0] (B y12) [.box 32 [I f.Kind, S f.Name, S f.Op, I f.Value.Kind, I f.Value.Number, S f.Value.Words, I f.Value.Version.1, I f.Value.Version.2.1, I f.Value.Version.2.2.1, I f.Value.Version.2.2.2, .d (.ro f.Kids.n f.Kids.xs)]] (callable Tryz.func234 rfl rfl) (c_laneref1_oneFault_1 hy12) rfl (Nat.le_of_ble_eq_true rfl) rfl rfl rfl rfl rfl rfl rfl rfl rfl rfl ?_
      refine go_ops hΓ 2 rfl ?_
      refine j_cond rfl (fun hb => ?_) (fun hb => ?_)
      · have h14 := cT h13 hb
        refine go hΓ 9 rfl ?_
        obtain ⟨v15, hv15, h16⟩ := bi_ok h14
        obtain rfl := Option.some.inj h16
        obtain rfl := hout10 _ rfl
        obtain rfl := Option.some.inj h5
        refine go hΓ 4 rfl ?_
        obtain rfl := Option.some.inj hv15
        exact fin_objs hΓ [] (.inr rfl) rfl rfl rfl rfl (.inl rfl)
      · have h17 := cF h13 hb
        refine go hΓ 7 rfl ?_
        obtain rfl := Option.some.inj h17
        exact ⟨_, rfl, ⟨⟨rfl, rfl, rfl, get_eq rfl (w64_succ (Nat.lt_of_lt_of_le hlt hb7)), trivial⟩, [], rfl, .inl rfl⟩⟩
    · subst hgo
      refine go hΓ 6 rfl ?_
      refine j_condF rfl (decide_eq_false (Int.lt_irrefl _)) ?_
      refine go hΓ 4 rfl ?_
      exact ⟨_, rfl, ⟨trivial, [], rfl, .inl rfl⟩⟩
  · intro a6 ha
    subst ha
    replace h5 := goI_l h5
    refine go hΓ 7 rfl ?_
    obtain rfl := Option.some.inj h5
    exact fin_objs hΓ [] (.inr rfl) rfl rfl rfl rfl (.inl rfl)
theorem c_slices_ContainsFunc_api_Cond_api_Cond_2 {s : List T_api_Cond} {f : T_api_Cond} {r : Bool} (h : m_slices_ContainsFunc_api_Cond_api_Cond_2 s f = some r) : EC Tryz.prog 233 [.d (Sl e_api_Cond s), .fn (.func 234) [] [.ptr 0 0]] [.box 32 [I f.Kind, S f.Name, S f.Op, I f.Value.Kind, I f.Value.Number, S f.Value.Words, I f.Value.Version.1, I f.Value.Version.2.1, I f.Value.Version.2.2.1, I f.Value.Version.2.2.2, .d (.ro f.Kids.n f.Kids.xs)]] fun g hp' => g = B r ∧ hp' = [.box 32 [I f.Kind, S f.Name, S f.Op, I f.Value.Kind, I f.Value.Number, S f.Value.Words, I f.Value.Version.1, I f.Value.Version.2.1, I f.Value.Version.2.2.1, I f.Value.Version.2.2.2, .d (.ro f.Kids.n f.Kids.xs)]] := by
  refine ec_enter (Fr.of 0 _) Tryz.func233 rfl (Fr.of_ok _) (Nat.le_of_ble_eq_true rfl) fun _ => ?_
  refine go_in ?_
  unfold m_slices_ContainsFunc_api_Cond_api_Cond_2 at h
  obtain ⟨y1, hy1, h2⟩ := bi_ok h
  refine go hΓ 9 rfl ?_
  refine eo_callF [0] (I y1) [.box 32 [I f.Kind, S f.Name, S f.Op, I f.Value.Kind, I f.Value.Number, S f.Value.Words, I f.Value.Version.1, I f.Value.Version.2.1, I f.Value.Version.2.2.1, I f.Value.Version.2.2.2, .d (.ro f.Kids.n f.Kids.xs)]] (callable Tryz.func297 rfl rfl) (c_slices_IndexFunc_api_Cond_api_Cond_2 hy1) rfl (Nat.le_of_ble_eq_true rfl) rfl rfl rfl rfl rfl rfl rfl rfl rfl rfl ?_
  refine go_ops hΓ 5 rfl ?_
  obtain rfl := Option.some.inj h2
  exact fin_objs hΓ [] (.inr rfl) rfl rfl rfl rfl (.inl rfl)
theorem c_laneref2_in {n : Int} {low : Int} {high : Int} {r : Bool} (h : m_laneref2_in n low high = some r) : Pure Tryz.prog 182 [I n, I low, I high] (B r) := by
  refine Pure.enter (Fr.of 0 _) Tryz.func182 rfl (Fr.of_ok _) rfl rfl ?_
  refine go_in ?_
  unfold m_laneref2_in at h
  refine go hΓ 11 rfl ?_
  refine o_cut 4 [(6, B false), (14, B ((decide ((low : Int) ≤ n)) && (decide ((n : Int) ≤ high))))] [] ?_ ?_
  · refine eo_gsplit rfl rfl (fun hb => ?_) (fun hb => ?_)
    · refine go_ops hΓ 5 rfl ?_
      exact ⟨⟨rfl, get_b rfl (and_t hb), trivial⟩, [], rfl, .inl rfl⟩
    · refine go_ops hΓ 5 rfl ?_
      exact ⟨⟨rfl, get_b rfl (and_f hb), trivial⟩, [], rfl, .inl rfl⟩
  · refine go_ops hΓ 4 rfl ?_
    obtain rfl := Option.some.inj h
    exact fin_pure hΓ (.inr rfl) rfl rfl
theorem c_laneref2_Key {s : Str} {r : Bool} (h : m_laneref2_Key s = some r) : Pure Tryz.prog 102 [S s] (B r) := by
  refine Pure.enter (Fr.of 0 _) Tryz.func102 rfl (Fr.of_ok _) rfl rfl ?_
  refine go_in ?_
  unfold m_laneref2_Key at h
  obtain ⟨y1, hy1, h2⟩ := bi_ok h
  refine go hΓ 9 rfl ?_
  refine eo_callP (callable Tryz.func182 rfl rfl) (c_laneref2_in hy1) rfl (Nat.le_of_ble_eq_true rfl) rfl rfl rfl rfl rfl ?_
  refine go_ops hΓ 1 rfl ?_
  obtain ⟨q3, hq3, h4⟩ := bi_ok h2
  refine o_cut 4 [(0, S s), (2, B false), (10, B q3)] [] ?_ ?_
  · refine eo_gsplit rfl rfl (fun hb => ?_) (fun hb => ?_)
    · have h5 := cT hq3 hb
      obtain ⟨z6, hz6, h7⟩ := bi_ok h5
      refine go_ops hΓ 1 rfl ?_
      refine eo_guard rfl ?_
      refine eo_o rfl (op_subZ hΓ hz6 rfl rfl rfl rfl rfl) ?_
      obtain ⟨y8, hy8, h9⟩ := bi_ok h7
      refine eo_guard rfl ?_
      refine eo_callP (callable Tryz.func183 rfl rfl) (c_laneref2_only hy8) rfl (Nat.le_of_ble_eq_true rfl) rfl rfl rfl rfl rfl ?_
      refine go_ops hΓ 2 rfl ?_
      obtain rfl := Option.some.inj h9
      exact ⟨⟨rfl, rfl, rfl, trivial⟩, [], rfl, .inl rfl⟩
    · have h10 := cF hq3 hb
      refine go_ops hΓ 5 rfl ?_
      obtain rfl := Option.some.inj h10
      exact ⟨⟨rfl, rfl, rfl, trivial⟩, [], rfl, .inl rfl⟩
  · refine go_ops hΓ 1 rfl ?_
    obtain ⟨q11, hq11, h12⟩ := bi_ok h4
    refine o_cut 3 [(2, B false), (14, B q11)] [] ?_ ?_
    · refine eo_gsplit rfl rfl (fun hb => ?_) (fun hb => ?_)
      · have h13 := cT hq11 hb
        obtain ⟨y14, hy14, h15⟩ := bi_ok h13
        refine go_ops hΓ 1 rfl ?_
        refine eo_guard rfl ?_
        refine eo_callP (callable Tryz.func183 rfl rfl) (c_laneref2_only hy14) rfl (Nat.le_of_ble_eq_true rfl) rfl rfl rfl rfl rfl ?_
        refine go_ops hΓ 2 rfl ?_
        obtain rfl := Option.some.inj h15
        exact ⟨⟨rfl, rfl, trivial⟩, [], rfl, .inl rfl⟩
      · have h16 := cF hq11 hb
        refine go_ops hΓ 4 rfl ?_
        obtain rfl := Option.some.inj h16
        exact ⟨⟨rfl, rfl, trivial⟩, [], rfl, .inl rfl⟩
    · refine go_ops hΓ 4 rfl ?_
      obtain rfl := Option.some.inj h12
      exact fin_pure hΓ (.inr rfl) rfl rfl
set_option maxHeartbeats 8000000 in
theorem c_laneref1_attrName {s : Str} {r : Bool} (h : m_laneref1_attrName s = some r) : Pure Tryz.prog 235 [S s] (B r) := by
  refine Pure.enter (Fr.of 0 _) Tryz.func235 rfl (Fr.of_ok _) rfl rfl ?_
  refine go_in ?_
  unfold m_laneref1_attrName at h
  obtain ⟨y1, hy1, h2⟩ := bi_ok h
  refine go hΓ 8 rfl ?_
  refine eo_callP (callable Tryz.func102 rfl rfl) (c_laneref2_Key hy1) rfl (Nat.le_of_ble_eq_true rfl) rfl rfl rfl rfl rfl ?_
  refine go_ops hΓ 1 rfl ?_
  refine o_cut 3 [(0, S s), (2, B false), (8, B (y1 && (!((s : Str) == [116, 114, 117, 101]))))] [] ?_ ?_
  · refine eo_gsplit rfl rfl (fun hb => ?_) (fun hb => ?_)
    · refine go_ops hΓ 4 rfl ?_
      exact ⟨⟨rfl, rfl, get_b rfl (and_t hb), trivial⟩, [], rfl, .inl rfl⟩
    · refine go_ops hΓ 4 rfl ?_
      exact ⟨⟨rfl, rfl, get_b rfl (and_f hb), trivial⟩, [], rfl, .inl rfl⟩
  · refine go_ops hΓ 1 rfl ?_
    refine o_cut 3 [(0, S s), (2, B false), (12, B ((y1 && (!((s : Str) == [116, 114, 117, 101]))) && (!((s : Str) == [102, 97, 108, 115, 101]))))] [] ?_ ?_
    · refine eo_gsplit rfl rfl (fun hb => ?_) (fun hb => ?_)
      · refine go_ops hΓ 4 rfl ?_
        exact ⟨⟨rfl, rfl, get_b rfl (and_t hb), trivial⟩, [], rfl, .inl rfl⟩
      · refine go_ops hΓ 4 rfl ?_
        exact ⟨⟨rfl, rfl, get_b rfl (and_f hb), trivial⟩, [], rfl, .inl rfl⟩
    · refine go_ops hΓ 1 rfl ?_
      obtain ⟨q3, hq3, h4⟩ := bi_ok h2
      refine o_cut 20 [(2, B false), (33, B q3)] [] ?_ ?_
      · refine eo_gsplit rfl rfl (fun hb => ?_) (fun hb => ?_)
        · have h5 := cT hq3 hb
          obtain ⟨c6, hc6, h7⟩ := bi_ok h5
          refine go_ops hΓ 1 rfl ?_
          refine eo_guard rfl ?_
          refine eo_o rfl (op_byteZ hΓ hc6 rfl rfl rfl rfl) ?_
          refine go_ops hΓ 2 rfl ?_
          refine o_cut 4 [(0, S s), (2, B false), (13, B true), (21, B ((((c6.toNat : Int) : Int) == 118) && (decide (((s.length : Int) : Int) > 1))))] [] ?_ ?_
          · refine eo_gsplit rfl rfl (fun hb => ?_) (fun hb => ?_)
            · refine go_ops hΓ 5 rfl ?_
              exact ⟨⟨rfl, rfl, rfl, get_b rfl (and_t hb), trivial⟩, [], rfl, .inl rfl⟩
            · refine go_ops hΓ 5 rfl ?_
              exact ⟨⟨rfl, rfl, rfl, get_b rfl (and_f hb), trivial⟩, [], rfl, .inl rfl⟩
          · refine go_ops hΓ 1 rfl ?_
            obtain ⟨q8, hq8, h9⟩ := bi_ok h7
            refine o_cut 4 [(0, S s), (2, B false), (13, B true), (26, B q8)] [] ?_ ?_
            · refine eo_gsplit rfl rfl (fun hb => ?_) (fun hb => ?_)
              · have h10 := cT hq8 hb
                obtain ⟨c11, hc11, h12⟩ := bi_ok h10
                refine go_ops hΓ 1 rfl ?_
                refine eo_guard rfl ?_
                refine eo_o rfl (op_byteZ hΓ hc11 rfl rfl rfl rfl) ?_
                refine go_ops hΓ 3 rfl ?_
                obtain rfl := Option.some.inj h12
                exact ⟨⟨rfl, rfl, rfl, rfl, trivial⟩, [], rfl, .inl rfl⟩
              · have h13 := cF hq8 hb
                refine go_ops hΓ 5 rfl ?_
                obtain rfl := Option.some.inj h13
                exact ⟨⟨rfl, rfl, rfl, rfl, trivial⟩, [], rfl, .inl rfl⟩
            · refine go_ops hΓ 1 rfl ?_
              obtain ⟨q14, hq14, h15⟩ := bi_ok h9
              refine o_cut 4 [(2, B false), (13, B true), (31, B q14)] [] ?_ ?_
              · refine eo_gsplit rfl rfl (fun hb => ?_) (fun hb => ?_)
                · have h16 := cT hq14 hb
                  obtain ⟨c17, hc17, h18⟩ := bi_ok h16
                  refine go_ops hΓ 1 rfl ?_
                  refine eo_guard rfl ?_
                  refine eo_o rfl (op_byteZ hΓ hc17 rfl rfl rfl rfl) ?_
                  refine go_ops hΓ 3 rfl ?_
                  obtain rfl := Option.some.inj h18
                  exact ⟨⟨rfl, rfl, rfl, trivial⟩, [], rfl, .inl rfl⟩
                · have h19 := cF hq14 hb
                  refine go_ops hΓ 5 rfl ?_
                  obtain rfl := Option.some.inj h19
                  exact ⟨⟨rfl, rfl, rfl, trivial⟩, [], rfl, .inl rfl⟩
              · refine go_ops hΓ 3 rfl ?_
                obtain rfl := Option.some.inj h15
                exact ⟨⟨rfl, rfl, trivial⟩, [], rfl, .inl rfl⟩
        · have h20 := cF hq3 hb
          refine go_ops hΓ 21 rfl ?_
          obtain rfl := Option.some.inj h20
          exact ⟨⟨rfl, rfl, trivial⟩, [], rfl, .inl rfl⟩
      · refine go_ops hΓ 4 rfl ?_
        obtain rfl := Option.some.inj h4
        exact fin_pure hΓ (.inr rfl) rfl rfl
set_option maxHeartbeats 8000000 in
theorem c_laneref1_AttrFault {k : Nat} {a : T_api_Attr} {r : Int} (h : m_laneref1_AttrFault k a = some r) : Pure Tryz.prog 52 [.agg [I a.Kind, I a.Number, S a.Words, I a.Version.1, I a.Version.2.1, I a.Version.2.2.1, I a.Version.2.2.2]] (I r) := by
  refine Pure.enter (Fr.of 0 _) Tryz.func52 rfl (Fr.of_ok _) rfl rfl ?_
  refine go_in ?_
  unfold m_laneref1_AttrFault at h
  refine go hΓ 2 rfl ?_
  refine eo_box rfl rfl rfl rfl (Nat.le_of_ble_eq_true rfl) ?_
  obtain ⟨y1, hy1, h2⟩ := bi_ok h
  refine go_ops hΓ 9 rfl ?_
  refine eo_callP (callable Tryz.func104 rfl rfl) (c_laneref1_in hy1) rfl (Nat.le_of_ble_eq_true rfl) rfl rfl rfl rfl rfl ?_
  refine go_ops hΓ 4 rfl ?_
  refine j_cond rfl (fun hb => ?_) (fun hb => ?_)
  · have h3 := cT h2 hb
    refine go hΓ 8 rfl ?_
    obtain rfl := Option.some.inj h3
    exact fin_pure hΓ (.inr rfl) rfl rfl
  · have h4 := cF h2 hb
    refine go hΓ 6 rfl ?_
    obtain ⟨q5, hq5, h6⟩ := bi_ok h4
    refine o_cut 5 [(1, .ptr 0 0), (20, B q5)] [.box 29 [I a.Kind, I a.Number, S a.Words, I a.Version.1, I a.Version.2.1, I a.Version.2.2.1, I a.Version.2.2.2]] ?_ ?_
    · refine eo_gsplit rfl rfl (fun hb => ?_) (fun hb => ?_)
      · have h7 := cT hq5 hb
        obtain ⟨y8, hy8, h9⟩ := bi_ok h7
        refine go_ops hΓ 2 rfl ?_
        refine eo_guard rfl ?_
        refine eo_callP (callable Tryz.func104 rfl rfl) (c_laneref1_in hy8) rfl (Nat.le_of_ble_eq_true rfl) rfl rfl rfl rfl rfl ?_
        refine go_ops hΓ 3 rfl ?_
        obtain rfl := Option.some.inj h9
        exact ⟨⟨rfl, rfl, trivial⟩, [], rfl, .inl rfl⟩
      · have h10 := cF hq5 hb
        refine go_ops hΓ 6 rfl ?_
        obtain rfl := Option.some.inj h10
        exact ⟨⟨rfl, rfl, trivial⟩, [], rfl, .inl rfl⟩
    · refine go_ops hΓ 1 rfl ?_
      obtain ⟨q11, hq11, h12⟩ := bi_ok h6
      refine o_cut 10 [(1, .ptr 0 0), (31, B q11)] [.box 29 [I a.Kind, I a.Number, S a.Words, I a.Version.1, I a.Version.2.1, I a.Version.2.2.1, I a.Version.2.2.2]] ?_ ?_
      · refine eo_gsplit rfl rfl (fun hb => ?_) (fun hb => ?_)
        · have h13 := cT hq11 hb
          refine go_ops hΓ 11 rfl ?_
          obtain rfl := Option.some.inj h13
          exact ⟨⟨rfl, rfl, trivial⟩, [], rfl, .inl rfl⟩
        · have h14 := cF hq11 hb
          refine go_ops hΓ 4 rfl ?_
          obtain ⟨q15, hq15, h16⟩ := bi_ok h14
          refine o_cut 5 [(1, .ptr 0 0), (21, B false), (30, B q15)] [.box 29 [I a.Kind, I a.Number, S a.Words, I a.Version.1, I a.Version.2.1, I a.Version.2.2.1, I a.Version.2.2.2]] ?_ ?_
          · refine eo_gsplit rfl rfl (fun hb => ?_) (fun hb => ?_)
            · have h17 := cT hq15 hb
              obtain ⟨y18, hy18, h19⟩ := bi_ok h17
              refine go_ops hΓ 2 rfl ?_
              refine eo_guard rfl ?_
              refine eo_callP (callable Tryz.func104 rfl rfl) (c_laneref1_in hy18) rfl (Nat.le_of_ble_eq_true rfl) rfl rfl rfl rfl rfl ?_
              refine go_ops hΓ 3 rfl ?_
              obtain rfl := Option.some.inj h19
              exact ⟨⟨rfl, rfl, rfl, trivial⟩, [], rfl, .inl rfl⟩
            · have h20 := cF hq15 hb
              refine go_ops hΓ 6 rfl ?_
              obtain rfl := Option.some.inj h20
              exact ⟨⟨rfl, rfl, rfl, trivial⟩, [], rfl, .inl rfl⟩
          · refine go_ops hΓ 2 rfl ?_
            obtain rfl := Option.some.inj h16
            exact ⟨⟨rfl, rfl, trivial⟩, [], rfl, .inl rfl⟩
      · refine go_ops hΓ 3 rfl ?_
        refine j_cond rfl (fun hb => ?_) (fun hb => ?_)
        · have h21 := cT h12 hb
          refine go hΓ 8 rfl ?_
          obtain rfl := Option.some.inj h21
          exact fin_pure hΓ (.inr rfl) rfl rfl
        · have h22 := cF h12 hb
          refine go hΓ 6 rfl ?_
          refine o_cut 4 [(1, .ptr 0 0), (40, B (((a.Kind : Int) != 1) && ((a.Kind : Int) != 3)))] [.box 29 [I a.Kind, I a.Number, S a.Words, I a.Version.1, I a.Version.2.1, I a.Version.2.2.1, I a.Version.2.2.2]] ?_ ?_
          · refine eo_gsplit rfl rfl (fun hb => ?_) (fun hb => ?_)
            · refine go_ops hΓ 5 rfl ?_
              exact ⟨⟨rfl, get_b rfl (and_t hb), trivial⟩, [], rfl, .inl rfl⟩
            · refine go_ops hΓ 5 rfl ?_
              exact ⟨⟨rfl, get_b rfl (and_f hb), trivial⟩, [], rfl, .inl rfl⟩
          · refine go_ops hΓ 1 rfl ?_
            refine o_cut 4 [(1, .ptr 0 0), (45, B ((((a.Kind : Int) != 1) && ((a.Kind : Int) != 3)) && ((a.Number : Int) != 0)))] [.box 29 [I a.Kind, I a.Number, S a.Words, I a.Version.1, I a.Version.2.1, I a.Version.2.2.1, I a.Version.2.2.2]] ?_ ?_
            · refine eo_gsplit rfl rfl (fun hb => ?_) (fun hb => ?_)
              · refine go_ops hΓ 5 rfl ?_
                exact ⟨⟨rfl, get_b rfl (and_t hb), trivial⟩, [], rfl, .inl rfl⟩
              · refine go_ops hΓ 5 rfl ?_
                exact ⟨⟨rfl, get_b rfl (and_f hb), trivial⟩, [], rfl, .inl rfl⟩
            · refine go_ops hΓ 3 rfl ?_
              refine j_cond rfl (fun hb => ?_) (fun hb => ?_)
              · have h23 := cT h22 hb
                refine go hΓ 8 rfl ?_
                obtain rfl := Option.some.inj h23
                exact fin_pure hΓ (.inr rfl) rfl rfl
              · have h24 := cF h22 hb
                refine go hΓ 6 rfl ?_
                refine o_cut 4 [(1, .ptr 0 0), (54, B (((a.Kind : Int) != 2) && (!((a.Words : Str) == []))))] [.box 29 [I a.Kind, I a.Number, S a.Words, I a.Version.1, I a.Version.2.1, I a.Version.2.2.1, I a.Version.2.2.2]] ?_ ?_
                · refine eo_gsplit rfl rfl (fun hb => ?_) (fun hb => ?_)
                  · refine go_ops hΓ 5 rfl ?_
                    exact ⟨⟨rfl, get_b rfl (and_t hb), trivial⟩, [], rfl, .inl rfl⟩
                  · refine go_ops hΓ 5 rfl ?_
                    exact ⟨⟨rfl, get_b rfl (and_f hb), trivial⟩, [], rfl, .inl rfl⟩
                · refine go_ops hΓ 1 rfl ?_
                  refine o_cut 5 [(1, .ptr 0 0), (60, B ((((a.Kind : Int) != 2) && (!((a.Words : Str) == []))) || (decide (((a.Words.length : Int) : Int) > 100))))] [.box 29 [I a.Kind, I a.Number, S a.Words, I a.Version.1, I a.Version.2.1, I a.Version.2.2.1, I a.Version.2.2.2]] ?_ ?_
                  · refine eo_gsplit rfl rfl (fun hb => ?_) (fun hb => ?_)
                    · refine go_ops hΓ 6 rfl ?_
                      exact ⟨⟨rfl, get_b rfl (or_t hb), trivial⟩, [], rfl, .inl rfl⟩
                    · refine go_ops hΓ 6 rfl ?_
                      exact ⟨⟨rfl, get_b rfl (or_f hb), trivial⟩, [], rfl, .inl rfl⟩
                  · refine go_ops hΓ 3 rfl ?_
                    refine j_cond rfl (fun hb => ?_) (fun hb => ?_)
                    · have h25 := cT h24 hb
                      refine go hΓ 8 rfl ?_
                      obtain rfl := Option.some.inj h25
                      exact fin_pure hΓ (.inr rfl) rfl rfl
                    · have h26 := cF h24 hb
                      refine go hΓ 12 rfl ?_
                      obtain ⟨q30, hq30, h31⟩ := bi_ok h26
                      obtain ⟨hb33, h34⟩ := gd_ok hq30
                      replace hb33 := of_decide_eq_true hb33
                      refine j_cutEZ (R := fun a32 => q30 = .go a32) (fun a32 => [(1, .ptr 0 0)]) (fun a32 => [.box 29 [I a.Kind, I a.Number, S a.Words, I a.Version.1, I a.Version.2.1, I a.Version.2.2.1, I a.Version.2.2.2]]) ?_ ?_
                      · refine go hΓ 1 rfl ?_
                        refine j_rangeI h34 (fun i27 s28 => [(1, .ptr 0 0), (63, I (a.Words.length : Int)), (64, I (i27 : Int))]) (fun s28 => [.box 29 [I a.Kind, I a.Number, S a.Words, I a.Version.1, I a.Version.2.1, I a.Version.2.2.1, I a.Version.2.2.2]]) ⟨⟨rfl, rfl, rfl, trivial⟩, [], rfl, .inl rfl⟩ (fun i27 s28 y38 hlt hy36 hout37 => ?_) (fun s28 hgo hge => ?_)
                        · refine go hΓ 6 rfl ?_
                          refine j_condT rfl (decide_eq_true hlt) ?_
                          obtain ⟨c39, hc39, h40⟩ := bi_ok hy36
                          refine go hΓ 15 rfl ?_
                          refine eo_o rfl (op_byteZ hΓ hc39 rfl rfl rfl rfl) ?_
                          obtain ⟨y41, hy41, h42⟩ := bi_ok h40
                          refine go_ops hΓ 1 rfl ?_
                          refine eo_callP (callable Tryz.func104 rfl rfl) (c_laneref1_in hy41) rfl (Nat.le_of_ble_eq_true rfl) rfl rfl rfl rfl rfl ?_
                          refine go_ops hΓ 3 rfl ?_
                          refine j_cond rfl (fun hb => ?_) (fun hb => ?_)
                          · have h43 := cT h42 hb
                            refine go hΓ 8 rfl ?_
                            obtain ⟨v44, hv44, h45⟩ := bi_ok h43
                            obtain rfl := Option.some.inj h45
                            obtain rfl := hout37 _ rfl
                            obtain rfl := Option.some.inj h31
                            refine go hΓ 4 rfl ?_
                            obtain rfl := Option.some.inj hv44
                            exact fin_pure hΓ (.inr rfl) rfl rfl
                          · have h46 := cF h42 hb
                            refine go hΓ 7 rfl ?_
                            obtain rfl := Option.some.inj h46
                            exact ⟨_, rfl, ⟨⟨rfl, rfl, get_eq rfl (w64_succ (by omega)), trivial⟩, [], rfl, .inl rfl⟩⟩
                        · subst hgo
                          refine go hΓ 6 rfl ?_
                          refine j_condF rfl (decide_eq_false hge) ?_
                          refine go hΓ 4 rfl ?_
                          exact ⟨_, rfl, ⟨⟨rfl, trivial⟩, [], rfl, .inl rfl⟩⟩
                      · intro a32 ha
                        subst ha
                        replace h31 := goI_l h31
                        refine go hΓ 9 rfl ?_
                        obtain ⟨q50, hq50, h51⟩ := bi_ok h31
                        refine j_cutEZ (R := fun a52 => q50 = .inl a52) (fun a52 => [(1, .ptr 0 0)]) (fun a52 => [.box 29 [I a.Kind, I a.Number, S a.Words, I a.Version.1, I a.Version.2.1, I a.Version.2.2.1, I a.Version.2.2.2]]) ?_ ?_
                        · refine go hΓ 1 rfl ?_
                          refine j_loop hq50 (fun s48 => [(1, .ptr 0 0), (76, .agg [I a.Version.1, I a.Version.2.1, I a.Version.2.2.1, I a.Version.2.2.2]), (77, I s48)]) (fun s48 => [.box 29 [I a.Kind, I a.Number, S a.Words, I a.Version.1, I a.Version.2.1, I a.Version.2.2.1, I a.Version.2.2.2]]) ⟨⟨rfl, rfl, rfl, trivial⟩, [], rfl, .inl rfl⟩ (fun s48 y56 hy54 hout55 => ?_)
                          refine go hΓ 6 rfl ?_
                          refine j_cond rfl (fun hb => ?_) (fun hb => ?_)
                          · have h57 := cT hy54 hb
                            obtain ⟨x58, hx58, h59⟩ := bi_ok h57
                            refine go hΓ 6 rfl ?_
                            refine eo_o rfl (op_indexArrZ hΓ (enc := (eN .i64)) [a.Version.1, a.Version.2.1, a.Version.2.2.1, a.Version.2.2.2] hx58 rfl rfl rfl rfl rfl rfl rfl (fun _ => rfl) rfl) ?_
                            refine go_ops hΓ 9 rfl ?_
                            obtain ⟨q60, hq60, h61⟩ := bi_ok h59
                            refine o_cut 4 [(1, .ptr 0 0), (76, .agg [I a.Version.1, I a.Version.2.1, I a.Version.2.2.1, I a.Version.2.2.2]), (77, I s48), (87, B q60)] [.box 29 [I a.Kind, I a.Number, S a.Words, I a.Version.1, I a.Version.2.1, I a.Version.2.2.1, I a.Version.2.2.2]] ?_ ?_
                            · refine eo_gsplit rfl rfl (fun hb => ?_) (fun hb => ?_)
                              · have h62 := cT hq60 hb
                                obtain ⟨y63, hy63, h64⟩ := bi_ok h62
                                refine go_ops hΓ 1 rfl ?_
                                refine eo_guard rfl ?_
                                refine eo_callP (callable Tryz.func104 rfl rfl) (c_laneref1_in hy63) rfl (Nat.le_of_ble_eq_true rfl) rfl rfl rfl rfl rfl ?_
                                refine go_ops hΓ 3 rfl ?_
                                obtain rfl := Option.some.inj h64
                                exact ⟨⟨rfl, rfl, rfl, rfl, trivial⟩, [], rfl, .inl rfl⟩
                              · have h65 := cF hq60 hb
                                refine go_ops hΓ 5 rfl ?_
                                obtain rfl := Option.some.inj h65
                                exact ⟨⟨rfl, rfl, rfl, rfl, trivial⟩, [], rfl, .inl rfl⟩
                            · refine go_ops hΓ 2 rfl ?_
                              refine j_cond rfl (fun hb => ?_) (fun hb => ?_)
                              · have h66 := cT h61 hb
                                refine go hΓ 8 rfl ?_
                                obtain ⟨v67, hv67, h68⟩ := bi_ok h66
                                obtain rfl := Option.some.inj h68
                                obtain rfl := hout55 _ rfl
                                obtain rfl := Option.some.inj h51
                                refine go hΓ 4 rfl ?_
                                obtain rfl := Option.some.inj hv67
                                exact fin_pure hΓ (.inr rfl) rfl rfl
                              · have h69 := cF h61 hb
                                refine go hΓ 7 rfl ?_
                                obtain rfl := Option.some.inj h69
                                exact ⟨_, rfl, ⟨⟨rfl, rfl, rfl, trivial⟩, [], rfl, .inl rfl⟩⟩
                          · have h70 := cF hy54 hb
                            refine go hΓ 4 rfl ?_
                            obtain rfl := Option.some.inj h70
                            obtain rfl := hout55 _ rfl
                            exact ⟨_, rfl, ⟨⟨rfl, trivial⟩, [], rfl, .inl rfl⟩⟩
                        · intro a52 ha
                          subst ha
                          replace h51 := orI_l h51
                          refine go hΓ 8 rfl ?_
                          refine o_cut 5 [(97, B (((a.Kind : Int) != 4) && (!decide (([a.Version.1, a.Version.2.1, a.Version.2.2.1, a.Version.2.2.2] : List Int) = ([0, 0, 0, 0] : List Int)))))] [.box 29 [I a.Kind, I a.Number, S a.Words, I a.Version.1, I a.Version.2.1, I a.Version.2.2.1, I a.Version.2.2.2]] ?_ ?_
                          · refine eo_gsplit rfl rfl (fun hb => ?_) (fun hb => ?_)
                            · refine go_ops hΓ 2 rfl ?_
                              refine eo_guard rfl ?_
                              refine eo_o rfl (op_buildA hΓ (gs := [I 0, I 0, I 0, I 0]) rfl rfl rfl rfl rfl rfl) ?_
                              refine eo_guard rfl ?_
                              refine eo_o rfl (op_neArr hΓ (l1 := ([a.Version.1, a.Version.2.1, a.Version.2.2.1, a.Version.2.2.2] : List Int)) (l2 := ([0, 0, 0, 0] : List Int)) rfl rfl rfl rfl rfl (by kernel_rfl) rfl rfl rfl rfl rfl rfl) ?_
                              refine go_ops hΓ 2 rfl ?_
                              exact ⟨⟨get_b rfl (and_t hb), trivial⟩, [], rfl, .inl rfl⟩
                            · refine go_ops hΓ 6 rfl ?_
                              exact ⟨⟨get_b rfl (and_f hb), trivial⟩, [], rfl, .inl rfl⟩
                          · refine go_ops hΓ 2 rfl ?_
                            refine j_cond rfl (fun hb => ?_) (fun hb => ?_)
                            · have h71 := cT h51 hb
                              refine go hΓ 7 rfl ?_
                              obtain rfl := Option.some.inj h71
                              exact fin_pure hΓ (.inr rfl) rfl rfl
                            · have h72 := cF h51 hb
                              refine go hΓ 8 rfl ?_
                              obtain rfl := Option.some.inj h72
                              exact fin_pure hΓ (.inr rfl) rfl rfl
set_option maxHeartbeats 8000000 in
theorem c_laneref1_oneFault {k : Nat} {c : T_api_Cond} {r : Int} (h : m_laneref1_oneFault k c = some r) : Pure Tryz.prog 181 [.agg [I c.Kind, S c.Name, S c.Op, I c.Value.Kind, I c.Value.Number, S c.Value.Words, I c.Value.Version.1, I c.Value.Version.2.1, I c.Value.Version.2.2.1, I c.Value.Version.2.2.2, .d (.ro c.Kids.n c.Kids.xs)]] (I r) := by
  refine Pure.enter (Fr.of 0 _) Tryz.func181 rfl (Fr.of_ok _) rfl rfl ?_
  refine go_in ?_
  unfold m_laneref1_oneFault at h
  refine go hΓ 2 rfl ?_
  refine eo_box rfl rfl rfl rfl (Nat.le_of_ble_eq_true rfl) ?_
  obtain ⟨y1, hy1, h2⟩ := bi_ok h
  refine go_ops hΓ 17 rfl ?_
  refine eo_callP (callable Tryz.func104 rfl rfl) (c_laneref1_in hy1) rfl (Nat.le_of_ble_eq_true rfl) rfl rfl rfl rfl rfl ?_
  refine go_ops hΓ 4 rfl ?_
  refine j_cond rfl (fun hb => ?_) (fun hb => ?_)
  · have h3 := cT h2 hb
    refine go hΓ 8 rfl ?_
    obtain rfl := Option.some.inj h3
    exact fin_pure hΓ (.inr rfl) rfl rfl
  · have h4 := cF h2 hb
    refine go hΓ 4 rfl ?_
    obtain ⟨q5, hq5, h6⟩ := bi_ok h4
    refine o_cut 5 [(1, .ptr 0 0), (3, B ((c.Kind : Int) == 1)), (20, B q5)] [.box 32 [I c.Kind, S c.Name, S c.Op, I c.Value.Kind, I c.Value.Number, S c.Value.Words, I c.Value.Version.1, I c.Value.Version.2.1, I c.Value.Version.2.2.1, I c.Value.Version.2.2.2, .d (.ro c.Kids.n c.Kids.xs)]] ?_ ?_
    · refine eo_gsplit rfl rfl (fun hb => ?_) (fun hb => ?_)
      · have h7 := cT hq5 hb
        obtain ⟨l8, hl8, h9⟩ := bi_ok h7
        refine go_ops hΓ 1 rfl ?_
        refine eo_guard rfl ?_
        refine eo_o rfl (op_le (pst_ok hΓ (g := .d (.ro c.Kids.n c.Kids.xs)) rfl) (G.Le.unk dk_api_Cond hl8)) ?_
        refine go_ops hΓ 4 rfl ?_
        obtain rfl := Option.some.inj h9
        exact ⟨⟨rfl, rfl, rfl, trivial⟩, [], rfl, .inl rfl⟩
      · have h10 := cF hq5 hb
        refine go_ops hΓ 6 rfl ?_
        obtain rfl := Option.some.inj h10
        exact ⟨⟨rfl, rfl, rfl, trivial⟩, [], rfl, .inl rfl⟩
    · refine go_ops hΓ 1 rfl ?_
      obtain ⟨q11, hq11, h12⟩ := bi_ok h6
      refine o_cut 10 [(1, .ptr 0 0), (3, B ((c.Kind : Int) == 1)), (31, B q11)] [.box 32 [I c.Kind, S c.Name, S c.Op, I c.Value.Kind, I c.Value.Number, S c.Value.Words, I c.Value.Version.1, I c.Value.Version.2.1, I c.Value.Version.2.2.1, I c.Value.Version.2.2.2, .d (.ro c.Kids.n c.Kids.xs)]] ?_ ?_
      · refine eo_gsplit rfl rfl (fun hb => ?_) (fun hb => ?_)
        · have h13 := cT hq11 hb
          refine go_ops hΓ 11 rfl ?_
          obtain rfl := Option.some.inj h13
          exact ⟨⟨rfl, rfl, rfl, trivial⟩, [], rfl, .inl rfl⟩
        · have h14 := cF hq11 hb
          refine go_ops hΓ 4 rfl ?_
          obtain ⟨q15, hq15, h16⟩ := bi_ok h14
          refine o_cut 5 [(1, .ptr 0 0), (3, B ((c.Kind : Int) == 1)), (21, B false), (30, B q15)] [.box 32 [I c.Kind, S c.Name, S c.Op, I c.Value.Kind, I c.Value.Number, S c.Value.Words, I c.Value.Version.1, I c.Value.Version.2.1, I c.Value.Version.2.2.1, I c.Value.Version.2.2.2, .d (.ro c.Kids.n c.Kids.xs)]] ?_ ?_
          · refine eo_gsplit rfl rfl (fun hb => ?_) (fun hb => ?_)
            · have h17 := cT hq15 hb
              obtain ⟨l18, hl18, h19⟩ := bi_ok h17
              refine go_ops hΓ 1 rfl ?_
              refine eo_guard rfl ?_
              refine eo_o rfl (op_le (pst_ok hΓ (g := .d (.ro c.Kids.n c.Kids.xs)) rfl) (G.Le.unk dk_api_Cond hl18)) ?_
              refine go_ops hΓ 4 rfl ?_
              obtain rfl := Option.some.inj h19
              exact ⟨⟨rfl, rfl, rfl, rfl, trivial⟩, [], rfl, .inl rfl⟩
            · have h20 := cF hq15 hb
              refine go_ops hΓ 6 rfl ?_
              obtain rfl := Option.some.inj h20
              exact ⟨⟨rfl, rfl, rfl, rfl, trivial⟩, [], rfl, .inl rfl⟩
          · refine go_ops hΓ 2 rfl ?_
            obtain rfl := Option.some.inj h16
            exact ⟨⟨rfl, rfl, rfl, trivial⟩, [], rfl, .inl rfl⟩
      · refine go_ops hΓ 1 rfl ?_
        obtain ⟨q21, hq21, h22⟩ := bi_ok h12
        refine o_cut 14 [(1, .ptr 0 0), (3, B ((c.Kind : Int) == 1)), (46, B q21)] [.box 32 [I c.Kind, S c.Name, S c.Op, I c.Value.Kind, I c.Value.Number, S c.Value.Words, I c.Value.Version.1, I c.Value.Version.2.1, I c.Value.Version.2.2.1, I c.Value.Version.2.2.2, .d (.ro c.Kids.n c.Kids.xs)]] ?_ ?_
        · refine eo_gsplit rfl rfl (fun hb => ?_) (fun hb => ?_)
          · have h23 := cT hq21 hb
            refine go_ops hΓ 15 rfl ?_
            obtain rfl := Option.some.inj h23
            exact ⟨⟨rfl, rfl, rfl, trivial⟩, [], rfl, .inl rfl⟩
          · have h24 := cF hq21 hb
            refine go_ops hΓ 3 rfl ?_
            refine o_cut 4 [(1, .ptr 0 0), (3, B ((c.Kind : Int) == 1)), (32, B false), (39, B ((!((c.Kind : Int) == 1)) && ((c.Kind : Int) != 2)))] [.box 32 [I c.Kind, S c.Name, S c.Op, I c.Value.Kind, I c.Value.Number, S c.Value.Words, I c.Value.Version.1, I c.Value.Version.2.1, I c.Value.Version.2.2.1, I c.Value.Version.2.2.2, .d (.ro c.Kids.n c.Kids.xs)]] ?_ ?_
            · refine eo_gsplit rfl rfl (fun hb => ?_) (fun hb => ?_)
              · refine go_ops hΓ 5 rfl ?_
                exact ⟨⟨rfl, rfl, rfl, get_b rfl (and_t hb), trivial⟩, [], rfl, .inl rfl⟩
              · refine go_ops hΓ 5 rfl ?_
                exact ⟨⟨rfl, rfl, rfl, get_b rfl (and_f hb), trivial⟩, [], rfl, .inl rfl⟩
            · refine go_ops hΓ 1 rfl ?_
              obtain ⟨q25, hq25, h26⟩ := bi_ok h24
              refine o_cut 5 [(1, .ptr 0 0), (3, B ((c.Kind : Int) == 1)), (32, B false), (45, B q25)] [.box 32 [I c.Kind, S c.Name, S c.Op, I c.Value.Kind, I c.Value.Number, S c.Value.Words, I c.Value.Version.1, I c.Value.Version.2.1, I c.Value.Version.2.2.1, I c.Value.Version.2.2.2, .d (.ro c.Kids.n c.Kids.xs)]] ?_ ?_
              · refine eo_gsplit rfl rfl (fun hb => ?_) (fun hb => ?_)
                · have h27 := cT hq25 hb
                  obtain ⟨l28, hl28, h29⟩ := bi_ok h27
                  refine go_ops hΓ 1 rfl ?_
                  refine eo_guard rfl ?_
                  refine eo_o rfl (op_le (pst_ok hΓ (g := .d (.ro c.Kids.n c.Kids.xs)) rfl) (G.Le.unk dk_api_Cond hl28)) ?_
                  refine go_ops hΓ 4 rfl ?_
                  obtain rfl := Option.some.inj h29
                  exact ⟨⟨rfl, rfl, rfl, rfl, trivial⟩, [], rfl, .inl rfl⟩
                · have h30 := cF hq25 hb
                  refine go_ops hΓ 6 rfl ?_
                  obtain rfl := Option.some.inj h30
                  exact ⟨⟨rfl, rfl, rfl, rfl, trivial⟩, [], rfl, .inl rfl⟩
              · refine go_ops hΓ 2 rfl ?_
                obtain rfl := Option.some.inj h26
                exact ⟨⟨rfl, rfl, rfl, trivial⟩, [], rfl, .inl rfl⟩
        · refine go_ops hΓ 3 rfl ?_
          refine j_cond rfl (fun hb => ?_) (fun hb => ?_)
          · have h31 := cT h22 hb
            refine go hΓ 8 rfl ?_
            obtain rfl := Option.some.inj h31
            exact fin_pure hΓ (.inr rfl) rfl rfl
          · have h32 := cF h22 hb
            refine go hΓ 5 rfl ?_
            refine o_cut 15 [(1, .ptr 0 0), (3, B ((c.Kind : Int) == 1)), (65, B ((!((c.Kind : Int) == 1)) && (((!((c.Name : Str) == [])) || (!((c.Op : Str) == []))) || (!(((c.Value.Kind : Int) == 0) && (((c.Value.Number : Int) == 0) && (((c.Value.Words : Str) == []) && (decide (([c.Value.Version.1, c.Value.Version.2.1, c.Value.Version.2.2.1, c.Value.Version.2.2.2] : List Int) = [0, 0, 0, 0]) && true))))))))] [.box 32 [I c.Kind, S c.Name, S c.Op, I c.Value.Kind, I c.Value.Number, S c.Value.Words, I c.Value.Version.1, I c.Value.Version.2.1, I c.Value.Version.2.2.1, I c.Value.Version.2.2.2, .d (.ro c.Kids.n c.Kids.xs)]] ?_ ?_
            · refine eo_gsplit rfl rfl (fun hb => ?_) (fun hb => ?_)
              · refine go_ops hΓ 4 rfl ?_
                refine o_cut 4 [(1, .ptr 0 0), (3, B ((c.Kind : Int) == 1)), (50, B true), (58, B ((!((c.Name : Str) == [])) || (!((c.Op : Str) == []))))] [.box 32 [I c.Kind, S c.Name, S c.Op, I c.Value.Kind, I c.Value.Number, S c.Value.Words, I c.Value.Version.1, I c.Value.Version.2.1, I c.Value.Version.2.2.1, I c.Value.Version.2.2.2, .d (.ro c.Kids.n c.Kids.xs)]] ?_ ?_
                · refine eo_gsplit rfl rfl (fun hb => ?_) (fun hb => ?_)
                  · refine go_ops hΓ 5 rfl ?_
                    exact ⟨⟨rfl, rfl, rfl, get_b rfl (or_t hb), trivial⟩, [], rfl, .inl rfl⟩
                  · refine go_ops hΓ 5 rfl ?_
                    exact ⟨⟨rfl, rfl, rfl, get_b rfl (or_f hb), trivial⟩, [], rfl, .inl rfl⟩
                · refine go_ops hΓ 1 rfl ?_
                  refine o_cut 5 [(1, .ptr 0 0), (3, B ((c.Kind : Int) == 1)), (50, B true), (64, B (((!((c.Name : Str) == [])) || (!((c.Op : Str) == []))) || (!(((c.Value.Kind : Int) == 0) && (((c.Value.Number : Int) == 0) && (((c.Value.Words : Str) == []) && (decide (([c.Value.Version.1, c.Value.Version.2.1, c.Value.Version.2.2.1, c.Value.Version.2.2.2] : List Int) = [0, 0, 0, 0]) && true)))))))] [.box 32 [I c.Kind, S c.Name, S c.Op, I c.Value.Kind, I c.Value.Number, S c.Value.Words, I c.Value.Version.1, I c.Value.Version.2.1, I c.Value.Version.2.2.1, I c.Value.Version.2.2.2, .d (.ro c.Kids.n c.Kids.xs)]] ?_ ?_
                  · refine eo_gsplit rfl rfl (fun hb => ?_) (fun hb => ?_)
                    · refine go_ops hΓ 6 rfl ?_
                      exact ⟨⟨rfl, rfl, rfl, get_b rfl (or_t hb), trivial⟩, [], rfl, .inl rfl⟩
                    · refine go_ops hΓ 2 rfl ?_
                      refine eo_guard rfl ?_
                      refine eo_build hΓ (gs := [I 0, I 0, S [], I 0, I 0, I 0, I 0]) rfl rfl rfl rfl rfl rfl rfl ?_
                      refine eo_guard rfl ?_
                      refine eo_o rfl (op_neSA hΓ [29] (b := (((c.Value.Kind : Int) == 0) && (((c.Value.Number : Int) == 0) && (((c.Value.Words : Str) == []) && (decide (([c.Value.Version.1, c.Value.Version.2.1, c.Value.Version.2.2.1, c.Value.Version.2.2.2] : List Int) = [0, 0, 0, 0]) && true))))) (by kernel_rfl) (by kernel_rfl) rfl rfl rfl) ?_
                      refine go_ops hΓ 2 rfl ?_
                      exact ⟨⟨rfl, rfl, rfl, get_b rfl (or_f hb), trivial⟩, [], rfl, .inl rfl⟩
                  · refine go_ops hΓ 2 rfl ?_
                    exact ⟨⟨rfl, rfl, get_b rfl (and_t hb), trivial⟩, [], rfl, .inl rfl⟩
              · refine go_ops hΓ 16 rfl ?_
                exact ⟨⟨rfl, rfl, get_b rfl (and_f hb), trivial⟩, [], rfl, .inl rfl⟩
            · refine go_ops hΓ 3 rfl ?_
              refine j_cond rfl (fun hb => ?_) (fun hb => ?_)
              · have h33 := cT h32 hb
                refine go hΓ 8 rfl ?_
                obtain rfl := Option.some.inj h33
                exact fin_pure hΓ (.inr rfl) rfl rfl
              · have h34 := cF h32 hb
                refine go hΓ 6 rfl ?_
                refine o_cut 4 [(1, .ptr 0 0), (3, B ((c.Kind : Int) == 1)), (74, B (((c.Kind : Int) == 3) || ((c.Kind : Int) == 4)))] [.box 32 [I c.Kind, S c.Name, S c.Op, I c.Value.Kind, I c.Value.Number, S c.Value.Words, I c.Value.Version.1, I c.Value.Version.2.1, I c.Value.Version.2.2.1, I c.Value.Version.2.2.2, .d (.ro c.Kids.n c.Kids.xs)]] ?_ ?_
                · refine eo_gsplit rfl rfl (fun hb => ?_) (fun hb => ?_)
                  · refine go_ops hΓ 5 rfl ?_
                    exact ⟨⟨rfl, rfl, get_b rfl (or_t hb), trivial⟩, [], rfl, .inl rfl⟩
                  · refine go_ops hΓ 5 rfl ?_
                    exact ⟨⟨rfl, rfl, get_b rfl (or_f hb), trivial⟩, [], rfl, .inl rfl⟩
                · refine go_ops hΓ 1 rfl ?_
                  obtain ⟨q35, hq35, h36⟩ := bi_ok h34
                  refine o_cut 5 [(1, .ptr 0 0), (3, B ((c.Kind : Int) == 1)), (80, B q35)] [.box 32 [I c.Kind, S c.Name, S c.Op, I c.Value.Kind, I c.Value.Number, S c.Value.Words, I c.Value.Version.1, I c.Value.Version.2.1, I c.Value.Version.2.2.1, I c.Value.Version.2.2.2, .d (.ro c.Kids.n c.Kids.xs)]] ?_ ?_
                  · refine eo_gsplit rfl rfl (fun hb => ?_) (fun hb => ?_)
                    · have h37 := cT hq35 hb
                      obtain ⟨l38, hl38, h39⟩ := bi_ok h37
                      refine go_ops hΓ 1 rfl ?_
                      refine eo_guard rfl ?_
                      refine eo_o rfl (op_le (pst_ok hΓ (g := .d (.ro c.Kids.n c.Kids.xs)) rfl) (G.Le.unk dk_api_Cond hl38)) ?_
                      obtain ⟨y40, hy40, h41⟩ := bi_ok h39
                      refine go_ops hΓ 1 rfl ?_
                      refine eo_guard rfl ?_
                      refine eo_callF [0] (B y40) [.box 32 [I c.Kind, S c.Name, S c.Op, I c.Value.Kind, I c.Value.Number, S c.Value.Words, I c.Value.Version.1, I c.Value.Version.2.1, I c.Value.Version.2.2.1, I c.Value.Version.2.2.2, .d (.ro c.Kids.n c.Kids.xs)]] (callable Tryz.func233 rfl rfl) (c_slices_ContainsFunc_api_Cond_api_Cond_2 hy40) rfl (Nat.le_of_ble_eq_true rfl) rfl rfl rfl rfl rfl rfl rfl rfl rfl rfl ?_
                      refine go_ops hΓ 2 rfl ?_
                      obtain rfl := Option.some.inj h41
                      exact ⟨⟨rfl, rfl, rfl, trivial⟩, [], rfl, .inl rfl⟩
                    · have h42 := cF hq35 hb
                      refine go_ops hΓ 6 rfl ?_
                      obtain rfl := Option.some.inj h42
                      exact ⟨⟨rfl, rfl, rfl, trivial⟩, [], rfl, .inl rfl⟩
                  · refine go_ops hΓ 3 rfl ?_
                    refine j_cond rfl (fun hb => ?_) (fun hb => ?_)
                    · have h43 := cT h36 hb
                      refine go hΓ 8 rfl ?_
                      obtain rfl := Option.some.inj h43
                      exact fin_pure hΓ (.inr rfl) rfl rfl
                    · have h44 := cF h36 hb
                      refine go hΓ 7 rfl ?_
                      refine j_cond rfl (fun hb => ?_) (fun hb => ?_)
                      · have h45 := cT h44 hb
                        refine go hΓ 8 rfl ?_
                        obtain rfl := Option.some.inj h45
                        exact fin_pure hΓ (.inr rfl) rfl rfl
                      · have h46 := cF h44 hb
                        obtain ⟨y47, hy47, h48⟩ := bi_ok h46
                        refine go hΓ 4 rfl ?_
                        refine eo_callP (callable Tryz.func235 rfl rfl) (c_laneref1_attrName hy47) rfl (Nat.le_of_ble_eq_true rfl) rfl rfl rfl rfl rfl ?_
                        refine go_ops hΓ 4 rfl ?_
                        refine j_cond rfl (fun hb => ?_) (fun hb => ?_)
                        · have h49 := cT h48 hb
                          refine go hΓ 8 rfl ?_
                          obtain rfl := Option.some.inj h49
                          exact fin_pure hΓ (.inr rfl) rfl rfl
                        · have h50 := cF h48 hb
                          refine go hΓ 1 rfl ?_
                          refine j_draw hmix (by kernel_rfl) ?_
                          obtain ⟨y51, hy51, h52⟩ := bi_ok h50
                          refine gl_callP (callable Tryz.func160 rfl rfl) (c_laneref1_Ops hy51) rfl rfl rfl rfl rfl rfl ?_
                          obtain ⟨y53, hy53, h54⟩ := bi_ok h52
                          refine go_draw hΓ 2 rfl ?_
                          refine gl_callP (callable Tryz.func227 rfl rfl) (c_slices_Contains_string_string hy53) rfl rfl rfl rfl rfl rfl ?_
                          refine go_draw hΓ 4 rfl ?_
                          refine j_cond rfl (fun hb => ?_) (fun hb => ?_)
                          · have h55 := cT h54 hb
                            refine go hΓ 8 rfl ?_
                            obtain rfl := Option.some.inj h55
                            exact fin_pure hΓ (.inr rfl) rfl rfl
                          · have h56 := cF h54 hb
                            obtain ⟨y57, hy57, h58⟩ := bi_ok h56
                            refine go hΓ 8 rfl ?_
                            refine eo_callP (callable Tryz.func52 rfl rfl) (c_laneref1_AttrFault hy57) rfl (Nat.le_of_ble_eq_true rfl) rfl rfl rfl rfl rfl ?_
                            refine go_ops hΓ 9 rfl ?_
                            refine j_cond rfl (fun hb => ?_) (fun hb => ?_)
                            · have h59 := cT h58 hb
                              refine go hΓ 8 rfl ?_
                              obtain rfl := Option.some.inj h59
                              exact fin_pure hΓ (.inr rfl) rfl rfl
                            · have h60 := cF h58 hb
                              refine go hΓ 10 rfl ?_
                              refine o_cut 4 [(1, .ptr 0 0), (109, B (((c.Value.Kind : Int) == 3) && (!((c.Op : Str) == [61, 61]))))] [.box 32 [I c.Kind, S c.Name, S c.Op, I c.Value.Kind, I c.Value.Number, S c.Value.Words, I c.Value.Version.1, I c.Value.Version.2.1, I c.Value.Version.2.2.1, I c.Value.Version.2.2.2, .d (.ro c.Kids.n c.Kids.xs)]] ?_ ?_
                              · refine eo_gsplit rfl rfl (fun hb => ?_) (fun hb => ?_)
                                · refine go_ops hΓ 5 rfl ?_
                                  exact ⟨⟨rfl, get_b rfl (and_t hb), trivial⟩, [], rfl, .inl rfl⟩
                                · refine go_ops hΓ 5 rfl ?_
                                  exact ⟨⟨rfl, get_b rfl (and_f hb), trivial⟩, [], rfl, .inl rfl⟩
                              · refine go_ops hΓ 1 rfl ?_
                                refine o_cut 4 [(114, B ((((c.Value.Kind : Int) == 3) && (!((c.Op : Str) == [61, 61]))) && (!((c.Op : Str) == [33, 61]))))] [.box 32 [I c.Kind, S c.Name, S c.Op, I c.Value.Kind, I c.Value.Number, S c.Value.Words, I c.Value.Version.1, I c.Value.Version.2.1, I c.Value.Version.2.2.1, I c.Value.Version.2.2.2, .d (.ro c.Kids.n c.Kids.xs)]] ?_ ?_
                                · refine eo_gsplit rfl rfl (fun hb => ?_) (fun hb => ?_)
                                  · refine go_ops hΓ 5 rfl ?_
                                    exact ⟨⟨get_b rfl (and_t hb), trivial⟩, [], rfl, .inl rfl⟩
                                  · refine go_ops hΓ 5 rfl ?_
                                    exact ⟨⟨get_b rfl (and_f hb), trivial⟩, [], rfl, .inl rfl⟩
                                · refine go_ops hΓ 2 rfl ?_
                                  refine j_cond rfl (fun hb => ?_) (fun hb => ?_)
                                  · have h61 := cT h60 hb
                                    refine go hΓ 7 rfl ?_
                                    obtain rfl := Option.some.inj h61
                                    exact fin_pure hΓ (.inr rfl) rfl rfl
                                  · have h62 := cF h60 hb
                                    refine go hΓ 8 rfl ?_
                                    obtain rfl := Option.some.inj h62
                                    exact fin_pure hΓ (.inr rfl) rfl rfl
theorem c_laneref1_partsFault {k : Nat} {c : T_api_Cond} {r : Int} (h : m_laneref1_partsFault k c = some r) : Pure Tryz.prog 100 [.agg [I c.Kind, S c.Name, S c.Op, I c.Value.Kind, I c.Value.Number, S c.Value.Words, I c.Value.Version.1, I c.Value.Version.2.1, I c.Value.Version.2.2.1, I c.Value.Version.2.2.2, .d (.ro c.Kids.n c.Kids.xs)]] (I r) := by
  induction k generalizing c r with
  | zero => unfold m_laneref1_partsFault at h; cases h
  | succ k ih0 =>
    have ih : ∀ {c : T_api_Cond} {r : Int}, m_laneref1_partsFault k c = some r → Pure Tryz.prog 100 [.agg [I c.Kind, S c.Name, S c.Op, I c.Value.Kind, I c.Value.Number, S c.Value.Words, I c.Value.Version.1, I c.Value.Version.2.1, I c.Value.Version.2.2.1, I c.Value.Version.2.2.2, .d (.ro c.Kids.n c.Kids.xs)]] (I r) := by intro c r h; first | exact ih0 h | exact ih0 _ _ h
    refine Pure.enter (Fr.of 0 _) Tryz.func100 rfl (Fr.of_ok _) rfl rfl ?_
    refine go_in ?_
    unfold m_laneref1_partsFault at h
    refine go hΓ 2 rfl ?_
    refine eo_box rfl rfl rfl rfl (Nat.le_of_ble_eq_true rfl) ?_
    obtain ⟨y1, hy1, h2⟩ := bi_ok h
    refine go_ops hΓ 7 rfl ?_
    refine eo_callP (callable Tryz.func181 rfl rfl) (c_laneref1_oneFault hy1) rfl (Nat.le_of_ble_eq_true rfl) rfl rfl rfl rfl rfl ?_
    refine go_ops hΓ 9 rfl ?_
    refine j_cond rfl (fun hb => ?_) (fun hb => ?_)
    · have h3 := cT h2 hb
      refine go hΓ 8 rfl ?_
      obtain rfl := Option.some.inj h3
      exact fin_pure hΓ (.inr rfl) rfl rfl
    · have h4 := cF h2 hb
      obtain ⟨l5, hl5, h6⟩ := bi_ok h4
      refine go hΓ 6 rfl ?_
      refine eo_o rfl (op_le (pst_ok hΓ (g := .d (.ro c.Kids.n c.Kids.xs)) rfl) (G.Le.unk dk_api_Cond hl5)) ?_
      refine go_ops hΓ 4 rfl ?_
      obtain ⟨q10, hq10, h11⟩ := bi_ok h6
      refine j_bound 13 rfl fun hb13 => ?_
      refine j_cutEZ (R := fun a12 => q10 = .go a12) (fun a12 => []) (fun a12 => [.box 32 [I c.Kind, S c.Name, S c.Op, I c.Value.Kind, I c.Value.Number, S c.Value.Words, I c.Value.Version.1, I c.Value.Version.2.1, I c.Value.Version.2.2.1, I c.Value.Version.2.2.2, .d (.ro c.Kids.n c.Kids.xs)]]) ?_ ?_
      · refine go hΓ 1 rfl ?_
        refine j_range l5 hq10 (fun i7 s8 => [(13, .d (Sl e_api_Cond l5)), (14, I (l5.length : Int)), (15, I (i7 : Int))]) (fun s8 => [.box 32 [I c.Kind, S c.Name, S c.Op, I c.Value.Kind, I c.Value.Number, S c.Value.Words, I c.Value.Version.1, I c.Value.Version.2.1, I c.Value.Version.2.2.1, I c.Value.Version.2.2.2, .d (.ro c.Kids.n c.Kids.xs)]]) ⟨⟨rfl, rfl, rfl, trivial⟩, [], rfl, .inl rfl⟩ (fun i7 x9 s8 y17 hx14 hlt hy15 hout16 => ?_) (fun s8 hgo => ?_)
        · refine go hΓ 6 rfl ?_
          refine j_condT rfl (decide_eq_true (Int.ofNat_lt.2 hlt)) ?_
          refine go hΓ 6 rfl ?_
          refine eo_o rfl (op_elemZ hΓ (enc := e_api_Cond) (getZ_nat hx14) rfl rfl rfl rfl rfl (fun _ => rfl)) ?_
          refine go_ops hΓ 1 rfl ?_
          refine eo_alloc hΓ rfl rfl rfl (Nat.le_of_ble_eq_true rfl) ?_
          refine eo_store hΓ rfl rfl rfl rfl rfl rfl rfl rfl (Nat.le_of_ble_eq_true rfl) ?_
          refine eo_hp [.box 32 [I c.Kind, S c.Name, S c.Op, I c.Value.Kind, I c.Value.Number, S c.Value.Words, I c.Value.Version.1, I c.Value.Version.2.1, I c.Value.Version.2.2.1, I c.Value.Version.2.2.2, .d (.ro c.Kids.n c.Kids.xs)], .box 32 [I x9.Kind, S x9.Name, S x9.Op, I x9.Value.Kind, I x9.Value.Number, S x9.Value.Words, I x9.Value.Version.1, I x9.Value.Version.2.1, I x9.Value.Version.2.2.1, I x9.Value.Version.2.2.2, .d (.ro x9.Kids.n x9.Kids.xs)]] rfl ?_
          obtain ⟨y18, hy18, h19⟩ := bi_ok hy15
          refine go_ops hΓ 5 rfl ?_
          refine eo_callP (callable Tryz.func100 rfl rfl) (ih hy18) rfl (Nat.le_of_ble_eq_true rfl) rfl rfl rfl rfl rfl ?_
          refine go_ops hΓ 9 rfl ?_
          refine j_cond rfl (fun hb => ?_) (fun hb => ?_)
          · have h20 := cT h19 hb
            refine go hΓ 9 rfl ?_
            obtain ⟨v21, hv21, h22⟩ := bi_ok h20
            obtain rfl := Option.some.inj h22
            obtain rfl := hout16 _ rfl
            obtain rfl := Option.some.inj h11
            refine go hΓ 4 rfl ?_
            obtain rfl := Option.some.inj hv21
            exact fin_pure hΓ (.inr rfl) rfl rfl
          · have h23 := cF h19 hb
            refine go hΓ 7 rfl ?_
            obtain rfl := Option.some.inj h23
            exact ⟨_, rfl, ⟨⟨rfl, rfl, get_eq rfl (w64_succ (Nat.lt_of_lt_of_le hlt hb13)), trivial⟩, [_], rfl, .inr ⟨HB.mk rfl, FB.mk rfl, (Nat.le_of_ble_eq_true rfl)⟩⟩⟩
        · subst hgo
          refine go hΓ 6 rfl ?_
          refine j_condF rfl (decide_eq_false (Int.lt_irrefl _)) ?_
          refine go hΓ 4 rfl ?_
          exact ⟨_, rfl, ⟨trivial, [], rfl, .inl rfl⟩⟩
      · intro a12 ha
        subst ha
        replace h11 := goI_l h11
        refine go hΓ 7 rfl ?_
        obtain rfl := Option.some.inj h11
        exact fin_pure hΓ (.inr rfl) rfl rfl
theorem c_laneref1_CondFault {k : Nat} {c : T_api_Cond} {r : Int} (h : m_laneref1_CondFault k c = some r) : Pure Tryz.prog 24 [.agg [I c.Kind, S c.Name, S c.Op, I c.Value.Kind, I c.Value.Number, S c.Value.Words, I c.Value.Version.1, I c.Value.Version.2.1, I c.Value.Version.2.2.1, I c.Value.Version.2.2.2, .d (.ro c.Kids.n c.Kids.xs)]] (I r) := by
  refine Pure.enter (Fr.of 0 _) Tryz.func24 rfl (Fr.of_ok _) rfl rfl ?_
  refine go_in ?_
  unfold m_laneref1_CondFault at h
  refine go hΓ 2 rfl ?_
  refine eo_box rfl rfl rfl rfl (Nat.le_of_ble_eq_true rfl) ?_
  obtain ⟨y1, hy1, h2⟩ := bi_ok h
  refine go_ops hΓ 7 rfl ?_
  refine eo_callP (callable Tryz.func98 rfl rfl) (c_laneref1_leaves hy1) rfl (Nat.le_of_ble_eq_true rfl) rfl rfl rfl rfl rfl ?_
  refine go_ops hΓ 2 rfl ?_
  obtain ⟨q3, hq3, h4⟩ := bi_ok h2
  refine o_cut 4 [(1, .ptr 0 0), (10, B q3)] [.box 32 [I c.Kind, S c.Name, S c.Op, I c.Value.Kind, I c.Value.Number, S c.Value.Words, I c.Value.Version.1, I c.Value.Version.2.1, I c.Value.Version.2.2.1, I c.Value.Version.2.2.2, .d (.ro c.Kids.n c.Kids.xs)]] ?_ ?_
  · refine eo_gsplit rfl rfl (fun hb => ?_) (fun hb => ?_)
    · have h5 := cT hq3 hb
      refine go_ops hΓ 5 rfl ?_
      obtain rfl := Option.some.inj h5
      exact ⟨⟨rfl, rfl, trivial⟩, [], rfl, .inl rfl⟩
    · have h6 := cF hq3 hb
      obtain ⟨y7, hy7, h8⟩ := bi_ok h6
      refine go_ops hΓ 1 rfl ?_
      refine eo_guard rfl ?_
      refine eo_callP (callable Tryz.func99 rfl rfl) (c_laneref1_deep hy7) rfl (Nat.le_of_ble_eq_true rfl) rfl rfl rfl rfl rfl ?_
      refine go_ops hΓ 3 rfl ?_
      obtain rfl := Option.some.inj h8
      exact ⟨⟨rfl, rfl, trivial⟩, [], rfl, .inl rfl⟩
  · refine go_ops hΓ 2 rfl ?_
    refine j_cond rfl (fun hb => ?_) (fun hb => ?_)
    · have h9 := cT h4 hb
      refine go hΓ 7 rfl ?_
      obtain rfl := Option.some.inj h9
      exact fin_pure hΓ (.inr rfl) rfl rfl
    · have h10 := cF h4 hb
      obtain ⟨y11, hy11, h12⟩ := bi_ok h10
      refine go hΓ 5 rfl ?_
      refine eo_callP (callable Tryz.func100 rfl rfl) (c_laneref1_partsFault hy11) rfl (Nat.le_of_ble_eq_true rfl) rfl rfl rfl rfl rfl ?_
      refine go_ops hΓ 4 rfl ?_
      obtain rfl := Option.some.inj h12
      exact fin_pure hΓ (.inr rfl) rfl rfl
set_option maxHeartbeats 8000000 in
theorem c_laneref1_CondParse {k : Nat} {text : Str} {r : T_api_Cond × Int × Int} (h : m_laneref1_CondParse k text = some r) : Pure Tryz.prog 10 [S text] (.tup [.agg [I r.1.Kind, S r.1.Name, S r.1.Op, I r.1.Value.Kind, I r.1.Value.Number, S r.1.Value.Words, I r.1.Value.Version.1, I r.1.Value.Version.2.1, I r.1.Value.Version.2.2.1, I r.1.Value.Version.2.2.2, .d (.ro r.1.Kids.n r.1.Kids.xs)], I r.2.1, I r.2.2]) := by
  refine Pure.enter (Fr.of 0 _) Tryz.func10 rfl (Fr.of_ok _) rfl rfl ?_
  refine go_in ?_
  unfold m_laneref1_CondParse at h
  refine go hΓ 2 rfl ?_
  refine eo_alloc hΓ rfl rfl rfl (Nat.le_of_ble_eq_true rfl) ?_
  refine go_ops hΓ 12 rfl ?_
  refine j_cond rfl (fun hb => ?_) (fun hb => ?_)
  · have h1 := cT h hb
    refine go hΓ 2 rfl ?_
    refine eo_build hΓ (gs := [I 0, S [], S [], I 0, I 0, S [], I 0, I 0, I 0, I 0, .d (.ro (KD.mk 0 []).n (KD.mk 0 []).xs)]) rfl rfl rfl rfl rfl rfl rfl ?_
    refine eo_store hΓ rfl rfl rfl rfl rfl rfl rfl rfl (Nat.le_of_ble_eq_true rfl) ?_
    refine eo_hp [.box 32 [I 0, S [], S [], I 0, I 0, S [], I 0, I 0, I 0, I 0, .d (.ro (KD.mk 0 []).n (KD.mk 0 []).xs)]] rfl ?_
    refine go_ops hΓ 6 rfl ?_
    obtain rfl := Option.some.inj h1
    exact fin_pure hΓ (.inr rfl) rfl rfl
  · have h2 := cF h hb
    refine go hΓ 5 rfl ?_
    refine eo_build hΓ (gs := [S text, I 0, S [], I 0, S [], I 0, I 0, S [], I 0, I 0, I 0, I 0, I (-1)]) rfl rfl rfl rfl rfl rfl rfl ?_
    refine eo_box rfl rfl rfl rfl (Nat.le_of_ble_eq_true rfl) ?_
    obtain ⟨y3, hy3, h4⟩ := bi_ok h2
    refine go_ops hΓ 6 rfl ?_
    refine eo_callF [1] (.tup []) [.box 32 [I 0, S [], S [], I 0, I 0, S [], I 0, I 0, I 0, I 0, .d (.ro (KD.mk 0 []).n (KD.mk 0 []).xs)], .box 136 [S y3.s, I y3.v_at, S y3.v_next.kind, I y3.v_next.v_at, S y3.v_next.name, I y3.v_next.value.Kind, I y3.v_next.value.Number, S y3.v_next.value.Words, I y3.v_next.value.Version.1, I y3.v_next.value.Version.2.1, I y3.v_next.value.Version.2.2.1, I y3.v_next.value.Version.2.2.2, I y3.fault]] (callable Tryz.func85 rfl rfl) (c_laneref1_condReader_scan hy3) rfl (Nat.le_of_ble_eq_true rfl) rfl rfl rfl rfl rfl rfl rfl rfl rfl rfl ?_
    obtain ⟨y5, hy5, h6⟩ := bi_ok h4
    refine go_ops hΓ 5 rfl ?_
    refine eo_callF [1] (.agg [I y5.1.Kind, S y5.1.Name, S y5.1.Op, I y5.1.Value.Kind, I y5.1.Value.Number, S y5.1.Value.Words, I y5.1.Value.Version.1, I y5.1.Value.Version.2.1, I y5.1.Value.Version.2.2.1, I y5.1.Value.Version.2.2.2, .d (.ro y5.1.Kids.n y5.1.Kids.xs)]) [.box 32 [I 0, S [], S [], I 0, I 0, S [], I 0, I 0, I 0, I 0, .d (.ro (KD.mk 0 []).n (KD.mk 0 []).xs)], .box 136 [S y5.2.s, I y5.2.v_at, S y5.2.v_next.kind, I y5.2.v_next.v_at, S y5.2.v_next.name, I y5.2.v_next.value.Kind, I y5.2.v_next.value.Number, S y5.2.v_next.value.Words, I y5.2.v_next.value.Version.1, I y5.2.v_next.value.Version.2.1, I y5.2.v_next.value.Version.2.2.1, I y5.2.v_next.value.Version.2.2.2, I y5.2.fault]] (callable Tryz.func86 rfl rfl) (c_laneref1_condReader_cond hy5) rfl (Nat.le_of_ble_eq_true rfl) rfl rfl rfl rfl rfl rfl rfl rfl rfl rfl ?_
    refine eo_alloc hΓ rfl rfl rfl (Nat.le_of_ble_eq_true rfl) ?_
    refine eo_store hΓ rfl rfl rfl rfl rfl rfl rfl rfl (Nat.le_of_ble_eq_true rfl) ?_
    refine eo_hp [.box 32 [I 0, S [], S [], I 0, I 0, S [], I 0, I 0, I 0, I 0, .d (.ro (KD.mk 0 []).n (KD.mk 0 []).xs)], .box 136 [S y5.2.s, I y5.2.v_at, S y5.2.v_next.kind, I y5.2.v_next.v_at, S y5.2.v_next.name, I y5.2.v_next.value.Kind, I y5.2.v_next.value.Number, S y5.2.v_next.value.Words, I y5.2.v_next.value.Version.1, I y5.2.v_next.value.Version.2.1, I y5.2.v_next.value.Version.2.2.1, I y5.2.v_next.value.Version.2.2.2, I y5.2.fault], .box 32 [I y5.1.Kind, S y5.1.Name, S y5.1.Op, I y5.1.Value.Kind, I y5.1.Value.Number, S y5.1.Value.Words, I y5.1.Value.Version.1, I y5.1.Value.Version.2.1, I y5.1.Value.Version.2.2.1, I y5.1.Value.Version.2.2.2, .d (.ro y5.1.Kids.n y5.1.Kids.xs)]] rfl ?_
    refine go_ops hΓ 11 rfl ?_
    refine o_cut 17 [(2, .ptr 0 0), (5, .ptr 1 0), (6, .ptr 2 0), (41, B ((decide ((y5.2.fault : Int) < 0)) && ((!((y5.2.v_next.kind : Str) == [])) || (decide ((y5.2.v_next.v_at : Int) < (text.length : Int))))))] [.box 32 [I 0, S [], S [], I 0, I 0, S [], I 0, I 0, I 0, I 0, .d (.ro (KD.mk 0 []).n (KD.mk 0 []).xs)], .box 136 [S y5.2.s, I y5.2.v_at, S y5.2.v_next.kind, I y5.2.v_next.v_at, S y5.2.v_next.name, I y5.2.v_next.value.Kind, I y5.2.v_next.value.Number, S y5.2.v_next.value.Words, I y5.2.v_next.value.Version.1, I y5.2.v_next.value.Version.2.1, I y5.2.v_next.value.Version.2.2.1, I y5.2.v_next.value.Version.2.2.2, I y5.2.fault], .box 32 [I y5.1.Kind, S y5.1.Name, S y5.1.Op, I y5.1.Value.Kind, I y5.1.Value.Number, S y5.1.Value.Words, I y5.1.Value.Version.1, I y5.1.Value.Version.2.1, I y5.1.Value.Version.2.2.1, I y5.1.Value.Version.2.2.2, .d (.ro y5.1.Kids.n y5.1.Kids.xs)]] ?_ ?_
    · refine eo_gsplit rfl rfl (fun hb => ?_) (fun hb => ?_)
      · refine go_ops hΓ 7 rfl ?_
        refine o_cut 9 [(2, .ptr 0 0), (5, .ptr 1 0), (6, .ptr 2 0), (24, B true), (40, B ((!((y5.2.v_next.kind : Str) == [])) || (decide ((y5.2.v_next.v_at : Int) < (text.length : Int)))))] [.box 32 [I 0, S [], S [], I 0, I 0, S [], I 0, I 0, I 0, I 0, .d (.ro (KD.mk 0 []).n (KD.mk 0 []).xs)], .box 136 [S y5.2.s, I y5.2.v_at, S y5.2.v_next.kind, I y5.2.v_next.v_at, S y5.2.v_next.name, I y5.2.v_next.value.Kind, I y5.2.v_next.value.Number, S y5.2.v_next.value.Words, I y5.2.v_next.value.Version.1, I y5.2.v_next.value.Version.2.1, I y5.2.v_next.value.Version.2.2.1, I y5.2.v_next.value.Version.2.2.2, I y5.2.fault], .box 32 [I y5.1.Kind, S y5.1.Name, S y5.1.Op, I y5.1.Value.Kind, I y5.1.Value.Number, S y5.1.Value.Words, I y5.1.Value.Version.1, I y5.1.Value.Version.2.1, I y5.1.Value.Version.2.2.1, I y5.1.Value.Version.2.2.2, .d (.ro y5.1.Kids.n y5.1.Kids.xs)]] ?_ ?_
        · refine eo_gsplit rfl rfl (fun hb => ?_) (fun hb => ?_)
          · refine go_ops hΓ 10 rfl ?_
            exact ⟨⟨rfl, rfl, rfl, rfl, get_b rfl (or_t hb), trivial⟩, [], rfl, .inl rfl⟩
          · refine go_ops hΓ 10 rfl ?_
            exact ⟨⟨rfl, rfl, rfl, rfl, get_b rfl (or_f hb), trivial⟩, [], rfl, .inl rfl⟩
        · refine go_ops hΓ 2 rfl ?_
          exact ⟨⟨rfl, rfl, rfl, get_b rfl (and_t hb), trivial⟩, [], rfl, .inl rfl⟩
      · refine go_ops hΓ 18 rfl ?_
        exact ⟨⟨rfl, rfl, rfl, get_b rfl (and_f hb), trivial⟩, [], rfl, .inl rfl⟩
    · obtain ⟨q7, hq7, h8⟩ := bi_ok h6
      refine go_ops hΓ 2 rfl ?_
      refine j_cutNZ [(2, .ptr 0 0), (5, .ptr 1 0), (6, .ptr 2 0)] [.box 32 [I 0, S [], S [], I 0, I 0, S [], I 0, I 0, I 0, I 0, .d (.ro (KD.mk 0 []).n (KD.mk 0 []).xs)], .box 136 [S q7.s, I q7.v_at, S q7.v_next.kind, I q7.v_next.v_at, S q7.v_next.name, I q7.v_next.value.Kind, I q7.v_next.value.Number, S q7.v_next.value.Words, I q7.v_next.value.Version.1, I q7.v_next.value.Version.2.1, I q7.v_next.value.Version.2.2.1, I q7.v_next.value.Version.2.2.2, I q7.fault], .box 32 [I y5.1.Kind, S y5.1.Name, S y5.1.Op, I y5.1.Value.Kind, I y5.1.Value.Number, S y5.1.Value.Words, I y5.1.Value.Version.1, I y5.1.Value.Version.2.1, I y5.1.Value.Version.2.2.1, I y5.1.Value.Version.2.2.2, .d (.ro y5.1.Kids.n y5.1.Kids.xs)]] ?_ ?_
      · refine j_cond rfl (fun hb => ?_) (fun hb => ?_)
        · have h9 := cT hq7 hb
          obtain ⟨y10, hy10, h11⟩ := bi_ok h9
          refine go hΓ 2 rfl ?_
          refine eo_callF [1] (.agg [I y10.1.Kind, S y10.1.Name, S y10.1.Op, I y10.1.Value.Kind, I y10.1.Value.Number, S y10.1.Value.Words, I y10.1.Value.Version.1, I y10.1.Value.Version.2.1, I y10.1.Value.Version.2.2.1, I y10.1.Value.Version.2.2.2, .d (.ro y10.1.Kids.n y10.1.Kids.xs)]) [.box 32 [I 0, S [], S [], I 0, I 0, S [], I 0, I 0, I 0, I 0, .d (.ro (KD.mk 0 []).n (KD.mk 0 []).xs)], .box 136 [S y10.2.s, I y10.2.v_at, S y10.2.v_next.kind, I y10.2.v_next.v_at, S y10.2.v_next.name, I y10.2.v_next.value.Kind, I y10.2.v_next.value.Number, S y10.2.v_next.value.Words, I y10.2.v_next.value.Version.1, I y10.2.v_next.value.Version.2.1, I y10.2.v_next.value.Version.2.2.1, I y10.2.v_next.value.Version.2.2.2, I y10.2.fault], .box 32 [I y5.1.Kind, S y5.1.Name, S y5.1.Op, I y5.1.Value.Kind, I y5.1.Value.Number, S y5.1.Value.Words, I y5.1.Value.Version.1, I y5.1.Value.Version.2.1, I y5.1.Value.Version.2.2.1, I y5.1.Value.Version.2.2.2, .d (.ro y5.1.Kids.n y5.1.Kids.xs)]] (callable Tryz.func87 rfl rfl) (c_laneref1_condReader_wrong hy10) rfl (Nat.le_of_ble_eq_true rfl) rfl rfl rfl rfl rfl rfl rfl rfl rfl rfl ?_
          refine go_ops hΓ 1 rfl ?_
          obtain rfl := Option.some.inj h11
          exact ⟨⟨rfl, rfl, rfl, trivial⟩, [], rfl, .inl rfl⟩
        · have h12 := cF hq7 hb
          refine go hΓ 1 rfl ?_
          obtain rfl := Option.some.inj h12
          exact ⟨⟨rfl, rfl, rfl, trivial⟩, [], rfl, .inl rfl⟩
      · refine go hΓ 11 rfl ?_
        refine j_cond rfl (fun hb => ?_) (fun hb => ?_)
        · have h13 := cT h8 hb
          refine go hΓ 1 rfl ?_
          refine j_drawE [.dead, .box 136 [S q7.s, I q7.v_at, S q7.v_next.kind, I q7.v_next.v_at, S q7.v_next.name, I q7.v_next.value.Kind, I q7.v_next.value.Number, S q7.v_next.value.Words, I q7.v_next.value.Version.1, I q7.v_next.value.Version.2.1, I q7.v_next.value.Version.2.2.1, I q7.v_next.value.Version.2.2.2, I q7.fault]] [4] [5] [] hmix (by kernel_rfl) (by kernel_rfl) ⟨rfl, trivial⟩ (Nat.le_of_ble_eq_true rfl) ?_
          refine ge_q rfl (.inl rfl) (fun _ _ => qte_of_qt (qt_p (op_build hΓ (gs := [I 0, S [], S [], I 0, I 0, S [], I 0, I 0, I 0, I 0, .d (.ro (KD.mk 0 []).n (KD.mk 0 []).xs)]) rfl rfl rfl rfl rfl rfl))) ?_
          refine go_E hΓ 4 rfl ?_
          refine ge_h0 [.box 32 [I 0, S [], S [], I 0, I 0, S [], I 0, I 0, I 0, I 0, .d (.ro (KD.mk 0 []).n (KD.mk 0 []).xs)], .box 136 [S q7.s, I q7.v_at, S q7.v_next.kind, I q7.v_next.v_at, S q7.v_next.name, I q7.v_next.value.Kind, I q7.v_next.value.Number, S q7.v_next.value.Words, I q7.v_next.value.Version.1, I q7.v_next.value.Version.2.1, I q7.v_next.value.Version.2.2.1, I q7.v_next.value.Version.2.2.2, I q7.fault], .box 32 [I y5.1.Kind, S y5.1.Name, S y5.1.Op, I y5.1.Value.Kind, I y5.1.Value.Number, S y5.1.Value.Words, I y5.1.Value.Version.1, I y5.1.Value.Version.2.1, I y5.1.Value.Version.2.2.1, I y5.1.Value.Version.2.2.2, .d (.ro y5.1.Kids.n y5.1.Kids.xs)]] rfl rfl (st_st ⟨rfl, trivial⟩) (qte_u (opu_store2 hΓ rfl rfl rfl rfl rfl rfl rfl rfl rfl)) ?_
          refine go_E hΓ 2 rfl ?_
          refine ge_fin ?_
          refine go hΓ 3 rfl ?_
          obtain rfl := Option.some.inj h13
          exact fin_pure hΓ (.inr rfl) rfl rfl
        · have h14 := cF h8 hb
          obtain ⟨y15, hy15, h16⟩ := bi_ok h14
          refine go hΓ 6 rfl ?_
          refine eo_callP (callable Tryz.func24 rfl rfl) (c_laneref1_CondFault hy15) rfl (Nat.le_of_ble_eq_true rfl) rfl rfl rfl rfl rfl ?_
          refine go_ops hΓ 9 rfl ?_
          refine j_cond rfl (fun hb => ?_) (fun hb => ?_)
          · have h17 := cT h16 hb
            refine go hΓ 2 rfl ?_
            refine eo_build hΓ (gs := [I 0, S [], S [], I 0, I 0, S [], I 0, I 0, I 0, I 0, .d (.ro (KD.mk 0 []).n (KD.mk 0 []).xs)]) rfl rfl rfl rfl rfl rfl rfl ?_
            refine go_ops hΓ 1 rfl ?_
            refine eo_store hΓ rfl rfl rfl rfl rfl rfl rfl rfl (Nat.le_of_ble_eq_true rfl) ?_
            refine eo_hp [.box 32 [I 0, S [], S [], I 0, I 0, S [], I 0, I 0, I 0, I 0, .d (.ro (KD.mk 0 []).n (KD.mk 0 []).xs)], .box 136 [S q7.s, I q7.v_at, S q7.v_next.kind, I q7.v_next.v_at, S q7.v_next.name, I q7.v_next.value.Kind, I q7.v_next.value.Number, S q7.v_next.value.Words, I q7.v_next.value.Version.1, I q7.v_next.value.Version.2.1, I q7.v_next.value.Version.2.2.1, I q7.v_next.value.Version.2.2.2, I q7.fault], .box 32 [I y5.1.Kind, S y5.1.Name, S y5.1.Op, I y5.1.Value.Kind, I y5.1.Value.Number, S y5.1.Value.Words, I y5.1.Value.Version.1, I y5.1.Value.Version.2.1, I y5.1.Value.Version.2.2.1, I y5.1.Value.Version.2.2.2, .d (.ro y5.1.Kids.n y5.1.Kids.xs)]] rfl ?_
            refine go_ops hΓ 6 rfl ?_
            obtain rfl := Option.some.inj h17
            exact fin_pure hΓ (.inr rfl) rfl rfl
          · have h18 := cF h16 hb
            refine go hΓ 5 rfl ?_
            refine eo_store hΓ rfl rfl rfl rfl rfl rfl rfl rfl (Nat.le_of_ble_eq_true rfl) ?_
            refine eo_hp [.box 32 [I y5.1.Kind, S y5.1.Name, S y5.1.Op, I y5.1.Value.Kind, I y5.1.Value.Number, S y5.1.Value.Words, I y5.1.Value.Version.1, I y5.1.Value.Version.2.1, I y5.1.Value.Version.2.2.1, I y5.1.Value.Version.2.2.2, .d (.ro y5.1.Kids.n y5.1.Kids.xs)], .box 136 [S q7.s, I q7.v_at, S q7.v_next.kind, I q7.v_next.v_at, S q7.v_next.name, I q7.v_next.value.Kind, I q7.v_next.value.Number, S q7.v_next.value.Words, I q7.v_next.value.Version.1, I q7.v_next.value.Version.2.1, I q7.v_next.value.Version.2.2.1, I q7.v_next.value.Version.2.2.2, I q7.fault], .box 32 [I y5.1.Kind, S y5.1.Name, S y5.1.Op, I y5.1.Value.Kind, I y5.1.Value.Number, S y5.1.Value.Words, I y5.1.Value.Version.1, I y5.1.Value.Version.2.1, I y5.1.Value.Version.2.2.1, I y5.1.Value.Version.2.2.2, .d (.ro y5.1.Kids.n y5.1.Kids.xs)]] rfl ?_
            refine go_ops hΓ 5 rfl ?_
            obtain rfl := Option.some.inj h18
            exact fin_pure hΓ (.inr rfl) rfl rfl
end Go.Proofs.YthhdojhbohfmnaaGreatDoor
