/-
  The functions compute their models.
-/
import Derived.Test.YtnjnmkpgedkffaaXTM
import Derived.Test.YtnjnmkpgedkffaaGt
import Derived.Test.YtnjnmkpgedkffaaStrC
import Derived.Test.YtnjnmkpgedkffaaXTW1
set_option linter.unusedVariables false
set_option linter.unusedSimpArgs false
set_option maxRecDepth 100000
namespace Go.Proofs.Ytnjnmkpgedkffaa
open Go.Gk

theorem c_slices_IndexFunc_laneref1_sent_laneref1_sent {s : List (Tl T_laneref1_sent)} {f : T_laneref1_sent} {f2 : T_laneref1_Translator} {r : Int} (h : m_slices_IndexFunc_laneref1_sent_laneref1_sent s f f2 = some r) : EC Try.prog 73 [.sl 0 s.length, .fn (.func 74) [] [.ptr 1 0, .ptr 4 0]] [.row 74 1 s.length (s.flatMap (eT 93 10 e_laneref1_sent)), .box 93 [I f.v_at, B f.v_from.Addr.Six, .d (.v (.int .u64 f.v_from.Addr.Hi)), .d (.v (.int .u64 f.v_from.Addr.Lo)), I f.v_from.Port, B f.to.Addr.Six, .d (.v (.int .u64 f.to.Addr.Hi)), .d (.v (.int .u64 f.to.Addr.Lo)), I f.to.Port, I f.port], .row 93 10 f2.out.length (f2.out.flatMap e_laneref1_sent), .box 76 [I f2.n.Maps, I f2.n.Lets, I f2.n.Timeout, I f2.n.First, I f2.n.Ports, B f2.n.Outer.Six, .d (.v (.int .u64 f2.n.Outer.Hi)), .d (.v (.int .u64 f2.n.Outer.Lo)), .sl 2 f2.out.length, I f2.last, I f2.now], .box 38 [.ptr 3 0]] fun g hp' => g = I r ∧ hp' = [.row 74 1 s.length (s.flatMap (eT 93 10 e_laneref1_sent)), .box 93 [I f.v_at, B f.v_from.Addr.Six, .d (.v (.int .u64 f.v_from.Addr.Hi)), .d (.v (.int .u64 f.v_from.Addr.Lo)), I f.v_from.Port, B f.to.Addr.Six, .d (.v (.int .u64 f.to.Addr.Hi)), .d (.v (.int .u64 f.to.Addr.Lo)), I f.to.Port, I f.port], .row 93 10 f2.out.length (f2.out.flatMap e_laneref1_sent), .box 76 [I f2.n.Maps, I f2.n.Lets, I f2.n.Timeout, I f2.n.First, I f2.n.Ports, B f2.n.Outer.Six, .d (.v (.int .u64 f2.n.Outer.Hi)), .d (.v (.int .u64 f2.n.Outer.Lo)), .sl 2 f2.out.length, I f2.last, I f2.now], .box 38 [.ptr 3 0]] := by
  refine ec_enter (Fr.of 0 _) Try.func73 rfl (Fr.of_ok _) (Nat.le_of_ble_eq_true rfl) fun _ => ?_
  refine go_in ?_
  unfold m_slices_IndexFunc_laneref1_sent_laneref1_sent at h
  refine go hΓ 13 rfl ?_
  obtain ⟨q4, hq4, h5⟩ := bi_ok h
  obtain ⟨hb7, h8⟩ := gd_ok hq4
  replace hb7 := of_decide_eq_true hb7
  refine j_cutEZ (R := fun a6 => q4 = .go a6) (fun a6 => []) (fun a6 => [.row 74 1 s.length (s.flatMap (eT 93 10 e_laneref1_sent)), .box 93 [I f.v_at, B f.v_from.Addr.Six, .d (.v (.int .u64 f.v_from.Addr.Hi)), .d (.v (.int .u64 f.v_from.Addr.Lo)), I f.v_from.Port, B f.to.Addr.Six, .d (.v (.int .u64 f.to.Addr.Hi)), .d (.v (.int .u64 f.to.Addr.Lo)), I f.to.Port, I f.port], .row 93 10 f2.out.length (f2.out.flatMap e_laneref1_sent), .box 76 [I f2.n.Maps, I f2.n.Lets, I f2.n.Timeout, I f2.n.First, I f2.n.Ports, B f2.n.Outer.Six, .d (.v (.int .u64 f2.n.Outer.Hi)), .d (.v (.int .u64 f2.n.Outer.Lo)), .sl 2 f2.out.length, I f2.last, I f2.now], .box 38 [.ptr 3 0]]) ?_ ?_
  · refine go hΓ 1 rfl ?_
    refine j_rangeI h8 (fun i1 s2 => [(0, .sl 0 s.length), (1, .fn (.func 74) [] [.ptr 1 0, .ptr 4 0]), (7, I (s.length : Int)), (8, I (i1 : Int))]) (fun s2 => [.row 74 1 s.length (s.flatMap (eT 93 10 e_laneref1_sent)), .box 93 [I f.v_at, B f.v_from.Addr.Six, .d (.v (.int .u64 f.v_from.Addr.Hi)), .d (.v (.int .u64 f.v_from.Addr.Lo)), I f.v_from.Port, B f.to.Addr.Six, .d (.v (.int .u64 f.to.Addr.Hi)), .d (.v (.int .u64 f.to.Addr.Lo)), I f.to.Port, I f.port], .row 93 10 f2.out.length (f2.out.flatMap e_laneref1_sent), .box 76 [I f2.n.Maps, I f2.n.Lets, I f2.n.Timeout, I f2.n.First, I f2.n.Ports, B f2.n.Outer.Six, .d (.v (.int .u64 f2.n.Outer.Hi)), .d (.v (.int .u64 f2.n.Outer.Lo)), .sl 2 f2.out.length, I f2.last, I f2.now], .box 38 [.ptr 3 0]]) ⟨⟨rfl, rfl, rfl, rfl, trivial⟩, [], rfl, .inl rfl⟩ (fun i1 s2 y12 hlt hy10 hout11 => ?_) (fun s2 hgo hge => ?_)
    · refine go hΓ 6 rfl ?_
      refine j_condT rfl (decide_eq_true hlt) ?_
      obtain ⟨x13, hx13, h14⟩ := bi_ok hy10
      have hj15 := getZ_at hx13
      refine go hΓ 15 rfl ?_
      refine eo_o rfl (op_elemRowZ hΓ hx13 rfl rfl rfl rfl rfl rfl) ?_
      refine eo_o rfl (op_le (op_loadRowZ hΓ (enc := (eT 93 10 e_laneref1_sent)) ((i1 : Int).toNat) 0 hj15 rfl rfl rfl rfl (fun _ => rfl) (g := .d (Slt 93 10 e_laneref1_sent x13)) rfl) G.Le.unt) ?_
      obtain ⟨y16, hy16, h17⟩ := bi_ok h14
      refine eo_callF [1, 2, 3, 4] (B y16) [.row 74 1 s.length (s.flatMap (eT 93 10 e_laneref1_sent)), .box 93 [I f.v_at, B f.v_from.Addr.Six, .d (.v (.int .u64 f.v_from.Addr.Hi)), .d (.v (.int .u64 f.v_from.Addr.Lo)), I f.v_from.Port, B f.to.Addr.Six, .d (.v (.int .u64 f.to.Addr.Hi)), .d (.v (.int .u64 f.to.Addr.Lo)), I f.to.Port, I f.port], .row 93 10 f2.out.length (f2.out.flatMap e_laneref1_sent), .box 76 [I f2.n.Maps, I f2.n.Lets, I f2.n.Timeout, I f2.n.First, I f2.n.Ports, B f2.n.Outer.Six, .d (.v (.int .u64 f2.n.Outer.Hi)), .d (.v (.int .u64 f2.n.Outer.Lo)), .sl 2 f2.out.length, I f2.last, I f2.now], .box 38 [.ptr 3 0]] (callable Try.func74 rfl rfl) (c_laneref1_Translator_lasting_1 hy16) rfl (Nat.le_of_ble_eq_true rfl) rfl rfl rfl rfl rfl rfl rfl rfl rfl rfl ?_
      refine go_ops hΓ 2 rfl ?_
      refine j_cond rfl (fun hb => ?_) (fun hb => ?_)
      · have h18 := cT h17 hb
        refine go hΓ 9 rfl ?_
        obtain ⟨v19, hv19, h20⟩ := bi_ok h18
        obtain rfl := Option.some.inj h20
        obtain rfl := hout11 _ rfl
        obtain rfl := Option.some.inj h5
        refine go hΓ 4 rfl ?_
        obtain rfl := Option.some.inj hv19
        exact fin_objs hΓ [] (.inr rfl) rfl rfl rfl rfl (.inl rfl)
      · have h21 := cF h17 hb
        refine go hΓ 7 rfl ?_
        obtain rfl := Option.some.inj h21
        exact ⟨_, rfl, ⟨⟨rfl, rfl, rfl, get_eq rfl (w64_succ (by omega)), trivial⟩, [], rfl, .inl rfl⟩⟩
    · subst hgo
      refine go hΓ 6 rfl ?_
      refine j_condF rfl (decide_eq_false hge) ?_
      refine go hΓ 4 rfl ?_
      exact ⟨_, rfl, ⟨trivial, [], rfl, .inl rfl⟩⟩
  · intro a6 ha
    subst ha
    replace h5 := goI_l h5
    refine go hΓ 7 rfl ?_
    obtain rfl := Option.some.inj h5
    exact fin_objs hΓ [] (.inr rfl) rfl rfl rfl rfl (.inl rfl)

theorem c_laneref1_Translator_lasting_2 {e : List T_laneref1_sent} {x : Int} {x2 : T_laneref1_Translator} {r : Bool} (h : m_laneref1_Translator_lasting_2 e x x2 = some r) : EC Try.prog 76 [.d (Sl e_laneref1_sent e), .ptr 0 0, .ptr 3 0] [.box 3 [I x], .row 93 10 x2.out.length (x2.out.flatMap e_laneref1_sent), .box 76 [I x2.n.Maps, I x2.n.Lets, I x2.n.Timeout, I x2.n.First, I x2.n.Ports, B x2.n.Outer.Six, .d (.v (.int .u64 x2.n.Outer.Hi)), .d (.v (.int .u64 x2.n.Outer.Lo)), .sl 1 x2.out.length, I x2.last, I x2.now], .box 38 [.ptr 2 0]] fun g hp' => g = B r ∧ hp' = [.box 3 [I x], .row 93 10 x2.out.length (x2.out.flatMap e_laneref1_sent), .box 76 [I x2.n.Maps, I x2.n.Lets, I x2.n.Timeout, I x2.n.First, I x2.n.Ports, B x2.n.Outer.Six, .d (.v (.int .u64 x2.n.Outer.Hi)), .d (.v (.int .u64 x2.n.Outer.Lo)), .sl 1 x2.out.length, I x2.last, I x2.now], .box 38 [.ptr 2 0]] := by
  refine ec_enter (Fr.of 0 _) Try.func76 rfl (Fr.of_ok _) (Nat.le_of_ble_eq_true rfl) fun _ => ?_
  refine go_in ?_
  unfold m_laneref1_Translator_lasting_2 at h
  refine go hΓ 6 rfl ?_
  refine j_draw hmix (by kernel_rfl) ?_
  obtain ⟨x1, hx1, h2⟩ := bi_ok h
  refine go hΓ 5 rfl ?_
  refine gl_o rfl (op_elemZ hΓ (enc := e_laneref1_sent) hx1 rfl rfl rfl rfl rfl (fun _ => rfl)) ?_
  refine go_draw hΓ 13 rfl ?_
  obtain rfl := Option.some.inj h2
  exact fin_objs hΓ [] (.inr rfl) rfl rfl rfl rfl (.inl rfl)

theorem c_slices_IndexFunc_laneref1_sent_laneref1_sent_2 {s : List (Tl T_laneref1_sent)} {f : Int} {f2 : T_laneref1_Translator} {r : Int} (h : m_slices_IndexFunc_laneref1_sent_laneref1_sent_2 s f f2 = some r) : EC Try.prog 73 [.sl 0 s.length, .fn (.func 76) [] [.ptr 1 0, .ptr 4 0]] [.row 74 1 s.length (s.flatMap (eT 93 10 e_laneref1_sent)), .box 3 [I f], .row 93 10 f2.out.length (f2.out.flatMap e_laneref1_sent), .box 76 [I f2.n.Maps, I f2.n.Lets, I f2.n.Timeout, I f2.n.First, I f2.n.Ports, B f2.n.Outer.Six, .d (.v (.int .u64 f2.n.Outer.Hi)), .d (.v (.int .u64 f2.n.Outer.Lo)), .sl 2 f2.out.length, I f2.last, I f2.now], .box 38 [.ptr 3 0]] fun g hp' => g = I r ∧ hp' = [.row 74 1 s.length (s.flatMap (eT 93 10 e_laneref1_sent)), .box 3 [I f], .row 93 10 f2.out.length (f2.out.flatMap e_laneref1_sent), .box 76 [I f2.n.Maps, I f2.n.Lets, I f2.n.Timeout, I f2.n.First, I f2.n.Ports, B f2.n.Outer.Six, .d (.v (.int .u64 f2.n.Outer.Hi)), .d (.v (.int .u64 f2.n.Outer.Lo)), .sl 2 f2.out.length, I f2.last, I f2.now], .box 38 [.ptr 3 0]] := by
  refine ec_enter (Fr.of 0 _) Try.func73 rfl (Fr.of_ok _) (Nat.le_of_ble_eq_true rfl) fun _ => ?_
  refine go_in ?_
  unfold m_slices_IndexFunc_laneref1_sent_laneref1_sent_2 at h
  refine go hΓ 13 rfl ?_
  obtain ⟨q4, hq4, h5⟩ := bi_ok h
  obtain ⟨hb7, h8⟩ := gd_ok hq4
  replace hb7 := of_decide_eq_true hb7
  refine j_cutEZ (R := fun a6 => q4 = .go a6) (fun a6 => []) (fun a6 => [.row 74 1 s.length (s.flatMap (eT 93 10 e_laneref1_sent)), .box 3 [I f], .row 93 10 f2.out.length (f2.out.flatMap e_laneref1_sent), .box 76 [I f2.n.Maps, I f2.n.Lets, I f2.n.Timeout, I f2.n.First, I f2.n.Ports, B f2.n.Outer.Six, .d (.v (.int .u64 f2.n.Outer.Hi)), .d (.v (.int .u64 f2.n.Outer.Lo)), .sl 2 f2.out.length, I f2.last, I f2.now], .box 38 [.ptr 3 0]]) ?_ ?_
  · refine go hΓ 1 rfl ?_
    refine j_rangeI h8 (fun i1 s2 => [(0, .sl 0 s.length), (1, .fn (.func 76) [] [.ptr 1 0, .ptr 4 0]), (7, I (s.length : Int)), (8, I (i1 : Int))]) (fun s2 => [.row 74 1 s.length (s.flatMap (eT 93 10 e_laneref1_sent)), .box 3 [I f], .row 93 10 f2.out.length (f2.out.flatMap e_laneref1_sent), .box 76 [I f2.n.Maps, I f2.n.Lets, I f2.n.Timeout, I f2.n.First, I f2.n.Ports, B f2.n.Outer.Six, .d (.v (.int .u64 f2.n.Outer.Hi)), .d (.v (.int .u64 f2.n.Outer.Lo)), .sl 2 f2.out.length, I f2.last, I f2.now], .box 38 [.ptr 3 0]]) ⟨⟨rfl, rfl, rfl, rfl, trivial⟩, [], rfl, .inl rfl⟩ (fun i1 s2 y12 hlt hy10 hout11 => ?_) (fun s2 hgo hge => ?_)
    · refine go hΓ 6 rfl ?_
      refine j_condT rfl (decide_eq_true hlt) ?_
      obtain ⟨x13, hx13, h14⟩ := bi_ok hy10
      have hj15 := getZ_at hx13
      refine go hΓ 15 rfl ?_
      refine eo_o rfl (op_elemRowZ hΓ hx13 rfl rfl rfl rfl rfl rfl) ?_
      refine eo_o rfl (op_le (op_loadRowZ hΓ (enc := (eT 93 10 e_laneref1_sent)) ((i1 : Int).toNat) 0 hj15 rfl rfl rfl rfl (fun _ => rfl) (g := .d (Slt 93 10 e_laneref1_sent x13)) rfl) G.Le.unt) ?_
      obtain ⟨y16, hy16, h17⟩ := bi_ok h14
      refine eo_callF [1, 2, 3, 4] (B y16) [.row 74 1 s.length (s.flatMap (eT 93 10 e_laneref1_sent)), .box 3 [I f], .row 93 10 f2.out.length (f2.out.flatMap e_laneref1_sent), .box 76 [I f2.n.Maps, I f2.n.Lets, I f2.n.Timeout, I f2.n.First, I f2.n.Ports, B f2.n.Outer.Six, .d (.v (.int .u64 f2.n.Outer.Hi)), .d (.v (.int .u64 f2.n.Outer.Lo)), .sl 2 f2.out.length, I f2.last, I f2.now], .box 38 [.ptr 3 0]] (callable Try.func76 rfl rfl) (c_laneref1_Translator_lasting_2 hy16) rfl (Nat.le_of_ble_eq_true rfl) rfl rfl rfl rfl rfl rfl rfl rfl rfl rfl ?_
      refine go_ops hΓ 2 rfl ?_
      refine j_cond rfl (fun hb => ?_) (fun hb => ?_)
      · have h18 := cT h17 hb
        refine go hΓ 9 rfl ?_
        obtain ⟨v19, hv19, h20⟩ := bi_ok h18
        obtain rfl := Option.some.inj h20
        obtain rfl := hout11 _ rfl
        obtain rfl := Option.some.inj h5
        refine go hΓ 4 rfl ?_
        obtain rfl := Option.some.inj hv19
        exact fin_objs hΓ [] (.inr rfl) rfl rfl rfl rfl (.inl rfl)
      · have h21 := cF h17 hb
        refine go hΓ 7 rfl ?_
        obtain rfl := Option.some.inj h21
        exact ⟨_, rfl, ⟨⟨rfl, rfl, rfl, get_eq rfl (w64_succ (by omega)), trivial⟩, [], rfl, .inl rfl⟩⟩
    · subst hgo
      refine go hΓ 6 rfl ?_
      refine j_condF rfl (decide_eq_false hge) ?_
      refine go hΓ 4 rfl ?_
      exact ⟨_, rfl, ⟨trivial, [], rfl, .inl rfl⟩⟩
  · intro a6 ha
    subst ha
    replace h5 := goI_l h5
    refine go hΓ 7 rfl ?_
    obtain rfl := Option.some.inj h5
    exact fin_objs hΓ [] (.inr rfl) rfl rfl rfl rfl (.inl rfl)

theorem c_slices_DeleteFunc_laneref1_sent_laneref1_sent {k : Nat} {s : List (Tl T_laneref1_sent)} {f : Int} {f2 : T_laneref1_Translator} {r : List (Tl T_laneref1_sent)} (h : m_slices_DeleteFunc_laneref1_sent_laneref1_sent k s f f2 = some r) : EC Try.prog 75 [.sl 0 s.length, .fn (.func 76) [] [.ptr 1 0, .ptr 4 0]] [.row 74 1 s.length (s.flatMap (eT 93 10 e_laneref1_sent)), .box 3 [I f], .row 93 10 f2.out.length (f2.out.flatMap e_laneref1_sent), .box 76 [I f2.n.Maps, I f2.n.Lets, I f2.n.Timeout, I f2.n.First, I f2.n.Ports, B f2.n.Outer.Six, .d (.v (.int .u64 f2.n.Outer.Hi)), .d (.v (.int .u64 f2.n.Outer.Lo)), .sl 2 f2.out.length, I f2.last, I f2.now], .box 38 [.ptr 3 0]] fun g hp' => g = .sl 0 r.length ∧ hp' = [.row 74 1 r.length (r.flatMap (eT 93 10 e_laneref1_sent)), .box 3 [I f], .row 93 10 f2.out.length (f2.out.flatMap e_laneref1_sent), .box 76 [I f2.n.Maps, I f2.n.Lets, I f2.n.Timeout, I f2.n.First, I f2.n.Ports, B f2.n.Outer.Six, .d (.v (.int .u64 f2.n.Outer.Hi)), .d (.v (.int .u64 f2.n.Outer.Lo)), .sl 2 f2.out.length, I f2.last, I f2.now], .box 38 [.ptr 3 0]] := by
  refine ec_enter (Fr.of 0 _) Try.func75 rfl (Fr.of_ok _) (Nat.le_of_ble_eq_true rfl) fun _ => ?_
  refine go_in ?_
  unfold m_slices_DeleteFunc_laneref1_sent_laneref1_sent at h
  obtain ⟨y1, hy1, h2⟩ := bi_ok h
  refine go hΓ 9 rfl ?_
  refine eo_callF [0, 1, 2, 3, 4] (I y1) [.row 74 1 s.length (s.flatMap (eT 93 10 e_laneref1_sent)), .box 3 [I f], .row 93 10 f2.out.length (f2.out.flatMap e_laneref1_sent), .box 76 [I f2.n.Maps, I f2.n.Lets, I f2.n.Timeout, I f2.n.First, I f2.n.Ports, B f2.n.Outer.Six, .d (.v (.int .u64 f2.n.Outer.Hi)), .d (.v (.int .u64 f2.n.Outer.Lo)), .sl 2 f2.out.length, I f2.last, I f2.now], .box 38 [.ptr 3 0]] (callable Try.func73 rfl rfl) (c_slices_IndexFunc_laneref1_sent_laneref1_sent_2 hy1) rfl (Nat.le_of_ble_eq_true rfl) rfl rfl rfl rfl rfl rfl rfl rfl rfl rfl ?_
  refine go_ops hΓ 10 rfl ?_
  refine j_cond rfl (fun hb => ?_) (fun hb => ?_)
  · have h3 := cT h2 hb
    refine go hΓ 8 rfl ?_
    obtain rfl := Option.some.inj h3
    exact fin_objs hΓ [] (.inr rfl) rfl rfl rfl rfl (.inl rfl)
  · have h4 := cF h2 hb
    refine go hΓ 10 rfl ?_
    obtain ⟨q8, hq8, h9⟩ := bi_ok h4
    refine j_cutNZ [(0, .sl 0 q8.1.length), (5, I q8.2)] [.row 74 1 q8.1.length (q8.1.flatMap (eT 93 10 e_laneref1_sent)), .box 3 [I f], .row 93 10 f2.out.length (f2.out.flatMap e_laneref1_sent), .box 76 [I f2.n.Maps, I f2.n.Lets, I f2.n.Timeout, I f2.n.First, I f2.n.Ports, B f2.n.Outer.Six, .d (.v (.int .u64 f2.n.Outer.Hi)), .d (.v (.int .u64 f2.n.Outer.Lo)), .sl 2 f2.out.length, I f2.last, I f2.now], .box 38 [.ptr 3 0]] ?_ ?_
    · refine go hΓ 1 rfl ?_
      refine j_loop hq8 (fun s6 => [(0, .sl 0 s6.1.length), (1, .fn (.func 76) [] [.ptr 1 0, .ptr 4 0]), (5, I s6.2.1), (6, I s6.2.2)]) (fun s6 => [.row 74 1 s6.1.length (s6.1.flatMap (eT 93 10 e_laneref1_sent)), .box 3 [I f], .row 93 10 f2.out.length (f2.out.flatMap e_laneref1_sent), .box 76 [I f2.n.Maps, I f2.n.Lets, I f2.n.Timeout, I f2.n.First, I f2.n.Ports, B f2.n.Outer.Six, .d (.v (.int .u64 f2.n.Outer.Hi)), .d (.v (.int .u64 f2.n.Outer.Lo)), .sl 2 f2.out.length, I f2.last, I f2.now], .box 38 [.ptr 3 0]]) ⟨⟨rfl, rfl, rfl, rfl, trivial⟩, [], rfl, .inl rfl⟩ (fun s6 y14 hy12 hout13 => ?_)
      refine go hΓ 9 rfl ?_
      refine j_cond rfl (fun hb => ?_) (fun hb => ?_)
      · have h15 := cT hy12 hb
        obtain ⟨x16, hx16, h17⟩ := bi_ok h15
        have hj18 := getZ_at hx16
        refine go hΓ 8 rfl ?_
        refine eo_o rfl (op_elemRowZ hΓ hx16 rfl rfl rfl rfl rfl rfl) ?_
        refine eo_o rfl (op_loadRowZ hΓ (enc := (eT 93 10 e_laneref1_sent)) s6.2.2.toNat 0 hj18 rfl rfl rfl rfl (fun _ => rfl) (g := .d (Slt 93 10 e_laneref1_sent x16)) rfl) ?_
        refine go_ops hΓ 6 rfl ?_
        refine eo_o rfl (op_le (pst_ok hΓ (g := .d (Slt 93 10 e_laneref1_sent x16)) rfl) G.Le.unt) ?_
        obtain ⟨y19, hy19, h20⟩ := bi_ok h17
        refine eo_callF [1, 2, 3, 4] (B y19) [.row 74 1 s6.1.length (s6.1.flatMap (eT 93 10 e_laneref1_sent)), .box 3 [I f], .row 93 10 f2.out.length (f2.out.flatMap e_laneref1_sent), .box 76 [I f2.n.Maps, I f2.n.Lets, I f2.n.Timeout, I f2.n.First, I f2.n.Ports, B f2.n.Outer.Six, .d (.v (.int .u64 f2.n.Outer.Hi)), .d (.v (.int .u64 f2.n.Outer.Lo)), .sl 2 f2.out.length, I f2.last, I f2.now], .box 38 [.ptr 3 0]] (callable Try.func76 rfl rfl) (c_laneref1_Translator_lasting_2 hy19) rfl (Nat.le_of_ble_eq_true rfl) rfl rfl rfl rfl rfl rfl rfl rfl rfl rfl ?_
        refine go_ops hΓ 3 rfl ?_
        refine j_cond rfl (fun hb => ?_) (fun hb => ?_)
        · have h21 := cT h20 hb
          obtain ⟨x22, hx22, h23⟩ := bi_ok h21
          have hj24 := getZ_at hx22
          refine go hΓ 5 rfl ?_
          refine eo_o rfl (op_elemRowZ hΓ hx22 rfl rfl rfl rfl rfl rfl) ?_
          refine eo_storeRowZ hΓ (enc := (eT 93 10 e_laneref1_sent)) (z' := x16) s6.2.1.toNat 0 hj24 rfl rfl rfl rfl (fun _ => rfl) rfl rfl rfl rfl rfl rfl (Nat.le_of_ble_eq_true rfl) ?_
          refine eo_hp [.row 74 1 (s6.1.set s6.2.1.toNat x16).length ((s6.1.set s6.2.1.toNat x16).flatMap (eT 93 10 e_laneref1_sent)), .box 3 [I f], .row 93 10 f2.out.length (f2.out.flatMap e_laneref1_sent), .box 76 [I f2.n.Maps, I f2.n.Lets, I f2.n.Timeout, I f2.n.First, I f2.n.Ports, B f2.n.Outer.Six, .d (.v (.int .u64 f2.n.Outer.Hi)), .d (.v (.int .u64 f2.n.Outer.Lo)), .sl 2 f2.out.length, I f2.last, I f2.now], .box 38 [.ptr 3 0]] rfl ?_
          refine eo_relen 0 (n' := (s6.1.set s6.2.1.toNat x16).length) rfl List.length_set.symm ?_
          refine go_ops hΓ 14 rfl ?_
          obtain rfl := Option.some.inj h23
          exact ⟨_, rfl, ⟨⟨rfl, rfl, rfl, rfl, trivial⟩, [], rfl, .inl rfl⟩⟩
        · have h25 := cF h20 hb
          refine go hΓ 8 rfl ?_
          obtain rfl := Option.some.inj h25
          exact ⟨_, rfl, ⟨⟨rfl, rfl, rfl, rfl, trivial⟩, [], rfl, .inl rfl⟩⟩
      · have h26 := cF hy12 hb
        refine go hΓ 4 rfl ?_
        obtain rfl := Option.some.inj h26
        obtain rfl := hout13 _ rfl
        exact ⟨⟨rfl, rfl, trivial⟩, [], rfl, .inl rfl⟩
    · obtain ⟨z27, hz27, h28⟩ := bi_ok h9
      refine go hΓ 5 rfl ?_
      refine eo_o rfl (op_viewI hΓ hz27 rfl rfl rfl rfl rfl rfl) ?_
      refine eo_s0 (Nat.le_of_ble_eq_true rfl) (ops_clearT hΓ (enc := (eT 93 10 e_laneref1_sent)) (a := q8.2) hz27 rfl rfl rfl rfl rfl rfl rfl rfl rfl rfl (fun _ => rfl)) ?_
      refine go_ops hΓ 6 rfl ?_
      refine eo_subCut hΓ hz27 rfl rfl rfl rfl rfl rfl rfl rfl ?_
      refine go_ops hΓ 4 rfl ?_
      obtain rfl := Option.some.inj h28
      exact fin_objs hΓ [] (.inr rfl) rfl rfl rfl rfl (.inl rfl)

theorem c_laneref1_Translator_lasting {k : Nat} {t : T_laneref1_Translator} {v_at : Int} {al : List Bool} {r : (List (Tl T_laneref1_sent)) × (List Bool)} (h : m_laneref1_Translator_lasting k t v_at al = some r) : EC Try.prog 44 [.ptr 1 0, I v_at] [.row 93 10 t.out.length (t.out.flatMap e_laneref1_sent), .box 76 [I t.n.Maps, I t.n.Lets, I t.n.Timeout, I t.n.First, I t.n.Ports, B t.n.Outer.Six, .d (.v (.int .u64 t.n.Outer.Hi)), .d (.v (.int .u64 t.n.Outer.Lo)), .sl 0 t.out.length, I t.last, I t.now], .bag al] fun g hp' => g = .sl 3 r.1.length ∧ hp' = [.row 93 10 t.out.length (t.out.flatMap e_laneref1_sent), .box 76 [I t.n.Maps, I t.n.Lets, I t.n.Timeout, I t.n.First, I t.n.Ports, B t.n.Outer.Six, .d (.v (.int .u64 t.n.Outer.Hi)), .d (.v (.int .u64 t.n.Outer.Lo)), .sl 0 t.out.length, I t.last, I t.now], .bag r.2, .row 74 1 r.1.length (r.1.flatMap (eT 93 10 e_laneref1_sent))] := by
  refine ec_enterC (Fr.of 0 _) Try.func44 rfl (Fr.of_ok _) (Nat.le_of_ble_eq_true rfl) fun _ => ?_
  refine go_in ?_
  unfold m_laneref1_Translator_lasting at h
  refine go hΓ 2 rfl ?_
  refine eo_box rfl rfl rfl rfl (Nat.le_of_ble_eq_true rfl) ?_
  refine eo_box rfl rfl rfl rfl (Nat.le_of_ble_eq_true rfl) ?_
  refine go_ops hΓ 5 rfl ?_
  refine eo_nilOwn (t := 0) 74 1 rfl (Nat.le_of_ble_eq_true rfl) ?_
  refine go_ops hΓ 13 rfl ?_
  obtain ⟨q4, hq4, h5⟩ := bi_ok h
  obtain ⟨hb7, h8⟩ := gd_ok hq4
  replace hb7 := of_decide_eq_true hb7
  refine j_cutNZ [(2, .ptr 3 0), (3, .ptr 4 0), (5, .sl 5 q4.2.length)] [.row 93 10 t.out.length (t.out.flatMap e_laneref1_sent), .box 76 [I t.n.Maps, I t.n.Lets, I t.n.Timeout, I t.n.First, I t.n.Ports, B t.n.Outer.Six, .d (.v (.int .u64 t.n.Outer.Hi)), .d (.v (.int .u64 t.n.Outer.Lo)), .sl 0 t.out.length, I t.last, I t.now], .bag q4.1, .box 38 [.ptr 1 0], .box 3 [I v_at], .row 74 1 q4.2.length (q4.2.flatMap (eT 93 10 e_laneref1_sent))] ?_ ?_
  · refine go hΓ 1 rfl ?_
    refine j_rangeG h8 (fun i1 s2 => [(2, .ptr 3 0), (3, .ptr 4 0), (5, .sl 5 s2.2.length), (12, .sl 0 t.out.length), (13, I (t.out.length : Int)), (14, I (i1 : Int))]) (fun s2 => [.row 93 10 t.out.length (t.out.flatMap e_laneref1_sent), .box 76 [I t.n.Maps, I t.n.Lets, I t.n.Timeout, I t.n.First, I t.n.Ports, B t.n.Outer.Six, .d (.v (.int .u64 t.n.Outer.Hi)), .d (.v (.int .u64 t.n.Outer.Lo)), .sl 0 t.out.length, I t.last, I t.now], .bag s2.1, .box 38 [.ptr 1 0], .box 3 [I v_at], .row 74 1 s2.2.length (s2.2.flatMap (eT 93 10 e_laneref1_sent))]) ⟨⟨rfl, rfl, rfl, rfl, rfl, rfl, trivial⟩, [], rfl, .inl rfl⟩ (fun i1 s2 y12 hlt hy10 => ?_) (fun hge => ?_)
    · refine go hΓ 6 rfl ?_
      refine j_condT rfl (decide_eq_true hlt) ?_
      refine go hΓ 4 rfl ?_
      obtain ⟨x13, hx13, h14⟩ := bi_ok hy10
      have hj15 := getZ_at hx13
      refine go hΓ 2 rfl ?_
      refine eo_o rfl (op_elemRowZ hΓ hx13 rfl rfl rfl rfl rfl rfl) ?_
      refine eo_o rfl (op_loadRowZ hΓ (enc := e_laneref1_sent) ((i1 : Int).toNat) 0 hj15 rfl rfl rfl rfl (fun _ => rfl) (g := .agg [I x13.v_at, B x13.v_from.Addr.Six, .d (.v (.int .u64 x13.v_from.Addr.Hi)), .d (.v (.int .u64 x13.v_from.Addr.Lo)), I x13.v_from.Port, B x13.to.Addr.Six, .d (.v (.int .u64 x13.to.Addr.Hi)), .d (.v (.int .u64 x13.to.Addr.Lo)), I x13.to.Port, I x13.port]) rfl) ?_
      refine eo_alloc hΓ rfl rfl rfl (Nat.le_of_ble_eq_true rfl) ?_
      refine eo_store hΓ rfl rfl rfl rfl rfl rfl rfl rfl (Nat.le_of_ble_eq_true rfl) ?_
      refine eo_hp [.row 93 10 t.out.length (t.out.flatMap e_laneref1_sent), .box 76 [I t.n.Maps, I t.n.Lets, I t.n.Timeout, I t.n.First, I t.n.Ports, B t.n.Outer.Six, .d (.v (.int .u64 t.n.Outer.Hi)), .d (.v (.int .u64 t.n.Outer.Lo)), .sl 0 t.out.length, I t.last, I t.now], .bag s2.1, .box 38 [.ptr 1 0], .box 3 [I v_at], .row 74 1 s2.2.length (s2.2.flatMap (eT 93 10 e_laneref1_sent)), .box 93 [I x13.v_at, B x13.v_from.Addr.Six, .d (.v (.int .u64 x13.v_from.Addr.Hi)), .d (.v (.int .u64 x13.v_from.Addr.Lo)), I x13.v_from.Port, B x13.to.Addr.Six, .d (.v (.int .u64 x13.to.Addr.Hi)), .d (.v (.int .u64 x13.to.Addr.Lo)), I x13.to.Port, I x13.port]] rfl ?_
      obtain ⟨y16, hy16, h17⟩ := bi_ok h14
      refine go_ops hΓ 6 rfl ?_
      refine eo_callF [5, 6, 0, 1, 3] (I y16) [.row 93 10 t.out.length (t.out.flatMap e_laneref1_sent), .box 76 [I t.n.Maps, I t.n.Lets, I t.n.Timeout, I t.n.First, I t.n.Ports, B t.n.Outer.Six, .d (.v (.int .u64 t.n.Outer.Hi)), .d (.v (.int .u64 t.n.Outer.Lo)), .sl 0 t.out.length, I t.last, I t.now], .bag s2.1, .box 38 [.ptr 1 0], .box 3 [I v_at], .row 74 1 s2.2.length (s2.2.flatMap (eT 93 10 e_laneref1_sent)), .box 93 [I x13.v_at, B x13.v_from.Addr.Six, .d (.v (.int .u64 x13.v_from.Addr.Hi)), .d (.v (.int .u64 x13.v_from.Addr.Lo)), I x13.v_from.Port, B x13.to.Addr.Six, .d (.v (.int .u64 x13.to.Addr.Hi)), .d (.v (.int .u64 x13.to.Addr.Lo)), I x13.to.Port, I x13.port]] (callable Try.func73 rfl rfl) (c_slices_IndexFunc_laneref1_sent_laneref1_sent hy16) rfl (Nat.le_of_ble_eq_true rfl) rfl rfl rfl rfl rfl rfl rfl rfl rfl rfl ?_
      refine go_ops hΓ 9 rfl ?_
      refine j_cond rfl (fun hb => ?_) (fun hb => ?_)
      · have h18 := cT h17 hb
        refine go hΓ 3 rfl ?_
        refine eo_s (Nat.le_of_ble_eq_true rfl) (nblt.1 rfl) (ops_litFT hΓ (enc := e_laneref1_sent) [x13] rfl rfl rfl rfl rfl rfl rfl rfl rfl rfl rfl) ?_
        refine eo_weak 25 (g' := .d (Slt 93 10 e_laneref1_sent (1, [x13]))) rfl G.Le.tagF ?_
        refine eo_litT hΓ (enc := (eT 93 10 e_laneref1_sent)) [(1, [x13])] rfl rfl rfl rfl rfl rfl rfl rfl rfl rfl rfl rfl (Nat.le_of_ble_eq_true rfl) ?_
        obtain ⟨y19, hy19, h20⟩ := bi_ok h18
        refine eo_appendT hΓ (enc := (eT 93 10 e_laneref1_sent)) hy19 rfl rfl rfl rfl rfl rfl rfl rfl rfl (fun _ => rfl) rfl rfl rfl rfl ?_
        refine go_ops hΓ 8 rfl ?_
        obtain rfl := Option.some.inj h20
        exact ⟨⟨rfl, rfl, rfl, rfl, rfl, get_eq rfl (w64_succ (by omega)), trivial⟩, [_], rfl, .inr ⟨HB.mk rfl, FB.mk rfl, (Nat.le_of_ble_eq_true rfl)⟩⟩
      · have h21 := cF h17 hb
        refine j_drawE [.dead, .dead, .dead, .dead, .dead, .row 74 1 s2.2.length (s2.2.flatMap (eT 93 10 e_laneref1_sent)), .box 93 [I x13.v_at, B x13.v_from.Addr.Six, .d (.v (.int .u64 x13.v_from.Addr.Hi)), .d (.v (.int .u64 x13.v_from.Addr.Lo)), I x13.v_from.Port, B x13.to.Addr.Six, .d (.v (.int .u64 x13.to.Addr.Hi)), .d (.v (.int .u64 x13.to.Addr.Lo)), I x13.to.Port, I x13.port]] [5, 6] [8, 10] [10] hmix (by kernel_rfl) (by kernel_rfl) ⟨rfl, rfl, trivial⟩ (Nat.le_of_ble_eq_true rfl) ?_
        obtain ⟨x22, hx22, h23⟩ := bi_ok h21
        have hj24 := getZ_at hx22
        refine go_E hΓ 4 rfl ?_
        refine ge_q rfl (.inl rfl) (fun _ _ => qte_of_qt (qt_p (op_elemRowZ hΓ hx22 rfl rfl rfl rfl rfl rfl))) ?_
        refine ge_p rfl (fun hp hs => op_loadRowZ hΓ (enc := (eT 93 10 e_laneref1_sent)) y16.toNat 0 hj24 rfl rfl rfl (hs 5 _ rfl rfl) (fun _ => rfl) (g := .d (Slt 93 10 e_laneref1_sent x22)) rfl) rfl ?_
        refine go_E hΓ 1 rfl ?_
        refine ge_litT hΓ (enc := e_laneref1_sent) [x13] rfl rfl rfl rfl rfl rfl rfl rfl rfl rfl rfl rfl ?_
        obtain ⟨y25, hy25, h26⟩ := bi_ok h23
        refine ge_h [.row 93 10 t.out.length (t.out.flatMap e_laneref1_sent), .box 76 [I t.n.Maps, I t.n.Lets, I t.n.Timeout, I t.n.First, I t.n.Ports, B t.n.Outer.Six, .d (.v (.int .u64 t.n.Outer.Hi)), .d (.v (.int .u64 t.n.Outer.Lo)), .sl 0 t.out.length, I t.last, I t.now], .bag y25.2, .box 38 [.ptr 1 0], .box 3 [I v_at], .row 74 1 s2.2.length (s2.2.flatMap (eT 93 10 e_laneref1_sent)), .box 93 [I x13.v_at, B x13.v_from.Addr.Six, .d (.v (.int .u64 x13.v_from.Addr.Hi)), .d (.v (.int .u64 x13.v_from.Addr.Lo)), I x13.v_from.Port, B x13.to.Addr.Six, .d (.v (.int .u64 x13.to.Addr.Hi)), .d (.v (.int .u64 x13.to.Addr.Lo)), I x13.to.Port, I x13.port]] rfl rfl rfl (st_st ⟨rfl, rfl, trivial⟩) (qte_s (ops_appT hΓ (enc := e_laneref1_sent) (bg := 2) hy25 rfl rfl rfl rfl rfl rfl rfl rfl (fun _ => rfl) rfl rfl)) ?_
        obtain ⟨x27, hx27, h28⟩ := bi_ok h26
        have hj29 := getZ_at hx27
        refine ge_q rfl (.inl rfl) (fun _ _ => qte_of_qt (qt_p (op_elemRowZ hΓ hx27 rfl rfl rfl rfl rfl rfl))) ?_
        refine ge_h0 [.row 93 10 t.out.length (t.out.flatMap e_laneref1_sent), .box 76 [I t.n.Maps, I t.n.Lets, I t.n.Timeout, I t.n.First, I t.n.Ports, B t.n.Outer.Six, .d (.v (.int .u64 t.n.Outer.Hi)), .d (.v (.int .u64 t.n.Outer.Lo)), .sl 0 t.out.length, I t.last, I t.now], .bag y25.2, .box 38 [.ptr 1 0], .box 3 [I v_at], .row 74 1 (s2.2.set y16.toNat y25.1).length ((s2.2.set y16.toNat y25.1).flatMap (eT 93 10 e_laneref1_sent)), .box 93 [I x13.v_at, B x13.v_from.Addr.Six, .d (.v (.int .u64 x13.v_from.Addr.Hi)), .d (.v (.int .u64 x13.v_from.Addr.Lo)), I x13.v_from.Port, B x13.to.Addr.Six, .d (.v (.int .u64 x13.to.Addr.Hi)), .d (.v (.int .u64 x13.to.Addr.Lo)), I x13.to.Port, I x13.port]] rfl rfl (brk_st rfl) (qte_u (opu_setRowZ hΓ (enc := (eT 93 10 e_laneref1_sent)) (z' := y25.1) y16.toNat (by have := (List.getElem?_eq_some_iff.1 hj29).1; simpa using this) rfl rfl rfl rfl (fun _ => rfl) rfl rfl rfl rfl rfl)) ?_
        refine ge_fin ?_
        refine go hΓ 2 rfl ?_
        refine j_relen 5 (n' := (s2.2.set y16.toNat y25.1).length) rfl (by simp) ?_
        refine j_relen 18 (n' := (s2.2.set y16.toNat y25.1).length) rfl (by simp) ?_
        refine j_relen 28 (n' := (s2.2.set y16.toNat y25.1).length) rfl (by simp) ?_
        refine j_relen 30 (n' := (s2.2.set y16.toNat y25.1).length) rfl (by simp) ?_
        refine go hΓ 4 rfl ?_
        obtain rfl := Option.some.inj h28
        exact ⟨⟨rfl, rfl, rfl, rfl, rfl, get_eq rfl (w64_succ (by omega)), trivial⟩, [_], rfl, .inr ⟨HB.mk rfl, FB.mk rfl, (Nat.le_of_ble_eq_true rfl)⟩⟩
    · refine go hΓ 6 rfl ?_
      refine j_condF rfl (decide_eq_false hge) ?_
      refine go hΓ 4 rfl ?_
      exact ⟨⟨rfl, rfl, rfl, trivial⟩, [], rfl, .inl rfl⟩
  · obtain ⟨y30, hy30, h31⟩ := bi_ok h5
    refine go hΓ 5 rfl ?_
    refine eo_callF [5, 4, 0, 1, 3] (.sl 5 y30.length) [.row 93 10 t.out.length (t.out.flatMap e_laneref1_sent), .box 76 [I t.n.Maps, I t.n.Lets, I t.n.Timeout, I t.n.First, I t.n.Ports, B t.n.Outer.Six, .d (.v (.int .u64 t.n.Outer.Hi)), .d (.v (.int .u64 t.n.Outer.Lo)), .sl 0 t.out.length, I t.last, I t.now], .bag q4.1, .box 38 [.ptr 1 0], .box 3 [I v_at], .row 74 1 y30.length (y30.flatMap (eT 93 10 e_laneref1_sent))] (callable Try.func75 rfl rfl) (c_slices_DeleteFunc_laneref1_sent_laneref1_sent hy30) rfl (Nat.le_of_ble_eq_true rfl) rfl rfl rfl rfl rfl rfl rfl rfl rfl rfl ?_
    refine go_ops hΓ 4 rfl ?_
    refine cv_kill 3 [.row 93 10 t.out.length (t.out.flatMap e_laneref1_sent), .box 76 [I t.n.Maps, I t.n.Lets, I t.n.Timeout, I t.n.First, I t.n.Ports, B t.n.Outer.Six, .d (.v (.int .u64 t.n.Outer.Hi)), .d (.v (.int .u64 t.n.Outer.Lo)), .sl 0 t.out.length, I t.last, I t.now], .bag q4.1, .dead, .box 3 [I v_at], .row 74 1 y30.length (y30.flatMap (eT 93 10 e_laneref1_sent))] rfl (Nat.le_of_ble_eq_true rfl) ?_
    refine cv_move 5 3 [.row 93 10 t.out.length (t.out.flatMap e_laneref1_sent), .box 76 [I t.n.Maps, I t.n.Lets, I t.n.Timeout, I t.n.First, I t.n.Ports, B t.n.Outer.Six, .d (.v (.int .u64 t.n.Outer.Hi)), .d (.v (.int .u64 t.n.Outer.Lo)), .sl 0 t.out.length, I t.last, I t.now], .bag q4.1, .row 74 1 y30.length (y30.flatMap (eT 93 10 e_laneref1_sent)), .box 3 [I v_at], .dead] rfl rfl rfl rfl rfl rfl ?_
    refine cv_here ?_
    obtain rfl := Option.some.inj h31
    exact fin_objs hΓ [_, _] (.inr rfl) rfl rfl rfl rfl (.inr ⟨HB.mk rfl, rfl⟩)

theorem c_laneref1_Translator_Out_1 {e : List T_laneref1_sent} {x : Int} {r : Bool} (h : m_laneref1_Translator_Out_1 e x = some r) : EC Try.prog 47 [.d (Sl e_laneref1_sent e), .ptr 0 0] [.box 3 [I x]] fun g hp' => g = B r ∧ hp' = [.box 3 [I x]] := by
  refine ec_enter (Fr.of 0 _) Try.func47 rfl (Fr.of_ok _) (Nat.le_of_ble_eq_true rfl) fun _ => ?_
  refine go_in ?_
  unfold m_laneref1_Translator_Out_1 at h
  refine go hΓ 6 rfl ?_
  refine j_draw hmix (by kernel_rfl) ?_
  obtain ⟨x1, hx1, h2⟩ := bi_ok h
  refine go hΓ 1 rfl ?_
  refine gl_o rfl (op_elemZ hΓ (enc := e_laneref1_sent) hx1 rfl rfl rfl rfl rfl (fun _ => rfl)) ?_
  refine go_draw hΓ 8 rfl ?_
  obtain rfl := Option.some.inj h2
  exact fin_objs hΓ [] (.inr rfl) rfl rfl rfl rfl (.inl rfl)

theorem c_slices_IndexFunc_laneref1_sent_laneref1_sent_3 {s : List (Tl T_laneref1_sent)} {f : Int} {r : Int} (h : m_slices_IndexFunc_laneref1_sent_laneref1_sent_3 s f = some r) : EC Try.prog 73 [.sl 0 s.length, .fn (.func 47) [] [.ptr 1 0]] [.row 74 1 s.length (s.flatMap (eT 93 10 e_laneref1_sent)), .box 3 [I f]] fun g hp' => g = I r ∧ hp' = [.row 74 1 s.length (s.flatMap (eT 93 10 e_laneref1_sent)), .box 3 [I f]] := by
  refine ec_enter (Fr.of 0 _) Try.func73 rfl (Fr.of_ok _) (Nat.le_of_ble_eq_true rfl) fun _ => ?_
  refine go_in ?_
  unfold m_slices_IndexFunc_laneref1_sent_laneref1_sent_3 at h
  refine go hΓ 13 rfl ?_
  obtain ⟨q4, hq4, h5⟩ := bi_ok h
  obtain ⟨hb7, h8⟩ := gd_ok hq4
  replace hb7 := of_decide_eq_true hb7
  refine j_cutEZ (R := fun a6 => q4 = .go a6) (fun a6 => []) (fun a6 => [.row 74 1 s.length (s.flatMap (eT 93 10 e_laneref1_sent)), .box 3 [I f]]) ?_ ?_
  · refine go hΓ 1 rfl ?_
    refine j_rangeI h8 (fun i1 s2 => [(0, .sl 0 s.length), (1, .fn (.func 47) [] [.ptr 1 0]), (7, I (s.length : Int)), (8, I (i1 : Int))]) (fun s2 => [.row 74 1 s.length (s.flatMap (eT 93 10 e_laneref1_sent)), .box 3 [I f]]) ⟨⟨rfl, rfl, rfl, rfl, trivial⟩, [], rfl, .inl rfl⟩ (fun i1 s2 y12 hlt hy10 hout11 => ?_) (fun s2 hgo hge => ?_)
    · refine go hΓ 6 rfl ?_
      refine j_condT rfl (decide_eq_true hlt) ?_
      obtain ⟨x13, hx13, h14⟩ := bi_ok hy10
      have hj15 := getZ_at hx13
      refine go hΓ 15 rfl ?_
      refine eo_o rfl (op_elemRowZ hΓ hx13 rfl rfl rfl rfl rfl rfl) ?_
      refine eo_o rfl (op_le (op_loadRowZ hΓ (enc := (eT 93 10 e_laneref1_sent)) ((i1 : Int).toNat) 0 hj15 rfl rfl rfl rfl (fun _ => rfl) (g := .d (Slt 93 10 e_laneref1_sent x13)) rfl) G.Le.unt) ?_
      obtain ⟨y16, hy16, h17⟩ := bi_ok h14
      refine eo_callF [1] (B y16) [.row 74 1 s.length (s.flatMap (eT 93 10 e_laneref1_sent)), .box 3 [I f]] (callable Try.func47 rfl rfl) (c_laneref1_Translator_Out_1 hy16) rfl (Nat.le_of_ble_eq_true rfl) rfl rfl rfl rfl rfl rfl rfl rfl rfl rfl ?_
      refine go_ops hΓ 2 rfl ?_
      refine j_cond rfl (fun hb => ?_) (fun hb => ?_)
      · have h18 := cT h17 hb
        refine go hΓ 9 rfl ?_
        obtain ⟨v19, hv19, h20⟩ := bi_ok h18
        obtain rfl := Option.some.inj h20
        obtain rfl := hout11 _ rfl
        obtain rfl := Option.some.inj h5
        refine go hΓ 4 rfl ?_
        obtain rfl := Option.some.inj hv19
        exact fin_objs hΓ [] (.inr rfl) rfl rfl rfl rfl (.inl rfl)
      · have h21 := cF h17 hb
        refine go hΓ 7 rfl ?_
        obtain rfl := Option.some.inj h21
        exact ⟨_, rfl, ⟨⟨rfl, rfl, rfl, get_eq rfl (w64_succ (by omega)), trivial⟩, [], rfl, .inl rfl⟩⟩
    · subst hgo
      refine go hΓ 6 rfl ?_
      refine j_condF rfl (decide_eq_false hge) ?_
      refine go hΓ 4 rfl ?_
      exact ⟨_, rfl, ⟨trivial, [], rfl, .inl rfl⟩⟩
  · intro a6 ha
    subst ha
    replace h5 := goI_l h5
    refine go hΓ 7 rfl ?_
    obtain rfl := Option.some.inj h5
    exact fin_objs hΓ [] (.inr rfl) rfl rfl rfl rfl (.inl rfl)

theorem c_slices_ContainsFunc_laneref1_sent_laneref1_sent {s : List (Tl T_laneref1_sent)} {f : Int} {r : Bool} (h : m_slices_ContainsFunc_laneref1_sent_laneref1_sent s f = some r) : EC Try.prog 46 [.sl 0 s.length, .fn (.func 47) [] [.ptr 1 0]] [.row 74 1 s.length (s.flatMap (eT 93 10 e_laneref1_sent)), .box 3 [I f]] fun g hp' => g = B r ∧ hp' = [.row 74 1 s.length (s.flatMap (eT 93 10 e_laneref1_sent)), .box 3 [I f]] := by
  refine ec_enter (Fr.of 0 _) Try.func46 rfl (Fr.of_ok _) (Nat.le_of_ble_eq_true rfl) fun _ => ?_
  refine go_in ?_
  unfold m_slices_ContainsFunc_laneref1_sent_laneref1_sent at h
  obtain ⟨y1, hy1, h2⟩ := bi_ok h
  refine go hΓ 9 rfl ?_
  refine eo_callF [0, 1] (I y1) [.row 74 1 s.length (s.flatMap (eT 93 10 e_laneref1_sent)), .box 3 [I f]] (callable Try.func73 rfl rfl) (c_slices_IndexFunc_laneref1_sent_laneref1_sent_3 hy1) rfl (Nat.le_of_ble_eq_true rfl) rfl rfl rfl rfl rfl rfl rfl rfl rfl rfl ?_
  refine go_ops hΓ 5 rfl ?_
  obtain rfl := Option.some.inj h2
  exact fin_objs hΓ [] (.inr rfl) rfl rfl rfl rfl (.inl rfl)

set_option maxHeartbeats 8000000 in
theorem c_laneref1_Translator_Out {k : Nat} {t : T_laneref1_Translator} {v_at : Int} {v_from : T_api_Spot} {to : T_api_Spot} {al : List Bool} {r : T_api_Spot × Int × T_laneref1_Translator × (List Bool)} (h : m_laneref1_Translator_Out k t v_at v_from to al = some r) : EC Try.prog 16 [.ptr 1 0, I v_at, .agg [B v_from.Addr.Six, .d (.v (.int .u64 v_from.Addr.Hi)), .d (.v (.int .u64 v_from.Addr.Lo)), I v_from.Port], .agg [B to.Addr.Six, .d (.v (.int .u64 to.Addr.Hi)), .d (.v (.int .u64 to.Addr.Lo)), I to.Port]] [.row 93 10 t.out.length (t.out.flatMap e_laneref1_sent), .box 76 [I t.n.Maps, I t.n.Lets, I t.n.Timeout, I t.n.First, I t.n.Ports, B t.n.Outer.Six, .d (.v (.int .u64 t.n.Outer.Hi)), .d (.v (.int .u64 t.n.Outer.Lo)), .sl 0 t.out.length, I t.last, I t.now], .bag al] fun g hp' => g = .tup [.agg [B r.1.Addr.Six, .d (.v (.int .u64 r.1.Addr.Hi)), .d (.v (.int .u64 r.1.Addr.Lo)), I r.1.Port], I r.2.1] ∧ hp' = [.dead, .box 76 [I r.2.2.1.n.Maps, I r.2.2.1.n.Lets, I r.2.2.1.n.Timeout, I r.2.2.1.n.First, I r.2.2.1.n.Ports, B r.2.2.1.n.Outer.Six, .d (.v (.int .u64 r.2.2.1.n.Outer.Hi)), .d (.v (.int .u64 r.2.2.1.n.Outer.Lo)), .sl 3 r.2.2.1.out.length, I r.2.2.1.last, I r.2.2.1.now], .bag r.2.2.2, .row 93 10 r.2.2.1.out.length (r.2.2.1.out.flatMap e_laneref1_sent)] := by
  refine ec_enterC (Fr.of 0 _) Try.func16 rfl (Fr.of_ok _) (Nat.le_of_ble_eq_true rfl) fun _ => ?_
  refine go_in ?_
  unfold m_laneref1_Translator_Out at h
  refine j_name (Nat.le_of_ble_eq_true rfl) ?_
  refine j_move 0 3 [.dead, .box 76 [I t.n.Maps, I t.n.Lets, I t.n.Timeout, I t.n.First, I t.n.Ports, B t.n.Outer.Six, .d (.v (.int .u64 t.n.Outer.Hi)), .d (.v (.int .u64 t.n.Outer.Lo)), .sl 3 t.out.length, I t.last, I t.now], .bag al, .row 93 10 t.out.length (t.out.flatMap e_laneref1_sent)] rfl rfl rfl rfl rfl rfl ?_
  refine go hΓ 2 rfl ?_
  refine eo_box rfl rfl rfl rfl (Nat.le_of_ble_eq_true rfl) ?_
  refine eo_box rfl rfl rfl rfl (Nat.le_of_ble_eq_true rfl) ?_
  refine eo_alloc hΓ rfl rfl rfl (Nat.le_of_ble_eq_true rfl) ?_
  refine go_ops hΓ 5 rfl ?_
  refine j_drawE [.dead, .dead, .dead, .dead, .box 45 [B v_from.Addr.Six, .d (.v (.int .u64 v_from.Addr.Hi)), .d (.v (.int .u64 v_from.Addr.Lo)), I v_from.Port], .box 45 [B to.Addr.Six, .d (.v (.int .u64 to.Addr.Hi)), .d (.v (.int .u64 to.Addr.Lo)), I to.Port]] [3, 5] [2] [] hmix (by kernel_rfl) (by kernel_rfl) ⟨rfl, rfl, trivial⟩ (Nat.le_of_ble_eq_true rfl) ?_
  obtain ⟨y1, hy1, h2⟩ := bi_ok h
  refine go_E hΓ 2 rfl ?_
  refine ge_h [.dead, .box 76 [I t.n.Maps, I t.n.Lets, I t.n.Timeout, I t.n.First, I t.n.Ports, B t.n.Outer.Six, .d (.v (.int .u64 t.n.Outer.Hi)), .d (.v (.int .u64 t.n.Outer.Lo)), .sl 3 t.out.length, I t.last, I t.now], .bag al, .row 93 10 t.out.length (t.out.flatMap e_laneref1_sent), .box 45 [B v_from.Addr.Six, .d (.v (.int .u64 v_from.Addr.Hi)), .d (.v (.int .u64 v_from.Addr.Lo)), I v_from.Port], .box 45 [B to.Addr.Six, .d (.v (.int .u64 to.Addr.Hi)), .d (.v (.int .u64 to.Addr.Lo)), I to.Port], .box 45 [B false, .d (.v (.int .u64 0)), .d (.v (.int .u64 0)), I 0]] rfl rfl rfl (st_st ⟨rfl, rfl, trivial⟩) (qte_callF [3, 1] (I y1) [.dead, .box 76 [I t.n.Maps, I t.n.Lets, I t.n.Timeout, I t.n.First, I t.n.Ports, B t.n.Outer.Six, .d (.v (.int .u64 t.n.Outer.Hi)), .d (.v (.int .u64 t.n.Outer.Lo)), .sl 3 t.out.length, I t.last, I t.now], .bag al, .row 93 10 t.out.length (t.out.flatMap e_laneref1_sent), .box 45 [B v_from.Addr.Six, .d (.v (.int .u64 v_from.Addr.Hi)), .d (.v (.int .u64 v_from.Addr.Lo)), I v_from.Port], .box 45 [B to.Addr.Six, .d (.v (.int .u64 to.Addr.Hi)), .d (.v (.int .u64 to.Addr.Lo)), I to.Port], .box 45 [B false, .d (.v (.int .u64 0)), .d (.v (.int .u64 0)), I 0]] (callable Try.func42 rfl rfl) (c_laneref1_Translator_timeFault hy1) rfl rfl rfl rfl rfl rfl rfl rfl rfl rfl) ?_
  obtain ⟨y3, hy3, h4⟩ := bi_ok h2
  refine go_E hΓ 1 rfl ?_
  refine ge_callP (callable Try.func43 rfl rfl) (c_laneref1_SpotFault hy3) rfl rfl rfl rfl rfl rfl ?_
  obtain ⟨y5, hy5, h6⟩ := bi_ok h4
  refine go_E hΓ 1 rfl ?_
  refine ge_callP (callable Try.func43 rfl rfl) (c_laneref1_SpotFault hy5) rfl rfl rfl rfl rfl rfl ?_
  refine ge_litT hΓ (enc := (eN .i64)) [y1, y3, y5] rfl rfl rfl rfl rfl rfl rfl rfl rfl rfl rfl rfl ?_
  obtain ⟨y7, hy7, h8⟩ := bi_ok h6
  refine ge_callP (callable Try.func41 rfl rfl) (c_cmp_Or_api_Errno hy7) rfl rfl rfl rfl rfl rfl ?_
  refine go_E hΓ 1 rfl ?_
  refine ge_fin ?_
  refine go hΓ 7 rfl ?_
  refine j_cond rfl (fun hb => ?_) (fun hb => ?_)
  · have h9 := cT h8 hb
    refine go hΓ 2 rfl ?_
    refine eo_build hΓ (gs := [B false, .d (.v (.int .u64 0)), .d (.v (.int .u64 0)), I 0]) rfl rfl rfl rfl rfl rfl rfl ?_
    refine go_ops hΓ 1 rfl ?_
    refine eo_store hΓ rfl rfl rfl rfl rfl rfl rfl rfl (Nat.le_of_ble_eq_true rfl) ?_
    refine eo_hp [.dead, .box 76 [I t.n.Maps, I t.n.Lets, I t.n.Timeout, I t.n.First, I t.n.Ports, B t.n.Outer.Six, .d (.v (.int .u64 t.n.Outer.Hi)), .d (.v (.int .u64 t.n.Outer.Lo)), .sl 3 t.out.length, I t.last, I t.now], .bag al, .row 93 10 t.out.length (t.out.flatMap e_laneref1_sent), .box 45 [B v_from.Addr.Six, .d (.v (.int .u64 v_from.Addr.Hi)), .d (.v (.int .u64 v_from.Addr.Lo)), I v_from.Port], .box 45 [B to.Addr.Six, .d (.v (.int .u64 to.Addr.Hi)), .d (.v (.int .u64 to.Addr.Lo)), I to.Port], .box 45 [B false, .d (.v (.int .u64 0)), .d (.v (.int .u64 0)), I 0]] rfl ?_
    refine go_ops hΓ 5 rfl ?_
    refine cv_here ?_
    obtain rfl := Option.some.inj h9
    exact fin_objs hΓ [_, _, _] (.inr rfl) rfl rfl rfl rfl (.inr ⟨HB.mk rfl, rfl⟩)
  · have h10 := cF h8 hb
    obtain ⟨y11, hy11, h12⟩ := bi_ok h10
    refine go hΓ 6 rfl ?_
    refine eo_callF [3, 1, 2] (.sl 7 y11.1.length) [.dead, .box 76 [I t.n.Maps, I t.n.Lets, I t.n.Timeout, I t.n.First, I t.n.Ports, B t.n.Outer.Six, .d (.v (.int .u64 t.n.Outer.Hi)), .d (.v (.int .u64 t.n.Outer.Lo)), .sl 3 t.out.length, I t.last, I t.now], .bag y11.2, .row 93 10 t.out.length (t.out.flatMap e_laneref1_sent), .box 45 [B v_from.Addr.Six, .d (.v (.int .u64 v_from.Addr.Hi)), .d (.v (.int .u64 v_from.Addr.Lo)), I v_from.Port], .box 45 [B to.Addr.Six, .d (.v (.int .u64 to.Addr.Hi)), .d (.v (.int .u64 to.Addr.Lo)), I to.Port], .box 45 [B false, .d (.v (.int .u64 0)), .d (.v (.int .u64 0)), I 0], .row 74 1 y11.1.length (y11.1.flatMap (eT 93 10 e_laneref1_sent))] (callable Try.func44 rfl rfl) (c_laneref1_Translator_lasting hy11) rfl (Nat.le_of_ble_eq_true rfl) rfl rfl rfl rfl rfl rfl rfl rfl rfl rfl ?_
    refine go_ops hΓ 16 rfl ?_
    obtain ⟨q16, hq16, h17⟩ := bi_ok h12
    obtain ⟨hb19, h20⟩ := gd_ok hq16
    replace hb19 := of_decide_eq_true hb19
    refine j_cutNZ [(0, .ptr 1 0), (1, I v_at), (6, .ptr 4 0), (7, .ptr 5 0), (8, .ptr 6 0), (11, .sl 7 y11.1.length), (12, I q16)] [.dead, .box 76 [I t.n.Maps, I t.n.Lets, I t.n.Timeout, I t.n.First, I t.n.Ports, B t.n.Outer.Six, .d (.v (.int .u64 t.n.Outer.Hi)), .d (.v (.int .u64 t.n.Outer.Lo)), .sl 3 t.out.length, I t.last, I t.now], .bag y11.2, .row 93 10 t.out.length (t.out.flatMap e_laneref1_sent), .box 45 [B v_from.Addr.Six, .d (.v (.int .u64 v_from.Addr.Hi)), .d (.v (.int .u64 v_from.Addr.Lo)), I v_from.Port], .box 45 [B to.Addr.Six, .d (.v (.int .u64 to.Addr.Hi)), .d (.v (.int .u64 to.Addr.Lo)), I to.Port], .box 45 [B false, .d (.v (.int .u64 0)), .d (.v (.int .u64 0)), I 0], .row 74 1 y11.1.length (y11.1.flatMap (eT 93 10 e_laneref1_sent))] ?_ ?_
    · refine go hΓ 1 rfl ?_
      refine j_rangeG h20 (fun i13 s14 => [(0, .ptr 1 0), (1, I v_at), (6, .ptr 4 0), (7, .ptr 5 0), (8, .ptr 6 0), (11, .sl 7 y11.1.length), (12, I s14), (34, .sl 7 y11.1.length), (35, I (y11.1.length : Int)), (36, I (i13 : Int))]) (fun s14 => [.dead, .box 76 [I t.n.Maps, I t.n.Lets, I t.n.Timeout, I t.n.First, I t.n.Ports, B t.n.Outer.Six, .d (.v (.int .u64 t.n.Outer.Hi)), .d (.v (.int .u64 t.n.Outer.Lo)), .sl 3 t.out.length, I t.last, I t.now], .bag y11.2, .row 93 10 t.out.length (t.out.flatMap e_laneref1_sent), .box 45 [B v_from.Addr.Six, .d (.v (.int .u64 v_from.Addr.Hi)), .d (.v (.int .u64 v_from.Addr.Lo)), I v_from.Port], .box 45 [B to.Addr.Six, .d (.v (.int .u64 to.Addr.Hi)), .d (.v (.int .u64 to.Addr.Lo)), I to.Port], .box 45 [B false, .d (.v (.int .u64 0)), .d (.v (.int .u64 0)), I 0], .row 74 1 y11.1.length (y11.1.flatMap (eT 93 10 e_laneref1_sent))]) ⟨⟨rfl, rfl, rfl, rfl, rfl, rfl, rfl, rfl, rfl, rfl, trivial⟩, [], rfl, .inl rfl⟩ (fun i13 s14 y24 hlt hy22 => ?_) (fun hge => ?_)
      · refine go hΓ 6 rfl ?_
        refine j_condT rfl (decide_eq_true hlt) ?_
        obtain ⟨x25, hx25, h26⟩ := bi_ok hy22
        have hj27 := getZ_at hx25
        refine go hΓ 6 rfl ?_
        refine eo_o rfl (op_elemRowZ hΓ hx25 rfl rfl rfl rfl rfl rfl) ?_
        refine eo_o rfl (op_le (op_loadRowZ hΓ (enc := (eT 93 10 e_laneref1_sent)) ((i13 : Int).toNat) 0 hj27 rfl rfl rfl rfl (fun _ => rfl) (g := .d (Slt 93 10 e_laneref1_sent x25)) rfl) G.Le.unt) ?_
        obtain ⟨q28, hq28, h29⟩ := bi_ok h26
        refine go_ops hΓ 4 rfl ?_
        refine j_cutNZ [(0, .ptr 1 0), (1, I v_at), (6, .ptr 4 0), (7, .ptr 5 0), (8, .ptr 6 0), (11, .sl 7 y11.1.length), (12, I s14), (14, .d (Sl e_laneref1_sent x25.2)), (34, .sl 7 y11.1.length), (35, I (y11.1.length : Int)), (36, I (i13 : Int)), (54, B q28)] [.dead, .box 76 [I t.n.Maps, I t.n.Lets, I t.n.Timeout, I t.n.First, I t.n.Ports, B t.n.Outer.Six, .d (.v (.int .u64 t.n.Outer.Hi)), .d (.v (.int .u64 t.n.Outer.Lo)), .sl 3 t.out.length, I t.last, I t.now], .bag y11.2, .row 93 10 t.out.length (t.out.flatMap e_laneref1_sent), .box 45 [B v_from.Addr.Six, .d (.v (.int .u64 v_from.Addr.Hi)), .d (.v (.int .u64 v_from.Addr.Lo)), I v_from.Port], .box 45 [B to.Addr.Six, .d (.v (.int .u64 to.Addr.Hi)), .d (.v (.int .u64 to.Addr.Lo)), I to.Port], .box 45 [B false, .d (.v (.int .u64 0)), .d (.v (.int .u64 0)), I 0], .row 74 1 y11.1.length (y11.1.flatMap (eT 93 10 e_laneref1_sent))] ?_ ?_
        · refine j_drawE [.dead, .dead, .dead, .dead, .box 45 [B v_from.Addr.Six, .d (.v (.int .u64 v_from.Addr.Hi)), .d (.v (.int .u64 v_from.Addr.Lo)), I v_from.Port], .box 45 [B to.Addr.Six, .d (.v (.int .u64 to.Addr.Hi)), .d (.v (.int .u64 to.Addr.Lo)), I to.Port]] [4, 12] [13] [] hmix (by kernel_rfl) (by kernel_rfl) ⟨rfl, rfl, trivial⟩ (Nat.le_of_ble_eq_true rfl) ?_
          obtain ⟨x30, hx30, h31⟩ := bi_ok hq28
          refine go_E hΓ 1 rfl ?_
          refine ge_q rfl (.inl rfl) (fun _ _ => qte_of_qt (qt_p (op_elemZ hΓ (enc := e_laneref1_sent) hx30 rfl rfl rfl rfl rfl (fun _ => rfl)))) ?_
          refine go_E hΓ 3 rfl ?_
          refine ge_q rfl (.inl rfl) (fun _ _ => qte_of_qt (qt_p (op_eqS hΓ [45, 28] (b := ((((x30.v_from.Addr.Six : Bool) == v_from.Addr.Six) && (((x30.v_from.Addr.Hi : Int) == v_from.Addr.Hi) && (((x30.v_from.Addr.Lo : Int) == v_from.Addr.Lo) && true))) && (((x30.v_from.Port : Int) == v_from.Port) && true))) (by kernel_rfl) (by kernel_rfl) rfl rfl rfl))) ?_
          refine go_E hΓ 1 rfl ?_
          refine ge_gsplit rfl rfl (fun hb => ?_) (fun hb => ?_)
          · have h32 := cT h31 hb
            obtain ⟨x33, hx33, h34⟩ := bi_ok h32
            refine go_E hΓ 2 rfl ?_
            refine ge_q rfl (.inr ⟨_, _, rfl, rfl⟩) (fun _ _ => qte_of_qt (qt_p (op_elemZ hΓ (enc := e_laneref1_sent) hx33 rfl rfl rfl rfl rfl (fun _ => rfl)))) ?_
            obtain ⟨y35, hy35, h36⟩ := bi_ok h34
            refine go_E hΓ 3 rfl ?_
            refine ge_hg [.dead, .box 76 [I t.n.Maps, I t.n.Lets, I t.n.Timeout, I t.n.First, I t.n.Ports, B t.n.Outer.Six, .d (.v (.int .u64 t.n.Outer.Hi)), .d (.v (.int .u64 t.n.Outer.Lo)), .sl 3 t.out.length, I t.last, I t.now], .bag y11.2, .row 93 10 t.out.length (t.out.flatMap e_laneref1_sent), .box 45 [B v_from.Addr.Six, .d (.v (.int .u64 v_from.Addr.Hi)), .d (.v (.int .u64 v_from.Addr.Lo)), I v_from.Port], .box 45 [B to.Addr.Six, .d (.v (.int .u64 to.Addr.Hi)), .d (.v (.int .u64 to.Addr.Lo)), I to.Port], .box 45 [B false, .d (.v (.int .u64 0)), .d (.v (.int .u64 0)), I 0], .row 74 1 y11.1.length (y11.1.flatMap (eT 93 10 e_laneref1_sent))] rfl rfl rfl rfl (st_st ⟨rfl, rfl, trivial⟩) (qte_callF [3, 1] (B y35) [.dead, .box 76 [I t.n.Maps, I t.n.Lets, I t.n.Timeout, I t.n.First, I t.n.Ports, B t.n.Outer.Six, .d (.v (.int .u64 t.n.Outer.Hi)), .d (.v (.int .u64 t.n.Outer.Lo)), .sl 3 t.out.length, I t.last, I t.now], .bag y11.2, .row 93 10 t.out.length (t.out.flatMap e_laneref1_sent), .box 45 [B v_from.Addr.Six, .d (.v (.int .u64 v_from.Addr.Hi)), .d (.v (.int .u64 v_from.Addr.Lo)), I v_from.Port], .box 45 [B to.Addr.Six, .d (.v (.int .u64 to.Addr.Hi)), .d (.v (.int .u64 to.Addr.Lo)), I to.Port], .box 45 [B false, .d (.v (.int .u64 0)), .d (.v (.int .u64 0)), I 0], .row 74 1 y11.1.length (y11.1.flatMap (eT 93 10 e_laneref1_sent))] (callable Try.func45 rfl rfl) (c_laneref1_Translator_same hy35) rfl rfl rfl rfl rfl rfl rfl rfl rfl rfl) ?_
            refine go_E hΓ 1 rfl ?_
            refine ge_fin ?_
            obtain rfl := Option.some.inj h36
            exact ⟨⟨rfl, rfl, rfl, rfl, rfl, rfl, rfl, rfl, rfl, rfl, rfl, rfl, trivial⟩, [], rfl, .inl rfl⟩
          · have h37 := cF h31 hb
            refine go_E hΓ 8 rfl ?_
            refine ge_fin ?_
            obtain rfl := Option.some.inj h37
            exact ⟨⟨rfl, rfl, rfl, rfl, rfl, rfl, rfl, rfl, rfl, rfl, rfl, rfl, trivial⟩, [], rfl, .inl rfl⟩
        · refine go hΓ 1 rfl ?_
          refine j_cond rfl (fun hb => ?_) (fun hb => ?_)
          · have h38 := cT h29 hb
            obtain ⟨x39, hx39, h40⟩ := bi_ok h38
            refine go hΓ 2 rfl ?_
            refine eo_o rfl (op_elemZ hΓ (enc := e_laneref1_sent) hx39 rfl rfl rfl rfl rfl (fun _ => rfl)) ?_
            refine go_ops hΓ 10 rfl ?_
            obtain rfl := Option.some.inj h40
            exact ⟨⟨rfl, rfl, rfl, rfl, rfl, rfl, rfl, rfl, rfl, get_eq rfl (w64_succ (by omega)), trivial⟩, [], rfl, .inl rfl⟩
          · have h41 := cF h29 hb
            refine go hΓ 7 rfl ?_
            obtain rfl := Option.some.inj h41
            exact ⟨⟨rfl, rfl, rfl, rfl, rfl, rfl, rfl, rfl, rfl, get_eq rfl (w64_succ (by omega)), trivial⟩, [], rfl, .inl rfl⟩
      · refine go hΓ 6 rfl ?_
        refine j_condF rfl (decide_eq_false hge) ?_
        refine go hΓ 4 rfl ?_
        exact ⟨⟨rfl, rfl, rfl, rfl, rfl, rfl, rfl, trivial⟩, [], rfl, .inl rfl⟩
    · obtain ⟨q42, hq42, h43⟩ := bi_ok h17
      refine go hΓ 8 rfl ?_
      refine j_cutSZ (q := q42) (fun a44 => [(0, .ptr 1 0), (1, I v_at), (6, .ptr 4 0), (7, .ptr 5 0), (8, .ptr 6 0), (12, I a44.2)]) (fun a44 => [.dead, .box 76 [I t.n.Maps, I t.n.Lets, I t.n.Timeout, I t.n.First, I t.n.Ports, B t.n.Outer.Six, .d (.v (.int .u64 t.n.Outer.Hi)), .d (.v (.int .u64 t.n.Outer.Lo)), .sl 3 t.out.length, I a44.1, I t.now], .bag y11.2, .row 93 10 t.out.length (t.out.flatMap e_laneref1_sent), .box 45 [B v_from.Addr.Six, .d (.v (.int .u64 v_from.Addr.Hi)), .d (.v (.int .u64 v_from.Addr.Lo)), I v_from.Port], .box 45 [B to.Addr.Six, .d (.v (.int .u64 to.Addr.Hi)), .d (.v (.int .u64 to.Addr.Lo)), I to.Port], .box 45 [B false, .d (.v (.int .u64 0)), .d (.v (.int .u64 0)), I 0], .row 74 1 y11.1.length (y11.1.flatMap (eT 93 10 e_laneref1_sent))]) ?_ ?_
      · refine j_cond rfl (fun hb => ?_) (fun hb => ?_)
        · have h45 := cT hq42 hb
          refine go hΓ 8 rfl ?_
          refine j_cond rfl (fun hb => ?_) (fun hb => ?_)
          · have h46 := cT h45 hb
            refine go hΓ 2 rfl ?_
            refine eo_build hΓ (gs := [B false, .d (.v (.int .u64 0)), .d (.v (.int .u64 0)), I 0]) rfl rfl rfl rfl rfl rfl rfl ?_
            refine eo_store hΓ rfl rfl rfl rfl rfl rfl rfl rfl (Nat.le_of_ble_eq_true rfl) ?_
            refine eo_hp [.dead, .box 76 [I t.n.Maps, I t.n.Lets, I t.n.Timeout, I t.n.First, I t.n.Ports, B t.n.Outer.Six, .d (.v (.int .u64 t.n.Outer.Hi)), .d (.v (.int .u64 t.n.Outer.Lo)), .sl 3 t.out.length, I t.last, I t.now], .bag y11.2, .row 93 10 t.out.length (t.out.flatMap e_laneref1_sent), .box 45 [B v_from.Addr.Six, .d (.v (.int .u64 v_from.Addr.Hi)), .d (.v (.int .u64 v_from.Addr.Lo)), I v_from.Port], .box 45 [B to.Addr.Six, .d (.v (.int .u64 to.Addr.Hi)), .d (.v (.int .u64 to.Addr.Lo)), I to.Port], .box 45 [B false, .d (.v (.int .u64 0)), .d (.v (.int .u64 0)), I 0], .row 74 1 y11.1.length (y11.1.flatMap (eT 93 10 e_laneref1_sent))] rfl ?_
            refine go_ops hΓ 5 rfl ?_
            obtain ⟨v47, hv47, h48⟩ := bi_ok h46
            obtain rfl := Option.some.inj h48
            obtain rfl := Option.some.inj h43
            refine go hΓ 2 rfl ?_
            refine cv_here ?_
            obtain rfl := Option.some.inj hv47
            exact fin_objs hΓ [_, _, _, _] (.inr rfl) rfl rfl rfl rfl (.inr ⟨HB.mk rfl, rfl⟩)
          · have h49 := cF h45 hb
            obtain ⟨q50, hq50, h51⟩ := bi_ok h49
            refine go hΓ 22 rfl ?_
            refine j_cutNZ [(0, .ptr 1 0), (1, I v_at), (6, .ptr 4 0), (7, .ptr 5 0), (8, .ptr 6 0), (11, .sl 7 y11.1.length), (12, I q16), (15, I q50)] [.dead, .box 76 [I t.n.Maps, I t.n.Lets, I t.n.Timeout, I t.n.First, I t.n.Ports, B t.n.Outer.Six, .d (.v (.int .u64 t.n.Outer.Hi)), .d (.v (.int .u64 t.n.Outer.Lo)), .sl 3 t.out.length, I t.last, I t.now], .bag y11.2, .row 93 10 t.out.length (t.out.flatMap e_laneref1_sent), .box 45 [B v_from.Addr.Six, .d (.v (.int .u64 v_from.Addr.Hi)), .d (.v (.int .u64 v_from.Addr.Lo)), I v_from.Port], .box 45 [B to.Addr.Six, .d (.v (.int .u64 to.Addr.Hi)), .d (.v (.int .u64 to.Addr.Lo)), I to.Port], .box 45 [B false, .d (.v (.int .u64 0)), .d (.v (.int .u64 0)), I 0], .row 74 1 y11.1.length (y11.1.flatMap (eT 93 10 e_laneref1_sent))] ?_ ?_
            · refine j_cond rfl (fun hb => ?_) (fun hb => ?_)
              · have h52 := cT hq50 hb
                refine go hΓ 8 rfl ?_
                obtain rfl := Option.some.inj h52
                exact ⟨⟨rfl, rfl, rfl, rfl, rfl, rfl, rfl, rfl, trivial⟩, [], rfl, .inl rfl⟩
              · have h53 := cF hq50 hb
                refine go hΓ 1 rfl ?_
                obtain rfl := Option.some.inj h53
                exact ⟨⟨rfl, rfl, rfl, rfl, rfl, rfl, rfl, rfl, trivial⟩, [], rfl, .inl rfl⟩
            · refine go hΓ 12 rfl ?_
              obtain ⟨q57, hq57, h58⟩ := bi_ok h51
              obtain ⟨hb60, h61⟩ := gd_ok hq57
              replace hb60 := of_decide_eq_true hb60
              obtain ⟨q62, hq62, h63⟩ := bi_ok h58
              refine j_cutNZ [(0, .ptr 1 0), (1, I v_at), (6, .ptr 4 0), (7, .ptr 5 0), (8, .ptr 6 0), (12, I q62)] [.dead, .box 76 [I t.n.Maps, I t.n.Lets, I t.n.Timeout, I t.n.First, I t.n.Ports, B t.n.Outer.Six, .d (.v (.int .u64 t.n.Outer.Hi)), .d (.v (.int .u64 t.n.Outer.Lo)), .sl 3 t.out.length, I t.last, I t.now], .bag y11.2, .row 93 10 t.out.length (t.out.flatMap e_laneref1_sent), .box 45 [B v_from.Addr.Six, .d (.v (.int .u64 v_from.Addr.Hi)), .d (.v (.int .u64 v_from.Addr.Lo)), I v_from.Port], .box 45 [B to.Addr.Six, .d (.v (.int .u64 to.Addr.Hi)), .d (.v (.int .u64 to.Addr.Lo)), I to.Port], .box 45 [B false, .d (.v (.int .u64 0)), .d (.v (.int .u64 0)), I 0], .row 74 1 y11.1.length (y11.1.flatMap (eT 93 10 e_laneref1_sent))] ?_ ?_
              · refine go hΓ 1 rfl ?_
                refine j_rangeI h61 (fun i54 s55 => [(0, .ptr 1 0), (1, I v_at), (6, .ptr 4 0), (7, .ptr 5 0), (8, .ptr 6 0), (11, .sl 7 y11.1.length), (12, I q16), (15, I q50), (85, I t.n.Ports), (86, I (i54 : Int))]) (fun s55 => [.dead, .box 76 [I t.n.Maps, I t.n.Lets, I t.n.Timeout, I t.n.First, I t.n.Ports, B t.n.Outer.Six, .d (.v (.int .u64 t.n.Outer.Hi)), .d (.v (.int .u64 t.n.Outer.Lo)), .sl 3 t.out.length, I t.last, I t.now], .bag y11.2, .row 93 10 t.out.length (t.out.flatMap e_laneref1_sent), .box 45 [B v_from.Addr.Six, .d (.v (.int .u64 v_from.Addr.Hi)), .d (.v (.int .u64 v_from.Addr.Lo)), I v_from.Port], .box 45 [B to.Addr.Six, .d (.v (.int .u64 to.Addr.Hi)), .d (.v (.int .u64 to.Addr.Lo)), I to.Port], .box 45 [B false, .d (.v (.int .u64 0)), .d (.v (.int .u64 0)), I 0], .row 74 1 y11.1.length (y11.1.flatMap (eT 93 10 e_laneref1_sent))]) ⟨⟨rfl, rfl, rfl, rfl, rfl, rfl, rfl, rfl, rfl, rfl, trivial⟩, [], rfl, .inl rfl⟩ (fun i54 s55 y67 hlt hy65 hout66 => ?_) (fun s55 hgo hge => ?_)
                · refine go hΓ 6 rfl ?_
                  refine j_condT rfl (decide_eq_true hlt) ?_
                  refine go hΓ 11 rfl ?_
                  refine j_drawE [.dead, .box 76 [I t.n.Maps, I t.n.Lets, I t.n.Timeout, I t.n.First, I t.n.Ports, B t.n.Outer.Six, .d (.v (.int .u64 t.n.Outer.Hi)), .d (.v (.int .u64 t.n.Outer.Lo)), .sl 3 t.out.length, I t.last, I t.now]] [4, 10, 18] [21, 22] [] hmix (by kernel_rfl) (by kernel_rfl) ⟨rfl, trivial⟩ (Nat.le_of_ble_eq_true rfl) ?_
                  obtain ⟨y68, hy68, h69⟩ := bi_ok hy65
                  refine go_E hΓ 19 rfl ?_
                  refine ge_q rfl (.inl rfl) (fun _ _ => qte_of_qt (qt_p (op_remZ hy68 rfl rfl))) ?_
                  refine go_E hΓ 1 rfl ?_
                  refine ge_h [.dead, .box 76 [I t.n.Maps, I t.n.Lets, I t.n.Timeout, I t.n.First, I t.n.Ports, B t.n.Outer.Six, .d (.v (.int .u64 t.n.Outer.Hi)), .d (.v (.int .u64 t.n.Outer.Lo)), .sl 3 t.out.length, I t.last, I t.now], .bag y11.2, .row 93 10 t.out.length (t.out.flatMap e_laneref1_sent), .box 45 [B v_from.Addr.Six, .d (.v (.int .u64 v_from.Addr.Hi)), .d (.v (.int .u64 v_from.Addr.Lo)), I v_from.Port], .box 45 [B to.Addr.Six, .d (.v (.int .u64 to.Addr.Hi)), .d (.v (.int .u64 to.Addr.Lo)), I to.Port], .box 45 [B false, .d (.v (.int .u64 0)), .d (.v (.int .u64 0)), I 0], .row 74 1 y11.1.length (y11.1.flatMap (eT 93 10 e_laneref1_sent)), .box 3 [I 0]] rfl rfl rfl (st_st ⟨rfl, trivial⟩) (qte_s (ops_alloc hΓ (hi := show Γ 3 = some ⟨_, _, _, _⟩ from rfl) rfl)) ?_
                  refine ge_h0 [.dead, .box 76 [I t.n.Maps, I t.n.Lets, I t.n.Timeout, I t.n.First, I t.n.Ports, B t.n.Outer.Six, .d (.v (.int .u64 t.n.Outer.Hi)), .d (.v (.int .u64 t.n.Outer.Lo)), .sl 3 t.out.length, I t.last, I t.now], .bag y11.2, .row 93 10 t.out.length (t.out.flatMap e_laneref1_sent), .box 45 [B v_from.Addr.Six, .d (.v (.int .u64 v_from.Addr.Hi)), .d (.v (.int .u64 v_from.Addr.Lo)), I v_from.Port], .box 45 [B to.Addr.Six, .d (.v (.int .u64 to.Addr.Hi)), .d (.v (.int .u64 to.Addr.Lo)), I to.Port], .box 45 [B false, .d (.v (.int .u64 0)), .d (.v (.int .u64 0)), I 0], .row 74 1 y11.1.length (y11.1.flatMap (eT 93 10 e_laneref1_sent)), .box 3 [I (wi (t.n.First + y68))]] rfl rfl (st_st ⟨rfl, trivial⟩) (qte_u (opu_store2 hΓ rfl rfl rfl rfl rfl rfl rfl rfl rfl)) ?_
                  refine ge_fin ?_
                  obtain ⟨y70, hy70, h71⟩ := bi_ok h69
                  refine go hΓ 5 rfl ?_
                  refine eo_callF [7, 8] (B y70) [.dead, .box 76 [I t.n.Maps, I t.n.Lets, I t.n.Timeout, I t.n.First, I t.n.Ports, B t.n.Outer.Six, .d (.v (.int .u64 t.n.Outer.Hi)), .d (.v (.int .u64 t.n.Outer.Lo)), .sl 3 t.out.length, I t.last, I t.now], .bag y11.2, .row 93 10 t.out.length (t.out.flatMap e_laneref1_sent), .box 45 [B v_from.Addr.Six, .d (.v (.int .u64 v_from.Addr.Hi)), .d (.v (.int .u64 v_from.Addr.Lo)), I v_from.Port], .box 45 [B to.Addr.Six, .d (.v (.int .u64 to.Addr.Hi)), .d (.v (.int .u64 to.Addr.Lo)), I to.Port], .box 45 [B false, .d (.v (.int .u64 0)), .d (.v (.int .u64 0)), I 0], .row 74 1 y11.1.length (y11.1.flatMap (eT 93 10 e_laneref1_sent)), .box 3 [I (wi (t.n.First + y68))]] (callable Try.func46 rfl rfl) (c_slices_ContainsFunc_laneref1_sent_laneref1_sent hy70) rfl (Nat.le_of_ble_eq_true rfl) rfl rfl rfl rfl rfl rfl rfl rfl rfl rfl ?_
                  refine go_ops hΓ 3 rfl ?_
                  refine j_cond rfl (fun hb => ?_) (fun hb => ?_)
                  · have h72 := cT h71 hb
                    refine go hΓ 11 rfl ?_
                    obtain rfl := Option.some.inj h72
                    obtain rfl := hout66 _ rfl
                    obtain rfl := Option.some.inj hq62
                    exact ⟨⟨rfl, rfl, rfl, rfl, rfl, rfl, trivial⟩, [_], rfl, .inr ⟨HB.mk rfl, FB.mk rfl, (Nat.le_of_ble_eq_true rfl)⟩⟩
                  · have h73 := cF h71 hb
                    refine go hΓ 7 rfl ?_
                    obtain rfl := Option.some.inj h73
                    exact ⟨_, rfl, ⟨⟨rfl, rfl, rfl, rfl, rfl, rfl, rfl, rfl, rfl, get_eq rfl (w64_succ (by omega)), trivial⟩, [_], rfl, .inr ⟨HB.mk rfl, FB.mk rfl, (Nat.le_of_ble_eq_true rfl)⟩⟩⟩
                · subst hgo
                  refine go hΓ 6 rfl ?_
                  refine j_condF rfl (decide_eq_false hge) ?_
                  refine go hΓ 4 rfl ?_
                  obtain rfl := Option.some.inj hq62
                  exact ⟨⟨rfl, rfl, rfl, rfl, rfl, rfl, trivial⟩, [], rfl, .inl rfl⟩
              · refine go hΓ 8 rfl ?_
                refine j_cond rfl (fun hb => ?_) (fun hb => ?_)
                · have h74 := cT h63 hb
                  refine go hΓ 2 rfl ?_
                  refine eo_build hΓ (gs := [B false, .d (.v (.int .u64 0)), .d (.v (.int .u64 0)), I 0]) rfl rfl rfl rfl rfl rfl rfl ?_
                  refine eo_store hΓ rfl rfl rfl rfl rfl rfl rfl rfl (Nat.le_of_ble_eq_true rfl) ?_
                  refine eo_hp [.dead, .box 76 [I t.n.Maps, I t.n.Lets, I t.n.Timeout, I t.n.First, I t.n.Ports, B t.n.Outer.Six, .d (.v (.int .u64 t.n.Outer.Hi)), .d (.v (.int .u64 t.n.Outer.Lo)), .sl 3 t.out.length, I t.last, I t.now], .bag y11.2, .row 93 10 t.out.length (t.out.flatMap e_laneref1_sent), .box 45 [B v_from.Addr.Six, .d (.v (.int .u64 v_from.Addr.Hi)), .d (.v (.int .u64 v_from.Addr.Lo)), I v_from.Port], .box 45 [B to.Addr.Six, .d (.v (.int .u64 to.Addr.Hi)), .d (.v (.int .u64 to.Addr.Lo)), I to.Port], .box 45 [B false, .d (.v (.int .u64 0)), .d (.v (.int .u64 0)), I 0], .row 74 1 y11.1.length (y11.1.flatMap (eT 93 10 e_laneref1_sent))] rfl ?_
                  refine go_ops hΓ 5 rfl ?_
                  obtain ⟨v75, hv75, h76⟩ := bi_ok h74
                  obtain rfl := Option.some.inj h76
                  obtain rfl := Option.some.inj h43
                  refine go hΓ 2 rfl ?_
                  refine cv_here ?_
                  obtain rfl := Option.some.inj hv75
                  exact fin_objs hΓ [_, _, _, _] (.inr rfl) rfl rfl rfl rfl (.inr ⟨HB.mk rfl, rfl⟩)
                · have h77 := cF h63 hb
                  refine go hΓ 7 rfl ?_
                  refine eo_store hΓ rfl rfl rfl rfl rfl rfl rfl rfl (Nat.le_of_ble_eq_true rfl) ?_
                  refine eo_hp [.dead, .box 76 [I t.n.Maps, I t.n.Lets, I t.n.Timeout, I t.n.First, I t.n.Ports, B t.n.Outer.Six, .d (.v (.int .u64 t.n.Outer.Hi)), .d (.v (.int .u64 t.n.Outer.Lo)), .sl 3 t.out.length, I q62, I t.now], .bag y11.2, .row 93 10 t.out.length (t.out.flatMap e_laneref1_sent), .box 45 [B v_from.Addr.Six, .d (.v (.int .u64 v_from.Addr.Hi)), .d (.v (.int .u64 v_from.Addr.Lo)), I v_from.Port], .box 45 [B to.Addr.Six, .d (.v (.int .u64 to.Addr.Hi)), .d (.v (.int .u64 to.Addr.Lo)), I to.Port], .box 45 [B false, .d (.v (.int .u64 0)), .d (.v (.int .u64 0)), I 0], .row 74 1 y11.1.length (y11.1.flatMap (eT 93 10 e_laneref1_sent))] rfl ?_
                  refine go_ops hΓ 1 rfl ?_
                  obtain rfl := Option.some.inj h77
                  exact ⟨_, rfl, ⟨⟨rfl, rfl, rfl, rfl, rfl, rfl, trivial⟩, [], rfl, .inl rfl⟩⟩
        · have h78 := cF hq42 hb
          refine go hΓ 1 rfl ?_
          obtain rfl := Option.some.inj h78
          exact ⟨_, rfl, ⟨⟨rfl, rfl, rfl, rfl, rfl, rfl, trivial⟩, [], rfl, .inl rfl⟩⟩
      · intro a44 ha
        subst ha
        replace h43 := orI_l h43
        refine go hΓ 2 rfl ?_
        refine j_drawE [.dead, .box 76 [I t.n.Maps, I t.n.Lets, I t.n.Timeout, I t.n.First, I t.n.Ports, B t.n.Outer.Six, .d (.v (.int .u64 t.n.Outer.Hi)), .d (.v (.int .u64 t.n.Outer.Lo)), .sl 3 t.out.length, I a44.1, I t.now], .dead, .dead, .box 45 [B v_from.Addr.Six, .d (.v (.int .u64 v_from.Addr.Hi)), .d (.v (.int .u64 v_from.Addr.Lo)), I v_from.Port], .box 45 [B to.Addr.Six, .d (.v (.int .u64 to.Addr.Hi)), .d (.v (.int .u64 to.Addr.Lo)), I to.Port]] [5, 7, 8] [12, 16, 19] [12, 16, 19] hmix (by kernel_rfl) (by kernel_rfl) ⟨rfl, rfl, rfl, trivial⟩ (Nat.le_of_ble_eq_true rfl) ?_
        refine go_E hΓ 10 rfl ?_
        refine ge_q rfl (.inl rfl) (fun _ _ => qte_of_qt (qt_p (op_build hΓ (gs := [I v_at, B v_from.Addr.Six, .d (.v (.int .u64 v_from.Addr.Hi)), .d (.v (.int .u64 v_from.Addr.Lo)), I v_from.Port, B to.Addr.Six, .d (.v (.int .u64 to.Addr.Hi)), .d (.v (.int .u64 to.Addr.Lo)), I to.Port, I a44.2]) rfl rfl rfl rfl rfl rfl))) ?_
        refine ge_litT hΓ (enc := e_laneref1_sent) [(⟨v_at, v_from, to, a44.2⟩ : T_laneref1_sent)] rfl rfl rfl rfl rfl rfl rfl rfl rfl rfl rfl rfl ?_
        obtain ⟨y79, hy79, h80⟩ := bi_ok h43
        refine ge_h [.dead, .box 76 [I t.n.Maps, I t.n.Lets, I t.n.Timeout, I t.n.First, I t.n.Ports, B t.n.Outer.Six, .d (.v (.int .u64 t.n.Outer.Hi)), .d (.v (.int .u64 t.n.Outer.Lo)), .junk, I a44.1, I t.now], .bag y11.2, .dead, .box 45 [B v_from.Addr.Six, .d (.v (.int .u64 v_from.Addr.Hi)), .d (.v (.int .u64 v_from.Addr.Lo)), I v_from.Port], .box 45 [B to.Addr.Six, .d (.v (.int .u64 to.Addr.Hi)), .d (.v (.int .u64 to.Addr.Lo)), I to.Port], .box 45 [B false, .d (.v (.int .u64 0)), .d (.v (.int .u64 0)), I 0], .row 74 1 y11.1.length (y11.1.flatMap (eT 93 10 e_laneref1_sent)), .row 93 10 y79.length (y79.flatMap e_laneref1_sent)] rfl rfl rfl (brk_st rfl) (qte_s (ops_forg 3 (ops_appendT hΓ (enc := e_laneref1_sent) (id := 3) (h2 := show Γ 93 = some ⟨_, 10, _, _⟩ from rfl) hy79 rfl rfl rfl rfl rfl rfl rfl rfl (fun _ => rfl) rfl))) ?_
        refine go_E hΓ 3 rfl ?_
        refine ge_h0 [.dead, .box 76 [I t.n.Maps, I t.n.Lets, I t.n.Timeout, I t.n.First, I t.n.Ports, B t.n.Outer.Six, .d (.v (.int .u64 t.n.Outer.Hi)), .d (.v (.int .u64 t.n.Outer.Lo)), .sl 8 y79.length, I a44.1, I t.now], .bag y11.2, .dead, .box 45 [B v_from.Addr.Six, .d (.v (.int .u64 v_from.Addr.Hi)), .d (.v (.int .u64 v_from.Addr.Lo)), I v_from.Port], .box 45 [B to.Addr.Six, .d (.v (.int .u64 to.Addr.Hi)), .d (.v (.int .u64 to.Addr.Lo)), I to.Port], .box 45 [B false, .d (.v (.int .u64 0)), .d (.v (.int .u64 0)), I 0], .row 74 1 y11.1.length (y11.1.flatMap (eT 93 10 e_laneref1_sent)), .row 93 10 y79.length (y79.flatMap e_laneref1_sent)] rfl rfl (brk_st rfl) (qte_u (opu_store2 hΓ rfl rfl rfl rfl rfl rfl rfl rfl rfl)) ?_
        refine go_E hΓ 2 rfl ?_
        refine ge_h0 [.dead, .box 76 [I t.n.Maps, I t.n.Lets, I t.n.Timeout, I t.n.First, I t.n.Ports, B t.n.Outer.Six, .d (.v (.int .u64 t.n.Outer.Hi)), .d (.v (.int .u64 t.n.Outer.Lo)), .sl 8 y79.length, I a44.1, I v_at], .bag y11.2, .dead, .box 45 [B v_from.Addr.Six, .d (.v (.int .u64 v_from.Addr.Hi)), .d (.v (.int .u64 v_from.Addr.Lo)), I v_from.Port], .box 45 [B to.Addr.Six, .d (.v (.int .u64 to.Addr.Hi)), .d (.v (.int .u64 to.Addr.Lo)), I to.Port], .box 45 [B false, .d (.v (.int .u64 0)), .d (.v (.int .u64 0)), I 0], .row 74 1 y11.1.length (y11.1.flatMap (eT 93 10 e_laneref1_sent)), .row 93 10 y79.length (y79.flatMap e_laneref1_sent)] rfl rfl (brk_st rfl) (qte_u (opu_store2 hΓ rfl rfl rfl rfl rfl rfl rfl rfl rfl)) ?_
        refine ge_fin ?_
        refine go hΓ 1 rfl ?_
        refine j_move 8 3 [.dead, .box 76 [I t.n.Maps, I t.n.Lets, I t.n.Timeout, I t.n.First, I t.n.Ports, B t.n.Outer.Six, .d (.v (.int .u64 t.n.Outer.Hi)), .d (.v (.int .u64 t.n.Outer.Lo)), .sl 3 y79.length, I a44.1, I v_at], .bag y11.2, .row 93 10 y79.length (y79.flatMap e_laneref1_sent), .box 45 [B v_from.Addr.Six, .d (.v (.int .u64 v_from.Addr.Hi)), .d (.v (.int .u64 v_from.Addr.Lo)), I v_from.Port], .box 45 [B to.Addr.Six, .d (.v (.int .u64 to.Addr.Hi)), .d (.v (.int .u64 to.Addr.Lo)), I to.Port], .box 45 [B false, .d (.v (.int .u64 0)), .d (.v (.int .u64 0)), I 0], .row 74 1 y11.1.length (y11.1.flatMap (eT 93 10 e_laneref1_sent)), .dead] rfl rfl rfl rfl rfl rfl ?_
        refine go hΓ 8 rfl ?_
        refine eo_build hΓ (gs := [B t.n.Outer.Six, .d (.v (.int .u64 t.n.Outer.Hi)), .d (.v (.int .u64 t.n.Outer.Lo)), I a44.2]) rfl rfl rfl rfl rfl rfl rfl ?_
        refine eo_store hΓ rfl rfl rfl rfl rfl rfl rfl rfl (Nat.le_of_ble_eq_true rfl) ?_
        refine eo_hp [.dead, .box 76 [I t.n.Maps, I t.n.Lets, I t.n.Timeout, I t.n.First, I t.n.Ports, B t.n.Outer.Six, .d (.v (.int .u64 t.n.Outer.Hi)), .d (.v (.int .u64 t.n.Outer.Lo)), .sl 3 y79.length, I a44.1, I v_at], .bag y11.2, .row 93 10 y79.length (y79.flatMap e_laneref1_sent), .box 45 [B v_from.Addr.Six, .d (.v (.int .u64 v_from.Addr.Hi)), .d (.v (.int .u64 v_from.Addr.Lo)), I v_from.Port], .box 45 [B to.Addr.Six, .d (.v (.int .u64 to.Addr.Hi)), .d (.v (.int .u64 to.Addr.Lo)), I to.Port], .box 45 [B t.n.Outer.Six, .d (.v (.int .u64 t.n.Outer.Hi)), .d (.v (.int .u64 t.n.Outer.Lo)), I a44.2], .row 74 1 y11.1.length (y11.1.flatMap (eT 93 10 e_laneref1_sent)), .dead] rfl ?_
        refine go_ops hΓ 4 rfl ?_
        refine cv_here ?_
        obtain rfl := Option.some.inj h80
        exact fin_objs hΓ [_, _, _, _, _] (.inr rfl) rfl rfl rfl rfl (.inr ⟨HB.mk rfl, rfl⟩)

theorem c_route_Translator_In_1 {s : T_api_Spot} {x : T_route_Translator} {x2 : T_api_Spot} {r : Bool} (h : m_route_Translator_In_1 s x x2 = some r) : EC Try.prog 50 [.agg [B s.Addr.Six, .d (.v (.int .u64 s.Addr.Hi)), .d (.v (.int .u64 s.Addr.Lo)), I s.Port], .ptr 2 0, .ptr 3 0] [.row 86 11 x.list.length (x.list.flatMap e_route_entry), .box 64 [I x.nat.Maps, I x.nat.Lets, I x.nat.Timeout, I x.nat.First, I x.nat.Ports, B x.nat.Outer.Six, .d (.v (.int .u64 x.nat.Outer.Hi)), .d (.v (.int .u64 x.nat.Outer.Lo)), I x.now, I x.v_next, .sl 0 x.list.length], .box 32 [.ptr 1 0], .box 45 [B x2.Addr.Six, .d (.v (.int .u64 x2.Addr.Hi)), .d (.v (.int .u64 x2.Addr.Lo)), I x2.Port]] fun g hp' => g = B r ∧ hp' = [.row 86 11 x.list.length (x.list.flatMap e_route_entry), .box 64 [I x.nat.Maps, I x.nat.Lets, I x.nat.Timeout, I x.nat.First, I x.nat.Ports, B x.nat.Outer.Six, .d (.v (.int .u64 x.nat.Outer.Hi)), .d (.v (.int .u64 x.nat.Outer.Lo)), I x.now, I x.v_next, .sl 0 x.list.length], .box 32 [.ptr 1 0], .box 45 [B x2.Addr.Six, .d (.v (.int .u64 x2.Addr.Hi)), .d (.v (.int .u64 x2.Addr.Lo)), I x2.Port]] := by
  refine ec_enter (Fr.of 0 _) Try.func50 rfl (Fr.of_ok _) (Nat.le_of_ble_eq_true rfl) fun _ => ?_
  refine go_in ?_
  unfold m_route_Translator_In_1 at h
  refine go hΓ 2 rfl ?_
  refine eo_box rfl rfl rfl rfl (Nat.le_of_ble_eq_true rfl) ?_
  refine go_ops hΓ 4 rfl ?_
  refine j_draw hmix (by kernel_rfl) ?_
  obtain ⟨y1, hy1, h2⟩ := bi_ok h
  refine go hΓ 6 rfl ?_
  refine gl_callP (callable Try.func39 rfl rfl) (c_route_seen hy1) rfl rfl rfl rfl rfl rfl ?_
  obtain ⟨y3, hy3, h4⟩ := bi_ok h2
  refine go_draw hΓ 6 rfl ?_
  refine gl_callP (callable Try.func39 rfl rfl) (c_route_seen hy3) rfl rfl rfl rfl rfl rfl ?_
  refine gl_o rfl (op_eqS hΓ [45, 28] (b := ((((y1.Addr.Six : Bool) == y3.Addr.Six) && (((y1.Addr.Hi : Int) == y3.Addr.Hi) && (((y1.Addr.Lo : Int) == y3.Addr.Lo) && true))) && (((y1.Port : Int) == y3.Port) && true))) (by kernel_rfl) (by kernel_rfl) rfl rfl rfl) ?_
  refine go_draw hΓ 4 rfl ?_
  obtain rfl := Option.some.inj h4
  exact fin_objs hΓ [_] (.inr rfl) rfl rfl rfl rfl (.inr ⟨HB.mk rfl, rfl⟩)

theorem c_slices_IndexFunc_api_Spot_api_Spot {s : List T_api_Spot} {f : T_route_Translator} {f2 : T_api_Spot} {r : Int} (h : m_slices_IndexFunc_api_Spot_api_Spot s f f2 = some r) : EC Try.prog 77 [.d (Sl e_api_Spot s), .fn (.func 50) [] [.ptr 2 0, .ptr 3 0]] [.row 86 11 f.list.length (f.list.flatMap e_route_entry), .box 64 [I f.nat.Maps, I f.nat.Lets, I f.nat.Timeout, I f.nat.First, I f.nat.Ports, B f.nat.Outer.Six, .d (.v (.int .u64 f.nat.Outer.Hi)), .d (.v (.int .u64 f.nat.Outer.Lo)), I f.now, I f.v_next, .sl 0 f.list.length], .box 32 [.ptr 1 0], .box 45 [B f2.Addr.Six, .d (.v (.int .u64 f2.Addr.Hi)), .d (.v (.int .u64 f2.Addr.Lo)), I f2.Port]] fun g hp' => g = I r ∧ hp' = [.row 86 11 f.list.length (f.list.flatMap e_route_entry), .box 64 [I f.nat.Maps, I f.nat.Lets, I f.nat.Timeout, I f.nat.First, I f.nat.Ports, B f.nat.Outer.Six, .d (.v (.int .u64 f.nat.Outer.Hi)), .d (.v (.int .u64 f.nat.Outer.Lo)), I f.now, I f.v_next, .sl 0 f.list.length], .box 32 [.ptr 1 0], .box 45 [B f2.Addr.Six, .d (.v (.int .u64 f2.Addr.Hi)), .d (.v (.int .u64 f2.Addr.Lo)), I f2.Port]] := by
  refine ec_enter (Fr.of 0 _) Try.func77 rfl (Fr.of_ok _) (Nat.le_of_ble_eq_true rfl) fun _ => ?_
  refine go_in ?_
  unfold m_slices_IndexFunc_api_Spot_api_Spot at h
  refine go hΓ 13 rfl ?_
  obtain ⟨q4, hq4, h5⟩ := bi_ok h
  refine j_bound 0 rfl fun hb7 => ?_
  refine j_cutEZ (R := fun a6 => q4 = .go a6) (fun a6 => []) (fun a6 => [.row 86 11 f.list.length (f.list.flatMap e_route_entry), .box 64 [I f.nat.Maps, I f.nat.Lets, I f.nat.Timeout, I f.nat.First, I f.nat.Ports, B f.nat.Outer.Six, .d (.v (.int .u64 f.nat.Outer.Hi)), .d (.v (.int .u64 f.nat.Outer.Lo)), I f.now, I f.v_next, .sl 0 f.list.length], .box 32 [.ptr 1 0], .box 45 [B f2.Addr.Six, .d (.v (.int .u64 f2.Addr.Hi)), .d (.v (.int .u64 f2.Addr.Lo)), I f2.Port]]) ?_ ?_
  · refine go hΓ 1 rfl ?_
    refine j_range s hq4 (fun i1 s2 => [(0, .d (Sl e_api_Spot s)), (1, .fn (.func 50) [] [.ptr 2 0, .ptr 3 0]), (7, I (s.length : Int)), (8, I (i1 : Int))]) (fun s2 => [.row 86 11 f.list.length (f.list.flatMap e_route_entry), .box 64 [I f.nat.Maps, I f.nat.Lets, I f.nat.Timeout, I f.nat.First, I f.nat.Ports, B f.nat.Outer.Six, .d (.v (.int .u64 f.nat.Outer.Hi)), .d (.v (.int .u64 f.nat.Outer.Lo)), I f.now, I f.v_next, .sl 0 f.list.length], .box 32 [.ptr 1 0], .box 45 [B f2.Addr.Six, .d (.v (.int .u64 f2.Addr.Hi)), .d (.v (.int .u64 f2.Addr.Lo)), I f2.Port]]) ⟨⟨rfl, rfl, rfl, rfl, trivial⟩, [], rfl, .inl rfl⟩ (fun i1 x3 s2 y11 hx8 hlt hy9 hout10 => ?_) (fun s2 hgo => ?_)
    · refine go hΓ 6 rfl ?_
      refine j_condT rfl (decide_eq_true (Int.ofNat_lt.2 hlt)) ?_
      refine go hΓ 15 rfl ?_
      refine eo_o rfl (op_elemZ hΓ (enc := e_api_Spot) (getZ_nat hx8) rfl rfl rfl rfl rfl (fun _ => rfl)) ?_
      obtain ⟨y12, hy12, h13⟩ := bi_ok hy9
      refine go_ops hΓ 1 rfl ?_
      refine eo_callF [0, 1, 2, 3] (B y12) [.row 86 11 f.list.length (f.list.flatMap e_route_entry), .box 64 [I f.nat.Maps, I f.nat.Lets, I f.nat.Timeout, I f.nat.First, I f.nat.Ports, B f.nat.Outer.Six, .d (.v (.int .u64 f.nat.Outer.Hi)), .d (.v (.int .u64 f.nat.Outer.Lo)), I f.now, I f.v_next, .sl 0 f.list.length], .box 32 [.ptr 1 0], .box 45 [B f2.Addr.Six, .d (.v (.int .u64 f2.Addr.Hi)), .d (.v (.int .u64 f2.Addr.Lo)), I f2.Port]] (callable Try.func50 rfl rfl) (c_route_Translator_In_1 hy12) rfl (Nat.le_of_ble_eq_true rfl) rfl rfl rfl rfl rfl rfl rfl rfl rfl rfl ?_
      refine go_ops hΓ 2 rfl ?_
      refine j_cond rfl (fun hb => ?_) (fun hb => ?_)
      · have h14 := cT h13 hb
        refine go hΓ 9 rfl ?_
        obtain ⟨v15, hv15, h16⟩ := bi_ok h14
        obtain rfl := Option.some.inj h16
        obtain rfl := hout10 _ rfl
        obtain rfl := Option.some.inj h5
        refine go hΓ 4 rfl ?_
        obtain rfl := Option.some.inj hv15
        exact fin_objs hΓ [] (.inr rfl) rfl rfl rfl rfl (.inl rfl)
      · have h17 := cF h13 hb
        refine go hΓ 7 rfl ?_
        obtain rfl := Option.some.inj h17
        exact ⟨_, rfl, ⟨⟨rfl, rfl, rfl, get_eq rfl (w64_succ (Nat.lt_of_lt_of_le hlt hb7)), trivial⟩, [], rfl, .inl rfl⟩⟩
    · subst hgo
      refine go hΓ 6 rfl ?_
      refine j_condF rfl (decide_eq_false (Int.lt_irrefl _)) ?_
      refine go hΓ 4 rfl ?_
      exact ⟨_, rfl, ⟨trivial, [], rfl, .inl rfl⟩⟩
  · intro a6 ha
    subst ha
    replace h5 := goI_l h5
    refine go hΓ 7 rfl ?_
    obtain rfl := Option.some.inj h5
    exact fin_objs hΓ [] (.inr rfl) rfl rfl rfl rfl (.inl rfl)

theorem c_slices_ContainsFunc_api_Spot_api_Spot {s : List T_api_Spot} {f : T_route_Translator} {f2 : T_api_Spot} {r : Bool} (h : m_slices_ContainsFunc_api_Spot_api_Spot s f f2 = some r) : EC Try.prog 49 [.d (Sl e_api_Spot s), .fn (.func 50) [] [.ptr 2 0, .ptr 3 0]] [.row 86 11 f.list.length (f.list.flatMap e_route_entry), .box 64 [I f.nat.Maps, I f.nat.Lets, I f.nat.Timeout, I f.nat.First, I f.nat.Ports, B f.nat.Outer.Six, .d (.v (.int .u64 f.nat.Outer.Hi)), .d (.v (.int .u64 f.nat.Outer.Lo)), I f.now, I f.v_next, .sl 0 f.list.length], .box 32 [.ptr 1 0], .box 45 [B f2.Addr.Six, .d (.v (.int .u64 f2.Addr.Hi)), .d (.v (.int .u64 f2.Addr.Lo)), I f2.Port]] fun g hp' => g = B r ∧ hp' = [.row 86 11 f.list.length (f.list.flatMap e_route_entry), .box 64 [I f.nat.Maps, I f.nat.Lets, I f.nat.Timeout, I f.nat.First, I f.nat.Ports, B f.nat.Outer.Six, .d (.v (.int .u64 f.nat.Outer.Hi)), .d (.v (.int .u64 f.nat.Outer.Lo)), I f.now, I f.v_next, .sl 0 f.list.length], .box 32 [.ptr 1 0], .box 45 [B f2.Addr.Six, .d (.v (.int .u64 f2.Addr.Hi)), .d (.v (.int .u64 f2.Addr.Lo)), I f2.Port]] := by
  refine ec_enter (Fr.of 0 _) Try.func49 rfl (Fr.of_ok _) (Nat.le_of_ble_eq_true rfl) fun _ => ?_
  refine go_in ?_
  unfold m_slices_ContainsFunc_api_Spot_api_Spot at h
  obtain ⟨y1, hy1, h2⟩ := bi_ok h
  refine go hΓ 9 rfl ?_
  refine eo_callF [0, 1, 2, 3] (I y1) [.row 86 11 f.list.length (f.list.flatMap e_route_entry), .box 64 [I f.nat.Maps, I f.nat.Lets, I f.nat.Timeout, I f.nat.First, I f.nat.Ports, B f.nat.Outer.Six, .d (.v (.int .u64 f.nat.Outer.Hi)), .d (.v (.int .u64 f.nat.Outer.Lo)), I f.now, I f.v_next, .sl 0 f.list.length], .box 32 [.ptr 1 0], .box 45 [B f2.Addr.Six, .d (.v (.int .u64 f2.Addr.Hi)), .d (.v (.int .u64 f2.Addr.Lo)), I f2.Port]] (callable Try.func77 rfl rfl) (c_slices_IndexFunc_api_Spot_api_Spot hy1) rfl (Nat.le_of_ble_eq_true rfl) rfl rfl rfl rfl rfl rfl rfl rfl rfl rfl ?_
  refine go_ops hΓ 5 rfl ?_
  obtain rfl := Option.some.inj h2
  exact fin_objs hΓ [] (.inr rfl) rfl rfl rfl rfl (.inl rfl)

theorem c_route_Translator_In {k : Nat} {t : T_route_Translator} {v_at : Int} {v_from : T_api_Spot} {port : Int} {r : T_api_Spot × Bool × Int × T_route_Translator} (h : m_route_Translator_In k t v_at v_from port = some r) : EC Try.prog 17 [.ptr 1 0, I v_at, .agg [B v_from.Addr.Six, .d (.v (.int .u64 v_from.Addr.Hi)), .d (.v (.int .u64 v_from.Addr.Lo)), I v_from.Port], I port] [.row 86 11 t.list.length (t.list.flatMap e_route_entry), .box 64 [I t.nat.Maps, I t.nat.Lets, I t.nat.Timeout, I t.nat.First, I t.nat.Ports, B t.nat.Outer.Six, .d (.v (.int .u64 t.nat.Outer.Hi)), .d (.v (.int .u64 t.nat.Outer.Lo)), I t.now, I t.v_next, .sl 0 t.list.length]] fun g hp' => g = .tup [.agg [B r.1.Addr.Six, .d (.v (.int .u64 r.1.Addr.Hi)), .d (.v (.int .u64 r.1.Addr.Lo)), I r.1.Port], B r.2.1, I r.2.2.1] ∧ hp' = [.row 86 11 r.2.2.2.list.length (r.2.2.2.list.flatMap e_route_entry), .box 64 [I r.2.2.2.nat.Maps, I r.2.2.2.nat.Lets, I r.2.2.2.nat.Timeout, I r.2.2.2.nat.First, I r.2.2.2.nat.Ports, B r.2.2.2.nat.Outer.Six, .d (.v (.int .u64 r.2.2.2.nat.Outer.Hi)), .d (.v (.int .u64 r.2.2.2.nat.Outer.Lo)), I r.2.2.2.now, I r.2.2.2.v_next, .sl 0 r.2.2.2.list.length]] := by
  refine ec_enterC (Fr.of 0 _) Try.func17 rfl (Fr.of_ok _) (Nat.le_of_ble_eq_true rfl) fun _ => ?_
  refine go_in ?_
  unfold m_route_Translator_In at h
  refine go hΓ 2 rfl ?_
  refine eo_box rfl rfl rfl rfl (Nat.le_of_ble_eq_true rfl) ?_
  refine eo_box rfl rfl rfl rfl (Nat.le_of_ble_eq_true rfl) ?_
  refine eo_alloc hΓ rfl rfl rfl (Nat.le_of_ble_eq_true rfl) ?_
  obtain ⟨y1, hy1, h2⟩ := bi_ok h
  refine go_ops hΓ 9 rfl ?_
  refine eo_callF [0, 1] (I y1) [.row 86 11 t.list.length (t.list.flatMap e_route_entry), .box 64 [I t.nat.Maps, I t.nat.Lets, I t.nat.Timeout, I t.nat.First, I t.nat.Ports, B t.nat.Outer.Six, .d (.v (.int .u64 t.nat.Outer.Hi)), .d (.v (.int .u64 t.nat.Outer.Lo)), I t.now, I t.v_next, .sl 0 t.list.length], .box 32 [.ptr 1 0], .box 45 [B v_from.Addr.Six, .d (.v (.int .u64 v_from.Addr.Hi)), .d (.v (.int .u64 v_from.Addr.Lo)), I v_from.Port], .box 45 [B false, .d (.v (.int .u64 0)), .d (.v (.int .u64 0)), I 0]] (callable Try.func33 rfl rfl) (c_route_Translator_timeFault hy1) rfl (Nat.le_of_ble_eq_true rfl) rfl rfl rfl rfl rfl rfl rfl rfl rfl rfl ?_
  refine go_ops hΓ 9 rfl ?_
  refine j_cond rfl (fun hb => ?_) (fun hb => ?_)
  · have h3 := cT h2 hb
    refine go hΓ 2 rfl ?_
    refine eo_build hΓ (gs := [B false, .d (.v (.int .u64 0)), .d (.v (.int .u64 0)), I 0]) rfl rfl rfl rfl rfl rfl rfl ?_
    refine go_ops hΓ 1 rfl ?_
    refine eo_store hΓ rfl rfl rfl rfl rfl rfl rfl rfl (Nat.le_of_ble_eq_true rfl) ?_
    refine eo_hp [.row 86 11 t.list.length (t.list.flatMap e_route_entry), .box 64 [I t.nat.Maps, I t.nat.Lets, I t.nat.Timeout, I t.nat.First, I t.nat.Ports, B t.nat.Outer.Six, .d (.v (.int .u64 t.nat.Outer.Hi)), .d (.v (.int .u64 t.nat.Outer.Lo)), I t.now, I t.v_next, .sl 0 t.list.length], .box 32 [.ptr 1 0], .box 45 [B v_from.Addr.Six, .d (.v (.int .u64 v_from.Addr.Hi)), .d (.v (.int .u64 v_from.Addr.Lo)), I v_from.Port], .box 45 [B false, .d (.v (.int .u64 0)), .d (.v (.int .u64 0)), I 0]] rfl ?_
    refine go_ops hΓ 6 rfl ?_
    refine cv_here ?_
    obtain rfl := Option.some.inj h3
    exact fin_objs hΓ [_, _, _] (.inr rfl) rfl rfl rfl rfl (.inr ⟨HB.mk rfl, rfl⟩)
  · have h4 := cF h2 hb
    obtain ⟨y5, hy5, h6⟩ := bi_ok h4
    refine go hΓ 6 rfl ?_
    refine eo_callP (callable Try.func34 rfl rfl) (c_route_spotFault hy5) rfl (Nat.le_of_ble_eq_true rfl) rfl rfl rfl rfl rfl ?_
    refine go_ops hΓ 9 rfl ?_
    refine j_cond rfl (fun hb => ?_) (fun hb => ?_)
    · have h7 := cT h6 hb
      refine go hΓ 2 rfl ?_
      refine eo_build hΓ (gs := [B false, .d (.v (.int .u64 0)), .d (.v (.int .u64 0)), I 0]) rfl rfl rfl rfl rfl rfl rfl ?_
      refine go_ops hΓ 1 rfl ?_
      refine eo_store hΓ rfl rfl rfl rfl rfl rfl rfl rfl (Nat.le_of_ble_eq_true rfl) ?_
      refine eo_hp [.row 86 11 t.list.length (t.list.flatMap e_route_entry), .box 64 [I t.nat.Maps, I t.nat.Lets, I t.nat.Timeout, I t.nat.First, I t.nat.Ports, B t.nat.Outer.Six, .d (.v (.int .u64 t.nat.Outer.Hi)), .d (.v (.int .u64 t.nat.Outer.Lo)), I t.now, I t.v_next, .sl 0 t.list.length], .box 32 [.ptr 1 0], .box 45 [B v_from.Addr.Six, .d (.v (.int .u64 v_from.Addr.Hi)), .d (.v (.int .u64 v_from.Addr.Lo)), I v_from.Port], .box 45 [B false, .d (.v (.int .u64 0)), .d (.v (.int .u64 0)), I 0]] rfl ?_
      refine go_ops hΓ 6 rfl ?_
      refine cv_here ?_
      obtain rfl := Option.some.inj h7
      exact fin_objs hΓ [_, _, _] (.inr rfl) rfl rfl rfl rfl (.inr ⟨HB.mk rfl, rfl⟩)
    · have h8 := cF h6 hb
      obtain ⟨y9, hy9, h10⟩ := bi_ok h8
      refine go hΓ 6 rfl ?_
      refine eo_callP (callable Try.func48 rfl rfl) (c_route_portFault hy9) rfl (Nat.le_of_ble_eq_true rfl) rfl rfl rfl rfl rfl ?_
      refine go_ops hΓ 9 rfl ?_
      refine j_cond rfl (fun hb => ?_) (fun hb => ?_)
      · have h11 := cT h10 hb
        refine go hΓ 2 rfl ?_
        refine eo_build hΓ (gs := [B false, .d (.v (.int .u64 0)), .d (.v (.int .u64 0)), I 0]) rfl rfl rfl rfl rfl rfl rfl ?_
        refine go_ops hΓ 1 rfl ?_
        refine eo_store hΓ rfl rfl rfl rfl rfl rfl rfl rfl (Nat.le_of_ble_eq_true rfl) ?_
        refine eo_hp [.row 86 11 t.list.length (t.list.flatMap e_route_entry), .box 64 [I t.nat.Maps, I t.nat.Lets, I t.nat.Timeout, I t.nat.First, I t.nat.Ports, B t.nat.Outer.Six, .d (.v (.int .u64 t.nat.Outer.Hi)), .d (.v (.int .u64 t.nat.Outer.Lo)), I t.now, I t.v_next, .sl 0 t.list.length], .box 32 [.ptr 1 0], .box 45 [B v_from.Addr.Six, .d (.v (.int .u64 v_from.Addr.Hi)), .d (.v (.int .u64 v_from.Addr.Lo)), I v_from.Port], .box 45 [B false, .d (.v (.int .u64 0)), .d (.v (.int .u64 0)), I 0]] rfl ?_
        refine go_ops hΓ 6 rfl ?_
        refine cv_here ?_
        obtain rfl := Option.some.inj h11
        exact fin_objs hΓ [_, _, _] (.inr rfl) rfl rfl rfl rfl (.inr ⟨HB.mk rfl, rfl⟩)
      · have h12 := cF h10 hb
        obtain ⟨y13, hy13, h14⟩ := bi_ok h12
        refine go hΓ 6 rfl ?_
        refine eo_callF [0, 1] (.tup []) [.row 86 11 y13.list.length (y13.list.flatMap e_route_entry), .box 64 [I y13.nat.Maps, I y13.nat.Lets, I y13.nat.Timeout, I y13.nat.First, I y13.nat.Ports, B y13.nat.Outer.Six, .d (.v (.int .u64 y13.nat.Outer.Hi)), .d (.v (.int .u64 y13.nat.Outer.Lo)), I y13.now, I y13.v_next, .sl 0 y13.list.length], .box 32 [.ptr 1 0], .box 45 [B v_from.Addr.Six, .d (.v (.int .u64 v_from.Addr.Hi)), .d (.v (.int .u64 v_from.Addr.Lo)), I v_from.Port], .box 45 [B false, .d (.v (.int .u64 0)), .d (.v (.int .u64 0)), I 0]] (callable Try.func37 rfl rfl) (c_route_Translator_pass hy13) rfl (Nat.le_of_ble_eq_true rfl) rfl rfl rfl rfl rfl rfl rfl rfl rfl rfl ?_
        refine go_ops hΓ 13 rfl ?_
        obtain ⟨q18, hq18, h19⟩ := bi_ok h14
        obtain ⟨hb21, h22⟩ := gd_ok hq18
        replace hb21 := of_decide_eq_true hb21
        refine j_cutEZ (R := fun a20 => q18 = .go a20) (fun a20 => [(8, .ptr 4 0)]) (fun a20 => [.row 86 11 y13.list.length (y13.list.flatMap e_route_entry), .box 64 [I y13.nat.Maps, I y13.nat.Lets, I y13.nat.Timeout, I y13.nat.First, I y13.nat.Ports, B y13.nat.Outer.Six, .d (.v (.int .u64 y13.nat.Outer.Hi)), .d (.v (.int .u64 y13.nat.Outer.Lo)), I y13.now, I y13.v_next, .sl 0 y13.list.length], .box 32 [.ptr 1 0], .box 45 [B v_from.Addr.Six, .d (.v (.int .u64 v_from.Addr.Hi)), .d (.v (.int .u64 v_from.Addr.Lo)), I v_from.Port], .box 45 [B false, .d (.v (.int .u64 0)), .d (.v (.int .u64 0)), I 0]]) ?_ ?_
        · refine go hΓ 1 rfl ?_
          refine j_rangeI h22 (fun i15 s16 => [(3, I port), (4, .ptr 2 0), (6, .ptr 3 0), (8, .ptr 4 0), (42, .sl 0 y13.list.length), (43, I (y13.list.length : Int)), (44, I (i15 : Int))]) (fun s16 => [.row 86 11 y13.list.length (y13.list.flatMap e_route_entry), .box 64 [I y13.nat.Maps, I y13.nat.Lets, I y13.nat.Timeout, I y13.nat.First, I y13.nat.Ports, B y13.nat.Outer.Six, .d (.v (.int .u64 y13.nat.Outer.Hi)), .d (.v (.int .u64 y13.nat.Outer.Lo)), I y13.now, I y13.v_next, .sl 0 y13.list.length], .box 32 [.ptr 1 0], .box 45 [B v_from.Addr.Six, .d (.v (.int .u64 v_from.Addr.Hi)), .d (.v (.int .u64 v_from.Addr.Lo)), I v_from.Port], .box 45 [B false, .d (.v (.int .u64 0)), .d (.v (.int .u64 0)), I 0]]) ⟨⟨rfl, rfl, rfl, rfl, rfl, rfl, rfl, trivial⟩, [], rfl, .inl rfl⟩ (fun i15 s16 y26 hlt hy24 hout25 => ?_) (fun s16 hgo hge => ?_)
          · refine go hΓ 6 rfl ?_
            refine j_condT rfl (decide_eq_true hlt) ?_
            obtain ⟨x27, hx27, h28⟩ := bi_ok hy24
            have hj29 := getZ_at hx27
            refine go hΓ 6 rfl ?_
            refine eo_o rfl (op_elemRowZ hΓ hx27 rfl rfl rfl rfl rfl rfl) ?_
            refine eo_o rfl (op_loadRowZ hΓ (enc := e_route_entry) ((i15 : Int).toNat) 0 hj29 rfl rfl rfl rfl (fun _ => rfl) (g := .agg [B x27.inner.Addr.Six, .d (.v (.int .u64 x27.inner.Addr.Hi)), .d (.v (.int .u64 x27.inner.Addr.Lo)), I x27.inner.Port, I x27.port, B x27.dep.Addr.Six, .d (.v (.int .u64 x27.dep.Addr.Hi)), .d (.v (.int .u64 x27.dep.Addr.Lo)), I x27.dep.Port, I x27.last, .d (Slt 45 4 e_api_Spot x27.sent)]) rfl) ?_
            refine eo_s (Nat.le_of_ble_eq_true rfl) (nblt.1 rfl) (ops_allocT hΓ [10] [B false, .d (.v (.int .u64 0)), .d (.v (.int .u64 0)), I 0, I 0, B false, .d (.v (.int .u64 0)), .d (.v (.int .u64 0)), I 0, I 0, .d (Slt 45 4 e_api_Spot (1, []))] (hi := show Γ 86 = some ⟨_, _, _, _⟩ from rfl) rfl ⟨.refl _, .refl _, .refl _, .refl _, .refl _, .refl _, .refl _, .refl _, .refl _, .refl _, G.Le.tagN, trivial⟩) ?_
            refine eo_hp [.row 86 11 y13.list.length (y13.list.flatMap e_route_entry), .box 64 [I y13.nat.Maps, I y13.nat.Lets, I y13.nat.Timeout, I y13.nat.First, I y13.nat.Ports, B y13.nat.Outer.Six, .d (.v (.int .u64 y13.nat.Outer.Hi)), .d (.v (.int .u64 y13.nat.Outer.Lo)), I y13.now, I y13.v_next, .sl 0 y13.list.length], .box 32 [.ptr 1 0], .box 45 [B v_from.Addr.Six, .d (.v (.int .u64 v_from.Addr.Hi)), .d (.v (.int .u64 v_from.Addr.Lo)), I v_from.Port], .box 45 [B false, .d (.v (.int .u64 0)), .d (.v (.int .u64 0)), I 0], .box 86 [B false, .d (.v (.int .u64 0)), .d (.v (.int .u64 0)), I 0, I 0, B false, .d (.v (.int .u64 0)), .d (.v (.int .u64 0)), I 0, I 0, .d (Slt 45 4 e_api_Spot (1, []))]] rfl ?_
            refine eo_store hΓ rfl rfl rfl rfl rfl rfl rfl rfl (Nat.le_of_ble_eq_true rfl) ?_
            refine eo_hp [.row 86 11 y13.list.length (y13.list.flatMap e_route_entry), .box 64 [I y13.nat.Maps, I y13.nat.Lets, I y13.nat.Timeout, I y13.nat.First, I y13.nat.Ports, B y13.nat.Outer.Six, .d (.v (.int .u64 y13.nat.Outer.Hi)), .d (.v (.int .u64 y13.nat.Outer.Lo)), I y13.now, I y13.v_next, .sl 0 y13.list.length], .box 32 [.ptr 1 0], .box 45 [B v_from.Addr.Six, .d (.v (.int .u64 v_from.Addr.Hi)), .d (.v (.int .u64 v_from.Addr.Lo)), I v_from.Port], .box 45 [B false, .d (.v (.int .u64 0)), .d (.v (.int .u64 0)), I 0], .box 86 [B x27.inner.Addr.Six, .d (.v (.int .u64 x27.inner.Addr.Hi)), .d (.v (.int .u64 x27.inner.Addr.Lo)), I x27.inner.Port, I x27.port, B x27.dep.Addr.Six, .d (.v (.int .u64 x27.dep.Addr.Hi)), .d (.v (.int .u64 x27.dep.Addr.Lo)), I x27.dep.Port, I x27.last, .d (Slt 45 4 e_api_Spot x27.sent)]] rfl ?_
            refine go_ops hΓ 11 rfl ?_
            refine j_cond rfl (fun hb => ?_) (fun hb => ?_)
            · have h30 := cT h28 hb
              refine go hΓ 8 rfl ?_
              obtain rfl := Option.some.inj h30
              exact ⟨_, rfl, ⟨⟨rfl, rfl, rfl, rfl, rfl, rfl, get_eq rfl (w64_succ (by omega)), trivial⟩, [_], rfl, .inr ⟨HB.mk rfl, FB.mk rfl, (Nat.le_of_ble_eq_true rfl)⟩⟩⟩
            · have h31 := cF h28 hb
              refine go hΓ 11 rfl ?_
              obtain ⟨q32, hq32, h33⟩ := bi_ok h31
              refine o_cut 5 [(3, I port), (4, .ptr 2 0), (6, .ptr 3 0), (8, .ptr 4 0), (15, .ptr 5 0), (42, .sl 0 y13.list.length), (43, I (y13.list.length : Int)), (44, I (i15 : Int)), (63, B q32)] [.row 86 11 y13.list.length (y13.list.flatMap e_route_entry), .box 64 [I y13.nat.Maps, I y13.nat.Lets, I y13.nat.Timeout, I y13.nat.First, I y13.nat.Ports, B y13.nat.Outer.Six, .d (.v (.int .u64 y13.nat.Outer.Hi)), .d (.v (.int .u64 y13.nat.Outer.Lo)), I y13.now, I y13.v_next, .sl 0 y13.list.length], .box 32 [.ptr 1 0], .box 45 [B v_from.Addr.Six, .d (.v (.int .u64 v_from.Addr.Hi)), .d (.v (.int .u64 v_from.Addr.Lo)), I v_from.Port], .box 45 [B false, .d (.v (.int .u64 0)), .d (.v (.int .u64 0)), I 0], .box 86 [B x27.inner.Addr.Six, .d (.v (.int .u64 x27.inner.Addr.Hi)), .d (.v (.int .u64 x27.inner.Addr.Lo)), I x27.inner.Port, I x27.port, B x27.dep.Addr.Six, .d (.v (.int .u64 x27.dep.Addr.Hi)), .d (.v (.int .u64 x27.dep.Addr.Lo)), I x27.dep.Port, I x27.last, .d (Slt 45 4 e_api_Spot x27.sent)]] ?_ ?_
              · refine eo_gsplit rfl rfl (fun hb => ?_) (fun hb => ?_)
                · have h34 := cT hq32 hb
                  refine go_ops hΓ 6 rfl ?_
                  obtain rfl := Option.some.inj h34
                  exact ⟨⟨rfl, rfl, rfl, rfl, rfl, rfl, rfl, rfl, rfl, trivial⟩, [], rfl, .inl rfl⟩
                · have h35 := cF hq32 hb
                  refine go_ops hΓ 1 rfl ?_
                  refine eo_guard rfl ?_
                  refine eo_o rfl (op_le (pst_ok hΓ (g := .d (Slt 45 4 e_api_Spot x27.sent)) rfl) G.Le.unt) ?_
                  obtain ⟨y36, hy36, h37⟩ := bi_ok h35
                  refine go_ops hΓ 1 rfl ?_
                  refine eo_guard rfl ?_
                  refine eo_callF [0, 1, 2, 3] (B y36) [.row 86 11 y13.list.length (y13.list.flatMap e_route_entry), .box 64 [I y13.nat.Maps, I y13.nat.Lets, I y13.nat.Timeout, I y13.nat.First, I y13.nat.Ports, B y13.nat.Outer.Six, .d (.v (.int .u64 y13.nat.Outer.Hi)), .d (.v (.int .u64 y13.nat.Outer.Lo)), I y13.now, I y13.v_next, .sl 0 y13.list.length], .box 32 [.ptr 1 0], .box 45 [B v_from.Addr.Six, .d (.v (.int .u64 v_from.Addr.Hi)), .d (.v (.int .u64 v_from.Addr.Lo)), I v_from.Port], .box 45 [B false, .d (.v (.int .u64 0)), .d (.v (.int .u64 0)), I 0], .box 86 [B x27.inner.Addr.Six, .d (.v (.int .u64 x27.inner.Addr.Hi)), .d (.v (.int .u64 x27.inner.Addr.Lo)), I x27.inner.Port, I x27.port, B x27.dep.Addr.Six, .d (.v (.int .u64 x27.dep.Addr.Hi)), .d (.v (.int .u64 x27.dep.Addr.Lo)), I x27.dep.Port, I x27.last, .d (Slt 45 4 e_api_Spot x27.sent)]] (callable Try.func49 rfl rfl) (c_slices_ContainsFunc_api_Spot_api_Spot hy36) rfl (Nat.le_of_ble_eq_true rfl) rfl rfl rfl rfl rfl rfl rfl rfl rfl rfl ?_
                  refine go_ops hΓ 2 rfl ?_
                  obtain rfl := Option.some.inj h37
                  exact ⟨⟨rfl, rfl, rfl, rfl, rfl, rfl, rfl, rfl, rfl, trivial⟩, [], rfl, .inl rfl⟩
              · refine go_ops hΓ 8 rfl ?_
                refine j_cond rfl (fun hb => ?_) (fun hb => ?_)
                · have h38 := cT h33 hb
                  refine go hΓ 4 rfl ?_
                  refine eo_store hΓ rfl rfl rfl rfl rfl rfl rfl rfl (Nat.le_of_ble_eq_true rfl) ?_
                  refine eo_hp [.row 86 11 y13.list.length (y13.list.flatMap e_route_entry), .box 64 [I y13.nat.Maps, I y13.nat.Lets, I y13.nat.Timeout, I y13.nat.First, I y13.nat.Ports, B y13.nat.Outer.Six, .d (.v (.int .u64 y13.nat.Outer.Hi)), .d (.v (.int .u64 y13.nat.Outer.Lo)), I y13.now, I y13.v_next, .sl 0 y13.list.length], .box 32 [.ptr 1 0], .box 45 [B v_from.Addr.Six, .d (.v (.int .u64 v_from.Addr.Hi)), .d (.v (.int .u64 v_from.Addr.Lo)), I v_from.Port], .box 45 [B x27.inner.Addr.Six, .d (.v (.int .u64 x27.inner.Addr.Hi)), .d (.v (.int .u64 x27.inner.Addr.Lo)), I x27.inner.Port], .box 86 [B x27.inner.Addr.Six, .d (.v (.int .u64 x27.inner.Addr.Hi)), .d (.v (.int .u64 x27.inner.Addr.Lo)), I x27.inner.Port, I x27.port, B x27.dep.Addr.Six, .d (.v (.int .u64 x27.dep.Addr.Hi)), .d (.v (.int .u64 x27.dep.Addr.Lo)), I x27.dep.Port, I x27.last, .d (Slt 45 4 e_api_Spot x27.sent)]] rfl ?_
                  refine go_ops hΓ 7 rfl ?_
                  obtain ⟨v39, hv39, h40⟩ := bi_ok h38
                  obtain rfl := Option.some.inj h40
                  obtain rfl := hout25 _ rfl
                  obtain rfl := Option.some.inj h19
                  refine go hΓ 4 rfl ?_
                  refine cv_here ?_
                  obtain rfl := Option.some.inj hv39
                  exact fin_objs hΓ [_, _, _, _] (.inr rfl) rfl rfl rfl rfl (.inr ⟨HB.mk rfl, rfl⟩)
                · have h41 := cF h33 hb
                  refine go hΓ 7 rfl ?_
                  obtain rfl := Option.some.inj h41
                  exact ⟨_, rfl, ⟨⟨rfl, rfl, rfl, rfl, rfl, rfl, get_eq rfl (w64_succ (by omega)), trivial⟩, [_], rfl, .inr ⟨HB.mk rfl, FB.mk rfl, (Nat.le_of_ble_eq_true rfl)⟩⟩⟩
          · subst hgo
            refine go hΓ 6 rfl ?_
            refine j_condF rfl (decide_eq_false hge) ?_
            refine go hΓ 4 rfl ?_
            exact ⟨_, rfl, ⟨⟨rfl, trivial⟩, [], rfl, .inl rfl⟩⟩
        · intro a20 ha
          subst ha
          replace h19 := goI_l h19
          refine go hΓ 3 rfl ?_
          refine eo_build hΓ (gs := [B false, .d (.v (.int .u64 0)), .d (.v (.int .u64 0)), I 0]) rfl rfl rfl rfl rfl rfl rfl ?_
          refine eo_store hΓ rfl rfl rfl rfl rfl rfl rfl rfl (Nat.le_of_ble_eq_true rfl) ?_
          refine eo_hp [.row 86 11 y13.list.length (y13.list.flatMap e_route_entry), .box 64 [I y13.nat.Maps, I y13.nat.Lets, I y13.nat.Timeout, I y13.nat.First, I y13.nat.Ports, B y13.nat.Outer.Six, .d (.v (.int .u64 y13.nat.Outer.Hi)), .d (.v (.int .u64 y13.nat.Outer.Lo)), I y13.now, I y13.v_next, .sl 0 y13.list.length], .box 32 [.ptr 1 0], .box 45 [B v_from.Addr.Six, .d (.v (.int .u64 v_from.Addr.Hi)), .d (.v (.int .u64 v_from.Addr.Lo)), I v_from.Port], .box 45 [B false, .d (.v (.int .u64 0)), .d (.v (.int .u64 0)), I 0]] rfl ?_
          refine go_ops hΓ 5 rfl ?_
          refine cv_here ?_
          obtain rfl := Option.some.inj h19
          exact fin_objs hΓ [_, _, _] (.inr rfl) rfl rfl rfl rfl (.inr ⟨HB.mk rfl, rfl⟩)

theorem c_laneref1_Translator_In_1 {s : T_laneref1_sent} {x : T_laneref1_Translator} {x2 : T_api_Spot} {r : Bool} (h : m_laneref1_Translator_In_1 s x x2 = some r) : EC Try.prog 52 [.agg [I s.v_at, B s.v_from.Addr.Six, .d (.v (.int .u64 s.v_from.Addr.Hi)), .d (.v (.int .u64 s.v_from.Addr.Lo)), I s.v_from.Port, B s.to.Addr.Six, .d (.v (.int .u64 s.to.Addr.Hi)), .d (.v (.int .u64 s.to.Addr.Lo)), I s.to.Port, I s.port], .ptr 2 0, .ptr 3 0] [.row 93 10 x.out.length (x.out.flatMap e_laneref1_sent), .box 76 [I x.n.Maps, I x.n.Lets, I x.n.Timeout, I x.n.First, I x.n.Ports, B x.n.Outer.Six, .d (.v (.int .u64 x.n.Outer.Hi)), .d (.v (.int .u64 x.n.Outer.Lo)), .sl 0 x.out.length, I x.last, I x.now], .box 38 [.ptr 1 0], .box 45 [B x2.Addr.Six, .d (.v (.int .u64 x2.Addr.Hi)), .d (.v (.int .u64 x2.Addr.Lo)), I x2.Port]] fun g hp' => g = B r ∧ hp' = [.row 93 10 x.out.length (x.out.flatMap e_laneref1_sent), .box 76 [I x.n.Maps, I x.n.Lets, I x.n.Timeout, I x.n.First, I x.n.Ports, B x.n.Outer.Six, .d (.v (.int .u64 x.n.Outer.Hi)), .d (.v (.int .u64 x.n.Outer.Lo)), .sl 0 x.out.length, I x.last, I x.now], .box 38 [.ptr 1 0], .box 45 [B x2.Addr.Six, .d (.v (.int .u64 x2.Addr.Hi)), .d (.v (.int .u64 x2.Addr.Lo)), I x2.Port]] := by
  refine ec_enter (Fr.of 0 _) Try.func52 rfl (Fr.of_ok _) (Nat.le_of_ble_eq_true rfl) fun _ => ?_
  refine go_in ?_
  unfold m_laneref1_Translator_In_1 at h
  refine go hΓ 2 rfl ?_
  refine eo_box rfl rfl rfl rfl (Nat.le_of_ble_eq_true rfl) ?_
  refine go_ops hΓ 12 rfl ?_
  refine o_cut 23 [(4, B false), (34, B (((x.n.Lets : Int) == 1) || ((((s.to.Addr.Six : Bool) == x2.Addr.Six) && (((s.to.Addr.Hi : Int) == x2.Addr.Hi) && (((s.to.Addr.Lo : Int) == x2.Addr.Lo) && true))) && (((x.n.Lets : Int) == 2) || ((s.to.Port : Int) == x2.Port)))))] [.row 93 10 x.out.length (x.out.flatMap e_laneref1_sent), .box 76 [I x.n.Maps, I x.n.Lets, I x.n.Timeout, I x.n.First, I x.n.Ports, B x.n.Outer.Six, .d (.v (.int .u64 x.n.Outer.Hi)), .d (.v (.int .u64 x.n.Outer.Lo)), .sl 0 x.out.length, I x.last, I x.now], .box 38 [.ptr 1 0], .box 45 [B x2.Addr.Six, .d (.v (.int .u64 x2.Addr.Hi)), .d (.v (.int .u64 x2.Addr.Lo)), I x2.Port], .box 93 [I s.v_at, B s.v_from.Addr.Six, .d (.v (.int .u64 s.v_from.Addr.Hi)), .d (.v (.int .u64 s.v_from.Addr.Lo)), I s.v_from.Port, B s.to.Addr.Six, .d (.v (.int .u64 s.to.Addr.Hi)), .d (.v (.int .u64 s.to.Addr.Lo)), I s.to.Port, I s.port]] ?_ ?_
  · refine eo_gsplit rfl rfl (fun hb => ?_) (fun hb => ?_)
    · refine go_ops hΓ 24 rfl ?_
      exact ⟨⟨rfl, get_b rfl (or_t hb), trivial⟩, [], rfl, .inl rfl⟩
    · refine go_ops hΓ 5 rfl ?_
      refine eo_guard rfl ?_
      refine eo_o rfl (op_eqS hΓ [28] (b := (((s.to.Addr.Six : Bool) == x2.Addr.Six) && (((s.to.Addr.Hi : Int) == x2.Addr.Hi) && (((s.to.Addr.Lo : Int) == x2.Addr.Lo) && true)))) (by kernel_rfl) (by kernel_rfl) rfl rfl rfl) ?_
      refine go_ops hΓ 1 rfl ?_
      refine o_cut 15 [(4, B false), (11, B false), (33, B ((((s.to.Addr.Six : Bool) == x2.Addr.Six) && (((s.to.Addr.Hi : Int) == x2.Addr.Hi) && (((s.to.Addr.Lo : Int) == x2.Addr.Lo) && true))) && (((x.n.Lets : Int) == 2) || ((s.to.Port : Int) == x2.Port))))] [.row 93 10 x.out.length (x.out.flatMap e_laneref1_sent), .box 76 [I x.n.Maps, I x.n.Lets, I x.n.Timeout, I x.n.First, I x.n.Ports, B x.n.Outer.Six, .d (.v (.int .u64 x.n.Outer.Hi)), .d (.v (.int .u64 x.n.Outer.Lo)), .sl 0 x.out.length, I x.last, I x.now], .box 38 [.ptr 1 0], .box 45 [B x2.Addr.Six, .d (.v (.int .u64 x2.Addr.Hi)), .d (.v (.int .u64 x2.Addr.Lo)), I x2.Port], .box 93 [I s.v_at, B s.v_from.Addr.Six, .d (.v (.int .u64 s.v_from.Addr.Hi)), .d (.v (.int .u64 s.v_from.Addr.Lo)), I s.v_from.Port, B s.to.Addr.Six, .d (.v (.int .u64 s.to.Addr.Hi)), .d (.v (.int .u64 s.to.Addr.Lo)), I s.to.Port, I s.port]] ?_ ?_
      · refine eo_gsplit rfl rfl (fun hb => ?_) (fun hb => ?_)
        · refine go_ops hΓ 7 rfl ?_
          refine o_cut 7 [(4, B false), (11, B false), (18, B true), (32, B (((x.n.Lets : Int) == 2) || ((s.to.Port : Int) == x2.Port)))] [.row 93 10 x.out.length (x.out.flatMap e_laneref1_sent), .box 76 [I x.n.Maps, I x.n.Lets, I x.n.Timeout, I x.n.First, I x.n.Ports, B x.n.Outer.Six, .d (.v (.int .u64 x.n.Outer.Hi)), .d (.v (.int .u64 x.n.Outer.Lo)), .sl 0 x.out.length, I x.last, I x.now], .box 38 [.ptr 1 0], .box 45 [B x2.Addr.Six, .d (.v (.int .u64 x2.Addr.Hi)), .d (.v (.int .u64 x2.Addr.Lo)), I x2.Port], .box 93 [I s.v_at, B s.v_from.Addr.Six, .d (.v (.int .u64 s.v_from.Addr.Hi)), .d (.v (.int .u64 s.v_from.Addr.Lo)), I s.v_from.Port, B s.to.Addr.Six, .d (.v (.int .u64 s.to.Addr.Hi)), .d (.v (.int .u64 s.to.Addr.Lo)), I s.to.Port, I s.port]] ?_ ?_
          · refine eo_gsplit rfl rfl (fun hb => ?_) (fun hb => ?_)
            · refine go_ops hΓ 8 rfl ?_
              exact ⟨⟨rfl, rfl, rfl, get_b rfl (or_t hb), trivial⟩, [], rfl, .inl rfl⟩
            · refine go_ops hΓ 8 rfl ?_
              exact ⟨⟨rfl, rfl, rfl, get_b rfl (or_f hb), trivial⟩, [], rfl, .inl rfl⟩
          · refine go_ops hΓ 2 rfl ?_
            exact ⟨⟨rfl, rfl, get_b rfl (and_t hb), trivial⟩, [], rfl, .inl rfl⟩
        · refine go_ops hΓ 16 rfl ?_
          exact ⟨⟨rfl, rfl, get_b rfl (and_f hb), trivial⟩, [], rfl, .inl rfl⟩
      · refine go_ops hΓ 2 rfl ?_
        exact ⟨⟨rfl, get_b rfl (or_f hb), trivial⟩, [], rfl, .inl rfl⟩
  · refine go_ops hΓ 4 rfl ?_
    obtain rfl := Option.some.inj h
    exact fin_objs hΓ [_] (.inr rfl) rfl rfl rfl rfl (.inr ⟨HB.mk rfl, rfl⟩)

theorem c_slices_IndexFunc_laneref1_sent_laneref1_sent_4 {s : List T_laneref1_sent} {f : T_laneref1_Translator} {f2 : T_api_Spot} {r : Int} (h : m_slices_IndexFunc_laneref1_sent_laneref1_sent_4 s f f2 = some r) : EC Try.prog 78 [.d (Sl e_laneref1_sent s), .fn (.func 52) [] [.ptr 2 0, .ptr 3 0]] [.row 93 10 f.out.length (f.out.flatMap e_laneref1_sent), .box 76 [I f.n.Maps, I f.n.Lets, I f.n.Timeout, I f.n.First, I f.n.Ports, B f.n.Outer.Six, .d (.v (.int .u64 f.n.Outer.Hi)), .d (.v (.int .u64 f.n.Outer.Lo)), .sl 0 f.out.length, I f.last, I f.now], .box 38 [.ptr 1 0], .box 45 [B f2.Addr.Six, .d (.v (.int .u64 f2.Addr.Hi)), .d (.v (.int .u64 f2.Addr.Lo)), I f2.Port]] fun g hp' => g = I r ∧ hp' = [.row 93 10 f.out.length (f.out.flatMap e_laneref1_sent), .box 76 [I f.n.Maps, I f.n.Lets, I f.n.Timeout, I f.n.First, I f.n.Ports, B f.n.Outer.Six, .d (.v (.int .u64 f.n.Outer.Hi)), .d (.v (.int .u64 f.n.Outer.Lo)), .sl 0 f.out.length, I f.last, I f.now], .box 38 [.ptr 1 0], .box 45 [B f2.Addr.Six, .d (.v (.int .u64 f2.Addr.Hi)), .d (.v (.int .u64 f2.Addr.Lo)), I f2.Port]] := by
  refine ec_enter (Fr.of 0 _) Try.func78 rfl (Fr.of_ok _) (Nat.le_of_ble_eq_true rfl) fun _ => ?_
  refine go_in ?_
  unfold m_slices_IndexFunc_laneref1_sent_laneref1_sent_4 at h
  refine go hΓ 13 rfl ?_
  obtain ⟨q4, hq4, h5⟩ := bi_ok h
  refine j_bound 0 rfl fun hb7 => ?_
  refine j_cutEZ (R := fun a6 => q4 = .go a6) (fun a6 => []) (fun a6 => [.row 93 10 f.out.length (f.out.flatMap e_laneref1_sent), .box 76 [I f.n.Maps, I f.n.Lets, I f.n.Timeout, I f.n.First, I f.n.Ports, B f.n.Outer.Six, .d (.v (.int .u64 f.n.Outer.Hi)), .d (.v (.int .u64 f.n.Outer.Lo)), .sl 0 f.out.length, I f.last, I f.now], .box 38 [.ptr 1 0], .box 45 [B f2.Addr.Six, .d (.v (.int .u64 f2.Addr.Hi)), .d (.v (.int .u64 f2.Addr.Lo)), I f2.Port]]) ?_ ?_
  · refine go hΓ 1 rfl ?_
    refine j_range s hq4 (fun i1 s2 => [(0, .d (Sl e_laneref1_sent s)), (1, .fn (.func 52) [] [.ptr 2 0, .ptr 3 0]), (7, I (s.length : Int)), (8, I (i1 : Int))]) (fun s2 => [.row 93 10 f.out.length (f.out.flatMap e_laneref1_sent), .box 76 [I f.n.Maps, I f.n.Lets, I f.n.Timeout, I f.n.First, I f.n.Ports, B f.n.Outer.Six, .d (.v (.int .u64 f.n.Outer.Hi)), .d (.v (.int .u64 f.n.Outer.Lo)), .sl 0 f.out.length, I f.last, I f.now], .box 38 [.ptr 1 0], .box 45 [B f2.Addr.Six, .d (.v (.int .u64 f2.Addr.Hi)), .d (.v (.int .u64 f2.Addr.Lo)), I f2.Port]]) ⟨⟨rfl, rfl, rfl, rfl, trivial⟩, [], rfl, .inl rfl⟩ (fun i1 x3 s2 y11 hx8 hlt hy9 hout10 => ?_) (fun s2 hgo => ?_)
    · refine go hΓ 6 rfl ?_
      refine j_condT rfl (decide_eq_true (Int.ofNat_lt.2 hlt)) ?_
      refine go hΓ 15 rfl ?_
      refine eo_o rfl (op_elemZ hΓ (enc := e_laneref1_sent) (getZ_nat hx8) rfl rfl rfl rfl rfl (fun _ => rfl)) ?_
      obtain ⟨y12, hy12, h13⟩ := bi_ok hy9
      refine go_ops hΓ 1 rfl ?_
      refine eo_callF [0, 1, 2, 3] (B y12) [.row 93 10 f.out.length (f.out.flatMap e_laneref1_sent), .box 76 [I f.n.Maps, I f.n.Lets, I f.n.Timeout, I f.n.First, I f.n.Ports, B f.n.Outer.Six, .d (.v (.int .u64 f.n.Outer.Hi)), .d (.v (.int .u64 f.n.Outer.Lo)), .sl 0 f.out.length, I f.last, I f.now], .box 38 [.ptr 1 0], .box 45 [B f2.Addr.Six, .d (.v (.int .u64 f2.Addr.Hi)), .d (.v (.int .u64 f2.Addr.Lo)), I f2.Port]] (callable Try.func52 rfl rfl) (c_laneref1_Translator_In_1 hy12) rfl (Nat.le_of_ble_eq_true rfl) rfl rfl rfl rfl rfl rfl rfl rfl rfl rfl ?_
      refine go_ops hΓ 2 rfl ?_
      refine j_cond rfl (fun hb => ?_) (fun hb => ?_)
      · have h14 := cT h13 hb
        refine go hΓ 9 rfl ?_
        obtain ⟨v15, hv15, h16⟩ := bi_ok h14
        obtain rfl := Option.some.inj h16
        obtain rfl := hout10 _ rfl
        obtain rfl := Option.some.inj h5
        refine go hΓ 4 rfl ?_
        obtain rfl := Option.some.inj hv15
        exact fin_objs hΓ [] (.inr rfl) rfl rfl rfl rfl (.inl rfl)
      · have h17 := cF h13 hb
        refine go hΓ 7 rfl ?_
        obtain rfl := Option.some.inj h17
        exact ⟨_, rfl, ⟨⟨rfl, rfl, rfl, get_eq rfl (w64_succ (Nat.lt_of_lt_of_le hlt hb7)), trivial⟩, [], rfl, .inl rfl⟩⟩
    · subst hgo
      refine go hΓ 6 rfl ?_
      refine j_condF rfl (decide_eq_false (Int.lt_irrefl _)) ?_
      refine go hΓ 4 rfl ?_
      exact ⟨_, rfl, ⟨trivial, [], rfl, .inl rfl⟩⟩
  · intro a6 ha
    subst ha
    replace h5 := goI_l h5
    refine go hΓ 7 rfl ?_
    obtain rfl := Option.some.inj h5
    exact fin_objs hΓ [] (.inr rfl) rfl rfl rfl rfl (.inl rfl)

theorem c_slices_ContainsFunc_laneref1_sent_laneref1_sent_2 {s : List T_laneref1_sent} {f : T_laneref1_Translator} {f2 : T_api_Spot} {r : Bool} (h : m_slices_ContainsFunc_laneref1_sent_laneref1_sent_2 s f f2 = some r) : EC Try.prog 51 [.d (Sl e_laneref1_sent s), .fn (.func 52) [] [.ptr 2 0, .ptr 3 0]] [.row 93 10 f.out.length (f.out.flatMap e_laneref1_sent), .box 76 [I f.n.Maps, I f.n.Lets, I f.n.Timeout, I f.n.First, I f.n.Ports, B f.n.Outer.Six, .d (.v (.int .u64 f.n.Outer.Hi)), .d (.v (.int .u64 f.n.Outer.Lo)), .sl 0 f.out.length, I f.last, I f.now], .box 38 [.ptr 1 0], .box 45 [B f2.Addr.Six, .d (.v (.int .u64 f2.Addr.Hi)), .d (.v (.int .u64 f2.Addr.Lo)), I f2.Port]] fun g hp' => g = B r ∧ hp' = [.row 93 10 f.out.length (f.out.flatMap e_laneref1_sent), .box 76 [I f.n.Maps, I f.n.Lets, I f.n.Timeout, I f.n.First, I f.n.Ports, B f.n.Outer.Six, .d (.v (.int .u64 f.n.Outer.Hi)), .d (.v (.int .u64 f.n.Outer.Lo)), .sl 0 f.out.length, I f.last, I f.now], .box 38 [.ptr 1 0], .box 45 [B f2.Addr.Six, .d (.v (.int .u64 f2.Addr.Hi)), .d (.v (.int .u64 f2.Addr.Lo)), I f2.Port]] := by
  refine ec_enter (Fr.of 0 _) Try.func51 rfl (Fr.of_ok _) (Nat.le_of_ble_eq_true rfl) fun _ => ?_
  refine go_in ?_
  unfold m_slices_ContainsFunc_laneref1_sent_laneref1_sent_2 at h
  obtain ⟨y1, hy1, h2⟩ := bi_ok h
  refine go hΓ 9 rfl ?_
  refine eo_callF [0, 1, 2, 3] (I y1) [.row 93 10 f.out.length (f.out.flatMap e_laneref1_sent), .box 76 [I f.n.Maps, I f.n.Lets, I f.n.Timeout, I f.n.First, I f.n.Ports, B f.n.Outer.Six, .d (.v (.int .u64 f.n.Outer.Hi)), .d (.v (.int .u64 f.n.Outer.Lo)), .sl 0 f.out.length, I f.last, I f.now], .box 38 [.ptr 1 0], .box 45 [B f2.Addr.Six, .d (.v (.int .u64 f2.Addr.Hi)), .d (.v (.int .u64 f2.Addr.Lo)), I f2.Port]] (callable Try.func78 rfl rfl) (c_slices_IndexFunc_laneref1_sent_laneref1_sent_4 hy1) rfl (Nat.le_of_ble_eq_true rfl) rfl rfl rfl rfl rfl rfl rfl rfl rfl rfl ?_
  refine go_ops hΓ 5 rfl ?_
  obtain rfl := Option.some.inj h2
  exact fin_objs hΓ [] (.inr rfl) rfl rfl rfl rfl (.inl rfl)

theorem c_laneref1_Translator_In {k : Nat} {t : T_laneref1_Translator} {v_at : Int} {v_from : T_api_Spot} {port : Int} {al : List Bool} {r : T_api_Spot × Bool × Int × T_laneref1_Translator × (List Bool)} (h : m_laneref1_Translator_In k t v_at v_from port al = some r) : EC Try.prog 18 [.ptr 1 0, I v_at, .agg [B v_from.Addr.Six, .d (.v (.int .u64 v_from.Addr.Hi)), .d (.v (.int .u64 v_from.Addr.Lo)), I v_from.Port], I port] [.row 93 10 t.out.length (t.out.flatMap e_laneref1_sent), .box 76 [I t.n.Maps, I t.n.Lets, I t.n.Timeout, I t.n.First, I t.n.Ports, B t.n.Outer.Six, .d (.v (.int .u64 t.n.Outer.Hi)), .d (.v (.int .u64 t.n.Outer.Lo)), .sl 0 t.out.length, I t.last, I t.now], .bag al] fun g hp' => g = .tup [.agg [B r.1.Addr.Six, .d (.v (.int .u64 r.1.Addr.Hi)), .d (.v (.int .u64 r.1.Addr.Lo)), I r.1.Port], B r.2.1, I r.2.2.1] ∧ hp' = [.row 93 10 r.2.2.2.1.out.length (r.2.2.2.1.out.flatMap e_laneref1_sent), .box 76 [I r.2.2.2.1.n.Maps, I r.2.2.2.1.n.Lets, I r.2.2.2.1.n.Timeout, I r.2.2.2.1.n.First, I r.2.2.2.1.n.Ports, B r.2.2.2.1.n.Outer.Six, .d (.v (.int .u64 r.2.2.2.1.n.Outer.Hi)), .d (.v (.int .u64 r.2.2.2.1.n.Outer.Lo)), .sl 0 r.2.2.2.1.out.length, I r.2.2.2.1.last, I r.2.2.2.1.now], .bag r.2.2.2.2] := by
  refine ec_enterC (Fr.of 0 _) Try.func18 rfl (Fr.of_ok _) (Nat.le_of_ble_eq_true rfl) fun _ => ?_
  refine go_in ?_
  unfold m_laneref1_Translator_In at h
  refine go hΓ 2 rfl ?_
  refine eo_box rfl rfl rfl rfl (Nat.le_of_ble_eq_true rfl) ?_
  refine eo_box rfl rfl rfl rfl (Nat.le_of_ble_eq_true rfl) ?_
  refine eo_alloc hΓ rfl rfl rfl (Nat.le_of_ble_eq_true rfl) ?_
  refine go_ops hΓ 6 rfl ?_
  refine j_drawE [.dead, .dead, .dead, .box 38 [.ptr 1 0], .box 45 [B v_from.Addr.Six, .d (.v (.int .u64 v_from.Addr.Hi)), .d (.v (.int .u64 v_from.Addr.Lo)), I v_from.Port]] [0, 3] [2] [] hmix (by kernel_rfl) (by kernel_rfl) ⟨rfl, rfl, trivial⟩ (Nat.le_of_ble_eq_true rfl) ?_
  obtain ⟨y1, hy1, h2⟩ := bi_ok h
  refine go_E hΓ 2 rfl ?_
  refine ge_h [.row 93 10 t.out.length (t.out.flatMap e_laneref1_sent), .box 76 [I t.n.Maps, I t.n.Lets, I t.n.Timeout, I t.n.First, I t.n.Ports, B t.n.Outer.Six, .d (.v (.int .u64 t.n.Outer.Hi)), .d (.v (.int .u64 t.n.Outer.Lo)), .sl 0 t.out.length, I t.last, I t.now], .bag al, .box 38 [.ptr 1 0], .box 45 [B v_from.Addr.Six, .d (.v (.int .u64 v_from.Addr.Hi)), .d (.v (.int .u64 v_from.Addr.Lo)), I v_from.Port], .box 45 [B false, .d (.v (.int .u64 0)), .d (.v (.int .u64 0)), I 0]] rfl rfl rfl (st_st ⟨rfl, rfl, trivial⟩) (qte_callF [0, 1] (I y1) [.row 93 10 t.out.length (t.out.flatMap e_laneref1_sent), .box 76 [I t.n.Maps, I t.n.Lets, I t.n.Timeout, I t.n.First, I t.n.Ports, B t.n.Outer.Six, .d (.v (.int .u64 t.n.Outer.Hi)), .d (.v (.int .u64 t.n.Outer.Lo)), .sl 0 t.out.length, I t.last, I t.now], .bag al, .box 38 [.ptr 1 0], .box 45 [B v_from.Addr.Six, .d (.v (.int .u64 v_from.Addr.Hi)), .d (.v (.int .u64 v_from.Addr.Lo)), I v_from.Port], .box 45 [B false, .d (.v (.int .u64 0)), .d (.v (.int .u64 0)), I 0]] (callable Try.func42 rfl rfl) (c_laneref1_Translator_timeFault hy1) rfl rfl rfl rfl rfl rfl rfl rfl rfl rfl) ?_
  obtain ⟨y3, hy3, h4⟩ := bi_ok h2
  refine go_E hΓ 1 rfl ?_
  refine ge_callP (callable Try.func43 rfl rfl) (c_laneref1_SpotFault hy3) rfl rfl rfl rfl rfl rfl ?_
  refine ge_litT hΓ (enc := (eN .i64)) [y1, y3] rfl rfl rfl rfl rfl rfl rfl rfl rfl rfl rfl rfl ?_
  obtain ⟨y5, hy5, h6⟩ := bi_ok h4
  refine ge_callP (callable Try.func41 rfl rfl) (c_cmp_Or_api_Errno hy5) rfl rfl rfl rfl rfl rfl ?_
  refine go_E hΓ 1 rfl ?_
  refine ge_fin ?_
  refine go hΓ 7 rfl ?_
  refine j_cond rfl (fun hb => ?_) (fun hb => ?_)
  · have h7 := cT h6 hb
    refine go hΓ 2 rfl ?_
    refine eo_build hΓ (gs := [B false, .d (.v (.int .u64 0)), .d (.v (.int .u64 0)), I 0]) rfl rfl rfl rfl rfl rfl rfl ?_
    refine go_ops hΓ 1 rfl ?_
    refine eo_store hΓ rfl rfl rfl rfl rfl rfl rfl rfl (Nat.le_of_ble_eq_true rfl) ?_
    refine eo_hp [.row 93 10 t.out.length (t.out.flatMap e_laneref1_sent), .box 76 [I t.n.Maps, I t.n.Lets, I t.n.Timeout, I t.n.First, I t.n.Ports, B t.n.Outer.Six, .d (.v (.int .u64 t.n.Outer.Hi)), .d (.v (.int .u64 t.n.Outer.Lo)), .sl 0 t.out.length, I t.last, I t.now], .bag al, .box 38 [.ptr 1 0], .box 45 [B v_from.Addr.Six, .d (.v (.int .u64 v_from.Addr.Hi)), .d (.v (.int .u64 v_from.Addr.Lo)), I v_from.Port], .box 45 [B false, .d (.v (.int .u64 0)), .d (.v (.int .u64 0)), I 0]] rfl ?_
    refine go_ops hΓ 6 rfl ?_
    refine cv_here ?_
    obtain rfl := Option.some.inj h7
    exact fin_objs hΓ [_, _, _] (.inr rfl) rfl rfl rfl rfl (.inr ⟨HB.mk rfl, rfl⟩)
  · have h8 := cF h6 hb
    obtain ⟨y9, hy9, h10⟩ := bi_ok h8
    refine go hΓ 6 rfl ?_
    refine eo_callP (callable Try.func28 rfl rfl) (c_laneref1_in hy9) rfl (Nat.le_of_ble_eq_true rfl) rfl rfl rfl rfl rfl ?_
    refine go_ops hΓ 3 rfl ?_
    refine j_cond rfl (fun hb => ?_) (fun hb => ?_)
    · have h11 := cT h10 hb
      refine go hΓ 2 rfl ?_
      refine eo_build hΓ (gs := [B false, .d (.v (.int .u64 0)), .d (.v (.int .u64 0)), I 0]) rfl rfl rfl rfl rfl rfl rfl ?_
      refine eo_store hΓ rfl rfl rfl rfl rfl rfl rfl rfl (Nat.le_of_ble_eq_true rfl) ?_
      refine eo_hp [.row 93 10 t.out.length (t.out.flatMap e_laneref1_sent), .box 76 [I t.n.Maps, I t.n.Lets, I t.n.Timeout, I t.n.First, I t.n.Ports, B t.n.Outer.Six, .d (.v (.int .u64 t.n.Outer.Hi)), .d (.v (.int .u64 t.n.Outer.Lo)), .sl 0 t.out.length, I t.last, I t.now], .bag al, .box 38 [.ptr 1 0], .box 45 [B v_from.Addr.Six, .d (.v (.int .u64 v_from.Addr.Hi)), .d (.v (.int .u64 v_from.Addr.Lo)), I v_from.Port], .box 45 [B false, .d (.v (.int .u64 0)), .d (.v (.int .u64 0)), I 0]] rfl ?_
      refine go_ops hΓ 6 rfl ?_
      refine cv_here ?_
      obtain rfl := Option.some.inj h11
      exact fin_objs hΓ [_, _, _] (.inr rfl) rfl rfl rfl rfl (.inr ⟨HB.mk rfl, rfl⟩)
    · have h12 := cF h10 hb
      refine go hΓ 8 rfl ?_
      refine eo_store hΓ rfl rfl rfl rfl rfl rfl rfl rfl (Nat.le_of_ble_eq_true rfl) ?_
      refine eo_hp [.row 93 10 t.out.length (t.out.flatMap e_laneref1_sent), .box 76 [I t.n.Maps, I t.n.Lets, I t.n.Timeout, I t.n.First, I t.n.Ports, B t.n.Outer.Six, .d (.v (.int .u64 t.n.Outer.Hi)), .d (.v (.int .u64 t.n.Outer.Lo)), .sl 0 t.out.length, I t.last, I v_at], .bag al, .box 38 [.ptr 1 0], .box 45 [B v_from.Addr.Six, .d (.v (.int .u64 v_from.Addr.Hi)), .d (.v (.int .u64 v_from.Addr.Lo)), I v_from.Port], .box 45 [B false, .d (.v (.int .u64 0)), .d (.v (.int .u64 0)), I 0]] rfl ?_
      obtain ⟨y13, hy13, h14⟩ := bi_ok h12
      refine go_ops hΓ 7 rfl ?_
      refine eo_callF [0, 1, 2] (.sl 6 y13.1.length) [.row 93 10 t.out.length (t.out.flatMap e_laneref1_sent), .box 76 [I t.n.Maps, I t.n.Lets, I t.n.Timeout, I t.n.First, I t.n.Ports, B t.n.Outer.Six, .d (.v (.int .u64 t.n.Outer.Hi)), .d (.v (.int .u64 t.n.Outer.Lo)), .sl 0 t.out.length, I t.last, I v_at], .bag y13.2, .box 38 [.ptr 1 0], .box 45 [B v_from.Addr.Six, .d (.v (.int .u64 v_from.Addr.Hi)), .d (.v (.int .u64 v_from.Addr.Lo)), I v_from.Port], .box 45 [B false, .d (.v (.int .u64 0)), .d (.v (.int .u64 0)), I 0], .row 74 1 y13.1.length (y13.1.flatMap (eT 93 10 e_laneref1_sent))] (callable Try.func44 rfl rfl) (c_laneref1_Translator_lasting hy13) rfl (Nat.le_of_ble_eq_true rfl) rfl rfl rfl rfl rfl rfl rfl rfl rfl rfl ?_
      refine go_ops hΓ 4 rfl ?_
      obtain ⟨q18, hq18, h19⟩ := bi_ok h14
      obtain ⟨hb21, h22⟩ := gd_ok hq18
      replace hb21 := of_decide_eq_true hb21
      refine j_cutEZ (R := fun a20 => q18 = .go a20) (fun a20 => [(8, .ptr 5 0)]) (fun a20 => [.row 93 10 t.out.length (t.out.flatMap e_laneref1_sent), .box 76 [I t.n.Maps, I t.n.Lets, I t.n.Timeout, I t.n.First, I t.n.Ports, B t.n.Outer.Six, .d (.v (.int .u64 t.n.Outer.Hi)), .d (.v (.int .u64 t.n.Outer.Lo)), .sl 0 t.out.length, I t.last, I v_at], .bag y13.2, .box 38 [.ptr 1 0], .box 45 [B v_from.Addr.Six, .d (.v (.int .u64 v_from.Addr.Hi)), .d (.v (.int .u64 v_from.Addr.Lo)), I v_from.Port], .box 45 [B false, .d (.v (.int .u64 0)), .d (.v (.int .u64 0)), I 0], .row 74 1 y13.1.length (y13.1.flatMap (eT 93 10 e_laneref1_sent))]) ?_ ?_
      · refine go hΓ 1 rfl ?_
        refine j_rangeI h22 (fun i15 s16 => [(3, I port), (4, .ptr 3 0), (6, .ptr 4 0), (8, .ptr 5 0), (36, .sl 6 y13.1.length), (37, I (y13.1.length : Int)), (38, I (i15 : Int))]) (fun s16 => [.row 93 10 t.out.length (t.out.flatMap e_laneref1_sent), .box 76 [I t.n.Maps, I t.n.Lets, I t.n.Timeout, I t.n.First, I t.n.Ports, B t.n.Outer.Six, .d (.v (.int .u64 t.n.Outer.Hi)), .d (.v (.int .u64 t.n.Outer.Lo)), .sl 0 t.out.length, I t.last, I v_at], .bag y13.2, .box 38 [.ptr 1 0], .box 45 [B v_from.Addr.Six, .d (.v (.int .u64 v_from.Addr.Hi)), .d (.v (.int .u64 v_from.Addr.Lo)), I v_from.Port], .box 45 [B false, .d (.v (.int .u64 0)), .d (.v (.int .u64 0)), I 0], .row 74 1 y13.1.length (y13.1.flatMap (eT 93 10 e_laneref1_sent))]) ⟨⟨rfl, rfl, rfl, rfl, rfl, rfl, rfl, trivial⟩, [], rfl, .inl rfl⟩ (fun i15 s16 y26 hlt hy24 hout25 => ?_) (fun s16 hgo hge => ?_)
        · refine go hΓ 6 rfl ?_
          refine j_condT rfl (decide_eq_true hlt) ?_
          obtain ⟨x27, hx27, h28⟩ := bi_ok hy24
          have hj29 := getZ_at hx27
          refine go hΓ 6 rfl ?_
          refine eo_o rfl (op_elemRowZ hΓ hx27 rfl rfl rfl rfl rfl rfl) ?_
          refine eo_o rfl (op_le (op_loadRowZ hΓ (enc := (eT 93 10 e_laneref1_sent)) ((i15 : Int).toNat) 0 hj29 rfl rfl rfl rfl (fun _ => rfl) (g := .d (Slt 93 10 e_laneref1_sent x27)) rfl) G.Le.unt) ?_
          obtain ⟨y30, hy30, h31⟩ := bi_ok h28
          refine go_ops hΓ 7 rfl ?_
          refine eo_callF [0, 1, 3, 4] (B y30) [.row 93 10 t.out.length (t.out.flatMap e_laneref1_sent), .box 76 [I t.n.Maps, I t.n.Lets, I t.n.Timeout, I t.n.First, I t.n.Ports, B t.n.Outer.Six, .d (.v (.int .u64 t.n.Outer.Hi)), .d (.v (.int .u64 t.n.Outer.Lo)), .sl 0 t.out.length, I t.last, I v_at], .bag y13.2, .box 38 [.ptr 1 0], .box 45 [B v_from.Addr.Six, .d (.v (.int .u64 v_from.Addr.Hi)), .d (.v (.int .u64 v_from.Addr.Lo)), I v_from.Port], .box 45 [B false, .d (.v (.int .u64 0)), .d (.v (.int .u64 0)), I 0], .row 74 1 y13.1.length (y13.1.flatMap (eT 93 10 e_laneref1_sent))] (callable Try.func51 rfl rfl) (c_slices_ContainsFunc_laneref1_sent_laneref1_sent_2 hy30) rfl (Nat.le_of_ble_eq_true rfl) rfl rfl rfl rfl rfl rfl rfl rfl rfl rfl ?_
          obtain ⟨x32, hx32, h33⟩ := bi_ok h31
          refine go_ops hΓ 6 rfl ?_
          refine eo_o rfl (op_elemZ hΓ (enc := e_laneref1_sent) hx32 rfl rfl rfl rfl rfl (fun _ => rfl)) ?_
          refine go_ops hΓ 5 rfl ?_
          refine o_cut 2 [(3, I port), (4, .ptr 3 0), (6, .ptr 4 0), (8, .ptr 5 0), (13, .d (Sl e_laneref1_sent x27.2)), (36, .sl 6 y13.1.length), (37, I (y13.1.length : Int)), (38, I (i15 : Int)), (53, B (((x32.port : Int) == port) && y30))] [.row 93 10 t.out.length (t.out.flatMap e_laneref1_sent), .box 76 [I t.n.Maps, I t.n.Lets, I t.n.Timeout, I t.n.First, I t.n.Ports, B t.n.Outer.Six, .d (.v (.int .u64 t.n.Outer.Hi)), .d (.v (.int .u64 t.n.Outer.Lo)), .sl 0 t.out.length, I t.last, I v_at], .bag y13.2, .box 38 [.ptr 1 0], .box 45 [B v_from.Addr.Six, .d (.v (.int .u64 v_from.Addr.Hi)), .d (.v (.int .u64 v_from.Addr.Lo)), I v_from.Port], .box 45 [B false, .d (.v (.int .u64 0)), .d (.v (.int .u64 0)), I 0], .row 74 1 y13.1.length (y13.1.flatMap (eT 93 10 e_laneref1_sent))] ?_ ?_
          · refine eo_gsplit rfl rfl (fun hb => ?_) (fun hb => ?_)
            · refine go_ops hΓ 3 rfl ?_
              exact ⟨⟨rfl, rfl, rfl, rfl, rfl, rfl, rfl, rfl, get_b rfl (and_t hb), trivial⟩, [], rfl, .inl rfl⟩
            · refine go_ops hΓ 3 rfl ?_
              exact ⟨⟨rfl, rfl, rfl, rfl, rfl, rfl, rfl, rfl, get_b rfl (and_f hb), trivial⟩, [], rfl, .inl rfl⟩
          · refine go_ops hΓ 2 rfl ?_
            refine j_cond rfl (fun hb => ?_) (fun hb => ?_)
            · have h34 := cT h33 hb
              obtain ⟨x35, hx35, h36⟩ := bi_ok h34
              refine go hΓ 3 rfl ?_
              refine eo_o rfl (op_elemZ hΓ (enc := e_laneref1_sent) hx35 rfl rfl rfl rfl rfl (fun _ => rfl)) ?_
              refine go_ops hΓ 2 rfl ?_
              refine eo_store hΓ rfl rfl rfl rfl rfl rfl rfl rfl (Nat.le_of_ble_eq_true rfl) ?_
              refine eo_hp [.row 93 10 t.out.length (t.out.flatMap e_laneref1_sent), .box 76 [I t.n.Maps, I t.n.Lets, I t.n.Timeout, I t.n.First, I t.n.Ports, B t.n.Outer.Six, .d (.v (.int .u64 t.n.Outer.Hi)), .d (.v (.int .u64 t.n.Outer.Lo)), .sl 0 t.out.length, I t.last, I v_at], .bag y13.2, .box 38 [.ptr 1 0], .box 45 [B v_from.Addr.Six, .d (.v (.int .u64 v_from.Addr.Hi)), .d (.v (.int .u64 v_from.Addr.Lo)), I v_from.Port], .box 45 [B x35.v_from.Addr.Six, .d (.v (.int .u64 x35.v_from.Addr.Hi)), .d (.v (.int .u64 x35.v_from.Addr.Lo)), I x35.v_from.Port], .row 74 1 y13.1.length (y13.1.flatMap (eT 93 10 e_laneref1_sent))] rfl ?_
              refine go_ops hΓ 7 rfl ?_
              obtain ⟨v37, hv37, h38⟩ := bi_ok h36
              obtain rfl := Option.some.inj h38
              obtain rfl := hout25 _ rfl
              obtain rfl := Option.some.inj h19
              refine go hΓ 4 rfl ?_
              refine cv_here ?_
              obtain rfl := Option.some.inj hv37
              exact fin_objs hΓ [_, _, _, _] (.inr rfl) rfl rfl rfl rfl (.inr ⟨HB.mk rfl, rfl⟩)
            · have h39 := cF h33 hb
              refine go hΓ 7 rfl ?_
              obtain rfl := Option.some.inj h39
              exact ⟨_, rfl, ⟨⟨rfl, rfl, rfl, rfl, rfl, rfl, get_eq rfl (w64_succ (by omega)), trivial⟩, [], rfl, .inl rfl⟩⟩
        · subst hgo
          refine go hΓ 6 rfl ?_
          refine j_condF rfl (decide_eq_false hge) ?_
          refine go hΓ 4 rfl ?_
          exact ⟨_, rfl, ⟨⟨rfl, trivial⟩, [], rfl, .inl rfl⟩⟩
      · intro a20 ha
        subst ha
        replace h19 := goI_l h19
        refine go hΓ 3 rfl ?_
        refine eo_build hΓ (gs := [B false, .d (.v (.int .u64 0)), .d (.v (.int .u64 0)), I 0]) rfl rfl rfl rfl rfl rfl rfl ?_
        refine eo_store hΓ rfl rfl rfl rfl rfl rfl rfl rfl (Nat.le_of_ble_eq_true rfl) ?_
        refine eo_hp [.row 93 10 t.out.length (t.out.flatMap e_laneref1_sent), .box 76 [I t.n.Maps, I t.n.Lets, I t.n.Timeout, I t.n.First, I t.n.Ports, B t.n.Outer.Six, .d (.v (.int .u64 t.n.Outer.Hi)), .d (.v (.int .u64 t.n.Outer.Lo)), .sl 0 t.out.length, I t.last, I v_at], .bag y13.2, .box 38 [.ptr 1 0], .box 45 [B v_from.Addr.Six, .d (.v (.int .u64 v_from.Addr.Hi)), .d (.v (.int .u64 v_from.Addr.Lo)), I v_from.Port], .box 45 [B false, .d (.v (.int .u64 0)), .d (.v (.int .u64 0)), I 0], .row 74 1 y13.1.length (y13.1.flatMap (eT 93 10 e_laneref1_sent))] rfl ?_
        refine go_ops hΓ 5 rfl ?_
        refine cv_here ?_
        obtain rfl := Option.some.inj h19
        exact fin_objs hΓ [_, _, _, _] (.inr rfl) rfl rfl rfl rfl (.inr ⟨HB.mk rfl, rfl⟩)

theorem c_route_Translator_Entries {k : Nat} {t : T_route_Translator} {v_at : Int} {r : Int × Int × T_route_Translator} (h : m_route_Translator_Entries k t v_at = some r) : EC Try.prog 19 [.ptr 1 0, I v_at] [.row 86 11 t.list.length (t.list.flatMap e_route_entry), .box 64 [I t.nat.Maps, I t.nat.Lets, I t.nat.Timeout, I t.nat.First, I t.nat.Ports, B t.nat.Outer.Six, .d (.v (.int .u64 t.nat.Outer.Hi)), .d (.v (.int .u64 t.nat.Outer.Lo)), I t.now, I t.v_next, .sl 0 t.list.length]] fun g hp' => g = .tup [I r.1, I r.2.1] ∧ hp' = [.row 86 11 r.2.2.list.length (r.2.2.list.flatMap e_route_entry), .box 64 [I r.2.2.nat.Maps, I r.2.2.nat.Lets, I r.2.2.nat.Timeout, I r.2.2.nat.First, I r.2.2.nat.Ports, B r.2.2.nat.Outer.Six, .d (.v (.int .u64 r.2.2.nat.Outer.Hi)), .d (.v (.int .u64 r.2.2.nat.Outer.Lo)), I r.2.2.now, I r.2.2.v_next, .sl 0 r.2.2.list.length]] := by
  refine ec_enterC (Fr.of 0 _) Try.func19 rfl (Fr.of_ok _) (Nat.le_of_ble_eq_true rfl) fun _ => ?_
  refine go_in ?_
  unfold m_route_Translator_Entries at h
  obtain ⟨y1, hy1, h2⟩ := bi_ok h
  refine go hΓ 11 rfl ?_
  refine eo_callF [0, 1] (I y1) [.row 86 11 t.list.length (t.list.flatMap e_route_entry), .box 64 [I t.nat.Maps, I t.nat.Lets, I t.nat.Timeout, I t.nat.First, I t.nat.Ports, B t.nat.Outer.Six, .d (.v (.int .u64 t.nat.Outer.Hi)), .d (.v (.int .u64 t.nat.Outer.Lo)), I t.now, I t.v_next, .sl 0 t.list.length]] (callable Try.func33 rfl rfl) (c_route_Translator_timeFault hy1) rfl (Nat.le_of_ble_eq_true rfl) rfl rfl rfl rfl rfl rfl rfl rfl rfl rfl ?_
  refine go_ops hΓ 9 rfl ?_
  refine j_cond rfl (fun hb => ?_) (fun hb => ?_)
  · have h3 := cT h2 hb
    refine go hΓ 9 rfl ?_
    refine cv_here ?_
    obtain rfl := Option.some.inj h3
    exact fin_objs hΓ [] (.inr rfl) rfl rfl rfl rfl (.inl rfl)
  · have h4 := cF h2 hb
    obtain ⟨y5, hy5, h6⟩ := bi_ok h4
    refine go hΓ 6 rfl ?_
    refine eo_callF [0, 1] (.tup []) [.row 86 11 y5.list.length (y5.list.flatMap e_route_entry), .box 64 [I y5.nat.Maps, I y5.nat.Lets, I y5.nat.Timeout, I y5.nat.First, I y5.nat.Ports, B y5.nat.Outer.Six, .d (.v (.int .u64 y5.nat.Outer.Hi)), .d (.v (.int .u64 y5.nat.Outer.Lo)), I y5.now, I y5.v_next, .sl 0 y5.list.length]] (callable Try.func37 rfl rfl) (c_route_Translator_pass hy5) rfl (Nat.le_of_ble_eq_true rfl) rfl rfl rfl rfl rfl rfl rfl rfl rfl rfl ?_
    refine go_ops hΓ 14 rfl ?_
    refine cv_here ?_
    obtain rfl := Option.some.inj h6
    exact fin_objs hΓ [] (.inr rfl) rfl rfl rfl rfl (.inl rfl)

theorem c_laneref1_Translator_Entries {k : Nat} {t : T_laneref1_Translator} {v_at : Int} {al : List Bool} {r : Int × Int × T_laneref1_Translator × (List Bool)} (h : m_laneref1_Translator_Entries k t v_at al = some r) : EC Try.prog 20 [.ptr 1 0, I v_at] [.row 93 10 t.out.length (t.out.flatMap e_laneref1_sent), .box 76 [I t.n.Maps, I t.n.Lets, I t.n.Timeout, I t.n.First, I t.n.Ports, B t.n.Outer.Six, .d (.v (.int .u64 t.n.Outer.Hi)), .d (.v (.int .u64 t.n.Outer.Lo)), .sl 0 t.out.length, I t.last, I t.now], .bag al] fun g hp' => g = .tup [I r.1, I r.2.1] ∧ hp' = [.row 93 10 r.2.2.1.out.length (r.2.2.1.out.flatMap e_laneref1_sent), .box 76 [I r.2.2.1.n.Maps, I r.2.2.1.n.Lets, I r.2.2.1.n.Timeout, I r.2.2.1.n.First, I r.2.2.1.n.Ports, B r.2.2.1.n.Outer.Six, .d (.v (.int .u64 r.2.2.1.n.Outer.Hi)), .d (.v (.int .u64 r.2.2.1.n.Outer.Lo)), .sl 0 r.2.2.1.out.length, I r.2.2.1.last, I r.2.2.1.now], .bag r.2.2.2] := by
  refine ec_enterC (Fr.of 0 _) Try.func20 rfl (Fr.of_ok _) (Nat.le_of_ble_eq_true rfl) fun _ => ?_
  refine go_in ?_
  unfold m_laneref1_Translator_Entries at h
  obtain ⟨y1, hy1, h2⟩ := bi_ok h
  refine go hΓ 11 rfl ?_
  refine eo_callF [0, 1] (I y1) [.row 93 10 t.out.length (t.out.flatMap e_laneref1_sent), .box 76 [I t.n.Maps, I t.n.Lets, I t.n.Timeout, I t.n.First, I t.n.Ports, B t.n.Outer.Six, .d (.v (.int .u64 t.n.Outer.Hi)), .d (.v (.int .u64 t.n.Outer.Lo)), .sl 0 t.out.length, I t.last, I t.now], .bag al] (callable Try.func42 rfl rfl) (c_laneref1_Translator_timeFault hy1) rfl (Nat.le_of_ble_eq_true rfl) rfl rfl rfl rfl rfl rfl rfl rfl rfl rfl ?_
  refine go_ops hΓ 9 rfl ?_
  refine j_cond rfl (fun hb => ?_) (fun hb => ?_)
  · have h3 := cT h2 hb
    refine go hΓ 9 rfl ?_
    refine cv_here ?_
    obtain rfl := Option.some.inj h3
    exact fin_objs hΓ [] (.inr rfl) rfl rfl rfl rfl (.inl rfl)
  · have h4 := cF h2 hb
    refine go hΓ 8 rfl ?_
    refine eo_store hΓ rfl rfl rfl rfl rfl rfl rfl rfl (Nat.le_of_ble_eq_true rfl) ?_
    refine eo_hp [.row 93 10 t.out.length (t.out.flatMap e_laneref1_sent), .box 76 [I t.n.Maps, I t.n.Lets, I t.n.Timeout, I t.n.First, I t.n.Ports, B t.n.Outer.Six, .d (.v (.int .u64 t.n.Outer.Hi)), .d (.v (.int .u64 t.n.Outer.Lo)), .sl 0 t.out.length, I t.last, I v_at], .bag al] rfl ?_
    obtain ⟨y5, hy5, h6⟩ := bi_ok h4
    refine go_ops hΓ 6 rfl ?_
    refine eo_callF [0, 1, 2] (.sl 3 y5.1.length) [.row 93 10 t.out.length (t.out.flatMap e_laneref1_sent), .box 76 [I t.n.Maps, I t.n.Lets, I t.n.Timeout, I t.n.First, I t.n.Ports, B t.n.Outer.Six, .d (.v (.int .u64 t.n.Outer.Hi)), .d (.v (.int .u64 t.n.Outer.Lo)), .sl 0 t.out.length, I t.last, I v_at], .bag y5.2, .row 74 1 y5.1.length (y5.1.flatMap (eT 93 10 e_laneref1_sent))] (callable Try.func44 rfl rfl) (c_laneref1_Translator_lasting hy5) rfl (Nat.le_of_ble_eq_true rfl) rfl rfl rfl rfl rfl rfl rfl rfl rfl rfl ?_
    refine go_ops hΓ 6 rfl ?_
    refine cv_here ?_
    obtain rfl := Option.some.inj h6
    exact fin_objs hΓ [_] (.inr rfl) rfl rfl rfl rfl (.inr ⟨HB.mk rfl, rfl⟩)

set_option maxHeartbeats 8000000 in
theorem c_lanelaw1_TranslatorsWork {k : Nat} {l : List Int} {al : List Bool} {r : Bool × (List Bool)} (h : m_lanelaw1_TranslatorsWork k l al = some r) : EC Try.prog 3 [.d (Sl (eN .i64) l)] [.bag al] fun g hp' => g = B r.1 ∧ hp' = [.bag r.2] := by
  refine ec_enter (Fr.of 0 _) Try.func3 rfl (Fr.of_ok _) (Nat.le_of_ble_eq_true rfl) fun _ => ?_
  refine go_in ?_
  unfold m_lanelaw1_TranslatorsWork at h
  refine go hΓ 8 rfl ?_
  refine eo_build hΓ (gs := [.d (Sl (eN .i64) l), I 0]) rfl rfl rfl rfl rfl rfl rfl ?_
  refine eo_box rfl rfl rfl rfl (Nat.le_of_ble_eq_true rfl) ?_
  obtain ⟨y1, hy1, h2⟩ := bi_ok h
  refine go_ops hΓ 6 rfl ?_
  refine eo_callF [1] (.agg [I y1.1.Maps, I y1.1.Lets, I y1.1.Timeout, I y1.1.First, I y1.1.Ports, B y1.1.Outer.Six, .d (.v (.int .u64 y1.1.Outer.Hi)), .d (.v (.int .u64 y1.1.Outer.Lo))]) [.bag al, .box 25 [.d (Sl (eN .i64) y1.2.L), I y1.2.v_at]] (callable Try.func5 rfl rfl) (c_lanemake_Stream_Nat hy1) rfl (Nat.le_of_ble_eq_true rfl) rfl rfl rfl rfl rfl rfl rfl rfl rfl rfl ?_
  refine eo_alloc hΓ rfl rfl rfl (Nat.le_of_ble_eq_true rfl) ?_
  refine eo_store hΓ rfl rfl rfl rfl rfl rfl rfl rfl (Nat.le_of_ble_eq_true rfl) ?_
  refine eo_hp [.bag al, .box 25 [.d (Sl (eN .i64) y1.2.L), I y1.2.v_at], .box 30 [I y1.1.Maps, I y1.1.Lets, I y1.1.Timeout, I y1.1.First, I y1.1.Ports, B y1.1.Outer.Six, .d (.v (.int .u64 y1.1.Outer.Hi)), .d (.v (.int .u64 y1.1.Outer.Lo))]] rfl ?_
  obtain ⟨y3, hy3, h4⟩ := bi_ok h2
  refine go_ops hΓ 5 rfl ?_
  rcases y3 with ⟨_ | z5, z6⟩
  · refine eo_callF [] (.tup [.d (.v (.pointer none)), I z6]) [.bag al, .box 25 [.d (Sl (eN .i64) y1.2.L), I y1.2.v_at], .box 30 [I y1.1.Maps, I y1.1.Lets, I y1.1.Timeout, I y1.1.First, I y1.1.Ports, B y1.1.Outer.Six, .d (.v (.int .u64 y1.1.Outer.Hi)), .d (.v (.int .u64 y1.1.Outer.Lo))]] (callable Try.func6 rfl rfl) (c_route_New_none hy3) rfl (Nat.le_of_ble_eq_true rfl) rfl rfl rfl rfl rfl rfl rfl rfl rfl rfl ?_
    obtain ⟨y7, hy7, h8⟩ := bi_ok h4
    refine go_ops hΓ 11 rfl ?_
    refine eo_callP (callable Try.func7 rfl rfl) (c_laneref1_NatFault hy7) rfl (Nat.le_of_ble_eq_true rfl) rfl rfl rfl rfl rfl ?_
    refine go_ops hΓ 8 rfl ?_
    refine o_cut 3 [(3, .ptr 1 0), (4, .ptr 2 0), (5, .d (.v (.pointer none))), (6, I z6), (7, I y7), (45, B (((y7 : Int) != 0) || ((z6 : Int) != 0)))] [.bag al, .box 25 [.d (Sl (eN .i64) y1.2.L), I y1.2.v_at], .box 30 [I y1.1.Maps, I y1.1.Lets, I y1.1.Timeout, I y1.1.First, I y1.1.Ports, B y1.1.Outer.Six, .d (.v (.int .u64 y1.1.Outer.Hi)), .d (.v (.int .u64 y1.1.Outer.Lo))]] ?_ ?_
    · refine eo_gsplit rfl rfl (fun hb => ?_) (fun hb => ?_)
      · refine go_ops hΓ 4 rfl ?_
        exact ⟨⟨rfl, rfl, rfl, rfl, rfl, get_b rfl (or_t hb), trivial⟩, [], rfl, .inl rfl⟩
      · refine go_ops hΓ 4 rfl ?_
        exact ⟨⟨rfl, rfl, rfl, rfl, rfl, get_b rfl (or_f hb), trivial⟩, [], rfl, .inl rfl⟩
    · refine go_ops hΓ 1 rfl ?_
      refine o_cut 3 [(3, .ptr 1 0), (4, .ptr 2 0), (5, .d (.v (.pointer none))), (6, I z6), (7, I y7), (49, B true)] [.bag al, .box 25 [.d (Sl (eN .i64) y1.2.L), I y1.2.v_at], .box 30 [I y1.1.Maps, I y1.1.Lets, I y1.1.Timeout, I y1.1.First, I y1.1.Ports, B y1.1.Outer.Six, .d (.v (.int .u64 y1.1.Outer.Hi)), .d (.v (.int .u64 y1.1.Outer.Lo))]] ?_ ?_
      · refine eo_gsplit rfl rfl (fun hb => ?_) (fun hb => ?_)
        · refine go_ops hΓ 4 rfl ?_
          exact ⟨⟨rfl, rfl, rfl, rfl, rfl, rfl, trivial⟩, [], rfl, .inl rfl⟩
        · refine go_ops hΓ 1 rfl ?_
          refine eo_guard rfl ?_
          refine eo_o rfl ((op_nilEq hΓ rfl rfl rfl rfl).1) ?_
          refine go_ops hΓ 2 rfl ?_
          exact ⟨⟨rfl, rfl, rfl, rfl, rfl, rfl, trivial⟩, [], rfl, .inl rfl⟩
      · refine go_ops hΓ 9 rfl ?_
        refine o_cut 3 [(56, B (((z6 : Int) == y7) && true))] [.bag al, .box 25 [.d (Sl (eN .i64) y1.2.L), I y1.2.v_at], .box 30 [I y1.1.Maps, I y1.1.Lets, I y1.1.Timeout, I y1.1.First, I y1.1.Ports, B y1.1.Outer.Six, .d (.v (.int .u64 y1.1.Outer.Hi)), .d (.v (.int .u64 y1.1.Outer.Lo))]] ?_ ?_
        · refine eo_gsplit rfl rfl (fun hb => ?_) (fun hb => ?_)
          · refine go_ops hΓ 1 rfl ?_
            refine eo_guard rfl ?_
            refine eo_o rfl ((op_nilEq hΓ rfl rfl rfl rfl).1) ?_
            refine go_ops hΓ 2 rfl ?_
            exact ⟨⟨get_b rfl (and_t hb), trivial⟩, [], rfl, .inl rfl⟩
          · refine go_ops hΓ 4 rfl ?_
            exact ⟨⟨get_b rfl (and_f hb), trivial⟩, [], rfl, .inl rfl⟩
        · refine go_ops hΓ 1 rfl ?_
          obtain ⟨q9, hq9, h10⟩ := bi_ok h8
          refine o_cut 2 [(59, B q9)] [.bag al, .box 25 [.d (Sl (eN .i64) y1.2.L), I y1.2.v_at], .box 30 [I y1.1.Maps, I y1.1.Lets, I y1.1.Timeout, I y1.1.First, I y1.1.Ports, B y1.1.Outer.Six, .d (.v (.int .u64 y1.1.Outer.Hi)), .d (.v (.int .u64 y1.1.Outer.Lo))]] ?_ ?_
          · refine eo_gsplit rfl rfl (fun hb => ?_) (fun hb => ?_)
            · have h11 := cT hq9 hb
              obtain ⟨y12, hy12, h13⟩ := bi_ok h11
              refine eo_guard rfl ?_
              refine eo_callP (callable Try.func8 rfl rfl) (c_lanelaw1_routed hy12) rfl (Nat.le_of_ble_eq_true rfl) rfl rfl rfl rfl rfl ?_
              refine go_ops hΓ 2 rfl ?_
              obtain rfl := Option.some.inj h13
              exact ⟨⟨rfl, trivial⟩, [], rfl, .inl rfl⟩
            · have h14 := cF hq9 hb
              refine go_ops hΓ 3 rfl ?_
              obtain rfl := Option.some.inj h14
              exact ⟨⟨rfl, trivial⟩, [], rfl, .inl rfl⟩
          · refine go_ops hΓ 5 rfl ?_
            obtain rfl := Option.some.inj h10
            exact fin_objs hΓ [_, _] (.inr rfl) rfl rfl rfl rfl (.inr ⟨HB.mk rfl, rfl⟩)
  · refine eo_callF [] (.tup [.ptr 4 0, I z6]) [.bag al, .box 25 [.d (Sl (eN .i64) y1.2.L), I y1.2.v_at], .box 30 [I y1.1.Maps, I y1.1.Lets, I y1.1.Timeout, I y1.1.First, I y1.1.Ports, B y1.1.Outer.Six, .d (.v (.int .u64 y1.1.Outer.Hi)), .d (.v (.int .u64 y1.1.Outer.Lo))], .row 86 11 z5.list.length (z5.list.flatMap e_route_entry), .box 64 [I z5.nat.Maps, I z5.nat.Lets, I z5.nat.Timeout, I z5.nat.First, I z5.nat.Ports, B z5.nat.Outer.Six, .d (.v (.int .u64 z5.nat.Outer.Hi)), .d (.v (.int .u64 z5.nat.Outer.Lo)), I z5.now, I z5.v_next, .sl 3 z5.list.length]] (callable Try.func6 rfl rfl) (c_route_New_some hy3) rfl (Nat.le_of_ble_eq_true rfl) rfl rfl rfl rfl rfl rfl rfl rfl rfl rfl ?_
    obtain ⟨y15, hy15, h16⟩ := bi_ok h4
    refine go_ops hΓ 11 rfl ?_
    refine eo_callP (callable Try.func7 rfl rfl) (c_laneref1_NatFault hy15) rfl (Nat.le_of_ble_eq_true rfl) rfl rfl rfl rfl rfl ?_
    refine go_ops hΓ 8 rfl ?_
    refine o_cut 3 [(3, .ptr 1 0), (4, .ptr 2 0), (5, .ptr 4 0), (6, I z6), (7, I y15), (45, B (((y15 : Int) != 0) || ((z6 : Int) != 0)))] [.bag al, .box 25 [.d (Sl (eN .i64) y1.2.L), I y1.2.v_at], .box 30 [I y1.1.Maps, I y1.1.Lets, I y1.1.Timeout, I y1.1.First, I y1.1.Ports, B y1.1.Outer.Six, .d (.v (.int .u64 y1.1.Outer.Hi)), .d (.v (.int .u64 y1.1.Outer.Lo))], .row 86 11 z5.list.length (z5.list.flatMap e_route_entry), .box 64 [I z5.nat.Maps, I z5.nat.Lets, I z5.nat.Timeout, I z5.nat.First, I z5.nat.Ports, B z5.nat.Outer.Six, .d (.v (.int .u64 z5.nat.Outer.Hi)), .d (.v (.int .u64 z5.nat.Outer.Lo)), I z5.now, I z5.v_next, .sl 3 z5.list.length]] ?_ ?_
    · refine eo_gsplit rfl rfl (fun hb => ?_) (fun hb => ?_)
      · refine go_ops hΓ 4 rfl ?_
        exact ⟨⟨rfl, rfl, rfl, rfl, rfl, get_b rfl (or_t hb), trivial⟩, [], rfl, .inl rfl⟩
      · refine go_ops hΓ 4 rfl ?_
        exact ⟨⟨rfl, rfl, rfl, rfl, rfl, get_b rfl (or_f hb), trivial⟩, [], rfl, .inl rfl⟩
    · refine go_ops hΓ 1 rfl ?_
      refine o_cut 3 [(3, .ptr 1 0), (4, .ptr 2 0), (5, .ptr 4 0), (6, I z6), (7, I y15), (49, B ((((y15 : Int) != 0) || ((z6 : Int) != 0)) || false))] [.bag al, .box 25 [.d (Sl (eN .i64) y1.2.L), I y1.2.v_at], .box 30 [I y1.1.Maps, I y1.1.Lets, I y1.1.Timeout, I y1.1.First, I y1.1.Ports, B y1.1.Outer.Six, .d (.v (.int .u64 y1.1.Outer.Hi)), .d (.v (.int .u64 y1.1.Outer.Lo))], .row 86 11 z5.list.length (z5.list.flatMap e_route_entry), .box 64 [I z5.nat.Maps, I z5.nat.Lets, I z5.nat.Timeout, I z5.nat.First, I z5.nat.Ports, B z5.nat.Outer.Six, .d (.v (.int .u64 z5.nat.Outer.Hi)), .d (.v (.int .u64 z5.nat.Outer.Lo)), I z5.now, I z5.v_next, .sl 3 z5.list.length]] ?_ ?_
      · refine eo_gsplit rfl rfl (fun hb => ?_) (fun hb => ?_)
        · refine go_ops hΓ 4 rfl ?_
          exact ⟨⟨rfl, rfl, rfl, rfl, rfl, get_b rfl (or_t hb), trivial⟩, [], rfl, .inl rfl⟩
        · refine go_ops hΓ 1 rfl ?_
          refine eo_guard rfl ?_
          refine eo_o rfl ((op_ptrEq hΓ rfl rfl rfl rfl).1) ?_
          refine go_ops hΓ 2 rfl ?_
          exact ⟨⟨rfl, rfl, rfl, rfl, rfl, get_b rfl (or_f hb), trivial⟩, [], rfl, .inl rfl⟩
      · refine go_ops hΓ 2 rfl ?_
        refine j_cond rfl (fun hb => ?_) (fun hb => ?_)
        · have h17 := cT h16 hb
          refine go hΓ 6 rfl ?_
          refine o_cut 3 [(56, B false)] [.bag al, .box 25 [.d (Sl (eN .i64) y1.2.L), I y1.2.v_at], .box 30 [I y1.1.Maps, I y1.1.Lets, I y1.1.Timeout, I y1.1.First, I y1.1.Ports, B y1.1.Outer.Six, .d (.v (.int .u64 y1.1.Outer.Hi)), .d (.v (.int .u64 y1.1.Outer.Lo))], .row 86 11 z5.list.length (z5.list.flatMap e_route_entry), .box 64 [I z5.nat.Maps, I z5.nat.Lets, I z5.nat.Timeout, I z5.nat.First, I z5.nat.Ports, B z5.nat.Outer.Six, .d (.v (.int .u64 z5.nat.Outer.Hi)), .d (.v (.int .u64 z5.nat.Outer.Lo)), I z5.now, I z5.v_next, .sl 3 z5.list.length]] ?_ ?_
          · refine eo_gsplit rfl rfl (fun hb => ?_) (fun hb => ?_)
            · refine go_ops hΓ 1 rfl ?_
              refine eo_guard rfl ?_
              refine eo_o rfl ((op_ptrEq hΓ rfl rfl rfl rfl).1) ?_
              refine go_ops hΓ 2 rfl ?_
              exact ⟨⟨rfl, trivial⟩, [], rfl, .inl rfl⟩
            · refine go_ops hΓ 4 rfl ?_
              exact ⟨⟨rfl, trivial⟩, [], rfl, .inl rfl⟩
          · refine go_ops hΓ 8 rfl ?_
            obtain rfl := Option.some.inj h17
            exact fin_objs hΓ [_, _, _, _] (.inr rfl) rfl rfl rfl rfl (.inr ⟨HB.mk rfl, rfl⟩)
        · have h18 := cF h16 hb
          obtain ⟨y19, hy19, h20⟩ := bi_ok h18
          refine go hΓ 5 rfl ?_
          refine eo_callF [] (.ptr 6 0) [.bag al, .box 25 [.d (Sl (eN .i64) y1.2.L), I y1.2.v_at], .box 30 [I y1.1.Maps, I y1.1.Lets, I y1.1.Timeout, I y1.1.First, I y1.1.Ports, B y1.1.Outer.Six, .d (.v (.int .u64 y1.1.Outer.Hi)), .d (.v (.int .u64 y1.1.Outer.Lo))], .row 86 11 z5.list.length (z5.list.flatMap e_route_entry), .box 64 [I z5.nat.Maps, I z5.nat.Lets, I z5.nat.Timeout, I z5.nat.First, I z5.nat.Ports, B z5.nat.Outer.Six, .d (.v (.int .u64 z5.nat.Outer.Hi)), .d (.v (.int .u64 z5.nat.Outer.Lo)), I z5.now, I z5.v_next, .sl 3 z5.list.length], .row 93 10 y19.out.length (y19.out.flatMap e_laneref1_sent), .box 76 [I y19.n.Maps, I y19.n.Lets, I y19.n.Timeout, I y19.n.First, I y19.n.Ports, B y19.n.Outer.Six, .d (.v (.int .u64 y19.n.Outer.Hi)), .d (.v (.int .u64 y19.n.Outer.Lo)), .sl 5 y19.out.length, I y19.last, I y19.now]] (callable Try.func9 rfl rfl) (c_laneref1_NewTranslator hy19) rfl (Nat.le_of_ble_eq_true rfl) rfl rfl rfl rfl rfl rfl rfl rfl rfl rfl ?_
          obtain ⟨y21, hy21, h22⟩ := bi_ok h20
          refine go_ops hΓ 12 rfl ?_
          refine eo_callF [1] (I y21.1) [.bag al, .box 25 [.d (Sl (eN .i64) y21.2.L), I y21.2.v_at], .box 30 [I y1.1.Maps, I y1.1.Lets, I y1.1.Timeout, I y1.1.First, I y1.1.Ports, B y1.1.Outer.Six, .d (.v (.int .u64 y1.1.Outer.Hi)), .d (.v (.int .u64 y1.1.Outer.Lo))], .row 86 11 z5.list.length (z5.list.flatMap e_route_entry), .box 64 [I z5.nat.Maps, I z5.nat.Lets, I z5.nat.Timeout, I z5.nat.First, I z5.nat.Ports, B z5.nat.Outer.Six, .d (.v (.int .u64 z5.nat.Outer.Hi)), .d (.v (.int .u64 z5.nat.Outer.Lo)), I z5.now, I z5.v_next, .sl 3 z5.list.length], .row 93 10 y19.out.length (y19.out.flatMap e_laneref1_sent), .box 76 [I y19.n.Maps, I y19.n.Lets, I y19.n.Timeout, I y19.n.First, I y19.n.Ports, B y19.n.Outer.Six, .d (.v (.int .u64 y19.n.Outer.Hi)), .d (.v (.int .u64 y19.n.Outer.Lo)), .sl 5 y19.out.length, I y19.last, I y19.now]] (callable Try.func10 rfl rfl) (c_lanemake_Stream_Next hy21) rfl (Nat.le_of_ble_eq_true rfl) rfl rfl rfl rfl rfl rfl rfl rfl rfl rfl ?_
          refine go_ops hΓ 3 rfl ?_
          obtain ⟨q26, hq26, h27⟩ := bi_ok h22
          obtain ⟨hb29, h30⟩ := gd_ok hq26
          replace hb29 := of_decide_eq_true hb29
          refine j_cutEZ (R := fun a28 => q26 = .go a28) (fun a28 => []) (fun a28 => [.bag a28.1, .box 25 [.d (Sl (eN .i64) a28.2.1.L), I a28.2.1.v_at], .box 30 [I y1.1.Maps, I y1.1.Lets, I y1.1.Timeout, I y1.1.First, I y1.1.Ports, B y1.1.Outer.Six, .d (.v (.int .u64 y1.1.Outer.Hi)), .d (.v (.int .u64 y1.1.Outer.Lo))], .row 86 11 a28.2.2.1.length (a28.2.2.1.flatMap e_route_entry), .box 64 [I a28.2.2.2.1, I a28.2.2.2.2.1, I a28.2.2.2.2.2.1, I a28.2.2.2.2.2.2.1, I a28.2.2.2.2.2.2.2.1, B a28.2.2.2.2.2.2.2.2.1, .d (.v (.int .u64 a28.2.2.2.2.2.2.2.2.2.1)), .d (.v (.int .u64 a28.2.2.2.2.2.2.2.2.2.2.1)), I a28.2.2.2.2.2.2.2.2.2.2.2.1, I a28.2.2.2.2.2.2.2.2.2.2.2.2.1, .sl 3 a28.2.2.1.length], .row 93 10 a28.2.2.2.2.2.2.2.2.2.2.2.2.2.1.length (a28.2.2.2.2.2.2.2.2.2.2.2.2.2.1.flatMap e_laneref1_sent), .box 76 [I a28.2.2.2.2.2.2.2.2.2.2.2.2.2.2.1, I a28.2.2.2.2.2.2.2.2.2.2.2.2.2.2.2.1, I a28.2.2.2.2.2.2.2.2.2.2.2.2.2.2.2.2.1, I a28.2.2.2.2.2.2.2.2.2.2.2.2.2.2.2.2.2.1, I a28.2.2.2.2.2.2.2.2.2.2.2.2.2.2.2.2.2.2.1, B a28.2.2.2.2.2.2.2.2.2.2.2.2.2.2.2.2.2.2.2.1, .d (.v (.int .u64 a28.2.2.2.2.2.2.2.2.2.2.2.2.2.2.2.2.2.2.2.2.1)), .d (.v (.int .u64 a28.2.2.2.2.2.2.2.2.2.2.2.2.2.2.2.2.2.2.2.2.2.1)), .sl 5 a28.2.2.2.2.2.2.2.2.2.2.2.2.2.1.length, I a28.2.2.2.2.2.2.2.2.2.2.2.2.2.2.2.2.2.2.2.2.2.2.1, I a28.2.2.2.2.2.2.2.2.2.2.2.2.2.2.2.2.2.2.2.2.2.2.2.1]]) ?_ ?_
          · refine go hΓ 1 rfl ?_
            refine j_rangeI h30 (fun i23 s24 => [(3, .ptr 1 0), (4, .ptr 2 0), (5, .ptr 4 0), (8, .ptr 6 0), (9, I s24.2.2.2.2.2.2.2.2.2.2.2.2.2.2.2.2.2.2.2.2.2.2.2.2), (63, I y21.1), (64, I (i23 : Int))]) (fun s24 => [.bag s24.1, .box 25 [.d (Sl (eN .i64) s24.2.1.L), I s24.2.1.v_at], .box 30 [I y1.1.Maps, I y1.1.Lets, I y1.1.Timeout, I y1.1.First, I y1.1.Ports, B y1.1.Outer.Six, .d (.v (.int .u64 y1.1.Outer.Hi)), .d (.v (.int .u64 y1.1.Outer.Lo))], .row 86 11 s24.2.2.1.length (s24.2.2.1.flatMap e_route_entry), .box 64 [I s24.2.2.2.1, I s24.2.2.2.2.1, I s24.2.2.2.2.2.1, I s24.2.2.2.2.2.2.1, I s24.2.2.2.2.2.2.2.1, B s24.2.2.2.2.2.2.2.2.1, .d (.v (.int .u64 s24.2.2.2.2.2.2.2.2.2.1)), .d (.v (.int .u64 s24.2.2.2.2.2.2.2.2.2.2.1)), I s24.2.2.2.2.2.2.2.2.2.2.2.1, I s24.2.2.2.2.2.2.2.2.2.2.2.2.1, .sl 3 s24.2.2.1.length], .row 93 10 s24.2.2.2.2.2.2.2.2.2.2.2.2.2.1.length (s24.2.2.2.2.2.2.2.2.2.2.2.2.2.1.flatMap e_laneref1_sent), .box 76 [I s24.2.2.2.2.2.2.2.2.2.2.2.2.2.2.1, I s24.2.2.2.2.2.2.2.2.2.2.2.2.2.2.2.1, I s24.2.2.2.2.2.2.2.2.2.2.2.2.2.2.2.2.1, I s24.2.2.2.2.2.2.2.2.2.2.2.2.2.2.2.2.2.1, I s24.2.2.2.2.2.2.2.2.2.2.2.2.2.2.2.2.2.2.1, B s24.2.2.2.2.2.2.2.2.2.2.2.2.2.2.2.2.2.2.2.1, .d (.v (.int .u64 s24.2.2.2.2.2.2.2.2.2.2.2.2.2.2.2.2.2.2.2.2.1)), .d (.v (.int .u64 s24.2.2.2.2.2.2.2.2.2.2.2.2.2.2.2.2.2.2.2.2.2.1)), .sl 5 s24.2.2.2.2.2.2.2.2.2.2.2.2.2.1.length, I s24.2.2.2.2.2.2.2.2.2.2.2.2.2.2.2.2.2.2.2.2.2.2.1, I s24.2.2.2.2.2.2.2.2.2.2.2.2.2.2.2.2.2.2.2.2.2.2.2.1]]) ⟨⟨rfl, rfl, rfl, rfl, rfl, rfl, rfl, trivial⟩, [], rfl, .inl rfl⟩ (fun i23 s24 y34 hlt hy32 hout33 => ?_) (fun s24 hgo hge => ?_)
            · refine go hΓ 6 rfl ?_
              refine j_condT rfl (decide_eq_true hlt) ?_
              refine go hΓ 8 rfl ?_
              refine eo_litT hΓ (enc := (eN .i64)) [0, 0, 1, 1, 2, 10, 40] rfl rfl rfl rfl rfl rfl rfl rfl rfl rfl rfl rfl (Nat.le_of_ble_eq_true rfl) ?_
              obtain ⟨y35, hy35, h36⟩ := bi_ok hy32
              refine eo_callF [1] (I y35.1) [.bag s24.1, .box 25 [.d (Sl (eN .i64) y35.2.L), I y35.2.v_at], .box 30 [I y1.1.Maps, I y1.1.Lets, I y1.1.Timeout, I y1.1.First, I y1.1.Ports, B y1.1.Outer.Six, .d (.v (.int .u64 y1.1.Outer.Hi)), .d (.v (.int .u64 y1.1.Outer.Lo))], .row 86 11 s24.2.2.1.length (s24.2.2.1.flatMap e_route_entry), .box 64 [I s24.2.2.2.1, I s24.2.2.2.2.1, I s24.2.2.2.2.2.1, I s24.2.2.2.2.2.2.1, I s24.2.2.2.2.2.2.2.1, B s24.2.2.2.2.2.2.2.2.1, .d (.v (.int .u64 s24.2.2.2.2.2.2.2.2.2.1)), .d (.v (.int .u64 s24.2.2.2.2.2.2.2.2.2.2.1)), I s24.2.2.2.2.2.2.2.2.2.2.2.1, I s24.2.2.2.2.2.2.2.2.2.2.2.2.1, .sl 3 s24.2.2.1.length], .row 93 10 s24.2.2.2.2.2.2.2.2.2.2.2.2.2.1.length (s24.2.2.2.2.2.2.2.2.2.2.2.2.2.1.flatMap e_laneref1_sent), .box 76 [I s24.2.2.2.2.2.2.2.2.2.2.2.2.2.2.1, I s24.2.2.2.2.2.2.2.2.2.2.2.2.2.2.2.1, I s24.2.2.2.2.2.2.2.2.2.2.2.2.2.2.2.2.1, I s24.2.2.2.2.2.2.2.2.2.2.2.2.2.2.2.2.2.1, I s24.2.2.2.2.2.2.2.2.2.2.2.2.2.2.2.2.2.2.1, B s24.2.2.2.2.2.2.2.2.2.2.2.2.2.2.2.2.2.2.2.1, .d (.v (.int .u64 s24.2.2.2.2.2.2.2.2.2.2.2.2.2.2.2.2.2.2.2.2.1)), .d (.v (.int .u64 s24.2.2.2.2.2.2.2.2.2.2.2.2.2.2.2.2.2.2.2.2.2.1)), .sl 5 s24.2.2.2.2.2.2.2.2.2.2.2.2.2.1.length, I s24.2.2.2.2.2.2.2.2.2.2.2.2.2.2.2.2.2.2.2.2.2.2.1, I s24.2.2.2.2.2.2.2.2.2.2.2.2.2.2.2.2.2.2.2.2.2.2.2.1]] (callable Try.func11 rfl rfl) (c_lanemake_Stream_Pick hy35) rfl (Nat.le_of_ble_eq_true rfl) rfl rfl rfl rfl rfl rfl rfl rfl rfl rfl ?_
              obtain ⟨y37, hy37, h38⟩ := bi_ok h36
              refine go_ops hΓ 14 rfl ?_
              refine eo_callF [1] (B y37.1) [.bag s24.1, .box 25 [.d (Sl (eN .i64) y37.2.L), I y37.2.v_at], .box 30 [I y1.1.Maps, I y1.1.Lets, I y1.1.Timeout, I y1.1.First, I y1.1.Ports, B y1.1.Outer.Six, .d (.v (.int .u64 y1.1.Outer.Hi)), .d (.v (.int .u64 y1.1.Outer.Lo))], .row 86 11 s24.2.2.1.length (s24.2.2.1.flatMap e_route_entry), .box 64 [I s24.2.2.2.1, I s24.2.2.2.2.1, I s24.2.2.2.2.2.1, I s24.2.2.2.2.2.2.1, I s24.2.2.2.2.2.2.2.1, B s24.2.2.2.2.2.2.2.2.1, .d (.v (.int .u64 s24.2.2.2.2.2.2.2.2.2.1)), .d (.v (.int .u64 s24.2.2.2.2.2.2.2.2.2.2.1)), I s24.2.2.2.2.2.2.2.2.2.2.2.1, I s24.2.2.2.2.2.2.2.2.2.2.2.2.1, .sl 3 s24.2.2.1.length], .row 93 10 s24.2.2.2.2.2.2.2.2.2.2.2.2.2.1.length (s24.2.2.2.2.2.2.2.2.2.2.2.2.2.1.flatMap e_laneref1_sent), .box 76 [I s24.2.2.2.2.2.2.2.2.2.2.2.2.2.2.1, I s24.2.2.2.2.2.2.2.2.2.2.2.2.2.2.2.1, I s24.2.2.2.2.2.2.2.2.2.2.2.2.2.2.2.2.1, I s24.2.2.2.2.2.2.2.2.2.2.2.2.2.2.2.2.2.1, I s24.2.2.2.2.2.2.2.2.2.2.2.2.2.2.2.2.2.2.1, B s24.2.2.2.2.2.2.2.2.2.2.2.2.2.2.2.2.2.2.2.1, .d (.v (.int .u64 s24.2.2.2.2.2.2.2.2.2.2.2.2.2.2.2.2.2.2.2.2.1)), .d (.v (.int .u64 s24.2.2.2.2.2.2.2.2.2.2.2.2.2.2.2.2.2.2.2.2.2.1)), .sl 5 s24.2.2.2.2.2.2.2.2.2.2.2.2.2.1.length, I s24.2.2.2.2.2.2.2.2.2.2.2.2.2.2.2.2.2.2.2.2.2.2.1, I s24.2.2.2.2.2.2.2.2.2.2.2.2.2.2.2.2.2.2.2.2.2.2.2.1]] (callable Try.func12 rfl rfl) (c_lanemake_Stream_Flip hy37) rfl (Nat.le_of_ble_eq_true rfl) rfl rfl rfl rfl rfl rfl rfl rfl rfl rfl ?_
              obtain ⟨q39, hq39, h40⟩ := bi_ok h38
              refine go_ops hΓ 2 rfl ?_
              refine j_cutNZ [(3, .ptr 1 0), (4, .ptr 2 0), (5, .ptr 4 0), (8, .ptr 6 0), (9, I (wi (s24.2.2.2.2.2.2.2.2.2.2.2.2.2.2.2.2.2.2.2.2.2.2.2.2 + y35.1))), (10, I q39.2), (63, I y21.1), (64, I (i23 : Int))] [.bag s24.1, .box 25 [.d (Sl (eN .i64) q39.1.L), I q39.1.v_at], .box 30 [I y1.1.Maps, I y1.1.Lets, I y1.1.Timeout, I y1.1.First, I y1.1.Ports, B y1.1.Outer.Six, .d (.v (.int .u64 y1.1.Outer.Hi)), .d (.v (.int .u64 y1.1.Outer.Lo))], .row 86 11 s24.2.2.1.length (s24.2.2.1.flatMap e_route_entry), .box 64 [I s24.2.2.2.1, I s24.2.2.2.2.1, I s24.2.2.2.2.2.1, I s24.2.2.2.2.2.2.1, I s24.2.2.2.2.2.2.2.1, B s24.2.2.2.2.2.2.2.2.1, .d (.v (.int .u64 s24.2.2.2.2.2.2.2.2.2.1)), .d (.v (.int .u64 s24.2.2.2.2.2.2.2.2.2.2.1)), I s24.2.2.2.2.2.2.2.2.2.2.2.1, I s24.2.2.2.2.2.2.2.2.2.2.2.2.1, .sl 3 s24.2.2.1.length], .row 93 10 s24.2.2.2.2.2.2.2.2.2.2.2.2.2.1.length (s24.2.2.2.2.2.2.2.2.2.2.2.2.2.1.flatMap e_laneref1_sent), .box 76 [I s24.2.2.2.2.2.2.2.2.2.2.2.2.2.2.1, I s24.2.2.2.2.2.2.2.2.2.2.2.2.2.2.2.1, I s24.2.2.2.2.2.2.2.2.2.2.2.2.2.2.2.2.1, I s24.2.2.2.2.2.2.2.2.2.2.2.2.2.2.2.2.2.1, I s24.2.2.2.2.2.2.2.2.2.2.2.2.2.2.2.2.2.2.1, B s24.2.2.2.2.2.2.2.2.2.2.2.2.2.2.2.2.2.2.2.1, .d (.v (.int .u64 s24.2.2.2.2.2.2.2.2.2.2.2.2.2.2.2.2.2.2.2.2.1)), .d (.v (.int .u64 s24.2.2.2.2.2.2.2.2.2.2.2.2.2.2.2.2.2.2.2.2.2.1)), .sl 5 s24.2.2.2.2.2.2.2.2.2.2.2.2.2.1.length, I s24.2.2.2.2.2.2.2.2.2.2.2.2.2.2.2.2.2.2.2.2.2.2.1, I s24.2.2.2.2.2.2.2.2.2.2.2.2.2.2.2.2.2.2.2.2.2.2.2.1]] ?_ ?_
              · refine j_cond rfl (fun hb => ?_) (fun hb => ?_)
                · have h41 := cT hq39 hb
                  refine go hΓ 2 rfl ?_
                  refine eo_litT hΓ (enc := (eN .i64)) [-1, 0, 345686400] rfl rfl rfl rfl rfl rfl rfl rfl rfl rfl rfl rfl (Nat.le_of_ble_eq_true rfl) ?_
                  obtain ⟨y42, hy42, h43⟩ := bi_ok h41
                  refine eo_callF [1] (I y42.1) [.bag s24.1, .box 25 [.d (Sl (eN .i64) y42.2.L), I y42.2.v_at], .box 30 [I y1.1.Maps, I y1.1.Lets, I y1.1.Timeout, I y1.1.First, I y1.1.Ports, B y1.1.Outer.Six, .d (.v (.int .u64 y1.1.Outer.Hi)), .d (.v (.int .u64 y1.1.Outer.Lo))], .row 86 11 s24.2.2.1.length (s24.2.2.1.flatMap e_route_entry), .box 64 [I s24.2.2.2.1, I s24.2.2.2.2.1, I s24.2.2.2.2.2.1, I s24.2.2.2.2.2.2.1, I s24.2.2.2.2.2.2.2.1, B s24.2.2.2.2.2.2.2.2.1, .d (.v (.int .u64 s24.2.2.2.2.2.2.2.2.2.1)), .d (.v (.int .u64 s24.2.2.2.2.2.2.2.2.2.2.1)), I s24.2.2.2.2.2.2.2.2.2.2.2.1, I s24.2.2.2.2.2.2.2.2.2.2.2.2.1, .sl 3 s24.2.2.1.length], .row 93 10 s24.2.2.2.2.2.2.2.2.2.2.2.2.2.1.length (s24.2.2.2.2.2.2.2.2.2.2.2.2.2.1.flatMap e_laneref1_sent), .box 76 [I s24.2.2.2.2.2.2.2.2.2.2.2.2.2.2.1, I s24.2.2.2.2.2.2.2.2.2.2.2.2.2.2.2.1, I s24.2.2.2.2.2.2.2.2.2.2.2.2.2.2.2.2.1, I s24.2.2.2.2.2.2.2.2.2.2.2.2.2.2.2.2.2.1, I s24.2.2.2.2.2.2.2.2.2.2.2.2.2.2.2.2.2.2.1, B s24.2.2.2.2.2.2.2.2.2.2.2.2.2.2.2.2.2.2.2.1, .d (.v (.int .u64 s24.2.2.2.2.2.2.2.2.2.2.2.2.2.2.2.2.2.2.2.2.1)), .d (.v (.int .u64 s24.2.2.2.2.2.2.2.2.2.2.2.2.2.2.2.2.2.2.2.2.2.1)), .sl 5 s24.2.2.2.2.2.2.2.2.2.2.2.2.2.1.length, I s24.2.2.2.2.2.2.2.2.2.2.2.2.2.2.2.2.2.2.2.2.2.2.1, I s24.2.2.2.2.2.2.2.2.2.2.2.2.2.2.2.2.2.2.2.2.2.2.2.1]] (callable Try.func11 rfl rfl) (c_lanemake_Stream_Pick hy42) rfl (Nat.le_of_ble_eq_true rfl) rfl rfl rfl rfl rfl rfl rfl rfl rfl rfl ?_
                  refine go_ops hΓ 2 rfl ?_
                  obtain rfl := Option.some.inj h43
                  exact ⟨⟨rfl, rfl, rfl, rfl, rfl, rfl, rfl, rfl, trivial⟩, [], rfl, .inl rfl⟩
                · have h44 := cF hq39 hb
                  refine go hΓ 1 rfl ?_
                  obtain rfl := Option.some.inj h44
                  exact ⟨⟨rfl, rfl, rfl, rfl, rfl, rfl, rfl, rfl, trivial⟩, [], rfl, .inl rfl⟩
              · refine go hΓ 2 rfl ?_
                refine j_drawE [.dead, .dead, .box 30 [I y1.1.Maps, I y1.1.Lets, I y1.1.Timeout, I y1.1.First, I y1.1.Ports, B y1.1.Outer.Six, .d (.v (.int .u64 y1.1.Outer.Hi)), .d (.v (.int .u64 y1.1.Outer.Lo))]] [12, 14, 16] [1, 6, 9, 19, 22, 23] [23020, 24021] hmix (by kernel_rfl) (by kernel_rfl) ⟨rfl, trivial⟩ (Nat.le_of_ble_eq_true rfl) ?_
                obtain ⟨y45, hy45, h46⟩ := bi_ok h40
                refine go_E hΓ 1 rfl ?_
                refine ge_h [.bag s24.1, .box 25 [.d (Sl (eN .i64) y45.2.L), I y45.2.v_at], .box 30 [I y1.1.Maps, I y1.1.Lets, I y1.1.Timeout, I y1.1.First, I y1.1.Ports, B y1.1.Outer.Six, .d (.v (.int .u64 y1.1.Outer.Hi)), .d (.v (.int .u64 y1.1.Outer.Lo))], .row 86 11 s24.2.2.1.length (s24.2.2.1.flatMap e_route_entry), .box 64 [I s24.2.2.2.1, I s24.2.2.2.2.1, I s24.2.2.2.2.2.1, I s24.2.2.2.2.2.2.1, I s24.2.2.2.2.2.2.2.1, B s24.2.2.2.2.2.2.2.2.1, .d (.v (.int .u64 s24.2.2.2.2.2.2.2.2.2.1)), .d (.v (.int .u64 s24.2.2.2.2.2.2.2.2.2.2.1)), I s24.2.2.2.2.2.2.2.2.2.2.2.1, I s24.2.2.2.2.2.2.2.2.2.2.2.2.1, .sl 3 s24.2.2.1.length], .row 93 10 s24.2.2.2.2.2.2.2.2.2.2.2.2.2.1.length (s24.2.2.2.2.2.2.2.2.2.2.2.2.2.1.flatMap e_laneref1_sent), .box 76 [I s24.2.2.2.2.2.2.2.2.2.2.2.2.2.2.1, I s24.2.2.2.2.2.2.2.2.2.2.2.2.2.2.2.1, I s24.2.2.2.2.2.2.2.2.2.2.2.2.2.2.2.2.1, I s24.2.2.2.2.2.2.2.2.2.2.2.2.2.2.2.2.2.1, I s24.2.2.2.2.2.2.2.2.2.2.2.2.2.2.2.2.2.2.1, B s24.2.2.2.2.2.2.2.2.2.2.2.2.2.2.2.2.2.2.2.1, .d (.v (.int .u64 s24.2.2.2.2.2.2.2.2.2.2.2.2.2.2.2.2.2.2.2.2.1)), .d (.v (.int .u64 s24.2.2.2.2.2.2.2.2.2.2.2.2.2.2.2.2.2.2.2.2.2.1)), .sl 5 s24.2.2.2.2.2.2.2.2.2.2.2.2.2.1.length, I s24.2.2.2.2.2.2.2.2.2.2.2.2.2.2.2.2.2.2.2.2.2.2.1, I s24.2.2.2.2.2.2.2.2.2.2.2.2.2.2.2.2.2.2.2.2.2.2.2.1]] rfl rfl rfl (st_st ⟨rfl, trivial⟩) (qte_callF [1] (I y45.1) [.bag s24.1, .box 25 [.d (Sl (eN .i64) y45.2.L), I y45.2.v_at], .box 30 [I y1.1.Maps, I y1.1.Lets, I y1.1.Timeout, I y1.1.First, I y1.1.Ports, B y1.1.Outer.Six, .d (.v (.int .u64 y1.1.Outer.Hi)), .d (.v (.int .u64 y1.1.Outer.Lo))], .row 86 11 s24.2.2.1.length (s24.2.2.1.flatMap e_route_entry), .box 64 [I s24.2.2.2.1, I s24.2.2.2.2.1, I s24.2.2.2.2.2.1, I s24.2.2.2.2.2.2.1, I s24.2.2.2.2.2.2.2.1, B s24.2.2.2.2.2.2.2.2.1, .d (.v (.int .u64 s24.2.2.2.2.2.2.2.2.2.1)), .d (.v (.int .u64 s24.2.2.2.2.2.2.2.2.2.2.1)), I s24.2.2.2.2.2.2.2.2.2.2.2.1, I s24.2.2.2.2.2.2.2.2.2.2.2.2.1, .sl 3 s24.2.2.1.length], .row 93 10 s24.2.2.2.2.2.2.2.2.2.2.2.2.2.1.length (s24.2.2.2.2.2.2.2.2.2.2.2.2.2.1.flatMap e_laneref1_sent), .box 76 [I s24.2.2.2.2.2.2.2.2.2.2.2.2.2.2.1, I s24.2.2.2.2.2.2.2.2.2.2.2.2.2.2.2.1, I s24.2.2.2.2.2.2.2.2.2.2.2.2.2.2.2.2.1, I s24.2.2.2.2.2.2.2.2.2.2.2.2.2.2.2.2.2.1, I s24.2.2.2.2.2.2.2.2.2.2.2.2.2.2.2.2.2.2.1, B s24.2.2.2.2.2.2.2.2.2.2.2.2.2.2.2.2.2.2.2.1, .d (.v (.int .u64 s24.2.2.2.2.2.2.2.2.2.2.2.2.2.2.2.2.2.2.2.2.1)), .d (.v (.int .u64 s24.2.2.2.2.2.2.2.2.2.2.2.2.2.2.2.2.2.2.2.2.2.1)), .sl 5 s24.2.2.2.2.2.2.2.2.2.2.2.2.2.1.length, I s24.2.2.2.2.2.2.2.2.2.2.2.2.2.2.2.2.2.2.2.2.2.2.1, I s24.2.2.2.2.2.2.2.2.2.2.2.2.2.2.2.2.2.2.2.2.2.2.2.1]] (callable Try.func13 rfl rfl) (c_lanemake_Stream_Range hy45) rfl rfl rfl rfl rfl rfl rfl rfl rfl rfl) ?_
                refine go_E hΓ 1 rfl ?_
                refine ge_q rfl (.inl rfl) (fun _ _ => qte_of_qt (qt_p (op_build hΓ (gs := [B false, .d (.v (.int .u64 0)), .d (.v (.int .u64 (IntKind.u64.wrap (y45.1))))]) rfl rfl rfl rfl rfl rfl))) ?_
                refine go_E hΓ 1 rfl ?_
                refine ge_litT hΓ (enc := (eN .i64)) [1, 7] rfl rfl rfl rfl rfl rfl rfl rfl rfl rfl rfl rfl ?_
                obtain ⟨y47, hy47, h48⟩ := bi_ok h46
                refine ge_h [.bag s24.1, .box 25 [.d (Sl (eN .i64) y47.2.L), I y47.2.v_at], .box 30 [I y1.1.Maps, I y1.1.Lets, I y1.1.Timeout, I y1.1.First, I y1.1.Ports, B y1.1.Outer.Six, .d (.v (.int .u64 y1.1.Outer.Hi)), .d (.v (.int .u64 y1.1.Outer.Lo))], .row 86 11 s24.2.2.1.length (s24.2.2.1.flatMap e_route_entry), .box 64 [I s24.2.2.2.1, I s24.2.2.2.2.1, I s24.2.2.2.2.2.1, I s24.2.2.2.2.2.2.1, I s24.2.2.2.2.2.2.2.1, B s24.2.2.2.2.2.2.2.2.1, .d (.v (.int .u64 s24.2.2.2.2.2.2.2.2.2.1)), .d (.v (.int .u64 s24.2.2.2.2.2.2.2.2.2.2.1)), I s24.2.2.2.2.2.2.2.2.2.2.2.1, I s24.2.2.2.2.2.2.2.2.2.2.2.2.1, .sl 3 s24.2.2.1.length], .row 93 10 s24.2.2.2.2.2.2.2.2.2.2.2.2.2.1.length (s24.2.2.2.2.2.2.2.2.2.2.2.2.2.1.flatMap e_laneref1_sent), .box 76 [I s24.2.2.2.2.2.2.2.2.2.2.2.2.2.2.1, I s24.2.2.2.2.2.2.2.2.2.2.2.2.2.2.2.1, I s24.2.2.2.2.2.2.2.2.2.2.2.2.2.2.2.2.1, I s24.2.2.2.2.2.2.2.2.2.2.2.2.2.2.2.2.2.1, I s24.2.2.2.2.2.2.2.2.2.2.2.2.2.2.2.2.2.2.1, B s24.2.2.2.2.2.2.2.2.2.2.2.2.2.2.2.2.2.2.2.1, .d (.v (.int .u64 s24.2.2.2.2.2.2.2.2.2.2.2.2.2.2.2.2.2.2.2.2.1)), .d (.v (.int .u64 s24.2.2.2.2.2.2.2.2.2.2.2.2.2.2.2.2.2.2.2.2.2.1)), .sl 5 s24.2.2.2.2.2.2.2.2.2.2.2.2.2.1.length, I s24.2.2.2.2.2.2.2.2.2.2.2.2.2.2.2.2.2.2.2.2.2.2.1, I s24.2.2.2.2.2.2.2.2.2.2.2.2.2.2.2.2.2.2.2.2.2.2.2.1]] rfl rfl rfl (st_st ⟨rfl, trivial⟩) (qte_callF [1] (I y47.1) [.bag s24.1, .box 25 [.d (Sl (eN .i64) y47.2.L), I y47.2.v_at], .box 30 [I y1.1.Maps, I y1.1.Lets, I y1.1.Timeout, I y1.1.First, I y1.1.Ports, B y1.1.Outer.Six, .d (.v (.int .u64 y1.1.Outer.Hi)), .d (.v (.int .u64 y1.1.Outer.Lo))], .row 86 11 s24.2.2.1.length (s24.2.2.1.flatMap e_route_entry), .box 64 [I s24.2.2.2.1, I s24.2.2.2.2.1, I s24.2.2.2.2.2.1, I s24.2.2.2.2.2.2.1, I s24.2.2.2.2.2.2.2.1, B s24.2.2.2.2.2.2.2.2.1, .d (.v (.int .u64 s24.2.2.2.2.2.2.2.2.2.1)), .d (.v (.int .u64 s24.2.2.2.2.2.2.2.2.2.2.1)), I s24.2.2.2.2.2.2.2.2.2.2.2.1, I s24.2.2.2.2.2.2.2.2.2.2.2.2.1, .sl 3 s24.2.2.1.length], .row 93 10 s24.2.2.2.2.2.2.2.2.2.2.2.2.2.1.length (s24.2.2.2.2.2.2.2.2.2.2.2.2.2.1.flatMap e_laneref1_sent), .box 76 [I s24.2.2.2.2.2.2.2.2.2.2.2.2.2.2.1, I s24.2.2.2.2.2.2.2.2.2.2.2.2.2.2.2.1, I s24.2.2.2.2.2.2.2.2.2.2.2.2.2.2.2.2.1, I s24.2.2.2.2.2.2.2.2.2.2.2.2.2.2.2.2.2.1, I s24.2.2.2.2.2.2.2.2.2.2.2.2.2.2.2.2.2.2.1, B s24.2.2.2.2.2.2.2.2.2.2.2.2.2.2.2.2.2.2.2.1, .d (.v (.int .u64 s24.2.2.2.2.2.2.2.2.2.2.2.2.2.2.2.2.2.2.2.2.1)), .d (.v (.int .u64 s24.2.2.2.2.2.2.2.2.2.2.2.2.2.2.2.2.2.2.2.2.2.1)), .sl 5 s24.2.2.2.2.2.2.2.2.2.2.2.2.2.1.length, I s24.2.2.2.2.2.2.2.2.2.2.2.2.2.2.2.2.2.2.2.2.2.2.1, I s24.2.2.2.2.2.2.2.2.2.2.2.2.2.2.2.2.2.2.2.2.2.2.2.1]] (callable Try.func11 rfl rfl) (c_lanemake_Stream_Pick hy47) rfl rfl rfl rfl rfl rfl rfl rfl rfl rfl) ?_
                refine ge_q rfl (.inl rfl) (fun _ _ => qte_of_qt (qt_p (op_build hΓ (gs := [B false, .d (.v (.int .u64 0)), .d (.v (.int .u64 (IntKind.u64.wrap (y45.1)))), I y47.1]) rfl rfl rfl rfl rfl rfl))) ?_
                obtain ⟨y49, hy49, h50⟩ := bi_ok h48
                refine go_E hΓ 1 rfl ?_
                refine ge_h [.bag s24.1, .box 25 [.d (Sl (eN .i64) y49.2.L), I y49.2.v_at], .box 30 [I y1.1.Maps, I y1.1.Lets, I y1.1.Timeout, I y1.1.First, I y1.1.Ports, B y1.1.Outer.Six, .d (.v (.int .u64 y1.1.Outer.Hi)), .d (.v (.int .u64 y1.1.Outer.Lo))], .row 86 11 s24.2.2.1.length (s24.2.2.1.flatMap e_route_entry), .box 64 [I s24.2.2.2.1, I s24.2.2.2.2.1, I s24.2.2.2.2.2.1, I s24.2.2.2.2.2.2.1, I s24.2.2.2.2.2.2.2.1, B s24.2.2.2.2.2.2.2.2.1, .d (.v (.int .u64 s24.2.2.2.2.2.2.2.2.2.1)), .d (.v (.int .u64 s24.2.2.2.2.2.2.2.2.2.2.1)), I s24.2.2.2.2.2.2.2.2.2.2.2.1, I s24.2.2.2.2.2.2.2.2.2.2.2.2.1, .sl 3 s24.2.2.1.length], .row 93 10 s24.2.2.2.2.2.2.2.2.2.2.2.2.2.1.length (s24.2.2.2.2.2.2.2.2.2.2.2.2.2.1.flatMap e_laneref1_sent), .box 76 [I s24.2.2.2.2.2.2.2.2.2.2.2.2.2.2.1, I s24.2.2.2.2.2.2.2.2.2.2.2.2.2.2.2.1, I s24.2.2.2.2.2.2.2.2.2.2.2.2.2.2.2.2.1, I s24.2.2.2.2.2.2.2.2.2.2.2.2.2.2.2.2.2.1, I s24.2.2.2.2.2.2.2.2.2.2.2.2.2.2.2.2.2.2.1, B s24.2.2.2.2.2.2.2.2.2.2.2.2.2.2.2.2.2.2.2.1, .d (.v (.int .u64 s24.2.2.2.2.2.2.2.2.2.2.2.2.2.2.2.2.2.2.2.2.1)), .d (.v (.int .u64 s24.2.2.2.2.2.2.2.2.2.2.2.2.2.2.2.2.2.2.2.2.2.1)), .sl 5 s24.2.2.2.2.2.2.2.2.2.2.2.2.2.1.length, I s24.2.2.2.2.2.2.2.2.2.2.2.2.2.2.2.2.2.2.2.2.2.2.1, I s24.2.2.2.2.2.2.2.2.2.2.2.2.2.2.2.2.2.2.2.2.2.2.2.1]] rfl rfl rfl (st_st ⟨rfl, trivial⟩) (qte_callF [1] (.agg [B y49.1.Addr.Six, .d (.v (.int .u64 y49.1.Addr.Hi)), .d (.v (.int .u64 y49.1.Addr.Lo)), I y49.1.Port]) [.bag s24.1, .box 25 [.d (Sl (eN .i64) y49.2.L), I y49.2.v_at], .box 30 [I y1.1.Maps, I y1.1.Lets, I y1.1.Timeout, I y1.1.First, I y1.1.Ports, B y1.1.Outer.Six, .d (.v (.int .u64 y1.1.Outer.Hi)), .d (.v (.int .u64 y1.1.Outer.Lo))], .row 86 11 s24.2.2.1.length (s24.2.2.1.flatMap e_route_entry), .box 64 [I s24.2.2.2.1, I s24.2.2.2.2.1, I s24.2.2.2.2.2.1, I s24.2.2.2.2.2.2.1, I s24.2.2.2.2.2.2.2.1, B s24.2.2.2.2.2.2.2.2.1, .d (.v (.int .u64 s24.2.2.2.2.2.2.2.2.2.1)), .d (.v (.int .u64 s24.2.2.2.2.2.2.2.2.2.2.1)), I s24.2.2.2.2.2.2.2.2.2.2.2.1, I s24.2.2.2.2.2.2.2.2.2.2.2.2.1, .sl 3 s24.2.2.1.length], .row 93 10 s24.2.2.2.2.2.2.2.2.2.2.2.2.2.1.length (s24.2.2.2.2.2.2.2.2.2.2.2.2.2.1.flatMap e_laneref1_sent), .box 76 [I s24.2.2.2.2.2.2.2.2.2.2.2.2.2.2.1, I s24.2.2.2.2.2.2.2.2.2.2.2.2.2.2.2.1, I s24.2.2.2.2.2.2.2.2.2.2.2.2.2.2.2.2.1, I s24.2.2.2.2.2.2.2.2.2.2.2.2.2.2.2.2.2.1, I s24.2.2.2.2.2.2.2.2.2.2.2.2.2.2.2.2.2.2.1, B s24.2.2.2.2.2.2.2.2.2.2.2.2.2.2.2.2.2.2.2.1, .d (.v (.int .u64 s24.2.2.2.2.2.2.2.2.2.2.2.2.2.2.2.2.2.2.2.2.1)), .d (.v (.int .u64 s24.2.2.2.2.2.2.2.2.2.2.2.2.2.2.2.2.2.2.2.2.2.1)), .sl 5 s24.2.2.2.2.2.2.2.2.2.2.2.2.2.1.length, I s24.2.2.2.2.2.2.2.2.2.2.2.2.2.2.2.2.2.2.2.2.2.2.1, I s24.2.2.2.2.2.2.2.2.2.2.2.2.2.2.2.2.2.2.2.2.2.2.2.1]] (callable Try.func14 rfl rfl) (c_lanemake_Stream_Spot hy49) rfl rfl rfl rfl rfl rfl rfl rfl rfl rfl) ?_
                refine go_E hΓ 8 rfl ?_
                refine ge_litT hΓ (enc := (eN .i64)) [y1.1.First, y1.1.First, wi (y1.1.First + 1), 0, 65536] rfl rfl rfl rfl rfl rfl rfl rfl rfl rfl rfl rfl ?_
                obtain ⟨y51, hy51, h52⟩ := bi_ok h50
                refine ge_h [.bag s24.1, .box 25 [.d (Sl (eN .i64) y51.2.L), I y51.2.v_at], .box 30 [I y1.1.Maps, I y1.1.Lets, I y1.1.Timeout, I y1.1.First, I y1.1.Ports, B y1.1.Outer.Six, .d (.v (.int .u64 y1.1.Outer.Hi)), .d (.v (.int .u64 y1.1.Outer.Lo))], .row 86 11 s24.2.2.1.length (s24.2.2.1.flatMap e_route_entry), .box 64 [I s24.2.2.2.1, I s24.2.2.2.2.1, I s24.2.2.2.2.2.1, I s24.2.2.2.2.2.2.1, I s24.2.2.2.2.2.2.2.1, B s24.2.2.2.2.2.2.2.2.1, .d (.v (.int .u64 s24.2.2.2.2.2.2.2.2.2.1)), .d (.v (.int .u64 s24.2.2.2.2.2.2.2.2.2.2.1)), I s24.2.2.2.2.2.2.2.2.2.2.2.1, I s24.2.2.2.2.2.2.2.2.2.2.2.2.1, .sl 3 s24.2.2.1.length], .row 93 10 s24.2.2.2.2.2.2.2.2.2.2.2.2.2.1.length (s24.2.2.2.2.2.2.2.2.2.2.2.2.2.1.flatMap e_laneref1_sent), .box 76 [I s24.2.2.2.2.2.2.2.2.2.2.2.2.2.2.1, I s24.2.2.2.2.2.2.2.2.2.2.2.2.2.2.2.1, I s24.2.2.2.2.2.2.2.2.2.2.2.2.2.2.2.2.1, I s24.2.2.2.2.2.2.2.2.2.2.2.2.2.2.2.2.2.1, I s24.2.2.2.2.2.2.2.2.2.2.2.2.2.2.2.2.2.2.1, B s24.2.2.2.2.2.2.2.2.2.2.2.2.2.2.2.2.2.2.2.1, .d (.v (.int .u64 s24.2.2.2.2.2.2.2.2.2.2.2.2.2.2.2.2.2.2.2.2.1)), .d (.v (.int .u64 s24.2.2.2.2.2.2.2.2.2.2.2.2.2.2.2.2.2.2.2.2.2.1)), .sl 5 s24.2.2.2.2.2.2.2.2.2.2.2.2.2.1.length, I s24.2.2.2.2.2.2.2.2.2.2.2.2.2.2.2.2.2.2.2.2.2.2.1, I s24.2.2.2.2.2.2.2.2.2.2.2.2.2.2.2.2.2.2.2.2.2.2.2.1]] rfl rfl rfl (st_st ⟨rfl, trivial⟩) (qte_callF [1] (I y51.1) [.bag s24.1, .box 25 [.d (Sl (eN .i64) y51.2.L), I y51.2.v_at], .box 30 [I y1.1.Maps, I y1.1.Lets, I y1.1.Timeout, I y1.1.First, I y1.1.Ports, B y1.1.Outer.Six, .d (.v (.int .u64 y1.1.Outer.Hi)), .d (.v (.int .u64 y1.1.Outer.Lo))], .row 86 11 s24.2.2.1.length (s24.2.2.1.flatMap e_route_entry), .box 64 [I s24.2.2.2.1, I s24.2.2.2.2.1, I s24.2.2.2.2.2.1, I s24.2.2.2.2.2.2.1, I s24.2.2.2.2.2.2.2.1, B s24.2.2.2.2.2.2.2.2.1, .d (.v (.int .u64 s24.2.2.2.2.2.2.2.2.2.1)), .d (.v (.int .u64 s24.2.2.2.2.2.2.2.2.2.2.1)), I s24.2.2.2.2.2.2.2.2.2.2.2.1, I s24.2.2.2.2.2.2.2.2.2.2.2.2.1, .sl 3 s24.2.2.1.length], .row 93 10 s24.2.2.2.2.2.2.2.2.2.2.2.2.2.1.length (s24.2.2.2.2.2.2.2.2.2.2.2.2.2.1.flatMap e_laneref1_sent), .box 76 [I s24.2.2.2.2.2.2.2.2.2.2.2.2.2.2.1, I s24.2.2.2.2.2.2.2.2.2.2.2.2.2.2.2.1, I s24.2.2.2.2.2.2.2.2.2.2.2.2.2.2.2.2.1, I s24.2.2.2.2.2.2.2.2.2.2.2.2.2.2.2.2.2.1, I s24.2.2.2.2.2.2.2.2.2.2.2.2.2.2.2.2.2.2.1, B s24.2.2.2.2.2.2.2.2.2.2.2.2.2.2.2.2.2.2.2.1, .d (.v (.int .u64 s24.2.2.2.2.2.2.2.2.2.2.2.2.2.2.2.2.2.2.2.2.1)), .d (.v (.int .u64 s24.2.2.2.2.2.2.2.2.2.2.2.2.2.2.2.2.2.2.2.2.2.1)), .sl 5 s24.2.2.2.2.2.2.2.2.2.2.2.2.2.1.length, I s24.2.2.2.2.2.2.2.2.2.2.2.2.2.2.2.2.2.2.2.2.2.2.1, I s24.2.2.2.2.2.2.2.2.2.2.2.2.2.2.2.2.2.2.2.2.2.2.2.1]] (callable Try.func11 rfl rfl) (c_lanemake_Stream_Pick hy51) rfl rfl rfl rfl rfl rfl rfl rfl rfl rfl) ?_
                refine ge_new hΓ 22 (i := _) rfl rfl rfl rfl ?_
                refine ge_new hΓ 23 (i := _) rfl rfl rfl rfl ?_
                refine ge_fill hΓ 20 11 [] [B false, .d (.v (.int .u64 0)), .d (.v (.int .u64 0)), I 0] [.bag s24.1, .box 25 [.d (Sl (eN .i64) y51.2.L), I y51.2.v_at], .box 30 [I y1.1.Maps, I y1.1.Lets, I y1.1.Timeout, I y1.1.First, I y1.1.Ports, B y1.1.Outer.Six, .d (.v (.int .u64 y1.1.Outer.Hi)), .d (.v (.int .u64 y1.1.Outer.Lo))], .row 86 11 s24.2.2.1.length (s24.2.2.1.flatMap e_route_entry), .box 64 [I s24.2.2.2.1, I s24.2.2.2.2.1, I s24.2.2.2.2.2.1, I s24.2.2.2.2.2.2.1, I s24.2.2.2.2.2.2.2.1, B s24.2.2.2.2.2.2.2.2.1, .d (.v (.int .u64 s24.2.2.2.2.2.2.2.2.2.1)), .d (.v (.int .u64 s24.2.2.2.2.2.2.2.2.2.2.1)), I s24.2.2.2.2.2.2.2.2.2.2.2.1, I s24.2.2.2.2.2.2.2.2.2.2.2.2.1, .sl 3 s24.2.2.1.length], .row 93 10 s24.2.2.2.2.2.2.2.2.2.2.2.2.2.1.length (s24.2.2.2.2.2.2.2.2.2.2.2.2.2.1.flatMap e_laneref1_sent), .box 76 [I s24.2.2.2.2.2.2.2.2.2.2.2.2.2.2.1, I s24.2.2.2.2.2.2.2.2.2.2.2.2.2.2.2.1, I s24.2.2.2.2.2.2.2.2.2.2.2.2.2.2.2.2.1, I s24.2.2.2.2.2.2.2.2.2.2.2.2.2.2.2.2.2.1, I s24.2.2.2.2.2.2.2.2.2.2.2.2.2.2.2.2.2.2.1, B s24.2.2.2.2.2.2.2.2.2.2.2.2.2.2.2.2.2.2.2.1, .d (.v (.int .u64 s24.2.2.2.2.2.2.2.2.2.2.2.2.2.2.2.2.2.2.2.2.1)), .d (.v (.int .u64 s24.2.2.2.2.2.2.2.2.2.2.2.2.2.2.2.2.2.2.2.2.2.1)), .sl 5 s24.2.2.2.2.2.2.2.2.2.2.2.2.2.1.length, I s24.2.2.2.2.2.2.2.2.2.2.2.2.2.2.2.2.2.2.2.2.2.2.1, I s24.2.2.2.2.2.2.2.2.2.2.2.2.2.2.2.2.2.2.2.2.2.2.2.1], .box 45 [B false, .d (.v (.int .u64 0)), .d (.v (.int .u64 (IntKind.u64.wrap (y45.1)))), I y47.1]] rfl rfl rfl (show Γ 45 = some ⟨_, _, _, _⟩ from rfl) rfl ⟨.refl _, .refl _, .refl _, .refl _, trivial⟩ rfl rfl rfl rfl (st_st ⟨rfl, trivial⟩) (qte_u (opu_store2 hΓ rfl rfl rfl rfl rfl rfl rfl rfl rfl)) ?_
                refine ge_fill hΓ 21 12 [] [B false, .d (.v (.int .u64 0)), .d (.v (.int .u64 0)), I 0] [.bag s24.1, .box 25 [.d (Sl (eN .i64) y51.2.L), I y51.2.v_at], .box 30 [I y1.1.Maps, I y1.1.Lets, I y1.1.Timeout, I y1.1.First, I y1.1.Ports, B y1.1.Outer.Six, .d (.v (.int .u64 y1.1.Outer.Hi)), .d (.v (.int .u64 y1.1.Outer.Lo))], .row 86 11 s24.2.2.1.length (s24.2.2.1.flatMap e_route_entry), .box 64 [I s24.2.2.2.1, I s24.2.2.2.2.1, I s24.2.2.2.2.2.1, I s24.2.2.2.2.2.2.1, I s24.2.2.2.2.2.2.2.1, B s24.2.2.2.2.2.2.2.2.1, .d (.v (.int .u64 s24.2.2.2.2.2.2.2.2.2.1)), .d (.v (.int .u64 s24.2.2.2.2.2.2.2.2.2.2.1)), I s24.2.2.2.2.2.2.2.2.2.2.2.1, I s24.2.2.2.2.2.2.2.2.2.2.2.2.1, .sl 3 s24.2.2.1.length], .row 93 10 s24.2.2.2.2.2.2.2.2.2.2.2.2.2.1.length (s24.2.2.2.2.2.2.2.2.2.2.2.2.2.1.flatMap e_laneref1_sent), .box 76 [I s24.2.2.2.2.2.2.2.2.2.2.2.2.2.2.1, I s24.2.2.2.2.2.2.2.2.2.2.2.2.2.2.2.1, I s24.2.2.2.2.2.2.2.2.2.2.2.2.2.2.2.2.1, I s24.2.2.2.2.2.2.2.2.2.2.2.2.2.2.2.2.2.1, I s24.2.2.2.2.2.2.2.2.2.2.2.2.2.2.2.2.2.2.1, B s24.2.2.2.2.2.2.2.2.2.2.2.2.2.2.2.2.2.2.2.1, .d (.v (.int .u64 s24.2.2.2.2.2.2.2.2.2.2.2.2.2.2.2.2.2.2.2.2.1)), .d (.v (.int .u64 s24.2.2.2.2.2.2.2.2.2.2.2.2.2.2.2.2.2.2.2.2.2.1)), .sl 5 s24.2.2.2.2.2.2.2.2.2.2.2.2.2.1.length, I s24.2.2.2.2.2.2.2.2.2.2.2.2.2.2.2.2.2.2.2.2.2.2.1, I s24.2.2.2.2.2.2.2.2.2.2.2.2.2.2.2.2.2.2.2.2.2.2.2.1], .box 45 [B false, .d (.v (.int .u64 0)), .d (.v (.int .u64 (IntKind.u64.wrap (y45.1)))), I y47.1], .box 45 [B y49.1.Addr.Six, .d (.v (.int .u64 y49.1.Addr.Hi)), .d (.v (.int .u64 y49.1.Addr.Lo)), I y49.1.Port]] rfl rfl rfl (show Γ 45 = some ⟨_, _, _, _⟩ from rfl) rfl ⟨.refl _, .refl _, .refl _, .refl _, trivial⟩ rfl rfl rfl rfl (st_st ⟨rfl, trivial⟩) (qte_u (opu_store2 hΓ rfl rfl rfl rfl rfl rfl rfl rfl rfl)) ?_
                refine go_E hΓ 1 rfl ?_
                refine ge_fin ?_
                obtain ⟨y53, hy53, h54⟩ := bi_ok h52
                refine go hΓ 4 rfl ?_
                refine eo_callF [1] (I y53.1) [.bag s24.1, .box 25 [.d (Sl (eN .i64) y53.2.L), I y53.2.v_at], .box 30 [I y1.1.Maps, I y1.1.Lets, I y1.1.Timeout, I y1.1.First, I y1.1.Ports, B y1.1.Outer.Six, .d (.v (.int .u64 y1.1.Outer.Hi)), .d (.v (.int .u64 y1.1.Outer.Lo))], .row 86 11 s24.2.2.1.length (s24.2.2.1.flatMap e_route_entry), .box 64 [I s24.2.2.2.1, I s24.2.2.2.2.1, I s24.2.2.2.2.2.1, I s24.2.2.2.2.2.2.1, I s24.2.2.2.2.2.2.2.1, B s24.2.2.2.2.2.2.2.2.1, .d (.v (.int .u64 s24.2.2.2.2.2.2.2.2.2.1)), .d (.v (.int .u64 s24.2.2.2.2.2.2.2.2.2.2.1)), I s24.2.2.2.2.2.2.2.2.2.2.2.1, I s24.2.2.2.2.2.2.2.2.2.2.2.2.1, .sl 3 s24.2.2.1.length], .row 93 10 s24.2.2.2.2.2.2.2.2.2.2.2.2.2.1.length (s24.2.2.2.2.2.2.2.2.2.2.2.2.2.1.flatMap e_laneref1_sent), .box 76 [I s24.2.2.2.2.2.2.2.2.2.2.2.2.2.2.1, I s24.2.2.2.2.2.2.2.2.2.2.2.2.2.2.2.1, I s24.2.2.2.2.2.2.2.2.2.2.2.2.2.2.2.2.1, I s24.2.2.2.2.2.2.2.2.2.2.2.2.2.2.2.2.2.1, I s24.2.2.2.2.2.2.2.2.2.2.2.2.2.2.2.2.2.2.1, B s24.2.2.2.2.2.2.2.2.2.2.2.2.2.2.2.2.2.2.2.1, .d (.v (.int .u64 s24.2.2.2.2.2.2.2.2.2.2.2.2.2.2.2.2.2.2.2.2.1)), .d (.v (.int .u64 s24.2.2.2.2.2.2.2.2.2.2.2.2.2.2.2.2.2.2.2.2.2.1)), .sl 5 s24.2.2.2.2.2.2.2.2.2.2.2.2.2.1.length, I s24.2.2.2.2.2.2.2.2.2.2.2.2.2.2.2.2.2.2.2.2.2.2.1, I s24.2.2.2.2.2.2.2.2.2.2.2.2.2.2.2.2.2.2.2.2.2.2.2.1], .box 45 [B false, .d (.v (.int .u64 0)), .d (.v (.int .u64 (IntKind.u64.wrap (y45.1)))), I y47.1], .box 45 [B y49.1.Addr.Six, .d (.v (.int .u64 y49.1.Addr.Hi)), .d (.v (.int .u64 y49.1.Addr.Lo)), I y49.1.Port]] (callable Try.func10 rfl rfl) (c_lanemake_Stream_Next hy53) rfl (Nat.le_of_ble_eq_true rfl) rfl rfl rfl rfl rfl rfl rfl rfl rfl rfl ?_
                obtain ⟨q55, hq55, h56⟩ := bi_ok h54
                refine go_ops hΓ 10 rfl ?_
                refine j_cutNZ [(3, .ptr 1 0), (4, .ptr 2 0), (5, .ptr 4 0), (8, .ptr 6 0), (9, I (wi (s24.2.2.2.2.2.2.2.2.2.2.2.2.2.2.2.2.2.2.2.2.2.2.2.2 + y35.1))), (10, I q39.2), (11, .ptr 7 0), (12, .ptr 8 0), (13, I y51.1), (63, I y21.1), (64, I (i23 : Int)), (98, I y53.1), (119, B q55)] [.bag s24.1, .box 25 [.d (Sl (eN .i64) y53.2.L), I y53.2.v_at], .box 30 [I y1.1.Maps, I y1.1.Lets, I y1.1.Timeout, I y1.1.First, I y1.1.Ports, B y1.1.Outer.Six, .d (.v (.int .u64 y1.1.Outer.Hi)), .d (.v (.int .u64 y1.1.Outer.Lo))], .row 86 11 s24.2.2.1.length (s24.2.2.1.flatMap e_route_entry), .box 64 [I s24.2.2.2.1, I s24.2.2.2.2.1, I s24.2.2.2.2.2.1, I s24.2.2.2.2.2.2.1, I s24.2.2.2.2.2.2.2.1, B s24.2.2.2.2.2.2.2.2.1, .d (.v (.int .u64 s24.2.2.2.2.2.2.2.2.2.1)), .d (.v (.int .u64 s24.2.2.2.2.2.2.2.2.2.2.1)), I s24.2.2.2.2.2.2.2.2.2.2.2.1, I s24.2.2.2.2.2.2.2.2.2.2.2.2.1, .sl 3 s24.2.2.1.length], .row 93 10 s24.2.2.2.2.2.2.2.2.2.2.2.2.2.1.length (s24.2.2.2.2.2.2.2.2.2.2.2.2.2.1.flatMap e_laneref1_sent), .box 76 [I s24.2.2.2.2.2.2.2.2.2.2.2.2.2.2.1, I s24.2.2.2.2.2.2.2.2.2.2.2.2.2.2.2.1, I s24.2.2.2.2.2.2.2.2.2.2.2.2.2.2.2.2.1, I s24.2.2.2.2.2.2.2.2.2.2.2.2.2.2.2.2.2.1, I s24.2.2.2.2.2.2.2.2.2.2.2.2.2.2.2.2.2.2.1, B s24.2.2.2.2.2.2.2.2.2.2.2.2.2.2.2.2.2.2.2.1, .d (.v (.int .u64 s24.2.2.2.2.2.2.2.2.2.2.2.2.2.2.2.2.2.2.2.2.1)), .d (.v (.int .u64 s24.2.2.2.2.2.2.2.2.2.2.2.2.2.2.2.2.2.2.2.2.2.1)), .sl 5 s24.2.2.2.2.2.2.2.2.2.2.2.2.2.1.length, I s24.2.2.2.2.2.2.2.2.2.2.2.2.2.2.2.2.2.2.2.2.2.2.1, I s24.2.2.2.2.2.2.2.2.2.2.2.2.2.2.2.2.2.2.2.2.2.2.2.1], .box 45 [B false, .d (.v (.int .u64 0)), .d (.v (.int .u64 (IntKind.u64.wrap (y45.1)))), I y47.1], .box 45 [B y49.1.Addr.Six, .d (.v (.int .u64 y49.1.Addr.Hi)), .d (.v (.int .u64 y49.1.Addr.Lo)), I y49.1.Port]] ?_ ?_
                · refine j_cond rfl (fun hb => ?_) (fun hb => ?_)
                  · have h57 := cT hq55 hb
                    refine go hΓ 1 rfl ?_
                    obtain rfl := Option.some.inj h57
                    exact ⟨⟨rfl, rfl, rfl, rfl, rfl, rfl, rfl, rfl, rfl, rfl, rfl, rfl, rfl, trivial⟩, [], rfl, .inl rfl⟩
                  · have h58 := cF hq55 hb
                    refine go hΓ 4 rfl ?_
                    obtain rfl := Option.some.inj h58
                    exact ⟨⟨rfl, rfl, rfl, rfl, rfl, rfl, rfl, rfl, rfl, rfl, rfl, rfl, rfl, trivial⟩, [], rfl, .inl rfl⟩
                · refine go hΓ 1 rfl ?_
                  refine j_cond rfl (fun hb => ?_) (fun hb => ?_)
                  · have h59 := cT h56 hb
                    obtain ⟨y60, hy60, h61⟩ := bi_ok h59
                    refine go hΓ 6 rfl ?_
                    refine eo_callF [3, 4, 0] (.tup [.agg [B y60.1.Addr.Six, .d (.v (.int .u64 y60.1.Addr.Hi)), .d (.v (.int .u64 y60.1.Addr.Lo)), I y60.1.Port], I y60.2.1]) [.bag y60.2.2.2, .box 25 [.d (Sl (eN .i64) y53.2.L), I y53.2.v_at], .box 30 [I y1.1.Maps, I y1.1.Lets, I y1.1.Timeout, I y1.1.First, I y1.1.Ports, B y1.1.Outer.Six, .d (.v (.int .u64 y1.1.Outer.Hi)), .d (.v (.int .u64 y1.1.Outer.Lo))], .dead, .box 64 [I y60.2.2.1.nat.Maps, I y60.2.2.1.nat.Lets, I y60.2.2.1.nat.Timeout, I y60.2.2.1.nat.First, I y60.2.2.1.nat.Ports, B y60.2.2.1.nat.Outer.Six, .d (.v (.int .u64 y60.2.2.1.nat.Outer.Hi)), .d (.v (.int .u64 y60.2.2.1.nat.Outer.Lo)), I y60.2.2.1.now, I y60.2.2.1.v_next, .sl 9 y60.2.2.1.list.length], .row 93 10 s24.2.2.2.2.2.2.2.2.2.2.2.2.2.1.length (s24.2.2.2.2.2.2.2.2.2.2.2.2.2.1.flatMap e_laneref1_sent), .box 76 [I s24.2.2.2.2.2.2.2.2.2.2.2.2.2.2.1, I s24.2.2.2.2.2.2.2.2.2.2.2.2.2.2.2.1, I s24.2.2.2.2.2.2.2.2.2.2.2.2.2.2.2.2.1, I s24.2.2.2.2.2.2.2.2.2.2.2.2.2.2.2.2.2.1, I s24.2.2.2.2.2.2.2.2.2.2.2.2.2.2.2.2.2.2.1, B s24.2.2.2.2.2.2.2.2.2.2.2.2.2.2.2.2.2.2.2.1, .d (.v (.int .u64 s24.2.2.2.2.2.2.2.2.2.2.2.2.2.2.2.2.2.2.2.2.1)), .d (.v (.int .u64 s24.2.2.2.2.2.2.2.2.2.2.2.2.2.2.2.2.2.2.2.2.2.1)), .sl 5 s24.2.2.2.2.2.2.2.2.2.2.2.2.2.1.length, I s24.2.2.2.2.2.2.2.2.2.2.2.2.2.2.2.2.2.2.2.2.2.2.1, I s24.2.2.2.2.2.2.2.2.2.2.2.2.2.2.2.2.2.2.2.2.2.2.2.1], .box 45 [B false, .d (.v (.int .u64 0)), .d (.v (.int .u64 (IntKind.u64.wrap (y45.1)))), I y47.1], .box 45 [B y49.1.Addr.Six, .d (.v (.int .u64 y49.1.Addr.Hi)), .d (.v (.int .u64 y49.1.Addr.Lo)), I y49.1.Port], .row 86 11 y60.2.2.1.list.length (y60.2.2.1.list.flatMap e_route_entry)] (callable Try.func15 rfl rfl) (c_route_Translator_Out hy60) rfl (Nat.le_of_ble_eq_true rfl) rfl rfl rfl rfl rfl rfl rfl rfl rfl rfl ?_
                    refine go_ops hΓ 3 rfl ?_
                    refine eo_alloc hΓ rfl rfl rfl (Nat.le_of_ble_eq_true rfl) ?_
                    refine eo_store hΓ rfl rfl rfl rfl rfl rfl rfl rfl (Nat.le_of_ble_eq_true rfl) ?_
                    refine eo_hp [.bag y60.2.2.2, .box 25 [.d (Sl (eN .i64) y53.2.L), I y53.2.v_at], .box 30 [I y1.1.Maps, I y1.1.Lets, I y1.1.Timeout, I y1.1.First, I y1.1.Ports, B y1.1.Outer.Six, .d (.v (.int .u64 y1.1.Outer.Hi)), .d (.v (.int .u64 y1.1.Outer.Lo))], .dead, .box 64 [I y60.2.2.1.nat.Maps, I y60.2.2.1.nat.Lets, I y60.2.2.1.nat.Timeout, I y60.2.2.1.nat.First, I y60.2.2.1.nat.Ports, B y60.2.2.1.nat.Outer.Six, .d (.v (.int .u64 y60.2.2.1.nat.Outer.Hi)), .d (.v (.int .u64 y60.2.2.1.nat.Outer.Lo)), I y60.2.2.1.now, I y60.2.2.1.v_next, .sl 9 y60.2.2.1.list.length], .row 93 10 s24.2.2.2.2.2.2.2.2.2.2.2.2.2.1.length (s24.2.2.2.2.2.2.2.2.2.2.2.2.2.1.flatMap e_laneref1_sent), .box 76 [I s24.2.2.2.2.2.2.2.2.2.2.2.2.2.2.1, I s24.2.2.2.2.2.2.2.2.2.2.2.2.2.2.2.1, I s24.2.2.2.2.2.2.2.2.2.2.2.2.2.2.2.2.1, I s24.2.2.2.2.2.2.2.2.2.2.2.2.2.2.2.2.2.1, I s24.2.2.2.2.2.2.2.2.2.2.2.2.2.2.2.2.2.2.1, B s24.2.2.2.2.2.2.2.2.2.2.2.2.2.2.2.2.2.2.2.1, .d (.v (.int .u64 s24.2.2.2.2.2.2.2.2.2.2.2.2.2.2.2.2.2.2.2.2.1)), .d (.v (.int .u64 s24.2.2.2.2.2.2.2.2.2.2.2.2.2.2.2.2.2.2.2.2.2.1)), .sl 5 s24.2.2.2.2.2.2.2.2.2.2.2.2.2.1.length, I s24.2.2.2.2.2.2.2.2.2.2.2.2.2.2.2.2.2.2.2.2.2.2.1, I s24.2.2.2.2.2.2.2.2.2.2.2.2.2.2.2.2.2.2.2.2.2.2.2.1], .box 45 [B false, .d (.v (.int .u64 0)), .d (.v (.int .u64 (IntKind.u64.wrap (y45.1)))), I y47.1], .box 45 [B y49.1.Addr.Six, .d (.v (.int .u64 y49.1.Addr.Hi)), .d (.v (.int .u64 y49.1.Addr.Lo)), I y49.1.Port], .row 86 11 y60.2.2.1.list.length (y60.2.2.1.list.flatMap e_route_entry), .box 45 [B y60.1.Addr.Six, .d (.v (.int .u64 y60.1.Addr.Hi)), .d (.v (.int .u64 y60.1.Addr.Lo)), I y60.1.Port]] rfl ?_
                    refine go_ops hΓ 1 rfl ?_
                    refine eo_move 9 3 [.bag y60.2.2.2, .box 25 [.d (Sl (eN .i64) y53.2.L), I y53.2.v_at], .box 30 [I y1.1.Maps, I y1.1.Lets, I y1.1.Timeout, I y1.1.First, I y1.1.Ports, B y1.1.Outer.Six, .d (.v (.int .u64 y1.1.Outer.Hi)), .d (.v (.int .u64 y1.1.Outer.Lo))], .row 86 11 y60.2.2.1.list.length (y60.2.2.1.list.flatMap e_route_entry), .box 64 [I y60.2.2.1.nat.Maps, I y60.2.2.1.nat.Lets, I y60.2.2.1.nat.Timeout, I y60.2.2.1.nat.First, I y60.2.2.1.nat.Ports, B y60.2.2.1.nat.Outer.Six, .d (.v (.int .u64 y60.2.2.1.nat.Outer.Hi)), .d (.v (.int .u64 y60.2.2.1.nat.Outer.Lo)), I y60.2.2.1.now, I y60.2.2.1.v_next, .sl 3 y60.2.2.1.list.length], .row 93 10 s24.2.2.2.2.2.2.2.2.2.2.2.2.2.1.length (s24.2.2.2.2.2.2.2.2.2.2.2.2.2.1.flatMap e_laneref1_sent), .box 76 [I s24.2.2.2.2.2.2.2.2.2.2.2.2.2.2.1, I s24.2.2.2.2.2.2.2.2.2.2.2.2.2.2.2.1, I s24.2.2.2.2.2.2.2.2.2.2.2.2.2.2.2.2.1, I s24.2.2.2.2.2.2.2.2.2.2.2.2.2.2.2.2.2.1, I s24.2.2.2.2.2.2.2.2.2.2.2.2.2.2.2.2.2.2.1, B s24.2.2.2.2.2.2.2.2.2.2.2.2.2.2.2.2.2.2.2.1, .d (.v (.int .u64 s24.2.2.2.2.2.2.2.2.2.2.2.2.2.2.2.2.2.2.2.2.1)), .d (.v (.int .u64 s24.2.2.2.2.2.2.2.2.2.2.2.2.2.2.2.2.2.2.2.2.2.1)), .sl 5 s24.2.2.2.2.2.2.2.2.2.2.2.2.2.1.length, I s24.2.2.2.2.2.2.2.2.2.2.2.2.2.2.2.2.2.2.2.2.2.2.1, I s24.2.2.2.2.2.2.2.2.2.2.2.2.2.2.2.2.2.2.2.2.2.2.2.1], .box 45 [B false, .d (.v (.int .u64 0)), .d (.v (.int .u64 (IntKind.u64.wrap (y45.1)))), I y47.1], .box 45 [B y49.1.Addr.Six, .d (.v (.int .u64 y49.1.Addr.Hi)), .d (.v (.int .u64 y49.1.Addr.Lo)), I y49.1.Port], .dead, .box 45 [B y60.1.Addr.Six, .d (.v (.int .u64 y60.1.Addr.Hi)), .d (.v (.int .u64 y60.1.Addr.Lo)), I y60.1.Port]] rfl rfl rfl rfl rfl rfl ?_
                    obtain ⟨y62, hy62, h63⟩ := bi_ok h61
                    refine go_ops hΓ 8 rfl ?_
                    refine eo_callF [5, 6, 0] (.tup [.agg [B y62.1.Addr.Six, .d (.v (.int .u64 y62.1.Addr.Hi)), .d (.v (.int .u64 y62.1.Addr.Lo)), I y62.1.Port], I y62.2.1]) [.bag y62.2.2.2, .box 25 [.d (Sl (eN .i64) y53.2.L), I y53.2.v_at], .box 30 [I y1.1.Maps, I y1.1.Lets, I y1.1.Timeout, I y1.1.First, I y1.1.Ports, B y1.1.Outer.Six, .d (.v (.int .u64 y1.1.Outer.Hi)), .d (.v (.int .u64 y1.1.Outer.Lo))], .row 86 11 y60.2.2.1.list.length (y60.2.2.1.list.flatMap e_route_entry), .box 64 [I y60.2.2.1.nat.Maps, I y60.2.2.1.nat.Lets, I y60.2.2.1.nat.Timeout, I y60.2.2.1.nat.First, I y60.2.2.1.nat.Ports, B y60.2.2.1.nat.Outer.Six, .d (.v (.int .u64 y60.2.2.1.nat.Outer.Hi)), .d (.v (.int .u64 y60.2.2.1.nat.Outer.Lo)), I y60.2.2.1.now, I y60.2.2.1.v_next, .sl 3 y60.2.2.1.list.length], .dead, .box 76 [I y62.2.2.1.n.Maps, I y62.2.2.1.n.Lets, I y62.2.2.1.n.Timeout, I y62.2.2.1.n.First, I y62.2.2.1.n.Ports, B y62.2.2.1.n.Outer.Six, .d (.v (.int .u64 y62.2.2.1.n.Outer.Hi)), .d (.v (.int .u64 y62.2.2.1.n.Outer.Lo)), .sl 11 y62.2.2.1.out.length, I y62.2.2.1.last, I y62.2.2.1.now], .box 45 [B false, .d (.v (.int .u64 0)), .d (.v (.int .u64 (IntKind.u64.wrap (y45.1)))), I y47.1], .box 45 [B y49.1.Addr.Six, .d (.v (.int .u64 y49.1.Addr.Hi)), .d (.v (.int .u64 y49.1.Addr.Lo)), I y49.1.Port], .dead, .box 45 [B y60.1.Addr.Six, .d (.v (.int .u64 y60.1.Addr.Hi)), .d (.v (.int .u64 y60.1.Addr.Lo)), I y60.1.Port], .row 93 10 y62.2.2.1.out.length (y62.2.2.1.out.flatMap e_laneref1_sent)] (callable Try.func16 rfl rfl) (c_laneref1_Translator_Out hy62) rfl (Nat.le_of_ble_eq_true rfl) rfl rfl rfl rfl rfl rfl rfl rfl rfl rfl ?_
                    refine go_ops hΓ 3 rfl ?_
                    refine eo_alloc hΓ rfl rfl rfl (Nat.le_of_ble_eq_true rfl) ?_
                    refine eo_store hΓ rfl rfl rfl rfl rfl rfl rfl rfl (Nat.le_of_ble_eq_true rfl) ?_
                    refine eo_hp [.bag y62.2.2.2, .box 25 [.d (Sl (eN .i64) y53.2.L), I y53.2.v_at], .box 30 [I y1.1.Maps, I y1.1.Lets, I y1.1.Timeout, I y1.1.First, I y1.1.Ports, B y1.1.Outer.Six, .d (.v (.int .u64 y1.1.Outer.Hi)), .d (.v (.int .u64 y1.1.Outer.Lo))], .row 86 11 y60.2.2.1.list.length (y60.2.2.1.list.flatMap e_route_entry), .box 64 [I y60.2.2.1.nat.Maps, I y60.2.2.1.nat.Lets, I y60.2.2.1.nat.Timeout, I y60.2.2.1.nat.First, I y60.2.2.1.nat.Ports, B y60.2.2.1.nat.Outer.Six, .d (.v (.int .u64 y60.2.2.1.nat.Outer.Hi)), .d (.v (.int .u64 y60.2.2.1.nat.Outer.Lo)), I y60.2.2.1.now, I y60.2.2.1.v_next, .sl 3 y60.2.2.1.list.length], .dead, .box 76 [I y62.2.2.1.n.Maps, I y62.2.2.1.n.Lets, I y62.2.2.1.n.Timeout, I y62.2.2.1.n.First, I y62.2.2.1.n.Ports, B y62.2.2.1.n.Outer.Six, .d (.v (.int .u64 y62.2.2.1.n.Outer.Hi)), .d (.v (.int .u64 y62.2.2.1.n.Outer.Lo)), .sl 11 y62.2.2.1.out.length, I y62.2.2.1.last, I y62.2.2.1.now], .box 45 [B false, .d (.v (.int .u64 0)), .d (.v (.int .u64 (IntKind.u64.wrap (y45.1)))), I y47.1], .box 45 [B y49.1.Addr.Six, .d (.v (.int .u64 y49.1.Addr.Hi)), .d (.v (.int .u64 y49.1.Addr.Lo)), I y49.1.Port], .dead, .box 45 [B y60.1.Addr.Six, .d (.v (.int .u64 y60.1.Addr.Hi)), .d (.v (.int .u64 y60.1.Addr.Lo)), I y60.1.Port], .row 93 10 y62.2.2.1.out.length (y62.2.2.1.out.flatMap e_laneref1_sent), .box 45 [B y62.1.Addr.Six, .d (.v (.int .u64 y62.1.Addr.Hi)), .d (.v (.int .u64 y62.1.Addr.Lo)), I y62.1.Port]] rfl ?_
                    refine go_ops hΓ 1 rfl ?_
                    refine eo_move 11 5 [.bag y62.2.2.2, .box 25 [.d (Sl (eN .i64) y53.2.L), I y53.2.v_at], .box 30 [I y1.1.Maps, I y1.1.Lets, I y1.1.Timeout, I y1.1.First, I y1.1.Ports, B y1.1.Outer.Six, .d (.v (.int .u64 y1.1.Outer.Hi)), .d (.v (.int .u64 y1.1.Outer.Lo))], .row 86 11 y60.2.2.1.list.length (y60.2.2.1.list.flatMap e_route_entry), .box 64 [I y60.2.2.1.nat.Maps, I y60.2.2.1.nat.Lets, I y60.2.2.1.nat.Timeout, I y60.2.2.1.nat.First, I y60.2.2.1.nat.Ports, B y60.2.2.1.nat.Outer.Six, .d (.v (.int .u64 y60.2.2.1.nat.Outer.Hi)), .d (.v (.int .u64 y60.2.2.1.nat.Outer.Lo)), I y60.2.2.1.now, I y60.2.2.1.v_next, .sl 3 y60.2.2.1.list.length], .row 93 10 y62.2.2.1.out.length (y62.2.2.1.out.flatMap e_laneref1_sent), .box 76 [I y62.2.2.1.n.Maps, I y62.2.2.1.n.Lets, I y62.2.2.1.n.Timeout, I y62.2.2.1.n.First, I y62.2.2.1.n.Ports, B y62.2.2.1.n.Outer.Six, .d (.v (.int .u64 y62.2.2.1.n.Outer.Hi)), .d (.v (.int .u64 y62.2.2.1.n.Outer.Lo)), .sl 5 y62.2.2.1.out.length, I y62.2.2.1.last, I y62.2.2.1.now], .box 45 [B false, .d (.v (.int .u64 0)), .d (.v (.int .u64 (IntKind.u64.wrap (y45.1)))), I y47.1], .box 45 [B y49.1.Addr.Six, .d (.v (.int .u64 y49.1.Addr.Hi)), .d (.v (.int .u64 y49.1.Addr.Lo)), I y49.1.Port], .dead, .box 45 [B y60.1.Addr.Six, .d (.v (.int .u64 y60.1.Addr.Hi)), .d (.v (.int .u64 y60.1.Addr.Lo)), I y60.1.Port], .dead, .box 45 [B y62.1.Addr.Six, .d (.v (.int .u64 y62.1.Addr.Hi)), .d (.v (.int .u64 y62.1.Addr.Lo)), I y62.1.Port]] rfl rfl rfl rfl rfl rfl ?_
                    refine go_ops hΓ 8 rfl ?_
                    refine o_cut 4 [(3, .ptr 1 0), (4, .ptr 2 0), (5, .ptr 4 0), (8, .ptr 6 0), (9, I (wi (s24.2.2.2.2.2.2.2.2.2.2.2.2.2.2.2.2.2.2.2.2.2.2.2.2 + y35.1))), (63, I y21.1), (64, I (i23 : Int)), (145, B (((y60.2.1 : Int) != y62.2.1) || (!((((y60.1.Addr.Six : Bool) == y62.1.Addr.Six) && (((y60.1.Addr.Hi : Int) == y62.1.Addr.Hi) && (((y60.1.Addr.Lo : Int) == y62.1.Addr.Lo) && true))) && (((y60.1.Port : Int) == y62.1.Port) && true)))))] [.bag y62.2.2.2, .box 25 [.d (Sl (eN .i64) y53.2.L), I y53.2.v_at], .box 30 [I y1.1.Maps, I y1.1.Lets, I y1.1.Timeout, I y1.1.First, I y1.1.Ports, B y1.1.Outer.Six, .d (.v (.int .u64 y1.1.Outer.Hi)), .d (.v (.int .u64 y1.1.Outer.Lo))], .row 86 11 y60.2.2.1.list.length (y60.2.2.1.list.flatMap e_route_entry), .box 64 [I y60.2.2.1.nat.Maps, I y60.2.2.1.nat.Lets, I y60.2.2.1.nat.Timeout, I y60.2.2.1.nat.First, I y60.2.2.1.nat.Ports, B y60.2.2.1.nat.Outer.Six, .d (.v (.int .u64 y60.2.2.1.nat.Outer.Hi)), .d (.v (.int .u64 y60.2.2.1.nat.Outer.Lo)), I y60.2.2.1.now, I y60.2.2.1.v_next, .sl 3 y60.2.2.1.list.length], .row 93 10 y62.2.2.1.out.length (y62.2.2.1.out.flatMap e_laneref1_sent), .box 76 [I y62.2.2.1.n.Maps, I y62.2.2.1.n.Lets, I y62.2.2.1.n.Timeout, I y62.2.2.1.n.First, I y62.2.2.1.n.Ports, B y62.2.2.1.n.Outer.Six, .d (.v (.int .u64 y62.2.2.1.n.Outer.Hi)), .d (.v (.int .u64 y62.2.2.1.n.Outer.Lo)), .sl 5 y62.2.2.1.out.length, I y62.2.2.1.last, I y62.2.2.1.now], .box 45 [B false, .d (.v (.int .u64 0)), .d (.v (.int .u64 (IntKind.u64.wrap (y45.1)))), I y47.1], .box 45 [B y49.1.Addr.Six, .d (.v (.int .u64 y49.1.Addr.Hi)), .d (.v (.int .u64 y49.1.Addr.Lo)), I y49.1.Port], .dead, .box 45 [B y60.1.Addr.Six, .d (.v (.int .u64 y60.1.Addr.Hi)), .d (.v (.int .u64 y60.1.Addr.Lo)), I y60.1.Port], .dead, .box 45 [B y62.1.Addr.Six, .d (.v (.int .u64 y62.1.Addr.Hi)), .d (.v (.int .u64 y62.1.Addr.Lo)), I y62.1.Port]] ?_ ?_
                    · refine eo_gsplit rfl rfl (fun hb => ?_) (fun hb => ?_)
                      · refine go_ops hΓ 5 rfl ?_
                        exact ⟨⟨rfl, rfl, rfl, rfl, rfl, rfl, rfl, get_b rfl (or_t hb), trivial⟩, [], rfl, .inl rfl⟩
                      · refine go_ops hΓ 2 rfl ?_
                        refine eo_guard rfl ?_
                        refine eo_o rfl (op_neS hΓ [45, 28] (b := ((((y60.1.Addr.Six : Bool) == y62.1.Addr.Six) && (((y60.1.Addr.Hi : Int) == y62.1.Addr.Hi) && (((y60.1.Addr.Lo : Int) == y62.1.Addr.Lo) && true))) && (((y60.1.Port : Int) == y62.1.Port) && true))) (by kernel_rfl) (by kernel_rfl) rfl rfl rfl) ?_
                        refine go_ops hΓ 2 rfl ?_
                        exact ⟨⟨rfl, rfl, rfl, rfl, rfl, rfl, rfl, get_b rfl (or_f hb), trivial⟩, [], rfl, .inl rfl⟩
                    · refine go_ops hΓ 2 rfl ?_
                      refine j_cond rfl (fun hb => ?_) (fun hb => ?_)
                      · have h64 := cT h63 hb
                        refine go hΓ 9 rfl ?_
                        obtain ⟨v65, hv65, h66⟩ := bi_ok h64
                        obtain rfl := Option.some.inj h66
                        obtain rfl := hout33 _ rfl
                        obtain rfl := Option.some.inj h27
                        refine go hΓ 4 rfl ?_
                        obtain rfl := Option.some.inj hv65
                        exact fin_objs hΓ [_, _, _, _, _, _, _, _, _, _, _, _] (.inr rfl) rfl rfl rfl rfl (.inr ⟨HB.mk rfl, rfl⟩)
                      · have h67 := cF h63 hb
                        refine go hΓ 8 rfl ?_
                        obtain rfl := Option.some.inj h67
                        exact ⟨_, rfl, ⟨⟨rfl, rfl, rfl, rfl, rfl, rfl, get_eq rfl (w64_succ (by omega)), trivial⟩, [_, _, _, _, _, _], rfl, .inr ⟨HB.mk rfl, FB.mk rfl, (Nat.le_of_ble_eq_true rfl)⟩⟩⟩
                  · have h68 := cF h56 hb
                    obtain ⟨q69, hq69, h70⟩ := bi_ok h68
                    refine go hΓ 7 rfl ?_
                    refine j_cutNZ [(3, .ptr 1 0), (4, .ptr 2 0), (5, .ptr 4 0), (8, .ptr 6 0), (9, I (wi (s24.2.2.2.2.2.2.2.2.2.2.2.2.2.2.2.2.2.2.2.2.2.2.2.2 + y35.1))), (10, I q39.2), (12, .ptr 8 0), (13, I y51.1), (63, I y21.1), (64, I (i23 : Int)), (146, B q69)] [.bag s24.1, .box 25 [.d (Sl (eN .i64) y53.2.L), I y53.2.v_at], .box 30 [I y1.1.Maps, I y1.1.Lets, I y1.1.Timeout, I y1.1.First, I y1.1.Ports, B y1.1.Outer.Six, .d (.v (.int .u64 y1.1.Outer.Hi)), .d (.v (.int .u64 y1.1.Outer.Lo))], .row 86 11 s24.2.2.1.length (s24.2.2.1.flatMap e_route_entry), .box 64 [I s24.2.2.2.1, I s24.2.2.2.2.1, I s24.2.2.2.2.2.1, I s24.2.2.2.2.2.2.1, I s24.2.2.2.2.2.2.2.1, B s24.2.2.2.2.2.2.2.2.1, .d (.v (.int .u64 s24.2.2.2.2.2.2.2.2.2.1)), .d (.v (.int .u64 s24.2.2.2.2.2.2.2.2.2.2.1)), I s24.2.2.2.2.2.2.2.2.2.2.2.1, I s24.2.2.2.2.2.2.2.2.2.2.2.2.1, .sl 3 s24.2.2.1.length], .row 93 10 s24.2.2.2.2.2.2.2.2.2.2.2.2.2.1.length (s24.2.2.2.2.2.2.2.2.2.2.2.2.2.1.flatMap e_laneref1_sent), .box 76 [I s24.2.2.2.2.2.2.2.2.2.2.2.2.2.2.1, I s24.2.2.2.2.2.2.2.2.2.2.2.2.2.2.2.1, I s24.2.2.2.2.2.2.2.2.2.2.2.2.2.2.2.2.1, I s24.2.2.2.2.2.2.2.2.2.2.2.2.2.2.2.2.2.1, I s24.2.2.2.2.2.2.2.2.2.2.2.2.2.2.2.2.2.2.1, B s24.2.2.2.2.2.2.2.2.2.2.2.2.2.2.2.2.2.2.2.1, .d (.v (.int .u64 s24.2.2.2.2.2.2.2.2.2.2.2.2.2.2.2.2.2.2.2.2.1)), .d (.v (.int .u64 s24.2.2.2.2.2.2.2.2.2.2.2.2.2.2.2.2.2.2.2.2.2.1)), .sl 5 s24.2.2.2.2.2.2.2.2.2.2.2.2.2.1.length, I s24.2.2.2.2.2.2.2.2.2.2.2.2.2.2.2.2.2.2.2.2.2.2.1, I s24.2.2.2.2.2.2.2.2.2.2.2.2.2.2.2.2.2.2.2.2.2.2.2.1], .box 45 [B false, .d (.v (.int .u64 0)), .d (.v (.int .u64 (IntKind.u64.wrap (y45.1)))), I y47.1], .box 45 [B y49.1.Addr.Six, .d (.v (.int .u64 y49.1.Addr.Hi)), .d (.v (.int .u64 y49.1.Addr.Lo)), I y49.1.Port]] ?_ ?_
                    · refine j_cond rfl (fun hb => ?_) (fun hb => ?_)
                      · have h71 := cT hq69 hb
                        refine go hΓ 1 rfl ?_
                        obtain rfl := Option.some.inj h71
                        exact ⟨⟨rfl, rfl, rfl, rfl, rfl, rfl, rfl, rfl, rfl, rfl, rfl, trivial⟩, [], rfl, .inl rfl⟩
                      · have h72 := cF hq69 hb
                        refine go hΓ 4 rfl ?_
                        obtain rfl := Option.some.inj h72
                        exact ⟨⟨rfl, rfl, rfl, rfl, rfl, rfl, rfl, rfl, rfl, rfl, rfl, trivial⟩, [], rfl, .inl rfl⟩
                    · refine go hΓ 1 rfl ?_
                      refine j_cond rfl (fun hb => ?_) (fun hb => ?_)
                      · have h73 := cT h70 hb
                        obtain ⟨y74, hy74, h75⟩ := bi_ok h73
                        refine go hΓ 6 rfl ?_
                        refine eo_callF [3, 4] (.tup [.agg [B y74.1.Addr.Six, .d (.v (.int .u64 y74.1.Addr.Hi)), .d (.v (.int .u64 y74.1.Addr.Lo)), I y74.1.Port], B y74.2.1, I y74.2.2.1]) [.bag s24.1, .box 25 [.d (Sl (eN .i64) y53.2.L), I y53.2.v_at], .box 30 [I y1.1.Maps, I y1.1.Lets, I y1.1.Timeout, I y1.1.First, I y1.1.Ports, B y1.1.Outer.Six, .d (.v (.int .u64 y1.1.Outer.Hi)), .d (.v (.int .u64 y1.1.Outer.Lo))], .row 86 11 y74.2.2.2.list.length (y74.2.2.2.list.flatMap e_route_entry), .box 64 [I y74.2.2.2.nat.Maps, I y74.2.2.2.nat.Lets, I y74.2.2.2.nat.Timeout, I y74.2.2.2.nat.First, I y74.2.2.2.nat.Ports, B y74.2.2.2.nat.Outer.Six, .d (.v (.int .u64 y74.2.2.2.nat.Outer.Hi)), .d (.v (.int .u64 y74.2.2.2.nat.Outer.Lo)), I y74.2.2.2.now, I y74.2.2.2.v_next, .sl 3 y74.2.2.2.list.length], .row 93 10 s24.2.2.2.2.2.2.2.2.2.2.2.2.2.1.length (s24.2.2.2.2.2.2.2.2.2.2.2.2.2.1.flatMap e_laneref1_sent), .box 76 [I s24.2.2.2.2.2.2.2.2.2.2.2.2.2.2.1, I s24.2.2.2.2.2.2.2.2.2.2.2.2.2.2.2.1, I s24.2.2.2.2.2.2.2.2.2.2.2.2.2.2.2.2.1, I s24.2.2.2.2.2.2.2.2.2.2.2.2.2.2.2.2.2.1, I s24.2.2.2.2.2.2.2.2.2.2.2.2.2.2.2.2.2.2.1, B s24.2.2.2.2.2.2.2.2.2.2.2.2.2.2.2.2.2.2.2.1, .d (.v (.int .u64 s24.2.2.2.2.2.2.2.2.2.2.2.2.2.2.2.2.2.2.2.2.1)), .d (.v (.int .u64 s24.2.2.2.2.2.2.2.2.2.2.2.2.2.2.2.2.2.2.2.2.2.1)), .sl 5 s24.2.2.2.2.2.2.2.2.2.2.2.2.2.1.length, I s24.2.2.2.2.2.2.2.2.2.2.2.2.2.2.2.2.2.2.2.2.2.2.1, I s24.2.2.2.2.2.2.2.2.2.2.2.2.2.2.2.2.2.2.2.2.2.2.2.1], .box 45 [B false, .d (.v (.int .u64 0)), .d (.v (.int .u64 (IntKind.u64.wrap (y45.1)))), I y47.1], .box 45 [B y49.1.Addr.Six, .d (.v (.int .u64 y49.1.Addr.Hi)), .d (.v (.int .u64 y49.1.Addr.Lo)), I y49.1.Port]] (callable Try.func17 rfl rfl) (c_route_Translator_In hy74) rfl (Nat.le_of_ble_eq_true rfl) rfl rfl rfl rfl rfl rfl rfl rfl rfl rfl ?_
                        refine go_ops hΓ 4 rfl ?_
                        refine eo_alloc hΓ rfl rfl rfl (Nat.le_of_ble_eq_true rfl) ?_
                        refine eo_store hΓ rfl rfl rfl rfl rfl rfl rfl rfl (Nat.le_of_ble_eq_true rfl) ?_
                        refine eo_hp [.bag s24.1, .box 25 [.d (Sl (eN .i64) y53.2.L), I y53.2.v_at], .box 30 [I y1.1.Maps, I y1.1.Lets, I y1.1.Timeout, I y1.1.First, I y1.1.Ports, B y1.1.Outer.Six, .d (.v (.int .u64 y1.1.Outer.Hi)), .d (.v (.int .u64 y1.1.Outer.Lo))], .row 86 11 y74.2.2.2.list.length (y74.2.2.2.list.flatMap e_route_entry), .box 64 [I y74.2.2.2.nat.Maps, I y74.2.2.2.nat.Lets, I y74.2.2.2.nat.Timeout, I y74.2.2.2.nat.First, I y74.2.2.2.nat.Ports, B y74.2.2.2.nat.Outer.Six, .d (.v (.int .u64 y74.2.2.2.nat.Outer.Hi)), .d (.v (.int .u64 y74.2.2.2.nat.Outer.Lo)), I y74.2.2.2.now, I y74.2.2.2.v_next, .sl 3 y74.2.2.2.list.length], .row 93 10 s24.2.2.2.2.2.2.2.2.2.2.2.2.2.1.length (s24.2.2.2.2.2.2.2.2.2.2.2.2.2.1.flatMap e_laneref1_sent), .box 76 [I s24.2.2.2.2.2.2.2.2.2.2.2.2.2.2.1, I s24.2.2.2.2.2.2.2.2.2.2.2.2.2.2.2.1, I s24.2.2.2.2.2.2.2.2.2.2.2.2.2.2.2.2.1, I s24.2.2.2.2.2.2.2.2.2.2.2.2.2.2.2.2.2.1, I s24.2.2.2.2.2.2.2.2.2.2.2.2.2.2.2.2.2.2.1, B s24.2.2.2.2.2.2.2.2.2.2.2.2.2.2.2.2.2.2.2.1, .d (.v (.int .u64 s24.2.2.2.2.2.2.2.2.2.2.2.2.2.2.2.2.2.2.2.2.1)), .d (.v (.int .u64 s24.2.2.2.2.2.2.2.2.2.2.2.2.2.2.2.2.2.2.2.2.2.1)), .sl 5 s24.2.2.2.2.2.2.2.2.2.2.2.2.2.1.length, I s24.2.2.2.2.2.2.2.2.2.2.2.2.2.2.2.2.2.2.2.2.2.2.1, I s24.2.2.2.2.2.2.2.2.2.2.2.2.2.2.2.2.2.2.2.2.2.2.2.1], .box 45 [B false, .d (.v (.int .u64 0)), .d (.v (.int .u64 (IntKind.u64.wrap (y45.1)))), I y47.1], .box 45 [B y49.1.Addr.Six, .d (.v (.int .u64 y49.1.Addr.Hi)), .d (.v (.int .u64 y49.1.Addr.Lo)), I y49.1.Port], .box 45 [B y74.1.Addr.Six, .d (.v (.int .u64 y74.1.Addr.Hi)), .d (.v (.int .u64 y74.1.Addr.Lo)), I y74.1.Port]] rfl ?_
                        obtain ⟨y76, hy76, h77⟩ := bi_ok h75
                        refine go_ops hΓ 10 rfl ?_
                        refine eo_callF [5, 6, 0] (.tup [.agg [B y76.1.Addr.Six, .d (.v (.int .u64 y76.1.Addr.Hi)), .d (.v (.int .u64 y76.1.Addr.Lo)), I y76.1.Port], B y76.2.1, I y76.2.2.1]) [.bag y76.2.2.2.2, .box 25 [.d (Sl (eN .i64) y53.2.L), I y53.2.v_at], .box 30 [I y1.1.Maps, I y1.1.Lets, I y1.1.Timeout, I y1.1.First, I y1.1.Ports, B y1.1.Outer.Six, .d (.v (.int .u64 y1.1.Outer.Hi)), .d (.v (.int .u64 y1.1.Outer.Lo))], .row 86 11 y74.2.2.2.list.length (y74.2.2.2.list.flatMap e_route_entry), .box 64 [I y74.2.2.2.nat.Maps, I y74.2.2.2.nat.Lets, I y74.2.2.2.nat.Timeout, I y74.2.2.2.nat.First, I y74.2.2.2.nat.Ports, B y74.2.2.2.nat.Outer.Six, .d (.v (.int .u64 y74.2.2.2.nat.Outer.Hi)), .d (.v (.int .u64 y74.2.2.2.nat.Outer.Lo)), I y74.2.2.2.now, I y74.2.2.2.v_next, .sl 3 y74.2.2.2.list.length], .row 93 10 y76.2.2.2.1.out.length (y76.2.2.2.1.out.flatMap e_laneref1_sent), .box 76 [I y76.2.2.2.1.n.Maps, I y76.2.2.2.1.n.Lets, I y76.2.2.2.1.n.Timeout, I y76.2.2.2.1.n.First, I y76.2.2.2.1.n.Ports, B y76.2.2.2.1.n.Outer.Six, .d (.v (.int .u64 y76.2.2.2.1.n.Outer.Hi)), .d (.v (.int .u64 y76.2.2.2.1.n.Outer.Lo)), .sl 5 y76.2.2.2.1.out.length, I y76.2.2.2.1.last, I y76.2.2.2.1.now], .box 45 [B false, .d (.v (.int .u64 0)), .d (.v (.int .u64 (IntKind.u64.wrap (y45.1)))), I y47.1], .box 45 [B y49.1.Addr.Six, .d (.v (.int .u64 y49.1.Addr.Hi)), .d (.v (.int .u64 y49.1.Addr.Lo)), I y49.1.Port], .box 45 [B y74.1.Addr.Six, .d (.v (.int .u64 y74.1.Addr.Hi)), .d (.v (.int .u64 y74.1.Addr.Lo)), I y74.1.Port]] (callable Try.func18 rfl rfl) (c_laneref1_Translator_In hy76) rfl (Nat.le_of_ble_eq_true rfl) rfl rfl rfl rfl rfl rfl rfl rfl rfl rfl ?_
                        refine go_ops hΓ 4 rfl ?_
                        refine eo_alloc hΓ rfl rfl rfl (Nat.le_of_ble_eq_true rfl) ?_
                        refine eo_store hΓ rfl rfl rfl rfl rfl rfl rfl rfl (Nat.le_of_ble_eq_true rfl) ?_
                        refine eo_hp [.bag y76.2.2.2.2, .box 25 [.d (Sl (eN .i64) y53.2.L), I y53.2.v_at], .box 30 [I y1.1.Maps, I y1.1.Lets, I y1.1.Timeout, I y1.1.First, I y1.1.Ports, B y1.1.Outer.Six, .d (.v (.int .u64 y1.1.Outer.Hi)), .d (.v (.int .u64 y1.1.Outer.Lo))], .row 86 11 y74.2.2.2.list.length (y74.2.2.2.list.flatMap e_route_entry), .box 64 [I y74.2.2.2.nat.Maps, I y74.2.2.2.nat.Lets, I y74.2.2.2.nat.Timeout, I y74.2.2.2.nat.First, I y74.2.2.2.nat.Ports, B y74.2.2.2.nat.Outer.Six, .d (.v (.int .u64 y74.2.2.2.nat.Outer.Hi)), .d (.v (.int .u64 y74.2.2.2.nat.Outer.Lo)), I y74.2.2.2.now, I y74.2.2.2.v_next, .sl 3 y74.2.2.2.list.length], .row 93 10 y76.2.2.2.1.out.length (y76.2.2.2.1.out.flatMap e_laneref1_sent), .box 76 [I y76.2.2.2.1.n.Maps, I y76.2.2.2.1.n.Lets, I y76.2.2.2.1.n.Timeout, I y76.2.2.2.1.n.First, I y76.2.2.2.1.n.Ports, B y76.2.2.2.1.n.Outer.Six, .d (.v (.int .u64 y76.2.2.2.1.n.Outer.Hi)), .d (.v (.int .u64 y76.2.2.2.1.n.Outer.Lo)), .sl 5 y76.2.2.2.1.out.length, I y76.2.2.2.1.last, I y76.2.2.2.1.now], .box 45 [B false, .d (.v (.int .u64 0)), .d (.v (.int .u64 (IntKind.u64.wrap (y45.1)))), I y47.1], .box 45 [B y49.1.Addr.Six, .d (.v (.int .u64 y49.1.Addr.Hi)), .d (.v (.int .u64 y49.1.Addr.Lo)), I y49.1.Port], .box 45 [B y74.1.Addr.Six, .d (.v (.int .u64 y74.1.Addr.Hi)), .d (.v (.int .u64 y74.1.Addr.Lo)), I y74.1.Port], .box 45 [B y76.1.Addr.Six, .d (.v (.int .u64 y76.1.Addr.Hi)), .d (.v (.int .u64 y76.1.Addr.Lo)), I y76.1.Port]] rfl ?_
                        refine go_ops hΓ 10 rfl ?_
                        refine o_cut 4 [(3, .ptr 1 0), (4, .ptr 2 0), (5, .ptr 4 0), (8, .ptr 6 0), (9, I (wi (s24.2.2.2.2.2.2.2.2.2.2.2.2.2.2.2.2.2.2.2.2.2.2.2.2 + y35.1))), (19, B y74.2.1), (22, B y76.2.1), (63, I y21.1), (64, I (i23 : Int)), (174, B (((y74.2.2.1 : Int) != y76.2.2.1) || (!((((y74.1.Addr.Six : Bool) == y76.1.Addr.Six) && (((y74.1.Addr.Hi : Int) == y76.1.Addr.Hi) && (((y74.1.Addr.Lo : Int) == y76.1.Addr.Lo) && true))) && (((y74.1.Port : Int) == y76.1.Port) && true)))))] [.bag y76.2.2.2.2, .box 25 [.d (Sl (eN .i64) y53.2.L), I y53.2.v_at], .box 30 [I y1.1.Maps, I y1.1.Lets, I y1.1.Timeout, I y1.1.First, I y1.1.Ports, B y1.1.Outer.Six, .d (.v (.int .u64 y1.1.Outer.Hi)), .d (.v (.int .u64 y1.1.Outer.Lo))], .row 86 11 y74.2.2.2.list.length (y74.2.2.2.list.flatMap e_route_entry), .box 64 [I y74.2.2.2.nat.Maps, I y74.2.2.2.nat.Lets, I y74.2.2.2.nat.Timeout, I y74.2.2.2.nat.First, I y74.2.2.2.nat.Ports, B y74.2.2.2.nat.Outer.Six, .d (.v (.int .u64 y74.2.2.2.nat.Outer.Hi)), .d (.v (.int .u64 y74.2.2.2.nat.Outer.Lo)), I y74.2.2.2.now, I y74.2.2.2.v_next, .sl 3 y74.2.2.2.list.length], .row 93 10 y76.2.2.2.1.out.length (y76.2.2.2.1.out.flatMap e_laneref1_sent), .box 76 [I y76.2.2.2.1.n.Maps, I y76.2.2.2.1.n.Lets, I y76.2.2.2.1.n.Timeout, I y76.2.2.2.1.n.First, I y76.2.2.2.1.n.Ports, B y76.2.2.2.1.n.Outer.Six, .d (.v (.int .u64 y76.2.2.2.1.n.Outer.Hi)), .d (.v (.int .u64 y76.2.2.2.1.n.Outer.Lo)), .sl 5 y76.2.2.2.1.out.length, I y76.2.2.2.1.last, I y76.2.2.2.1.now], .box 45 [B false, .d (.v (.int .u64 0)), .d (.v (.int .u64 (IntKind.u64.wrap (y45.1)))), I y47.1], .box 45 [B y49.1.Addr.Six, .d (.v (.int .u64 y49.1.Addr.Hi)), .d (.v (.int .u64 y49.1.Addr.Lo)), I y49.1.Port], .box 45 [B y74.1.Addr.Six, .d (.v (.int .u64 y74.1.Addr.Hi)), .d (.v (.int .u64 y74.1.Addr.Lo)), I y74.1.Port], .box 45 [B y76.1.Addr.Six, .d (.v (.int .u64 y76.1.Addr.Hi)), .d (.v (.int .u64 y76.1.Addr.Lo)), I y76.1.Port]] ?_ ?_
                        · refine eo_gsplit rfl rfl (fun hb => ?_) (fun hb => ?_)
                          · refine go_ops hΓ 5 rfl ?_
                            exact ⟨⟨rfl, rfl, rfl, rfl, rfl, rfl, rfl, rfl, rfl, get_b rfl (or_t hb), trivial⟩, [], rfl, .inl rfl⟩
                          · refine go_ops hΓ 2 rfl ?_
                            refine eo_guard rfl ?_
                            refine eo_o rfl (op_neS hΓ [45, 28] (b := ((((y74.1.Addr.Six : Bool) == y76.1.Addr.Six) && (((y74.1.Addr.Hi : Int) == y76.1.Addr.Hi) && (((y74.1.Addr.Lo : Int) == y76.1.Addr.Lo) && true))) && (((y74.1.Port : Int) == y76.1.Port) && true))) (by kernel_rfl) (by kernel_rfl) rfl rfl rfl) ?_
                            refine go_ops hΓ 2 rfl ?_
                            exact ⟨⟨rfl, rfl, rfl, rfl, rfl, rfl, rfl, rfl, rfl, get_b rfl (or_f hb), trivial⟩, [], rfl, .inl rfl⟩
                        · refine go_ops hΓ 1 rfl ?_
                          refine o_cut 4 [(3, .ptr 1 0), (4, .ptr 2 0), (5, .ptr 4 0), (8, .ptr 6 0), (9, I (wi (s24.2.2.2.2.2.2.2.2.2.2.2.2.2.2.2.2.2.2.2.2.2.2.2.2 + y35.1))), (63, I y21.1), (64, I (i23 : Int)), (179, B ((((y74.2.2.1 : Int) != y76.2.2.1) || (!((((y74.1.Addr.Six : Bool) == y76.1.Addr.Six) && (((y74.1.Addr.Hi : Int) == y76.1.Addr.Hi) && (((y74.1.Addr.Lo : Int) == y76.1.Addr.Lo) && true))) && (((y74.1.Port : Int) == y76.1.Port) && true)))) || (!((y74.2.1 : Bool) == y76.2.1))))] [.bag y76.2.2.2.2, .box 25 [.d (Sl (eN .i64) y53.2.L), I y53.2.v_at], .box 30 [I y1.1.Maps, I y1.1.Lets, I y1.1.Timeout, I y1.1.First, I y1.1.Ports, B y1.1.Outer.Six, .d (.v (.int .u64 y1.1.Outer.Hi)), .d (.v (.int .u64 y1.1.Outer.Lo))], .row 86 11 y74.2.2.2.list.length (y74.2.2.2.list.flatMap e_route_entry), .box 64 [I y74.2.2.2.nat.Maps, I y74.2.2.2.nat.Lets, I y74.2.2.2.nat.Timeout, I y74.2.2.2.nat.First, I y74.2.2.2.nat.Ports, B y74.2.2.2.nat.Outer.Six, .d (.v (.int .u64 y74.2.2.2.nat.Outer.Hi)), .d (.v (.int .u64 y74.2.2.2.nat.Outer.Lo)), I y74.2.2.2.now, I y74.2.2.2.v_next, .sl 3 y74.2.2.2.list.length], .row 93 10 y76.2.2.2.1.out.length (y76.2.2.2.1.out.flatMap e_laneref1_sent), .box 76 [I y76.2.2.2.1.n.Maps, I y76.2.2.2.1.n.Lets, I y76.2.2.2.1.n.Timeout, I y76.2.2.2.1.n.First, I y76.2.2.2.1.n.Ports, B y76.2.2.2.1.n.Outer.Six, .d (.v (.int .u64 y76.2.2.2.1.n.Outer.Hi)), .d (.v (.int .u64 y76.2.2.2.1.n.Outer.Lo)), .sl 5 y76.2.2.2.1.out.length, I y76.2.2.2.1.last, I y76.2.2.2.1.now], .box 45 [B false, .d (.v (.int .u64 0)), .d (.v (.int .u64 (IntKind.u64.wrap (y45.1)))), I y47.1], .box 45 [B y49.1.Addr.Six, .d (.v (.int .u64 y49.1.Addr.Hi)), .d (.v (.int .u64 y49.1.Addr.Lo)), I y49.1.Port], .box 45 [B y74.1.Addr.Six, .d (.v (.int .u64 y74.1.Addr.Hi)), .d (.v (.int .u64 y74.1.Addr.Lo)), I y74.1.Port], .box 45 [B y76.1.Addr.Six, .d (.v (.int .u64 y76.1.Addr.Hi)), .d (.v (.int .u64 y76.1.Addr.Lo)), I y76.1.Port]] ?_ ?_
                          · refine eo_gsplit rfl rfl (fun hb => ?_) (fun hb => ?_)
                            · refine go_ops hΓ 5 rfl ?_
                              exact ⟨⟨rfl, rfl, rfl, rfl, rfl, rfl, rfl, get_b rfl (or_t hb), trivial⟩, [], rfl, .inl rfl⟩
                            · refine go_ops hΓ 5 rfl ?_
                              exact ⟨⟨rfl, rfl, rfl, rfl, rfl, rfl, rfl, get_b rfl (or_f hb), trivial⟩, [], rfl, .inl rfl⟩
                          · refine go_ops hΓ 2 rfl ?_
                            refine j_cond rfl (fun hb => ?_) (fun hb => ?_)
                            · have h78 := cT h77 hb
                              refine go hΓ 9 rfl ?_
                              obtain ⟨v79, hv79, h80⟩ := bi_ok h78
                              obtain rfl := Option.some.inj h80
                              obtain rfl := hout33 _ rfl
                              obtain rfl := Option.some.inj h27
                              refine go hΓ 4 rfl ?_
                              obtain rfl := Option.some.inj hv79
                              exact fin_objs hΓ [_, _, _, _, _, _, _, _, _, _] (.inr rfl) rfl rfl rfl rfl (.inr ⟨HB.mk rfl, rfl⟩)
                            · have h81 := cF h77 hb
                              refine go hΓ 8 rfl ?_
                              obtain rfl := Option.some.inj h81
                              exact ⟨_, rfl, ⟨⟨rfl, rfl, rfl, rfl, rfl, rfl, get_eq rfl (w64_succ (by omega)), trivial⟩, [_, _, _, _], rfl, .inr ⟨HB.mk rfl, FB.mk rfl, (Nat.le_of_ble_eq_true rfl)⟩⟩⟩
                      · have h82 := cF h70 hb
                        obtain ⟨y83, hy83, h84⟩ := bi_ok h82
                        refine go hΓ 4 rfl ?_
                        refine eo_callF [3, 4] (.tup [I y83.1, I y83.2.1]) [.bag s24.1, .box 25 [.d (Sl (eN .i64) y53.2.L), I y53.2.v_at], .box 30 [I y1.1.Maps, I y1.1.Lets, I y1.1.Timeout, I y1.1.First, I y1.1.Ports, B y1.1.Outer.Six, .d (.v (.int .u64 y1.1.Outer.Hi)), .d (.v (.int .u64 y1.1.Outer.Lo))], .row 86 11 y83.2.2.list.length (y83.2.2.list.flatMap e_route_entry), .box 64 [I y83.2.2.nat.Maps, I y83.2.2.nat.Lets, I y83.2.2.nat.Timeout, I y83.2.2.nat.First, I y83.2.2.nat.Ports, B y83.2.2.nat.Outer.Six, .d (.v (.int .u64 y83.2.2.nat.Outer.Hi)), .d (.v (.int .u64 y83.2.2.nat.Outer.Lo)), I y83.2.2.now, I y83.2.2.v_next, .sl 3 y83.2.2.list.length], .row 93 10 s24.2.2.2.2.2.2.2.2.2.2.2.2.2.1.length (s24.2.2.2.2.2.2.2.2.2.2.2.2.2.1.flatMap e_laneref1_sent), .box 76 [I s24.2.2.2.2.2.2.2.2.2.2.2.2.2.2.1, I s24.2.2.2.2.2.2.2.2.2.2.2.2.2.2.2.1, I s24.2.2.2.2.2.2.2.2.2.2.2.2.2.2.2.2.1, I s24.2.2.2.2.2.2.2.2.2.2.2.2.2.2.2.2.2.1, I s24.2.2.2.2.2.2.2.2.2.2.2.2.2.2.2.2.2.2.1, B s24.2.2.2.2.2.2.2.2.2.2.2.2.2.2.2.2.2.2.2.1, .d (.v (.int .u64 s24.2.2.2.2.2.2.2.2.2.2.2.2.2.2.2.2.2.2.2.2.1)), .d (.v (.int .u64 s24.2.2.2.2.2.2.2.2.2.2.2.2.2.2.2.2.2.2.2.2.2.1)), .sl 5 s24.2.2.2.2.2.2.2.2.2.2.2.2.2.1.length, I s24.2.2.2.2.2.2.2.2.2.2.2.2.2.2.2.2.2.2.2.2.2.2.1, I s24.2.2.2.2.2.2.2.2.2.2.2.2.2.2.2.2.2.2.2.2.2.2.2.1], .box 45 [B false, .d (.v (.int .u64 0)), .d (.v (.int .u64 (IntKind.u64.wrap (y45.1)))), I y47.1], .box 45 [B y49.1.Addr.Six, .d (.v (.int .u64 y49.1.Addr.Hi)), .d (.v (.int .u64 y49.1.Addr.Lo)), I y49.1.Port]] (callable Try.func19 rfl rfl) (c_route_Translator_Entries hy83) rfl (Nat.le_of_ble_eq_true rfl) rfl rfl rfl rfl rfl rfl rfl rfl rfl rfl ?_
                        obtain ⟨y85, hy85, h86⟩ := bi_ok h84
                        refine go_ops hΓ 11 rfl ?_
                        refine eo_callF [5, 6, 0] (.tup [I y85.1, I y85.2.1]) [.bag y85.2.2.2, .box 25 [.d (Sl (eN .i64) y53.2.L), I y53.2.v_at], .box 30 [I y1.1.Maps, I y1.1.Lets, I y1.1.Timeout, I y1.1.First, I y1.1.Ports, B y1.1.Outer.Six, .d (.v (.int .u64 y1.1.Outer.Hi)), .d (.v (.int .u64 y1.1.Outer.Lo))], .row 86 11 y83.2.2.list.length (y83.2.2.list.flatMap e_route_entry), .box 64 [I y83.2.2.nat.Maps, I y83.2.2.nat.Lets, I y83.2.2.nat.Timeout, I y83.2.2.nat.First, I y83.2.2.nat.Ports, B y83.2.2.nat.Outer.Six, .d (.v (.int .u64 y83.2.2.nat.Outer.Hi)), .d (.v (.int .u64 y83.2.2.nat.Outer.Lo)), I y83.2.2.now, I y83.2.2.v_next, .sl 3 y83.2.2.list.length], .row 93 10 y85.2.2.1.out.length (y85.2.2.1.out.flatMap e_laneref1_sent), .box 76 [I y85.2.2.1.n.Maps, I y85.2.2.1.n.Lets, I y85.2.2.1.n.Timeout, I y85.2.2.1.n.First, I y85.2.2.1.n.Ports, B y85.2.2.1.n.Outer.Six, .d (.v (.int .u64 y85.2.2.1.n.Outer.Hi)), .d (.v (.int .u64 y85.2.2.1.n.Outer.Lo)), .sl 5 y85.2.2.1.out.length, I y85.2.2.1.last, I y85.2.2.1.now], .box 45 [B false, .d (.v (.int .u64 0)), .d (.v (.int .u64 (IntKind.u64.wrap (y45.1)))), I y47.1], .box 45 [B y49.1.Addr.Six, .d (.v (.int .u64 y49.1.Addr.Hi)), .d (.v (.int .u64 y49.1.Addr.Lo)), I y49.1.Port]] (callable Try.func20 rfl rfl) (c_laneref1_Translator_Entries hy85) rfl (Nat.le_of_ble_eq_true rfl) rfl rfl rfl rfl rfl rfl rfl rfl rfl rfl ?_
                        refine go_ops hΓ 13 rfl ?_
                        refine o_cut 4 [(3, .ptr 1 0), (4, .ptr 2 0), (5, .ptr 4 0), (8, .ptr 6 0), (9, I (wi (s24.2.2.2.2.2.2.2.2.2.2.2.2.2.2.2.2.2.2.2.2.2.2.2.2 + y35.1))), (63, I y21.1), (64, I (i23 : Int)), (118, B (((y83.2.1 : Int) != y85.2.1) || ((y83.1 : Int) != y85.1)))] [.bag y85.2.2.2, .box 25 [.d (Sl (eN .i64) y53.2.L), I y53.2.v_at], .box 30 [I y1.1.Maps, I y1.1.Lets, I y1.1.Timeout, I y1.1.First, I y1.1.Ports, B y1.1.Outer.Six, .d (.v (.int .u64 y1.1.Outer.Hi)), .d (.v (.int .u64 y1.1.Outer.Lo))], .row 86 11 y83.2.2.list.length (y83.2.2.list.flatMap e_route_entry), .box 64 [I y83.2.2.nat.Maps, I y83.2.2.nat.Lets, I y83.2.2.nat.Timeout, I y83.2.2.nat.First, I y83.2.2.nat.Ports, B y83.2.2.nat.Outer.Six, .d (.v (.int .u64 y83.2.2.nat.Outer.Hi)), .d (.v (.int .u64 y83.2.2.nat.Outer.Lo)), I y83.2.2.now, I y83.2.2.v_next, .sl 3 y83.2.2.list.length], .row 93 10 y85.2.2.1.out.length (y85.2.2.1.out.flatMap e_laneref1_sent), .box 76 [I y85.2.2.1.n.Maps, I y85.2.2.1.n.Lets, I y85.2.2.1.n.Timeout, I y85.2.2.1.n.First, I y85.2.2.1.n.Ports, B y85.2.2.1.n.Outer.Six, .d (.v (.int .u64 y85.2.2.1.n.Outer.Hi)), .d (.v (.int .u64 y85.2.2.1.n.Outer.Lo)), .sl 5 y85.2.2.1.out.length, I y85.2.2.1.last, I y85.2.2.1.now], .box 45 [B false, .d (.v (.int .u64 0)), .d (.v (.int .u64 (IntKind.u64.wrap (y45.1)))), I y47.1], .box 45 [B y49.1.Addr.Six, .d (.v (.int .u64 y49.1.Addr.Hi)), .d (.v (.int .u64 y49.1.Addr.Lo)), I y49.1.Port]] ?_ ?_
                        · refine eo_gsplit rfl rfl (fun hb => ?_) (fun hb => ?_)
                          · refine go_ops hΓ 5 rfl ?_
                            exact ⟨⟨rfl, rfl, rfl, rfl, rfl, rfl, rfl, get_b rfl (or_t hb), trivial⟩, [], rfl, .inl rfl⟩
                          · refine go_ops hΓ 5 rfl ?_
                            exact ⟨⟨rfl, rfl, rfl, rfl, rfl, rfl, rfl, get_b rfl (or_f hb), trivial⟩, [], rfl, .inl rfl⟩
                        · refine go_ops hΓ 2 rfl ?_
                          refine j_cond rfl (fun hb => ?_) (fun hb => ?_)
                          · have h87 := cT h86 hb
                            refine go hΓ 9 rfl ?_
                            obtain ⟨v88, hv88, h89⟩ := bi_ok h87
                            obtain rfl := Option.some.inj h89
                            obtain rfl := hout33 _ rfl
                            obtain rfl := Option.some.inj h27
                            refine go hΓ 4 rfl ?_
                            obtain rfl := Option.some.inj hv88
                            exact fin_objs hΓ [_, _, _, _, _, _, _, _] (.inr rfl) rfl rfl rfl rfl (.inr ⟨HB.mk rfl, rfl⟩)
                          · have h90 := cF h86 hb
                            refine go hΓ 8 rfl ?_
                            obtain rfl := Option.some.inj h90
                            exact ⟨_, rfl, ⟨⟨rfl, rfl, rfl, rfl, rfl, rfl, get_eq rfl (w64_succ (by omega)), trivial⟩, [_, _], rfl, .inr ⟨HB.mk rfl, FB.mk rfl, (Nat.le_of_ble_eq_true rfl)⟩⟩⟩
            · subst hgo
              refine go hΓ 6 rfl ?_
              refine j_condF rfl (decide_eq_false hge) ?_
              refine go hΓ 4 rfl ?_
              exact ⟨_, rfl, ⟨trivial, [], rfl, .inl rfl⟩⟩
          · intro a28 ha
            subst ha
            replace h27 := goI_l h27
            obtain ⟨y91, hy91, h92⟩ := bi_ok h27
            refine go hΓ 3 rfl ?_
            refine eo_callP (callable Try.func8 rfl rfl) (c_lanelaw1_routed hy91) rfl (Nat.le_of_ble_eq_true rfl) rfl rfl rfl rfl rfl ?_
            refine go_ops hΓ 4 rfl ?_
            obtain rfl := Option.some.inj h92
            exact fin_objs hΓ [_, _, _, _, _, _] (.inr rfl) rfl rfl rfl rfl (.inr ⟨HB.mk rfl, rfl⟩)

end Go.Proofs.Ytnjnmkpgedkffaa
