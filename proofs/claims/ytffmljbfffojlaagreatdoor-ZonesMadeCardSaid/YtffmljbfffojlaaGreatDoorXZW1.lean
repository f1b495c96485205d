/-
  The functions compute their models.
-/
import Derived.Test.YtffmljbfffojlaaGreatDoorXZM
import Derived.Test.YtffmljbfffojlaaGreatDoorGt
import Derived.Test.YtffmljbfffojlaaGreatDoorStr
import Derived.Test.YtffmljbfffojlaaGreatDoorStr2
import Derived.Test.YtffmljbfffojlaaGreatDoorStr4
import Derived.Test.YtffmljbfffojlaaGreatDoorStr5
import Derived.Test.YtffmljbfffojlaaGreatDoorGk57
import Derived.Test.YtffmljbfffojlaaGreatDoorSoLays
set_option linter.unusedVariables false
set_option linter.unusedSimpArgs false
set_option maxRecDepth 100000
namespace Go.Proofs.YtffmljbfffojlaaGreatDoor
open Go.Gk
abbrev e_lanemake_Stream (x : T_lanemake_Stream) : List D := [Sl (eN .i64) x.L, .v (.int .i64 x.v_at)]
abbrev e_api_Called (x : T_api_Called) : List D := [.v (.string ⟨x.Node.toArray⟩), .v (.string ⟨x.Label.toArray⟩)]
abbrev e_api_Addr (x : T_api_Addr) : List D := [.v (.bool x.Six), .v (.int .u64 x.Hi), .v (.int .u64 x.Lo)]
abbrev e_api_Prefix (x : T_api_Prefix) : List D := [.v (.bool x.Addr.Six), .v (.int .u64 x.Addr.Hi), .v (.int .u64 x.Addr.Lo), .v (.int .i64 x.Bits)]
abbrev e_api_Node (x : T_api_Node) : List D := [.v (.string ⟨x.Key.toArray⟩), .v (.string ⟨x.User.toArray⟩), .v (.string ⟨x.Name.toArray⟩), Sl eS x.Tags, Sl e_api_Addr x.Addrs, Sl e_api_Prefix x.Routes]
abbrev e_api_Record (x : T_api_Record) : List D := [.v (.string ⟨x.Name.toArray⟩), .v (.int .i64 x.Kind), .v (.bool x.Addr.Six), .v (.int .u64 x.Addr.Hi), .v (.int .u64 x.Addr.Lo), .v (.string ⟨x.To.toArray⟩), .v (.string ⟨x.Words.toArray⟩), .v (.int .i64 x.Life)]
abbrev e_api_Zone (x : T_api_Zone) : List D := [.v (.string ⟨x.Root.toArray⟩), Sl e_api_Record x.Records]
theorem c_lanemake_Below {x : Int} {n : Int} {r : Int} (h : m_lanemake_Below x n = some r) : Pure Tryz.prog 57 [I x, I n] (I r) := by
  refine Pure.enter (Fr.of 0 _) Tryz.func57 rfl (Fr.of_ok _) rfl rfl ?_
  refine go_in ?_
  unfold m_lanemake_Below at h
  refine go hΓ 12 rfl ?_
  refine j_cond rfl (fun hb => ?_) (fun hb => ?_)
  · have h1 := cT h hb
    refine go hΓ 7 rfl ?_
    obtain rfl := Option.some.inj h1
    exact fin_pure hΓ (.inr rfl) rfl rfl
  · have h2 := cF h hb
    obtain ⟨y3, hy3, h4⟩ := bi_ok h2
    refine go hΓ 6 rfl ?_
    refine eo_o rfl (op_remZ hy3 rfl rfl) ?_
    obtain ⟨q5, hq5, h6⟩ := bi_ok h4
    refine go_ops hΓ 10 rfl ?_
    refine j_cutNZ [(0, I q5)] [] ?_ ?_
    · refine j_cond rfl (fun hb => ?_) (fun hb => ?_)
      · have h7 := cT hq5 hb
        refine go hΓ 6 rfl ?_
        obtain rfl := Option.some.inj h7
        exact ⟨⟨rfl, trivial⟩, [], rfl, .inl rfl⟩
      · have h8 := cF hq5 hb
        refine go hΓ 1 rfl ?_
        obtain rfl := Option.some.inj h8
        exact ⟨⟨rfl, trivial⟩, [], rfl, .inl rfl⟩
    · refine go hΓ 8 rfl ?_
      obtain rfl := Option.some.inj h6
      exact fin_pure hΓ (.inr rfl) rfl rfl
theorem c_lanemake_Stream_Next {s : T_lanemake_Stream} {n : Int} {r : Int × T_lanemake_Stream} (h : m_lanemake_Stream_Next s n = some r) : EC Tryz.prog 24 [.ptr 0 0, I n] [.box 25 [.d (Sl (eN .i64) s.L), I s.v_at]] fun g hp' => g = I r.1 ∧ hp' = [.box 25 [.d (Sl (eN .i64) r.2.L), I r.2.v_at]] := by
  refine ec_enter (Fr.of 0 _) Tryz.func24 rfl (Fr.of_ok _) (Nat.le_of_ble_eq_true rfl) fun _ => ?_
  refine go_in ?_
  unfold m_lanemake_Stream_Next at h
  refine go hΓ 14 rfl ?_
  refine eo_store hΓ rfl rfl rfl rfl rfl rfl rfl rfl (Nat.le_of_ble_eq_true rfl) ?_
  refine eo_hp [.box 25 [.d (Sl (eN .i64) s.L), I (wi (s.v_at + 1))]] rfl ?_
  refine go_ops hΓ 13 rfl ?_
  refine j_cond rfl (fun hb => ?_) (fun hb => ?_)
  · have h1 := cT h hb
    obtain ⟨y2, hy2, h3⟩ := bi_ok h1
    refine go hΓ 8 rfl ?_
    refine eo_callP (callable Tryz.func57 rfl rfl) (c_lanemake_Below hy2) rfl (Nat.le_of_ble_eq_true rfl) rfl rfl rfl rfl rfl ?_
    refine go_ops hΓ 5 rfl ?_
    obtain rfl := Option.some.inj h3
    exact fin_objs hΓ [] (.inr rfl) rfl rfl rfl rfl (.inl rfl)
  · have h4 := cF h hb
    refine go hΓ 3 rfl ?_
    refine j_draw hmix (by kernel_rfl) ?_
    obtain ⟨y5, hy5, h6⟩ := bi_ok h4
    refine go hΓ 10 rfl ?_
    refine gl_o rfl (op_remZ hy5 rfl rfl) ?_
    refine go_draw hΓ 4 rfl ?_
    refine j_draw hmix (by kernel_rfl) ?_
    obtain ⟨y7, hy7, h8⟩ := bi_ok h6
    refine go hΓ 10 rfl ?_
    refine gl_o rfl (op_quoZ hy7 rfl rfl) ?_
    obtain ⟨x9, hx9, h10⟩ := bi_ok h8
    refine go_draw hΓ 10 rfl ?_
    refine eo_o rfl (op_elemZ hΓ (enc := (eN .i64)) hx9 rfl rfl rfl rfl rfl (fun _ => rfl)) ?_
    obtain ⟨y11, hy11, h12⟩ := bi_ok h10
    refine go_ops hΓ 1 rfl ?_
    refine eo_callP (callable Tryz.func57 rfl rfl) (c_lanemake_Below hy11) rfl (Nat.le_of_ble_eq_true rfl) rfl rfl rfl rfl rfl ?_
    obtain ⟨y13, hy13, h14⟩ := bi_ok h12
    refine go_ops hΓ 6 rfl ?_
    refine eo_callP (callable Tryz.func57 rfl rfl) (c_lanemake_Below hy13) rfl (Nat.le_of_ble_eq_true rfl) rfl rfl rfl rfl rfl ?_
    refine go_ops hΓ 4 rfl ?_
    obtain rfl := Option.some.inj h14
    exact fin_objs hΓ [] (.inr rfl) rfl rfl rfl rfl (.inl rfl)
theorem c_lanemake_Stream_Some {s : T_lanemake_Stream} {l : List Str} {r : Str × T_lanemake_Stream} (h : m_lanemake_Stream_Some s l = some r) : EC Tryz.prog 16 [.ptr 0 0, .d (Sl eS l)] [.box 25 [.d (Sl (eN .i64) s.L), I s.v_at]] fun g hp' => g = S r.1 ∧ hp' = [.box 25 [.d (Sl (eN .i64) r.2.L), I r.2.v_at]] := by
  refine ec_enter (Fr.of 0 _) Tryz.func16 rfl (Fr.of_ok _) (Nat.le_of_ble_eq_true rfl) fun _ => ?_
  refine go_in ?_
  unfold m_lanemake_Stream_Some at h
  obtain ⟨y1, hy1, h2⟩ := bi_ok h
  refine go hΓ 11 rfl ?_
  refine eo_callF [0] (I y1.1) [.box 25 [.d (Sl (eN .i64) y1.2.L), I y1.2.v_at]] (callable Tryz.func24 rfl rfl) (c_lanemake_Stream_Next hy1) rfl (Nat.le_of_ble_eq_true rfl) rfl rfl rfl rfl rfl rfl rfl rfl rfl rfl ?_
  obtain ⟨x3, hx3, h4⟩ := bi_ok h2
  refine eo_o rfl (op_elemZ hΓ (enc := eS) hx3 rfl rfl rfl rfl rfl (fun _ => rfl)) ?_
  refine go_ops hΓ 5 rfl ?_
  obtain rfl := Option.some.inj h4
  exact fin_objs hΓ [] (.inr rfl) rfl rfl rfl rfl (.inl rfl)
theorem c_lanemake_Stream_Pick {s : T_lanemake_Stream} {l : List Int} {r : Int × T_lanemake_Stream} (h : m_lanemake_Stream_Pick s l = some r) : EC Tryz.prog 17 [.ptr 0 0, .d (Sl (eN .i64) l)] [.box 25 [.d (Sl (eN .i64) s.L), I s.v_at]] fun g hp' => g = I r.1 ∧ hp' = [.box 25 [.d (Sl (eN .i64) r.2.L), I r.2.v_at]] := by
  refine ec_enter (Fr.of 0 _) Tryz.func17 rfl (Fr.of_ok _) (Nat.le_of_ble_eq_true rfl) fun _ => ?_
  refine go_in ?_
  unfold m_lanemake_Stream_Pick at h
  obtain ⟨y1, hy1, h2⟩ := bi_ok h
  refine go hΓ 11 rfl ?_
  refine eo_callF [0] (I y1.1) [.box 25 [.d (Sl (eN .i64) y1.2.L), I y1.2.v_at]] (callable Tryz.func24 rfl rfl) (c_lanemake_Stream_Next hy1) rfl (Nat.le_of_ble_eq_true rfl) rfl rfl rfl rfl rfl rfl rfl rfl rfl rfl ?_
  obtain ⟨x3, hx3, h4⟩ := bi_ok h2
  refine eo_o rfl (op_elemZ hΓ (enc := (eN .i64)) hx3 rfl rfl rfl rfl rfl (fun _ => rfl)) ?_
  refine go_ops hΓ 5 rfl ?_
  obtain rfl := Option.some.inj h4
  exact fin_objs hΓ [] (.inr rfl) rfl rfl rfl rfl (.inl rfl)
theorem c_lanemake_Stream_Flip {s : T_lanemake_Stream} {n : Int} {r : Bool × T_lanemake_Stream} (h : m_lanemake_Stream_Flip s n = some r) : EC Tryz.prog 10 [.ptr 0 0, I n] [.box 25 [.d (Sl (eN .i64) s.L), I s.v_at]] fun g hp' => g = B r.1 ∧ hp' = [.box 25 [.d (Sl (eN .i64) r.2.L), I r.2.v_at]] := by
  refine ec_enter (Fr.of 0 _) Tryz.func10 rfl (Fr.of_ok _) (Nat.le_of_ble_eq_true rfl) fun _ => ?_
  refine go_in ?_
  unfold m_lanemake_Stream_Flip at h
  obtain ⟨y1, hy1, h2⟩ := bi_ok h
  refine go hΓ 9 rfl ?_
  refine eo_callF [0] (I y1.1) [.box 25 [.d (Sl (eN .i64) y1.2.L), I y1.2.v_at]] (callable Tryz.func24 rfl rfl) (c_lanemake_Stream_Next hy1) rfl (Nat.le_of_ble_eq_true rfl) rfl rfl rfl rfl rfl rfl rfl rfl rfl rfl ?_
  refine go_ops hΓ 5 rfl ?_
  obtain rfl := Option.some.inj h2
  exact fin_objs hΓ [] (.inr rfl) rfl rfl rfl rfl (.inl rfl)
set_option maxHeartbeats 8000000 in
theorem c_lanemake_Stream_Called {s : T_lanemake_Stream} {r : (List T_api_Called) × T_lanemake_Stream} (h : m_lanemake_Stream_Called s = some r) : EC Tryz.prog 18 [.ptr 0 0] [.box 25 [.d (Sl (eN .i64) s.L), I s.v_at]] fun g hp' => g = .sl 1 r.1.length ∧ hp' = [.box 25 [.d (Sl (eN .i64) r.2.L), I r.2.v_at], .row 76 2 r.1.length (r.1.flatMap e_api_Called)] := by
  refine ec_enterC (Fr.of 0 _) Tryz.func18 rfl (Fr.of_ok _) (Nat.le_of_ble_eq_true rfl) fun _ => ?_
  refine go_in ?_
  unfold m_lanemake_Stream_Called at h
  refine go hΓ 7 rfl ?_
  refine eo_nilOwn (t := 0) 76 2 rfl (Nat.le_of_ble_eq_true rfl) ?_
  refine go_ops hΓ 5 rfl ?_
  refine eo_litT hΓ (enc := eS) [[110, 97], [110, 98], [110, 99], [110, 100], [110, 101]] rfl rfl rfl rfl rfl rfl rfl rfl rfl rfl rfl rfl (Nat.le_of_ble_eq_true rfl) ?_
  refine go_ops hΓ 4 rfl ?_
  obtain ⟨q4, hq4, h5⟩ := bi_ok h
  refine j_bound 6 rfl fun hb7 => ?_
  refine j_cutNZ [(0, .ptr 0 0), (3, .sl 1 q4.2.length)] [.box 25 [.d (Sl (eN .i64) q4.1.L), I q4.1.v_at], .row 76 2 q4.2.length (q4.2.flatMap e_api_Called)] ?_ ?_
  · refine go hΓ 1 rfl ?_
    refine j_rangeF [[110, 97], [110, 98], [110, 99], [110, 100], [110, 101]] hq4 (fun i1 s2 => [(0, .ptr 0 0), (3, .sl 1 s2.2.length), (6, .d (Sl eS [[110, 97], [110, 98], [110, 99], [110, 100], [110, 101]])), (7, I ([[110, 97], [110, 98], [110, 99], [110, 100], [110, 101]].length : Int)), (8, I (i1 : Int))]) (fun s2 => [.box 25 [.d (Sl (eN .i64) s2.1.L), I s2.1.v_at], .row 76 2 s2.2.length (s2.2.flatMap e_api_Called)]) ⟨⟨rfl, rfl, rfl, rfl, rfl, trivial⟩, [], rfl, .inl rfl⟩ (fun i1 x3 s2 y11 hx8 hlt hy9 => ?_) (?_)
    · refine go hΓ 6 rfl ?_
      refine j_condT rfl (decide_eq_true (Int.ofNat_lt.2 hlt)) ?_
      refine go hΓ 6 rfl ?_
      refine eo_o rfl (op_elemZ hΓ (enc := eS) (getZ_nat hx8) rfl rfl rfl rfl rfl (fun _ => rfl)) ?_
      obtain ⟨y12, hy12, h13⟩ := bi_ok hy9
      refine go_ops hΓ 7 rfl ?_
      refine eo_callF [0] (B y12.1) [.box 25 [.d (Sl (eN .i64) y12.2.L), I y12.2.v_at], .row 76 2 s2.2.length (s2.2.flatMap e_api_Called)] (callable Tryz.func10 rfl rfl) (c_lanemake_Stream_Flip hy12) rfl (Nat.le_of_ble_eq_true rfl) rfl rfl rfl rfl rfl rfl rfl rfl rfl rfl ?_
      refine go_ops hΓ 3 rfl ?_
      refine j_cond rfl (fun hb => ?_) (fun hb => ?_)
      · have h14 := cT h13 hb
        refine go hΓ 7 rfl ?_
        refine eo_litT hΓ (enc := eS) [x3, x3, x3, [98, 111, 120]] rfl rfl rfl rfl rfl rfl rfl rfl rfl rfl rfl rfl (Nat.le_of_ble_eq_true rfl) ?_
        obtain ⟨y15, hy15, h16⟩ := bi_ok h14
        refine eo_callF [0] (S y15.1) [.box 25 [.d (Sl (eN .i64) y15.2.L), I y15.2.v_at], .row 76 2 s2.2.length (s2.2.flatMap e_api_Called)] (callable Tryz.func16 rfl rfl) (c_lanemake_Stream_Some hy15) rfl (Nat.le_of_ble_eq_true rfl) rfl rfl rfl rfl rfl rfl rfl rfl rfl rfl ?_
        refine eo_build hΓ (gs := [S x3, S y15.1]) rfl rfl rfl rfl rfl rfl rfl ?_
        refine eo_litT hΓ (enc := e_api_Called) [(⟨x3, y15.1⟩ : T_api_Called)] rfl rfl rfl rfl rfl rfl rfl rfl rfl rfl rfl rfl (Nat.le_of_ble_eq_true rfl) ?_
        obtain ⟨y17, hy17, h18⟩ := bi_ok h16
        refine eo_appendT hΓ (enc := e_api_Called) hy17 rfl rfl rfl rfl rfl rfl rfl rfl rfl (fun _ => rfl) rfl rfl rfl rfl ?_
        refine go_ops hΓ 8 rfl ?_
        obtain rfl := Option.some.inj h18
        exact ⟨⟨rfl, rfl, rfl, rfl, get_eq rfl (w64_succ (Nat.lt_of_lt_of_le hlt hb7)), trivial⟩, [], rfl, .inl rfl⟩
      · have h19 := cF h13 hb
        refine go hΓ 7 rfl ?_
        obtain rfl := Option.some.inj h19
        exact ⟨⟨rfl, rfl, rfl, rfl, get_eq rfl (w64_succ (Nat.lt_of_lt_of_le hlt hb7)), trivial⟩, [], rfl, .inl rfl⟩
    · refine go hΓ 6 rfl ?_
      refine j_condF rfl (decide_eq_false (Int.lt_irrefl _)) ?_
      refine go hΓ 4 rfl ?_
      exact ⟨⟨rfl, rfl, trivial⟩, [], rfl, .inl rfl⟩
  · obtain ⟨y20, hy20, h21⟩ := bi_ok h5
    refine go hΓ 5 rfl ?_
    refine eo_callF [0] (B y20.1) [.box 25 [.d (Sl (eN .i64) y20.2.L), I y20.2.v_at], .row 76 2 q4.2.length (q4.2.flatMap e_api_Called)] (callable Tryz.func10 rfl rfl) (c_lanemake_Stream_Flip hy20) rfl (Nat.le_of_ble_eq_true rfl) rfl rfl rfl rfl rfl rfl rfl rfl rfl rfl ?_
    obtain ⟨q22, hq22, h23⟩ := bi_ok h21
    refine go_ops hΓ 2 rfl ?_
    refine j_cutNZ [(3, .sl 1 q22.2.length)] [.box 25 [.d (Sl (eN .i64) q22.1.L), I q22.1.v_at], .row 76 2 q22.2.length (q22.2.flatMap e_api_Called)] ?_ ?_
    · refine j_cond rfl (fun hb => ?_) (fun hb => ?_)
      · have h24 := cT hq22 hb
        refine go hΓ 3 rfl ?_
        refine eo_litT hΓ (enc := eS) [[], [110, 97], [122, 122]] rfl rfl rfl rfl rfl rfl rfl rfl rfl rfl rfl rfl (Nat.le_of_ble_eq_true rfl) ?_
        obtain ⟨y25, hy25, h26⟩ := bi_ok h24
        refine eo_callF [0] (S y25.1) [.box 25 [.d (Sl (eN .i64) y25.2.L), I y25.2.v_at], .row 76 2 q4.2.length (q4.2.flatMap e_api_Called)] (callable Tryz.func16 rfl rfl) (c_lanemake_Stream_Some hy25) rfl (Nat.le_of_ble_eq_true rfl) rfl rfl rfl rfl rfl rfl rfl rfl rfl rfl ?_
        refine go_ops hΓ 1 rfl ?_
        refine eo_litT hΓ (enc := eS) [[], [45, 97], [97, 46, 98], [120]] rfl rfl rfl rfl rfl rfl rfl rfl rfl rfl rfl rfl (Nat.le_of_ble_eq_true rfl) ?_
        obtain ⟨y27, hy27, h28⟩ := bi_ok h26
        refine eo_callF [0] (S y27.1) [.box 25 [.d (Sl (eN .i64) y27.2.L), I y27.2.v_at], .row 76 2 q4.2.length (q4.2.flatMap e_api_Called)] (callable Tryz.func16 rfl rfl) (c_lanemake_Stream_Some hy27) rfl (Nat.le_of_ble_eq_true rfl) rfl rfl rfl rfl rfl rfl rfl rfl rfl rfl ?_
        refine eo_build hΓ (gs := [S y25.1, S y27.1]) rfl rfl rfl rfl rfl rfl rfl ?_
        refine eo_litT hΓ (enc := e_api_Called) [(⟨y25.1, y27.1⟩ : T_api_Called)] rfl rfl rfl rfl rfl rfl rfl rfl rfl rfl rfl rfl (Nat.le_of_ble_eq_true rfl) ?_
        obtain ⟨y29, hy29, h30⟩ := bi_ok h28
        refine eo_appendT hΓ (enc := e_api_Called) hy29 rfl rfl rfl rfl rfl rfl rfl rfl rfl (fun _ => rfl) rfl rfl rfl rfl ?_
        refine go_ops hΓ 2 rfl ?_
        obtain rfl := Option.some.inj h30
        exact ⟨⟨rfl, trivial⟩, [], rfl, .inl rfl⟩
      · have h31 := cF hq22 hb
        refine go hΓ 1 rfl ?_
        obtain rfl := Option.some.inj h31
        exact ⟨⟨rfl, trivial⟩, [], rfl, .inl rfl⟩
    · refine go hΓ 8 rfl ?_
      refine cv_here ?_
      obtain rfl := Option.some.inj h23
      exact fin_objs hΓ [] (.inr rfl) rfl rfl rfl rfl (.inl rfl)
theorem c_lanemake_at {n : Int} {r : T_api_Addr} (h : m_lanemake_at n = some r) : Pure Tryz.prog 40 [I n] (.agg [B r.Six, U r.Hi, U r.Lo]) := by
  refine Pure.enter (Fr.of 0 _) Tryz.func40 rfl (Fr.of_ok _) rfl rfl ?_
  refine go_in ?_
  unfold m_lanemake_at at h
  refine go hΓ 2 rfl ?_
  refine eo_alloc hΓ rfl rfl rfl (Nat.le_of_ble_eq_true rfl) ?_
  refine go_ops hΓ 7 rfl ?_
  refine eo_build hΓ (gs := [B false, U 0, U (IntKind.u64.wrap (1681915904 + (IntKind.u64.wrap (n))))]) rfl rfl rfl rfl rfl rfl rfl ?_
  refine eo_store hΓ rfl rfl rfl rfl rfl rfl rfl rfl (Nat.le_of_ble_eq_true rfl) ?_
  refine eo_hp [.box 28 [B false, U 0, U (IntKind.u64.wrap (1681915904 + (IntKind.u64.wrap (n))))]] rfl ?_
  refine go_ops hΓ 3 rfl ?_
  obtain rfl := Option.some.inj h
  exact fin_pure hΓ (.inr rfl) rfl rfl
theorem c_lanemake_sixAt {n : Int} {r : T_api_Addr} (h : m_lanemake_sixAt n = some r) : Pure Tryz.prog 72 [I n] (.agg [B r.Six, U r.Hi, U r.Lo]) := by
  refine Pure.enter (Fr.of 0 _) Tryz.func72 rfl (Fr.of_ok _) rfl rfl ?_
  refine go_in ?_
  unfold m_lanemake_sixAt at h
  refine go hΓ 2 rfl ?_
  refine eo_alloc hΓ rfl rfl rfl (Nat.le_of_ble_eq_true rfl) ?_
  refine go_ops hΓ 6 rfl ?_
  refine eo_build hΓ (gs := [B true, U 18230571291595767808, U (IntKind.u64.wrap (n))]) rfl rfl rfl rfl rfl rfl rfl ?_
  refine eo_store hΓ rfl rfl rfl rfl rfl rfl rfl rfl (Nat.le_of_ble_eq_true rfl) ?_
  refine eo_hp [.box 28 [B true, U 18230571291595767808, U (IntKind.u64.wrap (n))]] rfl ?_
  refine go_ops hΓ 3 rfl ?_
  obtain rfl := Option.some.inj h
  exact fin_pure hΓ (.inr rfl) rfl rfl
set_option maxHeartbeats 8000000 in
theorem c_lanemake_Stream_RightNodes {s : T_lanemake_Stream} {most : Int} {r : (List T_api_Node) × T_lanemake_Stream} (h : m_lanemake_Stream_RightNodes s most = some r) : EC Tryz.prog 38 [.ptr 0 0, I most] [.box 25 [.d (Sl (eN .i64) s.L), I s.v_at]] fun g hp' => g = .sl 1 r.1.length ∧ hp' = [.box 25 [.d (Sl (eN .i64) r.2.L), I r.2.v_at], .row 81 6 r.1.length (r.1.flatMap e_api_Node)] := by
  refine ec_enterC (Fr.of 0 _) Tryz.func38 rfl (Fr.of_ok _) (Nat.le_of_ble_eq_true rfl) fun _ => ?_
  refine go_in ?_
  unfold m_lanemake_Stream_RightNodes at h
  refine go hΓ 2 rfl ?_
  refine eo_nilOwn (t := 0) 81 6 rfl (Nat.le_of_ble_eq_true rfl) ?_
  refine go_ops hΓ 4 rfl ?_
  refine eo_nilOwn (t := 0) 81 6 rfl (Nat.le_of_ble_eq_true rfl) ?_
  refine go_ops hΓ 5 rfl ?_
  refine eo_litT hΓ (enc := eS) [[110, 97], [110, 98], [110, 99], [110, 100], [110, 101]] rfl rfl rfl rfl rfl rfl rfl rfl rfl rfl rfl rfl (Nat.le_of_ble_eq_true rfl) ?_
  obtain ⟨z1, hz1, h2⟩ := bi_ok h
  refine go_ops hΓ 2 rfl ?_
  refine eo_o rfl (op_subRoZ hΓ (enc := eS) hz1 rfl rfl rfl rfl rfl rfl (fun _ => rfl)) ?_
  refine go_ops hΓ 4 rfl ?_
  obtain ⟨q6, hq6, h7⟩ := bi_ok h2
  refine j_bound 12 rfl fun hb9 => ?_
  refine j_cutNZ [(5, .sl 2 q6.2.length)] [.box 25 [.d (Sl (eN .i64) q6.1.L), I q6.1.v_at], .row 81 6 ([] : List T_api_Node).length (([] : List T_api_Node).flatMap e_api_Node), .row 81 6 q6.2.length (q6.2.flatMap e_api_Node)] ?_ ?_
  · refine go hΓ 1 rfl ?_
    refine j_rangeF z1 hq6 (fun i3 s4 => [(0, .ptr 0 0), (5, .sl 2 s4.2.length), (12, .d (Sl eS z1)), (13, I (z1.length : Int)), (14, I (i3 : Int))]) (fun s4 => [.box 25 [.d (Sl (eN .i64) s4.1.L), I s4.1.v_at], .row 81 6 ([] : List T_api_Node).length (([] : List T_api_Node).flatMap e_api_Node), .row 81 6 s4.2.length (s4.2.flatMap e_api_Node)]) ⟨⟨rfl, rfl, rfl, rfl, rfl, trivial⟩, [], rfl, .inl rfl⟩ (fun i3 x5 s4 y13 hx10 hlt hy11 => ?_) (?_)
    · refine go hΓ 6 rfl ?_
      refine j_condT rfl (decide_eq_true (Int.ofNat_lt.2 hlt)) ?_
      refine go hΓ 7 rfl ?_
      refine eo_o rfl (op_elemZ hΓ (enc := eS) (getZ_nat hx10) rfl rfl rfl rfl rfl (fun _ => rfl)) ?_
      obtain ⟨y14, hy14, h15⟩ := bi_ok hy11
      refine go_ops hΓ 9 rfl ?_
      refine eo_callF [0] (B y14.1) [.box 25 [.d (Sl (eN .i64) y14.2.L), I y14.2.v_at], .row 81 6 ([] : List T_api_Node).length (([] : List T_api_Node).flatMap e_api_Node), .row 81 6 s4.2.length (s4.2.flatMap e_api_Node)] (callable Tryz.func10 rfl rfl) (c_lanemake_Stream_Flip hy14) rfl (Nat.le_of_ble_eq_true rfl) rfl rfl rfl rfl rfl rfl rfl rfl rfl rfl ?_
      refine go_ops hΓ 2 rfl ?_
      refine j_cond rfl (fun hb => ?_) (fun hb => ?_)
      · have h16 := cT h15 hb
        refine go hΓ 8 rfl ?_
        obtain rfl := Option.some.inj h16
        exact ⟨⟨rfl, rfl, rfl, rfl, get_eq rfl (w64_succ (Nat.lt_of_lt_of_le hlt hb9)), trivial⟩, [], rfl, .inl rfl⟩
      · have h17 := cF h15 hb
        refine go hΓ 7 rfl ?_
        refine eo_litT hΓ (enc := eS) [x5, [98, 111, 120], [98, 111, 120], [119, 101, 98]] rfl rfl rfl rfl rfl rfl rfl rfl rfl rfl rfl rfl (Nat.le_of_ble_eq_true rfl) ?_
        obtain ⟨y18, hy18, h19⟩ := bi_ok h17
        refine eo_callF [0] (S y18.1) [.box 25 [.d (Sl (eN .i64) y18.2.L), I y18.2.v_at], .row 81 6 ([] : List T_api_Node).length (([] : List T_api_Node).flatMap e_api_Node), .row 81 6 s4.2.length (s4.2.flatMap e_api_Node)] (callable Tryz.func16 rfl rfl) (c_lanemake_Stream_Some hy18) rfl (Nat.le_of_ble_eq_true rfl) rfl rfl rfl rfl rfl rfl rfl rfl rfl rfl ?_
        refine go_ops hΓ 1 rfl ?_
        refine eo_litT hΓ (enc := eS) [[97, 110, 110], [97, 110, 110], [98, 111, 98], [99, 105, 100], []] rfl rfl rfl rfl rfl rfl rfl rfl rfl rfl rfl rfl (Nat.le_of_ble_eq_true rfl) ?_
        obtain ⟨y20, hy20, h21⟩ := bi_ok h19
        refine eo_callF [0] (S y20.1) [.box 25 [.d (Sl (eN .i64) y20.2.L), I y20.2.v_at], .row 81 6 ([] : List T_api_Node).length (([] : List T_api_Node).flatMap e_api_Node), .row 81 6 s4.2.length (s4.2.flatMap e_api_Node)] (callable Tryz.func16 rfl rfl) (c_lanemake_Stream_Some hy20) rfl (Nat.le_of_ble_eq_true rfl) rfl rfl rfl rfl rfl rfl rfl rfl rfl rfl ?_
        refine eo_s (Nat.le_of_ble_eq_true rfl) (nblt.1 rfl) (ops_nilAt 87 4 5 (ops_nilAt 28 3 4 (OpP.s (op_buildX hΓ [4, 5] (gs := [S x5, S y20.1, S y18.1, .d (Sl eS []), .d (.v (.slice none 0 0)), .d (.v (.slice none 0 0))]) rfl rfl rfl rfl rfl rfl)) rfl) rfl) ?_
        refine eo_alloc hΓ rfl rfl rfl (Nat.le_of_ble_eq_true rfl) ?_
        refine eo_store hΓ rfl rfl rfl rfl rfl rfl rfl rfl (Nat.le_of_ble_eq_true rfl) ?_
        refine eo_hp [.box 25 [.d (Sl (eN .i64) y20.2.L), I y20.2.v_at], .row 81 6 ([] : List T_api_Node).length (([] : List T_api_Node).flatMap e_api_Node), .row 81 6 s4.2.length (s4.2.flatMap e_api_Node), .row 28 3 ([] : List T_api_Addr).length (([] : List T_api_Addr).flatMap e_api_Addr), .row 87 4 ([] : List T_api_Prefix).length (([] : List T_api_Prefix).flatMap e_api_Prefix), .box 81 [S x5, S y20.1, S y18.1, .d (Sl eS []), .sl 3 ([] : List T_api_Addr).length, .sl 4 ([] : List T_api_Prefix).length]] rfl ?_
        obtain ⟨q22, hq22, h23⟩ := bi_ok h21
        refine go_ops hΓ 10 rfl ?_
        refine j_cutNZ [(0, .ptr 0 0), (5, .sl 2 s4.2.length), (6, I (i3 : Int)), (8, .ptr 5 0), (12, .d (Sl eS z1)), (13, I (z1.length : Int)), (14, I (i3 : Int))] [.box 25 [.d (Sl (eN .i64) q22.1.L), I q22.1.v_at], .row 81 6 ([] : List T_api_Node).length (([] : List T_api_Node).flatMap e_api_Node), .row 81 6 s4.2.length (s4.2.flatMap e_api_Node), .row 28 3 ([] : List T_api_Addr).length (([] : List T_api_Addr).flatMap e_api_Addr), .row 87 4 ([] : List T_api_Prefix).length (([] : List T_api_Prefix).flatMap e_api_Prefix), .box 81 [S x5, S y20.1, S y18.1, .d (Sl eS q22.2), .sl 3 ([] : List T_api_Addr).length, .sl 4 ([] : List T_api_Prefix).length]] ?_ ?_
        · refine j_cond rfl (fun hb => ?_) (fun hb => ?_)
          · have h24 := cT hq22 hb
            refine go hΓ 1 rfl ?_
            refine eo_litT hΓ (enc := eS) [[119, 101, 98]] rfl rfl rfl rfl rfl rfl rfl rfl rfl rfl rfl rfl (Nat.le_of_ble_eq_true rfl) ?_
            refine eo_litT hΓ (enc := eS) [[100, 98]] rfl rfl rfl rfl rfl rfl rfl rfl rfl rfl rfl rfl (Nat.le_of_ble_eq_true rfl) ?_
            refine eo_litT hΓ (enc := eS) [[100, 98], [119, 101, 98]] rfl rfl rfl rfl rfl rfl rfl rfl rfl rfl rfl rfl (Nat.le_of_ble_eq_true rfl) ?_
            refine eo_litT hΓ (enc := (eL eS)) [[[119, 101, 98]], [[100, 98]], [[100, 98], [119, 101, 98]]] rfl rfl rfl rfl rfl rfl rfl rfl rfl rfl rfl rfl (Nat.le_of_ble_eq_true rfl) ?_
            obtain ⟨y25, hy25, h26⟩ := bi_ok h24
            refine go_ops hΓ 1 rfl ?_
            refine eo_callF [0] (I y25.1) [.box 25 [.d (Sl (eN .i64) y25.2.L), I y25.2.v_at], .row 81 6 ([] : List T_api_Node).length (([] : List T_api_Node).flatMap e_api_Node), .row 81 6 s4.2.length (s4.2.flatMap e_api_Node), .row 28 3 ([] : List T_api_Addr).length (([] : List T_api_Addr).flatMap e_api_Addr), .row 87 4 ([] : List T_api_Prefix).length (([] : List T_api_Prefix).flatMap e_api_Prefix), .box 81 [S x5, S y20.1, S y18.1, .d (Sl eS []), .sl 3 ([] : List T_api_Addr).length, .sl 4 ([] : List T_api_Prefix).length]] (callable Tryz.func24 rfl rfl) (c_lanemake_Stream_Next hy25) rfl (Nat.le_of_ble_eq_true rfl) rfl rfl rfl rfl rfl rfl rfl rfl rfl rfl ?_
            obtain ⟨x27, hx27, h28⟩ := bi_ok h26
            refine eo_o rfl (op_elemZ hΓ (enc := (eL eS)) hx27 rfl rfl rfl rfl rfl (fun _ => rfl)) ?_
            refine go_ops hΓ 2 rfl ?_
            refine eo_store hΓ rfl rfl rfl rfl rfl rfl rfl rfl (Nat.le_of_ble_eq_true rfl) ?_
            refine eo_hp [.box 25 [.d (Sl (eN .i64) y25.2.L), I y25.2.v_at], .row 81 6 ([] : List T_api_Node).length (([] : List T_api_Node).flatMap e_api_Node), .row 81 6 s4.2.length (s4.2.flatMap e_api_Node), .row 28 3 ([] : List T_api_Addr).length (([] : List T_api_Addr).flatMap e_api_Addr), .row 87 4 ([] : List T_api_Prefix).length (([] : List T_api_Prefix).flatMap e_api_Prefix), .box 81 [S x5, S y20.1, S y18.1, .d (Sl eS x27), .sl 3 ([] : List T_api_Addr).length, .sl 4 ([] : List T_api_Prefix).length]] rfl ?_
            refine go_ops hΓ 1 rfl ?_
            obtain rfl := Option.some.inj h28
            exact ⟨⟨rfl, rfl, rfl, rfl, rfl, rfl, rfl, trivial⟩, [], rfl, .inl rfl⟩
          · have h29 := cF hq22 hb
            refine go hΓ 1 rfl ?_
            obtain rfl := Option.some.inj h29
            exact ⟨⟨rfl, rfl, rfl, rfl, rfl, rfl, rfl, trivial⟩, [], rfl, .inl rfl⟩
        · obtain ⟨y30, hy30, h31⟩ := bi_ok h23
          refine go hΓ 5 rfl ?_
          refine eo_callF [0] (B y30.1) [.box 25 [.d (Sl (eN .i64) y30.2.L), I y30.2.v_at], .row 81 6 ([] : List T_api_Node).length (([] : List T_api_Node).flatMap e_api_Node), .row 81 6 s4.2.length (s4.2.flatMap e_api_Node), .row 28 3 ([] : List T_api_Addr).length (([] : List T_api_Addr).flatMap e_api_Addr), .row 87 4 ([] : List T_api_Prefix).length (([] : List T_api_Prefix).flatMap e_api_Prefix), .box 81 [S x5, S y20.1, S y18.1, .d (Sl eS q22.2), .sl 3 ([] : List T_api_Addr).length, .sl 4 ([] : List T_api_Prefix).length]] (callable Tryz.func10 rfl rfl) (c_lanemake_Stream_Flip hy30) rfl (Nat.le_of_ble_eq_true rfl) rfl rfl rfl rfl rfl rfl rfl rfl rfl rfl ?_
          obtain ⟨q32, hq32, h33⟩ := bi_ok h31
          refine go_ops hΓ 3 rfl ?_
          refine j_cutNC [(0, .ptr 0 0), (5, .sl 2 s4.2.length), (6, I (i3 : Int)), (8, .ptr 5 0), (12, .d (Sl eS z1)), (13, I (z1.length : Int)), (14, I (i3 : Int))] [.box 25 [.d (Sl (eN .i64) y30.2.L), I y30.2.v_at], .row 81 6 ([] : List T_api_Node).length (([] : List T_api_Node).flatMap e_api_Node), .row 81 6 s4.2.length (s4.2.flatMap e_api_Node), .row 28 3 q32.length (q32.flatMap e_api_Addr), .row 87 4 ([] : List T_api_Prefix).length (([] : List T_api_Prefix).flatMap e_api_Prefix), .box 81 [S x5, S y20.1, S y18.1, .d (Sl eS q22.2), .sl 3 q32.length, .sl 4 ([] : List T_api_Prefix).length]] ?_ ?_
          · refine j_cond rfl (fun hb => ?_) (fun hb => ?_)
            · have h34 := cT hq32 hb
              refine j_drawE [.dead, .dead, .dead, .dead, .dead, .box 81 [S x5, S y20.1, S y18.1, .d (Sl eS q22.2), .sl 3 ([] : List T_api_Addr).length, .sl 4 ([] : List T_api_Prefix).length]] [1] [6, 8] [6, 8] hmix (by kernel_rfl) (by kernel_rfl) ⟨rfl, trivial⟩ (Nat.le_of_ble_eq_true rfl) ?_
              obtain ⟨y35, hy35, h36⟩ := bi_ok h34
              refine go_E hΓ 4 rfl ?_
              refine ge_callP (callable Tryz.func40 rfl rfl) (c_lanemake_at hy35) rfl rfl rfl rfl rfl rfl ?_
              refine ge_litT hΓ (enc := e_api_Addr) [y35] rfl rfl rfl rfl rfl rfl rfl rfl rfl rfl rfl rfl ?_
              obtain ⟨y37, hy37, h38⟩ := bi_ok h36
              refine ge_h [.box 25 [.d (Sl (eN .i64) y30.2.L), I y30.2.v_at], .row 81 6 ([] : List T_api_Node).length (([] : List T_api_Node).flatMap e_api_Node), .row 81 6 s4.2.length (s4.2.flatMap e_api_Node), .dead, .row 87 4 ([] : List T_api_Prefix).length (([] : List T_api_Prefix).flatMap e_api_Prefix), .box 81 [S x5, S y20.1, S y18.1, .d (Sl eS q22.2), .junk, .sl 4 ([] : List T_api_Prefix).length], .row 28 3 y37.length (y37.flatMap e_api_Addr)] rfl rfl rfl (brk_st rfl) (qte_s (ops_forg 3 (ops_appendT hΓ (enc := e_api_Addr) (id := 3) (h2 := show Γ 28 = some ⟨_, 3, _, _⟩ from rfl) hy37 rfl rfl rfl rfl rfl rfl rfl rfl (fun _ => rfl) rfl))) ?_
              refine go_E hΓ 1 rfl ?_
              refine ge_h0 [.box 25 [.d (Sl (eN .i64) y30.2.L), I y30.2.v_at], .row 81 6 ([] : List T_api_Node).length (([] : List T_api_Node).flatMap e_api_Node), .row 81 6 s4.2.length (s4.2.flatMap e_api_Node), .dead, .row 87 4 ([] : List T_api_Prefix).length (([] : List T_api_Prefix).flatMap e_api_Prefix), .box 81 [S x5, S y20.1, S y18.1, .d (Sl eS q22.2), .sl 6 y37.length, .sl 4 ([] : List T_api_Prefix).length], .row 28 3 y37.length (y37.flatMap e_api_Addr)] rfl rfl (brk_st rfl) (qte_u (opu_store2 hΓ rfl rfl rfl rfl rfl rfl rfl rfl rfl)) ?_
              refine ge_fin ?_
              refine cv_move 6 3 [.box 25 [.d (Sl (eN .i64) y30.2.L), I y30.2.v_at], .row 81 6 ([] : List T_api_Node).length (([] : List T_api_Node).flatMap e_api_Node), .row 81 6 s4.2.length (s4.2.flatMap e_api_Node), .row 28 3 y37.length (y37.flatMap e_api_Addr), .row 87 4 ([] : List T_api_Prefix).length (([] : List T_api_Prefix).flatMap e_api_Prefix), .box 81 [S x5, S y20.1, S y18.1, .d (Sl eS q22.2), .sl 3 y37.length, .sl 4 ([] : List T_api_Prefix).length], .dead] rfl rfl rfl rfl rfl rfl ?_
              refine cv_here ?_
              obtain rfl := Option.some.inj h38
              exact ⟨⟨rfl, rfl, rfl, rfl, rfl, rfl, rfl, trivial⟩, [_], rfl, .inr ⟨HB.mk rfl, FB.mk rfl, (Nat.le_of_ble_eq_true rfl)⟩⟩
            · have h39 := cF hq32 hb
              refine go hΓ 1 rfl ?_
              refine cv_here ?_
              obtain rfl := Option.some.inj h39
              exact ⟨⟨rfl, rfl, rfl, rfl, rfl, rfl, rfl, trivial⟩, [], rfl, .inl rfl⟩
          · obtain ⟨y40, hy40, h41⟩ := bi_ok h33
            refine go hΓ 5 rfl ?_
            refine eo_callF [0] (B y40.1) [.box 25 [.d (Sl (eN .i64) y40.2.L), I y40.2.v_at], .row 81 6 ([] : List T_api_Node).length (([] : List T_api_Node).flatMap e_api_Node), .row 81 6 s4.2.length (s4.2.flatMap e_api_Node), .row 28 3 q32.length (q32.flatMap e_api_Addr), .row 87 4 ([] : List T_api_Prefix).length (([] : List T_api_Prefix).flatMap e_api_Prefix), .box 81 [S x5, S y20.1, S y18.1, .d (Sl eS q22.2), .sl 3 q32.length, .sl 4 ([] : List T_api_Prefix).length]] (callable Tryz.func10 rfl rfl) (c_lanemake_Stream_Flip hy40) rfl (Nat.le_of_ble_eq_true rfl) rfl rfl rfl rfl rfl rfl rfl rfl rfl rfl ?_
            obtain ⟨q42, hq42, h43⟩ := bi_ok h41
            refine go_ops hΓ 2 rfl ?_
            refine j_cutNC [(0, .ptr 0 0), (5, .sl 2 s4.2.length), (8, .ptr 5 0), (12, .d (Sl eS z1)), (13, I (z1.length : Int)), (14, I (i3 : Int))] [.box 25 [.d (Sl (eN .i64) y40.2.L), I y40.2.v_at], .row 81 6 ([] : List T_api_Node).length (([] : List T_api_Node).flatMap e_api_Node), .row 81 6 s4.2.length (s4.2.flatMap e_api_Node), .row 28 3 q42.length (q42.flatMap e_api_Addr), .row 87 4 ([] : List T_api_Prefix).length (([] : List T_api_Prefix).flatMap e_api_Prefix), .box 81 [S x5, S y20.1, S y18.1, .d (Sl eS q22.2), .sl 3 q42.length, .sl 4 ([] : List T_api_Prefix).length]] ?_ ?_
            · refine j_cond rfl (fun hb => ?_) (fun hb => ?_)
              · have h44 := cT hq42 hb
                refine j_drawE [.dead, .dead, .dead, .dead, .dead, .box 81 [S x5, S y20.1, S y18.1, .d (Sl eS q22.2), .sl 3 q32.length, .sl 4 ([] : List T_api_Prefix).length]] [1] [6, 8] [6, 8] hmix (by kernel_rfl) (by kernel_rfl) ⟨rfl, trivial⟩ (Nat.le_of_ble_eq_true rfl) ?_
                obtain ⟨y45, hy45, h46⟩ := bi_ok h44
                refine go_E hΓ 4 rfl ?_
                refine ge_callP (callable Tryz.func72 rfl rfl) (c_lanemake_sixAt hy45) rfl rfl rfl rfl rfl rfl ?_
                refine ge_litT hΓ (enc := e_api_Addr) [y45] rfl rfl rfl rfl rfl rfl rfl rfl rfl rfl rfl rfl ?_
                obtain ⟨y47, hy47, h48⟩ := bi_ok h46
                refine ge_h [.box 25 [.d (Sl (eN .i64) y40.2.L), I y40.2.v_at], .row 81 6 ([] : List T_api_Node).length (([] : List T_api_Node).flatMap e_api_Node), .row 81 6 s4.2.length (s4.2.flatMap e_api_Node), .dead, .row 87 4 ([] : List T_api_Prefix).length (([] : List T_api_Prefix).flatMap e_api_Prefix), .box 81 [S x5, S y20.1, S y18.1, .d (Sl eS q22.2), .junk, .sl 4 ([] : List T_api_Prefix).length], .row 28 3 y47.length (y47.flatMap e_api_Addr)] rfl rfl rfl (brk_st rfl) (qte_s (ops_forg 3 (ops_appendT hΓ (enc := e_api_Addr) (id := 3) (h2 := show Γ 28 = some ⟨_, 3, _, _⟩ from rfl) hy47 rfl rfl rfl rfl rfl rfl rfl rfl (fun _ => rfl) rfl))) ?_
                refine go_E hΓ 1 rfl ?_
                refine ge_h0 [.box 25 [.d (Sl (eN .i64) y40.2.L), I y40.2.v_at], .row 81 6 ([] : List T_api_Node).length (([] : List T_api_Node).flatMap e_api_Node), .row 81 6 s4.2.length (s4.2.flatMap e_api_Node), .dead, .row 87 4 ([] : List T_api_Prefix).length (([] : List T_api_Prefix).flatMap e_api_Prefix), .box 81 [S x5, S y20.1, S y18.1, .d (Sl eS q22.2), .sl 6 y47.length, .sl 4 ([] : List T_api_Prefix).length], .row 28 3 y47.length (y47.flatMap e_api_Addr)] rfl rfl (brk_st rfl) (qte_u (opu_store2 hΓ rfl rfl rfl rfl rfl rfl rfl rfl rfl)) ?_
                refine ge_fin ?_
                refine cv_move 6 3 [.box 25 [.d (Sl (eN .i64) y40.2.L), I y40.2.v_at], .row 81 6 ([] : List T_api_Node).length (([] : List T_api_Node).flatMap e_api_Node), .row 81 6 s4.2.length (s4.2.flatMap e_api_Node), .row 28 3 y47.length (y47.flatMap e_api_Addr), .row 87 4 ([] : List T_api_Prefix).length (([] : List T_api_Prefix).flatMap e_api_Prefix), .box 81 [S x5, S y20.1, S y18.1, .d (Sl eS q22.2), .sl 3 y47.length, .sl 4 ([] : List T_api_Prefix).length], .dead] rfl rfl rfl rfl rfl rfl ?_
                refine cv_here ?_
                obtain rfl := Option.some.inj h48
                exact ⟨⟨rfl, rfl, rfl, rfl, rfl, rfl, trivial⟩, [_], rfl, .inr ⟨HB.mk rfl, FB.mk rfl, (Nat.le_of_ble_eq_true rfl)⟩⟩
              · have h49 := cF hq42 hb
                refine go hΓ 1 rfl ?_
                refine cv_here ?_
                obtain rfl := Option.some.inj h49
                exact ⟨⟨rfl, rfl, rfl, rfl, rfl, rfl, trivial⟩, [], rfl, .inl rfl⟩
            · obtain ⟨y50, hy50, h51⟩ := bi_ok h43
              refine go hΓ 5 rfl ?_
              refine eo_callF [0] (B y50.1) [.box 25 [.d (Sl (eN .i64) y50.2.L), I y50.2.v_at], .row 81 6 ([] : List T_api_Node).length (([] : List T_api_Node).flatMap e_api_Node), .row 81 6 s4.2.length (s4.2.flatMap e_api_Node), .row 28 3 q42.length (q42.flatMap e_api_Addr), .row 87 4 ([] : List T_api_Prefix).length (([] : List T_api_Prefix).flatMap e_api_Prefix), .box 81 [S x5, S y20.1, S y18.1, .d (Sl eS q22.2), .sl 3 q42.length, .sl 4 ([] : List T_api_Prefix).length]] (callable Tryz.func10 rfl rfl) (c_lanemake_Stream_Flip hy50) rfl (Nat.le_of_ble_eq_true rfl) rfl rfl rfl rfl rfl rfl rfl rfl rfl rfl ?_
              obtain ⟨q52, hq52, h53⟩ := bi_ok h51
              refine go_ops hΓ 2 rfl ?_
              refine j_cutNC [(0, .ptr 0 0), (5, .sl 2 s4.2.length), (8, .ptr 5 0), (12, .d (Sl eS z1)), (13, I (z1.length : Int)), (14, I (i3 : Int))] [.box 25 [.d (Sl (eN .i64) q52.1.L), I q52.1.v_at], .row 81 6 ([] : List T_api_Node).length (([] : List T_api_Node).flatMap e_api_Node), .row 81 6 s4.2.length (s4.2.flatMap e_api_Node), .row 28 3 q42.length (q42.flatMap e_api_Addr), .row 87 4 q52.2.length (q52.2.flatMap e_api_Prefix), .box 81 [S x5, S y20.1, S y18.1, .d (Sl eS q22.2), .sl 3 q42.length, .sl 4 q52.2.length]] ?_ ?_
              · refine j_cond rfl (fun hb => ?_) (fun hb => ?_)
                · have h54 := cT hq52 hb
                  refine j_drawE [.dead, .dead, .dead, .dead, .dead, .box 81 [S x5, S y20.1, S y18.1, .d (Sl eS q22.2), .sl 3 q42.length, .sl 4 ([] : List T_api_Prefix).length]] [1] [5, 8, 10] [8, 10] hmix (by kernel_rfl) (by kernel_rfl) ⟨rfl, trivial⟩ (Nat.le_of_ble_eq_true rfl) ?_
                  refine go_E hΓ 2 rfl ?_
                  refine ge_q rfl (.inl rfl) (fun _ _ => qte_of_qt (qt_p (op_build hΓ (gs := [B false, U 0, U 167772160]) rfl rfl rfl rfl rfl rfl))) ?_
                  refine go_E hΓ 1 rfl ?_
                  refine ge_litT hΓ (enc := (eN .i64)) [8, 16, 24] rfl rfl rfl rfl rfl rfl rfl rfl rfl rfl rfl rfl ?_
                  obtain ⟨y55, hy55, h56⟩ := bi_ok h54
                  refine ge_h [.box 25 [.d (Sl (eN .i64) y55.2.L), I y55.2.v_at], .row 81 6 ([] : List T_api_Node).length (([] : List T_api_Node).flatMap e_api_Node), .row 81 6 s4.2.length (s4.2.flatMap e_api_Node), .row 28 3 q42.length (q42.flatMap e_api_Addr), .row 87 4 ([] : List T_api_Prefix).length (([] : List T_api_Prefix).flatMap e_api_Prefix), .box 81 [S x5, S y20.1, S y18.1, .d (Sl eS q22.2), .sl 3 q42.length, .sl 4 ([] : List T_api_Prefix).length]] rfl rfl rfl (st_st ⟨rfl, trivial⟩) (qte_callF [0] (I y55.1) [.box 25 [.d (Sl (eN .i64) y55.2.L), I y55.2.v_at], .row 81 6 ([] : List T_api_Node).length (([] : List T_api_Node).flatMap e_api_Node), .row 81 6 s4.2.length (s4.2.flatMap e_api_Node), .row 28 3 q42.length (q42.flatMap e_api_Addr), .row 87 4 ([] : List T_api_Prefix).length (([] : List T_api_Prefix).flatMap e_api_Prefix), .box 81 [S x5, S y20.1, S y18.1, .d (Sl eS q22.2), .sl 3 q42.length, .sl 4 ([] : List T_api_Prefix).length]] (callable Tryz.func17 rfl rfl) (c_lanemake_Stream_Pick hy55) rfl rfl rfl rfl rfl rfl rfl rfl rfl rfl) ?_
                  refine ge_q rfl (.inl rfl) (fun _ _ => qte_of_qt (qt_p (op_build hΓ (gs := [B false, U 0, U 167772160, I y55.1]) rfl rfl rfl rfl rfl rfl))) ?_
                  refine ge_litT hΓ (enc := e_api_Prefix) [(⟨(⟨false, 0, 167772160⟩ : T_api_Addr), y55.1⟩ : T_api_Prefix)] rfl rfl rfl rfl rfl rfl rfl rfl rfl rfl rfl rfl ?_
                  obtain ⟨y57, hy57, h58⟩ := bi_ok h56
                  refine ge_h [.box 25 [.d (Sl (eN .i64) y55.2.L), I y55.2.v_at], .row 81 6 ([] : List T_api_Node).length (([] : List T_api_Node).flatMap e_api_Node), .row 81 6 s4.2.length (s4.2.flatMap e_api_Node), .row 28 3 q42.length (q42.flatMap e_api_Addr), .dead, .box 81 [S x5, S y20.1, S y18.1, .d (Sl eS q22.2), .sl 3 q42.length, .junk], .row 87 4 y57.length (y57.flatMap e_api_Prefix)] rfl rfl rfl (brk_st rfl) (qte_s (ops_forg 4 (ops_appendT hΓ (enc := e_api_Prefix) (id := 4) (h2 := show Γ 87 = some ⟨_, 4, _, _⟩ from rfl) hy57 rfl rfl rfl rfl rfl rfl rfl rfl (fun _ => rfl) rfl))) ?_
                  refine go_E hΓ 1 rfl ?_
                  refine ge_h0 [.box 25 [.d (Sl (eN .i64) y55.2.L), I y55.2.v_at], .row 81 6 ([] : List T_api_Node).length (([] : List T_api_Node).flatMap e_api_Node), .row 81 6 s4.2.length (s4.2.flatMap e_api_Node), .row 28 3 q42.length (q42.flatMap e_api_Addr), .dead, .box 81 [S x5, S y20.1, S y18.1, .d (Sl eS q22.2), .sl 3 q42.length, .sl 6 y57.length], .row 87 4 y57.length (y57.flatMap e_api_Prefix)] rfl rfl (brk_st rfl) (qte_u (opu_store2 hΓ rfl rfl rfl rfl rfl rfl rfl rfl rfl)) ?_
                  refine ge_fin ?_
                  refine cv_move 6 4 [.box 25 [.d (Sl (eN .i64) y55.2.L), I y55.2.v_at], .row 81 6 ([] : List T_api_Node).length (([] : List T_api_Node).flatMap e_api_Node), .row 81 6 s4.2.length (s4.2.flatMap e_api_Node), .row 28 3 q42.length (q42.flatMap e_api_Addr), .row 87 4 y57.length (y57.flatMap e_api_Prefix), .box 81 [S x5, S y20.1, S y18.1, .d (Sl eS q22.2), .sl 3 q42.length, .sl 4 y57.length], .dead] rfl rfl rfl rfl rfl rfl ?_
                  refine cv_here ?_
                  obtain rfl := Option.some.inj h58
                  exact ⟨⟨rfl, rfl, rfl, rfl, rfl, rfl, trivial⟩, [_], rfl, .inr ⟨HB.mk rfl, FB.mk rfl, (Nat.le_of_ble_eq_true rfl)⟩⟩
                · have h59 := cF hq52 hb
                  refine go hΓ 1 rfl ?_
                  refine cv_here ?_
                  obtain rfl := Option.some.inj h59
                  exact ⟨⟨rfl, rfl, rfl, rfl, rfl, rfl, trivial⟩, [], rfl, .inl rfl⟩
              · obtain ⟨y60, hy60, h61⟩ := bi_ok h53
                refine go hΓ 5 rfl ?_
                refine eo_callF [0] (B y60.1) [.box 25 [.d (Sl (eN .i64) y60.2.L), I y60.2.v_at], .row 81 6 ([] : List T_api_Node).length (([] : List T_api_Node).flatMap e_api_Node), .row 81 6 s4.2.length (s4.2.flatMap e_api_Node), .row 28 3 q42.length (q42.flatMap e_api_Addr), .row 87 4 q52.2.length (q52.2.flatMap e_api_Prefix), .box 81 [S x5, S y20.1, S y18.1, .d (Sl eS q22.2), .sl 3 q42.length, .sl 4 q52.2.length]] (callable Tryz.func10 rfl rfl) (c_lanemake_Stream_Flip hy60) rfl (Nat.le_of_ble_eq_true rfl) rfl rfl rfl rfl rfl rfl rfl rfl rfl rfl ?_
                obtain ⟨q62, hq62, h63⟩ := bi_ok h61
                refine go_ops hΓ 2 rfl ?_
                refine j_cutNC [(0, .ptr 0 0), (5, .sl 2 s4.2.length), (8, .ptr 5 0), (12, .d (Sl eS z1)), (13, I (z1.length : Int)), (14, I (i3 : Int))] [.box 25 [.d (Sl (eN .i64) q62.1.L), I q62.1.v_at], .row 81 6 ([] : List T_api_Node).length (([] : List T_api_Node).flatMap e_api_Node), .row 81 6 s4.2.length (s4.2.flatMap e_api_Node), .row 28 3 q42.length (q42.flatMap e_api_Addr), .row 87 4 q62.2.length (q62.2.flatMap e_api_Prefix), .box 81 [S x5, S y20.1, S y18.1, .d (Sl eS q22.2), .sl 3 q42.length, .sl 4 q62.2.length]] ?_ ?_
                · refine j_cond rfl (fun hb => ?_) (fun hb => ?_)
                  · have h64 := cT hq62 hb
                    refine j_drawE [.dead, .dead, .dead, .dead, .dead, .box 81 [S x5, S y20.1, S y18.1, .d (Sl eS q22.2), .sl 3 q42.length, .sl 4 q52.2.length]] [1] [3, 7, 9] [7, 9] hmix (by kernel_rfl) (by kernel_rfl) ⟨rfl, trivial⟩ (Nat.le_of_ble_eq_true rfl) ?_
                    obtain ⟨y65, hy65, h66⟩ := bi_ok h64
                    refine go_E hΓ 3 rfl ?_
                    refine ge_h [.box 25 [.d (Sl (eN .i64) y65.2.L), I y65.2.v_at], .row 81 6 ([] : List T_api_Node).length (([] : List T_api_Node).flatMap e_api_Node), .row 81 6 s4.2.length (s4.2.flatMap e_api_Node), .row 28 3 q42.length (q42.flatMap e_api_Addr), .row 87 4 q52.2.length (q52.2.flatMap e_api_Prefix), .box 81 [S x5, S y20.1, S y18.1, .d (Sl eS q22.2), .sl 3 q42.length, .sl 4 q52.2.length]] rfl rfl rfl (st_st ⟨rfl, trivial⟩) (qte_callF [0] (B y65.1) [.box 25 [.d (Sl (eN .i64) y65.2.L), I y65.2.v_at], .row 81 6 ([] : List T_api_Node).length (([] : List T_api_Node).flatMap e_api_Node), .row 81 6 s4.2.length (s4.2.flatMap e_api_Node), .row 28 3 q42.length (q42.flatMap e_api_Addr), .row 87 4 q52.2.length (q52.2.flatMap e_api_Prefix), .box 81 [S x5, S y20.1, S y18.1, .d (Sl eS q22.2), .sl 3 q42.length, .sl 4 q52.2.length]] (callable Tryz.func10 rfl rfl) (c_lanemake_Stream_Flip hy65) rfl rfl rfl rfl rfl rfl rfl rfl rfl rfl) ?_
                    refine ge_q rfl (.inl rfl) (fun _ _ => qte_of_qt (qt_p (op_build hΓ (gs := [B y65.1, U 0, U 0]) rfl rfl rfl rfl rfl rfl))) ?_
                    refine ge_q rfl (.inl rfl) (fun _ _ => qte_of_qt (qt_p (op_build hΓ (gs := [B y65.1, U 0, U 0, I 0]) rfl rfl rfl rfl rfl rfl))) ?_
                    refine ge_litT hΓ (enc := e_api_Prefix) [(⟨(⟨y65.1, 0, 0⟩ : T_api_Addr), 0⟩ : T_api_Prefix)] rfl rfl rfl rfl rfl rfl rfl rfl rfl rfl rfl rfl ?_
                    obtain ⟨y67, hy67, h68⟩ := bi_ok h66
                    refine ge_h [.box 25 [.d (Sl (eN .i64) y65.2.L), I y65.2.v_at], .row 81 6 ([] : List T_api_Node).length (([] : List T_api_Node).flatMap e_api_Node), .row 81 6 s4.2.length (s4.2.flatMap e_api_Node), .row 28 3 q42.length (q42.flatMap e_api_Addr), .dead, .box 81 [S x5, S y20.1, S y18.1, .d (Sl eS q22.2), .sl 3 q42.length, .junk], .row 87 4 y67.length (y67.flatMap e_api_Prefix)] rfl rfl rfl (brk_st rfl) (qte_s (ops_forg 4 (ops_appendT hΓ (enc := e_api_Prefix) (id := 4) (h2 := show Γ 87 = some ⟨_, 4, _, _⟩ from rfl) hy67 rfl rfl rfl rfl rfl rfl rfl rfl (fun _ => rfl) rfl))) ?_
                    refine go_E hΓ 1 rfl ?_
                    refine ge_h0 [.box 25 [.d (Sl (eN .i64) y65.2.L), I y65.2.v_at], .row 81 6 ([] : List T_api_Node).length (([] : List T_api_Node).flatMap e_api_Node), .row 81 6 s4.2.length (s4.2.flatMap e_api_Node), .row 28 3 q42.length (q42.flatMap e_api_Addr), .dead, .box 81 [S x5, S y20.1, S y18.1, .d (Sl eS q22.2), .sl 3 q42.length, .sl 6 y67.length], .row 87 4 y67.length (y67.flatMap e_api_Prefix)] rfl rfl (brk_st rfl) (qte_u (opu_store2 hΓ rfl rfl rfl rfl rfl rfl rfl rfl rfl)) ?_
                    refine ge_fin ?_
                    refine cv_move 6 4 [.box 25 [.d (Sl (eN .i64) y65.2.L), I y65.2.v_at], .row 81 6 ([] : List T_api_Node).length (([] : List T_api_Node).flatMap e_api_Node), .row 81 6 s4.2.length (s4.2.flatMap e_api_Node), .row 28 3 q42.length (q42.flatMap e_api_Addr), .row 87 4 y67.length (y67.flatMap e_api_Prefix), .box 81 [S x5, S y20.1, S y18.1, .d (Sl eS q22.2), .sl 3 q42.length, .sl 4 y67.length], .dead] rfl rfl rfl rfl rfl rfl ?_
                    refine cv_here ?_
                    obtain rfl := Option.some.inj h68
                    exact ⟨⟨rfl, rfl, rfl, rfl, rfl, rfl, trivial⟩, [_], rfl, .inr ⟨HB.mk rfl, FB.mk rfl, (Nat.le_of_ble_eq_true rfl)⟩⟩
                  · have h69 := cF hq62 hb
                    refine go hΓ 1 rfl ?_
                    refine cv_here ?_
                    obtain rfl := Option.some.inj h69
                    exact ⟨⟨rfl, rfl, rfl, rfl, rfl, rfl, trivial⟩, [], rfl, .inl rfl⟩
                · refine go hΓ 4 rfl ?_
                  refine eo_shr 3 [87] _ [.box 25 [.d (Sl (eN .i64) q62.1.L), I q62.1.v_at], .row 81 6 ([] : List T_api_Node).length (([] : List T_api_Node).flatMap e_api_Node), .row 81 6 s4.2.length (s4.2.flatMap e_api_Node), .dead, .row 87 4 q62.2.length (q62.2.flatMap e_api_Prefix), .box 81 [S x5, S y20.1, S y18.1, .d (Sl eS q22.2), .d (Sl e_api_Addr q42), .sl 4 q62.2.length]] rfl rfl rfl (Nat.le_of_ble_eq_true rfl) ?_
                  refine eo_shr 4 [87] _ [.box 25 [.d (Sl (eN .i64) q62.1.L), I q62.1.v_at], .row 81 6 ([] : List T_api_Node).length (([] : List T_api_Node).flatMap e_api_Node), .row 81 6 s4.2.length (s4.2.flatMap e_api_Node), .dead, .dead, .box 81 [S x5, S y20.1, S y18.1, .d (Sl eS q22.2), .d (Sl e_api_Addr q42), .d (Sl e_api_Prefix q62.2)]] rfl rfl rfl (Nat.le_of_ble_eq_true rfl) ?_
                  refine eo_litT hΓ (enc := e_api_Node) [(⟨x5, y20.1, y18.1, q22.2, q42, q62.2⟩ : T_api_Node)] rfl rfl rfl rfl rfl rfl rfl rfl rfl rfl rfl rfl (Nat.le_of_ble_eq_true rfl) ?_
                  obtain ⟨y70, hy70, h71⟩ := bi_ok h63
                  refine eo_appendT hΓ (enc := e_api_Node) hy70 rfl rfl rfl rfl rfl rfl rfl rfl rfl (fun _ => rfl) rfl rfl rfl rfl ?_
                  refine go_ops hΓ 8 rfl ?_
                  obtain rfl := Option.some.inj h71
                  exact ⟨⟨rfl, rfl, rfl, rfl, get_eq rfl (w64_succ (Nat.lt_of_lt_of_le hlt hb9)), trivial⟩, [_, _, _], rfl, .inr ⟨HB.mk rfl, FB.mk rfl, (Nat.le_of_ble_eq_true rfl)⟩⟩
    · refine go hΓ 6 rfl ?_
      refine j_condF rfl (decide_eq_false (Int.lt_irrefl _)) ?_
      refine go hΓ 4 rfl ?_
      exact ⟨⟨rfl, trivial⟩, [], rfl, .inl rfl⟩
  · refine go hΓ 8 rfl ?_
    refine cv_kill 1 [.box 25 [.d (Sl (eN .i64) q6.1.L), I q6.1.v_at], .dead, .row 81 6 q6.2.length (q6.2.flatMap e_api_Node)] rfl (Nat.le_of_ble_eq_true rfl) ?_
    refine cv_move 2 1 [.box 25 [.d (Sl (eN .i64) q6.1.L), I q6.1.v_at], .row 81 6 q6.2.length (q6.2.flatMap e_api_Node), .dead] rfl rfl rfl rfl rfl rfl ?_
    refine cv_here ?_
    obtain rfl := Option.some.inj h7
    exact fin_objs hΓ [_] (.inr rfl) rfl rfl rfl rfl (.inr ⟨HB.mk rfl, rfl⟩)
theorem c_slices_Clone_api_Addr_api_Addr {s : List T_api_Addr} {r : List T_api_Addr} (h : m_slices_Clone_api_Addr_api_Addr s = some r) : EC Tryz.prog 39 [.d (Sl e_api_Addr s)] [] fun g hp' => g = .sl 0 r.length ∧ hp' = [.row 28 3 r.length (r.flatMap e_api_Addr)] := by
  refine ec_enterC (Fr.of 0 _) Tryz.func39 rfl (Fr.of_ok _) (Nat.le_of_ble_eq_true rfl) fun _ => ?_
  refine go_in ?_
  unfold m_slices_Clone_api_Addr_api_Addr at h
  refine go hΓ 2 rfl ?_
  refine eo_nilOwn (t := 0) 28 3 rfl (Nat.le_of_ble_eq_true rfl) ?_
  refine go_ops hΓ 6 rfl ?_
  refine eo_isNil hΓ rfl rfl rfl rfl rfl fun b hbn => ?_
  rcases b with _ | _
  · refine go_ops hΓ 7 rfl ?_
    refine eo_litRowT hΓ (enc := e_api_Addr) ([] : List T_api_Addr) rfl rfl rfl rfl rfl rfl rfl rfl rfl rfl rfl rfl (Nat.le_of_ble_eq_true rfl) ?_
    obtain ⟨y1, hy1, h2⟩ := bi_ok h
    refine go_ops hΓ 1 rfl ?_
    refine eo_appendT hΓ (enc := e_api_Addr) hy1 rfl rfl rfl rfl rfl rfl rfl rfl rfl (fun _ => rfl) rfl rfl rfl rfl ?_
    refine go_ops hΓ 3 rfl ?_
    refine j_kill 0 [.dead, .row 28 3 y1.length (y1.flatMap e_api_Addr)] rfl (Nat.le_of_ble_eq_true rfl) ?_
    refine j_move 1 0 [.row 28 3 y1.length (y1.flatMap e_api_Addr), .dead] rfl rfl rfl rfl rfl rfl ?_
    refine go hΓ 1 rfl ?_
    refine cv_here ?_
    obtain rfl := Option.some.inj h2
    exact fin_objs hΓ [_] (.inr rfl) rfl rfl rfl rfl (.inr ⟨HB.mk rfl, rfl⟩)
  · obtain rfl := List.eq_nil_of_length_eq_zero (hbn rfl).1
    replace h : (some ([] : List T_api_Addr) : Option (List T_api_Addr)) = some r := h
    refine go_ops hΓ 5 rfl ?_
    refine eo_nilOwn (t := 0) 28 3 rfl (Nat.le_of_ble_eq_true rfl) ?_
    refine go_ops hΓ 4 rfl ?_
    refine cv_kill 0 [.dead, .row 28 3 ([] : List T_api_Addr).length (([] : List T_api_Addr).flatMap e_api_Addr)] rfl (Nat.le_of_ble_eq_true rfl) ?_
    refine cv_move 1 0 [.row 28 3 ([] : List T_api_Addr).length (([] : List T_api_Addr).flatMap e_api_Addr), .dead] rfl rfl rfl rfl rfl rfl ?_
    refine cv_here ?_
    obtain rfl := Option.some.inj h
    exact fin_objs hΓ [_] (.inr rfl) rfl rfl rfl rfl (.inr ⟨HB.mk rfl, rfl⟩)
theorem c_lanemake_Stream_Range {s : T_lanemake_Stream} {low : Int} {high : Int} {r : Int × T_lanemake_Stream} (h : m_lanemake_Stream_Range s low high = some r) : EC Tryz.prog 28 [.ptr 0 0, I low, I high] [.box 25 [.d (Sl (eN .i64) s.L), I s.v_at]] fun g hp' => g = I r.1 ∧ hp' = [.box 25 [.d (Sl (eN .i64) r.2.L), I r.2.v_at]] := by
  refine ec_enter (Fr.of 0 _) Tryz.func28 rfl (Fr.of_ok _) (Nat.le_of_ble_eq_true rfl) fun _ => ?_
  refine go_in ?_
  unfold m_lanemake_Stream_Range at h
  refine go hΓ 13 rfl ?_
  refine j_cond rfl (fun hb => ?_) (fun hb => ?_)
  · have h1 := cT h hb
    refine go hΓ 8 rfl ?_
    obtain rfl := Option.some.inj h1
    exact fin_objs hΓ [] (.inr rfl) rfl rfl rfl rfl (.inl rfl)
  · have h2 := cF h hb
    obtain ⟨y3, hy3, h4⟩ := bi_ok h2
    refine go hΓ 10 rfl ?_
    refine eo_callF [0] (I y3.1) [.box 25 [.d (Sl (eN .i64) y3.2.L), I y3.2.v_at]] (callable Tryz.func24 rfl rfl) (c_lanemake_Stream_Next hy3) rfl (Nat.le_of_ble_eq_true rfl) rfl rfl rfl rfl rfl rfl rfl rfl rfl rfl ?_
    refine go_ops hΓ 5 rfl ?_
    obtain rfl := Option.some.inj h4
    exact fin_objs hΓ [] (.inr rfl) rfl rfl rfl rfl (.inl rfl)
set_option maxHeartbeats 8000000 in
theorem c_lanemake_Stream_Addr {s : T_lanemake_Stream} {r : T_api_Addr × T_lanemake_Stream} (h : m_lanemake_Stream_Addr s = some r) : EC Tryz.prog 9 [.ptr 0 0] [.box 25 [.d (Sl (eN .i64) s.L), I s.v_at]] fun g hp' => g = .agg [B r.1.Six, U r.1.Hi, U r.1.Lo] ∧ hp' = [.box 25 [.d (Sl (eN .i64) r.2.L), I r.2.v_at]] := by
  refine ec_enter (Fr.of 0 _) Tryz.func9 rfl (Fr.of_ok _) (Nat.le_of_ble_eq_true rfl) fun _ => ?_
  refine go_in ?_
  unfold m_lanemake_Stream_Addr at h
  refine go hΓ 2 rfl ?_
  refine eo_alloc hΓ rfl rfl rfl (Nat.le_of_ble_eq_true rfl) ?_
  obtain ⟨y1, hy1, h2⟩ := bi_ok h
  refine go_ops hΓ 6 rfl ?_
  refine eo_callF [0] (I y1.1) [.box 25 [.d (Sl (eN .i64) y1.2.L), I y1.2.v_at], .box 28 [B false, U 0, U 0]] (callable Tryz.func24 rfl rfl) (c_lanemake_Stream_Next hy1) rfl (Nat.le_of_ble_eq_true rfl) rfl rfl rfl rfl rfl rfl rfl rfl rfl rfl ?_
  refine go_ops hΓ 9 rfl ?_
  refine j_cond rfl (fun hb => ?_) (fun hb => ?_)
  · have h3 := cT h2 hb
    refine go hΓ 1 rfl ?_
    refine j_drawE [] [] [2, 7, 11] [] hmix (by kernel_rfl) (by kernel_rfl) trivial (Nat.le_of_ble_eq_true rfl) ?_
    refine ge_litT hΓ (enc := (eN .u64)) [0, 18230571291595767808, 2306139568115548160, 9223372036854775808, 18446744073709551615] rfl rfl rfl rfl rfl rfl rfl rfl rfl rfl rfl rfl ?_
    obtain ⟨y4, hy4, h5⟩ := bi_ok h3
    refine go_E hΓ 1 rfl ?_
    refine ge_h [.box 25 [.d (Sl (eN .i64) y4.2.L), I y4.2.v_at], .box 28 [B false, U 0, U 0]] rfl rfl rfl (st_st trivial) (qte_callF [0] (I y4.1) [.box 25 [.d (Sl (eN .i64) y4.2.L), I y4.2.v_at], .box 28 [B false, U 0, U 0]] (callable Tryz.func24 rfl rfl) (c_lanemake_Stream_Next hy4) rfl rfl rfl rfl rfl rfl rfl rfl rfl rfl) ?_
    obtain ⟨x6, hx6, h7⟩ := bi_ok h5
    refine ge_q rfl (.inl rfl) (fun _ _ => qte_of_qt (qt_p (op_elemZ hΓ (enc := (eN .u64)) hx6 rfl rfl rfl rfl rfl (fun _ => rfl)))) ?_
    refine go_E hΓ 1 rfl ?_
    refine ge_litT hΓ (enc := (eN .u64)) [0, 1, 2, 4294967296, 18446744073709551615] rfl rfl rfl rfl rfl rfl rfl rfl rfl rfl rfl rfl ?_
    obtain ⟨y8, hy8, h9⟩ := bi_ok h7
    refine go_E hΓ 1 rfl ?_
    refine ge_h [.box 25 [.d (Sl (eN .i64) y8.2.L), I y8.2.v_at], .box 28 [B false, U 0, U 0]] rfl rfl rfl (st_st trivial) (qte_callF [0] (I y8.1) [.box 25 [.d (Sl (eN .i64) y8.2.L), I y8.2.v_at], .box 28 [B false, U 0, U 0]] (callable Tryz.func24 rfl rfl) (c_lanemake_Stream_Next hy8) rfl rfl rfl rfl rfl rfl rfl rfl rfl rfl) ?_
    obtain ⟨x10, hx10, h11⟩ := bi_ok h9
    refine ge_q rfl (.inl rfl) (fun _ _ => qte_of_qt (qt_p (op_elemZ hΓ (enc := (eN .u64)) hx10 rfl rfl rfl rfl rfl (fun _ => rfl)))) ?_
    refine go_E hΓ 1 rfl ?_
    refine ge_q rfl (.inl rfl) (fun _ _ => qte_of_qt (qt_p (op_build hΓ (gs := [B true, U x6, U x10]) rfl rfl rfl rfl rfl rfl))) ?_
    refine ge_h0 [.box 25 [.d (Sl (eN .i64) y8.2.L), I y8.2.v_at], .box 28 [B true, U x6, U x10]] rfl rfl (st_st trivial) (qte_u (opu_store2 hΓ rfl rfl rfl rfl rfl rfl rfl rfl rfl)) ?_
    refine ge_fin ?_
    refine go hΓ 4 rfl ?_
    obtain rfl := Option.some.inj h11
    exact fin_objs hΓ [_] (.inr rfl) rfl rfl rfl rfl (.inr ⟨HB.mk rfl, rfl⟩)
  · have h12 := cF h2 hb
    refine go hΓ 6 rfl ?_
    refine j_cond rfl (fun hb => ?_) (fun hb => ?_)
    · have h13 := cT h12 hb
      refine go hΓ 2 rfl ?_
      refine eo_litT hΓ (enc := (eN .u64)) [0, 1, 4294967295, 2130706433, 3232235521] rfl rfl rfl rfl rfl rfl rfl rfl rfl rfl rfl rfl (Nat.le_of_ble_eq_true rfl) ?_
      obtain ⟨y14, hy14, h15⟩ := bi_ok h13
      refine go_ops hΓ 1 rfl ?_
      refine eo_callF [0] (I y14.1) [.box 25 [.d (Sl (eN .i64) y14.2.L), I y14.2.v_at], .box 28 [B false, U 0, U 0]] (callable Tryz.func24 rfl rfl) (c_lanemake_Stream_Next hy14) rfl (Nat.le_of_ble_eq_true rfl) rfl rfl rfl rfl rfl rfl rfl rfl rfl rfl ?_
      obtain ⟨x16, hx16, h17⟩ := bi_ok h15
      refine eo_o rfl (op_elemZ hΓ (enc := (eN .u64)) hx16 rfl rfl rfl rfl rfl (fun _ => rfl)) ?_
      refine go_ops hΓ 1 rfl ?_
      refine eo_build hΓ (gs := [B false, U 0, U x16]) rfl rfl rfl rfl rfl rfl rfl ?_
      refine eo_store hΓ rfl rfl rfl rfl rfl rfl rfl rfl (Nat.le_of_ble_eq_true rfl) ?_
      refine eo_hp [.box 25 [.d (Sl (eN .i64) y14.2.L), I y14.2.v_at], .box 28 [B false, U 0, U x16]] rfl ?_
      refine go_ops hΓ 5 rfl ?_
      obtain rfl := Option.some.inj h17
      exact fin_objs hΓ [_] (.inr rfl) rfl rfl rfl rfl (.inr ⟨HB.mk rfl, rfl⟩)
    · have h18 := cF h12 hb
      refine go hΓ 6 rfl ?_
      refine j_cond rfl (fun hb => ?_) (fun hb => ?_)
      · have h19 := cT h18 hb
        obtain ⟨y20, hy20, h21⟩ := bi_ok h19
        refine go hΓ 3 rfl ?_
        refine eo_callF [0] (I y20.1) [.box 25 [.d (Sl (eN .i64) y20.2.L), I y20.2.v_at], .box 28 [B false, U 0, U 0]] (callable Tryz.func28 rfl rfl) (c_lanemake_Stream_Range hy20) rfl (Nat.le_of_ble_eq_true rfl) rfl rfl rfl rfl rfl rfl rfl rfl rfl rfl ?_
        obtain ⟨y22, hy22, h23⟩ := bi_ok h21
        refine go_ops hΓ 2 rfl ?_
        refine eo_o rfl (op_remZ hy22 rfl rfl) ?_
        refine eo_build hΓ (gs := [B false, U 0, U y22]) rfl rfl rfl rfl rfl rfl rfl ?_
        refine eo_store hΓ rfl rfl rfl rfl rfl rfl rfl rfl (Nat.le_of_ble_eq_true rfl) ?_
        refine eo_hp [.box 25 [.d (Sl (eN .i64) y20.2.L), I y20.2.v_at], .box 28 [B false, U 0, U y22]] rfl ?_
        refine go_ops hΓ 5 rfl ?_
        obtain rfl := Option.some.inj h23
        exact fin_objs hΓ [_] (.inr rfl) rfl rfl rfl rfl (.inr ⟨HB.mk rfl, rfl⟩)
      · have h24 := cF h18 hb
        obtain ⟨y25, hy25, h26⟩ := bi_ok h24
        refine go hΓ 6 rfl ?_
        refine eo_callF [0] (I y25.1) [.box 25 [.d (Sl (eN .i64) y25.2.L), I y25.2.v_at], .box 28 [B false, U 0, U 0]] (callable Tryz.func28 rfl rfl) (c_lanemake_Stream_Range hy25) rfl (Nat.le_of_ble_eq_true rfl) rfl rfl rfl rfl rfl rfl rfl rfl rfl rfl ?_
        refine go_ops hΓ 2 rfl ?_
        refine eo_build hΓ (gs := [B false, U 0, U (IntKind.u64.wrap (167772160 + (IntKind.u64.wrap (y25.1))))]) rfl rfl rfl rfl rfl rfl rfl ?_
        refine eo_store hΓ rfl rfl rfl rfl rfl rfl rfl rfl (Nat.le_of_ble_eq_true rfl) ?_
        refine eo_hp [.box 25 [.d (Sl (eN .i64) y25.2.L), I y25.2.v_at], .box 28 [B false, U 0, U (IntKind.u64.wrap (167772160 + (IntKind.u64.wrap (y25.1))))]] rfl ?_
        refine go_ops hΓ 3 rfl ?_
        obtain rfl := Option.some.inj h26
        exact fin_objs hΓ [_] (.inr rfl) rfl rfl rfl rfl (.inr ⟨HB.mk rfl, rfl⟩)
theorem c_lanemake_Stream_Raw {s : T_lanemake_Stream} {r : T_api_Addr × T_lanemake_Stream} (h : m_lanemake_Stream_Raw s = some r) : EC Tryz.prog 5 [.ptr 0 0] [.box 25 [.d (Sl (eN .i64) s.L), I s.v_at]] fun g hp' => g = .agg [B r.1.Six, U r.1.Hi, U r.1.Lo] ∧ hp' = [.box 25 [.d (Sl (eN .i64) r.2.L), I r.2.v_at]] := by
  refine ec_enter (Fr.of 0 _) Tryz.func5 rfl (Fr.of_ok _) (Nat.le_of_ble_eq_true rfl) fun _ => ?_
  refine go_in ?_
  unfold m_lanemake_Stream_Raw at h
  refine go hΓ 2 rfl ?_
  refine eo_alloc hΓ rfl rfl rfl (Nat.le_of_ble_eq_true rfl) ?_
  obtain ⟨y1, hy1, h2⟩ := bi_ok h
  refine go_ops hΓ 5 rfl ?_
  refine eo_callF [0] (.agg [B y1.1.Six, U y1.1.Hi, U y1.1.Lo]) [.box 25 [.d (Sl (eN .i64) y1.2.L), I y1.2.v_at], .box 28 [B false, U 0, U 0]] (callable Tryz.func9 rfl rfl) (c_lanemake_Stream_Addr hy1) rfl (Nat.le_of_ble_eq_true rfl) rfl rfl rfl rfl rfl rfl rfl rfl rfl rfl ?_
  refine eo_alloc hΓ rfl rfl rfl (Nat.le_of_ble_eq_true rfl) ?_
  refine eo_store hΓ rfl rfl rfl rfl rfl rfl rfl rfl (Nat.le_of_ble_eq_true rfl) ?_
  refine eo_hp [.box 25 [.d (Sl (eN .i64) y1.2.L), I y1.2.v_at], .box 28 [B false, U 0, U 0], .box 28 [B y1.1.Six, U y1.1.Hi, U y1.1.Lo]] rfl ?_
  obtain ⟨y3, hy3, h4⟩ := bi_ok h2
  refine go_ops hΓ 6 rfl ?_
  refine eo_callF [0] (B y3.1) [.box 25 [.d (Sl (eN .i64) y3.2.L), I y3.2.v_at], .box 28 [B false, U 0, U 0], .box 28 [B y1.1.Six, U y1.1.Hi, U y1.1.Lo]] (callable Tryz.func10 rfl rfl) (c_lanemake_Stream_Flip hy3) rfl (Nat.le_of_ble_eq_true rfl) rfl rfl rfl rfl rfl rfl rfl rfl rfl rfl ?_
  refine go_ops hΓ 2 rfl ?_
  refine j_cond rfl (fun hb => ?_) (fun hb => ?_)
  · have h5 := cT h4 hb
    obtain ⟨y6, hy6, h7⟩ := bi_ok h5
    refine go hΓ 3 rfl ?_
    refine eo_callF [0] (I y6.1) [.box 25 [.d (Sl (eN .i64) y6.2.L), I y6.2.v_at], .box 28 [B false, U 0, U 0], .box 28 [B y1.1.Six, U y1.1.Hi, U y1.1.Lo]] (callable Tryz.func24 rfl rfl) (c_lanemake_Stream_Next hy6) rfl (Nat.le_of_ble_eq_true rfl) rfl rfl rfl rfl rfl rfl rfl rfl rfl rfl ?_
    refine go_ops hΓ 1 rfl ?_
    refine eo_litT hΓ (enc := (eN .u64)) [4294967296, 5, 1099511627776] rfl rfl rfl rfl rfl rfl rfl rfl rfl rfl rfl rfl (Nat.le_of_ble_eq_true rfl) ?_
    obtain ⟨y8, hy8, h9⟩ := bi_ok h7
    refine go_ops hΓ 1 rfl ?_
    refine eo_callF [0] (I y8.1) [.box 25 [.d (Sl (eN .i64) y8.2.L), I y8.2.v_at], .box 28 [B false, U 0, U 0], .box 28 [B y1.1.Six, U y1.1.Hi, U y1.1.Lo]] (callable Tryz.func24 rfl rfl) (c_lanemake_Stream_Next hy8) rfl (Nat.le_of_ble_eq_true rfl) rfl rfl rfl rfl rfl rfl rfl rfl rfl rfl ?_
    obtain ⟨x10, hx10, h11⟩ := bi_ok h9
    refine eo_o rfl (op_elemZ hΓ (enc := (eN .u64)) hx10 rfl rfl rfl rfl rfl (fun _ => rfl)) ?_
    refine go_ops hΓ 1 rfl ?_
    refine eo_build hΓ (gs := [B false, U (IntKind.u64.wrap (y6.1)), U x10]) rfl rfl rfl rfl rfl rfl rfl ?_
    refine eo_store hΓ rfl rfl rfl rfl rfl rfl rfl rfl (Nat.le_of_ble_eq_true rfl) ?_
    refine eo_hp [.box 25 [.d (Sl (eN .i64) y8.2.L), I y8.2.v_at], .box 28 [B false, U (IntKind.u64.wrap (y6.1)), U x10], .box 28 [B y1.1.Six, U y1.1.Hi, U y1.1.Lo]] rfl ?_
    refine go_ops hΓ 4 rfl ?_
    obtain rfl := Option.some.inj h11
    exact fin_objs hΓ [_, _] (.inr rfl) rfl rfl rfl rfl (.inr ⟨HB.mk rfl, rfl⟩)
  · have h12 := cF h4 hb
    refine go hΓ 5 rfl ?_
    refine eo_store hΓ rfl rfl rfl rfl rfl rfl rfl rfl (Nat.le_of_ble_eq_true rfl) ?_
    refine eo_hp [.box 25 [.d (Sl (eN .i64) y3.2.L), I y3.2.v_at], .box 28 [B y1.1.Six, U y1.1.Hi, U y1.1.Lo], .box 28 [B y1.1.Six, U y1.1.Hi, U y1.1.Lo]] rfl ?_
    refine go_ops hΓ 3 rfl ?_
    obtain rfl := Option.some.inj h12
    exact fin_objs hΓ [_, _] (.inr rfl) rfl rfl rfl rfl (.inr ⟨HB.mk rfl, rfl⟩)
theorem c_slices_Clone_api_Prefix_api_Prefix {s : List T_api_Prefix} {r : List T_api_Prefix} (h : m_slices_Clone_api_Prefix_api_Prefix s = some r) : EC Tryz.prog 41 [.d (Sl e_api_Prefix s)] [] fun g hp' => g = .sl 0 r.length ∧ hp' = [.row 87 4 r.length (r.flatMap e_api_Prefix)] := by
  refine ec_enterC (Fr.of 0 _) Tryz.func41 rfl (Fr.of_ok _) (Nat.le_of_ble_eq_true rfl) fun _ => ?_
  refine go_in ?_
  unfold m_slices_Clone_api_Prefix_api_Prefix at h
  refine go hΓ 2 rfl ?_
  refine eo_nilOwn (t := 0) 87 4 rfl (Nat.le_of_ble_eq_true rfl) ?_
  refine go_ops hΓ 6 rfl ?_
  refine eo_isNil hΓ rfl rfl rfl rfl rfl fun b hbn => ?_
  rcases b with _ | _
  · refine go_ops hΓ 7 rfl ?_
    refine eo_litRowT hΓ (enc := e_api_Prefix) ([] : List T_api_Prefix) rfl rfl rfl rfl rfl rfl rfl rfl rfl rfl rfl rfl (Nat.le_of_ble_eq_true rfl) ?_
    obtain ⟨y1, hy1, h2⟩ := bi_ok h
    refine go_ops hΓ 1 rfl ?_
    refine eo_appendT hΓ (enc := e_api_Prefix) hy1 rfl rfl rfl rfl rfl rfl rfl rfl rfl (fun _ => rfl) rfl rfl rfl rfl ?_
    refine go_ops hΓ 3 rfl ?_
    refine j_kill 0 [.dead, .row 87 4 y1.length (y1.flatMap e_api_Prefix)] rfl (Nat.le_of_ble_eq_true rfl) ?_
    refine j_move 1 0 [.row 87 4 y1.length (y1.flatMap e_api_Prefix), .dead] rfl rfl rfl rfl rfl rfl ?_
    refine go hΓ 1 rfl ?_
    refine cv_here ?_
    obtain rfl := Option.some.inj h2
    exact fin_objs hΓ [_] (.inr rfl) rfl rfl rfl rfl (.inr ⟨HB.mk rfl, rfl⟩)
  · obtain rfl := List.eq_nil_of_length_eq_zero (hbn rfl).1
    replace h : (some ([] : List T_api_Prefix) : Option (List T_api_Prefix)) = some r := h
    refine go_ops hΓ 5 rfl ?_
    refine eo_nilOwn (t := 0) 87 4 rfl (Nat.le_of_ble_eq_true rfl) ?_
    refine go_ops hΓ 4 rfl ?_
    refine cv_kill 0 [.dead, .row 87 4 ([] : List T_api_Prefix).length (([] : List T_api_Prefix).flatMap e_api_Prefix)] rfl (Nat.le_of_ble_eq_true rfl) ?_
    refine cv_move 1 0 [.row 87 4 ([] : List T_api_Prefix).length (([] : List T_api_Prefix).flatMap e_api_Prefix), .dead] rfl rfl rfl rfl rfl rfl ?_
    refine cv_here ?_
    obtain rfl := Option.some.inj h
    exact fin_objs hΓ [_] (.inr rfl) rfl rfl rfl rfl (.inr ⟨HB.mk rfl, rfl⟩)
theorem c_laneref2_of {k : Nat} {a : T_api_Addr} {r : (Int × Int × Int × Int × Int × Int × Int × Int × Int)} (h : m_laneref2_of k a = some r) : Pure Tryz.prog 180 [.agg [B a.Six, U a.Hi, U a.Lo]] (.agg [I r.1, I r.2.1, I r.2.2.1, I r.2.2.2.1, I r.2.2.2.2.1, I r.2.2.2.2.2.1, I r.2.2.2.2.2.2.1, I r.2.2.2.2.2.2.2.1, I r.2.2.2.2.2.2.2.2]) := by
  refine Pure.enter (Fr.of 0 _) Tryz.func180 rfl (Fr.of_ok _) rfl rfl ?_
  refine go_in ?_
  unfold m_laneref2_of at h
  refine go hΓ 2 rfl ?_
  refine eo_box rfl rfl rfl rfl (Nat.le_of_ble_eq_true rfl) ?_
  refine eo_alloc hΓ rfl rfl rfl (Nat.le_of_ble_eq_true rfl) ?_
  refine go_ops hΓ 4 rfl ?_
  refine eo_alloc hΓ rfl rfl rfl (Nat.le_of_ble_eq_true rfl) ?_
  refine go_ops hΓ 8 rfl ?_
  obtain ⟨q4, hq4, h5⟩ := bi_ok h
  refine j_cutNZ [(1, .ptr 0 0), (2, .ptr 1 0), (3, .ptr 2 0)] [.box 28 [B a.Six, U a.Hi, U a.Lo], .box 166 [I 0, I 0, I 0, I 0, I 0, I 0, I 0, I 0, I 0], .box 166 [I q4.1, I q4.2.1, I q4.2.2.1, I q4.2.2.2.1, I q4.2.2.2.2.1, I q4.2.2.2.2.2.1, I q4.2.2.2.2.2.2.1, I q4.2.2.2.2.2.2.2.1, I q4.2.2.2.2.2.2.2.2]] ?_ ?_
  · refine go hΓ 1 rfl ?_
    refine j_loop hq4 (fun s2 => [(1, .ptr 0 0), (2, .ptr 1 0), (3, .ptr 2 0), (5, I s2.2.2.2.2.2.2.2.2.2)]) (fun s2 => [.box 28 [B a.Six, U a.Hi, U a.Lo], .box 166 [I 0, I 0, I 0, I 0, I 0, I 0, I 0, I 0, I 0], .box 166 [I s2.1, I s2.2.1, I s2.2.2.1, I s2.2.2.2.1, I s2.2.2.2.2.1, I s2.2.2.2.2.2.1, I s2.2.2.2.2.2.2.1, I s2.2.2.2.2.2.2.2.1, I s2.2.2.2.2.2.2.2.2.1]]) ⟨⟨rfl, rfl, rfl, rfl, trivial⟩, [], rfl, .inl rfl⟩ (fun s2 y10 hy8 hout9 => ?_)
    refine go hΓ 6 rfl ?_
    refine j_cond rfl (fun hb => ?_) (fun hb => ?_)
    · have h11 := cT hy8 hb
      obtain ⟨y12, hy12, h13⟩ := bi_ok h11
      refine go hΓ 17 rfl ?_
      refine eo_o rfl (op_shrZ hy12 rfl rfl) ?_
      obtain ⟨x14, hx14, h15⟩ := bi_ok h13
      refine go_ops hΓ 2 rfl ?_
      refine eo_o rfl (op_elemArr hΓ hx14 rfl rfl rfl rfl rfl rfl) ?_
      refine eo_u (Nat.le_of_ble_eq_true rfl) (opu_setArr hΓ (l := ([s2.1, s2.2.1, s2.2.2.1, s2.2.2.2.1, s2.2.2.2.2.1, s2.2.2.2.2.2.1, s2.2.2.2.2.2.2.1, s2.2.2.2.2.2.2.2.1, s2.2.2.2.2.2.2.2.2.1] : List Int)) (v := (wi (bitsV .and .u64 y12 65535))) (f := fun z => .d (.v (.int .i64 z))) hx14 rfl rfl rfl rfl rfl rfl rfl rfl rfl rfl) ?_
      refine eo_hp [.box 28 [B a.Six, U a.Hi, U a.Lo], .box 166 [I 0, I 0, I 0, I 0, I 0, I 0, I 0, I 0, I 0], .box 166 [I (updA s2.2.2.2.2.2.2.2.2.2 0 (wi (bitsV .and .u64 y12 65535)) s2.1), I (updA s2.2.2.2.2.2.2.2.2.2 1 (wi (bitsV .and .u64 y12 65535)) s2.2.1), I (updA s2.2.2.2.2.2.2.2.2.2 2 (wi (bitsV .and .u64 y12 65535)) s2.2.2.1), I (updA s2.2.2.2.2.2.2.2.2.2 3 (wi (bitsV .and .u64 y12 65535)) s2.2.2.2.1), I (updA s2.2.2.2.2.2.2.2.2.2 4 (wi (bitsV .and .u64 y12 65535)) s2.2.2.2.2.1), I (updA s2.2.2.2.2.2.2.2.2.2 5 (wi (bitsV .and .u64 y12 65535)) s2.2.2.2.2.2.1), I (updA s2.2.2.2.2.2.2.2.2.2 6 (wi (bitsV .and .u64 y12 65535)) s2.2.2.2.2.2.2.1), I (updA s2.2.2.2.2.2.2.2.2.2 7 (wi (bitsV .and .u64 y12 65535)) s2.2.2.2.2.2.2.2.1), I (updA s2.2.2.2.2.2.2.2.2.2 8 (wi (bitsV .and .u64 y12 65535)) s2.2.2.2.2.2.2.2.2.1)]] rfl ?_
      obtain ⟨y16, hy16, h17⟩ := bi_ok h15
      refine go_ops hΓ 9 rfl ?_
      refine eo_o rfl (op_shrZ hy16 rfl rfl) ?_
      obtain ⟨x18, hx18, h19⟩ := bi_ok h17
      refine go_ops hΓ 2 rfl ?_
      refine eo_o rfl (op_elemArr hΓ hx18 rfl rfl rfl rfl rfl rfl) ?_
      refine eo_u (Nat.le_of_ble_eq_true rfl) (opu_setArr hΓ (l := ([updA s2.2.2.2.2.2.2.2.2.2 0 (wi (bitsV .and .u64 y12 65535)) s2.1, updA s2.2.2.2.2.2.2.2.2.2 1 (wi (bitsV .and .u64 y12 65535)) s2.2.1, updA s2.2.2.2.2.2.2.2.2.2 2 (wi (bitsV .and .u64 y12 65535)) s2.2.2.1, updA s2.2.2.2.2.2.2.2.2.2 3 (wi (bitsV .and .u64 y12 65535)) s2.2.2.2.1, updA s2.2.2.2.2.2.2.2.2.2 4 (wi (bitsV .and .u64 y12 65535)) s2.2.2.2.2.1, updA s2.2.2.2.2.2.2.2.2.2 5 (wi (bitsV .and .u64 y12 65535)) s2.2.2.2.2.2.1, updA s2.2.2.2.2.2.2.2.2.2 6 (wi (bitsV .and .u64 y12 65535)) s2.2.2.2.2.2.2.1, updA s2.2.2.2.2.2.2.2.2.2 7 (wi (bitsV .and .u64 y12 65535)) s2.2.2.2.2.2.2.2.1, updA s2.2.2.2.2.2.2.2.2.2 8 (wi (bitsV .and .u64 y12 65535)) s2.2.2.2.2.2.2.2.2.1] : List Int)) (v := (wi (bitsV .and .u64 y16 65535))) (f := fun z => .d (.v (.int .i64 z))) hx18 rfl rfl rfl rfl rfl rfl rfl rfl rfl rfl) ?_
      refine eo_hp [.box 28 [B a.Six, U a.Hi, U a.Lo], .box 166 [I 0, I 0, I 0, I 0, I 0, I 0, I 0, I 0, I 0], .box 166 [I (updA (wi (4 + s2.2.2.2.2.2.2.2.2.2)) 0 (wi (bitsV .and .u64 y16 65535)) (updA s2.2.2.2.2.2.2.2.2.2 0 (wi (bitsV .and .u64 y12 65535)) s2.1)), I (updA (wi (4 + s2.2.2.2.2.2.2.2.2.2)) 1 (wi (bitsV .and .u64 y16 65535)) (updA s2.2.2.2.2.2.2.2.2.2 1 (wi (bitsV .and .u64 y12 65535)) s2.2.1)), I (updA (wi (4 + s2.2.2.2.2.2.2.2.2.2)) 2 (wi (bitsV .and .u64 y16 65535)) (updA s2.2.2.2.2.2.2.2.2.2 2 (wi (bitsV .and .u64 y12 65535)) s2.2.2.1)), I (updA (wi (4 + s2.2.2.2.2.2.2.2.2.2)) 3 (wi (bitsV .and .u64 y16 65535)) (updA s2.2.2.2.2.2.2.2.2.2 3 (wi (bitsV .and .u64 y12 65535)) s2.2.2.2.1)), I (updA (wi (4 + s2.2.2.2.2.2.2.2.2.2)) 4 (wi (bitsV .and .u64 y16 65535)) (updA s2.2.2.2.2.2.2.2.2.2 4 (wi (bitsV .and .u64 y12 65535)) s2.2.2.2.2.1)), I (updA (wi (4 + s2.2.2.2.2.2.2.2.2.2)) 5 (wi (bitsV .and .u64 y16 65535)) (updA s2.2.2.2.2.2.2.2.2.2 5 (wi (bitsV .and .u64 y12 65535)) s2.2.2.2.2.2.1)), I (updA (wi (4 + s2.2.2.2.2.2.2.2.2.2)) 6 (wi (bitsV .and .u64 y16 65535)) (updA s2.2.2.2.2.2.2.2.2.2 6 (wi (bitsV .and .u64 y12 65535)) s2.2.2.2.2.2.2.1)), I (updA (wi (4 + s2.2.2.2.2.2.2.2.2.2)) 7 (wi (bitsV .and .u64 y16 65535)) (updA s2.2.2.2.2.2.2.2.2.2 7 (wi (bitsV .and .u64 y12 65535)) s2.2.2.2.2.2.2.2.1)), I (updA (wi (4 + s2.2.2.2.2.2.2.2.2.2)) 8 (wi (bitsV .and .u64 y16 65535)) (updA s2.2.2.2.2.2.2.2.2.2 8 (wi (bitsV .and .u64 y12 65535)) s2.2.2.2.2.2.2.2.2.1))]] rfl ?_
      refine go_ops hΓ 7 rfl ?_
      obtain rfl := Option.some.inj h19
      exact ⟨_, rfl, ⟨⟨rfl, rfl, rfl, rfl, trivial⟩, [], rfl, .inl rfl⟩⟩
    · have h20 := cF hy8 hb
      refine go hΓ 4 rfl ?_
      obtain rfl := Option.some.inj h20
      obtain rfl := hout9 _ rfl
      exact ⟨⟨rfl, rfl, rfl, trivial⟩, [], rfl, .inl rfl⟩
  · obtain ⟨q21, hq21, h22⟩ := bi_ok h5
    refine go hΓ 8 rfl ?_
    refine j_cutNZ [(2, .ptr 1 0), (3, .ptr 2 0)] [.box 28 [B a.Six, U a.Hi, U a.Lo], .box 166 [I 0, I 0, I 0, I 0, I 0, I 0, I 0, I 0, I 0], .box 166 [I q4.1, I q4.2.1, I q4.2.2.1, I q4.2.2.2.1, I q4.2.2.2.2.1, I q4.2.2.2.2.2.1, I q4.2.2.2.2.2.2.1, I q4.2.2.2.2.2.2.2.1, I q21]] ?_ ?_
    · refine j_cond rfl (fun hb => ?_) (fun hb => ?_)
      · have h23 := cT hq21 hb
        refine go hΓ 1 rfl ?_
        refine eo_o rfl (op_elemArr hΓ (l := List.replicate 9 ()) (z := ()) rfl rfl rfl rfl rfl rfl rfl) ?_
        refine eo_store hΓ rfl rfl rfl rfl rfl rfl rfl rfl (Nat.le_of_ble_eq_true rfl) ?_
        refine eo_hp [.box 28 [B a.Six, U a.Hi, U a.Lo], .box 166 [I 0, I 0, I 0, I 0, I 0, I 0, I 0, I 0, I 0], .box 166 [I q4.1, I q4.2.1, I q4.2.2.1, I q4.2.2.2.1, I q4.2.2.2.2.1, I q4.2.2.2.2.2.1, I q4.2.2.2.2.2.2.1, I q4.2.2.2.2.2.2.2.1, I 1]] rfl ?_
        refine go_ops hΓ 1 rfl ?_
        obtain rfl := Option.some.inj h23
        exact ⟨⟨rfl, rfl, trivial⟩, [], rfl, .inl rfl⟩
      · have h24 := cF hq21 hb
        refine go hΓ 1 rfl ?_
        obtain rfl := Option.some.inj h24
        exact ⟨⟨rfl, rfl, trivial⟩, [], rfl, .inl rfl⟩
    · refine go hΓ 4 rfl ?_
      refine eo_store hΓ rfl rfl rfl rfl rfl rfl rfl rfl (Nat.le_of_ble_eq_true rfl) ?_
      refine eo_hp [.box 28 [B a.Six, U a.Hi, U a.Lo], .box 166 [I q4.1, I q4.2.1, I q4.2.2.1, I q4.2.2.2.1, I q4.2.2.2.2.1, I q4.2.2.2.2.2.1, I q4.2.2.2.2.2.2.1, I q4.2.2.2.2.2.2.2.1, I q21], .box 166 [I q4.1, I q4.2.1, I q4.2.2.1, I q4.2.2.2.1, I q4.2.2.2.2.1, I q4.2.2.2.2.2.1, I q4.2.2.2.2.2.2.1, I q4.2.2.2.2.2.2.2.1, I q21]] rfl ?_
      refine go_ops hΓ 3 rfl ?_
      obtain rfl := Option.some.inj h22
      exact fin_pure hΓ (.inr rfl) rfl rfl
theorem c_laneref2_length {a : T_api_Addr} {r : Int} (h : m_laneref2_length a = some r) : Pure Tryz.prog 181 [.agg [B a.Six, U a.Hi, U a.Lo]] (I r) := by
  refine Pure.enter (Fr.of 0 _) Tryz.func181 rfl (Fr.of_ok _) rfl rfl ?_
  refine go_in ?_
  unfold m_laneref2_length at h
  refine go hΓ 2 rfl ?_
  refine eo_box rfl rfl rfl rfl (Nat.le_of_ble_eq_true rfl) ?_
  refine go_ops hΓ 10 rfl ?_
  refine j_cond rfl (fun hb => ?_) (fun hb => ?_)
  · have h1 := cT h hb
    refine go hΓ 7 rfl ?_
    obtain rfl := Option.some.inj h1
    exact fin_pure hΓ (.inr rfl) rfl rfl
  · have h2 := cF h hb
    refine go hΓ 8 rfl ?_
    obtain rfl := Option.some.inj h2
    exact fin_pure hΓ (.inr rfl) rfl rfl
theorem c_laneref2_firstOf {k : Nat} {a : T_api_Addr} {bits : Int} {r : (Int × Int × Int × Int × Int × Int × Int × Int × Int)} (h : m_laneref2_firstOf k a bits = some r) : Pure Tryz.prog 159 [.agg [B a.Six, U a.Hi, U a.Lo], I bits] (.agg [I r.1, I r.2.1, I r.2.2.1, I r.2.2.2.1, I r.2.2.2.2.1, I r.2.2.2.2.2.1, I r.2.2.2.2.2.2.1, I r.2.2.2.2.2.2.2.1, I r.2.2.2.2.2.2.2.2]) := by
  refine Pure.enter (Fr.of 0 _) Tryz.func159 rfl (Fr.of_ok _) rfl rfl ?_
  refine go_in ?_
  unfold m_laneref2_firstOf at h
  refine go hΓ 2 rfl ?_
  refine eo_box rfl rfl rfl rfl (Nat.le_of_ble_eq_true rfl) ?_
  refine eo_alloc hΓ rfl rfl rfl (Nat.le_of_ble_eq_true rfl) ?_
  obtain ⟨y1, hy1, h2⟩ := bi_ok h
  refine go_ops hΓ 5 rfl ?_
  refine eo_callP (callable Tryz.func180 rfl rfl) (c_laneref2_of hy1) rfl (Nat.le_of_ble_eq_true rfl) rfl rfl rfl rfl rfl ?_
  refine eo_alloc hΓ rfl rfl rfl (Nat.le_of_ble_eq_true rfl) ?_
  refine eo_store hΓ rfl rfl rfl rfl rfl rfl rfl rfl (Nat.le_of_ble_eq_true rfl) ?_
  refine eo_hp [.box 28 [B a.Six, U a.Hi, U a.Lo], .box 166 [I 0, I 0, I 0, I 0, I 0, I 0, I 0, I 0, I 0], .box 166 [I y1.1, I y1.2.1, I y1.2.2.1, I y1.2.2.2.1, I y1.2.2.2.2.1, I y1.2.2.2.2.2.1, I y1.2.2.2.2.2.2.1, I y1.2.2.2.2.2.2.2.1, I y1.2.2.2.2.2.2.2.2]] rfl ?_
  obtain ⟨y3, hy3, h4⟩ := bi_ok h2
  refine go_ops hΓ 6 rfl ?_
  refine eo_callP (callable Tryz.func181 rfl rfl) (c_laneref2_length hy3) rfl (Nat.le_of_ble_eq_true rfl) rfl rfl rfl rfl rfl ?_
  refine go_ops hΓ 5 rfl ?_
  obtain ⟨q8, hq8, h9⟩ := bi_ok h4
  obtain ⟨hb11, h12⟩ := gd_ok hq8
  replace hb11 := of_decide_eq_true hb11
  refine j_cutNZ [(4, .ptr 1 0), (5, .ptr 2 0)] [.box 28 [B a.Six, U a.Hi, U a.Lo], .box 166 [I 0, I 0, I 0, I 0, I 0, I 0, I 0, I 0, I 0], .box 166 [I q8.1, I q8.2.1, I q8.2.2.1, I q8.2.2.2.1, I q8.2.2.2.2.1, I q8.2.2.2.2.2.1, I q8.2.2.2.2.2.2.1, I q8.2.2.2.2.2.2.2.1, I q8.2.2.2.2.2.2.2.2]] ?_ ?_
  · refine go hΓ 1 rfl ?_
    refine j_rangeG h12 (fun i5 s6 => [(4, .ptr 1 0), (5, .ptr 2 0), (12, I (wi (y3 - bits))), (13, I (i5 : Int))]) (fun s6 => [.box 28 [B a.Six, U a.Hi, U a.Lo], .box 166 [I 0, I 0, I 0, I 0, I 0, I 0, I 0, I 0, I 0], .box 166 [I s6.1, I s6.2.1, I s6.2.2.1, I s6.2.2.2.1, I s6.2.2.2.2.1, I s6.2.2.2.2.2.1, I s6.2.2.2.2.2.2.1, I s6.2.2.2.2.2.2.2.1, I s6.2.2.2.2.2.2.2.2]]) ⟨⟨rfl, rfl, rfl, rfl, trivial⟩, [], rfl, .inl rfl⟩ (fun i5 s6 y16 hlt hy14 => ?_) (fun hge => ?_)
    · refine go hΓ 6 rfl ?_
      refine j_condT rfl (decide_eq_true hlt) ?_
      refine go hΓ 10 rfl ?_
      refine j_drawE [.dead, .dead, .box 166 [I s6.1, I s6.2.1, I s6.2.2.1, I s6.2.2.2.1, I s6.2.2.2.2.1, I s6.2.2.2.2.2.1, I s6.2.2.2.2.2.2.1, I s6.2.2.2.2.2.2.2.1, I s6.2.2.2.2.2.2.2.2]] [3] [9] [9] hmix (by kernel_rfl) (by kernel_rfl) ⟨rfl, trivial⟩ (Nat.le_of_ble_eq_true rfl) ?_
      obtain ⟨y17, hy17, h18⟩ := bi_ok hy14
      refine go_E hΓ 1 rfl ?_
      refine ge_q rfl (.inl rfl) (fun _ _ => qte_of_qt (qt_p (op_quoZ hy17 rfl rfl))) ?_
      obtain ⟨x19, hx19, h20⟩ := bi_ok h18
      refine ge_q rfl (.inl rfl) (fun _ _ => qte_of_qt (qt_p (op_elemArr hΓ hx19 rfl rfl rfl rfl rfl rfl))) ?_
      refine ge_p rfl (fun hp hs => op_loadArr hΓ (f := fun z => .d (.v (.int .i64 z))) hx19 rfl rfl rfl rfl (hs 2 _ rfl rfl) rfl) rfl ?_
      obtain ⟨y21, hy21, h22⟩ := bi_ok h20
      refine go_E hΓ 1 rfl ?_
      refine ge_q rfl (.inl rfl) (fun _ _ => qte_of_qt (qt_p (op_remZ hy21 rfl rfl))) ?_
      obtain ⟨y23, hy23, h24⟩ := bi_ok h22
      refine ge_q rfl (.inl rfl) (fun _ _ => qte_of_qt (qt_p (op_shlZ hy23 rfl rfl))) ?_
      obtain ⟨x25, hx25, h26⟩ := bi_ok h24
      refine go_E hΓ 1 rfl ?_
      refine ge_q rfl (.inl rfl) (fun _ _ => qte_of_qt (qt_p (op_elemArr hΓ hx25 rfl rfl rfl rfl rfl rfl))) ?_
      refine ge_h0 [.box 28 [B a.Six, U a.Hi, U a.Lo], .box 166 [I 0, I 0, I 0, I 0, I 0, I 0, I 0, I 0, I 0], .box 166 [I (updA y17 0 (bitsV .andNot .i64 x19 y23) s6.1), I (updA y17 1 (bitsV .andNot .i64 x19 y23) s6.2.1), I (updA y17 2 (bitsV .andNot .i64 x19 y23) s6.2.2.1), I (updA y17 3 (bitsV .andNot .i64 x19 y23) s6.2.2.2.1), I (updA y17 4 (bitsV .andNot .i64 x19 y23) s6.2.2.2.2.1), I (updA y17 5 (bitsV .andNot .i64 x19 y23) s6.2.2.2.2.2.1), I (updA y17 6 (bitsV .andNot .i64 x19 y23) s6.2.2.2.2.2.2.1), I (updA y17 7 (bitsV .andNot .i64 x19 y23) s6.2.2.2.2.2.2.2.1), I (updA y17 8 (bitsV .andNot .i64 x19 y23) s6.2.2.2.2.2.2.2.2)]] rfl rfl (brk_st rfl) (qte_u (opu_setArr hΓ (l := ([s6.1, s6.2.1, s6.2.2.1, s6.2.2.2.1, s6.2.2.2.2.1, s6.2.2.2.2.2.1, s6.2.2.2.2.2.2.1, s6.2.2.2.2.2.2.2.1, s6.2.2.2.2.2.2.2.2] : List Int)) (v := (bitsV .andNot .i64 x19 y23)) (f := fun z => .d (.v (.int .i64 z))) hx25 rfl rfl rfl rfl rfl rfl rfl rfl rfl rfl)) ?_
      refine ge_fin ?_
      refine go hΓ 6 rfl ?_
      obtain rfl := Option.some.inj h26
      exact ⟨⟨rfl, rfl, rfl, get_eq rfl (w64_succ (by omega)), trivial⟩, [], rfl, .inl rfl⟩
    · refine go hΓ 6 rfl ?_
      refine j_condF rfl (decide_eq_false hge) ?_
      refine go hΓ 4 rfl ?_
      exact ⟨⟨rfl, rfl, trivial⟩, [], rfl, .inl rfl⟩
  · refine go hΓ 4 rfl ?_
    refine eo_store hΓ rfl rfl rfl rfl rfl rfl rfl rfl (Nat.le_of_ble_eq_true rfl) ?_
    refine eo_hp [.box 28 [B a.Six, U a.Hi, U a.Lo], .box 166 [I q8.1, I q8.2.1, I q8.2.2.1, I q8.2.2.2.1, I q8.2.2.2.2.1, I q8.2.2.2.2.2.1, I q8.2.2.2.2.2.2.1, I q8.2.2.2.2.2.2.2.1, I q8.2.2.2.2.2.2.2.2], .box 166 [I q8.1, I q8.2.1, I q8.2.2.1, I q8.2.2.2.1, I q8.2.2.2.2.1, I q8.2.2.2.2.2.1, I q8.2.2.2.2.2.2.1, I q8.2.2.2.2.2.2.2.1, I q8.2.2.2.2.2.2.2.2]] rfl ?_
    refine go_ops hΓ 3 rfl ?_
    obtain rfl := Option.some.inj h9
    exact fin_pure hΓ (.inr rfl) rfl rfl
theorem c_laneref2_wide_addr {k : Nat} {w : (Int × Int × Int × Int × Int × Int × Int × Int × Int)} {r : T_api_Addr} (h : m_laneref2_wide_addr k w = some r) : Pure Tryz.prog 160 [.agg [I w.1, I w.2.1, I w.2.2.1, I w.2.2.2.1, I w.2.2.2.2.1, I w.2.2.2.2.2.1, I w.2.2.2.2.2.2.1, I w.2.2.2.2.2.2.2.1, I w.2.2.2.2.2.2.2.2]] (.agg [B r.Six, U r.Hi, U r.Lo]) := by
  refine Pure.enter (Fr.of 0 _) Tryz.func160 rfl (Fr.of_ok _) rfl rfl ?_
  refine go_in ?_
  unfold m_laneref2_wide_addr at h
  refine go hΓ 2 rfl ?_
  refine eo_box rfl rfl rfl rfl (Nat.le_of_ble_eq_true rfl) ?_
  refine eo_alloc hΓ rfl rfl rfl (Nat.le_of_ble_eq_true rfl) ?_
  refine go_ops hΓ 4 rfl ?_
  refine eo_alloc hΓ rfl rfl rfl (Nat.le_of_ble_eq_true rfl) ?_
  refine go_ops hΓ 8 rfl ?_
  obtain ⟨q4, hq4, h5⟩ := bi_ok h
  refine j_cutNZ [(1, .ptr 0 0), (2, .ptr 1 0), (3, .ptr 2 0)] [.box 166 [I w.1, I w.2.1, I w.2.2.1, I w.2.2.2.1, I w.2.2.2.2.1, I w.2.2.2.2.2.1, I w.2.2.2.2.2.2.1, I w.2.2.2.2.2.2.2.1, I w.2.2.2.2.2.2.2.2], .box 28 [B false, U 0, U 0], .box 28 [B q4.Six, U q4.Hi, U q4.Lo]] ?_ ?_
  · refine go hΓ 1 rfl ?_
    refine j_loop hq4 (fun s2 => [(1, .ptr 0 0), (2, .ptr 1 0), (3, .ptr 2 0), (5, I s2.2)]) (fun s2 => [.box 166 [I w.1, I w.2.1, I w.2.2.1, I w.2.2.2.1, I w.2.2.2.2.1, I w.2.2.2.2.2.1, I w.2.2.2.2.2.2.1, I w.2.2.2.2.2.2.2.1, I w.2.2.2.2.2.2.2.2], .box 28 [B false, U 0, U 0], .box 28 [B s2.1.Six, U s2.1.Hi, U s2.1.Lo]]) ⟨⟨rfl, rfl, rfl, rfl, trivial⟩, [], rfl, .inl rfl⟩ (fun s2 y10 hy8 hout9 => ?_)
    refine go hΓ 6 rfl ?_
    refine j_cond rfl (fun hb => ?_) (fun hb => ?_)
    · have h11 := cT hy8 hb
      refine go hΓ 11 rfl ?_
      refine j_drawE [.box 166 [I w.1, I w.2.1, I w.2.2.1, I w.2.2.2.1, I w.2.2.2.2.1, I w.2.2.2.2.2.1, I w.2.2.2.2.2.2.1, I w.2.2.2.2.2.2.2.1, I w.2.2.2.2.2.2.2.2], .dead, .box 28 [B s2.1.Six, U s2.1.Hi, U s2.1.Lo]] [1, 4] [11] [11] hmix (by kernel_rfl) (by kernel_rfl) ⟨rfl, rfl, trivial⟩ (Nat.le_of_ble_eq_true rfl) ?_
      obtain ⟨x12, hx12, h13⟩ := bi_ok h11
      refine go_E hΓ 3 rfl ?_
      refine ge_q rfl (.inl rfl) (fun _ _ => qte_of_qt (qt_p (op_elemArr hΓ hx12 rfl rfl rfl rfl rfl rfl))) ?_
      refine ge_p rfl (fun hp hs => op_loadArr hΓ (f := fun z => .d (.v (.int .i64 z))) hx12 rfl rfl rfl rfl (hs 0 _ rfl rfl) rfl) rfl ?_
      obtain ⟨y14, hy14, h15⟩ := bi_ok h13
      refine go_E hΓ 3 rfl ?_
      refine ge_q rfl (.inl rfl) (fun _ _ => qte_of_qt (qt_p (op_shlZ hy14 rfl rfl))) ?_
      refine go_E hΓ 2 rfl ?_
      refine ge_h0 [.box 166 [I w.1, I w.2.1, I w.2.2.1, I w.2.2.2.1, I w.2.2.2.2.1, I w.2.2.2.2.2.1, I w.2.2.2.2.2.2.1, I w.2.2.2.2.2.2.2.1, I w.2.2.2.2.2.2.2.2], .box 28 [B false, U 0, U 0], .box 28 [B s2.1.Six, U s2.1.Hi, U (bitsV .or .u64 s2.1.Lo y14)]] rfl rfl (brk_st rfl) (qte_u (opu_store2 hΓ rfl rfl rfl rfl rfl rfl rfl rfl rfl)) ?_
      refine ge_fin ?_
      refine go hΓ 1 rfl ?_
      refine j_drawE [.box 166 [I w.1, I w.2.1, I w.2.2.1, I w.2.2.2.1, I w.2.2.2.2.1, I w.2.2.2.2.2.1, I w.2.2.2.2.2.2.1, I w.2.2.2.2.2.2.2.1, I w.2.2.2.2.2.2.2.2], .dead, .box 28 [B s2.1.Six, U s2.1.Hi, U (bitsV .or .u64 s2.1.Lo y14)]] [1, 5] [12] [12] hmix (by kernel_rfl) (by kernel_rfl) ⟨rfl, rfl, trivial⟩ (Nat.le_of_ble_eq_true rfl) ?_
      obtain ⟨x16, hx16, h17⟩ := bi_ok h15
      refine go_E hΓ 4 rfl ?_
      refine ge_q rfl (.inl rfl) (fun _ _ => qte_of_qt (qt_p (op_elemArr hΓ hx16 rfl rfl rfl rfl rfl rfl))) ?_
      refine ge_p rfl (fun hp hs => op_loadArr hΓ (f := fun z => .d (.v (.int .i64 z))) hx16 rfl rfl rfl rfl (hs 0 _ rfl rfl) rfl) rfl ?_
      obtain ⟨y18, hy18, h19⟩ := bi_ok h17
      refine go_E hΓ 3 rfl ?_
      refine ge_q rfl (.inl rfl) (fun _ _ => qte_of_qt (qt_p (op_shlZ hy18 rfl rfl))) ?_
      refine go_E hΓ 2 rfl ?_
      refine ge_h0 [.box 166 [I w.1, I w.2.1, I w.2.2.1, I w.2.2.2.1, I w.2.2.2.2.1, I w.2.2.2.2.2.1, I w.2.2.2.2.2.2.1, I w.2.2.2.2.2.2.2.1, I w.2.2.2.2.2.2.2.2], .box 28 [B false, U 0, U 0], .box 28 [B s2.1.Six, U (bitsV .or .u64 s2.1.Hi y18), U (bitsV .or .u64 s2.1.Lo y14)]] rfl rfl (brk_st rfl) (qte_u (opu_store2 hΓ rfl rfl rfl rfl rfl rfl rfl rfl rfl)) ?_
      refine ge_fin ?_
      refine go hΓ 6 rfl ?_
      obtain rfl := Option.some.inj h19
      exact ⟨_, rfl, ⟨⟨rfl, rfl, rfl, rfl, trivial⟩, [], rfl, .inl rfl⟩⟩
    · have h20 := cF hy8 hb
      refine go hΓ 4 rfl ?_
      obtain rfl := Option.some.inj h20
      obtain rfl := hout9 _ rfl
      exact ⟨⟨rfl, rfl, rfl, trivial⟩, [], rfl, .inl rfl⟩
  · refine go hΓ 3 rfl ?_
    refine eo_o rfl (op_elemArr hΓ (l := List.replicate 9 ()) (z := ()) rfl rfl rfl rfl rfl rfl rfl) ?_
    refine go_ops hΓ 3 rfl ?_
    refine eo_store hΓ rfl rfl rfl rfl rfl rfl rfl rfl (Nat.le_of_ble_eq_true rfl) ?_
    refine eo_hp [.box 166 [I w.1, I w.2.1, I w.2.2.1, I w.2.2.2.1, I w.2.2.2.2.1, I w.2.2.2.2.2.1, I w.2.2.2.2.2.2.1, I w.2.2.2.2.2.2.2.1, I w.2.2.2.2.2.2.2.2], .box 28 [B false, U 0, U 0], .box 28 [B (decide ((w.2.2.2.2.2.2.2.2 : Int) > 0)), U q4.Hi, U q4.Lo]] rfl ?_
    refine go_ops hΓ 5 rfl ?_
    refine eo_store hΓ rfl rfl rfl rfl rfl rfl rfl rfl (Nat.le_of_ble_eq_true rfl) ?_
    refine eo_hp [.box 166 [I w.1, I w.2.1, I w.2.2.1, I w.2.2.2.1, I w.2.2.2.2.1, I w.2.2.2.2.2.1, I w.2.2.2.2.2.2.1, I w.2.2.2.2.2.2.2.1, I w.2.2.2.2.2.2.2.2], .box 28 [B (decide ((w.2.2.2.2.2.2.2.2 : Int) > 0)), U q4.Hi, U q4.Lo], .box 28 [B (decide ((w.2.2.2.2.2.2.2.2 : Int) > 0)), U q4.Hi, U q4.Lo]] rfl ?_
    refine go_ops hΓ 3 rfl ?_
    obtain rfl := Option.some.inj h5
    exact fin_pure hΓ (.inr rfl) rfl rfl
theorem c_laneref2_MaskOf {k : Nat} {a : T_api_Addr} {bits : Int} {r : T_api_Prefix} (h : m_laneref2_MaskOf k a bits = some r) : Pure Tryz.prog 118 [.agg [B a.Six, U a.Hi, U a.Lo], I bits] (.agg [B r.Addr.Six, U r.Addr.Hi, U r.Addr.Lo, I r.Bits]) := by
  refine Pure.enter (Fr.of 0 _) Tryz.func118 rfl (Fr.of_ok _) rfl rfl ?_
  refine go_in ?_
  unfold m_laneref2_MaskOf at h
  refine go hΓ 2 rfl ?_
  refine eo_box rfl rfl rfl rfl (Nat.le_of_ble_eq_true rfl) ?_
  refine eo_alloc hΓ rfl rfl rfl (Nat.le_of_ble_eq_true rfl) ?_
  obtain ⟨y1, hy1, h2⟩ := bi_ok h
  refine go_ops hΓ 6 rfl ?_
  refine eo_callP (callable Tryz.func159 rfl rfl) (c_laneref2_firstOf hy1) rfl (Nat.le_of_ble_eq_true rfl) rfl rfl rfl rfl rfl ?_
  obtain ⟨y3, hy3, h4⟩ := bi_ok h2
  refine eo_callP (callable Tryz.func160 rfl rfl) (c_laneref2_wide_addr hy3) rfl (Nat.le_of_ble_eq_true rfl) rfl rfl rfl rfl rfl ?_
  refine go_ops hΓ 1 rfl ?_
  refine eo_build hΓ (gs := [B y3.Six, U y3.Hi, U y3.Lo, I bits]) rfl rfl rfl rfl rfl rfl rfl ?_
  refine eo_store hΓ rfl rfl rfl rfl rfl rfl rfl rfl (Nat.le_of_ble_eq_true rfl) ?_
  refine eo_hp [.box 28 [B a.Six, U a.Hi, U a.Lo], .box 87 [B y3.Six, U y3.Hi, U y3.Lo, I bits]] rfl ?_
  refine go_ops hΓ 3 rfl ?_
  obtain rfl := Option.some.inj h4
  exact fin_pure hΓ (.inr rfl) rfl rfl
theorem c_lanemake_Stream_RightPrefix {k : Nat} {s : T_lanemake_Stream} {r : T_api_Prefix × T_lanemake_Stream} (h : m_lanemake_Stream_RightPrefix k s = some r) : EC Tryz.prog 73 [.ptr 0 0] [.box 25 [.d (Sl (eN .i64) s.L), I s.v_at]] fun g hp' => g = .agg [B r.1.Addr.Six, U r.1.Addr.Hi, U r.1.Addr.Lo, I r.1.Bits] ∧ hp' = [.box 25 [.d (Sl (eN .i64) r.2.L), I r.2.v_at]] := by
  refine ec_enter (Fr.of 0 _) Tryz.func73 rfl (Fr.of_ok _) (Nat.le_of_ble_eq_true rfl) fun _ => ?_
  refine go_in ?_
  unfold m_lanemake_Stream_RightPrefix at h
  refine go hΓ 2 rfl ?_
  refine eo_alloc hΓ rfl rfl rfl (Nat.le_of_ble_eq_true rfl) ?_
  obtain ⟨y1, hy1, h2⟩ := bi_ok h
  refine go_ops hΓ 5 rfl ?_
  refine eo_callF [0] (.agg [B y1.1.Six, U y1.1.Hi, U y1.1.Lo]) [.box 25 [.d (Sl (eN .i64) y1.2.L), I y1.2.v_at], .box 87 [B false, U 0, U 0, I 0]] (callable Tryz.func9 rfl rfl) (c_lanemake_Stream_Addr hy1) rfl (Nat.le_of_ble_eq_true rfl) rfl rfl rfl rfl rfl rfl rfl rfl rfl rfl ?_
  refine eo_alloc hΓ rfl rfl rfl (Nat.le_of_ble_eq_true rfl) ?_
  refine eo_store hΓ rfl rfl rfl rfl rfl rfl rfl rfl (Nat.le_of_ble_eq_true rfl) ?_
  refine eo_hp [.box 25 [.d (Sl (eN .i64) y1.2.L), I y1.2.v_at], .box 87 [B false, U 0, U 0, I 0], .box 28 [B y1.1.Six, U y1.1.Hi, U y1.1.Lo]] rfl ?_
  refine go_ops hΓ 5 rfl ?_
  refine eo_litT hΓ (enc := (eN .i64)) [0, 8, 24, 27, 28, 29, 30, 31, 32] rfl rfl rfl rfl rfl rfl rfl rfl rfl rfl rfl rfl (Nat.le_of_ble_eq_true rfl) ?_
  obtain ⟨y3, hy3, h4⟩ := bi_ok h2
  refine eo_callF [0] (I y3.1) [.box 25 [.d (Sl (eN .i64) y3.2.L), I y3.2.v_at], .box 87 [B false, U 0, U 0, I 0], .box 28 [B y1.1.Six, U y1.1.Hi, U y1.1.Lo]] (callable Tryz.func17 rfl rfl) (c_lanemake_Stream_Pick hy3) rfl (Nat.le_of_ble_eq_true rfl) rfl rfl rfl rfl rfl rfl rfl rfl rfl rfl ?_
  obtain ⟨q5, hq5, h6⟩ := bi_ok h4
  refine go_ops hΓ 10 rfl ?_
  refine j_cutNZ [(2, .ptr 1 0), (3, .ptr 2 0), (4, I q5.2)] [.box 25 [.d (Sl (eN .i64) q5.1.L), I q5.1.v_at], .box 87 [B false, U 0, U 0, I 0], .box 28 [B y1.1.Six, U y1.1.Hi, U y1.1.Lo]] ?_ ?_
  · refine j_cond rfl (fun hb => ?_) (fun hb => ?_)
    · have h7 := cT hq5 hb
      refine go hΓ 2 rfl ?_
      refine eo_litT hΓ (enc := (eN .i64)) [0, 8, 32, 48, 63, 64, 65, 96, 127, 128] rfl rfl rfl rfl rfl rfl rfl rfl rfl rfl rfl rfl (Nat.le_of_ble_eq_true rfl) ?_
      obtain ⟨y8, hy8, h9⟩ := bi_ok h7
      refine eo_callF [0] (I y8.1) [.box 25 [.d (Sl (eN .i64) y8.2.L), I y8.2.v_at], .box 87 [B false, U 0, U 0, I 0], .box 28 [B y1.1.Six, U y1.1.Hi, U y1.1.Lo]] (callable Tryz.func17 rfl rfl) (c_lanemake_Stream_Pick hy8) rfl (Nat.le_of_ble_eq_true rfl) rfl rfl rfl rfl rfl rfl rfl rfl rfl rfl ?_
      refine go_ops hΓ 2 rfl ?_
      obtain rfl := Option.some.inj h9
      exact ⟨⟨rfl, rfl, rfl, trivial⟩, [], rfl, .inl rfl⟩
    · have h10 := cF hq5 hb
      refine go hΓ 1 rfl ?_
      obtain rfl := Option.some.inj h10
      exact ⟨⟨rfl, rfl, rfl, trivial⟩, [], rfl, .inl rfl⟩
  · obtain ⟨y11, hy11, h12⟩ := bi_ok h6
    refine go hΓ 5 rfl ?_
    refine eo_callP (callable Tryz.func118 rfl rfl) (c_laneref2_MaskOf hy11) rfl (Nat.le_of_ble_eq_true rfl) rfl rfl rfl rfl rfl ?_
    refine eo_store hΓ rfl rfl rfl rfl rfl rfl rfl rfl (Nat.le_of_ble_eq_true rfl) ?_
    refine eo_hp [.box 25 [.d (Sl (eN .i64) q5.1.L), I q5.1.v_at], .box 87 [B y11.Addr.Six, U y11.Addr.Hi, U y11.Addr.Lo, I y11.Bits], .box 28 [B y1.1.Six, U y1.1.Hi, U y1.1.Lo]] rfl ?_
    refine go_ops hΓ 3 rfl ?_
    obtain rfl := Option.some.inj h12
    exact fin_objs hΓ [_, _] (.inr rfl) rfl rfl rfl rfl (.inr ⟨HB.mk rfl, rfl⟩)
theorem c_lanemake_Stream_Odd {s : T_lanemake_Stream} {low : Int} {high : Int} {r : Int × T_lanemake_Stream} (h : m_lanemake_Stream_Odd s low high = some r) : EC Tryz.prog 74 [.ptr 0 0, I low, I high] [.box 25 [.d (Sl (eN .i64) s.L), I s.v_at]] fun g hp' => g = I r.1 ∧ hp' = [.box 25 [.d (Sl (eN .i64) r.2.L), I r.2.v_at]] := by
  refine ec_enter (Fr.of 0 _) Tryz.func74 rfl (Fr.of_ok _) (Nat.le_of_ble_eq_true rfl) fun _ => ?_
  refine go_in ?_
  unfold m_lanemake_Stream_Odd at h
  obtain ⟨y1, hy1, h2⟩ := bi_ok h
  refine go hΓ 9 rfl ?_
  refine eo_callF [0] (B y1.1) [.box 25 [.d (Sl (eN .i64) y1.2.L), I y1.2.v_at]] (callable Tryz.func10 rfl rfl) (c_lanemake_Stream_Flip hy1) rfl (Nat.le_of_ble_eq_true rfl) rfl rfl rfl rfl rfl rfl rfl rfl rfl rfl ?_
  refine go_ops hΓ 2 rfl ?_
  refine j_cond rfl (fun hb => ?_) (fun hb => ?_)
  · have h3 := cT h2 hb
    refine go hΓ 9 rfl ?_
    refine eo_litT hΓ (enc := (eN .i64)) [wi (low - 1), wi (high + 1), low, high, -1099511627776, 1099511627776] rfl rfl rfl rfl rfl rfl rfl rfl rfl rfl rfl rfl (Nat.le_of_ble_eq_true rfl) ?_
    obtain ⟨y4, hy4, h5⟩ := bi_ok h3
    refine eo_callF [0] (I y4.1) [.box 25 [.d (Sl (eN .i64) y4.2.L), I y4.2.v_at]] (callable Tryz.func17 rfl rfl) (c_lanemake_Stream_Pick hy4) rfl (Nat.le_of_ble_eq_true rfl) rfl rfl rfl rfl rfl rfl rfl rfl rfl rfl ?_
    refine go_ops hΓ 5 rfl ?_
    obtain rfl := Option.some.inj h5
    exact fin_objs hΓ [] (.inr rfl) rfl rfl rfl rfl (.inl rfl)
  · have h6 := cF h2 hb
    obtain ⟨y7, hy7, h8⟩ := bi_ok h6
    refine go hΓ 7 rfl ?_
    refine eo_callF [0] (I y7.1) [.box 25 [.d (Sl (eN .i64) y7.2.L), I y7.2.v_at]] (callable Tryz.func28 rfl rfl) (c_lanemake_Stream_Range hy7) rfl (Nat.le_of_ble_eq_true rfl) rfl rfl rfl rfl rfl rfl rfl rfl rfl rfl ?_
    refine go_ops hΓ 4 rfl ?_
    obtain rfl := Option.some.inj h8
    exact fin_objs hΓ [] (.inr rfl) rfl rfl rfl rfl (.inl rfl)
theorem c_lanemake_Stream_Prefix {k : Nat} {s : T_lanemake_Stream} {r : T_api_Prefix × T_lanemake_Stream} (h : m_lanemake_Stream_Prefix k s = some r) : EC Tryz.prog 42 [.ptr 0 0] [.box 25 [.d (Sl (eN .i64) s.L), I s.v_at]] fun g hp' => g = .agg [B r.1.Addr.Six, U r.1.Addr.Hi, U r.1.Addr.Lo, I r.1.Bits] ∧ hp' = [.box 25 [.d (Sl (eN .i64) r.2.L), I r.2.v_at]] := by
  refine ec_enter (Fr.of 0 _) Tryz.func42 rfl (Fr.of_ok _) (Nat.le_of_ble_eq_true rfl) fun _ => ?_
  refine go_in ?_
  unfold m_lanemake_Stream_Prefix at h
  refine go hΓ 2 rfl ?_
  refine eo_alloc hΓ rfl rfl rfl (Nat.le_of_ble_eq_true rfl) ?_
  obtain ⟨y1, hy1, h2⟩ := bi_ok h
  refine go_ops hΓ 5 rfl ?_
  refine eo_callF [0] (.agg [B y1.1.Addr.Six, U y1.1.Addr.Hi, U y1.1.Addr.Lo, I y1.1.Bits]) [.box 25 [.d (Sl (eN .i64) y1.2.L), I y1.2.v_at], .box 87 [B false, U 0, U 0, I 0]] (callable Tryz.func73 rfl rfl) (c_lanemake_Stream_RightPrefix hy1) rfl (Nat.le_of_ble_eq_true rfl) rfl rfl rfl rfl rfl rfl rfl rfl rfl rfl ?_
  refine eo_alloc hΓ rfl rfl rfl (Nat.le_of_ble_eq_true rfl) ?_
  refine eo_store hΓ rfl rfl rfl rfl rfl rfl rfl rfl (Nat.le_of_ble_eq_true rfl) ?_
  refine eo_hp [.box 25 [.d (Sl (eN .i64) y1.2.L), I y1.2.v_at], .box 87 [B false, U 0, U 0, I 0], .box 87 [B y1.1.Addr.Six, U y1.1.Addr.Hi, U y1.1.Addr.Lo, I y1.1.Bits]] rfl ?_
  obtain ⟨y3, hy3, h4⟩ := bi_ok h2
  refine go_ops hΓ 6 rfl ?_
  refine eo_callF [0] (B y3.1) [.box 25 [.d (Sl (eN .i64) y3.2.L), I y3.2.v_at], .box 87 [B false, U 0, U 0, I 0], .box 87 [B y1.1.Addr.Six, U y1.1.Addr.Hi, U y1.1.Addr.Lo, I y1.1.Bits]] (callable Tryz.func10 rfl rfl) (c_lanemake_Stream_Flip hy3) rfl (Nat.le_of_ble_eq_true rfl) rfl rfl rfl rfl rfl rfl rfl rfl rfl rfl ?_
  obtain ⟨q5, hq5, h6⟩ := bi_ok h4
  refine go_ops hΓ 2 rfl ?_
  refine j_cutNZ [(2, .ptr 1 0), (3, .ptr 2 0)] [.box 25 [.d (Sl (eN .i64) q5.1.L), I q5.1.v_at], .box 87 [B false, U 0, U 0, I 0], .box 87 [B q5.2.Addr.Six, U q5.2.Addr.Hi, U q5.2.Addr.Lo, I q5.2.Bits]] ?_ ?_
  · refine j_cond rfl (fun hb => ?_) (fun hb => ?_)
    · have h7 := cT hq5 hb
      obtain ⟨y8, hy8, h9⟩ := bi_ok h7
      refine go hΓ 2 rfl ?_
      refine eo_callF [0] (.agg [B y8.1.Six, U y8.1.Hi, U y8.1.Lo]) [.box 25 [.d (Sl (eN .i64) y8.2.L), I y8.2.v_at], .box 87 [B false, U 0, U 0, I 0], .box 87 [B y1.1.Addr.Six, U y1.1.Addr.Hi, U y1.1.Addr.Lo, I y1.1.Bits]] (callable Tryz.func5 rfl rfl) (c_lanemake_Stream_Raw hy8) rfl (Nat.le_of_ble_eq_true rfl) rfl rfl rfl rfl rfl rfl rfl rfl rfl rfl ?_
      obtain ⟨y10, hy10, h11⟩ := bi_ok h9
      refine go_ops hΓ 1 rfl ?_
      refine eo_callF [0] (I y10.1) [.box 25 [.d (Sl (eN .i64) y10.2.L), I y10.2.v_at], .box 87 [B false, U 0, U 0, I 0], .box 87 [B y1.1.Addr.Six, U y1.1.Addr.Hi, U y1.1.Addr.Lo, I y1.1.Bits]] (callable Tryz.func74 rfl rfl) (c_lanemake_Stream_Odd hy10) rfl (Nat.le_of_ble_eq_true rfl) rfl rfl rfl rfl rfl rfl rfl rfl rfl rfl ?_
      refine eo_build hΓ (gs := [B y8.1.Six, U y8.1.Hi, U y8.1.Lo, I y10.1]) rfl rfl rfl rfl rfl rfl rfl ?_
      refine eo_store hΓ rfl rfl rfl rfl rfl rfl rfl rfl (Nat.le_of_ble_eq_true rfl) ?_
      refine eo_hp [.box 25 [.d (Sl (eN .i64) y10.2.L), I y10.2.v_at], .box 87 [B false, U 0, U 0, I 0], .box 87 [B y8.1.Six, U y8.1.Hi, U y8.1.Lo, I y10.1]] rfl ?_
      refine go_ops hΓ 1 rfl ?_
      obtain rfl := Option.some.inj h11
      exact ⟨⟨rfl, rfl, trivial⟩, [], rfl, .inl rfl⟩
    · have h12 := cF hq5 hb
      refine go hΓ 1 rfl ?_
      obtain rfl := Option.some.inj h12
      exact ⟨⟨rfl, rfl, trivial⟩, [], rfl, .inl rfl⟩
  · refine go hΓ 4 rfl ?_
    refine eo_store hΓ rfl rfl rfl rfl rfl rfl rfl rfl (Nat.le_of_ble_eq_true rfl) ?_
    refine eo_hp [.box 25 [.d (Sl (eN .i64) q5.1.L), I q5.1.v_at], .box 87 [B q5.2.Addr.Six, U q5.2.Addr.Hi, U q5.2.Addr.Lo, I q5.2.Bits], .box 87 [B q5.2.Addr.Six, U q5.2.Addr.Hi, U q5.2.Addr.Lo, I q5.2.Bits]] rfl ?_
    refine go_ops hΓ 3 rfl ?_
    obtain rfl := Option.some.inj h6
    exact fin_objs hΓ [_, _] (.inr rfl) rfl rfl rfl rfl (.inr ⟨HB.mk rfl, rfl⟩)
set_option maxHeartbeats 8000000 in
theorem c_lanemake_Stream_Nodes {k : Nat} {s : T_lanemake_Stream} {most : Int} {r : (List T_api_Node) × T_lanemake_Stream} (h : m_lanemake_Stream_Nodes k s most = some r) : EC Tryz.prog 19 [.ptr 0 0, I most] [.box 25 [.d (Sl (eN .i64) s.L), I s.v_at]] fun g hp' => g = .sl 1 r.1.length ∧ hp' = [.box 25 [.d (Sl (eN .i64) r.2.L), I r.2.v_at], .row 81 6 r.1.length (r.1.flatMap e_api_Node)] := by
  refine ec_enterC (Fr.of 0 _) Tryz.func19 rfl (Fr.of_ok _) (Nat.le_of_ble_eq_true rfl) fun _ => ?_
  refine go_in ?_
  unfold m_lanemake_Stream_Nodes at h
  obtain ⟨y1, hy1, h2⟩ := bi_ok h
  refine go hΓ 9 rfl ?_
  refine eo_callF [0] (.sl 1 y1.1.length) [.box 25 [.d (Sl (eN .i64) y1.2.L), I y1.2.v_at], .row 81 6 y1.1.length (y1.1.flatMap e_api_Node)] (callable Tryz.func38 rfl rfl) (c_lanemake_Stream_RightNodes hy1) rfl (Nat.le_of_ble_eq_true rfl) rfl rfl rfl rfl rfl rfl rfl rfl rfl rfl ?_
  refine go_ops hΓ 10 rfl ?_
  obtain ⟨q3, hq3, h4⟩ := bi_ok h2
  refine o_cut 3 [(0, .ptr 0 0), (5, .sl 1 y1.1.length), (16, B q3.2)] [.box 25 [.d (Sl (eN .i64) q3.1.L), I q3.1.v_at], .row 81 6 y1.1.length (y1.1.flatMap e_api_Node)] ?_ ?_
  · refine eo_gsplit rfl rfl (fun hb => ?_) (fun hb => ?_)
    · have h5 := cT hq3 hb
      obtain ⟨y6, hy6, h7⟩ := bi_ok h5
      refine go_ops hΓ 1 rfl ?_
      refine eo_guard rfl ?_
      refine eo_callF [0] (B y6.1) [.box 25 [.d (Sl (eN .i64) y6.2.L), I y6.2.v_at], .row 81 6 y1.1.length (y1.1.flatMap e_api_Node)] (callable Tryz.func10 rfl rfl) (c_lanemake_Stream_Flip hy6) rfl (Nat.le_of_ble_eq_true rfl) rfl rfl rfl rfl rfl rfl rfl rfl rfl rfl ?_
      refine go_ops hΓ 2 rfl ?_
      obtain rfl := Option.some.inj h7
      exact ⟨⟨rfl, rfl, rfl, trivial⟩, [], rfl, .inl rfl⟩
    · have h8 := cF hq3 hb
      refine go_ops hΓ 4 rfl ?_
      obtain rfl := Option.some.inj h8
      exact ⟨⟨rfl, rfl, rfl, trivial⟩, [], rfl, .inl rfl⟩
  · obtain ⟨q9, hq9, h10⟩ := bi_ok h4
    refine go_ops hΓ 2 rfl ?_
    refine j_cutNZ [(5, .sl 1 q9.2.length)] [.box 25 [.d (Sl (eN .i64) q9.1.L), I q9.1.v_at], .row 81 6 q9.2.length (q9.2.flatMap e_api_Node)] ?_ ?_
    · refine j_cond rfl (fun hb => ?_) (fun hb => ?_)
      · have h11 := cT hq9 hb
        obtain ⟨y12, hy12, h13⟩ := bi_ok h11
        refine go hΓ 6 rfl ?_
        refine eo_callF [0] (I y12.1) [.box 25 [.d (Sl (eN .i64) y12.2.L), I y12.2.v_at], .row 81 6 y1.1.length (y1.1.flatMap e_api_Node)] (callable Tryz.func24 rfl rfl) (c_lanemake_Stream_Next hy12) rfl (Nat.le_of_ble_eq_true rfl) rfl rfl rfl rfl rfl rfl rfl rfl rfl rfl ?_
        obtain ⟨x14, hx14, h15⟩ := bi_ok h13
        have hj16 := getZ_at hx14
        refine eo_o rfl (op_elemRowZ hΓ hx14 rfl rfl rfl rfl rfl rfl) ?_
        obtain ⟨y17, hy17, h18⟩ := bi_ok h15
        refine go_ops hΓ 6 rfl ?_
        refine eo_callF [0] (I y17.1) [.box 25 [.d (Sl (eN .i64) y17.2.L), I y17.2.v_at], .row 81 6 y1.1.length (y1.1.flatMap e_api_Node)] (callable Tryz.func24 rfl rfl) (c_lanemake_Stream_Next hy17) rfl (Nat.le_of_ble_eq_true rfl) rfl rfl rfl rfl rfl rfl rfl rfl rfl rfl ?_
        refine go_ops hΓ 9 rfl ?_
        refine j_cond rfl (fun hb => ?_) (fun hb => ?_)
        · have h19 := cT h18 hb
          refine go hΓ 3 rfl ?_
          refine eo_litT hΓ (enc := eS) [[], [65], [110, 97]] rfl rfl rfl rfl rfl rfl rfl rfl rfl rfl rfl rfl (Nat.le_of_ble_eq_true rfl) ?_
          obtain ⟨y20, hy20, h21⟩ := bi_ok h19
          refine eo_callF [0] (S y20.1) [.box 25 [.d (Sl (eN .i64) y20.2.L), I y20.2.v_at], .row 81 6 y1.1.length (y1.1.flatMap e_api_Node)] (callable Tryz.func16 rfl rfl) (c_lanemake_Stream_Some hy20) rfl (Nat.le_of_ble_eq_true rfl) rfl rfl rfl rfl rfl rfl rfl rfl rfl rfl ?_
          refine go_ops hΓ 2 rfl ?_
          refine eo_storeRowZ hΓ (enc := e_api_Node) (z' := (⟨y20.1, x14.User, x14.Name, x14.Tags, x14.Addrs, x14.Routes⟩ : T_api_Node)) y12.1.toNat 0 hj16 rfl rfl rfl rfl (fun _ => rfl) rfl rfl rfl rfl rfl rfl (Nat.le_of_ble_eq_true rfl) ?_
          refine eo_hp [.box 25 [.d (Sl (eN .i64) y20.2.L), I y20.2.v_at], .row 81 6 (y1.1.set y12.1.toNat (⟨y20.1, x14.User, x14.Name, x14.Tags, x14.Addrs, x14.Routes⟩ : T_api_Node)).length ((y1.1.set y12.1.toNat (⟨y20.1, x14.User, x14.Name, x14.Tags, x14.Addrs, x14.Routes⟩ : T_api_Node)).flatMap e_api_Node)] rfl ?_
          refine eo_relen 5 (n' := (y1.1.set y12.1.toNat (⟨y20.1, x14.User, x14.Name, x14.Tags, x14.Addrs, x14.Routes⟩ : T_api_Node)).length) rfl List.length_set.symm ?_
          refine go_ops hΓ 2 rfl ?_
          obtain rfl := Option.some.inj h21
          exact ⟨⟨rfl, trivial⟩, [], rfl, .inl rfl⟩
        · have h22 := cF h18 hb
          refine go hΓ 6 rfl ?_
          refine j_cond rfl (fun hb => ?_) (fun hb => ?_)
          · have h23 := cT h22 hb
            refine go hΓ 3 rfl ?_
            refine eo_litT hΓ (enc := eS) [[], [65]] rfl rfl rfl rfl rfl rfl rfl rfl rfl rfl rfl rfl (Nat.le_of_ble_eq_true rfl) ?_
            obtain ⟨y24, hy24, h25⟩ := bi_ok h23
            refine eo_callF [0] (S y24.1) [.box 25 [.d (Sl (eN .i64) y24.2.L), I y24.2.v_at], .row 81 6 y1.1.length (y1.1.flatMap e_api_Node)] (callable Tryz.func16 rfl rfl) (c_lanemake_Stream_Some hy24) rfl (Nat.le_of_ble_eq_true rfl) rfl rfl rfl rfl rfl rfl rfl rfl rfl rfl ?_
            refine go_ops hΓ 2 rfl ?_
            refine eo_storeRowZ hΓ (enc := e_api_Node) (z' := (⟨x14.Key, x14.User, y24.1, x14.Tags, x14.Addrs, x14.Routes⟩ : T_api_Node)) y12.1.toNat 2 hj16 rfl rfl rfl rfl (fun _ => rfl) rfl rfl rfl rfl rfl rfl (Nat.le_of_ble_eq_true rfl) ?_
            refine eo_hp [.box 25 [.d (Sl (eN .i64) y24.2.L), I y24.2.v_at], .row 81 6 (y1.1.set y12.1.toNat (⟨x14.Key, x14.User, y24.1, x14.Tags, x14.Addrs, x14.Routes⟩ : T_api_Node)).length ((y1.1.set y12.1.toNat (⟨x14.Key, x14.User, y24.1, x14.Tags, x14.Addrs, x14.Routes⟩ : T_api_Node)).flatMap e_api_Node)] rfl ?_
            refine eo_relen 5 (n' := (y1.1.set y12.1.toNat (⟨x14.Key, x14.User, y24.1, x14.Tags, x14.Addrs, x14.Routes⟩ : T_api_Node)).length) rfl List.length_set.symm ?_
            refine go_ops hΓ 2 rfl ?_
            obtain rfl := Option.some.inj h25
            exact ⟨⟨rfl, trivial⟩, [], rfl, .inl rfl⟩
          · have h26 := cF h22 hb
            refine go hΓ 6 rfl ?_
            refine j_cond rfl (fun hb => ?_) (fun hb => ?_)
            · have h27 := cT h26 hb
              refine go hΓ 3 rfl ?_
              refine eo_litT hΓ (enc := eS) [[], [65], [97, 110, 110]] rfl rfl rfl rfl rfl rfl rfl rfl rfl rfl rfl rfl (Nat.le_of_ble_eq_true rfl) ?_
              obtain ⟨y28, hy28, h29⟩ := bi_ok h27
              refine eo_callF [0] (S y28.1) [.box 25 [.d (Sl (eN .i64) y28.2.L), I y28.2.v_at], .row 81 6 y1.1.length (y1.1.flatMap e_api_Node)] (callable Tryz.func16 rfl rfl) (c_lanemake_Stream_Some hy28) rfl (Nat.le_of_ble_eq_true rfl) rfl rfl rfl rfl rfl rfl rfl rfl rfl rfl ?_
              refine go_ops hΓ 2 rfl ?_
              refine eo_storeRowZ hΓ (enc := e_api_Node) (z' := (⟨x14.Key, y28.1, x14.Name, x14.Tags, x14.Addrs, x14.Routes⟩ : T_api_Node)) y12.1.toNat 1 hj16 rfl rfl rfl rfl (fun _ => rfl) rfl rfl rfl rfl rfl rfl (Nat.le_of_ble_eq_true rfl) ?_
              refine eo_hp [.box 25 [.d (Sl (eN .i64) y28.2.L), I y28.2.v_at], .row 81 6 (y1.1.set y12.1.toNat (⟨x14.Key, y28.1, x14.Name, x14.Tags, x14.Addrs, x14.Routes⟩ : T_api_Node)).length ((y1.1.set y12.1.toNat (⟨x14.Key, y28.1, x14.Name, x14.Tags, x14.Addrs, x14.Routes⟩ : T_api_Node)).flatMap e_api_Node)] rfl ?_
              refine eo_relen 5 (n' := (y1.1.set y12.1.toNat (⟨x14.Key, y28.1, x14.Name, x14.Tags, x14.Addrs, x14.Routes⟩ : T_api_Node)).length) rfl List.length_set.symm ?_
              refine go_ops hΓ 2 rfl ?_
              obtain rfl := Option.some.inj h29
              exact ⟨⟨rfl, trivial⟩, [], rfl, .inl rfl⟩
            · have h30 := cF h26 hb
              refine go hΓ 6 rfl ?_
              refine j_cond rfl (fun hb => ?_) (fun hb => ?_)
              · have h31 := cT h30 hb
                refine go hΓ 2 rfl ?_
                refine eo_litT hΓ (enc := eS) [[119, 101, 98], [100, 98]] rfl rfl rfl rfl rfl rfl rfl rfl rfl rfl rfl rfl (Nat.le_of_ble_eq_true rfl) ?_
                refine eo_litT hΓ (enc := eS) [[]] rfl rfl rfl rfl rfl rfl rfl rfl rfl rfl rfl rfl (Nat.le_of_ble_eq_true rfl) ?_
                refine eo_litT hΓ (enc := eS) [[97]] rfl rfl rfl rfl rfl rfl rfl rfl rfl rfl rfl rfl (Nat.le_of_ble_eq_true rfl) ?_
                refine eo_litT hΓ (enc := (eL eS)) [[], [[119, 101, 98], [100, 98]], [[]], [[97]]] rfl rfl rfl rfl rfl rfl rfl rfl rfl rfl rfl rfl (Nat.le_of_ble_eq_true rfl) ?_
                obtain ⟨y32, hy32, h33⟩ := bi_ok h31
                refine go_ops hΓ 1 rfl ?_
                refine eo_callF [0] (I y32.1) [.box 25 [.d (Sl (eN .i64) y32.2.L), I y32.2.v_at], .row 81 6 y1.1.length (y1.1.flatMap e_api_Node)] (callable Tryz.func24 rfl rfl) (c_lanemake_Stream_Next hy32) rfl (Nat.le_of_ble_eq_true rfl) rfl rfl rfl rfl rfl rfl rfl rfl rfl rfl ?_
                obtain ⟨x34, hx34, h35⟩ := bi_ok h33
                refine eo_o rfl (op_elemZ hΓ (enc := (eL eS)) hx34 rfl rfl rfl rfl rfl (fun _ => rfl)) ?_
                refine go_ops hΓ 3 rfl ?_
                refine eo_storeRowZ hΓ (enc := e_api_Node) (z' := (⟨x14.Key, x14.User, x14.Name, x34, x14.Addrs, x14.Routes⟩ : T_api_Node)) y12.1.toNat 3 hj16 rfl rfl rfl rfl (fun _ => rfl) rfl rfl rfl rfl rfl rfl (Nat.le_of_ble_eq_true rfl) ?_
                refine eo_hp [.box 25 [.d (Sl (eN .i64) y32.2.L), I y32.2.v_at], .row 81 6 (y1.1.set y12.1.toNat (⟨x14.Key, x14.User, x14.Name, x34, x14.Addrs, x14.Routes⟩ : T_api_Node)).length ((y1.1.set y12.1.toNat (⟨x14.Key, x14.User, x14.Name, x34, x14.Addrs, x14.Routes⟩ : T_api_Node)).flatMap e_api_Node)] rfl ?_
                refine eo_relen 5 (n' := (y1.1.set y12.1.toNat (⟨x14.Key, x14.User, x14.Name, x34, x14.Addrs, x14.Routes⟩ : T_api_Node)).length) rfl List.length_set.symm ?_
                refine go_ops hΓ 2 rfl ?_
                obtain rfl := Option.some.inj h35
                exact ⟨⟨rfl, trivial⟩, [], rfl, .inl rfl⟩
              · have h36 := cF h30 hb
                refine go hΓ 6 rfl ?_
                refine j_cond rfl (fun hb => ?_) (fun hb => ?_)
                · have h37 := cT h36 hb
                  refine go hΓ 5 rfl ?_
                  refine eo_o rfl (op_loadRowZ hΓ (enc := e_api_Node) y12.1.toNat 4 hj16 rfl rfl rfl rfl (fun _ => rfl) (g := .d (Sl e_api_Addr x14.Addrs)) rfl) ?_
                  obtain ⟨y38, hy38, h39⟩ := bi_ok h37
                  refine eo_callF [] (.sl 2 y38.length) [.box 25 [.d (Sl (eN .i64) y17.2.L), I y17.2.v_at], .row 81 6 y1.1.length (y1.1.flatMap e_api_Node), .row 28 3 y38.length (y38.flatMap e_api_Addr)] (callable Tryz.func39 rfl rfl) (c_slices_Clone_api_Addr_api_Addr hy38) rfl (Nat.le_of_ble_eq_true rfl) rfl rfl rfl rfl rfl rfl rfl rfl rfl rfl ?_
                  obtain ⟨y40, hy40, h41⟩ := bi_ok h39
                  refine go_ops hΓ 1 rfl ?_
                  refine eo_callF [0] (.agg [B y40.1.Six, U y40.1.Hi, U y40.1.Lo]) [.box 25 [.d (Sl (eN .i64) y40.2.L), I y40.2.v_at], .row 81 6 y1.1.length (y1.1.flatMap e_api_Node), .row 28 3 y38.length (y38.flatMap e_api_Addr)] (callable Tryz.func5 rfl rfl) (c_lanemake_Stream_Raw hy40) rfl (Nat.le_of_ble_eq_true rfl) rfl rfl rfl rfl rfl rfl rfl rfl rfl rfl ?_
                  obtain ⟨y42, hy42, h43⟩ := bi_ok h41
                  refine eo_callP (callable Tryz.func40 rfl rfl) (c_lanemake_at hy42) rfl (Nat.le_of_ble_eq_true rfl) rfl rfl rfl rfl rfl ?_
                  refine eo_litT hΓ (enc := e_api_Addr) [y40.1, y42] rfl rfl rfl rfl rfl rfl rfl rfl rfl rfl rfl rfl (Nat.le_of_ble_eq_true rfl) ?_
                  obtain ⟨y44, hy44, h45⟩ := bi_ok h43
                  refine eo_appendT hΓ (enc := e_api_Addr) hy44 rfl rfl rfl rfl rfl rfl rfl rfl rfl (fun _ => rfl) rfl rfl rfl rfl ?_
                  refine go_ops hΓ 2 rfl ?_
                  refine eo_shr 2 [86] _ [.box 25 [.d (Sl (eN .i64) y40.2.L), I y40.2.v_at], .row 81 6 y1.1.length (y1.1.flatMap e_api_Node), .dead] rfl rfl rfl (Nat.le_of_ble_eq_true rfl) ?_
                  refine eo_storeRowZ hΓ (enc := e_api_Node) (z' := (⟨x14.Key, x14.User, x14.Name, x14.Tags, y44, x14.Routes⟩ : T_api_Node)) y12.1.toNat 4 hj16 rfl rfl rfl rfl (fun _ => rfl) rfl rfl rfl rfl rfl rfl (Nat.le_of_ble_eq_true rfl) ?_
                  refine eo_hp [.box 25 [.d (Sl (eN .i64) y40.2.L), I y40.2.v_at], .row 81 6 (y1.1.set y12.1.toNat (⟨x14.Key, x14.User, x14.Name, x14.Tags, y44, x14.Routes⟩ : T_api_Node)).length ((y1.1.set y12.1.toNat (⟨x14.Key, x14.User, x14.Name, x14.Tags, y44, x14.Routes⟩ : T_api_Node)).flatMap e_api_Node), .dead] rfl ?_
                  refine eo_relen 5 (n' := (y1.1.set y12.1.toNat (⟨x14.Key, x14.User, x14.Name, x14.Tags, y44, x14.Routes⟩ : T_api_Node)).length) rfl List.length_set.symm ?_
                  refine go_ops hΓ 2 rfl ?_
                  obtain rfl := Option.some.inj h45
                  exact ⟨⟨rfl, trivial⟩, [_], rfl, .inr ⟨HB.mk rfl, FB.mk rfl, (Nat.le_of_ble_eq_true rfl)⟩⟩
                · have h46 := cF h36 hb
                  refine go hΓ 5 rfl ?_
                  refine eo_o rfl (op_loadRowZ hΓ (enc := e_api_Node) y12.1.toNat 5 hj16 rfl rfl rfl rfl (fun _ => rfl) (g := .d (Sl e_api_Prefix x14.Routes)) rfl) ?_
                  obtain ⟨y47, hy47, h48⟩ := bi_ok h46
                  refine eo_callF [] (.sl 2 y47.length) [.box 25 [.d (Sl (eN .i64) y17.2.L), I y17.2.v_at], .row 81 6 y1.1.length (y1.1.flatMap e_api_Node), .row 87 4 y47.length (y47.flatMap e_api_Prefix)] (callable Tryz.func41 rfl rfl) (c_slices_Clone_api_Prefix_api_Prefix hy47) rfl (Nat.le_of_ble_eq_true rfl) rfl rfl rfl rfl rfl rfl rfl rfl rfl rfl ?_
                  obtain ⟨y49, hy49, h50⟩ := bi_ok h48
                  refine go_ops hΓ 1 rfl ?_
                  refine eo_callF [0] (.agg [B y49.1.Addr.Six, U y49.1.Addr.Hi, U y49.1.Addr.Lo, I y49.1.Bits]) [.box 25 [.d (Sl (eN .i64) y49.2.L), I y49.2.v_at], .row 81 6 y1.1.length (y1.1.flatMap e_api_Node), .row 87 4 y47.length (y47.flatMap e_api_Prefix)] (callable Tryz.func42 rfl rfl) (c_lanemake_Stream_Prefix hy49) rfl (Nat.le_of_ble_eq_true rfl) rfl rfl rfl rfl rfl rfl rfl rfl rfl rfl ?_
                  refine eo_litT hΓ (enc := e_api_Prefix) [y49.1] rfl rfl rfl rfl rfl rfl rfl rfl rfl rfl rfl rfl (Nat.le_of_ble_eq_true rfl) ?_
                  obtain ⟨y51, hy51, h52⟩ := bi_ok h50
                  refine eo_appendT hΓ (enc := e_api_Prefix) hy51 rfl rfl rfl rfl rfl rfl rfl rfl rfl (fun _ => rfl) rfl rfl rfl rfl ?_
                  refine go_ops hΓ 2 rfl ?_
                  refine eo_shr 2 [34] _ [.box 25 [.d (Sl (eN .i64) y49.2.L), I y49.2.v_at], .row 81 6 y1.1.length (y1.1.flatMap e_api_Node), .dead] rfl rfl rfl (Nat.le_of_ble_eq_true rfl) ?_
                  refine eo_storeRowZ hΓ (enc := e_api_Node) (z' := (⟨x14.Key, x14.User, x14.Name, x14.Tags, x14.Addrs, y51⟩ : T_api_Node)) y12.1.toNat 5 hj16 rfl rfl rfl rfl (fun _ => rfl) rfl rfl rfl rfl rfl rfl (Nat.le_of_ble_eq_true rfl) ?_
                  refine eo_hp [.box 25 [.d (Sl (eN .i64) y49.2.L), I y49.2.v_at], .row 81 6 (y1.1.set y12.1.toNat (⟨x14.Key, x14.User, x14.Name, x14.Tags, x14.Addrs, y51⟩ : T_api_Node)).length ((y1.1.set y12.1.toNat (⟨x14.Key, x14.User, x14.Name, x14.Tags, x14.Addrs, y51⟩ : T_api_Node)).flatMap e_api_Node), .dead] rfl ?_
                  refine eo_relen 5 (n' := (y1.1.set y12.1.toNat (⟨x14.Key, x14.User, x14.Name, x14.Tags, x14.Addrs, y51⟩ : T_api_Node)).length) rfl List.length_set.symm ?_
                  refine go_ops hΓ 2 rfl ?_
                  obtain rfl := Option.some.inj h52
                  exact ⟨⟨rfl, trivial⟩, [_], rfl, .inr ⟨HB.mk rfl, FB.mk rfl, (Nat.le_of_ble_eq_true rfl)⟩⟩
      · have h53 := cF hq9 hb
        refine go hΓ 1 rfl ?_
        obtain rfl := Option.some.inj h53
        exact ⟨⟨rfl, trivial⟩, [], rfl, .inl rfl⟩
    · refine go hΓ 8 rfl ?_
      refine cv_here ?_
      obtain rfl := Option.some.inj h10
      exact fin_objs hΓ [] (.inr rfl) rfl rfl rfl rfl (.inl rfl)
theorem c_name_isLetter {c : Int} {r : Bool} (h : m_name_isLetter c = some r) : Pure Tryz.prog 68 [.d (.v (.int .u8 c))] (B r) := by
  refine Pure.enter (Fr.of 0 _) Tryz.func68 rfl (Fr.of_ok _) rfl rfl ?_
  refine go_in ?_
  unfold m_name_isLetter at h
  refine go hΓ 10 rfl ?_
  refine o_cut 3 [(0, .d (.v (.int .u8 c))), (2, B false), (8, B ((decide ((c : Int) ≥ 97)) && (decide ((c : Int) ≤ 122))))] [] ?_ ?_
  · refine eo_gsplit rfl rfl (fun hb => ?_) (fun hb => ?_)
    · refine go_ops hΓ 4 rfl ?_
      exact ⟨⟨rfl, rfl, get_b rfl (and_t hb), trivial⟩, [], rfl, .inl rfl⟩
    · refine go_ops hΓ 4 rfl ?_
      exact ⟨⟨rfl, rfl, get_b rfl (and_f hb), trivial⟩, [], rfl, .inl rfl⟩
  · refine go_ops hΓ 1 rfl ?_
    refine o_cut 7 [(2, B false), (16, B (((decide ((c : Int) ≥ 97)) && (decide ((c : Int) ≤ 122))) || ((decide ((c : Int) ≥ 48)) && (decide ((c : Int) ≤ 57)))))] [] ?_ ?_
    · refine eo_gsplit rfl rfl (fun hb => ?_) (fun hb => ?_)
      · refine go_ops hΓ 8 rfl ?_
        exact ⟨⟨rfl, get_b rfl (or_t hb), trivial⟩, [], rfl, .inl rfl⟩
      · refine go_ops hΓ 3 rfl ?_
        refine o_cut 3 [(2, B false), (9, B false), (15, B ((decide ((c : Int) ≥ 48)) && (decide ((c : Int) ≤ 57))))] [] ?_ ?_
        · refine eo_gsplit rfl rfl (fun hb => ?_) (fun hb => ?_)
          · refine go_ops hΓ 4 rfl ?_
            exact ⟨⟨rfl, rfl, get_b rfl (and_t hb), trivial⟩, [], rfl, .inl rfl⟩
          · refine go_ops hΓ 4 rfl ?_
            exact ⟨⟨rfl, rfl, get_b rfl (and_f hb), trivial⟩, [], rfl, .inl rfl⟩
        · refine go_ops hΓ 2 rfl ?_
          exact ⟨⟨rfl, get_b rfl (or_f hb), trivial⟩, [], rfl, .inl rfl⟩
    · refine go_ops hΓ 4 rfl ?_
      obtain rfl := Option.some.inj h
      exact fin_pure hΓ (.inr rfl) rfl rfl
theorem c_name_isLabel {k : Nat} {s : Str} {r : Bool} (h : m_name_isLabel k s = some r) : Pure Tryz.prog 61 [S s] (B r) := by
  induction k generalizing s r with
  | zero => unfold m_name_isLabel at h; cases h
  | succ k ih0 =>
    have ih : ∀ {s : Str} {r : Bool}, m_name_isLabel k s = some r → Pure Tryz.prog 61 [S s] (B r) := by intro s r h; first | exact ih0 h | exact ih0 _ _ h
    refine Pure.enter (Fr.of 0 _) Tryz.func61 rfl (Fr.of_ok _) rfl rfl ?_
    refine go_in ?_
    unfold m_name_isLabel at h
    obtain ⟨y1, hy1, h2⟩ := bi_ok h
    refine go hΓ 9 rfl ?_
    refine eo_callP (callable Tryz.func94 rfl rfl) (c_strings_CutPrefix hy1) rfl (Nat.le_of_ble_eq_true rfl) rfl rfl rfl rfl rfl ?_
    refine go_ops hΓ 12 rfl ?_
    refine j_cond rfl (fun hb => ?_) (fun hb => ?_)
    · have h3 := cT h2 hb
      obtain ⟨y4, hy4, h5⟩ := bi_ok h3
      refine go hΓ 3 rfl ?_
      refine eo_callP (callable Tryz.func95 rfl rfl) (c_strings_HasPrefix hy4) rfl (Nat.le_of_ble_eq_true rfl) rfl rfl rfl rfl rfl ?_
      refine go_ops hΓ 2 rfl ?_
      obtain ⟨q6, hq6, h7⟩ := bi_ok h5
      refine o_cut 3 [(0, S s), (2, B false), (18, B q6)] [] ?_ ?_
      · refine eo_gsplit rfl rfl (fun hb => ?_) (fun hb => ?_)
        · have h8 := cT hq6 hb
          obtain ⟨y9, hy9, h10⟩ := bi_ok h8
          refine go_ops hΓ 1 rfl ?_
          refine eo_guard rfl ?_
          refine eo_callP (callable Tryz.func61 rfl rfl) (ih hy9) rfl (Nat.le_of_ble_eq_true rfl) rfl rfl rfl rfl rfl ?_
          refine go_ops hΓ 2 rfl ?_
          obtain rfl := Option.some.inj h10
          exact ⟨⟨rfl, rfl, rfl, trivial⟩, [], rfl, .inl rfl⟩
        · have h11 := cF hq6 hb
          refine go_ops hΓ 4 rfl ?_
          obtain rfl := Option.some.inj h11
          exact ⟨⟨rfl, rfl, rfl, trivial⟩, [], rfl, .inl rfl⟩
      · refine go_ops hΓ 1 rfl ?_
        refine o_cut 4 [(2, B false), (23, B (q6 && (decide (((s.length : Int) : Int) ≤ 63))))] [] ?_ ?_
        · refine eo_gsplit rfl rfl (fun hb => ?_) (fun hb => ?_)
          · refine go_ops hΓ 5 rfl ?_
            exact ⟨⟨rfl, get_b rfl (and_t hb), trivial⟩, [], rfl, .inl rfl⟩
          · refine go_ops hΓ 5 rfl ?_
            exact ⟨⟨rfl, get_b rfl (and_f hb), trivial⟩, [], rfl, .inl rfl⟩
        · refine go_ops hΓ 5 rfl ?_
          obtain rfl := Option.some.inj h7
          exact fin_pure hΓ (.inr rfl) rfl rfl
    · have h12 := cF h2 hb
      refine go hΓ 10 rfl ?_
      obtain ⟨q16, hq16, h17⟩ := bi_ok h12
      obtain ⟨hb19, h20⟩ := gd_ok hq16
      replace hb19 := of_decide_eq_true hb19
      refine j_cutEZ (R := fun a18 => q16 = .go a18) (fun a18 => [(0, S s)]) (fun a18 => []) ?_ ?_
      · refine go hΓ 1 rfl ?_
        refine j_rangeI h20 (fun i13 s14 => [(0, S s), (25, I (s.length : Int)), (26, I (i13 : Int))]) (fun s14 => []) ⟨⟨rfl, rfl, rfl, trivial⟩, [], rfl, .inl rfl⟩ (fun i13 s14 y24 hlt hy22 hout23 => ?_) (fun s14 hgo hge => ?_)
        · refine go hΓ 6 rfl ?_
          refine j_condT rfl (decide_eq_true hlt) ?_
          obtain ⟨c25, hc25, h26⟩ := bi_ok hy22
          refine go hΓ 14 rfl ?_
          refine eo_o rfl (op_byteZ hΓ hc25 rfl rfl rfl rfl) ?_
          obtain ⟨y27, hy27, h28⟩ := bi_ok h26
          refine eo_callP (callable Tryz.func68 rfl rfl) (c_name_isLetter hy27) rfl (Nat.le_of_ble_eq_true rfl) rfl rfl rfl rfl rfl ?_
          refine go_ops hΓ 2 rfl ?_
          obtain ⟨q29, hq29, h30⟩ := bi_ok h28
          refine o_cut 5 [(0, S s), (25, I (s.length : Int)), (26, I (i13 : Int)), (39, B q29)] [] ?_ ?_
          · refine eo_gsplit rfl rfl (fun hb => ?_) (fun hb => ?_)
            · have h31 := cT hq29 hb
              obtain ⟨c32, hc32, h33⟩ := bi_ok h31
              refine go_ops hΓ 2 rfl ?_
              refine eo_guard rfl ?_
              refine eo_o rfl (op_byteZ hΓ hc32 rfl rfl rfl rfl) ?_
              refine go_ops hΓ 3 rfl ?_
              obtain rfl := Option.some.inj h33
              exact ⟨⟨rfl, rfl, rfl, rfl, trivial⟩, [], rfl, .inl rfl⟩
            · have h34 := cF hq29 hb
              refine go_ops hΓ 6 rfl ?_
              obtain rfl := Option.some.inj h34
              exact ⟨⟨rfl, rfl, rfl, rfl, trivial⟩, [], rfl, .inl rfl⟩
          · refine go_ops hΓ 2 rfl ?_
            refine j_cond rfl (fun hb => ?_) (fun hb => ?_)
            · have h35 := cT h30 hb
              refine go hΓ 8 rfl ?_
              obtain ⟨v36, hv36, h37⟩ := bi_ok h35
              obtain rfl := Option.some.inj h37
              obtain rfl := hout23 _ rfl
              obtain rfl := Option.some.inj h17
              refine go hΓ 4 rfl ?_
              obtain rfl := Option.some.inj hv36
              exact fin_pure hΓ (.inr rfl) rfl rfl
            · have h38 := cF h30 hb
              refine go hΓ 7 rfl ?_
              obtain rfl := Option.some.inj h38
              exact ⟨_, rfl, ⟨⟨rfl, rfl, get_eq rfl (w64_succ (by omega)), trivial⟩, [], rfl, .inl rfl⟩⟩
        · subst hgo
          refine go hΓ 6 rfl ?_
          refine j_condF rfl (decide_eq_false hge) ?_
          refine go hΓ 4 rfl ?_
          exact ⟨_, rfl, ⟨⟨rfl, trivial⟩, [], rfl, .inl rfl⟩⟩
      · intro a18 ha
        subst ha
        replace h17 := goI_l h17
        refine go hΓ 6 rfl ?_
        refine o_cut 4 [(0, S s), (47, B ((!((s : Str) == [])) && (decide (((s.length : Int) : Int) ≤ 63))))] [] ?_ ?_
        · refine eo_gsplit rfl rfl (fun hb => ?_) (fun hb => ?_)
          · refine go_ops hΓ 5 rfl ?_
            exact ⟨⟨rfl, get_b rfl (and_t hb), trivial⟩, [], rfl, .inl rfl⟩
          · refine go_ops hΓ 5 rfl ?_
            exact ⟨⟨rfl, get_b rfl (and_f hb), trivial⟩, [], rfl, .inl rfl⟩
        · refine go_ops hΓ 1 rfl ?_
          obtain ⟨q39, hq39, h40⟩ := bi_ok h17
          refine o_cut 4 [(0, S s), (52, B q39)] [] ?_ ?_
          · refine eo_gsplit rfl rfl (fun hb => ?_) (fun hb => ?_)
            · have h41 := cT hq39 hb
              obtain ⟨c42, hc42, h43⟩ := bi_ok h41
              refine go_ops hΓ 1 rfl ?_
              refine eo_guard rfl ?_
              refine eo_o rfl (op_byteZ hΓ hc42 rfl rfl rfl rfl) ?_
              refine go_ops hΓ 3 rfl ?_
              obtain rfl := Option.some.inj h43
              exact ⟨⟨rfl, rfl, trivial⟩, [], rfl, .inl rfl⟩
            · have h44 := cF hq39 hb
              refine go_ops hΓ 5 rfl ?_
              obtain rfl := Option.some.inj h44
              exact ⟨⟨rfl, rfl, trivial⟩, [], rfl, .inl rfl⟩
          · refine go_ops hΓ 1 rfl ?_
            obtain ⟨q45, hq45, h46⟩ := bi_ok h40
            refine o_cut 7 [(60, B q45)] [] ?_ ?_
            · refine eo_gsplit rfl rfl (fun hb => ?_) (fun hb => ?_)
              · have h47 := cT hq45 hb
                obtain ⟨c48, hc48, h49⟩ := bi_ok h47
                refine go_ops hΓ 4 rfl ?_
                refine eo_guard rfl ?_
                refine eo_o rfl (op_byteZ hΓ hc48 rfl rfl rfl rfl) ?_
                refine go_ops hΓ 3 rfl ?_
                obtain rfl := Option.some.inj h49
                exact ⟨⟨rfl, trivial⟩, [], rfl, .inl rfl⟩
              · have h50 := cF hq45 hb
                refine go_ops hΓ 8 rfl ?_
                obtain rfl := Option.some.inj h50
                exact ⟨⟨rfl, trivial⟩, [], rfl, .inl rfl⟩
            · refine go_ops hΓ 4 rfl ?_
              obtain rfl := Option.some.inj h46
              exact fin_pure hΓ (.inr rfl) rfl rfl
theorem c_name_CheckDomain {k : Nat} {s : Str} {r : Int} (h : m_name_CheckDomain k s = some r) : Pure Tryz.prog 29 [S s] (I r) := by
  refine Pure.enter (Fr.of 0 _) Tryz.func29 rfl (Fr.of_ok _) rfl rfl ?_
  refine go_in ?_
  unfold m_name_CheckDomain at h
  refine go hΓ 13 rfl ?_
  refine j_cond rfl (fun hb => ?_) (fun hb => ?_)
  · have h1 := cT h hb
    refine go hΓ 7 rfl ?_
    obtain rfl := Option.some.inj h1
    exact fin_pure hΓ (.inr rfl) rfl rfl
  · have h2 := cF h hb
    obtain ⟨y3, hy3, h4⟩ := bi_ok h2
    refine go hΓ 6 rfl ?_
    refine eo_callP (callable Tryz.func31 rfl rfl) (Pure.rows (c_strings_Split hy3) rfl rfl) rfl (Nat.le_of_ble_eq_true rfl) rfl rfl rfl rfl rfl ?_
    refine go_ops hΓ 4 rfl ?_
    obtain ⟨q8, hq8, h9⟩ := bi_ok h4
    refine j_bound 9 rfl fun hb11 => ?_
    refine j_cutEZ (R := fun a10 => q8 = .go a10) (fun a10 => []) (fun a10 => []) ?_ ?_
    · refine go hΓ 1 rfl ?_
      refine j_range y3 hq8 (fun i5 s6 => [(9, .d (Sl eS y3)), (10, I (y3.length : Int)), (11, I (i5 : Int))]) (fun s6 => []) ⟨⟨rfl, rfl, rfl, trivial⟩, [], rfl, .inl rfl⟩ (fun i5 x7 s6 y15 hx12 hlt hy13 hout14 => ?_) (fun s6 hgo => ?_)
      · refine go hΓ 6 rfl ?_
        refine j_condT rfl (decide_eq_true (Int.ofNat_lt.2 hlt)) ?_
        refine go hΓ 6 rfl ?_
        refine eo_o rfl (op_elemZ hΓ (enc := eS) (getZ_nat hx12) rfl rfl rfl rfl rfl (fun _ => rfl)) ?_
        obtain ⟨y16, hy16, h17⟩ := bi_ok hy13
        refine go_ops hΓ 7 rfl ?_
        refine eo_callP (callable Tryz.func61 rfl rfl) (c_name_isLabel hy16) rfl (Nat.le_of_ble_eq_true rfl) rfl rfl rfl rfl rfl ?_
        refine go_ops hΓ 3 rfl ?_
        refine j_cond rfl (fun hb => ?_) (fun hb => ?_)
        · have h18 := cT h17 hb
          refine go hΓ 8 rfl ?_
          obtain ⟨v19, hv19, h20⟩ := bi_ok h18
          obtain rfl := Option.some.inj h20
          obtain rfl := hout14 _ rfl
          obtain rfl := Option.some.inj h9
          refine go hΓ 4 rfl ?_
          obtain rfl := Option.some.inj hv19
          exact fin_pure hΓ (.inr rfl) rfl rfl
        · have h21 := cF h17 hb
          refine go hΓ 7 rfl ?_
          obtain rfl := Option.some.inj h21
          exact ⟨_, rfl, ⟨⟨rfl, rfl, get_eq rfl (w64_succ (Nat.lt_of_lt_of_le hlt hb11)), trivial⟩, [], rfl, .inl rfl⟩⟩
      · subst hgo
        refine go hΓ 6 rfl ?_
        refine j_condF rfl (decide_eq_false (Int.lt_irrefl _)) ?_
        refine go hΓ 4 rfl ?_
        exact ⟨_, rfl, ⟨trivial, [], rfl, .inl rfl⟩⟩
    · intro a10 ha
      subst ha
      replace h9 := goI_l h9
      refine go hΓ 7 rfl ?_
      obtain rfl := Option.some.inj h9
      exact fin_pure hΓ (.inr rfl) rfl rfl
theorem c_kit_Outside {n : Int} {low : Int} {high : Int} {r : Bool} (h : m_kit_Outside n low high = some r) : Pure Tryz.prog 43 [I n, I low, I high] (B r) := by
  refine Pure.enter (Fr.of 0 _) Tryz.func43 rfl (Fr.of_ok _) rfl rfl ?_
  refine go_in ?_
  unfold m_kit_Outside at h
  refine go hΓ 11 rfl ?_
  refine o_cut 4 [(6, B false), (14, B ((decide ((n : Int) < low)) || (decide ((n : Int) > high))))] [] ?_ ?_
  · refine eo_gsplit rfl rfl (fun hb => ?_) (fun hb => ?_)
    · refine go_ops hΓ 5 rfl ?_
      exact ⟨⟨rfl, get_b rfl (or_t hb), trivial⟩, [], rfl, .inl rfl⟩
    · refine go_ops hΓ 5 rfl ?_
      exact ⟨⟨rfl, get_b rfl (or_f hb), trivial⟩, [], rfl, .inl rfl⟩
  · refine go_ops hΓ 4 rfl ?_
    obtain rfl := Option.some.inj h
    exact fin_pure hΓ (.inr rfl) rfl rfl
set_option maxHeartbeats 8000000 in
theorem c_kit_IsKey {k : Nat} {s : Str} {r : Bool} (h : m_kit_IsKey k s = some r) : Pure Tryz.prog 75 [S s] (B r) := by
  refine Pure.enter (Fr.of 0 _) Tryz.func75 rfl (Fr.of_ok _) rfl rfl ?_
  refine go_in ?_
  unfold m_kit_IsKey at h
  refine go hΓ 11 rfl ?_
  obtain ⟨q4, hq4, h5⟩ := bi_ok h
  refine j_cutEZ (R := fun a6 => q4 = .inl a6) (fun a6 => [(0, S s)]) (fun a6 => []) ?_ ?_
  · refine go hΓ 1 rfl ?_
    refine j_loop hq4 (fun s2 => [(0, S s), (3, I s2)]) (fun s2 => []) ⟨⟨rfl, rfl, trivial⟩, [], rfl, .inl rfl⟩ (fun s2 y10 hy8 hout9 => ?_)
    refine go hΓ 9 rfl ?_
    refine j_cond rfl (fun hb => ?_) (fun hb => ?_)
    · have h11 := cT hy8 hb
      obtain ⟨c12, hc12, h13⟩ := bi_ok h11
      refine go hΓ 8 rfl ?_
      refine eo_o rfl (op_byteZ hΓ hc12 rfl rfl rfl rfl) ?_
      refine go_ops hΓ 8 rfl ?_
      refine o_cut 3 [(0, S s), (3, I s2), (4, .d (.v (.int .u8 (c12.toNat : Int)))), (19, B ((decide (((c12.toNat : Int) : Int) ≥ 97)) && (decide (((c12.toNat : Int) : Int) ≤ 122))))] [] ?_ ?_
      · refine eo_gsplit rfl rfl (fun hb => ?_) (fun hb => ?_)
        · refine go_ops hΓ 4 rfl ?_
          exact ⟨⟨rfl, rfl, rfl, get_b rfl (and_t hb), trivial⟩, [], rfl, .inl rfl⟩
        · refine go_ops hΓ 4 rfl ?_
          exact ⟨⟨rfl, rfl, rfl, get_b rfl (and_f hb), trivial⟩, [], rfl, .inl rfl⟩
      · refine go_ops hΓ 1 rfl ?_
        refine o_cut 19 [(0, S s), (3, I s2), (39, B (((decide (((c12.toNat : Int) : Int) ≥ 97)) && (decide (((c12.toNat : Int) : Int) ≤ 122))) || ((decide ((s2 : Int) > 0)) && ((((decide (((c12.toNat : Int) : Int) ≥ 48)) && (decide (((c12.toNat : Int) : Int) ≤ 57))) || (((c12.toNat : Int) : Int) == 45)) || (((c12.toNat : Int) : Int) == 95)))))] [] ?_ ?_
        · refine eo_gsplit rfl rfl (fun hb => ?_) (fun hb => ?_)
          · refine go_ops hΓ 20 rfl ?_
            exact ⟨⟨rfl, rfl, get_b rfl (or_t hb), trivial⟩, [], rfl, .inl rfl⟩
          · refine go_ops hΓ 3 rfl ?_
            refine o_cut 15 [(0, S s), (3, I s2), (20, B false), (38, B ((decide ((s2 : Int) > 0)) && ((((decide (((c12.toNat : Int) : Int) ≥ 48)) && (decide (((c12.toNat : Int) : Int) ≤ 57))) || (((c12.toNat : Int) : Int) == 45)) || (((c12.toNat : Int) : Int) == 95))))] [] ?_ ?_
            · refine eo_gsplit rfl rfl (fun hb => ?_) (fun hb => ?_)
              · refine go_ops hΓ 3 rfl ?_
                refine o_cut 3 [(0, S s), (3, I s2), (4, .d (.v (.int .u8 (c12.toNat : Int)))), (20, B false), (23, B true), (29, B ((decide (((c12.toNat : Int) : Int) ≥ 48)) && (decide (((c12.toNat : Int) : Int) ≤ 57))))] [] ?_ ?_
                · refine eo_gsplit rfl rfl (fun hb => ?_) (fun hb => ?_)
                  · refine go_ops hΓ 4 rfl ?_
                    exact ⟨⟨rfl, rfl, rfl, rfl, rfl, get_b rfl (and_t hb), trivial⟩, [], rfl, .inl rfl⟩
                  · refine go_ops hΓ 4 rfl ?_
                    exact ⟨⟨rfl, rfl, rfl, rfl, rfl, get_b rfl (and_f hb), trivial⟩, [], rfl, .inl rfl⟩
                · refine go_ops hΓ 1 rfl ?_
                  refine o_cut 3 [(0, S s), (3, I s2), (4, .d (.v (.int .u8 (c12.toNat : Int)))), (20, B false), (23, B true), (33, B (((decide (((c12.toNat : Int) : Int) ≥ 48)) && (decide (((c12.toNat : Int) : Int) ≤ 57))) || (((c12.toNat : Int) : Int) == 45)))] [] ?_ ?_
                  · refine eo_gsplit rfl rfl (fun hb => ?_) (fun hb => ?_)
                    · refine go_ops hΓ 4 rfl ?_
                      exact ⟨⟨rfl, rfl, rfl, rfl, rfl, get_b rfl (or_t hb), trivial⟩, [], rfl, .inl rfl⟩
                    · refine go_ops hΓ 4 rfl ?_
                      exact ⟨⟨rfl, rfl, rfl, rfl, rfl, get_b rfl (or_f hb), trivial⟩, [], rfl, .inl rfl⟩
                  · refine go_ops hΓ 1 rfl ?_
                    refine o_cut 3 [(0, S s), (3, I s2), (20, B false), (23, B true), (37, B ((((decide (((c12.toNat : Int) : Int) ≥ 48)) && (decide (((c12.toNat : Int) : Int) ≤ 57))) || (((c12.toNat : Int) : Int) == 45)) || (((c12.toNat : Int) : Int) == 95)))] [] ?_ ?_
                    · refine eo_gsplit rfl rfl (fun hb => ?_) (fun hb => ?_)
                      · refine go_ops hΓ 4 rfl ?_
                        exact ⟨⟨rfl, rfl, rfl, rfl, get_b rfl (or_t hb), trivial⟩, [], rfl, .inl rfl⟩
                      · refine go_ops hΓ 4 rfl ?_
                        exact ⟨⟨rfl, rfl, rfl, rfl, get_b rfl (or_f hb), trivial⟩, [], rfl, .inl rfl⟩
                    · refine go_ops hΓ 2 rfl ?_
                      exact ⟨⟨rfl, rfl, rfl, get_b rfl (and_t hb), trivial⟩, [], rfl, .inl rfl⟩
              · refine go_ops hΓ 16 rfl ?_
                exact ⟨⟨rfl, rfl, rfl, get_b rfl (and_f hb), trivial⟩, [], rfl, .inl rfl⟩
            · refine go_ops hΓ 2 rfl ?_
              exact ⟨⟨rfl, rfl, get_b rfl (or_f hb), trivial⟩, [], rfl, .inl rfl⟩
        · refine go_ops hΓ 3 rfl ?_
          refine j_cond rfl (fun hb => ?_) (fun hb => ?_)
          · have h14 := cT h13 hb
            refine go hΓ 8 rfl ?_
            obtain ⟨v15, hv15, h16⟩ := bi_ok h14
            obtain rfl := Option.some.inj h16
            obtain rfl := hout9 _ rfl
            obtain rfl := Option.some.inj h5
            refine go hΓ 4 rfl ?_
            obtain rfl := Option.some.inj hv15
            exact fin_pure hΓ (.inr rfl) rfl rfl
          · have h17 := cF h13 hb
            refine go hΓ 8 rfl ?_
            obtain rfl := Option.some.inj h17
            exact ⟨_, rfl, ⟨⟨rfl, rfl, trivial⟩, [], rfl, .inl rfl⟩⟩
    · have h18 := cF hy8 hb
      refine go hΓ 4 rfl ?_
      obtain rfl := Option.some.inj h18
      obtain rfl := hout9 _ rfl
      exact ⟨_, rfl, ⟨⟨rfl, trivial⟩, [], rfl, .inl rfl⟩⟩
  · intro a6 ha
    subst ha
    replace h5 := orI_l h5
    refine go hΓ 6 rfl ?_
    refine o_cut 4 [(47, B ((!((s : Str) == [])) && (decide (((s.length : Int) : Int) ≤ 40))))] [] ?_ ?_
    · refine eo_gsplit rfl rfl (fun hb => ?_) (fun hb => ?_)
      · refine go_ops hΓ 5 rfl ?_
        exact ⟨⟨get_b rfl (and_t hb), trivial⟩, [], rfl, .inl rfl⟩
      · refine go_ops hΓ 5 rfl ?_
        exact ⟨⟨get_b rfl (and_f hb), trivial⟩, [], rfl, .inl rfl⟩
    · refine go_ops hΓ 4 rfl ?_
      obtain rfl := Option.some.inj h5
      exact fin_pure hΓ (.inr rfl) rfl rfl
set_option maxHeartbeats 8000000 in
theorem c_name_calledFault {k : Nat} {l : List T_api_Called} {r : Int} (h : m_name_calledFault k l = some r) : Pure Tryz.prog 44 [.d (Sl e_api_Called l)] (I r) := by
  refine Pure.enter (Fr.of 0 _) Tryz.func44 rfl (Fr.of_ok _) rfl rfl ?_
  refine go_in ?_
  unfold m_name_calledFault at h
  refine go hΓ 13 rfl ?_
  refine j_cond rfl (fun hb => ?_) (fun hb => ?_)
  · have h1 := cT h hb
    refine go hΓ 7 rfl ?_
    obtain rfl := Option.some.inj h1
    exact fin_pure hΓ (.inr rfl) rfl rfl
  · have h2 := cF h hb
    refine go hΓ 10 rfl ?_
    obtain ⟨q6, hq6, h7⟩ := bi_ok h2
    refine j_bound 0 rfl fun hb9 => ?_
    refine j_cutEZ (R := fun a8 => q6 = .go a8) (fun a8 => []) (fun a8 => []) ?_ ?_
    · refine go hΓ 1 rfl ?_
      refine j_range l hq6 (fun i3 s4 => [(0, .d (Sl e_api_Called l)), (8, .d (Sl e_api_Called l)), (9, I (l.length : Int)), (10, I (i3 : Int))]) (fun s4 => []) ⟨⟨rfl, rfl, rfl, rfl, trivial⟩, [], rfl, .inl rfl⟩ (fun i3 x5 s4 y13 hx10 hlt hy11 hout12 => ?_) (fun s4 hgo => ?_)
      · refine go hΓ 6 rfl ?_
        refine j_condT rfl (decide_eq_true (Int.ofNat_lt.2 hlt)) ?_
        refine go hΓ 7 rfl ?_
        refine eo_o rfl (op_elemZ hΓ (enc := e_api_Called) (getZ_nat hx10) rfl rfl rfl rfl rfl (fun _ => rfl)) ?_
        refine go_ops hΓ 1 rfl ?_
        refine eo_alloc hΓ rfl rfl rfl (Nat.le_of_ble_eq_true rfl) ?_
        refine go_ops hΓ 1 rfl ?_
        refine eo_store hΓ rfl rfl rfl rfl rfl rfl rfl rfl (Nat.le_of_ble_eq_true rfl) ?_
        refine eo_hp [.box 76 [S x5.Node, S x5.Label]] rfl ?_
        obtain ⟨y14, hy14, h15⟩ := bi_ok hy11
        refine go_ops hΓ 7 rfl ?_
        refine eo_callP (callable Tryz.func75 rfl rfl) (c_kit_IsKey hy14) rfl (Nat.le_of_ble_eq_true rfl) rfl rfl rfl rfl rfl ?_
        refine go_ops hΓ 2 rfl ?_
        obtain ⟨q16, hq16, h17⟩ := bi_ok h15
        refine o_cut 5 [(0, .d (Sl e_api_Called l)), (3, I (i3 : Int)), (4, .ptr 0 0), (8, .d (Sl e_api_Called l)), (9, I (l.length : Int)), (10, I (i3 : Int)), (24, B q16)] [.box 76 [S x5.Node, S x5.Label]] ?_ ?_
        · refine eo_gsplit rfl rfl (fun hb => ?_) (fun hb => ?_)
          · have h18 := cT hq16 hb
            refine go_ops hΓ 6 rfl ?_
            obtain rfl := Option.some.inj h18
            exact ⟨⟨rfl, rfl, rfl, rfl, rfl, rfl, rfl, trivial⟩, [], rfl, .inl rfl⟩
          · have h19 := cF hq16 hb
            obtain ⟨y20, hy20, h21⟩ := bi_ok h19
            refine go_ops hΓ 2 rfl ?_
            refine eo_guard rfl ?_
            refine eo_callP (callable Tryz.func61 rfl rfl) (c_name_isLabel hy20) rfl (Nat.le_of_ble_eq_true rfl) rfl rfl rfl rfl rfl ?_
            refine go_ops hΓ 3 rfl ?_
            obtain rfl := Option.some.inj h21
            exact ⟨⟨rfl, rfl, rfl, rfl, rfl, rfl, rfl, trivial⟩, [], rfl, .inl rfl⟩
        · refine go_ops hΓ 2 rfl ?_
          refine j_cond rfl (fun hb => ?_) (fun hb => ?_)
          · have h22 := cT h17 hb
            refine go hΓ 9 rfl ?_
            obtain ⟨v23, hv23, h24⟩ := bi_ok h22
            obtain rfl := Option.some.inj h24
            obtain rfl := hout12 _ rfl
            obtain rfl := Option.some.inj h7
            refine go hΓ 4 rfl ?_
            obtain rfl := Option.some.inj hv23
            exact fin_pure hΓ (.inr rfl) rfl rfl
          · have h25 := cF h17 hb
            obtain ⟨q26, hq26, h27⟩ := bi_ok h25
            refine go hΓ 3 rfl ?_
            refine j_cutNZ [(0, .d (Sl e_api_Called l)), (8, .d (Sl e_api_Called l)), (9, I (l.length : Int)), (10, I (i3 : Int)), (37, B q26)] [.box 76 [S x5.Node, S x5.Label]] ?_ ?_
            · refine j_draw hmix (by kernel_rfl) ?_
              refine go hΓ 3 rfl ?_
              refine gl_gsplit rfl rfl (fun hb => ?_) (fun hb => ?_)
              · have h28 := cT hq26 hb
                obtain ⟨x29, hx29, h30⟩ := bi_ok h28
                refine go_draw hΓ 5 rfl ?_
                refine gl_og rfl rfl (op_elemZ hΓ (enc := e_api_Called) hx29 rfl rfl rfl rfl rfl (fun _ => rfl)) ?_
                refine go_draw hΓ 5 rfl ?_
                obtain rfl := Option.some.inj h30
                exact ⟨⟨rfl, rfl, rfl, rfl, rfl, trivial⟩, [], rfl, .inl rfl⟩
              · have h31 := cF hq26 hb
                refine go_draw hΓ 11 rfl ?_
                obtain rfl := Option.some.inj h31
                exact ⟨⟨rfl, rfl, rfl, rfl, rfl, trivial⟩, [], rfl, .inl rfl⟩
            · refine go hΓ 1 rfl ?_
              refine j_cond rfl (fun hb => ?_) (fun hb => ?_)
              · have h32 := cT h27 hb
                refine go hΓ 8 rfl ?_
                obtain ⟨v33, hv33, h34⟩ := bi_ok h32
                obtain rfl := Option.some.inj h34
                obtain rfl := hout12 _ rfl
                obtain rfl := Option.some.inj h7
                refine go hΓ 4 rfl ?_
                obtain rfl := Option.some.inj hv33
                exact fin_pure hΓ (.inr rfl) rfl rfl
              · have h35 := cF h27 hb
                refine go hΓ 7 rfl ?_
                obtain rfl := Option.some.inj h35
                exact ⟨_, rfl, ⟨⟨rfl, rfl, rfl, get_eq rfl (w64_succ (Nat.lt_of_lt_of_le hlt hb9)), trivial⟩, [_], rfl, .inr ⟨HB.mk rfl, FB.mk rfl, (Nat.le_of_ble_eq_true rfl)⟩⟩⟩
      · subst hgo
        refine go hΓ 6 rfl ?_
        refine j_condF rfl (decide_eq_false (Int.lt_irrefl _)) ?_
        refine go hΓ 4 rfl ?_
        exact ⟨_, rfl, ⟨trivial, [], rfl, .inl rfl⟩⟩
    · intro a8 ha
      subst ha
      replace h7 := goI_l h7
      refine go hΓ 7 rfl ?_
      obtain rfl := Option.some.inj h7
      exact fin_pure hΓ (.inr rfl) rfl rfl
theorem c_addr_CheckAddr {a : T_api_Addr} {r : Int} (h : m_addr_CheckAddr a = some r) : Pure Tryz.prog 25 [.agg [B a.Six, U a.Hi, U a.Lo]] (I r) := by
  refine Pure.enter (Fr.of 0 _) Tryz.func25 rfl (Fr.of_ok _) rfl rfl ?_
  refine go_in ?_
  unfold m_addr_CheckAddr at h
  refine go hΓ 2 rfl ?_
  refine eo_box rfl rfl rfl rfl (Nat.le_of_ble_eq_true rfl) ?_
  refine go_ops hΓ 10 rfl ?_
  refine o_cut 9 [(15, B ((!a.Six) && (((a.Hi : Int) != 0) || (decide ((a.Lo : Int) ≥ 4294967296)))))] [.box 28 [B a.Six, U a.Hi, U a.Lo]] ?_ ?_
  · refine eo_gsplit rfl rfl (fun hb => ?_) (fun hb => ?_)
    · refine go_ops hΓ 4 rfl ?_
      refine o_cut 4 [(6, B true), (14, B (((a.Hi : Int) != 0) || (decide ((a.Lo : Int) ≥ 4294967296))))] [.box 28 [B a.Six, U a.Hi, U a.Lo]] ?_ ?_
      · refine eo_gsplit rfl rfl (fun hb => ?_) (fun hb => ?_)
        · refine go_ops hΓ 5 rfl ?_
          exact ⟨⟨rfl, get_b rfl (or_t hb), trivial⟩, [], rfl, .inl rfl⟩
        · refine go_ops hΓ 5 rfl ?_
          exact ⟨⟨rfl, get_b rfl (or_f hb), trivial⟩, [], rfl, .inl rfl⟩
      · refine go_ops hΓ 2 rfl ?_
        exact ⟨⟨get_b rfl (and_t hb), trivial⟩, [], rfl, .inl rfl⟩
    · refine go_ops hΓ 10 rfl ?_
      exact ⟨⟨get_b rfl (and_f hb), trivial⟩, [], rfl, .inl rfl⟩
  · refine go_ops hΓ 2 rfl ?_
    refine j_cond rfl (fun hb => ?_) (fun hb => ?_)
    · have h1 := cT h hb
      refine go hΓ 7 rfl ?_
      obtain rfl := Option.some.inj h1
      exact fin_pure hΓ (.inr rfl) rfl rfl
    · have h2 := cF h hb
      refine go hΓ 8 rfl ?_
      obtain rfl := Option.some.inj h2
      exact fin_pure hΓ (.inr rfl) rfl rfl
set_option maxHeartbeats 8000000 in
theorem c_name_nodesFault {k : Nat} {l : List T_api_Node} {r : Int} (h : m_name_nodesFault k l = some r) : Pure Tryz.prog 45 [.d (Sl e_api_Node l)] (I r) := by
  refine Pure.enter (Fr.of 0 _) Tryz.func45 rfl (Fr.of_ok _) rfl rfl ?_
  refine go_in ?_
  unfold m_name_nodesFault at h
  refine go hΓ 13 rfl ?_
  refine j_cond rfl (fun hb => ?_) (fun hb => ?_)
  · have h1 := cT h hb
    refine go hΓ 7 rfl ?_
    obtain rfl := Option.some.inj h1
    exact fin_pure hΓ (.inr rfl) rfl rfl
  · have h2 := cF h hb
    refine go hΓ 10 rfl ?_
    obtain ⟨q6, hq6, h7⟩ := bi_ok h2
    refine j_bound 0 rfl fun hb9 => ?_
    refine j_cutEZ (R := fun a8 => q6 = .go a8) (fun a8 => []) (fun a8 => []) ?_ ?_
    · refine go hΓ 1 rfl ?_
      refine j_range l hq6 (fun i3 s4 => [(0, .d (Sl e_api_Node l)), (11, .d (Sl e_api_Node l)), (12, I (l.length : Int)), (13, I (i3 : Int))]) (fun s4 => []) ⟨⟨rfl, rfl, rfl, rfl, trivial⟩, [], rfl, .inl rfl⟩ (fun i3 x5 s4 y13 hx10 hlt hy11 hout12 => ?_) (fun s4 hgo => ?_)
      · refine go hΓ 6 rfl ?_
        refine j_condT rfl (decide_eq_true (Int.ofNat_lt.2 hlt)) ?_
        refine go hΓ 7 rfl ?_
        refine eo_o rfl (op_elemZ hΓ (enc := e_api_Node) (getZ_nat hx10) rfl rfl rfl rfl rfl (fun _ => rfl)) ?_
        refine go_ops hΓ 1 rfl ?_
        refine eo_alloc hΓ rfl rfl rfl (Nat.le_of_ble_eq_true rfl) ?_
        refine go_ops hΓ 1 rfl ?_
        refine eo_store hΓ rfl rfl rfl rfl rfl rfl rfl rfl (Nat.le_of_ble_eq_true rfl) ?_
        refine eo_hp [.box 81 [S x5.Key, S x5.User, S x5.Name, .d (Sl eS x5.Tags), .d (Sl e_api_Addr x5.Addrs), .d (Sl e_api_Prefix x5.Routes)]] rfl ?_
        obtain ⟨y14, hy14, h15⟩ := bi_ok hy11
        refine go_ops hΓ 8 rfl ?_
        refine eo_callP (callable Tryz.func75 rfl rfl) (c_kit_IsKey hy14) rfl (Nat.le_of_ble_eq_true rfl) rfl rfl rfl rfl rfl ?_
        refine go_ops hΓ 4 rfl ?_
        refine j_cond rfl (fun hb => ?_) (fun hb => ?_)
        · have h16 := cT h15 hb
          refine go hΓ 10 rfl ?_
          obtain ⟨v17, hv17, h18⟩ := bi_ok h16
          obtain rfl := Option.some.inj h18
          obtain rfl := hout12 _ rfl
          obtain rfl := Option.some.inj h7
          refine go hΓ 4 rfl ?_
          obtain rfl := Option.some.inj hv17
          exact fin_pure hΓ (.inr rfl) rfl rfl
        · have h19 := cF h15 hb
          obtain ⟨q20, hq20, h21⟩ := bi_ok h19
          refine go hΓ 1 rfl ?_
          refine j_cutNZ [(0, .d (Sl e_api_Node l)), (4, .ptr 0 0), (11, .d (Sl e_api_Node l)), (12, I (l.length : Int)), (13, I (i3 : Int)), (23, B q20)] [.box 81 [S x5.Key, S x5.User, S x5.Name, .d (Sl eS x5.Tags), .d (Sl e_api_Addr x5.Addrs), .d (Sl e_api_Prefix x5.Routes)]] ?_ ?_
          · refine j_draw hmix (by kernel_rfl) ?_
            refine go hΓ 3 rfl ?_
            refine gl_gsplit rfl rfl (fun hb => ?_) (fun hb => ?_)
            · have h22 := cT hq20 hb
              obtain ⟨x23, hx23, h24⟩ := bi_ok h22
              refine go_draw hΓ 5 rfl ?_
              refine gl_og rfl rfl (op_elemZ hΓ (enc := e_api_Node) hx23 rfl rfl rfl rfl rfl (fun _ => rfl)) ?_
              refine go_draw hΓ 6 rfl ?_
              obtain rfl := Option.some.inj h24
              exact ⟨⟨rfl, rfl, rfl, rfl, rfl, rfl, trivial⟩, [], rfl, .inl rfl⟩
            · have h25 := cF hq20 hb
              refine go_draw hΓ 12 rfl ?_
              obtain rfl := Option.some.inj h25
              exact ⟨⟨rfl, rfl, rfl, rfl, rfl, rfl, trivial⟩, [], rfl, .inl rfl⟩
          · refine go hΓ 1 rfl ?_
            refine j_cond rfl (fun hb => ?_) (fun hb => ?_)
            · have h26 := cT h21 hb
              refine go hΓ 10 rfl ?_
              obtain ⟨v27, hv27, h28⟩ := bi_ok h26
              obtain rfl := Option.some.inj h28
              obtain rfl := hout12 _ rfl
              obtain rfl := Option.some.inj h7
              refine go hΓ 4 rfl ?_
              obtain rfl := Option.some.inj hv27
              exact fin_pure hΓ (.inr rfl) rfl rfl
            · have h29 := cF h21 hb
              refine go hΓ 9 rfl ?_
              refine j_cond rfl (fun hb => ?_) (fun hb => ?_)
              · have h30 := cT h29 hb
                refine go hΓ 10 rfl ?_
                obtain ⟨v31, hv31, h32⟩ := bi_ok h30
                obtain rfl := Option.some.inj h32
                obtain rfl := hout12 _ rfl
                obtain rfl := Option.some.inj h7
                refine go hΓ 4 rfl ?_
                obtain rfl := Option.some.inj hv31
                exact fin_pure hΓ (.inr rfl) rfl rfl
              · have h33 := cF h29 hb
                refine go hΓ 11 rfl ?_
                obtain ⟨q37, hq37, h38⟩ := bi_ok h33
                refine j_bound 43 rfl fun hb40 => ?_
                refine j_cutEZ (R := fun a39 => q37 = .go a39) (fun a39 => [(0, .d (Sl e_api_Node l)), (11, .d (Sl e_api_Node l)), (12, I (l.length : Int)), (13, I (i3 : Int))]) (fun a39 => [.box 81 [S x5.Key, S x5.User, S x5.Name, .d (Sl eS x5.Tags), .d (Sl e_api_Addr x5.Addrs), .d (Sl e_api_Prefix x5.Routes)]]) ?_ ?_
                · refine go hΓ 1 rfl ?_
                  refine j_range x5.Addrs hq37 (fun i34 s35 => [(0, .d (Sl e_api_Node l)), (11, .d (Sl e_api_Node l)), (12, I (l.length : Int)), (13, I (i3 : Int)), (43, .d (Sl e_api_Addr x5.Addrs)), (44, I (x5.Addrs.length : Int)), (45, I (i34 : Int))]) (fun s35 => [.box 81 [S x5.Key, S x5.User, S x5.Name, .d (Sl eS x5.Tags), .d (Sl e_api_Addr x5.Addrs), .d (Sl e_api_Prefix x5.Routes)]]) ⟨⟨rfl, rfl, rfl, rfl, rfl, rfl, rfl, trivial⟩, [], rfl, .inl rfl⟩ (fun i34 x36 s35 y44 hx41 hlt hy42 hout43 => ?_) (fun s35 hgo => ?_)
                  · refine go hΓ 6 rfl ?_
                    refine j_condT rfl (decide_eq_true (Int.ofNat_lt.2 hlt)) ?_
                    refine go hΓ 6 rfl ?_
                    refine eo_o rfl (op_elemZ hΓ (enc := e_api_Addr) (getZ_nat hx41) rfl rfl rfl rfl rfl (fun _ => rfl)) ?_
                    refine go_ops hΓ 1 rfl ?_
                    refine eo_alloc hΓ rfl rfl rfl (Nat.le_of_ble_eq_true rfl) ?_
                    refine eo_store hΓ rfl rfl rfl rfl rfl rfl rfl rfl (Nat.le_of_ble_eq_true rfl) ?_
                    refine eo_hp [.box 81 [S x5.Key, S x5.User, S x5.Name, .d (Sl eS x5.Tags), .d (Sl e_api_Addr x5.Addrs), .d (Sl e_api_Prefix x5.Routes)], .box 28 [B x36.Six, U x36.Hi, U x36.Lo]] rfl ?_
                    obtain ⟨y45, hy45, h46⟩ := bi_ok hy42
                    refine go_ops hΓ 5 rfl ?_
                    refine eo_callP (callable Tryz.func25 rfl rfl) (c_addr_CheckAddr hy45) rfl (Nat.le_of_ble_eq_true rfl) rfl rfl rfl rfl rfl ?_
                    refine go_ops hΓ 9 rfl ?_
                    refine j_cond rfl (fun hb => ?_) (fun hb => ?_)
                    · have h47 := cT h46 hb
                      refine go hΓ 9 rfl ?_
                      obtain ⟨v48, hv48, h49⟩ := bi_ok h47
                      obtain rfl := Option.some.inj h49
                      obtain rfl := hout43 _ rfl
                      obtain rfl := Option.some.inj h38
                      refine go hΓ 5 rfl ?_
                      obtain ⟨v50, hv50, h51⟩ := bi_ok hv48
                      obtain rfl := Option.some.inj h51
                      obtain rfl := hout12 _ rfl
                      obtain rfl := Option.some.inj h7
                      refine go hΓ 4 rfl ?_
                      obtain rfl := Option.some.inj hv50
                      exact fin_pure hΓ (.inr rfl) rfl rfl
                    · have h52 := cF h46 hb
                      refine go hΓ 7 rfl ?_
                      obtain rfl := Option.some.inj h52
                      exact ⟨_, rfl, ⟨⟨rfl, rfl, rfl, rfl, rfl, rfl, get_eq rfl (w64_succ (Nat.lt_of_lt_of_le hlt hb40)), trivial⟩, [_], rfl, .inr ⟨HB.mk rfl, FB.mk rfl, (Nat.le_of_ble_eq_true rfl)⟩⟩⟩
                  · subst hgo
                    refine go hΓ 6 rfl ?_
                    refine j_condF rfl (decide_eq_false (Int.lt_irrefl _)) ?_
                    refine go hΓ 4 rfl ?_
                    exact ⟨_, rfl, ⟨⟨rfl, rfl, rfl, rfl, trivial⟩, [], rfl, .inl rfl⟩⟩
                · intro a39 ha
                  subst ha
                  replace h38 := goI_l h38
                  refine go hΓ 6 rfl ?_
                  obtain rfl := Option.some.inj h38
                  exact ⟨_, rfl, ⟨⟨rfl, rfl, rfl, get_eq rfl (w64_succ (Nat.lt_of_lt_of_le hlt hb9)), trivial⟩, [_], rfl, .inr ⟨HB.mk rfl, FB.mk rfl, (Nat.le_of_ble_eq_true rfl)⟩⟩⟩
      · subst hgo
        refine go hΓ 6 rfl ?_
        refine j_condF rfl (decide_eq_false (Int.lt_irrefl _)) ?_
        refine go hΓ 4 rfl ?_
        exact ⟨_, rfl, ⟨trivial, [], rfl, .inl rfl⟩⟩
    · intro a8 ha
      subst ha
      replace h7 := goI_l h7
      refine go hΓ 7 rfl ?_
      obtain rfl := Option.some.inj h7
      exact fin_pure hΓ (.inr rfl) rfl rfl
set_option maxHeartbeats 8000000 in
theorem c_name_back {k : Nat} {a : T_api_Addr} {r : Str} (h : m_name_back k a = some r) : Pure Tryz.prog 26 [.agg [B a.Six, U a.Hi, U a.Lo]] (S r) := by
  refine Pure.enter (Fr.of 0 _) Tryz.func26 rfl (Fr.of_ok _) rfl rfl ?_
  refine go_in ?_
  unfold m_name_back at h
  refine go hΓ 2 rfl ?_
  refine eo_box rfl rfl rfl rfl (Nat.le_of_ble_eq_true rfl) ?_
  refine go_ops hΓ 5 rfl ?_
  refine eo_nilOwn (t := 0) 9 1 rfl (Nat.le_of_ble_eq_true rfl) ?_
  refine go_ops hΓ 10 rfl ?_
  refine j_cond rfl (fun hb => ?_) (fun hb => ?_)
  · have h1 := cT h hb
    refine go hΓ 6 rfl ?_
    obtain ⟨q5, hq5, h6⟩ := bi_ok h1
    refine j_cutNZ [(3, .sl 1 q5.length)] [.box 28 [B a.Six, U a.Hi, U a.Lo], .row 9 1 q5.length (q5.flatMap eS)] ?_ ?_
    · refine go hΓ 1 rfl ?_
      refine j_loop hq5 (fun s3 => [(1, .ptr 0 0), (3, .sl 1 s3.1.length), (11, I s3.2)]) (fun s3 => [.box 28 [B a.Six, U a.Hi, U a.Lo], .row 9 1 s3.1.length (s3.1.flatMap eS)]) ⟨⟨rfl, rfl, rfl, trivial⟩, [], rfl, .inl rfl⟩ (fun s3 y11 hy9 hout10 => ?_)
      refine go hΓ 6 rfl ?_
      refine j_cond rfl (fun hb => ?_) (fun hb => ?_)
      · have h12 := cT hy9 hb
        obtain ⟨y13, hy13, h14⟩ := bi_ok h12
        refine go hΓ 16 rfl ?_
        refine eo_o rfl (op_shrZ hy13 rfl rfl) ?_
        obtain ⟨y15, hy15, h16⟩ := bi_ok h14
        refine go_ops hΓ 1 rfl ?_
        refine eo_callP (callable Tryz.func58 rfl rfl) (c_strconv_FormatUint hy15) rfl (Nat.le_of_ble_eq_true rfl) rfl rfl rfl rfl rfl ?_
        refine eo_litT hΓ (enc := eS) [y15] rfl rfl rfl rfl rfl rfl rfl rfl rfl rfl rfl rfl (Nat.le_of_ble_eq_true rfl) ?_
        obtain ⟨y17, hy17, h18⟩ := bi_ok h16
        refine eo_appendT hΓ (enc := eS) hy17 rfl rfl rfl rfl rfl rfl rfl rfl rfl (fun _ => rfl) rfl rfl rfl rfl ?_
        refine go_ops hΓ 8 rfl ?_
        obtain rfl := Option.some.inj h18
        exact ⟨_, rfl, ⟨⟨rfl, rfl, rfl, trivial⟩, [], rfl, .inl rfl⟩⟩
      · have h19 := cF hy9 hb
        refine go hΓ 4 rfl ?_
        obtain rfl := Option.some.inj h19
        obtain rfl := hout10 _ rfl
        exact ⟨⟨rfl, trivial⟩, [], rfl, .inl rfl⟩
    · obtain ⟨y20, hy20, h21⟩ := bi_ok h6
      refine go hΓ 4 rfl ?_
      refine eo_callL (callable Tryz.func59 rfl rfl) (c_strings_Join hy20) rfl (Nat.le_of_ble_eq_true rfl) rfl rfl rfl rfl rfl ?_
      obtain ⟨y22, hy22, h23⟩ := bi_ok h21
      refine eo_o rfl (op_catZ hy22 rfl rfl) ?_
      refine go_ops hΓ 5 rfl ?_
      obtain rfl := Option.some.inj h23
      exact fin_pure hΓ (.inr rfl) rfl rfl
  · have h24 := cF h hb
    refine go hΓ 9 rfl ?_
    refine eo_o rfl (op_buildA hΓ (gs := [U a.Lo, U a.Hi]) rfl rfl rfl rfl rfl rfl) ?_
    refine go_ops hΓ 3 rfl ?_
    obtain ⟨q28, hq28, h29⟩ := bi_ok h24
    refine j_cutNZ [(3, .sl 1 q28.length)] [.box 28 [B a.Six, U a.Hi, U a.Lo], .row 9 1 q28.length (q28.flatMap eS)] ?_ ?_
    · refine go hΓ 1 rfl ?_
      refine j_loop hq28 (fun s26 => [(3, .sl 1 s26.1.length), (32, .agg [U a.Lo, U a.Hi]), (33, I s26.2)]) (fun s26 => [.box 28 [B a.Six, U a.Hi, U a.Lo], .row 9 1 s26.1.length (s26.1.flatMap eS)]) ⟨⟨rfl, rfl, rfl, trivial⟩, [], rfl, .inl rfl⟩ (fun s26 y34 hy32 hout33 => ?_)
      refine go hΓ 6 rfl ?_
      refine j_cond rfl (fun hb => ?_) (fun hb => ?_)
      · have h35 := cT hy32 hb
        obtain ⟨x36, hx36, h37⟩ := bi_ok h35
        refine go hΓ 6 rfl ?_
        refine eo_o rfl (op_indexArrZ hΓ (enc := (eN .u64)) [a.Lo, a.Hi] hx36 rfl rfl rfl rfl rfl rfl rfl (fun _ => rfl) rfl) ?_
        refine go_ops hΓ 8 rfl ?_
        obtain ⟨q41, hq41, h42⟩ := bi_ok h37
        refine j_cutNZ [(3, .sl 1 q41.length), (32, .agg [U a.Lo, U a.Hi]), (33, I s26.2)] [.box 28 [B a.Six, U a.Hi, U a.Lo], .row 9 1 q41.length (q41.flatMap eS)] ?_ ?_
        · refine go hΓ 1 rfl ?_
          refine j_loop hq41 (fun s39 => [(3, .sl 1 s39.1.length), (6, U x36), (32, .agg [U a.Lo, U a.Hi]), (33, I s26.2), (36, I s39.2)]) (fun s39 => [.box 28 [B a.Six, U a.Hi, U a.Lo], .row 9 1 s39.1.length (s39.1.flatMap eS)]) ⟨⟨rfl, rfl, rfl, rfl, rfl, trivial⟩, [], rfl, .inl rfl⟩ (fun s39 y47 hy45 hout46 => ?_)
          refine go hΓ 6 rfl ?_
          refine j_cond rfl (fun hb => ?_) (fun hb => ?_)
          · have h48 := cT hy45 hb
            obtain ⟨y49, hy49, h50⟩ := bi_ok h48
            refine go hΓ 15 rfl ?_
            refine eo_o rfl (op_shrZ hy49 rfl rfl) ?_
            obtain ⟨y51, hy51, h52⟩ := bi_ok h50
            refine go_ops hΓ 1 rfl ?_
            refine eo_callP (callable Tryz.func58 rfl rfl) (c_strconv_FormatUint hy51) rfl (Nat.le_of_ble_eq_true rfl) rfl rfl rfl rfl rfl ?_
            refine eo_litT hΓ (enc := eS) [y51] rfl rfl rfl rfl rfl rfl rfl rfl rfl rfl rfl rfl (Nat.le_of_ble_eq_true rfl) ?_
            obtain ⟨y53, hy53, h54⟩ := bi_ok h52
            refine eo_appendT hΓ (enc := eS) hy53 rfl rfl rfl rfl rfl rfl rfl rfl rfl (fun _ => rfl) rfl rfl rfl rfl ?_
            refine go_ops hΓ 8 rfl ?_
            obtain rfl := Option.some.inj h54
            exact ⟨_, rfl, ⟨⟨rfl, rfl, rfl, rfl, rfl, trivial⟩, [], rfl, .inl rfl⟩⟩
          · have h55 := cF hy45 hb
            refine go hΓ 4 rfl ?_
            obtain rfl := Option.some.inj h55
            obtain rfl := hout46 _ rfl
            exact ⟨⟨rfl, rfl, rfl, trivial⟩, [], rfl, .inl rfl⟩
        · refine go hΓ 6 rfl ?_
          obtain rfl := Option.some.inj h42
          exact ⟨_, rfl, ⟨⟨rfl, rfl, rfl, trivial⟩, [], rfl, .inl rfl⟩⟩
      · have h56 := cF hy32 hb
        refine go hΓ 4 rfl ?_
        obtain rfl := Option.some.inj h56
        obtain rfl := hout33 _ rfl
        exact ⟨⟨rfl, trivial⟩, [], rfl, .inl rfl⟩
    · obtain ⟨y57, hy57, h58⟩ := bi_ok h29
      refine go hΓ 4 rfl ?_
      refine eo_callL (callable Tryz.func59 rfl rfl) (c_strings_Join hy57) rfl (Nat.le_of_ble_eq_true rfl) rfl rfl rfl rfl rfl ?_
      obtain ⟨y59, hy59, h60⟩ := bi_ok h58
      refine eo_o rfl (op_catZ hy59 rfl rfl) ?_
      refine go_ops hΓ 4 rfl ?_
      obtain rfl := Option.some.inj h60
      exact fin_pure hΓ (.inr rfl) rfl rfl
theorem c_name_under {name : Str} {zone : Str} {r : Bool} (h : m_name_under name zone = some r) : Pure Tryz.prog 46 [S name, S zone] (B r) := by
  refine Pure.enter (Fr.of 0 _) Tryz.func46 rfl (Fr.of_ok _) rfl rfl ?_
  refine go_in ?_
  unfold m_name_under at h
  refine go hΓ 11 rfl ?_
  obtain ⟨q1, hq1, h2⟩ := bi_ok h
  refine o_cut 5 [(4, B false), (13, B q1)] [] ?_ ?_
  · refine eo_gsplit rfl rfl (fun hb => ?_) (fun hb => ?_)
    · have h3 := cT hq1 hb
      refine go_ops hΓ 6 rfl ?_
      obtain rfl := Option.some.inj h3
      exact ⟨⟨rfl, rfl, trivial⟩, [], rfl, .inl rfl⟩
    · have h4 := cF hq1 hb
      obtain ⟨y5, hy5, h6⟩ := bi_ok h4
      refine go_ops hΓ 2 rfl ?_
      refine eo_guard rfl ?_
      refine eo_o rfl (op_catZ hy5 rfl rfl) ?_
      obtain ⟨y7, hy7, h8⟩ := bi_ok h6
      refine eo_guard rfl ?_
      refine eo_callP (callable Tryz.func76 rfl rfl) (c_strings_HasSuffix hy7) rfl (Nat.le_of_ble_eq_true rfl) rfl rfl rfl rfl rfl ?_
      refine go_ops hΓ 2 rfl ?_
      obtain rfl := Option.some.inj h8
      exact ⟨⟨rfl, rfl, trivial⟩, [], rfl, .inl rfl⟩
  · refine go_ops hΓ 4 rfl ?_
    obtain rfl := Option.some.inj h2
    exact fin_pure hΓ (.inr rfl) rfl rfl
theorem c_cmp_isNaN_int {x : Int} {r : Bool} (h : m_cmp_isNaN_int x = some r) : Pure Tryz.prog 130 [I x] (B r) := by
  refine Pure.enter (Fr.of 0 _) Tryz.func130 rfl (Fr.of_ok _) rfl rfl ?_
  refine go_in ?_
  unfold m_cmp_isNaN_int at h
  refine go hΓ 14 rfl ?_
  obtain rfl := Option.some.inj h
  exact fin_pure hΓ (.inr rfl) rfl rfl
theorem c_cmp_Compare_int {x : Int} {y : Int} {r : Int} (h : m_cmp_Compare_int x y = some r) : Pure Tryz.prog 81 [I x, I y] (I r) := by
  refine Pure.enter (Fr.of 0 _) Tryz.func81 rfl (Fr.of_ok _) rfl rfl ?_
  refine go_in ?_
  unfold m_cmp_Compare_int at h
  obtain ⟨y1, hy1, h2⟩ := bi_ok h
  refine go hΓ 8 rfl ?_
  refine eo_callP (callable Tryz.func130 rfl rfl) (c_cmp_isNaN_int hy1) rfl (Nat.le_of_ble_eq_true rfl) rfl rfl rfl rfl rfl ?_
  obtain ⟨y3, hy3, h4⟩ := bi_ok h2
  refine go_ops hΓ 6 rfl ?_
  refine eo_callP (callable Tryz.func130 rfl rfl) (c_cmp_isNaN_int hy3) rfl (Nat.le_of_ble_eq_true rfl) rfl rfl rfl rfl rfl ?_
  refine go_ops hΓ 9 rfl ?_
  refine j_cond rfl (fun hb => ?_) (fun hb => ?_)
  · have h5 := cT h4 hb
    refine go hΓ 6 rfl ?_
    refine j_cond rfl (fun hb => ?_) (fun hb => ?_)
    · have h6 := cT h5 hb
      refine go hΓ 8 rfl ?_
      obtain rfl := Option.some.inj h6
      exact fin_pure hΓ (.inr rfl) rfl rfl
    · have h7 := cF h5 hb
      refine go hΓ 9 rfl ?_
      obtain rfl := Option.some.inj h7
      exact fin_pure hΓ (.inr rfl) rfl rfl
  · have h8 := cF h4 hb
    refine go hΓ 8 rfl ?_
    refine j_cond rfl (fun hb => ?_) (fun hb => ?_)
    · have h9 := cT h8 hb
      refine go hΓ 7 rfl ?_
      obtain rfl := Option.some.inj h9
      exact fin_pure hΓ (.inr rfl) rfl rfl
    · have h10 := cF h8 hb
      refine go hΓ 10 rfl ?_
      refine j_cond rfl (fun hb => ?_) (fun hb => ?_)
      · have h11 := cT h10 hb
        refine go hΓ 7 rfl ?_
        obtain rfl := Option.some.inj h11
        exact fin_pure hΓ (.inr rfl) rfl rfl
      · have h12 := cF h10 hb
        refine go hΓ 10 rfl ?_
        refine j_cond rfl (fun hb => ?_) (fun hb => ?_)
        · have h13 := cT h12 hb
          refine go hΓ 7 rfl ?_
          obtain rfl := Option.some.inj h13
          exact fin_pure hΓ (.inr rfl) rfl rfl
        · have h14 := cF h12 hb
          refine go hΓ 8 rfl ?_
          obtain rfl := Option.some.inj h14
          exact fin_pure hΓ (.inr rfl) rfl rfl
theorem c_cmp_isNaN_uint64 {x : Int} {r : Bool} (h : m_cmp_isNaN_uint64 x = some r) : Pure Tryz.prog 131 [U x] (B r) := by
  refine Pure.enter (Fr.of 0 _) Tryz.func131 rfl (Fr.of_ok _) rfl rfl ?_
  refine go_in ?_
  unfold m_cmp_isNaN_uint64 at h
  refine go hΓ 14 rfl ?_
  obtain rfl := Option.some.inj h
  exact fin_pure hΓ (.inr rfl) rfl rfl
theorem c_cmp_Compare_uint64 {x : Int} {y : Int} {r : Int} (h : m_cmp_Compare_uint64 x y = some r) : Pure Tryz.prog 82 [U x, U y] (I r) := by
  refine Pure.enter (Fr.of 0 _) Tryz.func82 rfl (Fr.of_ok _) rfl rfl ?_
  refine go_in ?_
  unfold m_cmp_Compare_uint64 at h
  obtain ⟨y1, hy1, h2⟩ := bi_ok h
  refine go hΓ 8 rfl ?_
  refine eo_callP (callable Tryz.func131 rfl rfl) (c_cmp_isNaN_uint64 hy1) rfl (Nat.le_of_ble_eq_true rfl) rfl rfl rfl rfl rfl ?_
  obtain ⟨y3, hy3, h4⟩ := bi_ok h2
  refine go_ops hΓ 6 rfl ?_
  refine eo_callP (callable Tryz.func131 rfl rfl) (c_cmp_isNaN_uint64 hy3) rfl (Nat.le_of_ble_eq_true rfl) rfl rfl rfl rfl rfl ?_
  refine go_ops hΓ 9 rfl ?_
  refine j_cond rfl (fun hb => ?_) (fun hb => ?_)
  · have h5 := cT h4 hb
    refine go hΓ 6 rfl ?_
    refine j_cond rfl (fun hb => ?_) (fun hb => ?_)
    · have h6 := cT h5 hb
      refine go hΓ 8 rfl ?_
      obtain rfl := Option.some.inj h6
      exact fin_pure hΓ (.inr rfl) rfl rfl
    · have h7 := cF h5 hb
      refine go hΓ 9 rfl ?_
      obtain rfl := Option.some.inj h7
      exact fin_pure hΓ (.inr rfl) rfl rfl
  · have h8 := cF h4 hb
    refine go hΓ 8 rfl ?_
    refine j_cond rfl (fun hb => ?_) (fun hb => ?_)
    · have h9 := cT h8 hb
      refine go hΓ 7 rfl ?_
      obtain rfl := Option.some.inj h9
      exact fin_pure hΓ (.inr rfl) rfl rfl
    · have h10 := cF h8 hb
      refine go hΓ 10 rfl ?_
      refine j_cond rfl (fun hb => ?_) (fun hb => ?_)
      · have h11 := cT h10 hb
        refine go hΓ 7 rfl ?_
        obtain rfl := Option.some.inj h11
        exact fin_pure hΓ (.inr rfl) rfl rfl
      · have h12 := cF h10 hb
        refine go hΓ 10 rfl ?_
        refine j_cond rfl (fun hb => ?_) (fun hb => ?_)
        · have h13 := cT h12 hb
          refine go hΓ 7 rfl ?_
          obtain rfl := Option.some.inj h13
          exact fin_pure hΓ (.inr rfl) rfl rfl
        · have h14 := cF h12 hb
          refine go hΓ 8 rfl ?_
          obtain rfl := Option.some.inj h14
          exact fin_pure hΓ (.inr rfl) rfl rfl
theorem c_cmp_Or_int {vals : List Int} {r : Int} (h : m_cmp_Or_int vals = some r) : Pure Tryz.prog 79 [.d (Sl (eN .i64) vals)] (I r) := by
  refine Pure.enter (Fr.of 0 _) Tryz.func79 rfl (Fr.of_ok _) rfl rfl ?_
  refine go_in ?_
  unfold m_cmp_Or_int at h
  refine go hΓ 18 rfl ?_
  obtain ⟨q4, hq4, h5⟩ := bi_ok h
  refine j_bound 6 rfl fun hb7 => ?_
  refine j_cutEZ (R := fun a6 => q4 = .go a6) (fun a6 => [(3, I 0)]) (fun a6 => []) ?_ ?_
  · refine go hΓ 1 rfl ?_
    refine j_range vals hq4 (fun i1 s2 => [(3, I 0), (6, .d (Sl (eN .i64) vals)), (7, I (vals.length : Int)), (8, I (i1 : Int))]) (fun s2 => []) ⟨⟨rfl, rfl, rfl, rfl, trivial⟩, [], rfl, .inl rfl⟩ (fun i1 x3 s2 y11 hx8 hlt hy9 hout10 => ?_) (fun s2 hgo => ?_)
    · refine go hΓ 6 rfl ?_
      refine j_condT rfl (decide_eq_true (Int.ofNat_lt.2 hlt)) ?_
      refine go hΓ 6 rfl ?_
      refine eo_o rfl (op_elemZ hΓ (enc := (eN .i64)) (getZ_nat hx8) rfl rfl rfl rfl rfl (fun _ => rfl)) ?_
      refine go_ops hΓ 11 rfl ?_
      refine j_cond rfl (fun hb => ?_) (fun hb => ?_)
      · have h12 := cT hy9 hb
        refine go hΓ 9 rfl ?_
        obtain ⟨v13, hv13, h14⟩ := bi_ok h12
        obtain rfl := Option.some.inj h14
        obtain rfl := hout10 _ rfl
        obtain rfl := Option.some.inj h5
        refine go hΓ 4 rfl ?_
        obtain rfl := Option.some.inj hv13
        exact fin_pure hΓ (.inr rfl) rfl rfl
      · have h15 := cF hy9 hb
        refine go hΓ 7 rfl ?_
        obtain rfl := Option.some.inj h15
        exact ⟨_, rfl, ⟨⟨rfl, rfl, rfl, get_eq rfl (w64_succ (Nat.lt_of_lt_of_le hlt hb7)), trivial⟩, [], rfl, .inl rfl⟩⟩
    · subst hgo
      refine go hΓ 6 rfl ?_
      refine j_condF rfl (decide_eq_false (Int.lt_irrefl _)) ?_
      refine go hΓ 4 rfl ?_
      exact ⟨_, rfl, ⟨⟨rfl, trivial⟩, [], rfl, .inl rfl⟩⟩
  · intro a6 ha
    subst ha
    replace h5 := goI_l h5
    refine go hΓ 8 rfl ?_
    obtain rfl := Option.some.inj h5
    exact fin_pure hΓ (.inr rfl) rfl rfl
theorem c_name_compareRecords {a : T_api_Record} {b : T_api_Record} {r : Int} (h : m_name_compareRecords a b = some r) : Pure Tryz.prog 48 [.agg [S a.Name, I a.Kind, B a.Addr.Six, U a.Addr.Hi, U a.Addr.Lo, S a.To, S a.Words, I a.Life], .agg [S b.Name, I b.Kind, B b.Addr.Six, U b.Addr.Hi, U b.Addr.Lo, S b.To, S b.Words, I b.Life]] (I r) := by
  refine Pure.enter (Fr.of 0 _) Tryz.func48 rfl (Fr.of_ok _) rfl rfl ?_
  refine go_in ?_
  unfold m_name_compareRecords at h
  refine go hΓ 2 rfl ?_
  refine eo_box rfl rfl rfl rfl (Nat.le_of_ble_eq_true rfl) ?_
  refine eo_box rfl rfl rfl rfl (Nat.le_of_ble_eq_true rfl) ?_
  refine go_ops hΓ 4 rfl ?_
  refine j_draw hmix (by kernel_rfl) ?_
  obtain ⟨y1, hy1, h2⟩ := bi_ok h
  refine go hΓ 4 rfl ?_
  refine gl_callP (callable Tryz.func80 rfl rfl) (c_strings_Compare hy1) rfl rfl rfl rfl rfl rfl ?_
  obtain ⟨y3, hy3, h4⟩ := bi_ok h2
  refine go_draw hΓ 4 rfl ?_
  refine gl_callP (callable Tryz.func81 rfl rfl) (c_cmp_Compare_int hy3) rfl rfl rfl rfl rfl rfl ?_
  obtain ⟨y5, hy5, h6⟩ := bi_ok h4
  refine go_draw hΓ 6 rfl ?_
  refine gl_callP (callable Tryz.func82 rfl rfl) (c_cmp_Compare_uint64 hy5) rfl rfl rfl rfl rfl rfl ?_
  obtain ⟨y7, hy7, h8⟩ := bi_ok h6
  refine go_draw hΓ 6 rfl ?_
  refine gl_callP (callable Tryz.func82 rfl rfl) (c_cmp_Compare_uint64 hy7) rfl rfl rfl rfl rfl rfl ?_
  obtain ⟨y9, hy9, h10⟩ := bi_ok h8
  refine go_draw hΓ 4 rfl ?_
  refine gl_callP (callable Tryz.func80 rfl rfl) (c_strings_Compare hy9) rfl rfl rfl rfl rfl rfl ?_
  obtain ⟨y11, hy11, h12⟩ := bi_ok h10
  refine go_draw hΓ 4 rfl ?_
  refine gl_callP (callable Tryz.func80 rfl rfl) (c_strings_Compare hy11) rfl rfl rfl rfl rfl rfl ?_
  refine gl_litT hΓ (enc := (eN .i64)) [y1, y3, y5, y7, y9, y11] rfl rfl rfl rfl rfl rfl rfl rfl rfl rfl rfl rfl ?_
  obtain ⟨y13, hy13, h14⟩ := bi_ok h12
  refine gl_callP (callable Tryz.func79 rfl rfl) (c_cmp_Or_int hy13) rfl rfl rfl rfl rfl rfl ?_
  refine go_draw hΓ 4 rfl ?_
  obtain rfl := Option.some.inj h14
  exact fin_pure hΓ (.inr rfl) rfl rfl
theorem c_slices_SortFunc_api_Record_api_Record {x r : List T_api_Record} (h : m_slices_SortFunc_api_Record_api_Record x = some r) : EC Tryz.prog 47 [.sl 0 x.length, .fn (.func 48) [] []] [.row 94 8 x.length (x.flatMap e_api_Record)] fun g hp' => g = .tup [] ∧ hp' = [.row 94 8 r.length (r.flatMap e_api_Record)] :=
  haveI : Inhabited T_api_Record := ⟨(⟨[], 0, (⟨false, 0, 0⟩ : T_api_Addr), [], [], 0⟩ : T_api_Record)⟩
  EC.sortFunc Tryz.sortf47 hΓ (show Γ 94 = some _ from rfl) rfl (fun x => [(.string ⟨x.Name.toArray⟩), (.int .i64 x.Kind), (.bool x.Addr.Six), (.int .u64 x.Addr.Hi), (.int .u64 x.Addr.Lo), (.string ⟨x.To.toArray⟩), (.string ⟨x.Words.toArray⟩), (.int .i64 x.Life)]) e_api_Record (fun _ => rfl) (fun _ => rfl) (fun _ => rfl) (enters_of Tryz.func48 (by kernel_rfl) rfl) (fun h => c_name_compareRecords h) h
theorem c_name_bare {name : Str} {r : Str} (h : m_name_bare name = some r) : Pure Tryz.prog 84 [S name] (S r) := by
  refine Pure.enter (Fr.of 0 _) Tryz.func84 rfl (Fr.of_ok _) rfl rfl ?_
  refine go_in ?_
  unfold m_name_bare at h
  obtain ⟨y1, hy1, h2⟩ := bi_ok h
  refine go hΓ 8 rfl ?_
  refine eo_callP (callable Tryz.func66 rfl rfl) (c_strings_TrimPrefix hy1) rfl (Nat.le_of_ble_eq_true rfl) rfl rfl rfl rfl rfl ?_
  refine go_ops hΓ 4 rfl ?_
  obtain rfl := Option.some.inj h2
  exact fin_pure hΓ (.inr rfl) rfl rfl
theorem c_name_isKind {kind : Int} {r : Bool} (h : m_name_isKind kind = some r) : Pure Tryz.prog 132 [I kind] (B r) := by
  refine Pure.enter (Fr.of 0 _) Tryz.func132 rfl (Fr.of_ok _) rfl rfl ?_
  refine go_in ?_
  unfold m_name_isKind at h
  obtain ⟨q1, hq1, h2⟩ := bi_ok h
  refine go hΓ 19 rfl ?_
  refine j_cutNZ [(4, B q1)] [] ?_ ?_
  · refine j_cond rfl (fun hb => ?_) (fun hb => ?_)
    · have h3 := cT hq1 hb
      refine go hΓ 1 rfl ?_
      obtain rfl := Option.some.inj h3
      exact ⟨⟨rfl, trivial⟩, [], rfl, .inl rfl⟩
    · have h4 := cF hq1 hb
      refine go hΓ 6 rfl ?_
      refine j_cond rfl (fun hb => ?_) (fun hb => ?_)
      · have h5 := cT h4 hb
        refine go hΓ 1 rfl ?_
        obtain rfl := Option.some.inj h5
        exact ⟨⟨rfl, trivial⟩, [], rfl, .inl rfl⟩
      · have h6 := cF h4 hb
        refine go hΓ 6 rfl ?_
        refine j_cond rfl (fun hb => ?_) (fun hb => ?_)
        · have h7 := cT h6 hb
          refine go hΓ 1 rfl ?_
          obtain rfl := Option.some.inj h7
          exact ⟨⟨rfl, trivial⟩, [], rfl, .inl rfl⟩
        · have h8 := cF h6 hb
          refine go hΓ 6 rfl ?_
          refine j_cond rfl (fun hb => ?_) (fun hb => ?_)
          · have h9 := cT h8 hb
            refine go hΓ 1 rfl ?_
            obtain rfl := Option.some.inj h9
            exact ⟨⟨rfl, trivial⟩, [], rfl, .inl rfl⟩
          · have h10 := cF h8 hb
            refine go hΓ 4 rfl ?_
            obtain rfl := Option.some.inj h10
            exact ⟨⟨rfl, trivial⟩, [], rfl, .inl rfl⟩
  · refine go hΓ 1 rfl ?_
    refine j_cond rfl (fun hb => ?_) (fun hb => ?_)
    · have h11 := cT h2 hb
      refine go hΓ 8 rfl ?_
      obtain rfl := Option.some.inj h11
      exact fin_pure hΓ (.inr rfl) rfl rfl
    · have h12 := cF h2 hb
      refine go hΓ 9 rfl ?_
      obtain rfl := Option.some.inj h12
      exact fin_pure hΓ (.inr rfl) rfl rfl
theorem c_name_hasAddr {kind : Int} {r : Bool} (h : m_name_hasAddr kind = some r) : Pure Tryz.prog 133 [I kind] (B r) := by
  refine Pure.enter (Fr.of 0 _) Tryz.func133 rfl (Fr.of_ok _) rfl rfl ?_
  refine go_in ?_
  unfold m_name_hasAddr at h
  refine go hΓ 10 rfl ?_
  refine o_cut 3 [(2, B false), (8, B (((kind : Int) == 1) || ((kind : Int) == 28)))] [] ?_ ?_
  · refine eo_gsplit rfl rfl (fun hb => ?_) (fun hb => ?_)
    · refine go_ops hΓ 4 rfl ?_
      exact ⟨⟨rfl, get_b rfl (or_t hb), trivial⟩, [], rfl, .inl rfl⟩
    · refine go_ops hΓ 4 rfl ?_
      exact ⟨⟨rfl, get_b rfl (or_f hb), trivial⟩, [], rfl, .inl rfl⟩
  · refine go_ops hΓ 4 rfl ?_
    obtain rfl := Option.some.inj h
    exact fin_pure hΓ (.inr rfl) rfl rfl
theorem c_name_hasName {kind : Int} {r : Bool} (h : m_name_hasName kind = some r) : Pure Tryz.prog 134 [I kind] (B r) := by
  refine Pure.enter (Fr.of 0 _) Tryz.func134 rfl (Fr.of_ok _) rfl rfl ?_
  refine go_in ?_
  unfold m_name_hasName at h
  refine go hΓ 10 rfl ?_
  refine o_cut 3 [(2, B false), (8, B (((kind : Int) == 5) || ((kind : Int) == 12)))] [] ?_ ?_
  · refine eo_gsplit rfl rfl (fun hb => ?_) (fun hb => ?_)
    · refine go_ops hΓ 4 rfl ?_
      exact ⟨⟨rfl, get_b rfl (or_t hb), trivial⟩, [], rfl, .inl rfl⟩
    · refine go_ops hΓ 4 rfl ?_
      exact ⟨⟨rfl, get_b rfl (or_f hb), trivial⟩, [], rfl, .inl rfl⟩
  · refine go_ops hΓ 4 rfl ?_
    obtain rfl := Option.some.inj h
    exact fin_pure hΓ (.inr rfl) rfl rfl
set_option maxHeartbeats 8000000 in
theorem c_kit_IsPlain {k : Nat} {s : Str} {r : Bool} (h : m_kit_IsPlain k s = some r) : Pure Tryz.prog 135 [S s] (B r) := by
  refine Pure.enter (Fr.of 0 _) Tryz.func135 rfl (Fr.of_ok _) rfl rfl ?_
  refine go_in ?_
  unfold m_kit_IsPlain at h
  refine go hΓ 11 rfl ?_
  obtain ⟨q4, hq4, h5⟩ := bi_ok h
  refine j_cutEZ (R := fun a6 => q4 = .inl a6) (fun a6 => [(0, S s)]) (fun a6 => []) ?_ ?_
  · refine go hΓ 1 rfl ?_
    refine j_loop hq4 (fun s2 => [(0, S s), (3, I s2)]) (fun s2 => []) ⟨⟨rfl, rfl, trivial⟩, [], rfl, .inl rfl⟩ (fun s2 y10 hy8 hout9 => ?_)
    refine go hΓ 9 rfl ?_
    refine j_cond rfl (fun hb => ?_) (fun hb => ?_)
    · have h11 := cT hy8 hb
      obtain ⟨c12, hc12, h13⟩ := bi_ok h11
      refine go hΓ 8 rfl ?_
      refine eo_o rfl (op_byteZ hΓ hc12 rfl rfl rfl rfl) ?_
      refine go_ops hΓ 2 rfl ?_
      obtain ⟨q14, hq14, h15⟩ := bi_ok h13
      refine o_cut 5 [(0, S s), (3, I s2), (19, B q14)] [] ?_ ?_
      · refine eo_gsplit rfl rfl (fun hb => ?_) (fun hb => ?_)
        · have h16 := cT hq14 hb
          refine go_ops hΓ 6 rfl ?_
          obtain rfl := Option.some.inj h16
          exact ⟨⟨rfl, rfl, rfl, trivial⟩, [], rfl, .inl rfl⟩
        · have h17 := cF hq14 hb
          obtain ⟨c18, hc18, h19⟩ := bi_ok h17
          refine go_ops hΓ 2 rfl ?_
          refine eo_guard rfl ?_
          refine eo_o rfl (op_byteZ hΓ hc18 rfl rfl rfl rfl) ?_
          refine go_ops hΓ 3 rfl ?_
          obtain rfl := Option.some.inj h19
          exact ⟨⟨rfl, rfl, rfl, trivial⟩, [], rfl, .inl rfl⟩
      · refine go_ops hΓ 2 rfl ?_
        refine j_cond rfl (fun hb => ?_) (fun hb => ?_)
        · have h20 := cT h15 hb
          refine go hΓ 8 rfl ?_
          obtain ⟨v21, hv21, h22⟩ := bi_ok h20
          obtain rfl := Option.some.inj h22
          obtain rfl := hout9 _ rfl
          obtain rfl := Option.some.inj h5
          refine go hΓ 4 rfl ?_
          obtain rfl := Option.some.inj hv21
          exact fin_pure hΓ (.inr rfl) rfl rfl
        · have h23 := cF h15 hb
          refine go hΓ 8 rfl ?_
          obtain rfl := Option.some.inj h23
          exact ⟨_, rfl, ⟨⟨rfl, rfl, trivial⟩, [], rfl, .inl rfl⟩⟩
    · have h24 := cF hy8 hb
      refine go hΓ 4 rfl ?_
      obtain rfl := Option.some.inj h24
      obtain rfl := hout9 _ rfl
      exact ⟨_, rfl, ⟨⟨rfl, trivial⟩, [], rfl, .inl rfl⟩⟩
  · intro a6 ha
    subst ha
    replace h5 := orI_l h5
    obtain ⟨y25, hy25, h26⟩ := bi_ok h5
    refine go hΓ 4 rfl ?_
    refine eo_callP (callable Tryz.func167 rfl rfl) (c_utf8_ValidString hy25) rfl (Nat.le_of_ble_eq_true rfl) rfl rfl rfl rfl rfl ?_
    refine go_ops hΓ 1 rfl ?_
    obtain ⟨q27, hq27, h28⟩ := bi_ok h26
    refine o_cut 5 [(0, S s), (27, B q27)] [] ?_ ?_
    · refine eo_gsplit rfl rfl (fun hb => ?_) (fun hb => ?_)
      · have h29 := cT hq27 hb
        obtain ⟨y30, hy30, h31⟩ := bi_ok h29
        refine go_ops hΓ 1 rfl ?_
        refine eo_guard rfl ?_
        refine eo_callP (callable Tryz.func67 rfl rfl) (c_strings_Trim hy30) rfl (Nat.le_of_ble_eq_true rfl) rfl rfl rfl rfl rfl ?_
        refine go_ops hΓ 4 rfl ?_
        obtain rfl := Option.some.inj h31
        exact ⟨⟨rfl, rfl, trivial⟩, [], rfl, .inl rfl⟩
      · have h32 := cF hq27 hb
        refine go_ops hΓ 6 rfl ?_
        obtain rfl := Option.some.inj h32
        exact ⟨⟨rfl, rfl, trivial⟩, [], rfl, .inl rfl⟩
    · refine go_ops hΓ 1 rfl ?_
      obtain ⟨q33, hq33, h34⟩ := bi_ok h28
      refine o_cut 4 [(32, B q33)] [] ?_ ?_
      · refine eo_gsplit rfl rfl (fun hb => ?_) (fun hb => ?_)
        · have h35 := cT hq33 hb
          obtain ⟨y36, hy36, h37⟩ := bi_ok h35
          refine go_ops hΓ 1 rfl ?_
          refine eo_guard rfl ?_
          refine eo_callP (callable Tryz.func168 rfl rfl) (c_strings_Contains hy36) rfl (Nat.le_of_ble_eq_true rfl) rfl rfl rfl rfl rfl ?_
          refine go_ops hΓ 3 rfl ?_
          obtain rfl := Option.some.inj h37
          exact ⟨⟨rfl, trivial⟩, [], rfl, .inl rfl⟩
        · have h38 := cF hq33 hb
          refine go_ops hΓ 5 rfl ?_
          obtain rfl := Option.some.inj h38
          exact ⟨⟨rfl, trivial⟩, [], rfl, .inl rfl⟩
      · refine go_ops hΓ 4 rfl ?_
        obtain rfl := Option.some.inj h34
        exact fin_pure hΓ (.inr rfl) rfl rfl
set_option maxHeartbeats 8000000 in
theorem c_name_recordFault {k : Nat} {v_r : T_api_Record} {r : Int} (h : m_name_recordFault k v_r = some r) : Pure Tryz.prog 83 [.agg [S v_r.Name, I v_r.Kind, B v_r.Addr.Six, U v_r.Addr.Hi, U v_r.Addr.Lo, S v_r.To, S v_r.Words, I v_r.Life]] (I r) := by
  refine Pure.enter (Fr.of 0 _) Tryz.func83 rfl (Fr.of_ok _) rfl rfl ?_
  refine go_in ?_
  unfold m_name_recordFault at h
  refine go hΓ 2 rfl ?_
  refine eo_box rfl rfl rfl rfl (Nat.le_of_ble_eq_true rfl) ?_
  obtain ⟨y1, hy1, h2⟩ := bi_ok h
  refine go_ops hΓ 9 rfl ?_
  refine eo_callP (callable Tryz.func84 rfl rfl) (c_name_bare hy1) rfl (Nat.le_of_ble_eq_true rfl) rfl rfl rfl rfl rfl ?_
  obtain ⟨y3, hy3, h4⟩ := bi_ok h2
  refine eo_callP (callable Tryz.func29 rfl rfl) (c_name_CheckDomain hy3) rfl (Nat.le_of_ble_eq_true rfl) rfl rfl rfl rfl rfl ?_
  refine go_ops hΓ 2 rfl ?_
  refine o_cut 5 [(1, .ptr 0 0), (14, B (((y3 : Int) != 0) || (decide (((v_r.Name.length : Int) : Int) > 253))))] [.box 94 [S v_r.Name, I v_r.Kind, B v_r.Addr.Six, U v_r.Addr.Hi, U v_r.Addr.Lo, S v_r.To, S v_r.Words, I v_r.Life]] ?_ ?_
  · refine eo_gsplit rfl rfl (fun hb => ?_) (fun hb => ?_)
    · refine go_ops hΓ 6 rfl ?_
      exact ⟨⟨rfl, get_b rfl (or_t hb), trivial⟩, [], rfl, .inl rfl⟩
    · refine go_ops hΓ 6 rfl ?_
      exact ⟨⟨rfl, get_b rfl (or_f hb), trivial⟩, [], rfl, .inl rfl⟩
  · refine go_ops hΓ 3 rfl ?_
    refine j_cond rfl (fun hb => ?_) (fun hb => ?_)
    · have h5 := cT h4 hb
      refine go hΓ 8 rfl ?_
      obtain rfl := Option.some.inj h5
      exact fin_pure hΓ (.inr rfl) rfl rfl
    · have h6 := cF h4 hb
      obtain ⟨y7, hy7, h8⟩ := bi_ok h6
      refine go hΓ 4 rfl ?_
      refine eo_callP (callable Tryz.func132 rfl rfl) (c_name_isKind hy7) rfl (Nat.le_of_ble_eq_true rfl) rfl rfl rfl rfl rfl ?_
      refine go_ops hΓ 4 rfl ?_
      refine j_cond rfl (fun hb => ?_) (fun hb => ?_)
      · have h9 := cT h8 hb
        refine go hΓ 8 rfl ?_
        obtain rfl := Option.some.inj h9
        exact fin_pure hΓ (.inr rfl) rfl rfl
      · have h10 := cF h8 hb
        obtain ⟨y11, hy11, h12⟩ := bi_ok h10
        refine go hΓ 4 rfl ?_
        refine eo_callP (callable Tryz.func133 rfl rfl) (c_name_hasAddr hy11) rfl (Nat.le_of_ble_eq_true rfl) rfl rfl rfl rfl rfl ?_
        refine go_ops hΓ 1 rfl ?_
        obtain ⟨q13, hq13, h14⟩ := bi_ok h12
        refine o_cut 14 [(1, .ptr 0 0), (38, B q13)] [.box 94 [S v_r.Name, I v_r.Kind, B v_r.Addr.Six, U v_r.Addr.Hi, U v_r.Addr.Lo, S v_r.To, S v_r.Words, I v_r.Life]] ?_ ?_
        · refine eo_gsplit rfl rfl (fun hb => ?_) (fun hb => ?_)
          · have h15 := cT hq13 hb
            refine go_ops hΓ 8 rfl ?_
            obtain ⟨q16, hq16, h17⟩ := bi_ok h15
            refine o_cut 5 [(1, .ptr 0 0), (24, B true), (37, B q16)] [.box 94 [S v_r.Name, I v_r.Kind, B v_r.Addr.Six, U v_r.Addr.Hi, U v_r.Addr.Lo, S v_r.To, S v_r.Words, I v_r.Life]] ?_ ?_
            · refine eo_gsplit rfl rfl (fun hb => ?_) (fun hb => ?_)
              · have h18 := cT hq16 hb
                refine go_ops hΓ 6 rfl ?_
                obtain rfl := Option.some.inj h18
                exact ⟨⟨rfl, rfl, rfl, trivial⟩, [], rfl, .inl rfl⟩
              · have h19 := cF hq16 hb
                obtain ⟨y20, hy20, h21⟩ := bi_ok h19
                refine go_ops hΓ 2 rfl ?_
                refine eo_guard rfl ?_
                refine eo_callP (callable Tryz.func25 rfl rfl) (c_addr_CheckAddr hy20) rfl (Nat.le_of_ble_eq_true rfl) rfl rfl rfl rfl rfl ?_
                refine go_ops hΓ 3 rfl ?_
                obtain rfl := Option.some.inj h21
                exact ⟨⟨rfl, rfl, rfl, trivial⟩, [], rfl, .inl rfl⟩
            · refine go_ops hΓ 2 rfl ?_
              obtain rfl := Option.some.inj h17
              exact ⟨⟨rfl, rfl, trivial⟩, [], rfl, .inl rfl⟩
          · have h22 := cF hq13 hb
            refine go_ops hΓ 15 rfl ?_
            obtain rfl := Option.some.inj h22
            exact ⟨⟨rfl, rfl, trivial⟩, [], rfl, .inl rfl⟩
        · refine go_ops hΓ 3 rfl ?_
          refine j_cond rfl (fun hb => ?_) (fun hb => ?_)
          · have h23 := cT h14 hb
            refine go hΓ 8 rfl ?_
            obtain rfl := Option.some.inj h23
            exact fin_pure hΓ (.inr rfl) rfl rfl
          · have h24 := cF h14 hb
            obtain ⟨y25, hy25, h26⟩ := bi_ok h24
            refine go hΓ 4 rfl ?_
            refine eo_callP (callable Tryz.func133 rfl rfl) (c_name_hasAddr hy25) rfl (Nat.le_of_ble_eq_true rfl) rfl rfl rfl rfl rfl ?_
            refine go_ops hΓ 2 rfl ?_
            refine o_cut 5 [(1, .ptr 0 0), (49, B ((!y25) && (!(((v_r.Addr.Six : Bool) == false) && (((v_r.Addr.Hi : Int) == 0) && (((v_r.Addr.Lo : Int) == 0) && true))))))] [.box 94 [S v_r.Name, I v_r.Kind, B v_r.Addr.Six, U v_r.Addr.Hi, U v_r.Addr.Lo, S v_r.To, S v_r.Words, I v_r.Life]] ?_ ?_
            · refine eo_gsplit rfl rfl (fun hb => ?_) (fun hb => ?_)
              · refine go_ops hΓ 2 rfl ?_
                refine eo_guard rfl ?_
                refine eo_build hΓ (gs := [B false, U 0, U 0]) rfl rfl rfl rfl rfl rfl rfl ?_
                refine eo_guard rfl ?_
                refine eo_o rfl (op_neS hΓ [28] (b := (((v_r.Addr.Six : Bool) == false) && (((v_r.Addr.Hi : Int) == 0) && (((v_r.Addr.Lo : Int) == 0) && true)))) (by kernel_rfl) (by kernel_rfl) rfl rfl rfl) ?_
                refine go_ops hΓ 2 rfl ?_
                exact ⟨⟨rfl, get_b rfl (and_t hb), trivial⟩, [], rfl, .inl rfl⟩
              · refine go_ops hΓ 6 rfl ?_
                exact ⟨⟨rfl, get_b rfl (and_f hb), trivial⟩, [], rfl, .inl rfl⟩
            · refine go_ops hΓ 3 rfl ?_
              refine j_cond rfl (fun hb => ?_) (fun hb => ?_)
              · have h27 := cT h26 hb
                refine go hΓ 8 rfl ?_
                obtain rfl := Option.some.inj h27
                exact fin_pure hΓ (.inr rfl) rfl rfl
              · have h28 := cF h26 hb
                obtain ⟨y29, hy29, h30⟩ := bi_ok h28
                refine go hΓ 4 rfl ?_
                refine eo_callP (callable Tryz.func134 rfl rfl) (c_name_hasName hy29) rfl (Nat.le_of_ble_eq_true rfl) rfl rfl rfl rfl rfl ?_
                refine go_ops hΓ 1 rfl ?_
                obtain ⟨q31, hq31, h32⟩ := bi_ok h30
                refine o_cut 5 [(1, .ptr 0 0), (59, B q31)] [.box 94 [S v_r.Name, I v_r.Kind, B v_r.Addr.Six, U v_r.Addr.Hi, U v_r.Addr.Lo, S v_r.To, S v_r.Words, I v_r.Life]] ?_ ?_
                · refine eo_gsplit rfl rfl (fun hb => ?_) (fun hb => ?_)
                  · have h33 := cT hq31 hb
                    obtain ⟨y34, hy34, h35⟩ := bi_ok h33
                    refine go_ops hΓ 2 rfl ?_
                    refine eo_guard rfl ?_
                    refine eo_callP (callable Tryz.func29 rfl rfl) (c_name_CheckDomain hy34) rfl (Nat.le_of_ble_eq_true rfl) rfl rfl rfl rfl rfl ?_
                    refine go_ops hΓ 3 rfl ?_
                    obtain rfl := Option.some.inj h35
                    exact ⟨⟨rfl, rfl, trivial⟩, [], rfl, .inl rfl⟩
                  · have h36 := cF hq31 hb
                    refine go_ops hΓ 6 rfl ?_
                    obtain rfl := Option.some.inj h36
                    exact ⟨⟨rfl, rfl, trivial⟩, [], rfl, .inl rfl⟩
                · refine go_ops hΓ 3 rfl ?_
                  refine j_cond rfl (fun hb => ?_) (fun hb => ?_)
                  · have h37 := cT h32 hb
                    refine go hΓ 8 rfl ?_
                    obtain rfl := Option.some.inj h37
                    exact fin_pure hΓ (.inr rfl) rfl rfl
                  · have h38 := cF h32 hb
                    obtain ⟨y39, hy39, h40⟩ := bi_ok h38
                    refine go hΓ 4 rfl ?_
                    refine eo_callP (callable Tryz.func134 rfl rfl) (c_name_hasName hy39) rfl (Nat.le_of_ble_eq_true rfl) rfl rfl rfl rfl rfl ?_
                    refine go_ops hΓ 2 rfl ?_
                    refine o_cut 4 [(1, .ptr 0 0), (69, B ((!y39) && (!((v_r.To : Str) == []))))] [.box 94 [S v_r.Name, I v_r.Kind, B v_r.Addr.Six, U v_r.Addr.Hi, U v_r.Addr.Lo, S v_r.To, S v_r.Words, I v_r.Life]] ?_ ?_
                    · refine eo_gsplit rfl rfl (fun hb => ?_) (fun hb => ?_)
                      · refine go_ops hΓ 5 rfl ?_
                        exact ⟨⟨rfl, get_b rfl (and_t hb), trivial⟩, [], rfl, .inl rfl⟩
                      · refine go_ops hΓ 5 rfl ?_
                        exact ⟨⟨rfl, get_b rfl (and_f hb), trivial⟩, [], rfl, .inl rfl⟩
                    · refine go_ops hΓ 3 rfl ?_
                      refine j_cond rfl (fun hb => ?_) (fun hb => ?_)
                      · have h41 := cT h40 hb
                        refine go hΓ 8 rfl ?_
                        obtain rfl := Option.some.inj h41
                        exact fin_pure hΓ (.inr rfl) rfl rfl
                      · have h42 := cF h40 hb
                        refine go hΓ 6 rfl ?_
                        obtain ⟨q43, hq43, h44⟩ := bi_ok h42
                        refine o_cut 11 [(1, .ptr 0 0), (85, B q43)] [.box 94 [S v_r.Name, I v_r.Kind, B v_r.Addr.Six, U v_r.Addr.Hi, U v_r.Addr.Lo, S v_r.To, S v_r.Words, I v_r.Life]] ?_ ?_
                        · refine eo_gsplit rfl rfl (fun hb => ?_) (fun hb => ?_)
                          · have h45 := cT hq43 hb
                            obtain ⟨y46, hy46, h47⟩ := bi_ok h45
                            refine go_ops hΓ 2 rfl ?_
                            refine eo_guard rfl ?_
                            refine eo_callP (callable Tryz.func135 rfl rfl) (c_kit_IsPlain hy46) rfl (Nat.le_of_ble_eq_true rfl) rfl rfl rfl rfl rfl ?_
                            refine go_ops hΓ 2 rfl ?_
                            refine o_cut 5 [(1, .ptr 0 0), (74, B true), (84, B ((!y46) || (decide (((v_r.Words.length : Int) : Int) > 200))))] [.box 94 [S v_r.Name, I v_r.Kind, B v_r.Addr.Six, U v_r.Addr.Hi, U v_r.Addr.Lo, S v_r.To, S v_r.Words, I v_r.Life]] ?_ ?_
                            · refine eo_gsplit rfl rfl (fun hb => ?_) (fun hb => ?_)
                              · refine go_ops hΓ 6 rfl ?_
                                exact ⟨⟨rfl, rfl, get_b rfl (or_t hb), trivial⟩, [], rfl, .inl rfl⟩
                              · refine go_ops hΓ 6 rfl ?_
                                exact ⟨⟨rfl, rfl, get_b rfl (or_f hb), trivial⟩, [], rfl, .inl rfl⟩
                            · refine go_ops hΓ 2 rfl ?_
                              obtain rfl := Option.some.inj h47
                              exact ⟨⟨rfl, rfl, trivial⟩, [], rfl, .inl rfl⟩
                          · have h48 := cF hq43 hb
                            refine go_ops hΓ 12 rfl ?_
                            obtain rfl := Option.some.inj h48
                            exact ⟨⟨rfl, rfl, trivial⟩, [], rfl, .inl rfl⟩
                        · refine go_ops hΓ 1 rfl ?_
                          refine o_cut 9 [(1, .ptr 0 0), (95, B (q43 || (((v_r.Kind : Int) != 16) && (!((v_r.Words : Str) == [])))))] [.box 94 [S v_r.Name, I v_r.Kind, B v_r.Addr.Six, U v_r.Addr.Hi, U v_r.Addr.Lo, S v_r.To, S v_r.Words, I v_r.Life]] ?_ ?_
                          · refine eo_gsplit rfl rfl (fun hb => ?_) (fun hb => ?_)
                            · refine go_ops hΓ 10 rfl ?_
                              exact ⟨⟨rfl, get_b rfl (or_t hb), trivial⟩, [], rfl, .inl rfl⟩
                            · refine go_ops hΓ 4 rfl ?_
                              refine o_cut 4 [(1, .ptr 0 0), (86, B false), (94, B (((v_r.Kind : Int) != 16) && (!((v_r.Words : Str) == []))))] [.box 94 [S v_r.Name, I v_r.Kind, B v_r.Addr.Six, U v_r.Addr.Hi, U v_r.Addr.Lo, S v_r.To, S v_r.Words, I v_r.Life]] ?_ ?_
                              · refine eo_gsplit rfl rfl (fun hb => ?_) (fun hb => ?_)
                                · refine go_ops hΓ 5 rfl ?_
                                  exact ⟨⟨rfl, rfl, get_b rfl (and_t hb), trivial⟩, [], rfl, .inl rfl⟩
                                · refine go_ops hΓ 5 rfl ?_
                                  exact ⟨⟨rfl, rfl, get_b rfl (and_f hb), trivial⟩, [], rfl, .inl rfl⟩
                              · refine go_ops hΓ 2 rfl ?_
                                exact ⟨⟨rfl, get_b rfl (or_f hb), trivial⟩, [], rfl, .inl rfl⟩
                          · refine go_ops hΓ 3 rfl ?_
                            refine j_cond rfl (fun hb => ?_) (fun hb => ?_)
                            · have h49 := cT h44 hb
                              refine go hΓ 8 rfl ?_
                              obtain rfl := Option.some.inj h49
                              exact fin_pure hΓ (.inr rfl) rfl rfl
                            · have h50 := cF h44 hb
                              obtain ⟨y51, hy51, h52⟩ := bi_ok h50
                              refine go hΓ 4 rfl ?_
                              refine eo_callP (callable Tryz.func43 rfl rfl) (c_kit_Outside hy51) rfl (Nat.le_of_ble_eq_true rfl) rfl rfl rfl rfl rfl ?_
                              refine go_ops hΓ 3 rfl ?_
                              refine j_cond rfl (fun hb => ?_) (fun hb => ?_)
                              · have h53 := cT h52 hb
                                refine go hΓ 8 rfl ?_
                                obtain rfl := Option.some.inj h53
                                exact fin_pure hΓ (.inr rfl) rfl rfl
                              · have h54 := cF h52 hb
                                refine go hΓ 9 rfl ?_
                                obtain rfl := Option.some.inj h54
                                exact fin_pure hΓ (.inr rfl) rfl rfl
set_option maxHeartbeats 8000000 in
theorem c_name_CheckZone {k : Nat} {z : T_api_Zone} {r : Int} (h : m_name_CheckZone k z = some r) : Pure Tryz.prog 49 [.agg [S z.Root, .d (Sl e_api_Record z.Records)]] (I r) := by
  refine Pure.enter (Fr.of 0 _) Tryz.func49 rfl (Fr.of_ok _) rfl rfl ?_
  refine go_in ?_
  unfold m_name_CheckZone at h
  refine go hΓ 2 rfl ?_
  refine eo_box rfl rfl rfl rfl (Nat.le_of_ble_eq_true rfl) ?_
  obtain ⟨y1, hy1, h2⟩ := bi_ok h
  refine go_ops hΓ 8 rfl ?_
  refine eo_callP (callable Tryz.func29 rfl rfl) (c_name_CheckDomain hy1) rfl (Nat.le_of_ble_eq_true rfl) rfl rfl rfl rfl rfl ?_
  refine go_ops hΓ 9 rfl ?_
  refine j_cond rfl (fun hb => ?_) (fun hb => ?_)
  · have h3 := cT h2 hb
    refine go hΓ 8 rfl ?_
    obtain rfl := Option.some.inj h3
    exact fin_pure hΓ (.inr rfl) rfl rfl
  · have h4 := cF h2 hb
    refine go hΓ 11 rfl ?_
    refine j_cond rfl (fun hb => ?_) (fun hb => ?_)
    · have h5 := cT h4 hb
      refine go hΓ 7 rfl ?_
      obtain rfl := Option.some.inj h5
      exact fin_pure hΓ (.inr rfl) rfl rfl
    · have h6 := cF h4 hb
      refine go hΓ 11 rfl ?_
      obtain ⟨q10, hq10, h11⟩ := bi_ok h6
      refine j_bound 20 rfl fun hb13 => ?_
      refine j_cutEZ (R := fun a12 => q10 = .go a12) (fun a12 => []) (fun a12 => [.box 52 [S z.Root, .d (Sl e_api_Record z.Records)]]) ?_ ?_
      · refine go hΓ 1 rfl ?_
        refine j_range z.Records hq10 (fun i7 s8 => [(1, .ptr 0 0), (20, .d (Sl e_api_Record z.Records)), (21, I (z.Records.length : Int)), (22, I (i7 : Int))]) (fun s8 => [.box 52 [S z.Root, .d (Sl e_api_Record z.Records)]]) ⟨⟨rfl, rfl, rfl, rfl, trivial⟩, [], rfl, .inl rfl⟩ (fun i7 x9 s8 y17 hx14 hlt hy15 hout16 => ?_) (fun s8 hgo => ?_)
        · refine go hΓ 6 rfl ?_
          refine j_condT rfl (decide_eq_true (Int.ofNat_lt.2 hlt)) ?_
          refine go hΓ 7 rfl ?_
          refine eo_o rfl (op_elemZ hΓ (enc := e_api_Record) (getZ_nat hx14) rfl rfl rfl rfl rfl (fun _ => rfl)) ?_
          refine go_ops hΓ 1 rfl ?_
          refine eo_alloc hΓ rfl rfl rfl (Nat.le_of_ble_eq_true rfl) ?_
          refine go_ops hΓ 1 rfl ?_
          refine eo_store hΓ rfl rfl rfl rfl rfl rfl rfl rfl (Nat.le_of_ble_eq_true rfl) ?_
          refine eo_hp [.box 52 [S z.Root, .d (Sl e_api_Record z.Records)], .box 94 [S x9.Name, I x9.Kind, B x9.Addr.Six, U x9.Addr.Hi, U x9.Addr.Lo, S x9.To, S x9.Words, I x9.Life]] rfl ?_
          obtain ⟨y18, hy18, h19⟩ := bi_ok hy15
          refine go_ops hΓ 6 rfl ?_
          refine eo_callP (callable Tryz.func83 rfl rfl) (c_name_recordFault hy18) rfl (Nat.le_of_ble_eq_true rfl) rfl rfl rfl rfl rfl ?_
          refine go_ops hΓ 9 rfl ?_
          refine j_cond rfl (fun hb => ?_) (fun hb => ?_)
          · have h20 := cT h19 hb
            refine go hΓ 10 rfl ?_
            obtain ⟨v21, hv21, h22⟩ := bi_ok h20
            obtain rfl := Option.some.inj h22
            obtain rfl := hout16 _ rfl
            obtain rfl := Option.some.inj h11
            refine go hΓ 4 rfl ?_
            obtain rfl := Option.some.inj hv21
            exact fin_pure hΓ (.inr rfl) rfl rfl
          · have h23 := cF h19 hb
            refine go hΓ 4 rfl ?_
            refine j_draw hmix (by kernel_rfl) ?_
            obtain ⟨y24, hy24, h25⟩ := bi_ok h23
            refine go hΓ 2 rfl ?_
            refine gl_callP (callable Tryz.func84 rfl rfl) (c_name_bare hy24) rfl rfl rfl rfl rfl rfl ?_
            obtain ⟨y26, hy26, h27⟩ := bi_ok h25
            refine go_draw hΓ 2 rfl ?_
            refine gl_callP (callable Tryz.func46 rfl rfl) (c_name_under hy26) rfl rfl rfl rfl rfl rfl ?_
            refine go_draw hΓ 3 rfl ?_
            refine j_cond rfl (fun hb => ?_) (fun hb => ?_)
            · have h28 := cT h27 hb
              refine go hΓ 9 rfl ?_
              obtain ⟨v29, hv29, h30⟩ := bi_ok h28
              obtain rfl := Option.some.inj h30
              obtain rfl := hout16 _ rfl
              obtain rfl := Option.some.inj h11
              refine go hΓ 4 rfl ?_
              obtain rfl := Option.some.inj hv29
              exact fin_pure hΓ (.inr rfl) rfl rfl
            · have h31 := cF h27 hb
              refine go hΓ 9 rfl ?_
              refine j_cond rfl (fun hb => ?_) (fun hb => ?_)
              · have h32 := cT h31 hb
                refine go hΓ 8 rfl ?_
                obtain rfl := Option.some.inj h32
                exact ⟨_, rfl, ⟨⟨rfl, rfl, rfl, get_eq rfl (w64_succ (Nat.lt_of_lt_of_le hlt hb13)), trivial⟩, [_], rfl, .inr ⟨HB.mk rfl, FB.mk rfl, (Nat.le_of_ble_eq_true rfl)⟩⟩⟩
              · have h33 := cF h31 hb
                obtain ⟨x34, hx34, h35⟩ := bi_ok h33
                refine go hΓ 8 rfl ?_
                refine eo_o rfl (op_elemZ hΓ (enc := e_api_Record) hx34 rfl rfl rfl rfl rfl (fun _ => rfl)) ?_
                refine go_ops hΓ 1 rfl ?_
                refine eo_alloc hΓ rfl rfl rfl (Nat.le_of_ble_eq_true rfl) ?_
                refine eo_store hΓ rfl rfl rfl rfl rfl rfl rfl rfl (Nat.le_of_ble_eq_true rfl) ?_
                refine eo_hp [.box 52 [S z.Root, .d (Sl e_api_Record z.Records)], .box 94 [S x9.Name, I x9.Kind, B x9.Addr.Six, U x9.Addr.Hi, U x9.Addr.Lo, S x9.To, S x9.Words, I x9.Life], .box 94 [S x34.Name, I x34.Kind, B x34.Addr.Six, U x34.Addr.Hi, U x34.Addr.Lo, S x34.To, S x34.Words, I x34.Life]] rfl ?_
                obtain ⟨y36, hy36, h37⟩ := bi_ok h35
                refine go_ops hΓ 6 rfl ?_
                refine eo_callP (callable Tryz.func48 rfl rfl) (c_name_compareRecords hy36) rfl (Nat.le_of_ble_eq_true rfl) rfl rfl rfl rfl rfl ?_
                refine go_ops hΓ 11 rfl ?_
                refine j_cond rfl (fun hb => ?_) (fun hb => ?_)
                · have h38 := cT h37 hb
                  refine go hΓ 9 rfl ?_
                  obtain ⟨v39, hv39, h40⟩ := bi_ok h38
                  obtain rfl := Option.some.inj h40
                  obtain rfl := hout16 _ rfl
                  obtain rfl := Option.some.inj h11
                  refine go hΓ 4 rfl ?_
                  obtain rfl := Option.some.inj hv39
                  exact fin_pure hΓ (.inr rfl) rfl rfl
                · have h41 := cF h37 hb
                  refine go hΓ 7 rfl ?_
                  refine j_cond rfl (fun hb => ?_) (fun hb => ?_)
                  · have h42 := cT h41 hb
                    refine go hΓ 9 rfl ?_
                    obtain ⟨v43, hv43, h44⟩ := bi_ok h42
                    obtain rfl := Option.some.inj h44
                    obtain rfl := hout16 _ rfl
                    obtain rfl := Option.some.inj h11
                    refine go hΓ 4 rfl ?_
                    obtain rfl := Option.some.inj hv43
                    exact fin_pure hΓ (.inr rfl) rfl rfl
                  · have h45 := cF h41 hb
                    refine go hΓ 8 rfl ?_
                    refine o_cut 9 [(1, .ptr 0 0), (20, .d (Sl e_api_Record z.Records)), (21, I (z.Records.length : Int)), (22, I (i7 : Int)), (71, B (((x34.Name : Str) == x9.Name) && (((x34.Kind : Int) == 5) || ((x9.Kind : Int) == 5))))] [.box 52 [S z.Root, .d (Sl e_api_Record z.Records)], .box 94 [S x9.Name, I x9.Kind, B x9.Addr.Six, U x9.Addr.Hi, U x9.Addr.Lo, S x9.To, S x9.Words, I x9.Life], .box 94 [S x34.Name, I x34.Kind, B x34.Addr.Six, U x34.Addr.Hi, U x34.Addr.Lo, S x34.To, S x34.Words, I x34.Life]] ?_ ?_
                    · refine eo_gsplit rfl rfl (fun hb => ?_) (fun hb => ?_)
                      · refine go_ops hΓ 4 rfl ?_
                        refine o_cut 4 [(1, .ptr 0 0), (20, .d (Sl e_api_Record z.Records)), (21, I (z.Records.length : Int)), (22, I (i7 : Int)), (62, B true), (70, B (((x34.Kind : Int) == 5) || ((x9.Kind : Int) == 5)))] [.box 52 [S z.Root, .d (Sl e_api_Record z.Records)], .box 94 [S x9.Name, I x9.Kind, B x9.Addr.Six, U x9.Addr.Hi, U x9.Addr.Lo, S x9.To, S x9.Words, I x9.Life], .box 94 [S x34.Name, I x34.Kind, B x34.Addr.Six, U x34.Addr.Hi, U x34.Addr.Lo, S x34.To, S x34.Words, I x34.Life]] ?_ ?_
                        · refine eo_gsplit rfl rfl (fun hb => ?_) (fun hb => ?_)
                          · refine go_ops hΓ 5 rfl ?_
                            exact ⟨⟨rfl, rfl, rfl, rfl, rfl, get_b rfl (or_t hb), trivial⟩, [], rfl, .inl rfl⟩
                          · refine go_ops hΓ 5 rfl ?_
                            exact ⟨⟨rfl, rfl, rfl, rfl, rfl, get_b rfl (or_f hb), trivial⟩, [], rfl, .inl rfl⟩
                        · refine go_ops hΓ 2 rfl ?_
                          exact ⟨⟨rfl, rfl, rfl, rfl, get_b rfl (and_t hb), trivial⟩, [], rfl, .inl rfl⟩
                      · refine go_ops hΓ 10 rfl ?_
                        exact ⟨⟨rfl, rfl, rfl, rfl, get_b rfl (and_f hb), trivial⟩, [], rfl, .inl rfl⟩
                    · refine go_ops hΓ 3 rfl ?_
                      refine j_cond rfl (fun hb => ?_) (fun hb => ?_)
                      · have h46 := cT h45 hb
                        refine go hΓ 9 rfl ?_
                        obtain ⟨v47, hv47, h48⟩ := bi_ok h46
                        obtain rfl := Option.some.inj h48
                        obtain rfl := hout16 _ rfl
                        obtain rfl := Option.some.inj h11
                        refine go hΓ 4 rfl ?_
                        obtain rfl := Option.some.inj hv47
                        exact fin_pure hΓ (.inr rfl) rfl rfl
                      · have h49 := cF h45 hb
                        refine go hΓ 8 rfl ?_
                        obtain rfl := Option.some.inj h49
                        exact ⟨_, rfl, ⟨⟨rfl, rfl, rfl, get_eq rfl (w64_succ (Nat.lt_of_lt_of_le hlt hb13)), trivial⟩, [_, _], rfl, .inr ⟨HB.mk rfl, FB.mk rfl, (Nat.le_of_ble_eq_true rfl)⟩⟩⟩
        · subst hgo
          refine go hΓ 6 rfl ?_
          refine j_condF rfl (decide_eq_false (Int.lt_irrefl _)) ?_
          refine go hΓ 4 rfl ?_
          exact ⟨_, rfl, ⟨trivial, [], rfl, .inl rfl⟩⟩
      · intro a12 ha
        subst ha
        replace h11 := goI_l h11
        refine go hΓ 7 rfl ?_
        obtain rfl := Option.some.inj h11
        exact fin_pure hΓ (.inr rfl) rfl rfl
set_option maxHeartbeats 8000000 in
theorem c_name_ZoneOf {k : Nat} {root : Str} {life : Int} {l : List T_api_Called} {nodes : List T_api_Node} {r : T_api_Zone × Int} (h : m_name_ZoneOf k root life l nodes = some r) : Pure Tryz.prog 20 [S root, I life, .d (Sl e_api_Called l), .d (Sl e_api_Node nodes)] (.tup [.agg [S r.1.Root, .d (Sl e_api_Record r.1.Records)], I r.2]) := by
  refine Pure.enter (Fr.of 0 _) Tryz.func20 rfl (Fr.of_ok _) rfl rfl ?_
  refine go_in ?_
  unfold m_name_ZoneOf at h
  refine go hΓ 2 rfl ?_
  refine eo_alloc hΓ rfl rfl rfl (Nat.le_of_ble_eq_true rfl) ?_
  obtain ⟨y1, hy1, h2⟩ := bi_ok h
  refine go_ops hΓ 7 rfl ?_
  refine eo_callP (callable Tryz.func29 rfl rfl) (c_name_CheckDomain hy1) rfl (Nat.le_of_ble_eq_true rfl) rfl rfl rfl rfl rfl ?_
  refine go_ops hΓ 9 rfl ?_
  refine j_cond rfl (fun hb => ?_) (fun hb => ?_)
  · have h3 := cT h2 hb
    refine go hΓ 2 rfl ?_
    refine eo_s (Nat.le_of_ble_eq_true rfl) (nblt.1 rfl) (ops_nilAt 94 8 1 (OpP.s (op_buildX hΓ [1] (gs := [S [], .d (.v (.slice none 0 0))]) rfl rfl rfl rfl rfl rfl)) rfl) ?_
    refine go_ops hΓ 1 rfl ?_
    refine eo_shr 1 [31] _ [.box 52 [S [], .d (Sl e_api_Record [])], .dead] rfl rfl rfl (Nat.le_of_ble_eq_true rfl) ?_
    refine eo_store hΓ rfl rfl rfl rfl rfl rfl rfl rfl (Nat.le_of_ble_eq_true rfl) ?_
    refine eo_hp [.box 52 [S [], .d (Sl e_api_Record ([] : List T_api_Record))], .dead] rfl ?_
    refine go_ops hΓ 5 rfl ?_
    obtain rfl := Option.some.inj h3
    exact fin_pure hΓ (.inr rfl) rfl rfl
  · have h4 := cF h2 hb
    obtain ⟨y5, hy5, h6⟩ := bi_ok h4
    refine go hΓ 6 rfl ?_
    refine eo_callP (callable Tryz.func43 rfl rfl) (c_kit_Outside hy5) rfl (Nat.le_of_ble_eq_true rfl) rfl rfl rfl rfl rfl ?_
    refine go_ops hΓ 2 rfl ?_
    refine j_cond rfl (fun hb => ?_) (fun hb => ?_)
    · have h7 := cT h6 hb
      refine go hΓ 2 rfl ?_
      refine eo_s (Nat.le_of_ble_eq_true rfl) (nblt.1 rfl) (ops_nilAt 94 8 1 (OpP.s (op_buildX hΓ [1] (gs := [S [], .d (.v (.slice none 0 0))]) rfl rfl rfl rfl rfl rfl)) rfl) ?_
      refine eo_shr 1 [35] _ [.box 52 [S [], .d (Sl e_api_Record [])], .dead] rfl rfl rfl (Nat.le_of_ble_eq_true rfl) ?_
      refine eo_store hΓ rfl rfl rfl rfl rfl rfl rfl rfl (Nat.le_of_ble_eq_true rfl) ?_
      refine eo_hp [.box 52 [S [], .d (Sl e_api_Record ([] : List T_api_Record))], .dead] rfl ?_
      refine go_ops hΓ 5 rfl ?_
      obtain rfl := Option.some.inj h7
      exact fin_pure hΓ (.inr rfl) rfl rfl
    · have h8 := cF h6 hb
      obtain ⟨y9, hy9, h10⟩ := bi_ok h8
      refine go hΓ 6 rfl ?_
      refine eo_callP (callable Tryz.func44 rfl rfl) (c_name_calledFault hy9) rfl (Nat.le_of_ble_eq_true rfl) rfl rfl rfl rfl rfl ?_
      refine go_ops hΓ 9 rfl ?_
      refine j_cond rfl (fun hb => ?_) (fun hb => ?_)
      · have h11 := cT h10 hb
        refine go hΓ 2 rfl ?_
        refine eo_s (Nat.le_of_ble_eq_true rfl) (nblt.1 rfl) (ops_nilAt 94 8 1 (OpP.s (op_buildX hΓ [1] (gs := [S [], .d (.v (.slice none 0 0))]) rfl rfl rfl rfl rfl rfl)) rfl) ?_
        refine go_ops hΓ 1 rfl ?_
        refine eo_shr 1 [40] _ [.box 52 [S [], .d (Sl e_api_Record [])], .dead] rfl rfl rfl (Nat.le_of_ble_eq_true rfl) ?_
        refine eo_store hΓ rfl rfl rfl rfl rfl rfl rfl rfl (Nat.le_of_ble_eq_true rfl) ?_
        refine eo_hp [.box 52 [S [], .d (Sl e_api_Record ([] : List T_api_Record))], .dead] rfl ?_
        refine go_ops hΓ 5 rfl ?_
        obtain rfl := Option.some.inj h11
        exact fin_pure hΓ (.inr rfl) rfl rfl
      · have h12 := cF h10 hb
        obtain ⟨y13, hy13, h14⟩ := bi_ok h12
        refine go hΓ 6 rfl ?_
        refine eo_callP (callable Tryz.func45 rfl rfl) (c_name_nodesFault hy13) rfl (Nat.le_of_ble_eq_true rfl) rfl rfl rfl rfl rfl ?_
        refine go_ops hΓ 9 rfl ?_
        refine j_cond rfl (fun hb => ?_) (fun hb => ?_)
        · have h15 := cT h14 hb
          refine go hΓ 2 rfl ?_
          refine eo_s (Nat.le_of_ble_eq_true rfl) (nblt.1 rfl) (ops_nilAt 94 8 1 (OpP.s (op_buildX hΓ [1] (gs := [S [], .d (.v (.slice none 0 0))]) rfl rfl rfl rfl rfl rfl)) rfl) ?_
          refine go_ops hΓ 1 rfl ?_
          refine eo_shr 1 [46] _ [.box 52 [S [], .d (Sl e_api_Record [])], .dead] rfl rfl rfl (Nat.le_of_ble_eq_true rfl) ?_
          refine eo_store hΓ rfl rfl rfl rfl rfl rfl rfl rfl (Nat.le_of_ble_eq_true rfl) ?_
          refine eo_hp [.box 52 [S [], .d (Sl e_api_Record ([] : List T_api_Record))], .dead] rfl ?_
          refine go_ops hΓ 5 rfl ?_
          obtain rfl := Option.some.inj h15
          exact fin_pure hΓ (.inr rfl) rfl rfl
        · have h16 := cF h14 hb
          refine go hΓ 4 rfl ?_
          refine eo_s (Nat.le_of_ble_eq_true rfl) (nblt.1 rfl) (ops_makeMap false) ?_
          refine eo_hp [.box 52 [S [], .d (Sl e_api_Record [])], mOb kS false eS ([] : List (Str × Str))] rfl ?_
          refine go_ops hΓ 11 rfl ?_
          obtain ⟨q20, hq20, h21⟩ := bi_ok h16
          refine j_bound 49 rfl fun hb23 => ?_
          refine j_cutNZ [(0, S root), (1, I life), (3, .d (Sl e_api_Node nodes)), (8, .ptr 0 0), (13, .map 1)] [.box 52 [S [], .d (Sl e_api_Record [])], mOb kS false eS q20] ?_ ?_
          · refine go hΓ 1 rfl ?_
            refine j_rangeF l hq20 (fun i17 s18 => [(0, S root), (1, I life), (3, .d (Sl e_api_Node nodes)), (8, .ptr 0 0), (13, .map 1), (49, .d (Sl e_api_Called l)), (50, I (l.length : Int)), (51, I (i17 : Int))]) (fun s18 => [.box 52 [S [], .d (Sl e_api_Record [])], mOb kS false eS s18]) ⟨⟨rfl, rfl, rfl, rfl, rfl, rfl, rfl, rfl, trivial⟩, [], rfl, .inl rfl⟩ (fun i17 x19 s18 y27 hx24 hlt hy25 => ?_) (?_)
            · refine go hΓ 6 rfl ?_
              refine j_condT rfl (decide_eq_true (Int.ofNat_lt.2 hlt)) ?_
              refine go hΓ 6 rfl ?_
              refine eo_o rfl (op_elemZ hΓ (enc := e_api_Called) (getZ_nat hx24) rfl rfl rfl rfl rfl (fun _ => rfl)) ?_
              refine go_ops hΓ 1 rfl ?_
              refine eo_alloc hΓ rfl rfl rfl (Nat.le_of_ble_eq_true rfl) ?_
              refine eo_store hΓ rfl rfl rfl rfl rfl rfl rfl rfl (Nat.le_of_ble_eq_true rfl) ?_
              refine eo_hp [.box 52 [S [], .d (Sl e_api_Record [])], mOb kS false eS s18, .box 76 [S x19.Node, S x19.Label]] rfl ?_
              refine go_ops hΓ 8 rfl ?_
              refine eo_u (Nat.le_of_ble_eq_true rfl) (opu_mapUpdate hΓ (kv := kS) (agg := false) (enc := eS) (id := 1) s18 x19.Node x19.Label rfl rfl rfl key_str rfl rfl rfl rfl rfl) ?_
              refine eo_hp [.box 52 [S [], .d (Sl e_api_Record [])], mOb kS false eS (mSet s18 x19.Node x19.Label), .box 76 [S x19.Node, S x19.Label]] rfl ?_
              refine go_ops hΓ 7 rfl ?_
              obtain rfl := Option.some.inj hy25
              exact ⟨⟨rfl, rfl, rfl, rfl, rfl, rfl, rfl, get_eq rfl (w64_succ (Nat.lt_of_lt_of_le hlt hb23)), trivial⟩, [_], rfl, .inr ⟨HB.mk rfl, FB.mk rfl, (Nat.le_of_ble_eq_true rfl)⟩⟩
            · refine go hΓ 6 rfl ?_
              refine j_condF rfl (decide_eq_false (Int.lt_irrefl _)) ?_
              refine go hΓ 4 rfl ?_
              exact ⟨⟨rfl, rfl, rfl, rfl, rfl, trivial⟩, [], rfl, .inl rfl⟩
          · refine go hΓ 4 rfl ?_
            refine eo_s (Nat.le_of_ble_eq_true rfl) (nblt.1 rfl) (ops_nilAt 94 8 1 (OpP.s (op_buildX hΓ [1] (gs := [S root, .d (.v (.slice none 0 0))]) rfl rfl rfl rfl rfl rfl)) rfl) ?_
            refine eo_alloc hΓ rfl rfl rfl (Nat.le_of_ble_eq_true rfl) ?_
            refine eo_store hΓ rfl rfl rfl rfl rfl rfl rfl rfl (Nat.le_of_ble_eq_true rfl) ?_
            refine eo_hp [.box 52 [S [], .d (Sl e_api_Record [])], mOb kS false eS q20, .row 94 8 ([] : List T_api_Record).length (([] : List T_api_Record).flatMap e_api_Record), .box 52 [S root, .sl 2 ([] : List T_api_Record).length]] rfl ?_
            refine go_ops hΓ 10 rfl ?_
            obtain ⟨q31, hq31, h32⟩ := bi_ok h21
            refine j_bound 63 rfl fun hb34 => ?_
            refine j_cutNZ [(8, .ptr 0 0), (16, .ptr 3 0)] [.box 52 [S [], .d (Sl e_api_Record [])], mOb kS false eS q20, .row 94 8 q31.length (q31.flatMap e_api_Record), .box 52 [S root, .sl 2 q31.length]] ?_ ?_
            · refine go hΓ 1 rfl ?_
              refine j_rangeF nodes hq31 (fun i28 s29 => [(0, S root), (1, I life), (8, .ptr 0 0), (13, .map 1), (16, .ptr 3 0), (63, .d (Sl e_api_Node nodes)), (64, I (nodes.length : Int)), (65, I (i28 : Int))]) (fun s29 => [.box 52 [S [], .d (Sl e_api_Record [])], mOb kS false eS q20, .row 94 8 s29.length (s29.flatMap e_api_Record), .box 52 [S root, .sl 2 s29.length]]) ⟨⟨rfl, rfl, rfl, rfl, rfl, rfl, rfl, rfl, trivial⟩, [], rfl, .inl rfl⟩ (fun i28 x30 s29 y38 hx35 hlt hy36 => ?_) (?_)
              · refine go hΓ 6 rfl ?_
                refine j_condT rfl (decide_eq_true (Int.ofNat_lt.2 hlt)) ?_
                refine go hΓ 6 rfl ?_
                refine eo_o rfl (op_elemZ hΓ (enc := e_api_Node) (getZ_nat hx35) rfl rfl rfl rfl rfl (fun _ => rfl)) ?_
                refine go_ops hΓ 1 rfl ?_
                refine eo_alloc hΓ rfl rfl rfl (Nat.le_of_ble_eq_true rfl) ?_
                refine eo_store hΓ rfl rfl rfl rfl rfl rfl rfl rfl (Nat.le_of_ble_eq_true rfl) ?_
                refine eo_hp [.box 52 [S [], .d (Sl e_api_Record [])], mOb kS false eS q20, .row 94 8 s29.length (s29.flatMap e_api_Record), .box 52 [S root, .sl 2 s29.length], .box 81 [S x30.Key, S x30.User, S x30.Name, .d (Sl eS x30.Tags), .d (Sl e_api_Addr x30.Addrs), .d (Sl e_api_Prefix x30.Routes)]] rfl ?_
                refine go_ops hΓ 7 rfl ?_
                refine eo_o rfl (op_lookupOk hΓ (kv := kS) (agg := false) (enc := eS) q20 x30.Key ([] : Str) rfl rfl rfl rfl key_str rfl rfl rfl rfl rfl rfl rfl) ?_
                refine go_ops hΓ 14 rfl ?_
                refine j_cond rfl (fun hb => ?_) (fun hb => ?_)
                · have h39 := cT hy36 hb
                  refine go hΓ 8 rfl ?_
                  obtain rfl := Option.some.inj h39
                  exact ⟨⟨rfl, rfl, rfl, rfl, rfl, rfl, rfl, get_eq rfl (w64_succ (Nat.lt_of_lt_of_le hlt hb34)), trivial⟩, [_], rfl, .inr ⟨HB.mk rfl, FB.mk rfl, (Nat.le_of_ble_eq_true rfl)⟩⟩
                · have h40 := cF hy36 hb
                  obtain ⟨y41, hy41, h42⟩ := bi_ok h40
                  refine go hΓ 5 rfl ?_
                  refine eo_o rfl (op_catZ hy41 rfl rfl) ?_
                  obtain ⟨y43, hy43, h44⟩ := bi_ok h42
                  refine go_ops hΓ 1 rfl ?_
                  refine eo_o rfl (op_catZ hy43 rfl rfl) ?_
                  refine go_ops hΓ 11 rfl ?_
                  obtain ⟨q48, hq48, h49⟩ := bi_ok h44
                  refine j_bound 83 rfl fun hb51 => ?_
                  refine j_cutNZ [(0, S root), (1, I life), (8, .ptr 0 0), (13, .map 1), (16, .ptr 3 0), (63, .d (Sl e_api_Node nodes)), (64, I (nodes.length : Int)), (65, I (i28 : Int))] [.box 52 [S [], .d (Sl e_api_Record [])], mOb kS false eS q20, .row 94 8 q48.length (q48.flatMap e_api_Record), .box 52 [S root, .sl 2 q48.length], .box 81 [S x30.Key, S x30.User, S x30.Name, .d (Sl eS x30.Tags), .d (Sl e_api_Addr x30.Addrs), .d (Sl e_api_Prefix x30.Routes)]] ?_ ?_
                  · refine go hΓ 1 rfl ?_
                    refine j_rangeF x30.Addrs hq48 (fun i45 s46 => [(0, S root), (1, I life), (8, .ptr 0 0), (13, .map 1), (16, .ptr 3 0), (21, S y43), (63, .d (Sl e_api_Node nodes)), (64, I (nodes.length : Int)), (65, I (i28 : Int)), (83, .d (Sl e_api_Addr x30.Addrs)), (84, I (x30.Addrs.length : Int)), (85, I (i45 : Int))]) (fun s46 => [.box 52 [S [], .d (Sl e_api_Record [])], mOb kS false eS q20, .row 94 8 s46.length (s46.flatMap e_api_Record), .box 52 [S root, .sl 2 s46.length], .box 81 [S x30.Key, S x30.User, S x30.Name, .d (Sl eS x30.Tags), .d (Sl e_api_Addr x30.Addrs), .d (Sl e_api_Prefix x30.Routes)]]) ⟨⟨rfl, rfl, rfl, rfl, rfl, rfl, rfl, rfl, rfl, rfl, rfl, rfl, trivial⟩, [], rfl, .inl rfl⟩ (fun i45 x47 s46 y55 hx52 hlt hy53 => ?_) (?_)
                    · refine go hΓ 6 rfl ?_
                      refine j_condT rfl (decide_eq_true (Int.ofNat_lt.2 hlt)) ?_
                      refine go hΓ 6 rfl ?_
                      refine eo_o rfl (op_elemZ hΓ (enc := e_api_Addr) (getZ_nat hx52) rfl rfl rfl rfl rfl (fun _ => rfl)) ?_
                      refine go_ops hΓ 1 rfl ?_
                      refine eo_alloc hΓ rfl rfl rfl (Nat.le_of_ble_eq_true rfl) ?_
                      refine eo_store hΓ rfl rfl rfl rfl rfl rfl rfl rfl (Nat.le_of_ble_eq_true rfl) ?_
                      refine eo_hp [.box 52 [S [], .d (Sl e_api_Record [])], mOb kS false eS q20, .row 94 8 s46.length (s46.flatMap e_api_Record), .box 52 [S root, .sl 2 s46.length], .box 81 [S x30.Key, S x30.User, S x30.Name, .d (Sl eS x30.Tags), .d (Sl e_api_Addr x30.Addrs), .d (Sl e_api_Prefix x30.Routes)], .box 28 [B x47.Six, U x47.Hi, U x47.Lo]] rfl ?_
                      obtain ⟨q56, hq56, h57⟩ := bi_ok hy53
                      refine go_ops hΓ 14 rfl ?_
                      refine j_cutNZ [(0, S root), (1, I life), (8, .ptr 0 0), (13, .map 1), (16, .ptr 3 0), (21, S y43), (23, .ptr 5 0), (24, I q56), (63, .d (Sl e_api_Node nodes)), (64, I (nodes.length : Int)), (65, I (i28 : Int)), (83, .d (Sl e_api_Addr x30.Addrs)), (84, I (x30.Addrs.length : Int)), (85, I (i45 : Int))] [.box 52 [S [], .d (Sl e_api_Record [])], mOb kS false eS q20, .row 94 8 s46.length (s46.flatMap e_api_Record), .box 52 [S root, .sl 2 s46.length], .box 81 [S x30.Key, S x30.User, S x30.Name, .d (Sl eS x30.Tags), .d (Sl e_api_Addr x30.Addrs), .d (Sl e_api_Prefix x30.Routes)], .box 28 [B x47.Six, U x47.Hi, U x47.Lo]] ?_ ?_
                      · refine j_cond rfl (fun hb => ?_) (fun hb => ?_)
                        · have h58 := cT hq56 hb
                          refine go hΓ 3 rfl ?_
                          obtain rfl := Option.some.inj h58
                          exact ⟨⟨rfl, rfl, rfl, rfl, rfl, rfl, rfl, rfl, rfl, rfl, rfl, rfl, rfl, rfl, trivial⟩, [], rfl, .inl rfl⟩
                        · have h59 := cF hq56 hb
                          refine go hΓ 1 rfl ?_
                          obtain rfl := Option.some.inj h59
                          exact ⟨⟨rfl, rfl, rfl, rfl, rfl, rfl, rfl, rfl, rfl, rfl, rfl, rfl, rfl, rfl, trivial⟩, [], rfl, .inl rfl⟩
                      · refine go hΓ 9 rfl ?_
                        refine eo_build hΓ (gs := [S y43, I q56, B x47.Six, U x47.Hi, U x47.Lo, S [], S [], I life]) rfl rfl rfl rfl rfl rfl rfl ?_
                        refine eo_litT hΓ (enc := e_api_Record) [(⟨y43, q56, x47, [], [], life⟩ : T_api_Record)] rfl rfl rfl rfl rfl rfl rfl rfl rfl rfl rfl rfl (Nat.le_of_ble_eq_true rfl) ?_
                        obtain ⟨y60, hy60, h61⟩ := bi_ok h57
                        refine eo_forg 2 [.box 52 [S [], .d (Sl e_api_Record [])], mOb kS false eS q20, .row 94 8 s46.length (s46.flatMap e_api_Record), .box 52 [S root, .junk], .box 81 [S x30.Key, S x30.User, S x30.Name, .d (Sl eS x30.Tags), .d (Sl e_api_Addr x30.Addrs), .d (Sl e_api_Prefix x30.Routes)], .box 28 [B x47.Six, U x47.Hi, U x47.Lo]] rfl (Nat.le_of_ble_eq_true rfl) ?_
                        refine eo_appendT hΓ (enc := e_api_Record) hy60 rfl rfl rfl rfl rfl rfl rfl rfl rfl (fun _ => rfl) rfl rfl rfl rfl ?_
                        refine go_ops hΓ 1 rfl ?_
                        refine eo_store hΓ rfl rfl rfl rfl rfl rfl rfl rfl (Nat.le_of_ble_eq_true rfl) ?_
                        refine eo_hp [.box 52 [S [], .d (Sl e_api_Record [])], mOb kS false eS q20, .row 94 8 y60.length (y60.flatMap e_api_Record), .box 52 [S root, .sl 2 y60.length], .box 81 [S x30.Key, S x30.User, S x30.Name, .d (Sl eS x30.Tags), .d (Sl e_api_Addr x30.Addrs), .d (Sl e_api_Prefix x30.Routes)], .box 28 [B x47.Six, U x47.Hi, U x47.Lo]] rfl ?_
                        obtain ⟨y62, hy62, h63⟩ := bi_ok h61
                        refine go_ops hΓ 5 rfl ?_
                        refine eo_callP (callable Tryz.func26 rfl rfl) (c_name_back hy62) rfl (Nat.le_of_ble_eq_true rfl) rfl rfl rfl rfl rfl ?_
                        obtain ⟨y64, hy64, h65⟩ := bi_ok h63
                        refine go_ops hΓ 7 rfl ?_
                        refine eo_callP (callable Tryz.func46 rfl rfl) (c_name_under hy64) rfl (Nat.le_of_ble_eq_true rfl) rfl rfl rfl rfl rfl ?_
                        refine go_ops hΓ 2 rfl ?_
                        refine j_cond rfl (fun hb => ?_) (fun hb => ?_)
                        · have h66 := cT h65 hb
                          refine go hΓ 6 rfl ?_
                          refine eo_build hΓ (gs := [S y62, I 12, B false, U 0, U 0, S y43, S [], I life]) rfl rfl rfl rfl rfl rfl rfl ?_
                          refine eo_litT hΓ (enc := e_api_Record) [(⟨y62, 12, (⟨false, 0, 0⟩ : T_api_Addr), y43, [], life⟩ : T_api_Record)] rfl rfl rfl rfl rfl rfl rfl rfl rfl rfl rfl rfl (Nat.le_of_ble_eq_true rfl) ?_
                          obtain ⟨y67, hy67, h68⟩ := bi_ok h66
                          refine eo_forg 2 [.box 52 [S [], .d (Sl e_api_Record [])], mOb kS false eS q20, .row 94 8 y60.length (y60.flatMap e_api_Record), .box 52 [S root, .junk], .box 81 [S x30.Key, S x30.User, S x30.Name, .d (Sl eS x30.Tags), .d (Sl e_api_Addr x30.Addrs), .d (Sl e_api_Prefix x30.Routes)], .box 28 [B x47.Six, U x47.Hi, U x47.Lo]] rfl (Nat.le_of_ble_eq_true rfl) ?_
                          refine eo_appendT hΓ (enc := e_api_Record) hy67 rfl rfl rfl rfl rfl rfl rfl rfl rfl (fun _ => rfl) rfl rfl rfl rfl ?_
                          refine go_ops hΓ 1 rfl ?_
                          refine eo_store hΓ rfl rfl rfl rfl rfl rfl rfl rfl (Nat.le_of_ble_eq_true rfl) ?_
                          refine eo_hp [.box 52 [S [], .d (Sl e_api_Record [])], mOb kS false eS q20, .row 94 8 y67.length (y67.flatMap e_api_Record), .box 52 [S root, .sl 2 y67.length], .box 81 [S x30.Key, S x30.User, S x30.Name, .d (Sl eS x30.Tags), .d (Sl e_api_Addr x30.Addrs), .d (Sl e_api_Prefix x30.Routes)], .box 28 [B x47.Six, U x47.Hi, U x47.Lo]] rfl ?_
                          refine go_ops hΓ 7 rfl ?_
                          obtain rfl := Option.some.inj h68
                          exact ⟨⟨rfl, rfl, rfl, rfl, rfl, rfl, rfl, rfl, rfl, rfl, rfl, get_eq rfl (w64_succ (Nat.lt_of_lt_of_le hlt hb51)), trivial⟩, [_], rfl, .inr ⟨HB.mk rfl, FB.mk rfl, (Nat.le_of_ble_eq_true rfl)⟩⟩
                        · have h69 := cF h65 hb
                          refine go hΓ 7 rfl ?_
                          obtain rfl := Option.some.inj h69
                          exact ⟨⟨rfl, rfl, rfl, rfl, rfl, rfl, rfl, rfl, rfl, rfl, rfl, get_eq rfl (w64_succ (Nat.lt_of_lt_of_le hlt hb51)), trivial⟩, [_], rfl, .inr ⟨HB.mk rfl, FB.mk rfl, (Nat.le_of_ble_eq_true rfl)⟩⟩
                    · refine go hΓ 6 rfl ?_
                      refine j_condF rfl (decide_eq_false (Int.lt_irrefl _)) ?_
                      refine go hΓ 4 rfl ?_
                      exact ⟨⟨rfl, rfl, rfl, rfl, rfl, rfl, rfl, rfl, trivial⟩, [], rfl, .inl rfl⟩
                  · refine go hΓ 6 rfl ?_
                    obtain rfl := Option.some.inj h49
                    exact ⟨⟨rfl, rfl, rfl, rfl, rfl, rfl, rfl, get_eq rfl (w64_succ (Nat.lt_of_lt_of_le hlt hb34)), trivial⟩, [_], rfl, .inr ⟨HB.mk rfl, FB.mk rfl, (Nat.le_of_ble_eq_true rfl)⟩⟩
              · refine go hΓ 6 rfl ?_
                refine j_condF rfl (decide_eq_false (Int.lt_irrefl _)) ?_
                refine go hΓ 4 rfl ?_
                exact ⟨⟨rfl, rfl, trivial⟩, [], rfl, .inl rfl⟩
            · obtain ⟨y70, hy70, h71⟩ := bi_ok h32
              refine go hΓ 5 rfl ?_
              refine eo_callF [2] (.tup []) [.box 52 [S [], .d (Sl e_api_Record [])], mOb kS false eS q20, .row 94 8 y70.length (y70.flatMap e_api_Record), .box 52 [S root, .sl 2 q31.length]] (callable Tryz.func47 rfl rfl) (c_slices_SortFunc_api_Record_api_Record hy70) rfl (Nat.le_of_ble_eq_true rfl) rfl rfl rfl rfl rfl rfl rfl rfl rfl rfl ?_
              obtain ⟨hg73, h72⟩ := gd_ok h71
              refine eo_hp [.box 52 [S [], .d (Sl e_api_Record [])], mOb kS false eS q20, .row 94 8 y70.length (y70.flatMap e_api_Record), .box 52 [S root, .sl 2 y70.length]] (by rw [of_decide_eq_true hg73]) ?_
              refine go_ops hΓ 6 rfl ?_
              refine eo_shr 2 [120] _ [.box 52 [S [], .d (Sl e_api_Record [])], mOb kS false eS q20, .dead, .box 52 [S root, .d (Sl e_api_Record y70)]] rfl rfl rfl (Nat.le_of_ble_eq_true rfl) ?_
              obtain ⟨y74, hy74, h75⟩ := bi_ok h72
              refine eo_callP (callable Tryz.func49 rfl rfl) (c_name_CheckZone hy74) rfl (Nat.le_of_ble_eq_true rfl) rfl rfl rfl rfl rfl ?_
              refine go_ops hΓ 9 rfl ?_
              refine j_cond rfl (fun hb => ?_) (fun hb => ?_)
              · have h76 := cT h75 hb
                refine go hΓ 2 rfl ?_
                refine eo_s (Nat.le_of_ble_eq_true rfl) (nblt.1 rfl) (ops_nilAt 94 8 1 (OpP.s (op_buildX hΓ [1] (gs := [S [], .d (.v (.slice none 0 0))]) rfl rfl rfl rfl rfl rfl)) rfl) ?_
                refine go_ops hΓ 1 rfl ?_
                refine eo_shr 4 [124] _ [.box 52 [S [], .d (Sl e_api_Record [])], mOb kS false eS q20, .dead, .box 52 [S root, .d (Sl e_api_Record y70)], .dead] rfl rfl rfl (Nat.le_of_ble_eq_true rfl) ?_
                refine eo_store hΓ rfl rfl rfl rfl rfl rfl rfl rfl (Nat.le_of_ble_eq_true rfl) ?_
                refine eo_hp [.box 52 [S [], .d (Sl e_api_Record ([] : List T_api_Record))], mOb kS false eS q20, .dead, .box 52 [S root, .d (Sl e_api_Record y70)], .dead] rfl ?_
                refine go_ops hΓ 5 rfl ?_
                obtain rfl := Option.some.inj h76
                exact fin_pure hΓ (.inr rfl) rfl rfl
              · have h77 := cF h75 hb
                refine go hΓ 5 rfl ?_
                refine eo_store hΓ rfl rfl rfl rfl rfl rfl rfl rfl (Nat.le_of_ble_eq_true rfl) ?_
                refine eo_hp [.box 52 [S root, .d (Sl e_api_Record y70)], mOb kS false eS q20, .dead, .box 52 [S root, .d (Sl e_api_Record y70)]] rfl ?_
                refine go_ops hΓ 4 rfl ?_
                obtain rfl := Option.some.inj h77
                exact fin_pure hΓ (.inr rfl) rfl rfl
set_option maxHeartbeats 8000000 in
theorem c_laneref1_LabelForm {s : Str} {r : Bool} (h : m_laneref1_LabelForm s = some r) : Pure Tryz.prog 34 [S s] (B r) := by
  refine Pure.enter (Fr.of 0 _) Tryz.func34 rfl (Fr.of_ok _) rfl rfl ?_
  refine go_in ?_
  unfold m_laneref1_LabelForm at h
  refine go hΓ 13 rfl ?_
  refine j_cond rfl (fun hb => ?_) (fun hb => ?_)
  · have h1 := cT h hb
    refine go hΓ 7 rfl ?_
    obtain rfl := Option.some.inj h1
    exact fin_pure hΓ (.inr rfl) rfl rfl
  · have h2 := cF h hb
    obtain ⟨y3, hy3, h4⟩ := bi_ok h2
    refine go hΓ 5 rfl ?_
    refine eo_callP (callable Tryz.func66 rfl rfl) (c_strings_TrimPrefix hy3) rfl (Nat.le_of_ble_eq_true rfl) rfl rfl rfl rfl rfl ?_
    refine go_ops hΓ 8 rfl ?_
    obtain ⟨q5, hq5, h6⟩ := bi_ok h4
    refine o_cut 4 [(0, S y3), (2, B false), (14, B q5)] [] ?_ ?_
    · refine eo_gsplit rfl rfl (fun hb => ?_) (fun hb => ?_)
      · have h7 := cT hq5 hb
        obtain ⟨y8, hy8, h9⟩ := bi_ok h7
        refine go_ops hΓ 1 rfl ?_
        refine eo_guard rfl ?_
        refine eo_callP (callable Tryz.func67 rfl rfl) (c_strings_Trim hy8) rfl (Nat.le_of_ble_eq_true rfl) rfl rfl rfl rfl rfl ?_
        refine go_ops hΓ 3 rfl ?_
        obtain rfl := Option.some.inj h9
        exact ⟨⟨rfl, rfl, rfl, trivial⟩, [], rfl, .inl rfl⟩
      · have h10 := cF hq5 hb
        refine go_ops hΓ 5 rfl ?_
        obtain rfl := Option.some.inj h10
        exact ⟨⟨rfl, rfl, rfl, trivial⟩, [], rfl, .inl rfl⟩
    · refine go_ops hΓ 1 rfl ?_
      obtain ⟨q11, hq11, h12⟩ := bi_ok h6
      refine o_cut 4 [(0, S y3), (2, B false), (19, B q11)] [] ?_ ?_
      · refine eo_gsplit rfl rfl (fun hb => ?_) (fun hb => ?_)
        · have h13 := cT hq11 hb
          obtain ⟨c14, hc14, h15⟩ := bi_ok h13
          refine go_ops hΓ 1 rfl ?_
          refine eo_guard rfl ?_
          refine eo_o rfl (op_byteZ hΓ hc14 rfl rfl rfl rfl) ?_
          refine go_ops hΓ 3 rfl ?_
          obtain rfl := Option.some.inj h15
          exact ⟨⟨rfl, rfl, rfl, trivial⟩, [], rfl, .inl rfl⟩
        · have h16 := cF hq11 hb
          refine go_ops hΓ 5 rfl ?_
          obtain rfl := Option.some.inj h16
          exact ⟨⟨rfl, rfl, rfl, trivial⟩, [], rfl, .inl rfl⟩
      · refine go_ops hΓ 1 rfl ?_
        obtain ⟨q17, hq17, h18⟩ := bi_ok h12
        refine o_cut 7 [(2, B false), (27, B q17)] [] ?_ ?_
        · refine eo_gsplit rfl rfl (fun hb => ?_) (fun hb => ?_)
          · have h19 := cT hq17 hb
            obtain ⟨c20, hc20, h21⟩ := bi_ok h19
            refine go_ops hΓ 4 rfl ?_
            refine eo_guard rfl ?_
            refine eo_o rfl (op_byteZ hΓ hc20 rfl rfl rfl rfl) ?_
            refine go_ops hΓ 3 rfl ?_
            obtain rfl := Option.some.inj h21
            exact ⟨⟨rfl, rfl, trivial⟩, [], rfl, .inl rfl⟩
          · have h22 := cF hq17 hb
            refine go_ops hΓ 8 rfl ?_
            obtain rfl := Option.some.inj h22
            exact ⟨⟨rfl, rfl, trivial⟩, [], rfl, .inl rfl⟩
        · refine go_ops hΓ 4 rfl ?_
          obtain rfl := Option.some.inj h18
          exact fin_pure hΓ (.inr rfl) rfl rfl
theorem c_laneref1_DomainFault {s : Str} {r : Int} (h : m_laneref1_DomainFault s = some r) : Pure Tryz.prog 13 [S s] (I r) := by
  refine Pure.enter (Fr.of 0 _) Tryz.func13 rfl (Fr.of_ok _) rfl rfl ?_
  refine go_in ?_
  unfold m_laneref1_DomainFault at h
  refine go hΓ 13 rfl ?_
  refine j_cond rfl (fun hb => ?_) (fun hb => ?_)
  · have h1 := cT h hb
    refine go hΓ 7 rfl ?_
    obtain rfl := Option.some.inj h1
    exact fin_pure hΓ (.inr rfl) rfl rfl
  · have h2 := cF h hb
    obtain ⟨y3, hy3, h4⟩ := bi_ok h2
    refine go hΓ 6 rfl ?_
    refine eo_callP (callable Tryz.func31 rfl rfl) (Pure.rows (c_strings_Split hy3) rfl rfl) rfl (Nat.le_of_ble_eq_true rfl) rfl rfl rfl rfl rfl ?_
    refine go_ops hΓ 4 rfl ?_
    obtain ⟨q8, hq8, h9⟩ := bi_ok h4
    refine j_bound 9 rfl fun hb11 => ?_
    refine j_cutEZ (R := fun a10 => q8 = .go a10) (fun a10 => []) (fun a10 => []) ?_ ?_
    · refine go hΓ 1 rfl ?_
      refine j_range y3 hq8 (fun i5 s6 => [(9, .d (Sl eS y3)), (10, I (y3.length : Int)), (11, I (i5 : Int))]) (fun s6 => []) ⟨⟨rfl, rfl, rfl, trivial⟩, [], rfl, .inl rfl⟩ (fun i5 x7 s6 y15 hx12 hlt hy13 hout14 => ?_) (fun s6 hgo => ?_)
      · refine go hΓ 6 rfl ?_
        refine j_condT rfl (decide_eq_true (Int.ofNat_lt.2 hlt)) ?_
        refine go hΓ 6 rfl ?_
        refine eo_o rfl (op_elemZ hΓ (enc := eS) (getZ_nat hx12) rfl rfl rfl rfl rfl (fun _ => rfl)) ?_
        obtain ⟨y16, hy16, h17⟩ := bi_ok hy13
        refine go_ops hΓ 7 rfl ?_
        refine eo_callP (callable Tryz.func34 rfl rfl) (c_laneref1_LabelForm hy16) rfl (Nat.le_of_ble_eq_true rfl) rfl rfl rfl rfl rfl ?_
        refine go_ops hΓ 3 rfl ?_
        refine j_cond rfl (fun hb => ?_) (fun hb => ?_)
        · have h18 := cT h17 hb
          refine go hΓ 8 rfl ?_
          obtain ⟨v19, hv19, h20⟩ := bi_ok h18
          obtain rfl := Option.some.inj h20
          obtain rfl := hout14 _ rfl
          obtain rfl := Option.some.inj h9
          refine go hΓ 4 rfl ?_
          obtain rfl := Option.some.inj hv19
          exact fin_pure hΓ (.inr rfl) rfl rfl
        · have h21 := cF h17 hb
          refine go hΓ 7 rfl ?_
          obtain rfl := Option.some.inj h21
          exact ⟨_, rfl, ⟨⟨rfl, rfl, get_eq rfl (w64_succ (Nat.lt_of_lt_of_le hlt hb11)), trivial⟩, [], rfl, .inl rfl⟩⟩
      · subst hgo
        refine go hΓ 6 rfl ?_
        refine j_condF rfl (decide_eq_false (Int.lt_irrefl _)) ?_
        refine go hΓ 4 rfl ?_
        exact ⟨_, rfl, ⟨trivial, [], rfl, .inl rfl⟩⟩
    · intro a10 ha
      subst ha
      replace h9 := goI_l h9
      refine go hΓ 7 rfl ?_
      obtain rfl := Option.some.inj h9
      exact fin_pure hΓ (.inr rfl) rfl rfl
theorem c_laneref1_in {n : Int} {low : Int} {high : Int} {r : Bool} (h : m_laneref1_in n low high = some r) : Pure Tryz.prog 50 [I n, I low, I high] (B r) := by
  refine Pure.enter (Fr.of 0 _) Tryz.func50 rfl (Fr.of_ok _) rfl rfl ?_
  refine go_in ?_
  unfold m_laneref1_in at h
  refine go hΓ 11 rfl ?_
  refine o_cut 4 [(6, B false), (14, B ((decide ((low : Int) ≤ n)) && (decide ((n : Int) ≤ high))))] [] ?_ ?_
  · refine eo_gsplit rfl rfl (fun hb => ?_) (fun hb => ?_)
    · refine go_ops hΓ 5 rfl ?_
      exact ⟨⟨rfl, get_b rfl (and_t hb), trivial⟩, [], rfl, .inl rfl⟩
    · refine go_ops hΓ 5 rfl ?_
      exact ⟨⟨rfl, get_b rfl (and_f hb), trivial⟩, [], rfl, .inl rfl⟩
  · refine go_ops hΓ 4 rfl ?_
    obtain rfl := Option.some.inj h
    exact fin_pure hΓ (.inr rfl) rfl rfl
theorem c_laneref2_in {n : Int} {low : Int} {high : Int} {r : Bool} (h : m_laneref2_in n low high = some r) : Pure Tryz.prog 85 [I n, I low, I high] (B r) := by
  refine Pure.enter (Fr.of 0 _) Tryz.func85 rfl (Fr.of_ok _) rfl rfl ?_
  refine go_in ?_
  unfold m_laneref2_in at h
  refine go hΓ 11 rfl ?_
  refine o_cut 4 [(6, B false), (14, B ((decide ((low : Int) ≤ n)) && (decide ((n : Int) ≤ high))))] [] ?_ ?_
  · refine eo_gsplit rfl rfl (fun hb => ?_) (fun hb => ?_)
    · refine go_ops hΓ 5 rfl ?_
      exact ⟨⟨rfl, get_b rfl (and_t hb), trivial⟩, [], rfl, .inl rfl⟩
    · refine go_ops hΓ 5 rfl ?_
      exact ⟨⟨rfl, get_b rfl (and_f hb), trivial⟩, [], rfl, .inl rfl⟩
  · refine go_ops hΓ 4 rfl ?_
    obtain rfl := Option.some.inj h
    exact fin_pure hΓ (.inr rfl) rfl rfl
theorem c_laneref2_only {s : Str} {v_some : Str} {r : Bool} (h : m_laneref2_only s v_some = some r) : Pure Tryz.prog 69 [S s, S v_some] (B r) := by
  refine Pure.enter (Fr.of 0 _) Tryz.func69 rfl (Fr.of_ok _) rfl rfl ?_
  refine go_in ?_
  unfold m_laneref2_only at h
  obtain ⟨y1, hy1, h2⟩ := bi_ok h
  refine go hΓ 9 rfl ?_
  refine eo_callP (callable Tryz.func67 rfl rfl) (c_strings_Trim hy1) rfl (Nat.le_of_ble_eq_true rfl) rfl rfl rfl rfl rfl ?_
  refine go_ops hΓ 5 rfl ?_
  obtain rfl := Option.some.inj h2
  exact fin_pure hΓ (.inr rfl) rfl rfl
theorem c_laneref2_Key {s : Str} {r : Bool} (h : m_laneref2_Key s = some r) : Pure Tryz.prog 51 [S s] (B r) := by
  refine Pure.enter (Fr.of 0 _) Tryz.func51 rfl (Fr.of_ok _) rfl rfl ?_
  refine go_in ?_
  unfold m_laneref2_Key at h
  obtain ⟨y1, hy1, h2⟩ := bi_ok h
  refine go hΓ 9 rfl ?_
  refine eo_callP (callable Tryz.func85 rfl rfl) (c_laneref2_in hy1) rfl (Nat.le_of_ble_eq_true rfl) rfl rfl rfl rfl rfl ?_
  refine go_ops hΓ 1 rfl ?_
  obtain ⟨q3, hq3, h4⟩ := bi_ok h2
  refine o_cut 4 [(0, S s), (2, B false), (10, B q3)] [] ?_ ?_
  · refine eo_gsplit rfl rfl (fun hb => ?_) (fun hb => ?_)
    · have h5 := cT hq3 hb
      obtain ⟨z6, hz6, h7⟩ := bi_ok h5
      refine go_ops hΓ 1 rfl ?_
      refine eo_guard rfl ?_
      refine eo_o rfl (op_subZ hΓ hz6 rfl rfl rfl rfl rfl) ?_
      obtain ⟨y8, hy8, h9⟩ := bi_ok h7
      refine eo_guard rfl ?_
      refine eo_callP (callable Tryz.func69 rfl rfl) (c_laneref2_only hy8) rfl (Nat.le_of_ble_eq_true rfl) rfl rfl rfl rfl rfl ?_
      refine go_ops hΓ 2 rfl ?_
      obtain rfl := Option.some.inj h9
      exact ⟨⟨rfl, rfl, rfl, trivial⟩, [], rfl, .inl rfl⟩
    · have h10 := cF hq3 hb
      refine go_ops hΓ 5 rfl ?_
      obtain rfl := Option.some.inj h10
      exact ⟨⟨rfl, rfl, rfl, trivial⟩, [], rfl, .inl rfl⟩
  · refine go_ops hΓ 1 rfl ?_
    obtain ⟨q11, hq11, h12⟩ := bi_ok h4
    refine o_cut 3 [(2, B false), (14, B q11)] [] ?_ ?_
    · refine eo_gsplit rfl rfl (fun hb => ?_) (fun hb => ?_)
      · have h13 := cT hq11 hb
        obtain ⟨y14, hy14, h15⟩ := bi_ok h13
        refine go_ops hΓ 1 rfl ?_
        refine eo_guard rfl ?_
        refine eo_callP (callable Tryz.func69 rfl rfl) (c_laneref2_only hy14) rfl (Nat.le_of_ble_eq_true rfl) rfl rfl rfl rfl rfl ?_
        refine go_ops hΓ 2 rfl ?_
        obtain rfl := Option.some.inj h15
        exact ⟨⟨rfl, rfl, trivial⟩, [], rfl, .inl rfl⟩
      · have h16 := cF hq11 hb
        refine go_ops hΓ 4 rfl ?_
        obtain rfl := Option.some.inj h16
        exact ⟨⟨rfl, rfl, trivial⟩, [], rfl, .inl rfl⟩
    · refine go_ops hΓ 4 rfl ?_
      obtain rfl := Option.some.inj h12
      exact fin_pure hΓ (.inr rfl) rfl rfl
theorem c_laneref2_AddrFault {a : T_api_Addr} {r : Int} (h : m_laneref2_AddrFault a = some r) : Pure Tryz.prog 7 [.agg [B a.Six, U a.Hi, U a.Lo]] (I r) := by
  refine Pure.enter (Fr.of 0 _) Tryz.func7 rfl (Fr.of_ok _) rfl rfl ?_
  refine go_in ?_
  unfold m_laneref2_AddrFault at h
  refine go hΓ 2 rfl ?_
  refine eo_box rfl rfl rfl rfl (Nat.le_of_ble_eq_true rfl) ?_
  refine go_ops hΓ 10 rfl ?_
  refine o_cut 9 [(15, B ((!a.Six) && ((decide ((a.Hi : Int) > 0)) || (decide ((a.Lo : Int) > 4294967295)))))] [.box 28 [B a.Six, U a.Hi, U a.Lo]] ?_ ?_
  · refine eo_gsplit rfl rfl (fun hb => ?_) (fun hb => ?_)
    · refine go_ops hΓ 4 rfl ?_
      refine o_cut 4 [(6, B true), (14, B ((decide ((a.Hi : Int) > 0)) || (decide ((a.Lo : Int) > 4294967295))))] [.box 28 [B a.Six, U a.Hi, U a.Lo]] ?_ ?_
      · refine eo_gsplit rfl rfl (fun hb => ?_) (fun hb => ?_)
        · refine go_ops hΓ 5 rfl ?_
          exact ⟨⟨rfl, get_b rfl (or_t hb), trivial⟩, [], rfl, .inl rfl⟩
        · refine go_ops hΓ 5 rfl ?_
          exact ⟨⟨rfl, get_b rfl (or_f hb), trivial⟩, [], rfl, .inl rfl⟩
      · refine go_ops hΓ 2 rfl ?_
        exact ⟨⟨get_b rfl (and_t hb), trivial⟩, [], rfl, .inl rfl⟩
    · refine go_ops hΓ 10 rfl ?_
      exact ⟨⟨get_b rfl (and_f hb), trivial⟩, [], rfl, .inl rfl⟩
  · refine go_ops hΓ 2 rfl ?_
    refine j_cond rfl (fun hb => ?_) (fun hb => ?_)
    · have h1 := cT h hb
      refine go hΓ 7 rfl ?_
      obtain rfl := Option.some.inj h1
      exact fin_pure hΓ (.inr rfl) rfl rfl
    · have h2 := cF h hb
      refine go hΓ 8 rfl ?_
      obtain rfl := Option.some.inj h2
      exact fin_pure hΓ (.inr rfl) rfl rfl
end Go.Proofs.YtffmljbfffojlaaGreatDoor
